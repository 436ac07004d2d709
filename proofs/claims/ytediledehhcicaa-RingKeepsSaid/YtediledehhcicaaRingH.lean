/-
  ring.wheel.push where there is no room.
-/
import Derived.Test.YtediledehhcicaaRingF
namespace Go.Proofs.Ytediledehhcicaa.Ring
set_option linter.unusedSimpArgs false
set_option linter.unusedVariables false
open Go Go.RowKit Mem Turn

set_option maxRecDepth 100000 in
set_option maxHeartbeats 8000000 in
theorem push_turn (qr lo most f gone B : Nat) (v : Value) (R : List (Value × Bool)) (P : List LineC) (hv : Value) (wb : Bool) (cs : List CellC) (w : World) (h : Wheel w qr lo most f gone v R P) (hm : P.length = most) (hm2 : most ≤ 65536) (hf : f < most) (hc : CellsAt (fun b => B ≤ b) True w hv cs) (hB : ∀ g, v.ownBlock = some g → g < B) (hlo : lo ≤ B) :
    Calls Try.prog 14 #[.pointer (some ⟨qr, 0, none⟩), .agg #[hv, .bool wb]] w fun e w' => e = .returned (.bool true) ∧ Wheel w' qr lo most ((f + 1) % most) gone v (R.set f (hv, wb)) (P.set f (cs, wb)) ∧ Turn (fun j => j = qr ∨ v.ownBlock = some j) w w' := by
  have hmx : Try.prog.follows .mixedOrders = true := by kernel_rfl
  obtain ⟨ha, hcp, rfl, _⟩ := id hc
  obtain ⟨av, cv, rfl⟩ := Turn.own_slice h.2.1
  have T1 : Turn (fun _ => False) w (w.alloc (.cells #[.slice ha cs.length hcp, .bool wb] 28)) := Turn.alloc _ _ _
  have HW1 := Lib.hid (h.turn T1 id (fun _ _ _ => id))
  have HC1 := Lib.hid (hc.turn T1 (fun _ _ _ => id))
  have HT1 := Lib.hid T1
  obtain ⟨q1, q2⟩ := line_cells (heap_alloc_new w (.cells #[.slice ha cs.length hcp, .bool wb] 28))
  have hs1 : Hid ((w.alloc (.cells #[.slice ha cs.length hcp, .bool wb] 28)).heap.size = w.heap.size + 1) := Lib.hid (by simp)
  have HBB := Lib.hid hB
  have HRB := Lib.hid (fun g hg => h.2.1.lt g hg)
  have hqlo := h.2.2.2.1
  have hlow := h.2.2.2.2
  clear h hc T1 hB
  obtain ⟨n, hn⟩ : ∃ n, n = P.length := ⟨_, rfl⟩
  have HN := Lib.hid hn
  generalize hhl : cs.length = hl at *
  rw [← hn] at hm HRB HBB
  have hmn : Hid (n = most) := Lib.hid hm
  have hfn : f < n := by omega
  have hmm : most ≤ n := by omega
  have HHL := Lib.hid hhl
  have d1 : decide (n < most) = false := decide_eq_false (by omega)
  have d2 : decide ((n : Int) < (most : Int)) = false := decide_eq_false (by omega)
  have b1 : (f : Int) < (n : Int) := by omega
  have b0 : (0 : Int) ≤ (f : Int) := by omega
  obtain ⟨f1, hf1⟩ : ∃ f1, f1 = (f + 1) % most := ⟨_, rfl⟩
  have t1 : ((f : Int) + 1).tmod (most : Int) = (f1 : Int) := by rw [Int.tmod_eq_emod_of_nonneg (by omega), hf1]; push_cast; rfl
  have t2 : ((f : Int) + 1) % (most : Int) = (f1 : Int) := by rw [hf1]; push_cast; rfl
  have hnz : ¬ most = 0 := by omega
  have nz : ((most : Int) == 0) = false := by simp; omega
  have nz1 : (1 : Int) ≤ (most : Int) := by omega
  have u1 : IntKind.i64.wrap ((f : Int) + 1) = (f : Int) + 1 := IntWalk.i64_in _ (by omega)
  have hf165 : f1 ≤ 65536 := by rw [hf1]; have := Nat.mod_lt (f + 1) (show 0 < most by omega); omega
  rw [← hf1]
  clear hn hhl hm hf1
  go_enter Try.func14, Try.ntmps14
  go_upto_region 1 with fail
  generalize (w.alloc (.cells #[.slice ha hl hcp, .bool wb] 28)) = w1 at *
  obtain ⟨c0, c1, c2, _, hfz⟩ := HW1.out.c0
  rw [← HN.out] at c2
  have HFZ := Lib.hid hfz
  clear hfz
  go_quiet (fail)
  go_upto_region 4 with fail
  have HW2 := Lib.hid (HW1.out.turn (Turn.drewN (fun _ => False) w1 nq) id (fun _ _ _ => id))
  have HC2 := Lib.hid (HC1.out.turn (Turn.drewN (fun _ => False) w1 nq) (fun _ _ _ => id))
  have HT2 := Lib.hid (HT1.out.trans (Turn.drewN (fun _ => False) w1 nq))
  have c0 : (w1.drewN nq).cell? ⟨qr, 0, none⟩ = some (.int .i64 (most : Int)) := c0
  have c1 : (w1.drewN nq).cell? ⟨qr, 1, none⟩ = some (.int .i64 (f : Int)) := c1
  have c2 : (w1.drewN nq).cell? ⟨qr, 2, none⟩ = some (.slice av n cv) := c2
  have q1 : (w1.drewN nq).cell? ⟨w.heap.size, 0, none⟩ = some (.slice ha hl hcp) := q1
  have q2 : (w1.drewN nq).cell? ⟨w.heap.size, 1, none⟩ = some (.bool wb) := q2
  have hs2 : Hid ((w1.drewN nq).heap.size = w.heap.size + 1) := hs1
  clear HW1 HC1 HT1 hs1
  generalize (w1.drewN nq) = w2 at *
  have hown := HW2.out.2.1
  rw [← HN.out] at hown
  obtain ⟨a', c', e', hnc, hform⟩ := own_form hown
  injection e' with e1 _ e3
  subst e1 e3
  obtain ⟨g, rfl, hgo, _, _, hgf, hcell⟩ := hform.resolve_left (by omega)
  have HGB : Hid (lo ≤ g ∧ g < w.heap.size ∧ g < B) := Lib.hid ⟨(HRB.out g rfl).1, (HRB.out g rfl).2, HBB.out g rfl⟩
  obtain ⟨r0, hr0⟩ : ∃ r0, R[f]? = some r0 := ⟨_, List.getElem?_eq_getElem (by rw [HW2.out.2.2.1.1, ← HN.out]; exact hfn)⟩
  obtain ⟨g1, g2⟩ := flatL_get hr0
  have x1 := hcell _ _ g1
  have x2 := hcell _ _ g2
  have y1 := hgf (f * 2)
  have y2 := hgf (f * 2 + 1)
  have HO := Lib.hid hown
  clear hown hform hgf hcell hr0 g1 g2 hgo
  refine region_begin3 (fun w' => w'.cell? ⟨qr, 1, none⟩ = some (.int .i64 (f : Int)) ∧ w'.cell? ⟨qr, 2, none⟩ = some (.slice (some ⟨g, 0, none⟩) n cv) ∧ w'.cell? ⟨w.heap.size, 0, none⟩ = some (.slice ha hl hcp) ∧ w'.cell? ⟨w.heap.size, 1, none⟩ = some (.bool wb)) (fun j => j == 10) 11 rfl hmx (by intro _ _ d _ _ h; cases d <;> exact h) fun hQP => ?_
  have hS : w2.drew.cell? ⟨qr, 1, none⟩ = some (.int .i64 (f : Int)) ∧ w2.drew.cell? ⟨qr, 2, none⟩ = some (.slice (some ⟨g, 0, none⟩) n cv) ∧ w2.drew.cell? ⟨w.heap.size, 0, none⟩ = some (.slice ha hl hcp) ∧ w2.drew.cell? ⟨w.heap.size, 1, none⟩ = some (.bool wb) := ⟨c1, c2, q1, q2⟩
  refine take_first2 0 (some 25) rfl rfl (by kernel_rfl) (by kernel_rfl) (by kernel_rfl) (by kernel_rfl) hQP hS (.inl ⟨by rfl, fun w' hw' => by obtain ⟨e0, e1, e2, e3⟩ := hw'; go_simp; try with_reducible rfl⟩) ?_
  refine take_first2 1 (some 26) rfl rfl (by kernel_rfl) (by kernel_rfl) (by kernel_rfl) (by kernel_rfl) hQP hS (.inl ⟨by rfl, fun w' hw' => by obtain ⟨e0, e1, e2, e3⟩ := hw'; go_simp; try with_reducible rfl⟩) ?_
  refine take_first2 2 (some 27) rfl rfl (by kernel_rfl) (by kernel_rfl) (by kernel_rfl) (by kernel_rfl) hQP hS (.inl ⟨by rfl, fun w' hw' => by obtain ⟨e0, e1, e2, e3⟩ := hw'; go_simp; try with_reducible rfl⟩) ?_
  refine take_first2 3 (some 28) rfl rfl (by kernel_rfl) (by kernel_rfl) (by kernel_rfl) (by kernel_rfl) hQP hS (.inl ⟨by rfl, fun w' hw' => by obtain ⟨e0, e1, e2, e3⟩ := hw'; go_simp; try with_reducible rfl⟩) ?_
  refine take_first2 4 (some 29) rfl rfl (by kernel_rfl) (by kernel_rfl) (by kernel_rfl) (by kernel_rfl) hQP hS (.inl ⟨by rfl, fun w' hw' => by obtain ⟨e0, e1, e2, e3⟩ := hw'; go_simp; try with_reducible rfl⟩) ?_
  refine take_first2 5 (some 30) rfl rfl (by kernel_rfl) (by kernel_rfl) (by kernel_rfl) (by kernel_rfl) hQP hS (.inl ⟨by rfl, fun w' hw' => by obtain ⟨e0, e1, e2, e3⟩ := hw'; go_simp; try with_reducible rfl⟩) ?_
  refine take_first2 6 (some 31) rfl rfl (by kernel_rfl) (by kernel_rfl) (by kernel_rfl) (by kernel_rfl) hQP hS (.inl ⟨by rfl, fun w' hw' => by obtain ⟨e0, e1, e2, e3⟩ := hw'; go_simp; try with_reducible rfl⟩) ?_
  refine take_first2 7 (some 32) rfl rfl (by kernel_rfl) (by kernel_rfl) (by kernel_rfl) (by kernel_rfl) hQP hS (.inl ⟨by rfl, fun w' hw' => by obtain ⟨e0, e1, e2, e3⟩ := hw'; go_simp; try with_reducible rfl⟩) ?_
  refine take_first2 8 (some 33) rfl rfl (by kernel_rfl) (by kernel_rfl) (by kernel_rfl) (by kernel_rfl) hQP hS (.inl ⟨by rfl, fun w' hw' => by obtain ⟨e0, e1, e2, e3⟩ := hw'; go_simp; try with_reducible rfl⟩) ?_
  refine take_first2 9 (some 34) rfl rfl (by kernel_rfl) (by kernel_rfl) (by kernel_rfl) (by kernel_rfl) hQP hS (.inl ⟨by rfl, fun w' hw' => by obtain ⟨e0, e1, e2, e3⟩ := hw'; go_simp; try with_reducible rfl⟩) ?_
  have y1 : w2.drew.frozen? ⟨g, f * 2, none⟩ = false := y1
  have y2 : w2.drew.frozen? ⟨g, f * 2 + 1, none⟩ = false := y2
  have x1 : w2.drew.cell? ⟨g, f * 2, none⟩ = some r0.1 := x1
  have x2 : w2.drew.cell? ⟨g, f * 2 + 1, none⟩ = some (.bool r0.2) := x2
  have HW5 : Hid (Wheel ((w2.setCell ⟨g, f * 2, none⟩ (.slice ha hl hcp)).setCell ⟨g, f * 2 + 1, none⟩ (.bool wb)).drew qr lo most f gone (.slice (some ⟨g, 0, none⟩) n cv) (R.set f (.slice ha hl hcp, wb)) (P.set f (cs, wb)) ∧ Turn (fun j => j = g) w2 ((w2.setCell ⟨g, f * 2, none⟩ (.slice ha hl hcp)).setCell ⟨g, f * 2 + 1, none⟩ (.bool wb)).drew) := Lib.hid (by
    have T : Turn (fun j => j = g) w2 ((w2.setCell ⟨g, f * 2, none⟩ (.slice ha hl hcp)).setCell ⟨g, f * 2 + 1, none⟩ (.bool wb)).drew := ((Turn.setCell (T := fun j => j = g) (p := ⟨g, f * 2, none⟩) w2 (.slice ha hl hcp) rfl).trans (Turn.setCell (T := fun j => j = g) (p := ⟨g, f * 2 + 1, none⟩) _ (.bool wb) rfl)).trans (Turn.drew _ _)
    have hW2 := HW2.out
    rw [← HN.out] at hW2
    obtain ⟨e1, e2, e3, e4, e5⟩ := hW2
    have hRl : f < R.length := by rw [e3.1, ← HN.out]; exact hfn
    have hgb := HGB.out
    refine ⟨⟨T.heap e1 (fun e => by omega), ?_, ⟨by rw [List.length_set, List.length_set]; exact e3.1, fun j r x hr hx => ?_⟩, e4, Nat.le_trans e5 T.size⟩, T⟩
    · have s1 := (HO.out.stored (f * 2) (.slice ha hl hcp)).1
      have s2 := (s1.stored (f * 2 + 1) (.bool wb)).1
      rw [flatL_set (.slice ha hl hcp, wb) hRl] at s2
      rw [List.length_set, ← HN.out]
      exact s2
    · by_cases hjf : f = j
      · subst hjf
        rw [List.getElem?_set_self hRl] at hr
        rw [List.getElem?_set_self (by rw [← HN.out]; exact hfn)] at hx
        injection hr with hr
        injection hx with hx
        subst hr hx
        exact ⟨rfl, (HC2.out.turn T (fun b hb _ e => by omega)).mono (fun b hb _ => ⟨by omega, fun e => by have e9 : some g = some b := e; injection e9 with e9; omega⟩)⟩
      · rw [List.getElem?_set_ne hjf] at hr hx
        exact ⟨(e3.2 j r x hr hx).1, (e3.2 j r x hr hx).2.turn T (fun b hb _ e => hb.2 (by rw [e]; rfl))⟩)
  refine take_one (i := 10) (by kernel_rfl) rfl rfl fun K hK => ?_
  go_wp2_with fail
  refine hK _ _ (.inl rfl) ?_
  clear hK hS x1 x2 y1 y2 q1 q2 c1 c2 c0 HW2 HC2 HO
  refine take_done (by kernel_rfl) ?_ _
  generalize ((w2.setCell ⟨g, f * 2, none⟩ (.slice ha hl hcp)).setCell ⟨g, f * 2 + 1, none⟩ (.bool wb)).drew = w5 at *
  obtain ⟨c0, c1, _, _, hfz⟩ := HW5.out.1.c0
  have fz1 : w5.drew.frozen? ⟨qr, 1, none⟩ = false := hfz 1
  have HT5 := Lib.hid (HT2.out.mono (fun _ _ h => h.elim) |>.trans HW5.out.2 : Turn (fun j => j = g) w w5)
  clear hfz HT2
  go_upto_region 5 with fail
  refine region_begin3 (fun w' => w'.cell? ⟨qr, 0, none⟩ = some (.int .i64 (most : Int)) ∧ w'.cell? ⟨qr, 1, none⟩ = some (.int .i64 (f : Int))) (fun j => j == 13) 14 rfl hmx (by intro _ _ d _ _ h; cases d <;> exact h) fun hQP => ?_
  have hS : w5.drew.cell? ⟨qr, 0, none⟩ = some (.int .i64 (most : Int)) ∧ w5.drew.cell? ⟨qr, 1, none⟩ = some (.int .i64 (f : Int)) := ⟨c0, c1⟩
  have c1' : w5.drew.cell? ⟨qr, 1, none⟩ = some (.int .i64 (f : Int)) := c1
  refine take_first2 0 (some 35) rfl rfl (by kernel_rfl) (by kernel_rfl) (by kernel_rfl) (by kernel_rfl) hQP hS (.inl ⟨by rfl, fun w' hw' => by obtain ⟨e0, e1⟩ := hw'; go_simp; try with_reducible rfl⟩) ?_
  refine take_first2 1 (some 36) rfl rfl (by kernel_rfl) (by kernel_rfl) (by kernel_rfl) (by kernel_rfl) hQP hS (.inl ⟨by rfl, fun w' hw' => by obtain ⟨e0, e1⟩ := hw'; go_simp; try with_reducible rfl⟩) ?_
  refine take_first2 2 (some 37) rfl rfl (by kernel_rfl) (by kernel_rfl) (by kernel_rfl) (by kernel_rfl) hQP hS (.inl ⟨by rfl, fun w' hw' => by obtain ⟨e0, e1⟩ := hw'; go_simp; try with_reducible rfl⟩) ?_
  refine take_first2 3 (some 38) rfl rfl (by kernel_rfl) (by kernel_rfl) (by kernel_rfl) (by kernel_rfl) hQP hS (.inl ⟨by rfl, fun w' hw' => by obtain ⟨e0, e1⟩ := hw'; go_simp; try with_reducible rfl⟩) ?_
  refine take_first2 4 (some 39) rfl rfl (by kernel_rfl) (by kernel_rfl) (by kernel_rfl) (by kernel_rfl) hQP hS (.inl ⟨by rfl, fun w' hw' => by obtain ⟨e0, e1⟩ := hw'; go_simp; try with_reducible rfl⟩) ?_
  refine take_first2 5 (some 40) rfl rfl (by kernel_rfl) (by kernel_rfl) (by kernel_rfl) (by kernel_rfl) hQP hS (.inl ⟨by rfl, fun w' hw' => by obtain ⟨e0, e1⟩ := hw'; go_simp; try with_reducible rfl⟩) ?_
  refine take_first2 6 (some 41) rfl rfl (by kernel_rfl) (by kernel_rfl) (by kernel_rfl) (by kernel_rfl) hQP hS (.inl ⟨by rfl, fun w' hw' => by obtain ⟨e0, e1⟩ := hw'; go_simp; try with_reducible rfl⟩) ?_
  refine take_first2 7 (some 42) rfl rfl (by kernel_rfl) (by kernel_rfl) (by kernel_rfl) (by kernel_rfl) hQP hS (.inl ⟨by rfl, fun w' hw' => by obtain ⟨e0, e1⟩ := hw'; go_simp; try with_reducible rfl⟩) ?_
  refine take_first2 8 (some 43) rfl rfl (by kernel_rfl) (by kernel_rfl) (by kernel_rfl) (by kernel_rfl) hQP hS (.inl ⟨by rfl, fun w' hw' => by obtain ⟨e0, e1⟩ := hw'; go_simp; try with_reducible rfl⟩) ?_
  refine take_first2 9 (some 44) rfl rfl (by kernel_rfl) (by kernel_rfl) (by kernel_rfl) (by kernel_rfl) hQP hS (.inl ⟨by rfl, fun w' hw' => by obtain ⟨e0, e1⟩ := hw'; go_simp; try with_reducible rfl⟩) ?_
  refine take_first2 10 (some 45) rfl rfl (by kernel_rfl) (by kernel_rfl) (by kernel_rfl) (by kernel_rfl) hQP hS (.inl ⟨by rfl, fun w' hw' => by obtain ⟨e0, e1⟩ := hw'; go_simp; try with_reducible rfl⟩) ?_
  refine take_one (i := 11) (by kernel_rfl) rfl rfl fun K hK => ?_
  go_wp2_with fail
  refine hK _ _ (.inr hS) ?_
  clear hK
  refine take_one (i := 12) (by kernel_rfl) rfl rfl fun K hK => ?_
  go_wp2_with fail
  refine hK _ _ (.inr hS) ?_
  clear hK
  have HF : Hid (Wheel (w5.setCell ⟨qr, 1, none⟩ (.int .i64 (f1 : Int))).drew qr lo most f1 gone (.slice (some ⟨g, 0, none⟩) n cv) (R.set f (.slice ha hl hcp, wb)) (P.set f (cs, wb)) ∧ Turn (fun j => j = qr ∨ (Value.slice (some ⟨g, 0, none⟩) n cv).ownBlock = some j) w (w5.setCell ⟨qr, 1, none⟩ (.int .i64 (f1 : Int))).drew) := Lib.hid (by
    have T : Turn (fun j => j = qr) w5 (w5.setCell ⟨qr, 1, none⟩ (.int .i64 (f1 : Int))).drew := (Turn.setCell (T := fun j => j = qr) (p := ⟨qr, 1, none⟩) w5 (.int .i64 (f1 : Int)) rfl).trans (Turn.drew _ _)
    obtain ⟨e1, e2, e3, e4, e5⟩ := HW5.out.1
    have hgb := HGB.out
    exact ⟨⟨(heap_set4 e1 _).2.2, T.kept e2 (fun b hb e => by have := (e2.lt b hb).1; omega), e3.turn T (fun b hb _ e => by have := hb.1; omega), e4, Nat.le_trans e5 T.size⟩, (HT5.out.mono (fun j _ e => .inr (by rw [e]; rfl))).trans (T.mono (fun _ _ e => .inl e))⟩)
  refine take_one (i := 13) (by kernel_rfl) rfl rfl fun K hK => ?_
  go_wp2_with fail
  refine hK _ _ (.inl rfl) ?_
  clear hK hS c1' c0 c1
  refine take_done (by kernel_rfl) ?_ _
  go_wp2_with fail
  go_ret
  exact ⟨rfl, by rw [← HN.out]; exact HF.out.1, by rw [← HN.out]; exact HF.out.2⟩
end Go.Proofs.Ytediledehhcicaa.Ring

/-
  ring.wheel.push: there is room; there is none.
-/
import Derived.Test.YtediledehhcicaaRingE
import Derived.Deep.QuietTactic
import Derived.BigQuiet
namespace Go.Proofs.Ytediledehhcicaa.Ring
set_option linter.unusedSimpArgs false
set_option linter.unusedVariables false
open Go Go.RowKit Mem Turn

theorem line_cells {w : World} {H : Nat} {a : Option Addr} {n c : Nat} {b : Bool} (h : w.heap[H]? = some (.cells #[.slice a n c, .bool b] 28 (0, 0))) : w.cell? ⟨H, 0, none⟩ = some (.slice a n c) ∧ w.cell? ⟨H, 1, none⟩ = some (.bool b) := by
  exact ⟨by simp [World.cell?, h], by simp [World.cell?, h]⟩

set_option maxRecDepth 100000 in
set_option maxHeartbeats 8000000 in
theorem push_new (qr lo most f gone B : Nat) (v : Value) (R : List (Value × Bool)) (P : List LineC) (hv : Value) (wb : Bool) (cs : List CellC) (w : World) (h : Wheel w qr lo most f gone v R P) (hm : P.length < most) (hm2 : most ≤ 65536) (hc : CellsAt (fun b => B ≤ b) True w hv cs) (hB : ∀ g, v.ownBlock = some g → g < B) (hlo : lo ≤ B) :
    Calls Try.prog 14 #[.pointer (some ⟨qr, 0, none⟩), .agg #[hv, .bool wb]] w fun e w' => e = .returned (.bool false) ∧ (∃ v', Wheel w' qr lo most f gone v' (R ++ [(hv, wb)]) (P ++ [(cs, wb)]) ∧ (v'.ownBlock = v.ownBlock ∨ ∃ g, v'.ownBlock = some g ∧ w.heap.size ≤ g)) ∧ Turn (fun j => j = qr ∨ v.ownBlock = some j) w w' := by
  obtain ⟨i0, hi, hz0, hz1, hz2⟩ := info_parts info_line
  have hmx : Try.prog.follows .mixedOrders = true := by kernel_rfl
  obtain ⟨ha, hcp, rfl, _⟩ := id hc
  obtain ⟨av, cv, rfl⟩ := Turn.own_slice h.2.1
  have T1 : Turn (fun _ => False) w (w.alloc (.cells #[.slice ha cs.length hcp, .bool wb] 28)) := Turn.alloc _ _ _
  have HW1 := Lib.hid (h.turn T1 id (fun _ _ _ => id))
  have HC1 := Lib.hid (hc.turn T1 (fun _ _ _ => id))
  have HT1 := Lib.hid T1
  obtain ⟨q1, q2⟩ := line_cells (heap_alloc_new w (.cells #[.slice ha cs.length hcp, .bool wb] 28))
  have hs1 : Hid ((w.alloc (.cells #[.slice ha cs.length hcp, .bool wb] 28)).heap.size = w.heap.size + 1) := Lib.hid (by simp)
  have HBB := Lib.hid hB
  have HRB := Lib.hid (fun g hg => h.2.1.lt g hg)
  have hqlo := h.2.2.2.1
  have hlow := h.2.2.2.2
  clear h hc T1 hB
  obtain ⟨n, hn⟩ : ∃ n, n = P.length := ⟨_, rfl⟩
  have HN := Lib.hid hn
  generalize hhl : cs.length = hl at *
  rw [← hn] at hm HRB HBB
  have HHL := Lib.hid hhl
  have d1 : decide (n < most) = true := decide_eq_true hm
  have d2 : decide ((n : Int) < (most : Int)) = true := decide_eq_true (by omega)
  clear hn hhl
  go_enter Try.func14, Try.ntmps14
  go_upto_region 1 with fail
  generalize (w.alloc (.cells #[.slice ha hl hcp, .bool wb] 28)) = w1 at *
  obtain ⟨c0, _, c2, _, hfz⟩ := HW1.out.c0
  rw [← HN.out] at c2
  have HFZ := Lib.hid hfz
  clear hfz
  go_quiet (fail)
  go_upto_region 2 with fail
  have HW2 := Lib.hid (HW1.out.turn (Turn.drewN (fun _ => False) w1 nq) id (fun _ _ _ => id))
  have HC2 := Lib.hid (HC1.out.turn (Turn.drewN (fun _ => False) w1 nq) (fun _ _ _ => id))
  have HT2 := Lib.hid (HT1.out.trans (Turn.drewN (fun _ => False) w1 nq))
  have c2 : (w1.drewN nq).cell? ⟨qr, 2, none⟩ = some (.slice av n cv) := c2
  have q1 : (w1.drewN nq).cell? ⟨w.heap.size, 0, none⟩ = some (.slice ha hl hcp) := q1
  have q2 : (w1.drewN nq).cell? ⟨w.heap.size, 1, none⟩ = some (.bool wb) := q2
  have hs2 : Hid ((w1.drewN nq).heap.size = w.heap.size + 1) := hs1
  clear HW1 HC1 HT1 hs1
  generalize (w1.drewN nq) = w2 at *
  refine region_begin3 (fun w' => w'.cell? ⟨qr, 2, none⟩ = some (.slice av n cv) ∧ w'.cell? ⟨w.heap.size, 0, none⟩ = some (.slice ha hl hcp) ∧ w'.cell? ⟨w.heap.size, 1, none⟩ = some (.bool wb)) (fun j => j == 10) 11 rfl hmx (by intro _ _ d _ _ h; cases d <;> exact h) fun hQP => ?_
  have hS : w2.drew.cell? ⟨qr, 2, none⟩ = some (.slice av n cv) ∧ w2.drew.cell? ⟨w.heap.size, 0, none⟩ = some (.slice ha hl hcp) ∧ w2.drew.cell? ⟨w.heap.size, 1, none⟩ = some (.bool wb) := ⟨c2, q1, q2⟩
  refine take_first2 0 (some 15) rfl rfl (by kernel_rfl) (by kernel_rfl) (by kernel_rfl) (by kernel_rfl) hQP hS (.inl ⟨by rfl, fun w' hw' => by obtain ⟨e0, e1, e2⟩ := hw'; go_simp; try with_reducible rfl⟩) ?_
  refine take_first2 1 (some 16) rfl rfl (by kernel_rfl) (by kernel_rfl) (by kernel_rfl) (by kernel_rfl) hQP hS (.inl ⟨by rfl, fun w' hw' => by obtain ⟨e0, e1, e2⟩ := hw'; go_simp; try with_reducible rfl⟩) ?_
  refine take_first2 2 (some 17) rfl rfl (by kernel_rfl) (by kernel_rfl) (by kernel_rfl) (by kernel_rfl) hQP hS (.inl ⟨by rfl, fun w' hw' => by obtain ⟨e0, e1, e2⟩ := hw'; go_simp; try with_reducible rfl⟩) ?_
  refine take_first2 3 (some 18) rfl rfl (by kernel_rfl) (by kernel_rfl) (by kernel_rfl) (by kernel_rfl) hQP hS (.inl ⟨by rfl, fun w' hw' => by obtain ⟨e0, e1, e2⟩ := hw'; go_simp; try with_reducible rfl⟩) ?_
  refine take_first2 4 (some 19) rfl rfl (by kernel_rfl) (by kernel_rfl) (by kernel_rfl) (by kernel_rfl) hQP hS (.inl ⟨by rfl, fun w' hw' => by obtain ⟨e0, e1, e2⟩ := hw'; go_simp; try with_reducible rfl⟩) ?_
  refine take_first2 5 (some 20) rfl rfl (by kernel_rfl) (by kernel_rfl) (by kernel_rfl) (by kernel_rfl) hQP hS (.inl ⟨by rfl, fun w' hw' => by obtain ⟨e0, e1, e2⟩ := hw'; go_simp; try with_reducible rfl⟩) ?_
  refine take_one (i := 6) (by kernel_rfl) rfl rfl fun K hK => ?_
  go_wp2_with fail
  have T5 : Turn (fun _ => False) w2 (w2.alloc (.cells #[.slice ha hl hcp, .bool wb] 28)).drew := (Turn.alloc _ w2 _).trans (Turn.drew _ _)
  have hnews : ∀ j u, [Value.slice ha hl hcp, .bool wb][j]? = some u → (w2.alloc (.cells #[.slice ha hl hcp, .bool wb] 28)).drew.cell? ((⟨w2.heap.size, 0, none⟩ : Addr).add j) = some u := cell_new2 w2 _ _ _
  have hS : (w2.alloc (.cells #[.slice ha hl hcp, .bool wb] 28)).drew.cell? ⟨qr, 2, none⟩ = some (.slice av n cv) ∧ (w2.alloc (.cells #[.slice ha hl hcp, .bool wb] 28)).drew.cell? ⟨w.heap.size, 0, none⟩ = some (.slice ha hl hcp) ∧ (w2.alloc (.cells #[.slice ha hl hcp, .bool wb] 28)).drew.cell? ⟨w.heap.size, 1, none⟩ = some (.bool wb) := ⟨T5.cell c2 id, T5.cell q1 id, T5.cell q2 id⟩
  refine hK _ _ (.inr hS) ?_
  clear hK c2 q1 q2
  have hs5 : (w2.alloc (.cells #[.slice ha hl hcp, .bool wb] 28)).drew.heap.size = w2.heap.size + 1 := World.size_alloc w2 _
  have hs2' := hs2.out
  generalize (w2.alloc (.cells #[.slice ha hl hcp, .bool wb] 28)).drew = w5 at *
  have HW5 := Lib.hid (HW2.out.turn T5 id (fun _ _ _ => id))
  have HC5 := Lib.hid (HC2.out.turn T5 (fun _ _ _ => id))
  have HT5 := Lib.hid (HT2.out.trans T5)
  clear T5 HW2 HC2 HT2
  refine take_append_at 7 22 (by kernel_rfl) rfl rfl rfl (.tmp 19) (.tmp 21) 22 rfl lo 28 i0 _ 2 32 Try.underlying22 hi hz0 hz1 hz2 rfl (by decide) (.slice av n cv) n (flatL R) (by rfl) (by rw [HN.out]; exact HW5.out.2.1) ⟨w2.heap.size, 0, none⟩ 1 1 [.slice ha hl hcp, .bool wb] (by rfl) rfl hnews (by intro u hu; simp at hu; rcases hu with rfl | rfl <;> rfl) (by unfold maxLen; omega) (by omega) (by omega) ?_
  intro v9 w9 hown9 hgrow9 hat9
  obtain ⟨a9, cap9, rfl⟩ := Turn.own_slice hown9
  have T9 : Turn (fun j => (Value.slice av n cv).ownBlock = some j) w5 w9 := Turn.of_grown hgrow9 (fun g e => e)
  have hS9 : w9.cell? ⟨qr, 2, none⟩ = some (.slice av n cv) ∧ w9.cell? ⟨w.heap.size, 0, none⟩ = some (.slice ha hl hcp) ∧ w9.cell? ⟨w.heap.size, 1, none⟩ = some (.bool wb) := ⟨T9.cell hS.1 (fun e => by have := (HRB.out _ e).1; simp only at this; omega), T9.cell hS.2.1 (fun e => by have := (HRB.out _ e).2; simp only at this; omega), T9.cell hS.2.2 (fun e => by have := (HRB.out _ e).2; simp only at this; omega)⟩
  refine ⟨.inr hS9, ?_⟩
  have HAT : Hid ((Value.slice a9 (n + 1) cap9).ownBlock = (Value.slice av n cv).ownBlock ∨ ∃ g, (Value.slice a9 (n + 1) cap9).ownBlock = some g ∧ w.heap.size ≤ g) := Lib.hid (hat9.imp id fun e => ⟨_, e, HT5.out.size⟩)
  have HR : Hid (Wheel (w9.setCell ⟨qr, 2, none⟩ (.slice a9 (n + 1) cap9)) qr lo most f gone (.slice a9 (n + 1) cap9) (R ++ [(.slice ha hl hcp, wb)]) (P ++ [(cs, wb)]) ∧ Turn (fun j => j = qr ∨ (Value.slice av n cv).ownBlock = some j) w (w9.setCell ⟨qr, 2, none⟩ (.slice a9 (n + 1) cap9))) := Lib.hid (by
    have T10 : Turn (fun j => j = qr) w9 (w9.setCell ⟨qr, 2, none⟩ (.slice a9 (n + 1) cap9)) := Turn.setCell _ _ rfl
    obtain ⟨e1, e2, e3, e4, e5⟩ := HW5.out
    have hq9 := T9.heap e1 (fun e => by have := (HRB.out _ e).1; omega)
    have TA : Turn (fun j => (Value.slice av n cv).ownBlock = some j ∨ j = qr) w5 (w9.setCell ⟨qr, 2, none⟩ (.slice a9 (n + 1) cap9)) := (T9.mono (fun _ _ h => .inl h)).trans (T10.mono (fun _ _ h => .inr h))
    have hk : (P ++ [(cs, wb)]).length = n + 1 := by rw [List.length_append, ← HN.out]; rfl
    have hdis : ∀ b, lo ≤ b → (Value.slice av n cv).ownBlock ≠ some b → b < w5.heap.size → (Value.slice a9 (n + 1) cap9).ownBlock ≠ some b := fun b h1 h2 h3 e => by
      rcases hat9 with h9 | h9
      · rw [h9] at e; exact h2 e
      · rw [h9] at e; injection e with e; omega
    rw [← HN.out] at e3
    refine ⟨⟨(heap_set4 hq9 _).2.1, ?_, ?_, e4, Nat.le_trans e5 TA.size⟩, (HT5.out.mono (fun _ _ h => h.elim)).trans (TA.mono (fun j _ e => e.elim .inr .inl))⟩
    · rw [hk, flatL_app]
      exact T10.kept hown9 (fun g hg e => by have := (hown9.lt g hg).1; omega)
    · have hP2 : (P ++ [(cs, wb)]).take n = P := by rw [HN.out, List.take_left']; rfl
      have hP3 : (P ++ [(cs, wb)]).take (n + 1) = P ++ [(cs, wb)] := List.take_of_length_le (by omega)
      have g1 : CellsOf (fun b => lo ≤ b ∧ (Value.slice a9 (n + 1) cap9).ownBlock ≠ some b) True (w9.setCell ⟨qr, 2, none⟩ (.slice a9 (n + 1) cap9)) R ((P ++ [(cs, wb)]).take n) := by
        rw [hP2]
        exact lines_grow e3 TA (fun b hb _ e => e.elim (fun e => hb.2 e) (fun e => by have := hb.1; omega)) (fun b hb hlt => ⟨hb.1, hdis b hb.1 hb.2 hlt⟩)
      have g2 := lines_snoc g1 (x := (cs, wb)) (cv := .slice ha hl hcp) (by rw [HN.out, List.getElem?_append_right (Nat.le_refl _), Nat.sub_self]; rfl) (by
        have h9 : CellsAt (fun b => B ≤ b ∧ b < w5.heap.size) True w5 (.slice ha hl hcp) cs := HC5.out.mono (fun b hb hlt => ⟨hb, hlt⟩)
        refine (h9.turn TA (fun b hb _ e => ?_)).mono (fun b hb _ => ⟨by omega, hdis b (by omega) (fun e => ?_) hb.2⟩)
        · rcases e with e | e
          · have := HBB.out _ e; omega
          · omega
        · have := HBB.out _ e; omega)
      rw [hP3] at g2
      exact g2)
  have c9 := hS9.1
  have f9 : w9.frozen? ⟨qr, 2, none⟩ = false := by
    have := T9.heap HW5.out.1 (fun e => by have := (HRB.out _ e).1; omega)
    simp [World.frozen?, this]
  have HS9 := Lib.hid hS9
  clear hS hS9 T9 hown9 hgrow9 hat9 HW5 HC5 HT5
  refine take_one (i := 8) (by kernel_rfl) rfl rfl fun K hK => ?_
  go_wp2_with fail
  refine hK _ _ (.inr HS9.out) ?_
  clear hK
  refine take_one (i := 9) (by kernel_rfl) rfl rfl fun K hK => ?_
  go_wp2_with fail
  refine hK _ _ (.inr HS9.out) ?_
  clear hK
  refine take_one (i := 10) (by kernel_rfl) rfl rfl fun K hK => ?_
  go_wp2_with fail
  refine hK _ _ (.inl rfl) ?_
  clear hK c9 f9
  refine take_done (by kernel_rfl) ?_ _
  go_wp2_with fail
  go_ret
  exact ⟨rfl, ⟨_, HR.out.1, by rw [← HN.out]; exact HAT.out⟩, by rw [← HN.out]; exact HR.out.2⟩
end Go.Proofs.Ytediledehhcicaa.Ring

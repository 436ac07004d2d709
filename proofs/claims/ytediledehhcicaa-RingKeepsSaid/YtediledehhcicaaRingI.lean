/-
  Ring.Push, Ring.Clear.
-/
import Derived.Test.YtediledehhcicaaRingH
namespace Go.Proofs.Ytediledehhcicaa.Ring
set_option linter.unusedSimpArgs false
set_option linter.unusedVariables false
open Go Go.RowKit Mem Turn

/-- the block of the ring's list -/
def RB (w : World) (qr : Nat) (E : Nat → Prop) : Prop := ∀ x0 x1 v x3, w.heap[qr]? = some (.cells #[x0, x1, v, x3] 46 (0, 0)) → ∀ g, v.ownBlock = some g → E g
theorem RB.mono {w : World} {qr : Nat} {E E' : Nat → Prop} (h : RB w qr E) (hE : ∀ g, E g → E' g) : RB w qr E' := fun x0 x1 v x3 hw g hg => hE g (h x0 x1 v x3 hw g hg)
theorem RB.and {w : World} {qr : Nat} {E E' : Nat → Prop} (h : RB w qr E) (k : RB w qr E') : RB w qr (fun g => E g ∧ E' g) := fun x0 x1 v x3 hw g hg => ⟨h x0 x1 v x3 hw g hg, k x0 x1 v x3 hw g hg⟩
theorem RB.turn {w w' : World} {qr : Nat} {E T : Nat → Prop} (h : RB w qr E) (ht : Turn T w w') (hT : ¬ T qr) (hq : qr < w.heap.size) : RB w' qr E := fun x0 x1 v x3 hw g hg => h x0 x1 v x3 (by rw [← ht.block qr hq hT]; exact hw) g hg
theorem RB.of {w : World} {qr lo most f gone : Nat} {v : Value} {R : List (Value × Bool)} {P : List LineC} (h : Wheel w qr lo most f gone v R P) {E : Nat → Prop} (hE : ∀ g, v.ownBlock = some g → E g) : RB w qr E := fun x0 x1 v' x3 hw g hg => by
  rw [h.1] at hw
  injection hw with hw
  injection hw with hw _
  have e := congrArg (fun a : Array Value => a[2]?) hw
  simp at e
  rw [← e] at hg
  exact hE g hg
theorem RB.get {w : World} {qr lo most f gone : Nat} {v : Value} {R : List (Value × Bool)} {P : List LineC} {E : Nat → Prop} (hb : RB w qr E) (h : Wheel w qr lo most f gone v R P) : ∀ g, v.ownBlock = some g → E g := hb _ _ _ _ h.1
theorem RB.lt {w : World} {qr lo most gone : Nat} {ls : List LineC} (h : RingIs w qr lo most gone ls) : RB w qr (fun g => g < w.heap.size) := by
  obtain ⟨f, v, R, P, hw, _⟩ := h
  exact RB.of hw (fun g hg => (hw.2.1.lt g hg).2)

/-- one line is pushed: what the wheel answers, and what is there then -/
theorem push1_any (qr lo most gone B : Nat) (E : Nat → Prop) (ls : List LineC) (hv : Value) (wb : Bool) (cs : List CellC) (w : World) (h : RingIs w qr lo most gone ls) (hc : CellsAt (fun b => B ≤ b) True w hv cs) (hlo : lo ≤ B) (hE : RB w qr E) (hB : RB w qr (fun g => g < B)) :
    Calls Try.prog 14 #[.pointer (some ⟨qr, 0, none⟩), .agg #[hv, .bool wb]] w fun e w' => e = .returned (.bool (decide (ls.length = most))) ∧
      RingIs w' qr lo most gone (if ls.length < most then ls ++ [(cs, wb)] else ls.drop 1 ++ [(cs, wb)]) ∧ Turn (fun j => j = qr ∨ (lo ≤ j ∧ E j)) w w' ∧ RB w' qr (fun g => E g ∨ w.heap.size ≤ g) := by
  obtain ⟨f, v, R, P, hw, hl, h1, h2, h3, h4, h5, h6⟩ := h
  have hBv := hB.get hw
  have hEv := hE.get hw
  have hr := fun g hg => hw.2.1.lt g hg
  by_cases hlt : P.length < most
  · have hf0 := h3 hlt
    subst hf0
    refine (push_new qr lo most 0 gone B v R P hv wb cs w hw hlt h5 hc hBv hlo).mono ?_
    rintro e w' ⟨rfl, ⟨v', hw', hv'⟩, ht⟩
    rw [hl.1, if_pos hlt]
    refine ⟨by rw [decide_eq_false (by omega)], ⟨0, v', _, _, hw', lg_push hl _, by simp; omega, by omega, fun _ => rfl, h4, h5, h6⟩, ht.mono (fun j _ e => e.elim .inl (fun e => .inr ⟨(hr j e).1, hEv j e⟩)), RB.of hw' (fun g hg => ?_)⟩
    rcases hv' with e | ⟨g', e, hle⟩
    · exact .inl (hEv g (by rw [← e]; exact hg))
    · rw [e] at hg; injection hg with hg; subst hg; exact .inr hle
  · have hm : P.length = most := by omega
    refine (push_turn qr lo most f gone B v R P hv wb cs w hw hm h5 h2 hc hBv hlo).mono ?_
    rintro e w' ⟨rfl, hw', ht⟩
    rw [hl.1, if_neg hlt]
    have hlg := lg_turn hl (by omega : f < P.length) (cs, wb)
    rw [hm] at hlg
    refine ⟨by rw [decide_eq_true (by omega)], ⟨_, v, _, _, hw', hlg, by simp; omega, Nat.mod_lt _ (by omega), fun hh => by simp at hh; omega, h4, h5, h6⟩, ht.mono (fun j _ e => e.elim .inl (fun e => .inr ⟨(hr j e).1, hEv j e⟩)), RB.of hw' (fun g hg => .inl (hEv g hg))⟩

theorem ring_lt {w w' : World} {qr lo most gone : Nat} {ls : List LineC} (h : RingIs w qr lo most gone ls) (ht : Turn (fun _ => False) w w') : ∀ x0 x1 v x3, w'.heap[qr]? = some (.cells #[x0, x1, v, x3] 46 (0, 0)) → ∀ g, v.ownBlock = some g → g < w.heap.size := fun x0 x1 v x3 hw g hg => by
  obtain ⟨f, v', R, P, h1, _⟩ := h
  have h2 := ht.heap h1.1 id
  rw [h2] at hw
  injection hw with hw
  injection hw with hw _
  have e := congrArg (fun a : Array Value => a[2]?) hw
  simp at e
  rw [← e] at hg
  exact (h1.2.1.lt g hg).2

/-- a line's box -/
theorem push_nil (v : Value) (n : Nat) (a : Option Addr) (c : Nat) (w : World) : Calls Try.prog 7 #[.pointer none, .slice a n c] w fun e w' => e = .returned (.tuple #[]) ∧ w = w' := by
  go_enter Try.func7, Try.ntmps7
  go_wp2
  exact bodyPost_ret (v := .tuple #[]) (by simp [results, Try.results7, go_sem]) rfl ⟨rfl, rfl⟩
theorem clear_nil (w : World) : Calls Try.prog 10 #[.pointer none] w fun e w' => e = .returned (.tuple #[]) ∧ w = w' := by
  go_enter Try.func10, Try.ntmps10
  go_wp2
  go_end0
  exact ⟨rfl, rfl⟩

/-- a step that turns blocks of the ring, or new ones -/
theorem turn_joins {qr lo C : Nat} {w w1 w2 w3 : World} {T : Nat → Prop} (h : Turn T w w1) (k : Turn (fun _ => False) w1 w2) (l : Turn (fun j => j = qr ∨ (lo ≤ j ∧ (j < C ∨ w.heap.size ≤ j))) w2 w3) (hT : ∀ j, T j ↔ (j = qr ∨ (lo ≤ j ∧ j < C))) : Turn T w w3 :=
  ⟨l.os.trans (k.os.trans h.os), l.tape.trans (k.tape.trans h.tape), l.output.trans (k.output.trans h.output), Nat.le_trans h.size (Nat.le_trans k.size l.size), fun j hj hn => by
    have hs := h.size
    have hs2 := k.size
    rw [l.block j (by omega) (fun e => hn ((hT j).2 (e.imp id (fun e => ⟨e.1, e.2.elim id (fun h => by omega)⟩)))), k.block j (by omega) id, h.block j hj hn]⟩

set_option maxRecDepth 100000 in
set_option maxHeartbeats 8000000 in
theorem push_anyC (D : Nat → Prop) (fz : Prop) (qr lo most gone C : Nat) (ls xs : List LineC) (v : Value) (w : World) (h : RingIs w qr lo most gone ls) (hx : LinesAt D fz w v xs) (hD : ∀ b, D b → b < lo ∧ b ≠ qr) (hn : xs.length ≤ 100000) (hC : RB w qr (fun g => g < C)) :
    Calls Try.prog 7 #[.pointer (some ⟨qr, 0, none⟩), v] w fun e w' => e = .returned (.tuple #[]) ∧ RingIs w' qr lo most (pushes most (ls, gone) xs).2 (pushes most (ls, gone) xs).1 ∧ Turn (fun j => j = qr ∨ (lo ≤ j ∧ j < C)) w w' ∧ RB w' qr (fun g => g < C ∨ w.heap.size ≤ g) := by
  have hmx : Try.prog.follows .mixedOrders = true := by kernel_rfl
  obtain ⟨a, c, rfl, hnc, hx1⟩ := hx
  have HX := Lib.hid hx1
  have HD := Lib.hid hD
  have HR := Lib.hid h
  have hm1 : 1 ≤ most := by obtain ⟨_, _, _, _, _, _, _, _, _, h, _⟩ := h; exact h
  obtain ⟨n, hnn⟩ : ∃ n, n = xs.length := ⟨_, rfl⟩
  rw [← hnn] at hnc hn ⊢
  have HN := Lib.hid hnn
  clear hx1 hD h hnn
  go_enter Try.func7, Try.ntmps7
  go_wp2_with fail
  go_loopg [10] n (fun gg i wr => ∃ k : Nat, n - k = gg ∧ k ≤ n ∧ i = .int .i64 k ∧ Hid (RingIs wr qr lo most (pushes most (ls, gone) (xs.take k)).2 (pushes most (ls, gone) (xs.take k)).1 ∧ Turn (fun j => j = qr ∨ (lo ≤ j ∧ j < C)) w wr ∧ RB wr qr (fun g => g < C ∨ w.heap.size ≤ g)))
  case atStart => exact ⟨0, rfl, Nat.zero_le _, rfl, Lib.hid ⟨HR.out, Turn.refl _ _, hC.mono (fun _ h => .inl h)⟩⟩
  case round =>
    obtain ⟨k, rfl, hk, rfl, H⟩ := hrel
    by_cases hlt : k < n
    · obtain ⟨b, off, rfl, hbs, hbD, hcell⟩ := HX.out.resolve_left (by have := HN.out; omega)
      have hbd := HD.out b hbD
      obtain ⟨x, hxk⟩ : ∃ x, xs[k]? = some x := ⟨_, List.getElem?_eq_getElem (by rw [← HN.out]; exact hlt)⟩
      obtain ⟨hv, y0, yc, y1⟩ := hcell k x hxk
      have x0 := H.out.2.1.cell y0 (fun e => by simp only at e; omega)
      have x1 := H.out.2.1.cell y1 (fun e => by simp only at e; omega)
      have yc2 := yc.turn H.out.2.1 (fun b' hb' _ e => by have := HD.out b' hb'; omega)
      have HXK := Lib.hid hxk
      obtain ⟨xc, xw⟩ := x
      obtain ⟨ha, hcp, rfl, _⟩ := id yc
      simp only at x0 x1 yc2
      have hlt' : (k : Int) < n := by omega
      have HST := Lib.hid (pushes_take (most := most) (ls, gone) hxk)
      generalize hps : pushes most (ls, gone) (xs.take k) = ps at *
      obtain ⟨ls1, g1⟩ := ps
      simp only at H
      have HRI := Lib.hid H.out.1
      have HTU := Lib.hid H.out.2.1
      have HRB := Lib.hid H.out.2.2
      generalize hxl : xc.length = xl at *
      have HXL := Lib.hid hxl
      have HYC := Lib.hid yc2
      clear hcell hbs hbD y0 y1 yc yc2 hxk H hps hxl
      obtain ⟨W2, hW2⟩ : ∃ W2, W2 = wr.alloc (.cells #[.slice ha xl hcp, .bool xw] 28) := ⟨_, rfl⟩
      have hnew : (wr.alloc (.cells #[.slice none 0 0, .bool false] 28)).heap[wr.heap.size]? = some (.cells #[.slice none 0 0, .bool false] 28 (0, 0)) := heap_alloc_new wr _
      have hrow : (wr.alloc (.cells #[.slice none 0 0, .bool false] 28)).setRow wr.heap.size #[.slice ha xl hcp, .bool xw] = W2 := by rw [hW2]; exact World.setRow_alloc_new wr _ _ _
      have hh2 : W2.heap[wr.heap.size]? = some (.cells #[.slice ha xl hcp, .bool xw] 28 (0, 0)) := by rw [hW2]; exact heap_alloc_new wr _
      have HT2 : Hid (Turn (fun _ => False) wr W2) := by rw [hW2]; exact Lib.hid (Turn.alloc _ _ _)
      obtain ⟨q1, q2⟩ := line_cells hh2
      have HSZ := Lib.hid (Array.getElem?_eq_some_iff.1 hh2).1
      have HLO : Hid (lo ≤ wr.heap.size) := Lib.hid (by obtain ⟨_, _, _, _, hw, _⟩ := HRI.out; exact hw.2.2.2.2)
      have HQL : Hid (qr < lo) := Lib.hid (by obtain ⟨_, _, _, _, hw, _⟩ := HRI.out; exact hw.2.2.2.1)
      have HOW := Lib.hid (own_any D fz (.slice ha xl hcp) xw xc W2.drew ((HYC.out.turn HT2.out (fun _ _ _ => id)).turn (Turn.drew (fun _ => False) W2) (fun _ _ _ => id)))
      clear hW2 hh2
      go_upto_region 4 with (refine wpList_store_row rfl 28 _ _ rfl wr.heap.size #[.slice ha xl hcp, .bool xw] rfl rfl _ _ hnew (size_line _ _) rfl (one_line _ _ _ _) ?_)
      rw [hrow]
      refine region_begin3 (fun w' => w'.cell? ⟨wr.heap.size, 0, none⟩ = some (.slice ha xl hcp) ∧ w'.cell? ⟨wr.heap.size, 1, none⟩ = some (.bool xw)) (fun _ => false) 6 rfl hmx (by intro _ _ d _ _ h; cases d <;> exact h) fun hQP => ?_
      have hS : W2.drew.cell? ⟨wr.heap.size, 0, none⟩ = some (.slice ha xl hcp) ∧ W2.drew.cell? ⟨wr.heap.size, 1, none⟩ = some (.bool xw) := ⟨q1, q2⟩
      refine take_first2 0 (some 14) rfl rfl (by kernel_rfl) (by kernel_rfl) (by kernel_rfl) (by kernel_rfl) hQP hS (.inl ⟨by rfl, fun w' hw' => by obtain ⟨e0, e1⟩ := hw'; go_simp; try with_reducible rfl⟩) ?_
      refine take_first2 1 (some 15) rfl rfl (by kernel_rfl) (by kernel_rfl) (by kernel_rfl) (by kernel_rfl) hQP hS (.inl ⟨by rfl, fun w' hw' => by obtain ⟨e0, e1⟩ := hw'; go_simp; try with_reducible rfl⟩) ?_
      refine take_first2 2 (some 16) rfl rfl (by kernel_rfl) (by kernel_rfl) (by kernel_rfl) (by kernel_rfl) hQP hS (.inl ⟨by rfl, fun w' hw' => by obtain ⟨e0, e1⟩ := hw'; go_simp; try with_reducible rfl⟩) ?_
      refine take_first2 3 (some 17) rfl rfl (by kernel_rfl) (by kernel_rfl) (by kernel_rfl) (by kernel_rfl) hQP hS (.inl ⟨by rfl, fun w' hw' => by obtain ⟨e0, e1⟩ := hw'; go_simp; try with_reducible rfl⟩) ?_
      refine take_one (i := 4) (by kernel_rfl) rfl rfl fun K hK => ?_
      go_wp2_with fail
      refine HOW.out.mono ?_
      rintro e w4 ⟨v4, rfl, hc4, hb4⟩
      have T4 : Turn (fun _ => False) wr w4 := (HT2.out.trans (Turn.drew _ _)).trans (Turn.of_new hb4)
      have hS4 : w4.cell? ⟨wr.heap.size, 0, none⟩ = some (.slice ha xl hcp) ∧ w4.cell? ⟨wr.heap.size, 1, none⟩ = some (.bool xw) := ⟨(Turn.of_new hb4 : Turn (fun _ => False) W2.drew w4).cell q1 id, (Turn.of_new hb4 : Turn (fun _ => False) W2.drew w4).cell q2 id⟩
      refine hK _ _ (.inr hS4) ?_
      clear hK
      have HP := Lib.hid (push1_any qr lo most g1 W2.drew.heap.size (fun g => (g < C ∨ w.heap.size ≤ g) ∧ g < wr.heap.size) ls1 v4 xw xc w4 (HRI.out.turn T4 id (fun _ _ _ => id)) hc4 (Nat.le_trans HLO.out (Nat.le_of_lt HSZ.out)) (RB.and (HRB.out.turn T4 id (Nat.lt_of_lt_of_le HQL.out HLO.out)) ((RB.lt HRI.out).turn T4 id (Nat.lt_of_lt_of_le HQL.out HLO.out))) (((RB.lt HRI.out).turn T4 id (Nat.lt_of_lt_of_le HQL.out HLO.out)).mono (fun g h => Nat.lt_trans h HSZ.out)))
      have HT4 := Lib.hid T4
      clear T4 hb4 HOW
      obtain ⟨a4, cp4, rfl, _⟩ := id hc4
      refine take_one (i := 5) (by kernel_rfl) rfl rfl fun K hK => ?_
      go_wp2_with fail
      refine HP.out.mono ?_
      rintro e w5 ⟨rfl, hri5, ht5, hrb5⟩
      have hS5 : w5.cell? ⟨wr.heap.size, 0, none⟩ = some (.slice ha xl hcp) ∧ w5.cell? ⟨wr.heap.size, 1, none⟩ = some (.bool xw) := ⟨ht5.cell hS4.1 (fun e => by simp only at e; have := HLO.out; have hqlo := HQL.out; omega), ht5.cell hS4.2 (fun e => by simp only at e; have := HLO.out; have hqlo := HQL.out; omega)⟩
      have HR5 := Lib.hid hri5
      have HT5 : Hid (Turn (fun j => j = qr ∨ (lo ≤ j ∧ j < C)) w w5) := Lib.hid (turn_joins HTU.out HT4.out (ht5.mono (fun j _ e => e.imp id (fun e => ⟨e.1, e.2.1⟩))) (fun _ => Iff.rfl))
      have HRB5 : Hid (RB w5 qr (fun g => g < C ∨ w.heap.size ≤ g)) := Lib.hid (hrb5.mono (fun g h => h.elim (fun h => h.1) (fun h => .inr (Nat.le_trans (Nat.le_trans HTU.out.size HT4.out.size) h))))
      clear hri5 ht5 hrb5 HP hS
      by_cases hfull : ls1.length = most
      · have d1 : decide (ls1.length = most) = true := decide_eq_true hfull
        obtain ⟨f6, v6, R6, P6, hw6, hr6⟩ := HR5.out
        have HLS := Lib.hid (lose_any qr lo most f6 g1 1 v6 R6 P6 w5 hw6 hr6.2.2.2.2.2.2 (by omega))
        have HR6 := Lib.hid hr6
        have HW6 := Lib.hid hw6
        have HFU := Lib.hid hfull
        rw [d1]
        clear hw6 hr6 hfull d1
        refine hK _ _ (.inr hS5) ?_
        clear hK hS5
        refine take_done (by kernel_rfl) ?_ _
        go_wp2_with fail
        refine HLS.out.mono ?_
        rintro e w6 ⟨rfl, hw7, ht7⟩
        have HFIN : Hid (RingIs w6 qr lo most (pushes most (ls, gone) (xs.take (k + 1))).2 (pushes most (ls, gone) (xs.take (k + 1))).1 ∧ Turn (fun j => j = qr ∨ (lo ≤ j ∧ j < C)) w w6 ∧ RB w6 qr (fun g => g < C ∨ w.heap.size ≤ g)) := Lib.hid (by
          rw [← HST.out]
          refine ⟨?_, HT5.out.trans (ht7.mono (fun _ _ e => .inl e)), RB.of hw7 (HRB5.out.get HW6.out)⟩
          obtain ⟨r1, r2, r3, r4, r5, r6, r7⟩ := HR6.out
          have hf := HFU.out
          unfold push1
          simp only
          rw [if_neg (by omega)] at r1 ⊢
          exact ⟨f6, v6, R6, P6, hw7, r1, r2, r3, r4, r5, r6, Nat.min_le_right _ _⟩)
        clear hw7 ht7
        go_wp2_with fail
        go_roundg (n - (k + 1))
        case measure => omega
        case rel => exact ⟨k + 1, rfl, by omega, by go_num, HFIN⟩
      · have d1 : decide (ls1.length = most) = false := decide_eq_false hfull
        have HFIN : Hid (RingIs w5 qr lo most (pushes most (ls, gone) (xs.take (k + 1))).2 (pushes most (ls, gone) (xs.take (k + 1))).1 ∧ Turn (fun j => j = qr ∨ (lo ≤ j ∧ j < C)) w w5 ∧ RB w5 qr (fun g => g < C ∨ w.heap.size ≤ g)) := Lib.hid (by
          rw [← HST.out]
          have hlt2 : ls1.length < most := by obtain ⟨_, _, _, P0, _, hl0, h0, _⟩ := HRI.out; have := hl0.1; omega
          have h5 := HR5.out
          unfold push1
          simp only
          rw [if_pos hlt2] at h5 ⊢
          exact ⟨h5, HT5.out, HRB5.out⟩)
        rw [d1]
        clear hfull d1
        refine hK _ _ (.inr hS5) ?_
        clear hK hS5
        refine take_done (by kernel_rfl) ?_ _
        go_wp2_with fail
        go_roundg (n - (k + 1))
        case measure => omega
        case rel => exact ⟨k + 1, rfl, by omega, by go_num, HFIN⟩
    · obtain rfl : k = n := by omega
      go_wp2_with fail
      go_end0
      have h1 := H.out
      rw [List.take_of_length_le (by rw [← HN.out]; exact Nat.le_refl _)] at h1
      exact ⟨rfl, h1.1, h1.2.1, h1.2.2⟩
theorem push_any (D : Nat → Prop) (fz : Prop) (qr lo most gone : Nat) (ls xs : List LineC) (v : Value) (w : World) (h : RingIs w qr lo most gone ls) (hx : LinesAt D fz w v xs) (hD : ∀ b, D b → b < lo ∧ b ≠ qr) (hn : xs.length ≤ 100000) :
    Calls Try.prog 7 #[.pointer (some ⟨qr, 0, none⟩), v] w fun e w' => e = .returned (.tuple #[]) ∧ RingIs w' qr lo most (pushes most (ls, gone) xs).2 (pushes most (ls, gone) xs).1 ∧ Turn (fun j => j = qr ∨ lo ≤ j) w w' :=
  (push_anyC D fz qr lo most gone w.heap.size ls xs v w h hx hD hn (RB.lt h)).mono fun e w' h => ⟨h.1, h.2.1, h.2.2.1.mono (fun j _ e => e.imp id (fun e => e.1))⟩
end Go.Proofs.Ytediledehhcicaa.Ring

/-
  Ring.Push, Ring.Clear.
-/
import Derived.Test.YtediledehhcicaaRingH
namespace Go.Proofs.Ytediledehhcicaa.Ring
set_option linter.unusedSimpArgs false
set_option linter.unusedVariables false
open Go Go.RowKit Mem Turn

/-- one line is pushed: what the wheel answers, and what is there then -/
theorem push1_any (qr lo most gone B C : Nat) (ls : List LineC) (hv : Value) (wb : Bool) (cs : List CellC) (w : World) (h : RingIs w qr lo most gone ls) (hc : CellsAt (fun b => B ≤ b) True w hv cs) (hlo : lo ≤ B) (hB : ∀ x0 x1 v x3, w.heap[qr]? = some (.cells #[x0, x1, v, x3] 46 (0, 0)) → ∀ g, v.ownBlock = some g → g < C) (hCB : C ≤ B) :
    Calls Try.prog 14 #[.pointer (some ⟨qr, 0, none⟩), .agg #[hv, .bool wb]] w fun e w' => e = .returned (.bool (decide (ls.length = most))) ∧
      RingIs w' qr lo most gone (if ls.length < most then ls ++ [(cs, wb)] else ls.drop 1 ++ [(cs, wb)]) ∧ Turn (fun j => j = qr ∨ (lo ≤ j ∧ j < C)) w w' := by
  obtain ⟨f, v, R, P, hw, hl, h1, h2, h3, h4, h5, h6⟩ := h
  have hBv := hB _ _ _ _ hw.1
  have hr := fun g hg => hw.2.1.lt g hg
  by_cases hlt : P.length < most
  · have hf0 := h3 hlt
    subst hf0
    refine (push_new qr lo most 0 gone B v R P hv wb cs w hw hlt h5 hc (fun g hg => Nat.lt_of_lt_of_le (hBv g hg) hCB) hlo).mono ?_
    rintro e w' ⟨rfl, ⟨v', hw'⟩, ht⟩
    rw [hl.1, if_pos hlt]
    refine ⟨by rw [decide_eq_false (by omega)], ⟨0, v', _, _, hw', lg_push hl _, by simp; omega, by omega, fun _ => rfl, h4, h5, h6⟩, ht.mono (fun j _ e => e.elim .inl (fun e => .inr ⟨(hr j e).1, hBv j e⟩))⟩
  · have hm : P.length = most := by omega
    refine (push_turn qr lo most f gone B v R P hv wb cs w hw hm h5 h2 hc (fun g hg => Nat.lt_of_lt_of_le (hBv g hg) hCB) hlo).mono ?_
    rintro e w' ⟨rfl, hw', ht⟩
    rw [hl.1, if_neg hlt]
    have hlg := lg_turn hl (by omega : f < P.length) (cs, wb)
    rw [hm] at hlg
    refine ⟨by rw [decide_eq_true (by omega)], ⟨_, v, _, _, hw', hlg, by simp; omega, Nat.mod_lt _ (by omega), fun hh => by simp at hh; omega, h4, h5, h6⟩, ht.mono (fun j _ e => e.elim .inl (fun e => .inr ⟨(hr j e).1, hBv j e⟩))⟩

theorem ring_lt {w w' : World} {qr lo most gone : Nat} {ls : List LineC} (h : RingIs w qr lo most gone ls) (ht : Turn (fun _ => False) w w') : ∀ x0 x1 v x3, w'.heap[qr]? = some (.cells #[x0, x1, v, x3] 46 (0, 0)) → ∀ g, v.ownBlock = some g → g < w.heap.size := fun x0 x1 v x3 hw g hg => by
  obtain ⟨f, v', R, P, h1, _⟩ := h
  have h2 := ht.heap h1.1 id
  rw [h2] at hw
  injection hw with hw
  injection hw with hw _
  have e := congrArg (fun a : Array Value => a[2]?) hw
  simp at e
  rw [← e] at hg
  exact (h1.2.1.lt g hg).2

/-- a line's box -/
theorem push_nil (v : Value) (n : Nat) (a : Option Addr) (c : Nat) (w : World) : Calls Try.prog 7 #[.pointer none, .slice a n c] w fun e w' => e = .returned (.tuple #[]) ∧ w = w' := by
  go_enter Try.func7, Try.ntmps7
  go_wp2
  exact bodyPost_ret (v := .tuple #[]) (by simp [results, Try.results7, go_sem]) rfl ⟨rfl, rfl⟩
theorem clear_nil (w : World) : Calls Try.prog 10 #[.pointer none] w fun e w' => e = .returned (.tuple #[]) ∧ w = w' := by
  go_enter Try.func10, Try.ntmps10
  go_wp2
  go_end0
  exact ⟨rfl, rfl⟩

set_option maxRecDepth 100000 in
set_option maxHeartbeats 8000000 in
theorem push_any (D : Nat → Prop) (fz : Prop) (qr lo most gone : Nat) (ls xs : List LineC) (v : Value) (w : World) (h : RingIs w qr lo most gone ls) (hx : LinesAt D fz w v xs) (hD : ∀ b, D b → b < lo ∧ b ≠ qr) (hn : xs.length ≤ 100000) :
    Calls Try.prog 7 #[.pointer (some ⟨qr, 0, none⟩), v] w fun e w' => e = .returned (.tuple #[]) ∧ RingIs w' qr lo most (pushes most (ls, gone) xs).2 (pushes most (ls, gone) xs).1 ∧ Turn (fun j => j = qr ∨ lo ≤ j) w w' := by
  have hmx : Try.prog.follows .mixedOrders = true := by kernel_rfl
  obtain ⟨a, c, rfl, hnc, hx1⟩ := hx
  have HX := Lib.hid hx1
  have HD := Lib.hid hD
  have HR := Lib.hid h
  have hm1 : 1 ≤ most := by obtain ⟨_, _, _, _, _, _, _, _, _, h, _⟩ := h; exact h
  obtain ⟨n, hnn⟩ : ∃ n, n = xs.length := ⟨_, rfl⟩
  rw [← hnn] at hnc hn ⊢
  have HN := Lib.hid hnn
  clear hx1 hD h hnn
  go_enter Try.func7, Try.ntmps7
  go_wp2_with fail
  go_loopg [10] n (fun gg i wr => ∃ k : Nat, n - k = gg ∧ k ≤ n ∧ i = .int .i64 k ∧ Hid (RingIs wr qr lo most (pushes most (ls, gone) (xs.take k)).2 (pushes most (ls, gone) (xs.take k)).1 ∧ Turn (fun j => j = qr ∨ lo ≤ j) w wr))
  case atStart => exact ⟨0, rfl, Nat.zero_le _, rfl, Lib.hid ⟨HR.out, Turn.refl _ _⟩⟩
  case round =>
    obtain ⟨k, rfl, hk, rfl, H⟩ := hrel
    by_cases hlt : k < n
    · obtain ⟨b, off, rfl, hbs, hbD, hcell⟩ := HX.out.resolve_left (by have := HN.out; omega)
      have hbd := HD.out b hbD
      obtain ⟨x, hxk⟩ : ∃ x, xs[k]? = some x := ⟨_, List.getElem?_eq_getElem (by rw [← HN.out]; exact hlt)⟩
      obtain ⟨hv, y0, yc, y1⟩ := hcell k x hxk
      have x0 := H.out.2.cell y0 (fun e => by simp only at e; omega)
      have x1 := H.out.2.cell y1 (fun e => by simp only at e; omega)
      have yc2 := yc.turn H.out.2 (fun b' hb' _ e => by have := HD.out b' hb'; omega)
      have HXK := Lib.hid hxk
      obtain ⟨xc, xw⟩ := x
      obtain ⟨ha, hcp, rfl, _⟩ := id yc
      simp only at x0 x1 yc2
      have hlt' : (k : Int) < n := by omega
      have HST := Lib.hid (pushes_take (most := most) (ls, gone) hxk)
      generalize hps : pushes most (ls, gone) (xs.take k) = ps at *
      obtain ⟨ls1, g1⟩ := ps
      simp only at H
      have HRI := Lib.hid H.out.1
      have HTU := Lib.hid H.out.2
      generalize hxl : xc.length = xl at *
      have HXL := Lib.hid hxl
      have HYC := Lib.hid yc2
      clear hcell hbs hbD y0 y1 yc yc2 hxk H hps hxl
      obtain ⟨W2, hW2⟩ : ∃ W2, W2 = wr.alloc (.cells #[.slice ha xl hcp, .bool xw] 28) := ⟨_, rfl⟩
      have hnew : (wr.alloc (.cells #[.slice none 0 0, .bool false] 28)).heap[wr.heap.size]? = some (.cells #[.slice none 0 0, .bool false] 28 (0, 0)) := heap_alloc_new wr _
      have hrow : (wr.alloc (.cells #[.slice none 0 0, .bool false] 28)).setRow wr.heap.size #[.slice ha xl hcp, .bool xw] = W2 := by rw [hW2]; exact World.setRow_alloc_new wr _ _ _
      have hh2 : W2.heap[wr.heap.size]? = some (.cells #[.slice ha xl hcp, .bool xw] 28 (0, 0)) := by rw [hW2]; exact heap_alloc_new wr _
      have HT2 : Hid (Turn (fun _ => False) wr W2) := by rw [hW2]; exact Lib.hid (Turn.alloc _ _ _)
      obtain ⟨q1, q2⟩ := line_cells hh2
      have HSZ := Lib.hid (Array.getElem?_eq_some_iff.1 hh2).1
      have HLO : Hid (lo ≤ wr.heap.size) := Lib.hid (by obtain ⟨_, _, _, _, hw, _⟩ := HRI.out; exact hw.2.2.2.2)
      have HQL : Hid (qr < lo) := Lib.hid (by obtain ⟨_, _, _, _, hw, _⟩ := HRI.out; exact hw.2.2.2.1)
      have HOW := Lib.hid (own_any D fz (.slice ha xl hcp) xw xc W2.drew ((HYC.out.turn HT2.out (fun _ _ _ => id)).turn (Turn.drew (fun _ => False) W2) (fun _ _ _ => id)))
      clear hW2 hh2
      go_upto_region 4 with (refine wpList_store_row rfl 28 _ _ rfl wr.heap.size #[.slice ha xl hcp, .bool xw] rfl rfl _ _ hnew (size_line _ _) rfl (one_line _ _ _ _) ?_)
      rw [hrow]
      refine region_begin3 (fun w' => w'.cell? ⟨wr.heap.size, 0, none⟩ = some (.slice ha xl hcp) ∧ w'.cell? ⟨wr.heap.size, 1, none⟩ = some (.bool xw)) (fun _ => false) 6 rfl hmx (by intro _ _ d _ _ h; cases d <;> exact h) fun hQP => ?_
      have hS : W2.drew.cell? ⟨wr.heap.size, 0, none⟩ = some (.slice ha xl hcp) ∧ W2.drew.cell? ⟨wr.heap.size, 1, none⟩ = some (.bool xw) := ⟨q1, q2⟩
      refine take_first2 0 (some 14) rfl rfl (by kernel_rfl) (by kernel_rfl) (by kernel_rfl) (by kernel_rfl) hQP hS (.inl ⟨by rfl, fun w' hw' => by obtain ⟨e0, e1⟩ := hw'; go_simp; try with_reducible rfl⟩) ?_
      refine take_first2 1 (some 15) rfl rfl (by kernel_rfl) (by kernel_rfl) (by kernel_rfl) (by kernel_rfl) hQP hS (.inl ⟨by rfl, fun w' hw' => by obtain ⟨e0, e1⟩ := hw'; go_simp; try with_reducible rfl⟩) ?_
      refine take_first2 2 (some 16) rfl rfl (by kernel_rfl) (by kernel_rfl) (by kernel_rfl) (by kernel_rfl) hQP hS (.inl ⟨by rfl, fun w' hw' => by obtain ⟨e0, e1⟩ := hw'; go_simp; try with_reducible rfl⟩) ?_
      refine take_first2 3 (some 17) rfl rfl (by kernel_rfl) (by kernel_rfl) (by kernel_rfl) (by kernel_rfl) hQP hS (.inl ⟨by rfl, fun w' hw' => by obtain ⟨e0, e1⟩ := hw'; go_simp; try with_reducible rfl⟩) ?_
      refine take_one (i := 4) (by kernel_rfl) rfl rfl fun K hK => ?_
      go_wp2_with fail
      refine HOW.out.mono ?_
      rintro e w4 ⟨v4, rfl, hc4, hb4⟩
      have T4 : Turn (fun _ => False) wr w4 := (HT2.out.trans (Turn.drew _ _)).trans (Turn.of_new hb4)
      have hS4 : w4.cell? ⟨wr.heap.size, 0, none⟩ = some (.slice ha xl hcp) ∧ w4.cell? ⟨wr.heap.size, 1, none⟩ = some (.bool xw) := ⟨(Turn.of_new hb4 : Turn (fun _ => False) W2.drew w4).cell q1 id, (Turn.of_new hb4 : Turn (fun _ => False) W2.drew w4).cell q2 id⟩
      refine hK _ _ (.inr hS4) ?_
      clear hK
      have HP := Lib.hid (push1_any qr lo most g1 W2.drew.heap.size wr.heap.size ls1 v4 xw xc w4 (HRI.out.turn T4 id (fun _ _ _ => id)) hc4 (Nat.le_trans HLO.out (Nat.le_of_lt HSZ.out)) (ring_lt HRI.out T4) (Nat.le_of_lt HSZ.out))
      have HT4 := Lib.hid T4
      clear T4 hb4 HOW
      obtain ⟨a4, cp4, rfl, _⟩ := id hc4
      refine take_one (i := 5) (by kernel_rfl) rfl rfl fun K hK => ?_
      go_wp2_with fail
      refine HP.out.mono ?_
      rintro e w5 ⟨rfl, hri5, ht5⟩
      have hS5 : w5.cell? ⟨wr.heap.size, 0, none⟩ = some (.slice ha xl hcp) ∧ w5.cell? ⟨wr.heap.size, 1, none⟩ = some (.bool xw) := ⟨ht5.cell hS4.1 (fun e => by simp only at e; have := HLO.out; have hqlo := HQL.out; omega), ht5.cell hS4.2 (fun e => by simp only at e; have := HLO.out; have hqlo := HQL.out; omega)⟩
      have HR5 := Lib.hid hri5
      have HT5 : Hid (Turn (fun j => j = qr ∨ lo ≤ j) w w5) := Lib.hid (HTU.out.trans ((HT4.out.mono (fun _ _ h => h.elim)).trans (ht5.mono (fun j _ e => e.elim .inl (fun e => .inr e.1)))))
      clear hri5 ht5 HP hS
      by_cases hfull : ls1.length = most
      · have d1 : decide (ls1.length = most) = true := decide_eq_true hfull
        obtain ⟨f6, v6, R6, P6, hw6, hr6⟩ := HR5.out
        have HLS := Lib.hid (lose_any qr lo most f6 g1 1 v6 R6 P6 w5 hw6 hr6.2.2.2.2.2.2 (by omega))
        have HR6 := Lib.hid hr6
        have HFU := Lib.hid hfull
        rw [d1]
        clear hw6 hr6 hfull d1
        refine hK _ _ (.inr hS5) ?_
        clear hK hS5
        refine take_done (by kernel_rfl) ?_ _
        go_wp2_with fail
        refine HLS.out.mono ?_
        rintro e w6 ⟨rfl, hw7, ht7⟩
        have HFIN : Hid (RingIs w6 qr lo most (pushes most (ls, gone) (xs.take (k + 1))).2 (pushes most (ls, gone) (xs.take (k + 1))).1 ∧ Turn (fun j => j = qr ∨ lo ≤ j) w w6) := Lib.hid (by
          rw [← HST.out]
          refine ⟨?_, HT5.out.trans (ht7.mono (fun _ _ e => .inl e))⟩
          obtain ⟨r1, r2, r3, r4, r5, r6, r7⟩ := HR6.out
          have hf := HFU.out
          unfold push1
          simp only
          rw [if_neg (by omega)] at r1 ⊢
          exact ⟨f6, v6, R6, P6, hw7, r1, r2, r3, r4, r5, r6, Nat.min_le_right _ _⟩)
        clear hw7 ht7
        go_wp2_with fail
        go_roundg (n - (k + 1))
        case measure => omega
        case rel => exact ⟨k + 1, rfl, by omega, by go_num, HFIN⟩
      · have d1 : decide (ls1.length = most) = false := decide_eq_false hfull
        have HFIN : Hid (RingIs w5 qr lo most (pushes most (ls, gone) (xs.take (k + 1))).2 (pushes most (ls, gone) (xs.take (k + 1))).1 ∧ Turn (fun j => j = qr ∨ lo ≤ j) w w5) := Lib.hid (by
          rw [← HST.out]
          have hlt2 : ls1.length < most := by obtain ⟨_, _, _, P0, _, hl0, h0, _⟩ := HRI.out; have := hl0.1; omega
          have h5 := HR5.out
          unfold push1
          simp only
          rw [if_pos hlt2] at h5 ⊢
          exact ⟨h5, HT5.out⟩)
        rw [d1]
        clear hfull d1
        refine hK _ _ (.inr hS5) ?_
        clear hK hS5
        refine take_done (by kernel_rfl) ?_ _
        go_wp2_with fail
        go_roundg (n - (k + 1))
        case measure => omega
        case rel => exact ⟨k + 1, rfl, by omega, by go_num, HFIN⟩
    · obtain rfl : k = n := by omega
      go_wp2_with fail
      go_end0
      have h1 := H.out
      rw [List.take_of_length_le (by rw [← HN.out]; exact Nat.le_refl _)] at h1
      exact ⟨rfl, h1.1, h1.2⟩
end Go.Proofs.Ytediledehhcicaa.Ring

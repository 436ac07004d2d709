/-
  Ring.Clear; linotypelaw50.works.
-/
import Derived.Test.YtediledehhcicaaRingI
namespace Go.Proofs.Ytediledehhcicaa.Ring
set_option linter.unusedSimpArgs false
set_option linter.unusedVariables false
open Go Go.RowKit Mem Turn

set_option maxRecDepth 100000 in
set_option maxHeartbeats 4000000 in
theorem clear_any (qr lo most gone : Nat) (ls : List LineC) (w : World) (h : RingIs w qr lo most gone ls) :
    Calls Try.prog 10 #[.pointer (some ⟨qr, 0, none⟩)] w fun e w' => e = .returned (.tuple #[]) ∧ RingIs w' qr lo most (min (gone + ls.length) 1073741824) [] ∧ Turn (fun j => j = qr) w w' := by
  obtain ⟨f, v, R, P, hw, hl, h1, h2, h3, h4, h5, h6⟩ := h
  obtain ⟨_, _, c2, _, _⟩ := hw.c0
  obtain ⟨av, cv, rfl⟩ := Turn.own_slice hw.2.1
  rw [hl.1]
  have HLS := Lib.hid (lose_any qr lo most f gone P.length _ R P w hw h6 (by omega))
  generalize hn : P.length = n at *
  have HK := Lib.hid (And.intro h4 h5)
  have h5' := h5
  clear hw hl hn h3
  go_enter Try.func10, Try.ntmps10
  go_wp2_with fail
  refine HLS.out.mono ?_
  rintro e w1 ⟨rfl, hw1, ht1⟩
  obtain ⟨d0, d1, d2, d3, df⟩ := hw1.c0
  have f1 := df 1
  have f2 := df 2
  have HW1 := Lib.hid hw1
  have HT1 := Lib.hid ht1
  clear hw1 ht1 df HLS
  have HF : Hid (RingIs ((w1.setCell ⟨qr, 2, none⟩ (.slice none 0 0)).setCell ⟨qr, 1, none⟩ (.int .i64 0)) qr lo most (min (gone + n) 1073741824) [] ∧ Turn (fun j => j = qr) w ((w1.setCell ⟨qr, 2, none⟩ (.slice none 0 0)).setCell ⟨qr, 1, none⟩ (.int .i64 0))) := Lib.hid (by
    have T : Turn (fun j => j = qr) w1 ((w1.setCell ⟨qr, 2, none⟩ (.slice none 0 0)).setCell ⟨qr, 1, none⟩ (.int .i64 0)) := (Turn.setCell (T := fun j => j = qr) (p := ⟨qr, 2, none⟩) w1 (.slice none 0 0) rfl).trans (Turn.setCell (T := fun j => j = qr) (p := ⟨qr, 1, none⟩) _ (.int .i64 0) rfl)
    obtain ⟨e1, e2, e3, e4, e5⟩ := HW1.out
    have s1 := (heap_set4 e1 (.slice none 0 0)).2.1
    have s2 := (heap_set4 s1 (.int .i64 0)).2.2
    exact ⟨⟨0, .slice none 0 0, [], [], ⟨s2, World.ownsRow_nil _ _ _ _, CellsOf.nil _ _ _, e4, Nat.le_trans e5 T.size⟩, lg_nil, by simp, HK.out.1, fun _ => rfl, HK.out.1, HK.out.2, Nat.min_le_right _ _⟩, HT1.out.trans T⟩)
  go_wp2_with fail
  go_end0
  exact ⟨rfl, HF.out.1, HF.out.2⟩

/-- an empty ring's lists may begin later -/
theorem ring_of_new {w w' : World} {qr lo lo' M : Nat} (h : Wheel w qr lo M 0 0 (.slice none 0 0) [] []) (hb : Below w.heap.size w w') (hM : 1 ≤ M) (hM2 : M ≤ 65536) (h1 : qr < lo') (h2 : lo' ≤ w'.heap.size) : RingIs w' qr lo' M 0 [] :=
  ⟨0, _, [], [], (h.turn (Turn.of_new hb : Turn (fun _ => False) w w') id (fun _ _ _ => id)).raise rfl rfl h1 h2, lg_nil, by simp, by omega, fun _ => rfl, hM, hM2, by omega⟩

theorem three_lines (w : World) : LinesAt (fun b => b = w.heap.size) False (w.alloc (.cells #[.slice none 0 0, .bool false, .slice none 0 0, .bool true, .slice none 0 0, .bool false] 28)) (.slice (some ⟨w.heap.size, 0, none⟩) 3 3) [([], false), ([], true), ([], false)] := by
  have hh := heap_alloc_new w (.cells #[.slice none 0 0, .bool false, .slice none 0 0, .bool true, .slice none 0 0, .bool false] 28)
  have hs : w.heap.size < (w.alloc (.cells #[.slice none 0 0, .bool false, .slice none 0 0, .bool true, .slice none 0 0, .bool false] 28)).heap.size := by simp
  generalize (w.alloc (.cells #[.slice none 0 0, .bool false, .slice none 0 0, .bool true, .slice none 0 0, .bool false] 28)) = w2 at *
  refine ⟨_, 3, rfl, Nat.le_refl _, .inr ⟨w.heap.size, 0, rfl, hs, rfl, fun j x hx => ?_⟩⟩
  match j, hx with
  | 0, hx => simp at hx; subst hx; exact ⟨.slice none 0 0, by simp [World.cell?, hh], CellsAt.nil _ _ _, by simp [World.cell?, hh]⟩
  | 1, hx => simp at hx; subst hx; exact ⟨.slice none 0 0, by simp [World.cell?, hh], CellsAt.nil _ _ _, by simp [World.cell?, hh]⟩
  | 2, hx => simp at hx; subst hx; exact ⟨.slice none 0 0, by simp [World.cell?, hh], CellsAt.nil _ _ _, by simp [World.cell?, hh]⟩

set_option maxRecDepth 100000 in
set_option maxHeartbeats 4000000 in
theorem works_ok (w : World) : Calls Try.prog 5 #[] w fun e w' => e = .returned (.bool true) ∧ Below w.heap.size w w' := by
  have HNW := Lib.hid (new_any 2 2 (by decide) w (by omega) (by omega))
  have hz := (zero_of_info (P := Try.prog) (t := 28) (v := .agg #[.slice none 0 0, .bool false]) (n := 2) (by kernel_rfl)).1
  go_enter Try.func5, Try.ntmps5
  go_wp2_with fail
  refine HNW.out.mono ?_
  rintro e w1 ⟨rfl, hw1, hb1, hs1⟩
  have HW1 := Lib.hid hw1
  have HB1 := Lib.hid hb1
  have HS1 := Lib.hid hs1
  clear hw1 hb1 hs1 HNW
  have HL2 := Lib.hid (three_lines w1)
  have HB2 : Hid (Below w1.heap.size w1 (w1.alloc (.cells #[.slice none 0 0, .bool false, .slice none 0 0, .bool true, .slice none 0 0, .bool false] 28))) := Lib.hid ((Below.refl _ _).alloc (Nat.le_refl _) _)
  have HS2 : Hid ((w1.alloc (.cells #[.slice none 0 0, .bool false, .slice none 0 0, .bool true, .slice none 0 0, .bool false] 28)).heap.size = w1.heap.size + 1) := Lib.hid (by simp)
  go_wp2_with fail
  generalize (w1.alloc (.cells #[.slice none 0 0, .bool false, .slice none 0 0, .bool true, .slice none 0 0, .bool false] 28)) = w2 at *
  have HRI := Lib.hid (ring_of_new (lo' := w2.heap.size) HW1.out HB2.out (by omega) (by omega) (by have := HS1.out; have := HS2.out; omega) (Nat.le_refl _))
  refine (push_any (fun b => b = w1.heap.size) False w.heap.size w2.heap.size 2 0 [] [([], false), ([], true), ([], false)] _ w2 HRI.out HL2.out (fun b hb => by have := HS1.out; have := HS2.out; omega) (by simp)).mono ?_
  rintro e w3 ⟨rfl, hr3, ht3⟩
  have hr4 : RingIs w3 w.heap.size w2.heap.size 2 1 [([], true), ([], false)] := hr3
  have HR4 := Lib.hid hr4
  have HB3 : Hid (Below w.heap.size w w3) := Lib.hid ((HB1.out.trans (HB2.out.mono (by have := HS1.out; omega))).trans (ht3.below (by have := HS1.out; have := HS2.out; omega) (fun k e => by have := HS1.out; have := HS2.out; omega)))
  have HAT := Lib.hid (at_in w.heap.size w2.heap.size 2 1 0 [([], true), ([], false)] ([], true) w3 hr4 rfl)
  clear hr3 hr4 ht3
  go_wp2_with fail
  refine HAT.out.mono ?_
  rintro e w4 ⟨v4, rfl, hc4, hb4⟩
  obtain ⟨a4, c4, hv4, _⟩ := id hc4
  simp only [List.length_nil] at hv4
  subst hv4
  have HB4 := Lib.hid (HB3.out.trans (hb4.mono HB3.out.size))
  have HR5 := Lib.hid (HR4.out.below hb4)
  clear hc4 hb4 HAT
  obtain ⟨W5, hW5⟩ : ∃ W5, W5 = w4.alloc (.cells #[.slice a4 0 c4, .bool true] 28) := ⟨_, rfl⟩
  have hnew : (w4.alloc (.cells #[.slice none 0 0, .bool false] 28)).heap[w4.heap.size]? = some (.cells #[.slice none 0 0, .bool false] 28 (0, 0)) := heap_alloc_new w4 _
  have hrow : (w4.alloc (.cells #[.slice none 0 0, .bool false] 28)).setRow w4.heap.size #[.slice a4 0 c4, .bool true] = W5 := by rw [hW5]; exact World.setRow_alloc_new w4 _ _ _
  have hh5 : W5.heap[w4.heap.size]? = some (.cells #[.slice a4 0 c4, .bool true] 28 (0, 0)) := by rw [hW5]; exact heap_alloc_new w4 _
  have HBW : Hid (Below w4.heap.size w4 W5) := by rw [hW5]; exact Lib.hid ((Below.refl _ _).alloc (Nat.le_refl _) _)
  obtain ⟨q1, q2⟩ := line_cells hh5
  have HR6 := Lib.hid (HR5.out.below HBW.out)
  have HB5 := Lib.hid (HB4.out.trans (HBW.out.mono HB4.out.size))
  have HLN : Hid (Calls Try.prog 11 #[.pointer (some ⟨w.heap.size, 0, none⟩)] W5 fun e w' => e = .returned (.int .i64 2) ∧ W5 = w') := Lib.hid (len_any _ _ _ _ _ W5 HR6.out)
  have HGN : Hid (Calls Try.prog 12 #[.pointer (some ⟨w.heap.size, 0, none⟩)] W5 fun e w' => e = .returned (.int .i64 1) ∧ W5 = w') := Lib.hid (gone_any _ _ _ _ _ W5 HR6.out)
  clear hW5 hh5
  go_wp2_with (refine wpList_store_row rfl 28 _ _ rfl w4.heap.size #[.slice a4 0 c4, .bool true] rfl rfl _ _ hnew (size_line _ _) rfl (one_line _ _ _ _) ?_; rw [hrow])
  refine HLN.out.mono ?_
  rintro e w6 ⟨rfl, rfl⟩
  go_wp2_with fail
  refine HGN.out.mono ?_
  rintro e w6 ⟨rfl, rfl⟩
  go_wp2_with fail
  go_ret
  exact ⟨rfl, HB5.out⟩
end Go.Proofs.Ytediledehhcicaa.Ring

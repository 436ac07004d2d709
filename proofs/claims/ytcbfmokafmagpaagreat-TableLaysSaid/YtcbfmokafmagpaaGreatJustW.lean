/-
  The walk of the statement JustifyWide.
-/
import Derived.Test.YtcbfmokafmagpaaGreatJustF
namespace Go.Proofs.YtcbfmokafmagpaaGreat.Just
set_option linter.unusedSimpArgs false
set_option linter.unusedVariables false
open Go Go.RowKit Go.Shelf Mem Turn Gra Same GraLaw Mea Rep

theorem w1 : wsum (itms [97, 98, 99, 100]) = 4 := by kernel_rfl
theorem w2 : wsum (itms [46]) = 1 := by kernel_rfl
theorem w3 : cnt (Jn [97, 98, 99, 100]) ([97, 98, 99, 100] : List Int).length = 4 := by kernel_rfl
theorem w4 : wsum (its (cl [97, 98, 99, 100]) 1) = 1 := by kernel_rfl
theorem w5 : wsum (its (cl [97, 98, 99, 100]) 2) = 2 := by kernel_rfl
theorem w6 : wsum (its (cl [97, 98, 99, 100]) 3) = 3 := by kernel_rfl
theorem w6b : wsum (its (cl [97, 98, 99, 100]) 4) = 4 := by kernel_rfl
theorem w7 : padL (([97, 98, 99, 100] : List Int).take (st (Jn [97, 98, 99, 100]) ([97, 98, 99, 100] : List Int).length 2) ++ [46]) 3 0 = [97, 98, 46] := by kernel_rfl
theorem w8 : padL [97] 4 2 = [32, 97, 32, 32] := by kernel_rfl
theorem w9 {k : Nat} (h : HeadP [97, 98, 99, 100] 2 k) : k = 2 := by
  obtain ⟨h1, h2, h3⟩ := h
  rw [w3] at h1 h3
  match k, h1, h2, h3 with
  | 0, _, _, h3 => rw [w4] at h3; omega
  | 1, _, _, h3 => rw [w5] at h3; omega
  | 2, _, _, _ => rfl
  | 3, _, h2, _ => rw [w6] at h2; omega
  | 4, _, h2, _ => rw [w6b] at h2; omega
  | k + 5, h1, _, _ => omega
theorem w10 : hold 3 = 3 := by decide
theorem w11 {out : List Int} (h : FitP [97, 98, 99, 100] [46] 3 0 out) : out = [97, 98, 46] := by
  unfold FitP at h
  rw [w1, w2, w10] at h
  rcases h with ⟨h, _⟩ | ⟨_, h, _⟩ | ⟨_, _, k, hk, rfl⟩
  · omega
  · omega
  · obtain rfl := w9 hk
    exact w7

theorem fresh_ints {w w' : World} {n : Nat} {xs : List Int} {e : Ending} (h : Fresh w w' 21 1 n (xs.map (Value.int .i32)) e) : ∃ a c, e = .returned (.slice a n c) ∧ Ints .i32 w' a n xs ∧ Below w.heap.size w w' := by
  obtain ⟨v, rfl, ho, hb⟩ := h
  obtain ⟨a, c, rfl⟩ := own_slice ho
  exact ⟨a, c, rfl, ints_of_own ho, hb⟩

set_option maxRecDepth 100000 in
set_option maxHeartbeats 2000000 in
theorem works_any (w : World) :
    Calls Tryz.prog 6 #[] w fun e w' => e = .returned (.bool true) ∧ Below w.heap.size w w' := by
  go_enter Tryz.func6, Tryz.ntmps6
  go_wp2_with fail
  have R1 := runes_new w [97, 98, 99, 100] 4 rfl (by intro x hx; simp at hx; omega) (by omega) #[.int .i32 97, .int .i32 98, .int .i32 99, .int .i32 100] rfl 21
  have B1 : Below w.heap.size w (w.alloc (.cells #[.int .i32 97, .int .i32 98, .int .i32 99, .int .i32 100] 21)) := (Below.refl _ _).alloc (Nat.le_refl _) _
  have hz : (w.alloc (.cells #[.int .i32 97, .int .i32 98, .int .i32 99, .int .i32 100] 21)).heap.size = w.heap.size + 1 := by simp
  generalize (w.alloc (.cells #[.int .i32 97, .int .i32 98, .int .i32 99, .int .i32 100] 21)) = w1 at *
  have R2 := runes_new w1 [46] 1 rfl (by intro x hx; simp at hx; omega) (by omega) #[.int .i32 46] rfl 21
  rw [hz] at R2
  have B2' : Below w1.heap.size w1 (w1.alloc (.cells #[.int .i32 46] 21)) := (Below.refl _ _).alloc (Nat.le_refl _) _
  generalize (w1.alloc (.cells #[.int .i32 46] 21)) = w2 at *
  have RR := Lib.hid (R1.below B2')
  have RM := Lib.hid R2
  have HB2 := Lib.hid (B1.trans (B2'.mono B1.size))
  clear R1 B1 R2 B2' hz
  refine (fit_any _ _ _ _ _ _ _ _ w2 RR.out RM.out (by omega) (by omega) 3 0 (by omega) (by omega)).mono ?_
  rintro e w3 ⟨out, ho, hF⟩
  obtain rfl := w11 ho
  obtain ⟨a3, c3, rfl, hi3, hb3⟩ := fresh_ints hF
  have HI3 := Lib.hid hi3
  have HB3 := Lib.hid (HB2.out.trans (hb3.mono HB2.out.size))
  clear ho hF hi3 hb3 HB2 RR RM
  simp only [List.length_cons, List.length_nil] at HI3 ⊢
  go_wp2_with fail
  have R1 := runes_new w3 [97, 98, 46] 3 rfl (by intro x hx; simp at hx; omega) (by omega) #[.int .i32 97, .int .i32 98, .int .i32 46] rfl 21
  have HI4 := Lib.hid (HI3.out.below ((Below.refl _ w3).alloc (Nat.le_refl _) (.cells #[.int .i32 97, .int .i32 98, .int .i32 46] 21)))
  have HB4 := Lib.hid (HB3.out.alloc HB3.out.size (.cells #[.int .i32 97, .int .i32 98, .int .i32 46] 21))
  generalize (w3.alloc (.cells #[.int .i32 97, .int .i32 98, .int .i32 46] 21)) = w4 at *
  refine (same_true _ _ _ _ _ _ _ w4 HI4.out R1.ints (by omega)).mono ?_
  rintro e w5 ⟨rfl, hb5⟩
  have HB5 := Lib.hid (HB4.out.trans (hb5.mono HB4.out.size))
  clear hb5 R1 HI4 HI3 HB3 HB4
  go_wp2_with fail
  have R1 := runes_new w5 [97] 1 rfl (by intro x hx; simp at hx; omega) (by omega) #[.int .i32 97] rfl 21
  have HB6 := Lib.hid (HB5.out.alloc HB5.out.size (.cells #[.int .i32 97] 21))
  generalize (w5.alloc (.cells #[.int .i32 97] 21)) = w6 at *
  refine (pad_any _ _ _ _ w6 R1 (by omega) 4 2 (by omega) (by omega)).mono ?_
  rw [w8]
  rintro e w7 hF
  obtain ⟨a7, c7, rfl, hi7, hb7⟩ := fresh_ints hF
  have HI7 := Lib.hid hi7
  have HB7 := Lib.hid (HB6.out.trans (hb7.mono HB6.out.size))
  clear hF hi7 hb7 HB6 R1 HB5
  simp only [List.length_cons, List.length_nil] at HI7 ⊢
  go_wp2_with fail
  have R1 := runes_new w7 [32, 97, 32, 32] 4 rfl (by intro x hx; simp at hx; omega) (by omega) #[.int .i32 32, .int .i32 97, .int .i32 32, .int .i32 32] rfl 21
  have HI8 := Lib.hid (HI7.out.below ((Below.refl _ w7).alloc (Nat.le_refl _) (.cells #[.int .i32 32, .int .i32 97, .int .i32 32, .int .i32 32] 21)))
  have HB8 := Lib.hid (HB7.out.alloc HB7.out.size (.cells #[.int .i32 32, .int .i32 97, .int .i32 32, .int .i32 32] 21))
  generalize (w7.alloc (.cells #[.int .i32 32, .int .i32 97, .int .i32 32, .int .i32 32] 21)) = w8 at *
  refine (same_true _ _ _ _ _ _ _ w8 HI8.out R1.ints (by omega)).mono ?_
  rintro e w9 ⟨rfl, hb9⟩
  have HB9 := Lib.hid (HB8.out.trans (hb9.mono HB8.out.size))
  clear hb9 R1 HI8 HI7 HB7 HB8
  go_wp2
  go_ret
  exact ⟨rfl, HB9.out⟩

end Go.Proofs.YtcbfmokafmagpaaGreat.Just

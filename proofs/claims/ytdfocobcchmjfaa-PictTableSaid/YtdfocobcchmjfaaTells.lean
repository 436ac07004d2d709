/-
  Walks of the statements PictTells and ConjTells.
-/
import Derived.Test.YtdfocobcchmjfaaTellsLaw
namespace Go.Proofs.Ytdfocobcchmjfaa.Tells
set_option linter.unusedSimpArgs false
set_option linter.unusedVariables false
open Go.RowKit Mem Tab

theorem q1 : Pict.isB 128512 = true := by kernel_rfl
theorem q2 : Pict.isB 169 = true := by kernel_rfl
theorem q3 : Pict.isB 127995 = false := by kernel_rfl
theorem q4 : Pict.isB 97 = false := by kernel_rfl

theorem pworks_any (w : World) :
    Calls Try.prog 24 #[] w fun e w' => e = .returned (.bool true) ∧ Below w.heap.size w w' := by
  go_enter Try.func24, Try.ntmps24
  go_wp2_with fail
  refine (Pict.is_any _ (by omega) (by omega) _).mono ?_; rintro e w1 ⟨rfl, h1⟩; rw [q1]
  go_wp2_with fail
  refine (Pict.is_any _ (by omega) (by omega) _).mono ?_; rintro e w2 ⟨rfl, h2⟩; rw [q2]
  have h2 := h1.trans (h2.mono h1.size)
  clear h1
  go_wp2_with fail
  refine (Pict.is_any _ (by omega) (by omega) _).mono ?_; rintro e w3 ⟨rfl, h3⟩; rw [q3]
  have h3 := h2.trans (h3.mono h2.size)
  clear h2
  go_wp2_with fail
  refine (Pict.is_any _ (by omega) (by omega) _).mono ?_; rintro e w4 ⟨rfl, h4⟩; rw [q4]
  have h4 := h3.trans (h4.mono h3.size)
  clear h3
  go_wp2
  go_ret
  exact ⟨rfl, h4⟩

theorem pict_any (r : Int) (hr1 : -2147483648 ≤ r) (hr2 : r ≤ 2147483647) (w : World) :
    Calls Try.prog 10 #[.int .i32 r] w fun e w' => e = .returned (.bool true) ∧ Below w.heap.size w w' := by
  have ho := pict_other r
  have C1 := Pict.is_any r hr1 hr2
  have C2 := Pict.ref_any r hr1 hr2
  have C3 := Gcb.of_any r hr1 hr2
  cases hb : Pict.isB r <;> rw [hb] at C1 C2 ho
  · have C1 := Lib.hid C1
    have C2 := Lib.hid C2
    clear ho hb C3
    go_enter Try.func10, Try.ntmps10
    go_wp2_with fail
    refine (C1.out _).mono ?_; rintro e w1 ⟨rfl, h1⟩
    go_wp2_with fail
    refine (C2.out _).mono ?_; rintro e w2 ⟨rfl, h2⟩
    have h2 := h1.trans (h2.mono h1.size)
    clear h1
    go_wp2_with fail
    refine (pworks_any _).mono ?_; rintro e w3 ⟨rfl, h3⟩
    have h3 := h2.trans (h3.mono h2.size)
    clear h2
    go_wp2_with fail
    refine (C1.out _).mono ?_; rintro e w4 ⟨rfl, h4⟩
    have h4 := h3.trans (h4.mono h3.size)
    clear h3
    go_wp2
    go_ret
    exact ⟨rfl, h4⟩
  · rw [ho rfl] at C3
    have C1 := Lib.hid C1
    have C2 := Lib.hid C2
    have C3 := Lib.hid C3
    clear ho hb
    go_enter Try.func10, Try.ntmps10
    go_wp2_with fail
    refine (C1.out _).mono ?_; rintro e w1 ⟨rfl, h1⟩
    go_wp2_with fail
    refine (C2.out _).mono ?_; rintro e w2 ⟨rfl, h2⟩
    have h2 := h1.trans (h2.mono h1.size)
    clear h1
    go_wp2_with fail
    refine (pworks_any _).mono ?_; rintro e w3 ⟨rfl, h3⟩
    have h3 := h2.trans (h3.mono h2.size)
    clear h2
    go_wp2_with fail
    refine (C1.out _).mono ?_; rintro e w4 ⟨rfl, h4⟩
    have h4 := h3.trans (h4.mono h3.size)
    clear h3
    go_wp2_with fail
    refine (C3.out _).mono ?_; rintro e w5 ⟨rfl, h5⟩
    have h5 := h4.trans (h5.mono h4.size)
    clear h4
    go_wp2
    go_ret
    exact ⟨rfl, h5⟩

theorem k1 : Conj.val 2325 = 1 := by kernel_rfl
theorem k2 : Conj.val 2381 = 2 := by kernel_rfl
theorem k3 : Conj.val 8205 = 3 := by kernel_rfl
theorem k4 : Conj.val 97 = 0 := by kernel_rfl

theorem cworks_any (w : World) :
    Calls Try.prog 16 #[] w fun e w' => e = .returned (.bool true) ∧ Below w.heap.size w w' := by
  go_enter Try.func16, Try.ntmps16
  go_wp2_with fail
  refine (Conj.of_any _ (by omega) (by omega) _).mono ?_; rintro e w1 ⟨rfl, h1⟩; rw [k1]
  go_wp2_with fail
  refine (Conj.of_any _ (by omega) (by omega) _).mono ?_; rintro e w2 ⟨rfl, h2⟩; rw [k2]
  have h2 := h1.trans (h2.mono h1.size)
  clear h1
  go_wp2_with fail
  refine (Conj.of_any _ (by omega) (by omega) _).mono ?_; rintro e w3 ⟨rfl, h3⟩; rw [k3]
  have h3 := h2.trans (h3.mono h2.size)
  clear h2
  go_wp2_with fail
  refine (Conj.of_any _ (by omega) (by omega) _).mono ?_; rintro e w4 ⟨rfl, h4⟩; rw [k4]
  have h4 := h3.trans (h4.mono h3.size)
  clear h3
  go_wp2
  go_ret
  exact ⟨rfl, h4⟩

theorem conj_any (r : Int) (hr1 : -2147483648 ≤ r) (hr2 : r ≤ 2147483647) (w : World) :
    Calls Try.prog 7 #[.int .i32 r] w fun e w' => e = .returned (.bool true) ∧ Below w.heap.size w w' := by
  have ho := conj_class r
  have C1 := Lib.hid (Conj.of_any r hr1 hr2)
  have C2 := Lib.hid (Conj.ref_val r hr1 hr2)
  have C3 := Lib.hid (Gcb.of_any r hr1 hr2)
  generalize Conj.val r = c at *
  generalize Gcb.val r = g at *
  by_cases hc : c < 2
  · have hd : decide (c < 2) = true := by simp; omega
    clear ho C3
    go_enter Try.func7, Try.ntmps7
    go_wp2_with fail
    refine (C1.out _).mono ?_; rintro e w1 ⟨rfl, h1⟩
    go_wp2_with fail
    refine (C2.out _).mono ?_; rintro e w2 ⟨rfl, h2⟩
    have h2 := h1.trans (h2.mono h1.size)
    clear h1
    go_wp2_with fail
    refine (cworks_any _).mono ?_; rintro e w3 ⟨rfl, h3⟩
    have h3 := h2.trans (h3.mono h2.size)
    clear h2
    go_wp2_with fail
    refine (C1.out _).mono ?_; rintro e w4 ⟨rfl, h4⟩
    have h4 := h3.trans (h4.mono h3.size)
    clear h3
    go_wp2
    go_ret
    exact ⟨rfl, h4⟩
  · have hd : decide (c < 2) = false := by simp; omega
    rcases ho (by omega) with rfl | rfl
    all_goals
      go_enter Try.func7, Try.ntmps7
      go_wp2_with fail
      refine (C1.out _).mono ?_; rintro e w1 ⟨rfl, h1⟩
      go_wp2_with fail
      refine (C2.out _).mono ?_; rintro e w2 ⟨rfl, h2⟩
      have h2 := h1.trans (h2.mono h1.size)
      clear h1
      go_wp2_with fail
      refine (cworks_any _).mono ?_; rintro e w3 ⟨rfl, h3⟩
      have h3 := h2.trans (h3.mono h2.size)
      clear h2
      go_wp2_with fail
      refine (C1.out _).mono ?_; rintro e w4 ⟨rfl, h4⟩
      have h4 := h3.trans (h4.mono h3.size)
      clear h3
      go_wp2_with fail
      refine (C3.out _).mono ?_; rintro e w5 ⟨rfl, h5⟩
      have h5 := h4.trans (h5.mono h4.size)
      clear h4
      first
        | (go_wp2_with fail
           refine (C3.out _).mono ?_; rintro e w6 ⟨rfl, h6⟩
           have h6 := h5.trans (h6.mono h5.size)
           clear h5
           go_wp2
           go_ret
           exact ⟨rfl, h6⟩)
        | (go_wp2
           go_ret
           exact ⟨rfl, h5⟩)

end Go.Proofs.Ytdfocobcchmjfaa.Tells

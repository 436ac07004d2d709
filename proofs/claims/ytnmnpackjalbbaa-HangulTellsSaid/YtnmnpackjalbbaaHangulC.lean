/-
  Walks of the statements of layer 8: HangulTells, HangulJoins.
-/
import Derived.Test.YtnmnpackjalbbaaHangulB
namespace Go.Proofs.Ytnmnpackjalbbaa.Hangul
open Go.RowKit

theorem s1 : hL 44033 = 4352 := by decide
theorem s2 : hV 44033 = 4449 := by decide
theorem s3 : hT 44033 = 4520 := by decide

set_option maxHeartbeats 400000 in
theorem works_any (w : World) :
    Calls Try.prog 19 #[] w fun e w' => e = .returned (.bool true) ∧ w = w' := by
  go_enter Try.func19, Try.ntmps19
  go_wp2_with (first | (go_at_call 14; refine (split_any _ _).mono ?_; rintro e w' ⟨rfl, rfl⟩; rw [s1, s2, s3]) | go_in)
  go_ret
  exact ⟨rfl, rfl⟩

theorem hL_pos (r : Int) : sylB r = decide (0 < hL r) := by
  unfold sylB hL
  rw [decide_eq_decide]
  split <;> omega

theorem bds (r : Int) : 0 ≤ hL r ∧ hL r ≤ 5000 ∧ 0 ≤ hV r ∧ hV r ≤ 5000 ∧ 0 ≤ hT r ∧ hT r ≤ 5000 := by
  unfold hL hV hT
  split <;> split <;> omega

set_option maxHeartbeats 400000 in
theorem tells_any (r : Int) (hr1 : -2147483648 ≤ r) (hr2 : r ≤ 2147483647) (w : World) :
    Calls Try.prog 3 #[.int .i32 r] w fun e w' => e = .returned (.bool true) ∧ w = w' := by
  have hs := hL_pos r
  have hb := bds r
  obtain ⟨b1, b2, b3, b4, b5, b6⟩ := hb
  go_enter Try.func3, Try.ntmps3
  go_wp2_with (first
    | (go_at_call 14; refine (split_any _ _).mono ?_; rintro e w' ⟨rfl, rfl⟩)
    | (go_at_call 15; refine (rsplit_any _ hr1 hr2 _).mono ?_; rintro e w' ⟨rfl, rfl⟩)
    | (go_at_call 16; refine (syl_any _ _).mono ?_; rintro e w' ⟨rfl, rfl⟩)
    | (go_at_call 17; refine (class_any _ _).mono ?_; rintro e w' ⟨rfl, rfl⟩)
    | (go_at_call 18; refine (rclass_any _ hr1 hr2 _).mono ?_; rintro e w' ⟨rfl, rfl⟩)
    | (go_at_call 19; refine (works_any _).mono ?_; rintro e w' ⟨rfl, rfl⟩))
  go_ret
  exact ⟨rfl, rfl⟩

end Go.Proofs.Ytnmnpackjalbbaa.Hangul

/-
  The walk of pairs.Join.
-/
import Derived.Test.YtcbfmokafmagpaaGreatPairs
namespace Go.Proofs.YtcbfmokafmagpaaGreat.Pairs
set_option linter.unusedSimpArgs false
set_option linter.unusedVariables false
open Go.RowKit

set_option maxHeartbeats 1000000 in
theorem join_core (a b x y : Int) (HX : Hid (cls a = x)) (HY : Hid (cls b = y)) (w : World) :
    Calls Tryz.prog 90 #[.int .i64 a, .int .i64 b] w fun e w' => e = .returned (.int .i64 (pj x y)) ∧ w = w' := by
  go_enter Tryz.func90, Tryz.ntmps90
  go_wp2_with fail
  refine (class_any a _).mono ?_; rintro e w' ⟨rfl, rfl⟩
  rw [HX.out]
  go_wp2_with fail
  refine (class_any b _).mono ?_; rintro e w' ⟨rfl, rfl⟩
  rw [HY.out]
  go_wp2_with (first
    | (go_at_call 111; refine (breaks_any _ _).mono ?_; rintro e w' ⟨rfl, rfl⟩)
    | (go_at_call 112; refine (syllable_any _ _ _).mono ?_; rintro e w' ⟨rfl, rfl⟩))
  all_goals go_ret
  all_goals (refine ⟨ret_int ?_, rfl⟩; unfold pj; clear HX HY; try simp_all)

theorem join_any (a b : Int) (w : World) :
    Calls Tryz.prog 90 #[.int .i64 a, .int .i64 b] w fun e w' => e = .returned (.int .i64 (pj (cls a) (cls b))) ∧ w = w' :=
  join_core a b _ _ (Lib.hid rfl) (Lib.hid rfl) w

end Go.Proofs.YtcbfmokafmagpaaGreat.Pairs

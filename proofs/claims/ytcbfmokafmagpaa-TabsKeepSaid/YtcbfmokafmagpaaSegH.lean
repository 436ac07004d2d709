/-
  The walk of the reference of layer 15: Joins.
-/
import Derived.Test.YtcbfmokafmagpaaSegG
import Derived.Test.YtcbfmokafmagpaaPairsC
import Derived.Lib.QuietBelow
import Derived.IntWalk
namespace Go.Proofs.Ytcbfmokafmagpaa.Seg
set_option linter.unusedSimpArgs false
set_option linter.unusedVariables false
open Go.RowKit Mem

theorem riRun_le (ps : Nat → P4) (n : Nat) : riRun ps n ≤ n := by
  induction n with
  | zero => exact Nat.le_refl _
  | succ n ih => simp only [riRun]; split <;> omega

theorem odd_int (n : Nat) : (((n : Int) % 2 == 1) : Bool) = (n % 2 == 1) := by
  rcases Nat.mod_two_eq_zero_or_one n with h | h
  · have : (n : Int) % 2 = 0 := by omega
    rw [h, this]; rfl
  · have : (n : Int) % 2 = 1 := by omega
    rw [h, this]; rfl

end Go.Proofs.Ytcbfmokafmagpaa.Seg

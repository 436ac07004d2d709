/-
  The reference of layer 16: Props, Starts.
  The reference of layer 16: Clusters.
-/
import Derived.Test.YtcbfmokafmagpaaClone
import Derived.Test.YtcbfmokafmagpaaSegH
import Derived.Test.YtcbfmokafmagpaaClus
import Derived.IntWalk
namespace Go.Proofs.Ytcbfmokafmagpaa.Gra
set_option linter.unusedSimpArgs false
set_option linter.unusedVariables false
open Go Go.RowKit Go.Shelf Mem Turn GraLaw Same

end Go.Proofs.Ytcbfmokafmagpaa.Gra

namespace Go.Proofs.Ytcbfmokafmagpaa.Gra
set_option linter.unusedSimpArgs false
set_option linter.unusedVariables false
open Go Go.RowKit Go.Shelf Mem Turn GraLaw Same

theorem bnd_nums (J : Nat → Bool) (n : Nat) : nums (starts J n) ++ [.int .i64 (n : Int)] = nums (bnd J n) := by simp [nums, bnd]
theorem nums_get {l : List Nat} {k x : Nat} (h : l[k]? = some x) : (nums l)[k]? = some (.int .i64 (x : Int)) := by simp [nums, h]

end Go.Proofs.Ytcbfmokafmagpaa.Gra

/-
  Layings of the shelf's contracts (plain form), printed by gen_lays.py.
-/
import Derived.Shelf.Spec.SlicesInsertGrow
import Derived.Shelf.Slices.Cells
import Derived.Shelf.Slices.SearchI
import Derived.Shelf.Slices.Empties
import Derived.Test.YtcbfmokafmagpaaMem
namespace Go.Proofs.Ytcbfmokafmagpaa.LaysInts
set_option linter.unusedVariables false
open Go Go.RowKit Go.Shelf Go.Proofs

def laysInsert_ren : Go.Shelf.Ren := ⟨fun | 21 => 37 | 27 => 57 | 28 => 58 | 35 => 71 | 39 => 81 | n => n, fun | 0 => 0 | 3 => 3 | 4 => 4 | 22 => 34 | n => n, fun n => n⟩
theorem laysInsert : Lays2.n21 Try.prog laysInsert_ren where
  mixed := by kernel_rfl
  f21 := Try.func37.trans (congrArg some (by kernel_rfl))
  f27 := Try.func57.trans (congrArg some (by kernel_rfl))
  f28 := Try.func58.trans (congrArg some (by kernel_rfl))
  f35 := Try.func71.trans (congrArg some (by kernel_rfl))
  f39 := Try.func81.trans (congrArg some (by kernel_rfl))
  t0 := Try.underlying0
  a0 := Try.isAgg0
  z0 := Try.sizeOf0
  v0 := Try.zeroValue0
  t3 := Try.underlying3
  a3 := Try.isAgg3
  z3 := Try.sizeOf3
  v3 := Try.zeroValue3
  t4 := Try.underlying4
  a4 := Try.isAgg4
  z4 := Try.sizeOf4
  v4 := Try.zeroValue4
  t22 := Try.underlying34
  a22 := Try.isAgg34
  z22 := Try.sizeOf34
  v22 := Try.zeroValue34
  i3 := by kernel_rfl

def laysDelete_ren : Go.Shelf.Ren := ⟨fun | 23 => 38 | n => n, fun | 0 => 0 | 3 => 3 | 4 => 4 | 22 => 34 | n => n, fun n => n⟩
theorem laysDelete : Lays2.n23 Try.prog laysDelete_ren where
  mixed := by kernel_rfl
  f23 := Try.func38.trans (congrArg some (by kernel_rfl))
  t0 := Try.underlying0
  a0 := Try.isAgg0
  z0 := Try.sizeOf0
  v0 := Try.zeroValue0
  t3 := Try.underlying3
  a3 := Try.isAgg3
  z3 := Try.sizeOf3
  v3 := Try.zeroValue3
  t4 := Try.underlying4
  a4 := Try.isAgg4
  z4 := Try.sizeOf4
  v4 := Try.zeroValue4
  t22 := Try.underlying34
  a22 := Try.isAgg34
  z22 := Try.sizeOf34
  v22 := Try.zeroValue34
  i3 := by kernel_rfl

def laysSearch_ren : Go.Shelf.Ren := ⟨fun | 25 => 36 | 31 => 55 | 32 => 56 | 37 => 70 | n => n, fun | 0 => 0 | 3 => 3 | 4 => 4 | 22 => 34 | 40 => 79 | n => n, fun n => n⟩
theorem laysSearch : Lays2.n25 Try.prog laysSearch_ren where
  mixed := by kernel_rfl
  f25 := Try.func36.trans (congrArg some (by kernel_rfl))
  f31 := Try.func55.trans (congrArg some (by kernel_rfl))
  f32 := Try.func56.trans (congrArg some (by kernel_rfl))
  f37 := Try.func70.trans (congrArg some (by kernel_rfl))
  t0 := Try.underlying0
  a0 := Try.isAgg0
  z0 := Try.sizeOf0
  v0 := Try.zeroValue0
  t3 := Try.underlying3
  a3 := Try.isAgg3
  z3 := Try.sizeOf3
  v3 := Try.zeroValue3
  t4 := Try.underlying4
  a4 := Try.isAgg4
  z4 := Try.sizeOf4
  v4 := Try.zeroValue4
  t22 := Try.underlying34
  a22 := Try.isAgg34
  z22 := Try.sizeOf34
  v22 := Try.zeroValue34
  t40 := Try.underlying79
  a40 := Try.isAgg79
  z40 := Try.sizeOf79
  v40 := Try.zeroValue79

end Go.Proofs.Ytcbfmokafmagpaa.LaysInts

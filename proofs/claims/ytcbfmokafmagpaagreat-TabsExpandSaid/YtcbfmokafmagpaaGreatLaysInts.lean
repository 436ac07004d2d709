/-
  Layings of the shelf's contracts (plain form), printed by gen_lays.py.
-/
import Derived.Shelf.Spec.SlicesInsertGrow
import Derived.Shelf.Slices.Cells
import Derived.Shelf.Slices.SearchI
import Derived.Shelf.Slices.Empties
import Derived.Test.YtcbfmokafmagpaaGreatMem
namespace Go.Proofs.YtcbfmokafmagpaaGreat.LaysInts
set_option linter.unusedVariables false
open Go Go.RowKit Go.Shelf Go.Proofs

def laysInsert_ren : Go.Shelf.Ren := ⟨fun | 21 => 53 | 27 => 72 | 28 => 73 | 35 => 89 | 39 => 109 | n => n, fun | 0 => 0 | 3 => 3 | 4 => 4 | 22 => 33 | n => n, fun n => n⟩
theorem laysInsert : Lays2.n21 Tryz.prog laysInsert_ren where
  mixed := by kernel_rfl
  f21 := Tryz.func53.trans (congrArg some (by kernel_rfl))
  f27 := Tryz.func72.trans (congrArg some (by kernel_rfl))
  f28 := Tryz.func73.trans (congrArg some (by kernel_rfl))
  f35 := Tryz.func89.trans (congrArg some (by kernel_rfl))
  f39 := Tryz.func109.trans (congrArg some (by kernel_rfl))
  t0 := Tryz.underlying0
  a0 := Tryz.isAgg0
  z0 := Tryz.sizeOf0
  v0 := Tryz.zeroValue0
  t3 := Tryz.underlying3
  a3 := Tryz.isAgg3
  z3 := Tryz.sizeOf3
  v3 := Tryz.zeroValue3
  t4 := Tryz.underlying4
  a4 := Tryz.isAgg4
  z4 := Tryz.sizeOf4
  v4 := Tryz.zeroValue4
  t22 := Tryz.underlying33
  a22 := Tryz.isAgg33
  z22 := Tryz.sizeOf33
  v22 := Tryz.zeroValue33
  i3 := by kernel_rfl

def laysDelete_ren : Go.Shelf.Ren := ⟨fun | 23 => 54 | n => n, fun | 0 => 0 | 3 => 3 | 4 => 4 | 22 => 33 | n => n, fun n => n⟩
theorem laysDelete : Lays2.n23 Tryz.prog laysDelete_ren where
  mixed := by kernel_rfl
  f23 := Tryz.func54.trans (congrArg some (by kernel_rfl))
  t0 := Tryz.underlying0
  a0 := Tryz.isAgg0
  z0 := Tryz.sizeOf0
  v0 := Tryz.zeroValue0
  t3 := Tryz.underlying3
  a3 := Tryz.isAgg3
  z3 := Tryz.sizeOf3
  v3 := Tryz.zeroValue3
  t4 := Tryz.underlying4
  a4 := Tryz.isAgg4
  z4 := Tryz.sizeOf4
  v4 := Tryz.zeroValue4
  t22 := Tryz.underlying33
  a22 := Tryz.isAgg33
  z22 := Tryz.sizeOf33
  v22 := Tryz.zeroValue33
  i3 := by kernel_rfl

def laysSearch_ren : Go.Shelf.Ren := ⟨fun | 25 => 52 | 31 => 70 | 32 => 71 | 37 => 88 | n => n, fun | 0 => 0 | 3 => 3 | 4 => 4 | 22 => 33 | 40 => 76 | n => n, fun n => n⟩
theorem laysSearch : Lays2.n25 Tryz.prog laysSearch_ren where
  mixed := by kernel_rfl
  f25 := Tryz.func52.trans (congrArg some (by kernel_rfl))
  f31 := Tryz.func70.trans (congrArg some (by kernel_rfl))
  f32 := Tryz.func71.trans (congrArg some (by kernel_rfl))
  f37 := Tryz.func88.trans (congrArg some (by kernel_rfl))
  t0 := Tryz.underlying0
  a0 := Tryz.isAgg0
  z0 := Tryz.sizeOf0
  v0 := Tryz.zeroValue0
  t3 := Tryz.underlying3
  a3 := Tryz.isAgg3
  z3 := Tryz.sizeOf3
  v3 := Tryz.zeroValue3
  t4 := Tryz.underlying4
  a4 := Tryz.isAgg4
  z4 := Tryz.sizeOf4
  v4 := Tryz.zeroValue4
  t22 := Tryz.underlying33
  a22 := Tryz.isAgg33
  z22 := Tryz.sizeOf33
  v22 := Tryz.zeroValue33
  t40 := Tryz.underlying76
  a40 := Tryz.isAgg76
  z40 := Tryz.sizeOf76
  v40 := Tryz.zeroValue76

end Go.Proofs.YtcbfmokafmagpaaGreat.LaysInts

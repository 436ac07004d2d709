/-
  Functions that make tables, run by the machine to their return.
-/
import Derived.Test.YtihanlahegngoaaTab
namespace Go.Proofs.Ytihanlahegngoaa.EastTab
set_option linter.unusedSimpArgs false
set_option linter.unusedVariables false
open Go.RowKit Mem Tab

noncomputable def eastRows : List (List Value) := rowsOf Try.f114
noncomputable def east : List Int := eastRows.flatten.map numOf
theorem east_cells : eastRows.flatten = east.map (Value.int .i64) := by kernel_rfl
theorem east_run (w : World) (cs : List Frame) : runN Try.prog 129 (lone (Frame.enter Try.prog 114 #[] .normal) cs w) =
  .next (lone { fn := 114, tmps := (Value.slice (some ⟨w.heap.size, 0, none⟩) 119 119 :: eastRows.map (fun r => Value.agg r.toArray) ++ [Value.slice (some ⟨w.heap.size, 0, none⟩) 119 119]).toArray, todo := [.code .ret], defers := [], mode := .returning, kind := .normal } cs
    (w.alloc (.cells eastRows.flatten.toArray 95))) := by kernel_rfl
theorem east_any (w : World) : Calls Try.prog 114 #[] w (TabPost w 119 .i64 east) :=
  (calls_of_runN (F := Try.f114) (east_run w) Try.func114 (by kernel_rfl)).mono (tab_post east_cells)
theorem east_len : east.length = 357 := by kernel_rfl

end Go.Proofs.Ytihanlahegngoaa.EastTab

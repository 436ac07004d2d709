/-
  Functions that make tables, run by the machine to their return.
-/
import Derived.Test.YtihanlahegngoaaTab
namespace Go.Proofs.Ytihanlahegngoaa.PictTab
set_option linter.unusedSimpArgs false
set_option linter.unusedVariables false
open Go.RowKit Mem Tab

noncomputable def pictRows : List (List Value) := rowsOf Try.f110
noncomputable def pict : List Int := pictRows.flatten.map numOf
theorem pict_cells : pictRows.flatten = pict.map (Value.int .i32) := by kernel_rfl
theorem pict_run (w : World) (cs : List Frame) : runN Try.prog 88 (lone (Frame.enter Try.prog 110 #[] .normal) cs w) =
  .next (lone { fn := 110, tmps := (Value.slice (some ⟨w.heap.size, 0, none⟩) 78 78 :: pictRows.map (fun r => Value.agg r.toArray) ++ [Value.slice (some ⟨w.heap.size, 0, none⟩) 78 78]).toArray, todo := [.code .ret], defers := [], mode := .returning, kind := .normal } cs
    (w.alloc (.cells pictRows.flatten.toArray 98))) := by kernel_rfl
theorem pict_any (w : World) : Calls Try.prog 110 #[] w (TabPost w 78 .i32 pict) :=
  (calls_of_runN (F := Try.f110) (pict_run w) Try.func110 (by kernel_rfl)).mono (tab_post pict_cells)
theorem pict_len : pict.length = 156 := by kernel_rfl

end Go.Proofs.Ytihanlahegngoaa.PictTab

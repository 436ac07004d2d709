/-
  Functions that make tables, run by the machine to their return.
-/
import Derived.Test.YtihanlahegngoaaTab
namespace Go.Proofs.Ytihanlahegngoaa.PictTab
set_option linter.unusedSimpArgs false
set_option linter.unusedVariables false
open Go.RowKit Mem Tab

noncomputable def l1Rows : List (List Value) := rowsOf Try.f88
noncomputable def l1 : List Int := l1Rows.flatten.map numOf
theorem l1_cells : l1Rows.flatten = l1.map (Value.int .i64) := by kernel_rfl
theorem l1_run (w : World) (cs : List Frame) : runN Try.prog 88 (lone (Frame.enter Try.prog 88 #[] .normal) cs w) =
  .next (lone { fn := 88, tmps := (Value.slice (some ⟨w.heap.size, 0, none⟩) 78 78 :: l1Rows.map (fun r => Value.agg r.toArray) ++ [Value.slice (some ⟨w.heap.size, 0, none⟩) 78 78]).toArray, todo := [.code .ret], defers := [], mode := .returning, kind := .normal } cs
    (w.alloc (.cells l1Rows.flatten.toArray 83))) := by kernel_rfl
theorem l1_any (w : World) : Calls Try.prog 88 #[] w (TabPost w 78 .i64 l1) :=
  (calls_of_runN (F := Try.f88) (l1_run w) Try.func88 (by kernel_rfl)).mono (tab_post l1_cells)
theorem l1_len : l1.length = 156 := by kernel_rfl

end Go.Proofs.Ytihanlahegngoaa.PictTab

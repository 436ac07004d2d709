/-
  Functions that make tables, run by the machine to their return.
-/
import Derived.Test.YtihanlahegngoaaTab
namespace Go.Proofs.Ytihanlahegngoaa.GcbTab
set_option linter.unusedSimpArgs false
set_option linter.unusedVariables false
open Go.RowKit Mem Tab

noncomputable def gcbRows : List (List Value) := rowsOf Try.f107
noncomputable def gcb : List Int := gcbRows.flatten.map numOf
theorem gcb_cells : gcbRows.flatten = gcb.map (Value.int .i64) := by kernel_rfl
theorem gcb_run (w : World) (cs : List Frame) : runN Try.prog 141 (lone (Frame.enter Try.prog 107 #[] .normal) cs w) =
  .next (lone { fn := 107, tmps := (Value.slice (some ⟨w.heap.size, 0, none⟩) 131 131 :: gcbRows.map (fun r => Value.agg r.toArray) ++ [Value.slice (some ⟨w.heap.size, 0, none⟩) 131 131]).toArray, todo := [.code .ret], defers := [], mode := .returning, kind := .normal } cs
    (w.alloc (.cells gcbRows.flatten.toArray 95))) := by kernel_rfl
theorem gcb_any (w : World) : Calls Try.prog 107 #[] w (TabPost w 131 .i64 gcb) :=
  (calls_of_runN (F := Try.f107) (gcb_run w) Try.func107 (by kernel_rfl)).mono (tab_post gcb_cells)
theorem gcb_len : gcb.length = 393 := by kernel_rfl

end Go.Proofs.Ytihanlahegngoaa.GcbTab

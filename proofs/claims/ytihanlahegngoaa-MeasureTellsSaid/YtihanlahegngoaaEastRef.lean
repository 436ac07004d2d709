/-
  Functions that make tables, run by the machine to their return.
-/
import Derived.Test.YtihanlahegngoaaTab
namespace Go.Proofs.Ytihanlahegngoaa.EastTab
set_option linter.unusedSimpArgs false
set_option linter.unusedVariables false
open Go.RowKit Mem Tab

noncomputable def l1Rows : List (List Value) := rowsOf Try.f92
noncomputable def l1 : List Int := l1Rows.flatten.map numOf
theorem l1_cells : l1Rows.flatten = l1.map (Value.int .i64) := by kernel_rfl
theorem l1_run (w : World) (cs : List Frame) : runN Try.prog 119 (lone (Frame.enter Try.prog 92 #[] .normal) cs w) =
  .next (lone { fn := 92, tmps := (Value.slice (some ⟨w.heap.size, 0, none⟩) 109 109 :: l1Rows.map (fun r => Value.agg r.toArray) ++ [Value.slice (some ⟨w.heap.size, 0, none⟩) 109 109]).toArray, todo := [.code .ret], defers := [], mode := .returning, kind := .normal } cs
    (w.alloc (.cells l1Rows.flatten.toArray 83))) := by kernel_rfl
theorem l1_any (w : World) : Calls Try.prog 92 #[] w (TabPost w 109 .i64 l1) :=
  (calls_of_runN (F := Try.f92) (l1_run w) Try.func92 (by kernel_rfl)).mono (tab_post l1_cells)
theorem l1_len : l1.length = 218 := by kernel_rfl

noncomputable def l2Rows : List (List Value) := rowsOf Try.f93
noncomputable def l2 : List Int := l2Rows.flatten.map numOf
theorem l2_cells : l2Rows.flatten = l2.map (Value.int .i64) := by kernel_rfl
theorem l2_run (w : World) (cs : List Frame) : runN Try.prog 13 (lone (Frame.enter Try.prog 93 #[] .normal) cs w) =
  .next (lone { fn := 93, tmps := (Value.slice (some ⟨w.heap.size, 0, none⟩) 3 3 :: l2Rows.map (fun r => Value.agg r.toArray) ++ [Value.slice (some ⟨w.heap.size, 0, none⟩) 3 3]).toArray, todo := [.code .ret], defers := [], mode := .returning, kind := .normal } cs
    (w.alloc (.cells l2Rows.flatten.toArray 83))) := by kernel_rfl
theorem l2_any (w : World) : Calls Try.prog 93 #[] w (TabPost w 3 .i64 l2) :=
  (calls_of_runN (F := Try.f93) (l2_run w) Try.func93 (by kernel_rfl)).mono (tab_post l2_cells)
theorem l2_len : l2.length = 6 := by kernel_rfl

noncomputable def l3Rows : List (List Value) := rowsOf Try.f94
noncomputable def l3 : List Int := l3Rows.flatten.map numOf
theorem l3_cells : l3Rows.flatten = l3.map (Value.int .i64) := by kernel_rfl
theorem l3_run (w : World) (cs : List Frame) : runN Try.prog 17 (lone (Frame.enter Try.prog 94 #[] .normal) cs w) =
  .next (lone { fn := 94, tmps := (Value.slice (some ⟨w.heap.size, 0, none⟩) 7 7 :: l3Rows.map (fun r => Value.agg r.toArray) ++ [Value.slice (some ⟨w.heap.size, 0, none⟩) 7 7]).toArray, todo := [.code .ret], defers := [], mode := .returning, kind := .normal } cs
    (w.alloc (.cells l3Rows.flatten.toArray 83))) := by kernel_rfl
theorem l3_any (w : World) : Calls Try.prog 94 #[] w (TabPost w 7 .i64 l3) :=
  (calls_of_runN (F := Try.f94) (l3_run w) Try.func94 (by kernel_rfl)).mono (tab_post l3_cells)
theorem l3_len : l3.length = 14 := by kernel_rfl

end Go.Proofs.Ytihanlahegngoaa.EastTab

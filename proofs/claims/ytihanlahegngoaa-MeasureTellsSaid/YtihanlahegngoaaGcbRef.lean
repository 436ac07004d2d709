/-
  Functions that make tables, run by the machine to their return.
-/
import Derived.Test.YtihanlahegngoaaTab
namespace Go.Proofs.Ytihanlahegngoaa.GcbTab
set_option linter.unusedSimpArgs false
set_option linter.unusedVariables false
open Go.RowKit Mem Tab

noncomputable def l1Rows : List (List Value) := rowsOf Try.f66
noncomputable def l1 : List Int := l1Rows.flatten.map numOf
theorem l1_cells : l1Rows.flatten = l1.map (Value.int .i64) := by kernel_rfl
theorem l1_run (w : World) (cs : List Frame) : runN Try.prog 11 (lone (Frame.enter Try.prog 66 #[] .normal) cs w) =
  .next (lone { fn := 66, tmps := (Value.slice (some ⟨w.heap.size, 0, none⟩) 1 1 :: l1Rows.map (fun r => Value.agg r.toArray) ++ [Value.slice (some ⟨w.heap.size, 0, none⟩) 1 1]).toArray, todo := [.code .ret], defers := [], mode := .returning, kind := .normal } cs
    (w.alloc (.cells l1Rows.flatten.toArray 83))) := by kernel_rfl
theorem l1_any (w : World) : Calls Try.prog 66 #[] w (TabPost w 1 .i64 l1) :=
  (calls_of_runN (F := Try.f66) (l1_run w) Try.func66 (by kernel_rfl)).mono (tab_post l1_cells)
theorem l1_len : l1.length = 2 := by kernel_rfl

noncomputable def l2Rows : List (List Value) := rowsOf Try.f67
noncomputable def l2 : List Int := l2Rows.flatten.map numOf
theorem l2_cells : l2Rows.flatten = l2.map (Value.int .i64) := by kernel_rfl
theorem l2_run (w : World) (cs : List Frame) : runN Try.prog 11 (lone (Frame.enter Try.prog 67 #[] .normal) cs w) =
  .next (lone { fn := 67, tmps := (Value.slice (some ⟨w.heap.size, 0, none⟩) 1 1 :: l2Rows.map (fun r => Value.agg r.toArray) ++ [Value.slice (some ⟨w.heap.size, 0, none⟩) 1 1]).toArray, todo := [.code .ret], defers := [], mode := .returning, kind := .normal } cs
    (w.alloc (.cells l2Rows.flatten.toArray 83))) := by kernel_rfl
theorem l2_any (w : World) : Calls Try.prog 67 #[] w (TabPost w 1 .i64 l2) :=
  (calls_of_runN (F := Try.f67) (l2_run w) Try.func67 (by kernel_rfl)).mono (tab_post l2_cells)
theorem l2_len : l2.length = 2 := by kernel_rfl

noncomputable def l3Rows : List (List Value) := rowsOf Try.f68
noncomputable def l3 : List Int := l3Rows.flatten.map numOf
theorem l3_cells : l3Rows.flatten = l3.map (Value.int .i64) := by kernel_rfl
theorem l3_run (w : World) (cs : List Frame) : runN Try.prog 26 (lone (Frame.enter Try.prog 68 #[] .normal) cs w) =
  .next (lone { fn := 68, tmps := (Value.slice (some ⟨w.heap.size, 0, none⟩) 16 16 :: l3Rows.map (fun r => Value.agg r.toArray) ++ [Value.slice (some ⟨w.heap.size, 0, none⟩) 16 16]).toArray, todo := [.code .ret], defers := [], mode := .returning, kind := .normal } cs
    (w.alloc (.cells l3Rows.flatten.toArray 83))) := by kernel_rfl
theorem l3_any (w : World) : Calls Try.prog 68 #[] w (TabPost w 16 .i64 l3) :=
  (calls_of_runN (F := Try.f68) (l3_run w) Try.func68 (by kernel_rfl)).mono (tab_post l3_cells)
theorem l3_len : l3.length = 32 := by kernel_rfl

noncomputable def l4Rows : List (List Value) := rowsOf Try.f69
noncomputable def l4 : List Int := l4Rows.flatten.map numOf
theorem l4_cells : l4Rows.flatten = l4.map (Value.int .i64) := by kernel_rfl
theorem l4_run (w : World) (cs : List Frame) : runN Try.prog 87 (lone (Frame.enter Try.prog 69 #[] .normal) cs w) =
  .next (lone { fn := 69, tmps := (Value.slice (some ⟨w.heap.size, 0, none⟩) 77 77 :: l4Rows.map (fun r => Value.agg r.toArray) ++ [Value.slice (some ⟨w.heap.size, 0, none⟩) 77 77]).toArray, todo := [.code .ret], defers := [], mode := .returning, kind := .normal } cs
    (w.alloc (.cells l4Rows.flatten.toArray 83))) := by kernel_rfl
theorem l4_any (w : World) : Calls Try.prog 69 #[] w (TabPost w 77 .i64 l4) :=
  (calls_of_runN (F := Try.f69) (l4_run w) Try.func69 (by kernel_rfl)).mono (tab_post l4_cells)
theorem l4_len : l4.length = 154 := by kernel_rfl

noncomputable def l5Rows : List (List Value) := rowsOf Try.f70
noncomputable def l5 : List Int := l5Rows.flatten.map numOf
theorem l5_cells : l5Rows.flatten = l5.map (Value.int .i64) := by kernel_rfl
theorem l5_run (w : World) (cs : List Frame) : runN Try.prog 11 (lone (Frame.enter Try.prog 70 #[] .normal) cs w) =
  .next (lone { fn := 70, tmps := (Value.slice (some ⟨w.heap.size, 0, none⟩) 1 1 :: l5Rows.map (fun r => Value.agg r.toArray) ++ [Value.slice (some ⟨w.heap.size, 0, none⟩) 1 1]).toArray, todo := [.code .ret], defers := [], mode := .returning, kind := .normal } cs
    (w.alloc (.cells l5Rows.flatten.toArray 83))) := by kernel_rfl
theorem l5_any (w : World) : Calls Try.prog 70 #[] w (TabPost w 1 .i64 l5) :=
  (calls_of_runN (F := Try.f70) (l5_run w) Try.func70 (by kernel_rfl)).mono (tab_post l5_cells)
theorem l5_len : l5.length = 2 := by kernel_rfl

noncomputable def l6Rows : List (List Value) := rowsOf Try.f71
noncomputable def l6 : List Int := l6Rows.flatten.map numOf
theorem l6_cells : l6Rows.flatten = l6.map (Value.int .i64) := by kernel_rfl
theorem l6_run (w : World) (cs : List Frame) : runN Try.prog 11 (lone (Frame.enter Try.prog 71 #[] .normal) cs w) =
  .next (lone { fn := 71, tmps := (Value.slice (some ⟨w.heap.size, 0, none⟩) 1 1 :: l6Rows.map (fun r => Value.agg r.toArray) ++ [Value.slice (some ⟨w.heap.size, 0, none⟩) 1 1]).toArray, todo := [.code .ret], defers := [], mode := .returning, kind := .normal } cs
    (w.alloc (.cells l6Rows.flatten.toArray 83))) := by kernel_rfl
theorem l6_any (w : World) : Calls Try.prog 71 #[] w (TabPost w 1 .i64 l6) :=
  (calls_of_runN (F := Try.f71) (l6_run w) Try.func71 (by kernel_rfl)).mono (tab_post l6_cells)
theorem l6_len : l6.length = 2 := by kernel_rfl

noncomputable def l7Rows : List (List Value) := rowsOf Try.f72
noncomputable def l7 : List Int := l7Rows.flatten.map numOf
theorem l7_cells : l7Rows.flatten = l7.map (Value.int .i64) := by kernel_rfl
theorem l7_run (w : World) (cs : List Frame) : runN Try.prog 18 (lone (Frame.enter Try.prog 72 #[] .normal) cs w) =
  .next (lone { fn := 72, tmps := (Value.slice (some ⟨w.heap.size, 0, none⟩) 8 8 :: l7Rows.map (fun r => Value.agg r.toArray) ++ [Value.slice (some ⟨w.heap.size, 0, none⟩) 8 8]).toArray, todo := [.code .ret], defers := [], mode := .returning, kind := .normal } cs
    (w.alloc (.cells l7Rows.flatten.toArray 83))) := by kernel_rfl
theorem l7_any (w : World) : Calls Try.prog 72 #[] w (TabPost w 8 .i64 l7) :=
  (calls_of_runN (F := Try.f72) (l7_run w) Try.func72 (by kernel_rfl)).mono (tab_post l7_cells)
theorem l7_len : l7.length = 16 := by kernel_rfl

noncomputable def l8Rows : List (List Value) := rowsOf Try.f73
noncomputable def l8 : List Int := l8Rows.flatten.map numOf
theorem l8_cells : l8Rows.flatten = l8.map (Value.int .i64) := by kernel_rfl
theorem l8_run (w : World) (cs : List Frame) : runN Try.prog 36 (lone (Frame.enter Try.prog 73 #[] .normal) cs w) =
  .next (lone { fn := 73, tmps := (Value.slice (some ⟨w.heap.size, 0, none⟩) 26 26 :: l8Rows.map (fun r => Value.agg r.toArray) ++ [Value.slice (some ⟨w.heap.size, 0, none⟩) 26 26]).toArray, todo := [.code .ret], defers := [], mode := .returning, kind := .normal } cs
    (w.alloc (.cells l8Rows.flatten.toArray 83))) := by kernel_rfl
theorem l8_any (w : World) : Calls Try.prog 73 #[] w (TabPost w 26 .i64 l8) :=
  (calls_of_runN (F := Try.f73) (l8_run w) Try.func73 (by kernel_rfl)).mono (tab_post l8_cells)
theorem l8_len : l8.length = 52 := by kernel_rfl

end Go.Proofs.Ytihanlahegngoaa.GcbTab

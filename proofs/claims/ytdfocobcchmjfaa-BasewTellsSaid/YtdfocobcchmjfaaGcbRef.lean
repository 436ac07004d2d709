/-
  Functions that make tables, run by the machine to their return.
-/
import Derived.Test.YtdfocobcchmjfaaTab
namespace Go.Proofs.Ytdfocobcchmjfaa.GcbTab
open Go.RowKit Mem Tab

noncomputable def l1Rows : List (List Value) := rowsOf Try.f84
noncomputable def l1 : List Int := l1Rows.flatten.map numOf
theorem l1_cells : l1Rows.flatten = l1.map (Value.int .i64) := by kernel_rfl
theorem l1_run (w : World) (cs : List Frame) : runN Try.prog 11 (lone (Frame.enter Try.prog 84 #[] .normal) cs w) =
  .next (lone { fn := 84, tmps := (Value.slice (some ⟨w.heap.size, 0, none⟩) 1 1 :: l1Rows.map (fun r => Value.agg r.toArray) ++ [Value.slice (some ⟨w.heap.size, 0, none⟩) 1 1]).toArray, todo := [.code .ret], defers := [], mode := .returning, kind := .normal } cs
    (w.alloc (.cells l1Rows.flatten.toArray 60))) := by kernel_rfl
theorem l1_any (w : World) : Calls Try.prog 84 #[] w (TabPost w 1 .i64 l1) :=
  (calls_of_runN (F := Try.f84) (l1_run w) Try.func84 (by kernel_rfl)).mono (tab_post l1_cells)
theorem l1_len : l1.length = 2 := by kernel_rfl

noncomputable def l2Rows : List (List Value) := rowsOf Try.f85
noncomputable def l2 : List Int := l2Rows.flatten.map numOf
theorem l2_cells : l2Rows.flatten = l2.map (Value.int .i64) := by kernel_rfl
theorem l2_run (w : World) (cs : List Frame) : runN Try.prog 11 (lone (Frame.enter Try.prog 85 #[] .normal) cs w) =
  .next (lone { fn := 85, tmps := (Value.slice (some ⟨w.heap.size, 0, none⟩) 1 1 :: l2Rows.map (fun r => Value.agg r.toArray) ++ [Value.slice (some ⟨w.heap.size, 0, none⟩) 1 1]).toArray, todo := [.code .ret], defers := [], mode := .returning, kind := .normal } cs
    (w.alloc (.cells l2Rows.flatten.toArray 60))) := by kernel_rfl
theorem l2_any (w : World) : Calls Try.prog 85 #[] w (TabPost w 1 .i64 l2) :=
  (calls_of_runN (F := Try.f85) (l2_run w) Try.func85 (by kernel_rfl)).mono (tab_post l2_cells)
theorem l2_len : l2.length = 2 := by kernel_rfl

noncomputable def l3Rows : List (List Value) := rowsOf Try.f86
noncomputable def l3 : List Int := l3Rows.flatten.map numOf
theorem l3_cells : l3Rows.flatten = l3.map (Value.int .i64) := by kernel_rfl
theorem l3_run (w : World) (cs : List Frame) : runN Try.prog 26 (lone (Frame.enter Try.prog 86 #[] .normal) cs w) =
  .next (lone { fn := 86, tmps := (Value.slice (some ⟨w.heap.size, 0, none⟩) 16 16 :: l3Rows.map (fun r => Value.agg r.toArray) ++ [Value.slice (some ⟨w.heap.size, 0, none⟩) 16 16]).toArray, todo := [.code .ret], defers := [], mode := .returning, kind := .normal } cs
    (w.alloc (.cells l3Rows.flatten.toArray 60))) := by kernel_rfl
theorem l3_any (w : World) : Calls Try.prog 86 #[] w (TabPost w 16 .i64 l3) :=
  (calls_of_runN (F := Try.f86) (l3_run w) Try.func86 (by kernel_rfl)).mono (tab_post l3_cells)
theorem l3_len : l3.length = 32 := by kernel_rfl

noncomputable def l4Rows : List (List Value) := rowsOf Try.f87
noncomputable def l4 : List Int := l4Rows.flatten.map numOf
theorem l4_cells : l4Rows.flatten = l4.map (Value.int .i64) := by kernel_rfl
theorem l4_run (w : World) (cs : List Frame) : runN Try.prog 87 (lone (Frame.enter Try.prog 87 #[] .normal) cs w) =
  .next (lone { fn := 87, tmps := (Value.slice (some ⟨w.heap.size, 0, none⟩) 77 77 :: l4Rows.map (fun r => Value.agg r.toArray) ++ [Value.slice (some ⟨w.heap.size, 0, none⟩) 77 77]).toArray, todo := [.code .ret], defers := [], mode := .returning, kind := .normal } cs
    (w.alloc (.cells l4Rows.flatten.toArray 60))) := by kernel_rfl
theorem l4_any (w : World) : Calls Try.prog 87 #[] w (TabPost w 77 .i64 l4) :=
  (calls_of_runN (F := Try.f87) (l4_run w) Try.func87 (by kernel_rfl)).mono (tab_post l4_cells)
theorem l4_len : l4.length = 154 := by kernel_rfl

noncomputable def l5Rows : List (List Value) := rowsOf Try.f88
noncomputable def l5 : List Int := l5Rows.flatten.map numOf
theorem l5_cells : l5Rows.flatten = l5.map (Value.int .i64) := by kernel_rfl
theorem l5_run (w : World) (cs : List Frame) : runN Try.prog 11 (lone (Frame.enter Try.prog 88 #[] .normal) cs w) =
  .next (lone { fn := 88, tmps := (Value.slice (some ⟨w.heap.size, 0, none⟩) 1 1 :: l5Rows.map (fun r => Value.agg r.toArray) ++ [Value.slice (some ⟨w.heap.size, 0, none⟩) 1 1]).toArray, todo := [.code .ret], defers := [], mode := .returning, kind := .normal } cs
    (w.alloc (.cells l5Rows.flatten.toArray 60))) := by kernel_rfl
theorem l5_any (w : World) : Calls Try.prog 88 #[] w (TabPost w 1 .i64 l5) :=
  (calls_of_runN (F := Try.f88) (l5_run w) Try.func88 (by kernel_rfl)).mono (tab_post l5_cells)
theorem l5_len : l5.length = 2 := by kernel_rfl

noncomputable def l6Rows : List (List Value) := rowsOf Try.f89
noncomputable def l6 : List Int := l6Rows.flatten.map numOf
theorem l6_cells : l6Rows.flatten = l6.map (Value.int .i64) := by kernel_rfl
theorem l6_run (w : World) (cs : List Frame) : runN Try.prog 11 (lone (Frame.enter Try.prog 89 #[] .normal) cs w) =
  .next (lone { fn := 89, tmps := (Value.slice (some ⟨w.heap.size, 0, none⟩) 1 1 :: l6Rows.map (fun r => Value.agg r.toArray) ++ [Value.slice (some ⟨w.heap.size, 0, none⟩) 1 1]).toArray, todo := [.code .ret], defers := [], mode := .returning, kind := .normal } cs
    (w.alloc (.cells l6Rows.flatten.toArray 60))) := by kernel_rfl
theorem l6_any (w : World) : Calls Try.prog 89 #[] w (TabPost w 1 .i64 l6) :=
  (calls_of_runN (F := Try.f89) (l6_run w) Try.func89 (by kernel_rfl)).mono (tab_post l6_cells)
theorem l6_len : l6.length = 2 := by kernel_rfl

noncomputable def l7Rows : List (List Value) := rowsOf Try.f90
noncomputable def l7 : List Int := l7Rows.flatten.map numOf
theorem l7_cells : l7Rows.flatten = l7.map (Value.int .i64) := by kernel_rfl
theorem l7_run (w : World) (cs : List Frame) : runN Try.prog 18 (lone (Frame.enter Try.prog 90 #[] .normal) cs w) =
  .next (lone { fn := 90, tmps := (Value.slice (some ⟨w.heap.size, 0, none⟩) 8 8 :: l7Rows.map (fun r => Value.agg r.toArray) ++ [Value.slice (some ⟨w.heap.size, 0, none⟩) 8 8]).toArray, todo := [.code .ret], defers := [], mode := .returning, kind := .normal } cs
    (w.alloc (.cells l7Rows.flatten.toArray 60))) := by kernel_rfl
theorem l7_any (w : World) : Calls Try.prog 90 #[] w (TabPost w 8 .i64 l7) :=
  (calls_of_runN (F := Try.f90) (l7_run w) Try.func90 (by kernel_rfl)).mono (tab_post l7_cells)
theorem l7_len : l7.length = 16 := by kernel_rfl

noncomputable def l8Rows : List (List Value) := rowsOf Try.f91
noncomputable def l8 : List Int := l8Rows.flatten.map numOf
theorem l8_cells : l8Rows.flatten = l8.map (Value.int .i64) := by kernel_rfl
theorem l8_run (w : World) (cs : List Frame) : runN Try.prog 36 (lone (Frame.enter Try.prog 91 #[] .normal) cs w) =
  .next (lone { fn := 91, tmps := (Value.slice (some ⟨w.heap.size, 0, none⟩) 26 26 :: l8Rows.map (fun r => Value.agg r.toArray) ++ [Value.slice (some ⟨w.heap.size, 0, none⟩) 26 26]).toArray, todo := [.code .ret], defers := [], mode := .returning, kind := .normal } cs
    (w.alloc (.cells l8Rows.flatten.toArray 60))) := by kernel_rfl
theorem l8_any (w : World) : Calls Try.prog 91 #[] w (TabPost w 26 .i64 l8) :=
  (calls_of_runN (F := Try.f91) (l8_run w) Try.func91 (by kernel_rfl)).mono (tab_post l8_cells)
theorem l8_len : l8.length = 52 := by kernel_rfl

end Go.Proofs.Ytdfocobcchmjfaa.GcbTab

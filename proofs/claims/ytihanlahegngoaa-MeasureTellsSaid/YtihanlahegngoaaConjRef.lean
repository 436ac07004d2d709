/-
  Functions that make tables, run by the machine to their return.
-/
import Derived.Test.YtihanlahegngoaaTab
namespace Go.Proofs.Ytihanlahegngoaa.ConjTab
set_option linter.unusedSimpArgs false
set_option linter.unusedVariables false
open Go.RowKit Mem Tab

noncomputable def l1Rows : List (List Value) := rowsOf Try.f89
noncomputable def l1 : List Int := l1Rows.flatten.map numOf
theorem l1_cells : l1Rows.flatten = l1.map (Value.int .i64) := by kernel_rfl
theorem l1_run (w : World) (cs : List Frame) : runN Try.prog 36 (lone (Frame.enter Try.prog 89 #[] .normal) cs w) =
  .next (lone { fn := 89, tmps := (Value.slice (some ⟨w.heap.size, 0, none⟩) 26 26 :: l1Rows.map (fun r => Value.agg r.toArray) ++ [Value.slice (some ⟨w.heap.size, 0, none⟩) 26 26]).toArray, todo := [.code .ret], defers := [], mode := .returning, kind := .normal } cs
    (w.alloc (.cells l1Rows.flatten.toArray 83))) := by kernel_rfl
theorem l1_any (w : World) : Calls Try.prog 89 #[] w (TabPost w 26 .i64 l1) :=
  (calls_of_runN (F := Try.f89) (l1_run w) Try.func89 (by kernel_rfl)).mono (tab_post l1_cells)
theorem l1_len : l1.length = 52 := by kernel_rfl

noncomputable def l2Rows : List (List Value) := rowsOf Try.f90
noncomputable def l2 : List Int := l2Rows.flatten.map numOf
theorem l2_cells : l2Rows.flatten = l2.map (Value.int .i64) := by kernel_rfl
theorem l2_run (w : World) (cs : List Frame) : runN Try.prog 16 (lone (Frame.enter Try.prog 90 #[] .normal) cs w) =
  .next (lone { fn := 90, tmps := (Value.slice (some ⟨w.heap.size, 0, none⟩) 6 6 :: l2Rows.map (fun r => Value.agg r.toArray) ++ [Value.slice (some ⟨w.heap.size, 0, none⟩) 6 6]).toArray, todo := [.code .ret], defers := [], mode := .returning, kind := .normal } cs
    (w.alloc (.cells l2Rows.flatten.toArray 83))) := by kernel_rfl
theorem l2_any (w : World) : Calls Try.prog 90 #[] w (TabPost w 6 .i64 l2) :=
  (calls_of_runN (F := Try.f90) (l2_run w) Try.func90 (by kernel_rfl)).mono (tab_post l2_cells)
theorem l2_len : l2.length = 12 := by kernel_rfl

noncomputable def l3Rows : List (List Value) := rowsOf Try.f91
noncomputable def l3 : List Int := l3Rows.flatten.map numOf
theorem l3_cells : l3Rows.flatten = l3.map (Value.int .i64) := by kernel_rfl
theorem l3_run (w : World) (cs : List Frame) : runN Try.prog 28 (lone (Frame.enter Try.prog 91 #[] .normal) cs w) =
  .next (lone { fn := 91, tmps := (Value.slice (some ⟨w.heap.size, 0, none⟩) 18 18 :: l3Rows.map (fun r => Value.agg r.toArray) ++ [Value.slice (some ⟨w.heap.size, 0, none⟩) 18 18]).toArray, todo := [.code .ret], defers := [], mode := .returning, kind := .normal } cs
    (w.alloc (.cells l3Rows.flatten.toArray 83))) := by kernel_rfl
theorem l3_any (w : World) : Calls Try.prog 91 #[] w (TabPost w 18 .i64 l3) :=
  (calls_of_runN (F := Try.f91) (l3_run w) Try.func91 (by kernel_rfl)).mono (tab_post l3_cells)
theorem l3_len : l3.length = 36 := by kernel_rfl

end Go.Proofs.Ytihanlahegngoaa.ConjTab

/-
  Functions that make tables, run by the machine to their return.
-/
import Derived.Test.YtihanlahegngoaaTab
namespace Go.Proofs.Ytihanlahegngoaa.ConjTab
set_option linter.unusedSimpArgs false
set_option linter.unusedVariables false
open Go.RowKit Mem Tab

noncomputable def conjRows : List (List Value) := rowsOf Try.f112
noncomputable def conj : List Int := conjRows.flatten.map numOf
theorem conj_cells : conjRows.flatten = conj.map (Value.int .i64) := by kernel_rfl
theorem conj_run (w : World) (cs : List Frame) : runN Try.prog 60 (lone (Frame.enter Try.prog 112 #[] .normal) cs w) =
  .next (lone { fn := 112, tmps := (Value.slice (some ⟨w.heap.size, 0, none⟩) 50 50 :: conjRows.map (fun r => Value.agg r.toArray) ++ [Value.slice (some ⟨w.heap.size, 0, none⟩) 50 50]).toArray, todo := [.code .ret], defers := [], mode := .returning, kind := .normal } cs
    (w.alloc (.cells conjRows.flatten.toArray 95))) := by kernel_rfl
theorem conj_any (w : World) : Calls Try.prog 112 #[] w (TabPost w 50 .i64 conj) :=
  (calls_of_runN (F := Try.f112) (conj_run w) Try.func112 (by kernel_rfl)).mono (tab_post conj_cells)
theorem conj_len : conj.length = 150 := by kernel_rfl

end Go.Proofs.Ytihanlahegngoaa.ConjTab

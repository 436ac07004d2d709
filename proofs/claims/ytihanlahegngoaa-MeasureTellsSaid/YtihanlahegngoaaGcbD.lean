/-
  The class of breaks: the program and the reference tell one value.
-/
import Derived.Test.YtihanlahegngoaaGcb
import Derived.Test.YtihanlahegngoaaGcbC
namespace Go.Proofs.Ytihanlahegngoaa.Gcb
set_option linter.unusedSimpArgs false
set_option linter.unusedVariables false
open Go.RowKit Mem Tab

theorem refv_eq (r : Int) : GcbRefW.refv r = val r := by
  have h := TabLaw.which_eq (LL := GcbRefW.LL) good.sorted (by kernel_rfl) (by kernel_rfl) r
  unfold GcbRefW.refv val tval
  cases hw : TabLaw.which GcbRefW.LL r with
  | none => rw [hw] at h; rw [if_pos (h.2.1 rfl)]
  | some k =>
    rw [hw] at h
    simp only at h
    have h1 := h.1
    rw [if_neg (by omega), ← h1]

theorem ref_val (r : Int) (hr1 : -2147483648 ≤ r) (hr2 : r ≤ 2147483647) (w : World) :
    Calls Try.prog 30 #[.int .i32 r] w fun e w' => e = .returned (.int .i64 (val r)) ∧ Below w.heap.size w w' := by
  rw [← refv_eq]; exact GcbRefW.ref_any r hr1 hr2 w

end Go.Proofs.Ytihanlahegngoaa.Gcb

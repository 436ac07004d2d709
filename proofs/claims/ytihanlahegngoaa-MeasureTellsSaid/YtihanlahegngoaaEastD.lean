/-
  Package east: the program and the reference tell one value.
-/
import Derived.Test.YtihanlahegngoaaEast
import Derived.Test.YtihanlahegngoaaEastC
namespace Go.Proofs.Ytihanlahegngoaa.East
set_option linter.unusedSimpArgs false
set_option linter.unusedVariables false
open Go.RowKit Mem Tab

theorem refv_eq (r : Int) : EastRefW.refv r = val r :=
  (TabLaw.which_eq good.sorted (by kernel_rfl) (by kernel_rfl) r).1

theorem ref_val (r : Int) (hr1 : -2147483648 ≤ r) (hr2 : r ≤ 2147483647) (w : World) :
    Calls Try.prog 58 #[.int .i32 r] w fun e w' => e = .returned (.int .i64 (val r)) ∧ Below w.heap.size w w' := by
  rw [← refv_eq]; exact EastRefW.ref_any r hr1 hr2 w

end Go.Proofs.Ytihanlahegngoaa.East

/-
  The walk of HangulJoins, with the bounds that the frame hands over.
-/
import Derived.Test.YtnmnpackjalbbaaHangulD
namespace Go.Proofs.Ytnmnpackjalbbaa.Hangul
theorem joins_all (l : Int) (_ : -2147483648 ≤ l) (_ : l ≤ 2147483647) (v : Int) (_ : -2147483648 ≤ v) (_ : v ≤ 2147483647) (t : Int) (_ : -2147483648 ≤ t) (_ : t ≤ 2147483647) (w : World) :
    Calls Try.prog 4 #[.int .i32 l, .int .i32 v, .int .i32 t] w fun e w' => e = .returned (.bool true) ∧ w = w' := joins_any l v t w
end Go.Proofs.Ytnmnpackjalbbaa.Hangul

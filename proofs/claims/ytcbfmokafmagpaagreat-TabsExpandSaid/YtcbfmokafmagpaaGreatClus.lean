/-
  grapheme.Clusters.
-/
import Derived.Test.YtcbfmokafmagpaaGreatClone
import Derived.Test.YtcbfmokafmagpaaGreatRound
import Derived.RegionTactic
namespace Go.Proofs.YtcbfmokafmagpaaGreat.Gra
set_option linter.unusedSimpArgs false
set_option linter.unusedVariables false
open Go Go.RowKit Go.Shelf Mem Turn GraLaw Same
attribute [local go_sem] Oper.semAt_some

theorem info_sl : (Tryz.prog.info? 22).map (fun i => (i.zero, i.size, i.bytes)) = some (some (.slice none 0 0), 1, 24) := by kernel_rfl

/-- the row of clusters so far: out's own value -/
def Part (w : World) (base : Nat) (v : Value) (k : Nat) (f : Nat → List Int) : Prop :=
  ∃ vs : List Value, vs.length = k ∧ w.ownsRow base 22 1 v k vs ∧
    ∀ i, i < k → ∃ a n c, vs[i]? = some (.slice a n c) ∧ w.ownsRow base 21 1 (.slice a n c) n ((f i).map (Value.int .i32))

end Go.Proofs.YtcbfmokafmagpaaGreat.Gra

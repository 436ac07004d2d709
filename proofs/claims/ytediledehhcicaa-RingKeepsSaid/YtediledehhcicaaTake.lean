/-
  Further words for a region that draws its order: guarded operations, two that come up at once, a new condition midway.
-/
import Derived.Test.YtediledehhcicaaRound
namespace Go.Proofs.Ytediledehhcicaa.Turn
set_option linter.unusedSimpArgs false
set_option linter.unusedVariables false
open Go Go.RowKit

section
variable {P : Program} {ops : Array Oper} {md : Region.Mode} {Q : Exit → Act → World → Prop}

/-- one operation alone may come up; guarded or not, it is wanted -/
theorem take_g {S : World → Prop} {L : Nat → Bool} {i fuel : Nat} {o : Oper} {listed : Array Bool} {a : Act} {w : World} (hr : Region.ready md ops listed = [i]) (ho : ops[i]? = some o) (hw : Region.wanted o (yielded ops a.tmps) = true)
    (h : ∀ K : Act → World → Prop, (∀ a' w', (L i = true ∨ S w') → wpAnyS P md ops Q S L fuel (listed.setIfInBounds i true) a' w' → K a' w') → o.wp P a w K Q) : wpAnyS P md ops Q S L (fuel + 1) listed a w := by
  refine ⟨fun h0 => (by rw [h0] at hr; cases hr), fun j hj => ?_⟩
  rw [hr, List.mem_singleton] at hj
  subst hj
  unfold wpOp
  simp only [ho, hw, if_true]
  exact .inl (h _ fun a' w' h1 h2 => ⟨h1, h2⟩)

/-- two operations may come up -/
theorem take_2 {S : World → Prop} {L : Nat → Bool} {i j fuel : Nat} {o o' : Oper} {listed : Array Bool} {a : Act} {w : World} (hr : Region.ready md ops listed = [i, j]) (ho : ops[i]? = some o) (ho' : ops[j]? = some o')
    (hw : Region.wanted o (yielded ops a.tmps) = true) (hw' : Region.wanted o' (yielded ops a.tmps) = true)
    (h : ∀ K : Act → World → Prop, (∀ a' w', (L i = true ∨ S w') → wpAnyS P md ops Q S L fuel (listed.setIfInBounds i true) a' w' → K a' w') → o.wp P a w K Q)
    (h' : ∀ K : Act → World → Prop, (∀ a' w', (L j = true ∨ S w') → wpAnyS P md ops Q S L fuel (listed.setIfInBounds j true) a' w' → K a' w') → o'.wp P a w K Q) : wpAnyS P md ops Q S L (fuel + 1) listed a w := by
  refine ⟨fun h0 => (by rw [h0] at hr; cases hr), fun k hk => ?_⟩
  rw [hr] at hk
  simp only [List.mem_cons, List.not_mem_nil, or_false] at hk
  rcases hk with rfl | rfl
  · unfold wpOp
    simp only [ho, hw, if_true]
    exact .inl (h _ fun a' w' h1 h2 => ⟨h1, h2⟩)
  · unfold wpOp
    simp only [ho', hw', if_true]
    exact .inl (h' _ fun a' w' h1 h2 => ⟨h1, h2⟩)

/-- another condition from here on -/
theorem take_re {S S' : World → Prop} {L L' : Nat → Bool} (hL : ∀ i, L i = true) : ∀ {fuel : Nat} {listed : Array Bool} {a : Act} {w : World}, wpAnyS P md ops Q S' L' fuel listed a w → wpAnyS P md ops Q S L fuel listed a w
  | 0, _, _, _, h => h
  | fuel + 1, _, _, _, h => ⟨h.1, fun i hi => wpOp_mono (fun a' w' h' => ⟨.inl (hL i), take_re hL h'.2⟩) (h.2 i hi)⟩
end

end Go.Proofs.Ytediledehhcicaa.Turn

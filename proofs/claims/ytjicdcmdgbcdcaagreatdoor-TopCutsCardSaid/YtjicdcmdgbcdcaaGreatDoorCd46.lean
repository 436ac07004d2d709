/-
  bound.Used.
  linotyperef23.Sound at sound cells.
-/
import Derived.Test.YtjicdcmdgbcdcaaGreatDoorCd15
import Derived.Test.YtjicdcmdgbcdcaaGreatDoorCd22
import Derived.Test.YtjicdcmdgbcdcaaGreatDoorCd45

section
namespace Go.Proofs.YtjicdcmdgbcdcaaGreatDoor.Scr
set_option linter.unusedSimpArgs false
set_option linter.unusedVariables false
open Go Go.RowKit Mem Turn Ring

theorem flatL_get2 {l : List (Value × Bool)} {k : Nat} {r : Value × Bool} (h : l[k]? = some r) : (flatL l)[k * 2]? = some r.1 ∧ (flatL l)[k * 2 + 1]? = some (.bool r.2) := by
  induction l generalizing k with
  | nil => cases h
  | cons x l ih =>
    cases k with
    | zero =>
      simp at h
      subst h
      simp [flatL]
    | succ k =>
      obtain ⟨a, b⟩ := ih (k := k) (by simpa using h)
      rw [show (k + 1) * 2 = k * 2 + 1 + 1 from by omega]
      exact ⟨by simpa [flatL] using a, by simpa [flatL] using b⟩
theorem OwnLines.at_ {B : Nat} {w : World} {v : Value} {L : List LineC} (h : OwnLines B w v L) : ∃ a c, v = .slice a L.length c ∧ L.length ≤ c ∧ ∀ (k : Nat) (l : LineC), L[k]? = some l → ∃ g cv, a = some ⟨g, 0, none⟩ ∧ w.cell? ⟨g, k * 2, none⟩ = some cv ∧ w.cell? ⟨g, k * 2 + 1, none⟩ = some (.bool l.2) ∧ CellsT w cv l.1 := by
  obtain ⟨rs, h1, h2⟩ := h
  obtain ⟨a, c, rfl, h3, h4⟩ := own_form h1
  refine ⟨a, c, rfl, h3, fun k l hl => ?_⟩
  have hk := (List.getElem?_eq_some_iff.1 hl).1
  obtain ⟨g, rfl, _, _, _, _, hc⟩ := h4.resolve_left (by omega)
  obtain ⟨r, hr⟩ : ∃ r, rs[k]? = some r := ⟨_, List.getElem?_eq_getElem (by rw [h2.1]; exact hk)⟩
  obtain ⟨e1, e2⟩ := h2.2 k r l hr hl
  obtain ⟨g1, g2⟩ := flatL_get2 hr
  exact ⟨g, r.1, rfl, hc _ _ g1, by rw [hc _ _ g2, e1], e2⟩
theorem OwnLines.below {B : Nat} {w w' : World} {v : Value} {L : List LineC} (h : OwnLines B w v L) (hb : Below w.heap.size w w') : OwnLines B w' v L := by
  obtain ⟨rs, h1, h2⟩ := h
  have T : Turn (fun _ => False) w w' := Turn.of_new hb
  exact ⟨rs, T.kept h1 (fun _ _ => id), h2.turn T (Free.no _ _) (Free.no _ _)⟩
theorem CellsT.below {w w' : World} {v : Value} {cs : List CellC} (h : CellsT w v cs) (hb : Below w.heap.size w w') : CellsT w' v cs :=
  h.turn (Turn.of_new hb : Turn (fun _ => False) w w') (Free.no _ _) (Free.no _ _)
end Go.Proofs.YtjicdcmdgbcdcaaGreatDoor.Scr
end
section
namespace Go.Proofs.YtjicdcmdgbcdcaaGreatDoor.Scr
set_option linter.unusedSimpArgs false
set_option linter.unusedVariables false
open Go Go.RowKit Mem Turn Ring

theorem CellsT.get2 {w : World} {v : Value} {cs : List CellC} (h : CellsT w v cs) : ∃ a c, v = .slice a cs.length c ∧ (cs.length ≤ c ∧ cs.length ≤ 4398046511104) ∧ ∀ (j : Nat) (x : CellC), cs[j]? = some x → ∃ b off tv, a = some ⟨b, off, none⟩ ∧ w.cell? ⟨b, off + j * 2, none⟩ = some (.int .i64 x.1) ∧ w.cell? ⟨b, off + j * 2 + 1, none⟩ = some tv ∧ TextAt (fun _ => True) False w tv x.2 := by
  obtain ⟨a, c, e1, e2, e3, e4⟩ := h
  refine ⟨a, c, e1, ⟨e2, by omega⟩, fun j x hx => ?_⟩
  have hj := (List.getElem?_eq_some_iff.1 hx).1
  obtain ⟨b, off, e, _, _, hc⟩ := e4.resolve_left (by omega)
  obtain ⟨g1, _, tv, g3, g4⟩ := hc j x hx
  exact ⟨b, off, tv, e, g1, g3, TextAt.mono g4 (fun _ _ _ => trivial)⟩

end Go.Proofs.YtjicdcmdgbcdcaaGreatDoor.Scr
end

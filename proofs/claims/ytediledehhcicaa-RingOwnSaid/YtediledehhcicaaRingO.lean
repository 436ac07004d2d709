/-
  What stays and what may turn: every cell keeps its kind of value.
-/
import Derived.Test.YtediledehhcicaaRingJ
namespace Go.Proofs.Ytediledehhcicaa.Ring
set_option linter.unusedSimpArgs false
set_option linter.unusedVariables false
open Go Go.RowKit Mem Turn

/-- numbers may turn into other numbers; all else stays; what may be written may still be -/
structure Soft (w w' : World) : Prop where
  num : ∀ p k x, w.cell? p = some (.int k x) → ∃ y, w'.cell? p = some (.int k y)
  other : ∀ p v, (∀ k x, v ≠ .int k x) → w.cell? p = some v → w'.cell? p = some v
  free : ∀ p, w.frozen? p = false → w'.frozen? p = false

theorem Soft.refl (w : World) : Soft w w := ⟨fun _ _ x h => ⟨x, h⟩, fun _ _ _ h => h, fun _ h => h⟩
theorem Soft.trans {a b c : World} (h : Soft a b) (k : Soft b c) : Soft a c :=
  ⟨fun p q x hx => by obtain ⟨y, hy⟩ := h.num p q x hx; exact k.num p q y hy, fun p v hv hx => k.other p v hv (h.other p v hv hx), fun p hp => k.free p (h.free p hp)⟩
theorem Soft.set {w : World} {b o : Nat} {k : IntKind} {x : Int} (h : w.cell? ⟨b, o, none⟩ = some (.int k x)) (y : Int) : Soft w (w.setCell ⟨b, o, none⟩ (.int k y)) := by
  have same : (w.setCell ⟨b, o, none⟩ (.int k y)).cell? ⟨b, o, none⟩ = some (.int k y) := World.cell?_setCell_same w ⟨b, o, none⟩ (.int k y) h
  refine ⟨fun p q z hz => ?_, fun p v hv hx => ?_, fun p hp => ?_⟩
  · by_cases e : p = ⟨b, o, none⟩
    · subst e
      rw [h] at hz
      injection hz with hz
      injection hz with hk _
      subst hk
      exact ⟨y, same⟩
    · exact ⟨z, by rw [World.cell?_setCell_other w ⟨b, o, none⟩ p (.int k y) (fun h => e h.symm)]; exact hz⟩
  · by_cases e : p = ⟨b, o, none⟩
    · subst e
      rw [h] at hx
      injection hx with hx
      exact absurd hx.symm (hv k x)
    · rw [World.cell?_setCell_other w ⟨b, o, none⟩ p (.int k y) (fun h => e h.symm)]; exact hx
  · rw [World.frozen?_setCell]; exact hp

/-- one number more is written -/
theorem soft_set {T : Nat → Prop} {w wr : World} (h : Soft w wr ∧ Turn T w wr) {b o : Nat} {k : IntKind} {x : Int} (hc : wr.cell? ⟨b, o, none⟩ = some (.int k x)) (hT : T b) (y : Int) : Soft w (wr.setCell ⟨b, o, none⟩ (.int k y)) ∧ Turn T w (wr.setCell ⟨b, o, none⟩ (.int k y)) :=
  ⟨h.1.trans (Soft.set hc y), h.2.trans (Turn.setCell (T := T) _ _ hT)⟩
theorem lines_addr {D : Nat → Prop} {fz : Prop} {w : World} {a : Option Addr} {c n : Nat} {ls : List LineC} (h : LinesAt D fz w (.slice a n c) ls) (h0 : 0 < ls.length) : ∃ b off, a = some ⟨b, off, none⟩ := by
  obtain ⟨a', c', e, h2, h3⟩ := h
  injection e with e1 e2 e3
  subst e1
  rcases h3 with h | ⟨b', off', e, _⟩
  · omega
  · exact ⟨b', off', e⟩
theorem cells_cap {D : Nat → Prop} {fz : Prop} {w : World} {a : Option Addr} {c n : Nat} {cs : List CellC} (h : CellsAt D fz w (.slice a n c) cs) : n ≤ c ∧ n * 32 ≤ 140737488355328 := by
  obtain ⟨a', c', e, h2, h3, _⟩ := h
  injection e with e1 e2 e3
  subst e1 e2 e3
  exact ⟨h2, h3⟩
theorem text_cap {D : Nat → Prop} {fz : Prop} {w : World} {a : Option Addr} {c n : Nat} {t : List Int} (h : TextAt D fz w (.slice a n c) t) : n ≤ c ∧ n * 4 ≤ 140737488355328 := by
  obtain ⟨a', c', e, h2, h3, _⟩ := h
  injection e with e1 e2 e3
  subst e1 e2 e3
  exact ⟨h2, h3⟩
/-- the blocks of what went in, and of what came out -/
def RT (B1 B2 B3 : Nat) (j : Nat) : Prop := (B1 ≤ j ∧ j < B2) ∨ B3 ≤ j
/-- a line's cells, where numbers have turned -/
theorem soft_line {D : Nat → Prop} {w : World} {b off c n : Nat} {ls : List LineC} (h : LinesAt D True w (.slice (some ⟨b, off, none⟩) n c) ls) {i : Nat} {x : LineC} (hx : ls[i]? = some x) : ∃ a2 c2, (∀ wr, Soft w wr → wr.cell? ⟨b, off + i * 2, none⟩ = some (.slice a2 x.1.length c2)) ∧ CellsAt D True w (.slice a2 x.1.length c2) x.1 := by
  obtain ⟨a, c', e, h2, h3⟩ := h
  injection e with e1 e2 e3
  subst e1 e2
  rcases h3 with h0 | ⟨b', off', e, hb, hd, hc⟩
  · have := (List.getElem?_eq_some_iff.1 hx).1; omega
  · injection e with e
    injection e with e1 e2
    subst e1 e2
    obtain ⟨cv, g1, g2, g3⟩ := hc i x hx
    obtain ⟨a2, c2, rfl, _⟩ := id g2
    exact ⟨a2, c2, fun wr hs => hs.other _ _ (fun k x h => by cases h) g1, g2⟩
/-- a cell's kind and text, where numbers have turned -/
theorem soft_cell {D : Nat → Prop} {w : World} {a : Option Addr} {c n : Nat} {cs : List CellC} (h : CellsAt D True w (.slice a n c) cs) {k : Nat} {y : CellC} (hy : cs[k]? = some y) : ∃ b off a3 c3, a = some ⟨b, off, none⟩ ∧ D b ∧ (∀ wr, Soft w wr → (∃ z, wr.cell? ⟨b, off + k * 2, none⟩ = some (.int .i64 z)) ∧ wr.frozen? ⟨b, off + k * 2, none⟩ = false ∧ wr.cell? ⟨b, off + k * 2 + 1, none⟩ = some (.slice a3 y.2.length c3)) ∧ TextAt D True w (.slice a3 y.2.length c3) y.2 := by
  obtain ⟨a, c', e, h2, _, h3⟩ := h
  injection e with e1 e2 e3
  subst e1 e2
  rcases h3 with h0 | ⟨b', off', rfl, hb, hd, hc⟩
  · have := (List.getElem?_eq_some_iff.1 hy).1; omega
  · obtain ⟨g1, g2, tv, g3, g4⟩ := hc k y hy
    obtain ⟨a3, c3, rfl, _⟩ := id g4
    exact ⟨b', off', a3, c3, rfl, hd, fun wr hs => ⟨hs.num _ _ _ g1, hs.free _ (g2 trivial), hs.other _ _ (fun k x h => by cases h) g3⟩, g4⟩
/-- a rune, where numbers have turned -/
theorem soft_rune {D : Nat → Prop} {w : World} {a : Option Addr} {c n : Nat} {t : List Int} (h : TextAt D True w (.slice a n c) t) {j : Nat} (hj : j < t.length) : ∃ b off, a = some ⟨b, off, none⟩ ∧ D b ∧ (∀ wr, Soft w wr → (∃ z, wr.cell? ⟨b, off + j, none⟩ = some (.int .i32 z)) ∧ wr.frozen? ⟨b, off + j, none⟩ = false) := by
  obtain ⟨a, c', e, h2, _, h3⟩ := h
  injection e with e1 e2 e3
  subst e1 e2
  rcases h3 with h0 | ⟨b', off', rfl, hb, hd, hc⟩
  · omega
  · obtain ⟨g1, g2⟩ := hc j _ (List.getElem?_eq_getElem hj)
    exact ⟨b', off', rfl, hd, fun wr hs => ⟨hs.num _ _ _ g1, hs.free _ (g2 trivial)⟩⟩
end Go.Proofs.Ytediledehhcicaa.Ring

/-
  Texts, cells and lines in memory, three levels deep: where they lie and what they hold.
-/
import Derived.Test.YtediledehhcicaaOwn
import Derived.Maps.AppendAt
namespace Go.Proofs.Ytediledehhcicaa.Ring
set_option linter.unusedSimpArgs false
set_option linter.unusedVariables false
open Go Go.RowKit Mem Turn

abbrev CellC := Int × List Int
abbrev LineC := List CellC × Bool

/-- the slice v reads as the text t; its block is of D; fz: and may be written -/
def TextAt (D : Nat → Prop) (fz : Prop) (w : World) (v : Value) (t : List Int) : Prop :=
  ∃ a c, v = .slice a t.length c ∧ t.length ≤ c ∧ t.length * 4 ≤ 140737488355328 ∧ (t.length = 0 ∨ ∃ b off, a = some ⟨b, off, none⟩ ∧ b < w.heap.size ∧ D b ∧ ∀ (j : Nat) (x : Int), t[j]? = some x → w.cell? ⟨b, off + j, none⟩ = some (.int .i32 x) ∧ (fz → w.frozen? ⟨b, off + j, none⟩ = false))
def CellsAt (D : Nat → Prop) (fz : Prop) (w : World) (v : Value) (cs : List CellC) : Prop :=
  ∃ a c, v = .slice a cs.length c ∧ cs.length ≤ c ∧ cs.length * 32 ≤ 140737488355328 ∧ (cs.length = 0 ∨ ∃ b off, a = some ⟨b, off, none⟩ ∧ b < w.heap.size ∧ D b ∧ ∀ (j : Nat) (x : CellC), cs[j]? = some x → w.cell? ⟨b, off + j * 2, none⟩ = some (.int .i64 x.1) ∧ (fz → w.frozen? ⟨b, off + j * 2, none⟩ = false) ∧
    ∃ tv, w.cell? ⟨b, off + j * 2 + 1, none⟩ = some tv ∧ TextAt D fz w tv x.2)
def LinesAt (D : Nat → Prop) (fz : Prop) (w : World) (v : Value) (ls : List LineC) : Prop :=
  ∃ a c, v = .slice a ls.length c ∧ ls.length ≤ c ∧ (ls.length = 0 ∨ ∃ b off, a = some ⟨b, off, none⟩ ∧ b < w.heap.size ∧ D b ∧ ∀ (j : Nat) (x : LineC), ls[j]? = some x → ∃ cv, w.cell? ⟨b, off + j * 2, none⟩ = some cv ∧ CellsAt D fz w cv x.1 ∧ w.cell? ⟨b, off + j * 2 + 1, none⟩ = some (.bool x.2))

section
variable {D D' : Nat → Prop} {fz : Prop} {w w' : World} {v : Value} {T : Nat → Prop}
theorem TextAt.turn {t : List Int} (h : TextAt D fz w v t) (ht : Turn T w w') (hD : ∀ b, D b → b < w.heap.size → ¬ T b) : TextAt D fz w' v t := by
  obtain ⟨a, c, h1, h2, h3, h4⟩ := h
  refine ⟨a, c, h1, h2, h3, h4.imp id fun ⟨b, off, e, hb, hd, hc⟩ => ⟨b, off, e, Nat.lt_of_lt_of_le hb ht.size, hd, fun j x hx => ?_⟩⟩
  obtain ⟨g1, g2⟩ := hc j x hx
  exact ⟨ht.cell g1 (hD b hd hb), fun f => (ht.frozen hb (hD b hd hb)).trans (g2 f)⟩
theorem CellsAt.turn {cs : List CellC} (h : CellsAt D fz w v cs) (ht : Turn T w w') (hD : ∀ b, D b → b < w.heap.size → ¬ T b) : CellsAt D fz w' v cs := by
  obtain ⟨a, c, h1, h2, h3, h4⟩ := h
  refine ⟨a, c, h1, h2, h3, h4.imp id fun ⟨b, off, e, hb, hd, hc⟩ => ⟨b, off, e, Nat.lt_of_lt_of_le hb ht.size, hd, fun j x hx => ?_⟩⟩
  obtain ⟨g1, g2, tv, g3, g4⟩ := hc j x hx
  exact ⟨ht.cell g1 (hD b hd hb), fun f => (ht.frozen hb (hD b hd hb)).trans (g2 f), tv, ht.cell g3 (hD b hd hb), g4.turn ht hD⟩
theorem LinesAt.turn {ls : List LineC} (h : LinesAt D fz w v ls) (ht : Turn T w w') (hD : ∀ b, D b → b < w.heap.size → ¬ T b) : LinesAt D fz w' v ls := by
  obtain ⟨a, c, h1, h2, h4⟩ := h
  refine ⟨a, c, h1, h2, h4.imp id fun ⟨b, off, e, hb, hd, hc⟩ => ⟨b, off, e, Nat.lt_of_lt_of_le hb ht.size, hd, fun j x hx => ?_⟩⟩
  obtain ⟨cv, g1, g2, g3⟩ := hc j x hx
  exact ⟨cv, ht.cell g1 (hD b hd hb), g2.turn ht hD, ht.cell g3 (hD b hd hb)⟩
theorem TextAt.mono {t : List Int} (h : TextAt D fz w v t) (hD : ∀ b, D b → b < w.heap.size → D' b) : TextAt D' fz w v t := by
  obtain ⟨a, c, h1, h2, h3, h4⟩ := h
  exact ⟨a, c, h1, h2, h3, h4.imp id fun ⟨b, off, e, hb, hd, hc⟩ => ⟨b, off, e, hb, hD b hd hb, hc⟩⟩
theorem CellsAt.mono {cs : List CellC} (h : CellsAt D fz w v cs) (hD : ∀ b, D b → b < w.heap.size → D' b) : CellsAt D' fz w v cs := by
  obtain ⟨a, c, h1, h2, h3, h4⟩ := h
  refine ⟨a, c, h1, h2, h3, h4.imp id fun ⟨b, off, e, hb, hd, hc⟩ => ⟨b, off, e, hb, hD b hd hb, fun j x hx => ?_⟩⟩
  obtain ⟨g1, g2, tv, g3, g4⟩ := hc j x hx
  exact ⟨g1, g2, tv, g3, g4.mono hD⟩
theorem LinesAt.mono {ls : List LineC} (h : LinesAt D fz w v ls) (hD : ∀ b, D b → b < w.heap.size → D' b) : LinesAt D' fz w v ls := by
  obtain ⟨a, c, h1, h2, h4⟩ := h
  refine ⟨a, c, h1, h2, h4.imp id fun ⟨b, off, e, hb, hd, hc⟩ => ⟨b, off, e, hb, hD b hd hb, fun j x hx => ?_⟩⟩
  obtain ⟨cv, g1, g2, g3⟩ := hc j x hx
  exact ⟨cv, g1, g2.mono hD, g3⟩
theorem TextAt.soft {t : List Int} (h : TextAt D fz w v t) : TextAt D False w v t := by
  obtain ⟨a, c, h1, h2, h3, h4⟩ := h
  exact ⟨a, c, h1, h2, h3, h4.imp id fun ⟨b, off, e, hb, hd, hc⟩ => ⟨b, off, e, hb, hd, fun j x hx => ⟨(hc j x hx).1, fun f => f.elim⟩⟩⟩
theorem CellsAt.soft {cs : List CellC} (h : CellsAt D fz w v cs) : CellsAt D False w v cs := by
  obtain ⟨a, c, h1, h2, h3, h4⟩ := h
  refine ⟨a, c, h1, h2, h3, h4.imp id fun ⟨b, off, e, hb, hd, hc⟩ => ⟨b, off, e, hb, hd, fun j x hx => ?_⟩⟩
  obtain ⟨g1, g2, tv, g3, g4⟩ := hc j x hx
  exact ⟨g1, fun f => f.elim, tv, g3, g4.soft⟩
theorem LinesAt.soft {ls : List LineC} (h : LinesAt D fz w v ls) : LinesAt D False w v ls := by
  obtain ⟨a, c, h1, h2, h4⟩ := h
  refine ⟨a, c, h1, h2, h4.imp id fun ⟨b, off, e, hb, hd, hc⟩ => ⟨b, off, e, hb, hd, fun j x hx => ?_⟩⟩
  obtain ⟨cv, g1, g2, g3⟩ := hc j x hx
  exact ⟨cv, g1, g2.soft, g3⟩
theorem TextAt.below {t : List Int} (h : TextAt D fz w v t) (hb : Below w.heap.size w w') : TextAt D fz w' v t := h.turn (Turn.of_new hb : Turn (fun _ => False) w w') (fun _ _ _ => id)
theorem CellsAt.below {cs : List CellC} (h : CellsAt D fz w v cs) (hb : Below w.heap.size w w') : CellsAt D fz w' v cs := h.turn (Turn.of_new hb : Turn (fun _ => False) w w') (fun _ _ _ => id)
theorem LinesAt.below {ls : List LineC} (h : LinesAt D fz w v ls) (hb : Below w.heap.size w w') : LinesAt D fz w' v ls := h.turn (Turn.of_new hb : Turn (fun _ => False) w w') (fun _ _ _ => id)
theorem TextAt.nil (D : Nat → Prop) (fz : Prop) (w : World) : TextAt D fz w (.slice none 0 0) [] := ⟨none, 0, rfl, Nat.le_refl _, by simp, .inl rfl⟩
theorem CellsAt.nil (D : Nat → Prop) (fz : Prop) (w : World) : CellsAt D fz w (.slice none 0 0) [] := ⟨none, 0, rfl, Nat.le_refl _, by simp, .inl rfl⟩
theorem LinesAt.nil (D : Nat → Prop) (fz : Prop) (w : World) : LinesAt D fz w (.slice none 0 0) [] := ⟨none, 0, rfl, Nat.le_refl _, .inl rfl⟩
end

/-- rows of cells, flat: the kind, the text's header -/
def flatC : List (Int × Value) → List Value
  | [] => []
  | r :: l => .int .i64 r.1 :: r.2 :: flatC l
def flatL : List (Value × Bool) → List Value
  | [] => []
  | r :: l => r.1 :: .bool r.2 :: flatL l
theorem flatC_app (a b : List (Int × Value)) : flatC (a ++ b) = flatC a ++ flatC b := by
  induction a with
  | nil => rfl
  | cons r l ih => simp [flatC, ih]
theorem flatL_app (a b : List (Value × Bool)) : flatL (a ++ b) = flatL a ++ flatL b := by
  induction a with
  | nil => rfl
  | cons r l ih => simp [flatL, ih]
theorem flatC_len (a : List (Int × Value)) : (flatC a).length = a.length * 2 := by
  induction a with
  | nil => rfl
  | cons r l ih => simp [flatC, ih]; omega
theorem flatL_len (a : List (Value × Bool)) : (flatL a).length = a.length * 2 := by
  induction a with
  | nil => rfl
  | cons r l ih => simp [flatL, ih]; omega
theorem flatC_get {l : List (Int × Value)} {k : Nat} {r : Int × Value} (h : l[k]? = some r) : (flatC l)[k * 2]? = some (.int .i64 r.1) ∧ (flatC l)[k * 2 + 1]? = some r.2 := by
  induction l generalizing k with
  | nil => cases h
  | cons x l ih =>
    cases k with
    | zero => simp at h; subst h; simp [flatC]
    | succ k =>
      have := ih (k := k) (by simpa using h)
      rw [show (k + 1) * 2 = k * 2 + 1 + 1 from by omega]
      simpa [flatC] using this
theorem flatL_get {l : List (Value × Bool)} {k : Nat} {r : Value × Bool} (h : l[k]? = some r) : (flatL l)[k * 2]? = some r.1 ∧ (flatL l)[k * 2 + 1]? = some (.bool r.2) := by
  induction l generalizing k with
  | nil => cases h
  | cons x l ih =>
    cases k with
    | zero => simp at h; subst h; simp [flatL]
    | succ k =>
      have := ih (k := k) (by simpa using h)
      rw [show (k + 1) * 2 = k * 2 + 1 + 1 from by omega]
      simpa [flatL] using this
theorem flatL_set {l : List (Value × Bool)} {k : Nat} (r : Value × Bool) (h : k < l.length) : ((flatL l).set (k * 2) r.1).set (k * 2 + 1) (.bool r.2) = flatL (l.set k r) := by
  induction l generalizing k with
  | nil => cases h
  | cons x l ih =>
    cases k with
    | zero => simp [flatL]
    | succ k =>
      have := ih (k := k) (by simpa using h)
      rw [show (k + 1) * 2 = k * 2 + 1 + 1 from by omega, show k * 2 + 1 + 1 + 1 = (k * 2 + 1) + 1 + 1 from by omega]
      simp [flatL, this]

/-- the text of each row -/
def TextsOf (D : Nat → Prop) (w : World) (rs : List (Int × Value)) (cs : List CellC) : Prop :=
  rs.length = cs.length ∧ ∀ (j : Nat) (r : Int × Value) (x : CellC), rs[j]? = some r → cs[j]? = some x → r.1 = x.1 ∧ TextAt D True w r.2 x.2
/-- the cells of each row -/
def CellsOf (D : Nat → Prop) (fz : Prop) (w : World) (rs : List (Value × Bool)) (ls : List LineC) : Prop :=
  rs.length = ls.length ∧ ∀ (j : Nat) (r : Value × Bool) (x : LineC), rs[j]? = some r → ls[j]? = some x → r.2 = x.2 ∧ CellsAt D fz w r.1 x.1

theorem addr_none (g j : Nat) : (⟨g, 0, none⟩ : Addr).add j = ⟨g, j, none⟩ := by
  unfold Addr.add
  split
  · rename_i h; rw [h]
  · simp
theorem own_form {w : World} {base : Nat} {e : TypeId} {size n : Nat} {v : Value} {xs : List Value} (h : w.ownsRow base e size v n xs) : ∃ a c, v = .slice a n c ∧ n ≤ c ∧ (n = 0 ∨ ∃ g, a = some ⟨g, 0, none⟩ ∧ v.ownBlock = some g ∧ base ≤ g ∧ g < w.heap.size ∧ (∀ j, w.frozen? ⟨g, j, none⟩ = false) ∧ ∀ j u, xs[j]? = some u → w.cell? ⟨g, j, none⟩ = some u) := by
  rcases h.2 with ⟨rfl, h0⟩ | ⟨g, cap, cur, rfl, hb, hg, hnc, _⟩
  · subst h0
    exact ⟨none, 0, rfl, Nat.le_refl _, .inl rfl⟩
  · refine ⟨_, cap, rfl, hnc, .inr ⟨g, rfl, rfl, hb, (Array.getElem?_eq_some_iff.1 hg).1, fun j => h.frozenAt j, fun j u hu => ?_⟩⟩
    have := h.cells (g := g) rfl j u hu
    rwa [addr_none] at this

theorem cells_of_own {D : Nat → Prop} {w : World} {base n : Nat} {v : Value} {rs : List (Int × Value)} {cs : List CellC} (h : w.ownsRow base 31 2 v n (flatC rs)) (ht : TextsOf D w rs cs) (hD : ∀ g, v.ownBlock = some g → D g) (hs : cs.length * 32 ≤ 140737488355328) : CellsAt D True w v cs := by
  have hl : rs.length = n := by have := h.1; rw [flatC_len] at this; omega
  obtain ⟨a, c, rfl, h2, h3⟩ := own_form h
  have hn : cs.length = n := by rw [← ht.1, hl]
  subst hn
  refine ⟨a, c, rfl, h2, hs, h3.imp id fun ⟨g, e, e2, hb, hg, hf, hc⟩ => ⟨g, 0, e, hg, hD g e2, fun j x hx => ?_⟩⟩
  obtain ⟨r, hr⟩ : ∃ r, rs[j]? = some r := ⟨_, List.getElem?_eq_getElem (by rw [hl]; exact (List.getElem?_eq_some_iff.1 hx).1)⟩
  obtain ⟨e1, e3⟩ := ht.2 j r x hr hx
  obtain ⟨g1, g2⟩ := flatC_get hr
  rw [Nat.zero_add]
  exact ⟨by rw [← e1]; exact hc _ _ g1, fun _ => hf _, r.2, hc _ _ g2, e3⟩
theorem lines_of_own {D : Nat → Prop} {fz : Prop} {w : World} {base n : Nat} {v : Value} {rs : List (Value × Bool)} {ls : List LineC} (h : w.ownsRow base 28 2 v n (flatL rs)) (ht : CellsOf D fz w rs ls) (hD : ∀ g, v.ownBlock = some g → D g) : LinesAt D fz w v ls := by
  have hl : rs.length = n := by have := h.1; rw [flatL_len] at this; omega
  obtain ⟨a, c, rfl, h2, h3⟩ := own_form h
  have hn : ls.length = n := by rw [← ht.1, hl]
  subst hn
  refine ⟨a, c, rfl, h2, h3.imp id fun ⟨g, e, e2, hb, hg, hf, hc⟩ => ⟨g, 0, e, hg, hD g e2, fun j x hx => ?_⟩⟩
  obtain ⟨r, hr⟩ : ∃ r, rs[j]? = some r := ⟨_, List.getElem?_eq_getElem (by rw [hl]; exact (List.getElem?_eq_some_iff.1 hx).1)⟩
  obtain ⟨e1, e3⟩ := ht.2 j r x hr hx
  obtain ⟨g1, g2⟩ := flatL_get hr
  rw [Nat.zero_add]
  exact ⟨r.1, hc _ _ g1, e3, by rw [← e1]; exact hc _ _ g2⟩
end Go.Proofs.Ytediledehhcicaa.Ring

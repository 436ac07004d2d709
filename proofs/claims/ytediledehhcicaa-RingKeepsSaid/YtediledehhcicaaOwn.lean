/-
  A loop over an iterator whose body collects: the words for its slice.
-/
import Derived.Test.YtediledehhcicaaTurn
import Derived.Test.YtediledehhcicaaSame
import Derived.Deep.Onto
import Derived.Laws.OwnMore
namespace Go.Proofs.Ytediledehhcicaa.Turn
set_option linter.unusedSimpArgs false
set_option linter.unusedVariables false
open Go Go.RowKit

theorem Turn.own3 {B : Nat} {A C : World} {e : TypeId} {size n : Nat} {v : Value} {xs : List Value} (h : Turn (Own3 B) A C) (ho : A.ownsRow (B + 3) e size v n xs) : C.ownsRow (B + 3) e size v n xs :=
  h.kept ho fun g hg hb => by have := (ho.lt g hg).1; have := hb.2; omega

/-- 'out = append(out, ..)' in a round: out in the box Bx, its row behind the loop's own blocks -/
theorem appended {W W0 w1 : World} {n₀ bx B Bx : Nat} {t e : TypeId} {size : Nat} {v v' : Value} {k m : Nat} {xs ys : List Value}
    (hT : Turn (Rnd n₀ bx B) W W0) (hv : Boxed W0 Bx t v) (hte : t ≠ e) (hrow : W0.ownsRow (B + 3) e size v k xs) (hB : Bx < B) (hn : n₀ ≤ Bx) (hx : Bx ≠ bx) (hbx : bx < B)
    (hown' : w1.ownsRow (B + 3) e size v' m ys) (hgrow : W0.grownBy w1 v.ownBlock) :
    Boxed w1 Bx t v ∧ Boxed (w1.setCell ⟨Bx, 0, none⟩ v') Bx t v' ∧ (w1.setCell ⟨Bx, 0, none⟩ v').ownsRow (B + 3) e size v' m ys ∧ Turn (Rnd n₀ bx B) W (w1.setCell ⟨Bx, 0, none⟩ v') := by
  have hv1 : Boxed w1 Bx t v := hv.kept hgrow (hv.not_row hte hrow)
  refine ⟨hv1, hv1.set v', hown'.kept (grownBy_setCell' w1 Bx v') (.inr (hv1.not_row hte hown').symm), (hT.trans (Turn.of_grown hgrow fun g e => ?_)).trans (Turn.setCell _ _ ⟨hn, hx, .inl hB⟩)⟩
  have := (hrow.lt g e).1
  exact ⟨by omega, by omega, .inr this⟩

theorem cell_new1 (w : World) (v : Value) (t : TypeId) : ∀ j u, [v][j]? = some u → (w.alloc (.cells #[v] t)).cell? ((⟨w.heap.size, 0, none⟩ : Addr).add j) = some u := by
  intro j u hj
  match j, hj with
  | 0, hj => simp at hj; subst hj; simp [Addr.add]

theorem own_slice {w : World} {base : Nat} {e : TypeId} {size n : Nat} {v : Value} {xs : List Value} (h : w.ownsRow base e size v n xs) : ∃ a c, v = .slice a n c := by
  rcases h.2 with ⟨rfl, rfl⟩ | ⟨g, cap, cur, rfl, _⟩
  · exact ⟨_, _, rfl⟩
  · exact ⟨_, _, rfl⟩

/-- rows of different types lie in different blocks -/
theorem rows_ne {w : World} {b1 b2 e1 e2 : Nat} {s1 s2 n1 n2 : Nat} {v1 v2 : Value} {x1 x2 : List Value} (h1 : w.ownsRow b1 e1 s1 v1 n1 x1) (h2 : w.ownsRow b2 e2 s2 v2 n2 x2) (hne : e1 ≠ e2) {g : Nat} (hg : v1.ownBlock = some g) : v2.ownBlock ≠ some g := by
  rcases h1.2 with ⟨rfl, _⟩ | ⟨g1, c1, cur1, rfl, _, hh1, _⟩
  · cases hg
  · rcases h2.2 with ⟨rfl, _⟩ | ⟨g2, c2, cur2, rfl, _, hh2, _⟩
    · intro h; cases h
    · intro h
      injection (show some g1 = some g from hg) with hg
      injection (show some g2 = some g from h) with h
      subst hg
      subst h
      rw [hh1] at hh2
      injection hh2 with hh2
      injection hh2 with _ hh2
      exact hne hh2

/-- what a call hands out: a slice of its own that reads as these cells -/
def Fresh (w w' : World) (e : TypeId) (size : Nat) (n : Nat) (cells : List Value) (x : Ending) : Prop :=
  ∃ v, x = .returned v ∧ w'.ownsRow w.heap.size e size v n cells ∧ Below w.heap.size w w'

/-- a slice of the call's own reads as ints -/
theorem ints_of_own {k : IntKind} {w : World} {base : Nat} {e : TypeId} {a : Option Addr} {n c : Nat} {xs : List Int} (h : w.ownsRow base e 1 (.slice a n c) n (xs.map (Value.int k))) : Same.Ints k w a n xs := by
  refine ⟨by have := h.1; simpa using this, ?_⟩
  rcases Nat.eq_zero_or_pos n with h0 | h0
  · exact .inl h0
  · rcases h.2 with ⟨h1, h2⟩ | ⟨g, cap, cur, h1, h2, h3, _⟩
    · omega
    · injection h1 with h1 h4
      subst h1
      refine .inr ⟨g, 0, rfl, (Array.getElem?_eq_some_iff.1 h3).1, fun i x hx => ?_⟩
      have := h.cells (g := g) rfl i (.int k x) (by simp [hx])
      simpa [Seg_add_none] using this
where
  Seg_add_none (b off n : Nat) : (Addr.mk b off none).add n = ⟨b, off + n, none⟩ := by
    unfold Addr.add
    split <;> simp_all

end Go.Proofs.Ytediledehhcicaa.Turn

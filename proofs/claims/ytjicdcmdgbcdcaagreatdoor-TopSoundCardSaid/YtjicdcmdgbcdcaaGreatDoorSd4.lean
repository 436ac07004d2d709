/-
  A loop over an iterator whose body collects: the words for its slice.
  Further words for a region that draws its order: guarded operations, two that come up at once, a new condition midway.
  The plain machine of clusters: what a state remembers, and what one more property does to it. No Go in sight but for pairs.Join's own plain function.
  Texts, cells and lines in memory, three levels deep: where they lie and what they hold.
  Further words for a drawn region of many operations: slots by their numbers, so that the act stays small.
-/
import Derived.Test.YtjicdcmdgbcdcaaGreatDoorSd1
import Derived.Test.YtjicdcmdgbcdcaaGreatDoorSd2
import Derived.Test.YtjicdcmdgbcdcaaGreatDoorSd3
import Derived.Deep.Onto
import Derived.Laws.OwnMore
import Derived.Maps.AppendAt
import Derived.Laws.Tables
section
namespace Go.Proofs.YtjicdcmdgbcdcaaGreatDoor.Turn
set_option linter.unusedSimpArgs false
set_option linter.unusedVariables false
open Go Go.RowKit

theorem Turn.own3 {B : Nat} {A C : World} {e : TypeId} {size n : Nat} {v : Value} {xs : List Value} (h : Turn (Own3 B) A C) (ho : A.ownsRow (B + 3) e size v n xs) : C.ownsRow (B + 3) e size v n xs :=
  h.kept ho fun g hg hb => by have := (ho.lt g hg).1; have := hb.2; omega

/-- 'out = append(out, ..)' in a round: out in the box Bx, its row behind the loop's own blocks -/
theorem appended {W W0 w1 : World} {n₀ bx B Bx : Nat} {t e : TypeId} {size : Nat} {v v' : Value} {k m : Nat} {xs ys : List Value}
    (hT : Turn (Rnd n₀ bx B) W W0) (hv : Boxed W0 Bx t v) (hte : t ≠ e) (hrow : W0.ownsRow (B + 3) e size v k xs) (hB : Bx < B) (hn : n₀ ≤ Bx) (hx : Bx ≠ bx) (hbx : bx < B)
    (hown' : w1.ownsRow (B + 3) e size v' m ys) (hgrow : W0.grownBy w1 v.ownBlock) :
    Boxed w1 Bx t v ∧ Boxed (w1.setCell ⟨Bx, 0, none⟩ v') Bx t v' ∧ (w1.setCell ⟨Bx, 0, none⟩ v').ownsRow (B + 3) e size v' m ys ∧ Turn (Rnd n₀ bx B) W (w1.setCell ⟨Bx, 0, none⟩ v') := by
  have hv1 : Boxed w1 Bx t v := hv.kept hgrow (hv.not_row hte hrow)
  refine ⟨hv1, hv1.set v', hown'.kept (grownBy_setCell' w1 Bx v') (.inr (hv1.not_row hte hown').symm), (hT.trans (Turn.of_grown hgrow fun g e => ?_)).trans (Turn.setCell _ _ ⟨hn, hx, .inl hB⟩)⟩
  have := (hrow.lt g e).1
  exact ⟨by omega, by omega, .inr this⟩

theorem cell_new1 (w : World) (v : Value) (t : TypeId) : ∀ j u, [v][j]? = some u → (w.alloc (.cells #[v] t)).cell? ((⟨w.heap.size, 0, none⟩ : Addr).add j) = some u := by
  intro j u hj
  match j, hj with
  | 0, hj => simp at hj; subst hj; simp [Addr.add]

theorem own_slice {w : World} {base : Nat} {e : TypeId} {size n : Nat} {v : Value} {xs : List Value} (h : w.ownsRow base e size v n xs) : ∃ a c, v = .slice a n c := by
  rcases h.2 with ⟨rfl, rfl⟩ | ⟨g, cap, cur, rfl, _⟩
  · exact ⟨_, _, rfl⟩
  · exact ⟨_, _, rfl⟩

/-- rows of different types lie in different blocks -/
theorem rows_ne {w : World} {b1 b2 e1 e2 : Nat} {s1 s2 n1 n2 : Nat} {v1 v2 : Value} {x1 x2 : List Value} (h1 : w.ownsRow b1 e1 s1 v1 n1 x1) (h2 : w.ownsRow b2 e2 s2 v2 n2 x2) (hne : e1 ≠ e2) {g : Nat} (hg : v1.ownBlock = some g) : v2.ownBlock ≠ some g := by
  rcases h1.2 with ⟨rfl, _⟩ | ⟨g1, c1, cur1, rfl, _, hh1, _⟩
  · cases hg
  · rcases h2.2 with ⟨rfl, _⟩ | ⟨g2, c2, cur2, rfl, _, hh2, _⟩
    · intro h; cases h
    · intro h
      injection (show some g1 = some g from hg) with hg
      injection (show some g2 = some g from h) with h
      subst hg
      subst h
      rw [hh1] at hh2
      injection hh2 with hh2
      injection hh2 with _ hh2
      exact hne hh2

/-- what a call hands out: a slice of its own that reads as these cells -/
def Fresh (w w' : World) (e : TypeId) (size : Nat) (n : Nat) (cells : List Value) (x : Ending) : Prop :=
  ∃ v, x = .returned v ∧ w'.ownsRow w.heap.size e size v n cells ∧ Below w.heap.size w w'

/-- a slice of the call's own reads as ints -/
theorem ints_of_own {k : IntKind} {w : World} {base : Nat} {e : TypeId} {a : Option Addr} {n c : Nat} {xs : List Int} (h : w.ownsRow base e 1 (.slice a n c) n (xs.map (Value.int k))) : Same.Ints k w a n xs := by
  refine ⟨by have := h.1; simpa using this, ?_⟩
  rcases Nat.eq_zero_or_pos n with h0 | h0
  · exact .inl h0
  · rcases h.2 with ⟨h1, h2⟩ | ⟨g, cap, cur, h1, h2, h3, _⟩
    · omega
    · injection h1 with h1 h4
      subst h1
      refine .inr ⟨g, 0, rfl, (Array.getElem?_eq_some_iff.1 h3).1, fun i x hx => ?_⟩
      have := h.cells (g := g) rfl i (.int k x) (by simp [hx])
      simpa [Seg_add_none] using this
where
  Seg_add_none (b off n : Nat) : (Addr.mk b off none).add n = ⟨b, off + n, none⟩ := by
    unfold Addr.add
    split <;> simp_all

end Go.Proofs.YtjicdcmdgbcdcaaGreatDoor.Turn
end
section
namespace Go.Proofs.YtjicdcmdgbcdcaaGreatDoor.Turn
set_option linter.unusedSimpArgs false
set_option linter.unusedVariables false
open Go Go.RowKit

section
variable {P : Program} {ops : Array Oper} {md : Region.Mode} {Q : Exit → Act → World → Prop}

/-- one operation alone may come up; guarded or not, it is wanted -/
theorem take_g {S : World → Prop} {L : Nat → Bool} {i fuel : Nat} {o : Oper} {listed : Array Bool} {a : Act} {w : World} (hr : Region.ready md ops listed = [i]) (ho : ops[i]? = some o) (hw : Region.wanted o (yielded ops a.tmps) = true)
    (h : ∀ K : Act → World → Prop, (∀ a' w', (L i = true ∨ S w') → wpAnyS P md ops Q S L fuel (listed.setIfInBounds i true) a' w' → K a' w') → o.wp P a w K Q) : wpAnyS P md ops Q S L (fuel + 1) listed a w := by
  refine ⟨fun h0 => (by rw [h0] at hr; cases hr), fun j hj => ?_⟩
  rw [hr, List.mem_singleton] at hj
  subst hj
  unfold wpOp
  simp only [ho, hw, if_true]
  exact .inl (h _ fun a' w' h1 h2 => ⟨h1, h2⟩)

/-- two operations may come up -/
theorem take_2 {S : World → Prop} {L : Nat → Bool} {i j fuel : Nat} {o o' : Oper} {listed : Array Bool} {a : Act} {w : World} (hr : Region.ready md ops listed = [i, j]) (ho : ops[i]? = some o) (ho' : ops[j]? = some o')
    (hw : Region.wanted o (yielded ops a.tmps) = true) (hw' : Region.wanted o' (yielded ops a.tmps) = true)
    (h : ∀ K : Act → World → Prop, (∀ a' w', (L i = true ∨ S w') → wpAnyS P md ops Q S L fuel (listed.setIfInBounds i true) a' w' → K a' w') → o.wp P a w K Q)
    (h' : ∀ K : Act → World → Prop, (∀ a' w', (L j = true ∨ S w') → wpAnyS P md ops Q S L fuel (listed.setIfInBounds j true) a' w' → K a' w') → o'.wp P a w K Q) : wpAnyS P md ops Q S L (fuel + 1) listed a w := by
  refine ⟨fun h0 => (by rw [h0] at hr; cases hr), fun k hk => ?_⟩
  rw [hr] at hk
  simp only [List.mem_cons, List.not_mem_nil, or_false] at hk
  rcases hk with rfl | rfl
  · unfold wpOp
    simp only [ho, hw, if_true]
    exact .inl (h _ fun a' w' h1 h2 => ⟨h1, h2⟩)
  · unfold wpOp
    simp only [ho', hw', if_true]
    exact .inl (h' _ fun a' w' h1 h2 => ⟨h1, h2⟩)

/-- another condition from here on -/
theorem take_re {S S' : World → Prop} {L L' : Nat → Bool} (hL : ∀ i, L i = true) : ∀ {fuel : Nat} {listed : Array Bool} {a : Act} {w : World}, wpAnyS P md ops Q S' L' fuel listed a w → wpAnyS P md ops Q S L fuel listed a w
  | 0, _, _, _, h => h
  | fuel + 1, _, _, _, h => ⟨h.1, fun i hi => wpOp_mono (fun a' w' h' => ⟨.inl (hL i), take_re hL h'.2⟩) (h.2 i hi)⟩
end

end Go.Proofs.YtjicdcmdgbcdcaaGreatDoor.Turn
end
section
namespace Go.Proofs.YtjicdcmdgbcdcaaGreatDoor.Seg
set_option linter.unusedSimpArgs false
set_option linter.unusedVariables false
open Go.RowKit Mem

structure St where
  some : Bool
  last : Int
  pict : Int
  conj : Int
  odd : Bool

def zero : St := ⟨false, 0, 0, 0, false⟩

def joinB (s : St) (b : Int) (p : Bool) (c : Int) : Bool :=
  s.some && ((c == 1 && s.conj == 2) || (p && s.pict == 2) || (Pairs.pj (Pairs.cls s.last) (Pairs.cls b) == 1) || (Pairs.pj (Pairs.cls s.last) (Pairs.cls b) == 2 && s.last == 6 && s.odd))
def pictS (s : St) (b : Int) (p : Bool) : Int := if p then 1 else if s.pict == 1 && b == 4 then 1 else if s.pict == 1 && b == 5 then 2 else 0
def conjS (s : St) (c : Int) : Int := if c == 1 then 1 else if s.conj == 0 then 0 else if c == 2 then 2 else if c == 3 then s.conj else 0
def oddS (s : St) (b : Int) : Bool := b == 6 && !(s.some && s.last == 6 && s.odd)
def next (s : St) (b : Int) (p : Bool) (c : Int) : St := ⟨true, b, pictS s b p, conjS s c, oddS s b⟩

/-- block q holds the state -/
def At (w : World) (q : Nat) (s : St) : Prop := ∃ T, w.heap[q]? = Option.some (.cells #[.bool s.some, .int .i64 s.last, .int .i64 s.pict, .int .i64 s.conj, .bool s.odd] T (0, 0))

/-- of what was there block q alone may have turned -/
structure But (q : Nat) (w w' : World) : Prop where
  os : w'.os = w.os
  tape : w'.tape = w.tape
  output : w'.output = w.output
  size : w.heap.size ≤ w'.heap.size
  block : ∀ k, k < w.heap.size → k ≠ q → w'.heap[k]? = w.heap[k]?

theorem But.refl (q : Nat) (w : World) : But q w w := ⟨rfl, rfl, rfl, Nat.le_refl _, fun _ _ _ => rfl⟩
theorem But.trans {q : Nat} {a b c : World} (h : But q a b) (k : But q b c) : But q a c :=
  ⟨k.os.trans h.os, k.tape.trans h.tape, k.output.trans h.output, Nat.le_trans h.size k.size, fun i hi hn => (k.block i (Nat.lt_of_lt_of_le hi h.size) hn).trans (h.block i hi hn)⟩
theorem But.of_below {q : Nat} {a b : World} (h : Below a.heap.size a b) : But q a b := ⟨h.os, h.tape, h.output, h.size, fun k hk _ => h.block k hk⟩
theorem But.setCell {q : Nat} {a b : World} (h : But q a b) (i : Nat) (v : Value) : But q a (b.setCell ⟨q, i, none⟩ v) :=
  h.trans ⟨rfl, rfl, rfl, by simp [World.setCell], fun k _ hn => Below.heap_setCell _ _ _ _ (by simpa using hn)⟩
theorem But.below {q B : Nat} {a b : World} (h : But q a b) (hB : B ≤ q) (hs : B ≤ a.heap.size) : Below B a b := ⟨h.os, h.tape, h.output, h.size, fun k hk => h.block k (by omega) (by omega)⟩

theorem At.lt {w : World} {q : Nat} {s : St} (h : At w q s) : q < w.heap.size := by
  obtain ⟨T, h⟩ := h
  exact Blk.lt (xs := _) ⟨T, (0, 0), h⟩
theorem At.below {w w' : World} {q : Nat} {s : St} (h : At w q s) (hb : Below w.heap.size w w') : At w' q s := by
  have := h.lt
  obtain ⟨T, h⟩ := h
  exact ⟨T, by rw [hb.block q this, h]⟩
theorem At.some {w : World} {q : Nat} {s : St} (h : At w q s) : w.cell? ⟨q, 0, none⟩ = Option.some (.bool s.some) := by obtain ⟨T, h⟩ := h; simp [World.cell?, h]
theorem At.last {w : World} {q : Nat} {s : St} (h : At w q s) : w.cell? ⟨q, 1, none⟩ = Option.some (.int .i64 s.last) := by obtain ⟨T, h⟩ := h; simp [World.cell?, h]
theorem At.pict {w : World} {q : Nat} {s : St} (h : At w q s) : w.cell? ⟨q, 2, none⟩ = Option.some (.int .i64 s.pict) := by obtain ⟨T, h⟩ := h; simp [World.cell?, h]
theorem At.conj {w : World} {q : Nat} {s : St} (h : At w q s) : w.cell? ⟨q, 3, none⟩ = Option.some (.int .i64 s.conj) := by obtain ⟨T, h⟩ := h; simp [World.cell?, h]
theorem At.odd {w : World} {q : Nat} {s : St} (h : At w q s) : w.cell? ⟨q, 4, none⟩ = Option.some (.bool s.odd) := by obtain ⟨T, h⟩ := h; simp [World.cell?, h]
theorem At.frozen {w : World} {q : Nat} {s : St} (h : At w q s) (i : Nat) : w.frozen? ⟨q, i, none⟩ = false := by obtain ⟨T, h⟩ := h; simp [World.frozen?, h]

theorem heap_setCell {w : World} {q i : Nat} {c : Array Value} {T : TypeId} {fr : Nat × Nat} {v : Value} (h : w.heap[q]? = Option.some (.cells c T fr)) :
    (w.setCell ⟨q, i, none⟩ v).heap[q]? = Option.some (.cells (c.setIfInBounds i v) T fr) := by
  simp only [World.setCell, Array.getElem?_modify]
  simp [h]

theorem At.set_pict {w : World} {q : Nat} {s : St} (h : At w q s) (v : Int) : At (w.setCell ⟨q, 2, none⟩ (.int .i64 v)) q { s with pict := v } := by obtain ⟨T, h⟩ := h; exact ⟨T, by rw [heap_setCell h]; rfl⟩
theorem At.set_conj {w : World} {q : Nat} {s : St} (h : At w q s) (v : Int) : At (w.setCell ⟨q, 3, none⟩ (.int .i64 v)) q { s with conj := v } := by obtain ⟨T, h⟩ := h; exact ⟨T, by rw [heap_setCell h]; rfl⟩
theorem At.set_odd {w : World} {q : Nat} {s : St} (h : At w q s) (v : Bool) : At (w.setCell ⟨q, 4, none⟩ (.bool v)) q { s with odd := v } := by obtain ⟨T, h⟩ := h; exact ⟨T, by rw [heap_setCell h]; rfl⟩
theorem At.set_some {w : World} {q : Nat} {s : St} (h : At w q s) (v : Bool) : At (w.setCell ⟨q, 0, none⟩ (.bool v)) q { s with some := v } := by obtain ⟨T, h⟩ := h; exact ⟨T, by rw [heap_setCell h]; rfl⟩
theorem At.set_last {w : World} {q : Nat} {s : St} (h : At w q s) (v : Int) : At (w.setCell ⟨q, 1, none⟩ (.int .i64 v)) q { s with last := v } := by obtain ⟨T, h⟩ := h; exact ⟨T, by rw [heap_setCell h]; rfl⟩

theorem _root_.Go.Proofs.YtjicdcmdgbcdcaaGreatDoor.Mem.Blk.setCell {w : World} {g q : Nat} {xs : List Value} (h : Blk w g xs) (hn : g ≠ q) (i : Nat) (v : Value) : Blk (w.setCell ⟨q, i, none⟩ v) g xs := by
  obtain ⟨T, fr, h⟩ := h
  exact ⟨T, fr, by rw [Below.heap_setCell _ _ _ _ (by simpa using hn)]; exact h⟩

end Go.Proofs.YtjicdcmdgbcdcaaGreatDoor.Seg
end
section
namespace Go.Proofs.YtjicdcmdgbcdcaaGreatDoor.Ring
set_option linter.unusedSimpArgs false
set_option linter.unusedVariables false
open Go Go.RowKit Mem Turn

abbrev CellC := Int × List Int
abbrev LineC := List CellC × Bool

/-- the slice v reads as the text t; its block is of D; fz: and may be written -/
def TextAt (D : Nat → Prop) (fz : Prop) (w : World) (v : Value) (t : List Int) : Prop :=
  ∃ a c, v = .slice a t.length c ∧ t.length ≤ c ∧ t.length * 4 ≤ 140737488355328 ∧ (t.length = 0 ∨ ∃ b off, a = some ⟨b, off, none⟩ ∧ b < w.heap.size ∧ D b ∧ ∀ (j : Nat) (x : Int), t[j]? = some x → w.cell? ⟨b, off + j, none⟩ = some (.int .i32 x) ∧ (fz → w.frozen? ⟨b, off + j, none⟩ = false))
def CellsAt (D : Nat → Prop) (fz : Prop) (w : World) (v : Value) (cs : List CellC) : Prop :=
  ∃ a c, v = .slice a cs.length c ∧ cs.length ≤ c ∧ cs.length * 32 ≤ 140737488355328 ∧ (cs.length = 0 ∨ ∃ b off, a = some ⟨b, off, none⟩ ∧ b < w.heap.size ∧ D b ∧ ∀ (j : Nat) (x : CellC), cs[j]? = some x → w.cell? ⟨b, off + j * 2, none⟩ = some (.int .i64 x.1) ∧ (fz → w.frozen? ⟨b, off + j * 2, none⟩ = false) ∧
    ∃ tv, w.cell? ⟨b, off + j * 2 + 1, none⟩ = some tv ∧ TextAt D fz w tv x.2)
def LinesAt (D : Nat → Prop) (fz : Prop) (w : World) (v : Value) (ls : List LineC) : Prop :=
  ∃ a c, v = .slice a ls.length c ∧ ls.length ≤ c ∧ (ls.length = 0 ∨ ∃ b off, a = some ⟨b, off, none⟩ ∧ b < w.heap.size ∧ D b ∧ ∀ (j : Nat) (x : LineC), ls[j]? = some x → ∃ cv, w.cell? ⟨b, off + j * 2, none⟩ = some cv ∧ CellsAt D fz w cv x.1 ∧ w.cell? ⟨b, off + j * 2 + 1, none⟩ = some (.bool x.2))

section
variable {D D' : Nat → Prop} {fz : Prop} {w w' : World} {v : Value} {T : Nat → Prop}
theorem TextAt.turn {t : List Int} (h : TextAt D fz w v t) (ht : Turn T w w') (hD : ∀ b, D b → b < w.heap.size → ¬ T b) : TextAt D fz w' v t := by
  obtain ⟨a, c, h1, h2, h3, h4⟩ := h
  refine ⟨a, c, h1, h2, h3, h4.imp id fun ⟨b, off, e, hb, hd, hc⟩ => ⟨b, off, e, Nat.lt_of_lt_of_le hb ht.size, hd, fun j x hx => ?_⟩⟩
  obtain ⟨g1, g2⟩ := hc j x hx
  exact ⟨ht.cell g1 (hD b hd hb), fun f => (ht.frozen hb (hD b hd hb)).trans (g2 f)⟩
theorem CellsAt.turn {cs : List CellC} (h : CellsAt D fz w v cs) (ht : Turn T w w') (hD : ∀ b, D b → b < w.heap.size → ¬ T b) : CellsAt D fz w' v cs := by
  obtain ⟨a, c, h1, h2, h3, h4⟩ := h
  refine ⟨a, c, h1, h2, h3, h4.imp id fun ⟨b, off, e, hb, hd, hc⟩ => ⟨b, off, e, Nat.lt_of_lt_of_le hb ht.size, hd, fun j x hx => ?_⟩⟩
  obtain ⟨g1, g2, tv, g3, g4⟩ := hc j x hx
  exact ⟨ht.cell g1 (hD b hd hb), fun f => (ht.frozen hb (hD b hd hb)).trans (g2 f), tv, ht.cell g3 (hD b hd hb), g4.turn ht hD⟩
theorem LinesAt.turn {ls : List LineC} (h : LinesAt D fz w v ls) (ht : Turn T w w') (hD : ∀ b, D b → b < w.heap.size → ¬ T b) : LinesAt D fz w' v ls := by
  obtain ⟨a, c, h1, h2, h4⟩ := h
  refine ⟨a, c, h1, h2, h4.imp id fun ⟨b, off, e, hb, hd, hc⟩ => ⟨b, off, e, Nat.lt_of_lt_of_le hb ht.size, hd, fun j x hx => ?_⟩⟩
  obtain ⟨cv, g1, g2, g3⟩ := hc j x hx
  exact ⟨cv, ht.cell g1 (hD b hd hb), g2.turn ht hD, ht.cell g3 (hD b hd hb)⟩
theorem TextAt.mono {t : List Int} (h : TextAt D fz w v t) (hD : ∀ b, D b → b < w.heap.size → D' b) : TextAt D' fz w v t := by
  obtain ⟨a, c, h1, h2, h3, h4⟩ := h
  exact ⟨a, c, h1, h2, h3, h4.imp id fun ⟨b, off, e, hb, hd, hc⟩ => ⟨b, off, e, hb, hD b hd hb, hc⟩⟩
theorem CellsAt.mono {cs : List CellC} (h : CellsAt D fz w v cs) (hD : ∀ b, D b → b < w.heap.size → D' b) : CellsAt D' fz w v cs := by
  obtain ⟨a, c, h1, h2, h3, h4⟩ := h
  refine ⟨a, c, h1, h2, h3, h4.imp id fun ⟨b, off, e, hb, hd, hc⟩ => ⟨b, off, e, hb, hD b hd hb, fun j x hx => ?_⟩⟩
  obtain ⟨g1, g2, tv, g3, g4⟩ := hc j x hx
  exact ⟨g1, g2, tv, g3, g4.mono hD⟩
theorem LinesAt.mono {ls : List LineC} (h : LinesAt D fz w v ls) (hD : ∀ b, D b → b < w.heap.size → D' b) : LinesAt D' fz w v ls := by
  obtain ⟨a, c, h1, h2, h4⟩ := h
  refine ⟨a, c, h1, h2, h4.imp id fun ⟨b, off, e, hb, hd, hc⟩ => ⟨b, off, e, hb, hD b hd hb, fun j x hx => ?_⟩⟩
  obtain ⟨cv, g1, g2, g3⟩ := hc j x hx
  exact ⟨cv, g1, g2.mono hD, g3⟩
theorem TextAt.soft {t : List Int} (h : TextAt D fz w v t) : TextAt D False w v t := by
  obtain ⟨a, c, h1, h2, h3, h4⟩ := h
  exact ⟨a, c, h1, h2, h3, h4.imp id fun ⟨b, off, e, hb, hd, hc⟩ => ⟨b, off, e, hb, hd, fun j x hx => ⟨(hc j x hx).1, fun f => f.elim⟩⟩⟩
theorem CellsAt.soft {cs : List CellC} (h : CellsAt D fz w v cs) : CellsAt D False w v cs := by
  obtain ⟨a, c, h1, h2, h3, h4⟩ := h
  refine ⟨a, c, h1, h2, h3, h4.imp id fun ⟨b, off, e, hb, hd, hc⟩ => ⟨b, off, e, hb, hd, fun j x hx => ?_⟩⟩
  obtain ⟨g1, g2, tv, g3, g4⟩ := hc j x hx
  exact ⟨g1, fun f => f.elim, tv, g3, g4.soft⟩
theorem LinesAt.soft {ls : List LineC} (h : LinesAt D fz w v ls) : LinesAt D False w v ls := by
  obtain ⟨a, c, h1, h2, h4⟩ := h
  refine ⟨a, c, h1, h2, h4.imp id fun ⟨b, off, e, hb, hd, hc⟩ => ⟨b, off, e, hb, hd, fun j x hx => ?_⟩⟩
  obtain ⟨cv, g1, g2, g3⟩ := hc j x hx
  exact ⟨cv, g1, g2.soft, g3⟩
theorem TextAt.below {t : List Int} (h : TextAt D fz w v t) (hb : Below w.heap.size w w') : TextAt D fz w' v t := h.turn (Turn.of_new hb : Turn (fun _ => False) w w') (fun _ _ _ => id)
theorem CellsAt.below {cs : List CellC} (h : CellsAt D fz w v cs) (hb : Below w.heap.size w w') : CellsAt D fz w' v cs := h.turn (Turn.of_new hb : Turn (fun _ => False) w w') (fun _ _ _ => id)
theorem LinesAt.below {ls : List LineC} (h : LinesAt D fz w v ls) (hb : Below w.heap.size w w') : LinesAt D fz w' v ls := h.turn (Turn.of_new hb : Turn (fun _ => False) w w') (fun _ _ _ => id)
theorem TextAt.nil (D : Nat → Prop) (fz : Prop) (w : World) : TextAt D fz w (.slice none 0 0) [] := ⟨none, 0, rfl, Nat.le_refl _, by simp, .inl rfl⟩
theorem CellsAt.nil (D : Nat → Prop) (fz : Prop) (w : World) : CellsAt D fz w (.slice none 0 0) [] := ⟨none, 0, rfl, Nat.le_refl _, by simp, .inl rfl⟩
theorem LinesAt.nil (D : Nat → Prop) (fz : Prop) (w : World) : LinesAt D fz w (.slice none 0 0) [] := ⟨none, 0, rfl, Nat.le_refl _, .inl rfl⟩
end

/-- rows of cells, flat: the kind, the text's header -/
def flatC : List (Int × Value) → List Value
  | [] => []
  | r :: l => .int .i64 r.1 :: r.2 :: flatC l
def flatL : List (Value × Bool) → List Value
  | [] => []
  | r :: l => r.1 :: .bool r.2 :: flatL l
theorem flatC_app (a b : List (Int × Value)) : flatC (a ++ b) = flatC a ++ flatC b := by
  induction a with
  | nil => rfl
  | cons r l ih => simp [flatC, ih]
theorem flatL_app (a b : List (Value × Bool)) : flatL (a ++ b) = flatL a ++ flatL b := by
  induction a with
  | nil => rfl
  | cons r l ih => simp [flatL, ih]
theorem flatC_len (a : List (Int × Value)) : (flatC a).length = a.length * 2 := by
  induction a with
  | nil => rfl
  | cons r l ih => simp [flatC, ih]; omega
theorem flatL_len (a : List (Value × Bool)) : (flatL a).length = a.length * 2 := by
  induction a with
  | nil => rfl
  | cons r l ih => simp [flatL, ih]; omega
theorem flatC_get {l : List (Int × Value)} {k : Nat} {r : Int × Value} (h : l[k]? = some r) : (flatC l)[k * 2]? = some (.int .i64 r.1) ∧ (flatC l)[k * 2 + 1]? = some r.2 := by
  induction l generalizing k with
  | nil => cases h
  | cons x l ih =>
    cases k with
    | zero => simp at h; subst h; simp [flatC]
    | succ k =>
      have := ih (k := k) (by simpa using h)
      rw [show (k + 1) * 2 = k * 2 + 1 + 1 from by omega]
      simpa [flatC] using this
theorem flatL_get {l : List (Value × Bool)} {k : Nat} {r : Value × Bool} (h : l[k]? = some r) : (flatL l)[k * 2]? = some r.1 ∧ (flatL l)[k * 2 + 1]? = some (.bool r.2) := by
  induction l generalizing k with
  | nil => cases h
  | cons x l ih =>
    cases k with
    | zero => simp at h; subst h; simp [flatL]
    | succ k =>
      have := ih (k := k) (by simpa using h)
      rw [show (k + 1) * 2 = k * 2 + 1 + 1 from by omega]
      simpa [flatL] using this
theorem flatL_set {l : List (Value × Bool)} {k : Nat} (r : Value × Bool) (h : k < l.length) : ((flatL l).set (k * 2) r.1).set (k * 2 + 1) (.bool r.2) = flatL (l.set k r) := by
  induction l generalizing k with
  | nil => cases h
  | cons x l ih =>
    cases k with
    | zero => simp [flatL]
    | succ k =>
      have := ih (k := k) (by simpa using h)
      rw [show (k + 1) * 2 = k * 2 + 1 + 1 from by omega, show k * 2 + 1 + 1 + 1 = (k * 2 + 1) + 1 + 1 from by omega]
      simp [flatL, this]

/-- the text of each row -/
def TextsOf (D : Nat → Prop) (w : World) (rs : List (Int × Value)) (cs : List CellC) : Prop :=
  rs.length = cs.length ∧ ∀ (j : Nat) (r : Int × Value) (x : CellC), rs[j]? = some r → cs[j]? = some x → r.1 = x.1 ∧ TextAt D True w r.2 x.2
/-- the cells of each row -/
def CellsOf (D : Nat → Prop) (fz : Prop) (w : World) (rs : List (Value × Bool)) (ls : List LineC) : Prop :=
  rs.length = ls.length ∧ ∀ (j : Nat) (r : Value × Bool) (x : LineC), rs[j]? = some r → ls[j]? = some x → r.2 = x.2 ∧ CellsAt D fz w r.1 x.1

theorem addr_none (g j : Nat) : (⟨g, 0, none⟩ : Addr).add j = ⟨g, j, none⟩ := by
  unfold Addr.add
  split
  · rename_i h; rw [h]
  · simp
theorem own_form {w : World} {base : Nat} {e : TypeId} {size n : Nat} {v : Value} {xs : List Value} (h : w.ownsRow base e size v n xs) : ∃ a c, v = .slice a n c ∧ n ≤ c ∧ (n = 0 ∨ ∃ g, a = some ⟨g, 0, none⟩ ∧ v.ownBlock = some g ∧ base ≤ g ∧ g < w.heap.size ∧ (∀ j, w.frozen? ⟨g, j, none⟩ = false) ∧ ∀ j u, xs[j]? = some u → w.cell? ⟨g, j, none⟩ = some u) := by
  rcases h.2 with ⟨rfl, h0⟩ | ⟨g, cap, cur, rfl, hb, hg, hnc, _⟩
  · subst h0
    exact ⟨none, 0, rfl, Nat.le_refl _, .inl rfl⟩
  · refine ⟨_, cap, rfl, hnc, .inr ⟨g, rfl, rfl, hb, (Array.getElem?_eq_some_iff.1 hg).1, fun j => h.frozenAt j, fun j u hu => ?_⟩⟩
    have := h.cells (g := g) rfl j u hu
    rwa [addr_none] at this

theorem cells_of_own {D : Nat → Prop} {w : World} {base n : Nat} {v : Value} {rs : List (Int × Value)} {cs : List CellC} (h : w.ownsRow base 80 2 v n (flatC rs)) (ht : TextsOf D w rs cs) (hD : ∀ g, v.ownBlock = some g → D g) (hs : cs.length * 32 ≤ 140737488355328) : CellsAt D True w v cs := by
  have hl : rs.length = n := by have := h.1; rw [flatC_len] at this; omega
  obtain ⟨a, c, rfl, h2, h3⟩ := own_form h
  have hn : cs.length = n := by rw [← ht.1, hl]
  subst hn
  refine ⟨a, c, rfl, h2, hs, h3.imp id fun ⟨g, e, e2, hb, hg, hf, hc⟩ => ⟨g, 0, e, hg, hD g e2, fun j x hx => ?_⟩⟩
  obtain ⟨r, hr⟩ : ∃ r, rs[j]? = some r := ⟨_, List.getElem?_eq_getElem (by rw [hl]; exact (List.getElem?_eq_some_iff.1 hx).1)⟩
  obtain ⟨e1, e3⟩ := ht.2 j r x hr hx
  obtain ⟨g1, g2⟩ := flatC_get hr
  rw [Nat.zero_add]
  exact ⟨by rw [← e1]; exact hc _ _ g1, fun _ => hf _, r.2, hc _ _ g2, e3⟩
theorem lines_of_own {D : Nat → Prop} {fz : Prop} {w : World} {base n : Nat} {v : Value} {rs : List (Value × Bool)} {ls : List LineC} (h : w.ownsRow base 45 2 v n (flatL rs)) (ht : CellsOf D fz w rs ls) (hD : ∀ g, v.ownBlock = some g → D g) : LinesAt D fz w v ls := by
  have hl : rs.length = n := by have := h.1; rw [flatL_len] at this; omega
  obtain ⟨a, c, rfl, h2, h3⟩ := own_form h
  have hn : ls.length = n := by rw [← ht.1, hl]
  subst hn
  refine ⟨a, c, rfl, h2, h3.imp id fun ⟨g, e, e2, hb, hg, hf, hc⟩ => ⟨g, 0, e, hg, hD g e2, fun j x hx => ?_⟩⟩
  obtain ⟨r, hr⟩ : ∃ r, rs[j]? = some r := ⟨_, List.getElem?_eq_getElem (by rw [hl]; exact (List.getElem?_eq_some_iff.1 hx).1)⟩
  obtain ⟨e1, e3⟩ := ht.2 j r x hr hx
  obtain ⟨g1, g2⟩ := flatL_get hr
  rw [Nat.zero_add]
  exact ⟨r.1, hc _ _ g1, e3, by rw [← e1]; exact hc _ _ g2⟩
end Go.Proofs.YtjicdcmdgbcdcaaGreatDoor.Ring
end
section
namespace Go.Proofs.YtjicdcmdgbcdcaaGreatDoor.Turn
set_option linter.unusedSimpArgs false
set_option linter.unusedVariables false
open Go Go.RowKit

/-- the beginning of a drawn region, its size a number -/
theorem region_begin3 {P : Program} {Q : Exit → Act → World → Prop} (S : World → Prop) (L : Nat → Bool) (n : Nat) {id : Nat} {a : Act} {w : World} {os : List Oper} (hn : os.length = n) (hm : P.follows .mixedOrders = true)
    (hq : ∀ c (a : Act) d v w, Q (.panic c) (a.put d v) w → Q (.panic c) a w)
    (h : (∀ c (a : Act) d v w, Q (.panic c) (a.put d v) w → Q (.panic c) a w) → wpAnyS P .any os.toArray Q S L n (Array.replicate n false) a w.drew) : (Code.region id os.toArray true).wp P Q a w := by
  subst hn
  exact region_begin S L hm (h hq)

section
variable {md : Region.Mode} {ops : Array Oper} {Q : Exit → Act → World → Prop} {S : World → Prop} {L : Nat → Bool} {P : Program}
/-- as 'take_first', the slot that is written by its number -/
theorem take_first2 (i : Nat) (d : Option Tmp) {oi : Oper} {v : Value} {fuel : Nat} {listed : Array Bool} {a : Act} {w : World} (hi : ops[i]? = some oi)
    (hd : oi.dst = d)
    (hs : Region.noSelect ops = true) (hf : Region.free md ops listed i = true) (hr : (Region.ready md ops listed).contains i = true) (hL : waitB md ops L i = true)
    (hQ : ∀ c (a : Act) d v w, Q (.panic c) (a.put d v) w → Q (.panic c) a w) (hS : S w) (hy : YieldsIf P ops S oi v a)
    (h : wpAnyS P md ops Q S L fuel (listed.setIfInBounds i true) (a.put d v) w) : wpAnyS P md ops Q S L (fuel + 1) listed a w := by
  subst hd
  exact take_first hi hs hf hr hL (fun _ _ _ h => hQ _ _ _ _ _ h) hS hy h

/-- as 'take_first2', the slots as an array: the act does not double -/
theorem take_f (i d : Nat) {oi : Oper} {v : Value} {fuel : Nat} {listed : Array Bool} {tm : Array Value} {df : List Deferred} {w : World} (hi : ops[i]? = some oi)
    (hd : oi.dst = some d)
    (hs : Region.noSelect ops = true) (hf : Region.free md ops listed i = true) (hr : (Region.ready md ops listed).contains i = true) (hL : waitB md ops L i = true)
    (hQ : ∀ c (a : Act) d v w, Q (.panic c) (a.put d v) w → Q (.panic c) a w) (hS : S w) (hy : YieldsIf P ops S oi v ⟨tm, df⟩)
    (h : wpAnyS P md ops Q S L fuel (listed.setIfInBounds i true) ⟨tm.setIfInBounds d v, df⟩ w) : wpAnyS P md ops Q S L (fuel + 1) listed ⟨tm, df⟩ w :=
  take_first2 i (some d) hi hd hs hf hr hL hQ hS hy h

theorem eval_put_ne {a : Act} {d t : Nat} {v : Value} (h : d ≠ t) : (a.put (some d) v).eval (.tmp t) = a.eval (.tmp t) := by
  unfold Act.put Act.eval
  simp only [Array.getD_eq_getD_getElem?, Array.getElem?_setIfInBounds_ne h]
theorem size_put {a : Act} {d : Option Tmp} {v : Value} : (a.put d v).tmps.size = a.tmps.size := by
  unfold Act.put
  cases d <;> simp
theorem defers_put {a : Act} {d : Option Tmp} {v : Value} : (a.put d v).defers = a.defers := by
  unfold Act.put
  cases d <;> rfl
theorem eval_put_eq {a : Act} {d : Nat} {v : Value} (h : d < a.tmps.size) : (a.put (some d) v).eval (.tmp d) = v := by
  unfold Act.put Act.eval
  simp only [Array.getD_eq_getD_getElem?, Array.getElem?_setIfInBounds_self_of_lt h, Option.getD_some]

/-- a store of a whole row that comes up alone -/
theorem take_store_row (i : Nat) {o : Oper} {fuel : Nat} {listed : Array Bool} {a : Act} {w : World} (hr : Region.ready md ops listed = [i]) (ho : ops[i]? = some o) (ho1 : o.dst = none) (ho2 : o.guard = none)
    (ty : TypeId) (x y : Operand) (ho3 : o.op = .store ty x y) (g : Nat) (cells : Array Value) (hx : a.eval x = .pointer (some ⟨g, 0, none⟩)) (hy : a.eval y = .agg cells)
    (t : TypeId) (old : Array Value) (hg : w.heap[g]? = some (.cells old t (0, 0))) (hi : (P.info? ty).map (·.size) = some cells.size)
    (hold : old.size = cells.size) (h1 : cells.all (·.oneCell') = true) (hLS : L i = true ∨ S (w.setRow g cells))
    (h : wpAnyS P md ops Q S L fuel (listed.setIfInBounds i true) a (w.setRow g cells)) : wpAnyS P md ops Q S L (fuel + 1) listed a w :=
  take_one hr ho ho2 fun K hK => wp_store_row ty x y ho3 g cells hx hy t old hg hi hold h1 (by rw [ho1]; exact hK _ _ hLS h)

/-- an append onto a slice of the call's own that comes up alone; where the new slice lies -/
theorem take_append_at (i d : Nat) {o : Oper} {fuel : Nat} {listed : Array Bool} {a : Act} {w : World} (hr : Region.ready md ops listed = [i]) (ho : ops[i]? = some o) (ho1 : o.dst = some d) (ho2 : o.guard = none)
    (s x : Operand) (t : TypeId) (hop : o.op = Op.call { callee := Callee.builtin Builtin.append, args := #[s, x], argTypes := #[t, t] })
    (base : Nat) (e : TypeId) (it : TypeInfo) (z : Value) (size bytes : Nat) (h1 : P.underlying t = some (.slice e)) (h2 : P.info? e = some it) (h3 : it.zero = some z) (h4 : it.size = size) (h5 : it.bytes = bytes) (h6 : z.cells.size = size) (h7 : 0 < size)
    (v : Value) (k : Nat) (xs : List Value) (hs : a.eval s = v) (hown : w.ownsRow base e size v k xs) (ad : Addr) (m c : Nat) (news : List Value) (hx : a.eval x = .slice (some ad) m c) (hn : news.length = m * size)
    (hc : ∀ j u, news[j]? = some u → w.cell? (ad.add j) = some u) (h1c : ∀ u ∈ news, u.oneCell' = true) (b1 : k + m ≤ maxLen) (b2 : (k + m) * bytes ≤ 140737488355328) (b3 : base ≤ w.heap.size)
    (hK : ∀ v' w', w'.ownsRow base e size v' (k + m) (xs ++ news) → w.grownBy w' v.ownBlock → (v'.ownBlock = v.ownBlock ∨ v'.ownBlock = some w.heap.size) → (L i = true ∨ S w') ∧ wpAnyS P md ops Q S L fuel (listed.setIfInBounds i true) (a.put (some d) v') w') : wpAnyS P md ops Q S L (fuel + 1) listed a w :=
  take_one hr ho ho2 fun K hK' => by
    obtain ⟨v', w', hrun, r1, r2, _, r4⟩ := run_append_own_at (P := P) w base t o.type e it z size bytes h1 h2 h3 h4 h5 h6 h7 v k xs hown ad m c news hn hc h1c b1 b2 b3
    unfold Oper.wp execOp
    simp only [hop, resolve, invoke, builtin, Sem.run_bind, Sem.run_pure, Result.andThen_ok, List.map_toArray, List.map_cons, List.map_nil, hs, hx, hrun]
    show K (a.put o.dst v') w'
    rw [ho1]
    exact hK' _ _ (hK v' w' r1 r2 r4).1 (hK v' w' r1 r2 r4).2
/-- a slice from k on, its address under a name -/
theorem yields_slice_l {o : Oper} {tm : Array Value} {df : List Deferred} (t e : TypeId) (x lo : Operand) (hop : o.op = .slice t x (some lo) none none) (hw : Region.wanted o (yielded ops tm) = true)
    (a : Option Addr) (N c k z : Nat) (kI : Int) (hx : Act.eval ⟨tm, df⟩ x = .slice a N c) (hlo : Act.eval ⟨tm, df⟩ lo = .int .i64 kI) (hkI : kI = (k : Int)) (hk : k ≤ N) (ht : P.underlying t = some (.slice e)) (i : TypeInfo) (hi : P.info? e = some i) (hz : i.size = z)
    (a' : Option Addr) (ha : a' = if c = k then a else a.map (·.add (k * z))) : YieldsIf P ops S o (.slice a' (N - k) (c - k)) ⟨tm, df⟩ := by
  subst hkI
  have he : P.elem t = e := by simp [Program.elem, ht]
  have ht' : P.underlying t = some (.slice (P.elem t)) := by rw [he]; exact ht
  refine .inl ⟨hw, fun w' _ => ?_⟩
  unfold execOp
  simp only [hop, Option.map_some, Option.map_none]
  simp only [hx, hlo, Sem.run_bind, run_sliceAt_slice (P := P) (w := w') t _ _ _ _ ht', run_slice_l (P := P) (w := w') t a N c ht' .i64 (k : Int) (by omega) (by omega), he, Int.toNat_natCast, sliced, ha]
  simp [sizeOf, typeInfo, hi, hz]
theorem yields_slice_lh {o : Oper} {tm : Array Value} {df : List Deferred} (t e : TypeId) (x lo hh : Operand) (hop : o.op = .slice t x (some lo) (some hh) none) (hw : Region.wanted o (yielded ops tm) = true)
    (a : Option Addr) (N c k l z : Nat) (kI lI : Int) (hx : Act.eval ⟨tm, df⟩ x = .slice a N c) (hlo : Act.eval ⟨tm, df⟩ lo = .int .i64 kI) (hhh : Act.eval ⟨tm, df⟩ hh = .int .i64 lI) (hkI : kI = (k : Int)) (hlI : lI = (l : Int)) (hk : k ≤ l) (hl : l ≤ c) (d c2 : Nat) (hd : l - k = d) (hc2 : c - k = c2) (ht : P.underlying t = some (.slice e)) (i : TypeInfo) (hi : P.info? e = some i) (hz : i.size = z)
    (a' : Option Addr) (ha : a' = if c = k then a else a.map (·.add (k * z))) : YieldsIf P ops S o (.slice a' d c2) ⟨tm, df⟩ := by
  subst hkI hlI hd hc2
  have he : P.elem t = e := by simp [Program.elem, ht]
  have ht' : P.underlying t = some (.slice (P.elem t)) := by rw [he]; exact ht
  refine .inl ⟨hw, fun w' _ => ?_⟩
  unfold execOp
  simp only [hop, Option.map_some, Option.map_none]
  simp only [hx, hlo, hhh, Sem.run_bind, run_sliceAt_slice (P := P) (w := w') t _ _ _ _ ht', run_slice_lh (P := P) (w := w') t a N c ht' .i64 .i64 (k : Int) (l : Int) (by omega) (by omega) (by omega), he, Int.toNat_natCast, sliced, ha]
  simp [sizeOf, typeInfo, hi, hz]
/-- a load of a whole row -/
theorem yields_load_row {o : Oper} {tm : Array Value} {df : List Deferred} (ty : TypeId) (x : Operand) (hop : o.op = .load ty x) (hw : Region.wanted o (yielded ops tm) = true)
    (g : Nat) (hx : Act.eval ⟨tm, df⟩ x = .pointer (some ⟨g, 0, none⟩)) (t : TypeId) (cs : Array Value) (fr : Nat × Nat) (dd : TypeDesc) (hg : ∀ w, S w → w.heap[g]? = some (.cells cs t fr))
    (hu : P.underlying ty = some dd) (hd : (match dd with | .struct _ | .array _ _ => true | _ => false) = true) (hi : (P.info? ty).map (·.size) = some cs.size) : YieldsIf P ops S o (.agg cs) ⟨tm, df⟩ := by
  refine .inl ⟨hw, fun w' h' => ?_⟩
  unfold execOp
  simp only [hop, hx, Instr.loadAt, Instr.sureAddr, Sem.run_bind, Sem.run_pure, Result.andThen_ok, run_loadVar_row w' g t ty cs fr dd (hg w' h') hu hd hi]
end
end Go.Proofs.YtjicdcmdgbcdcaaGreatDoor.Turn
end

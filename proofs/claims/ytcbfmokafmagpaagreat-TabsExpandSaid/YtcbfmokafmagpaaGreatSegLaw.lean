/-
  The plain machine of clusters: what a state remembers, and what one more property does to it. No Go in sight but for pairs.Join's own plain function.
-/
import Derived.Test.YtcbfmokafmagpaaGreatPairsB
import Derived.Test.YtcbfmokafmagpaaGreatMem
namespace Go.Proofs.YtcbfmokafmagpaaGreat.Seg
set_option linter.unusedSimpArgs false
set_option linter.unusedVariables false
open Go.RowKit Mem

structure St where
  some : Bool
  last : Int
  pict : Int
  conj : Int
  odd : Bool

def zero : St := ⟨false, 0, 0, 0, false⟩

def joinB (s : St) (b : Int) (p : Bool) (c : Int) : Bool :=
  s.some && ((c == 1 && s.conj == 2) || (p && s.pict == 2) || (Pairs.pj (Pairs.cls s.last) (Pairs.cls b) == 1) || (Pairs.pj (Pairs.cls s.last) (Pairs.cls b) == 2 && s.last == 6 && s.odd))
def pictS (s : St) (b : Int) (p : Bool) : Int := if p then 1 else if s.pict == 1 && b == 4 then 1 else if s.pict == 1 && b == 5 then 2 else 0
def conjS (s : St) (c : Int) : Int := if c == 1 then 1 else if s.conj == 0 then 0 else if c == 2 then 2 else if c == 3 then s.conj else 0
def oddS (s : St) (b : Int) : Bool := b == 6 && !(s.some && s.last == 6 && s.odd)
def next (s : St) (b : Int) (p : Bool) (c : Int) : St := ⟨true, b, pictS s b p, conjS s c, oddS s b⟩

/-- block q holds the state -/
def At (w : World) (q : Nat) (s : St) : Prop := ∃ T, w.heap[q]? = Option.some (.cells #[.bool s.some, .int .i64 s.last, .int .i64 s.pict, .int .i64 s.conj, .bool s.odd] T (0, 0))

/-- of what was there block q alone may have turned -/
structure But (q : Nat) (w w' : World) : Prop where
  os : w'.os = w.os
  tape : w'.tape = w.tape
  output : w'.output = w.output
  size : w.heap.size ≤ w'.heap.size
  block : ∀ k, k < w.heap.size → k ≠ q → w'.heap[k]? = w.heap[k]?

theorem But.refl (q : Nat) (w : World) : But q w w := ⟨rfl, rfl, rfl, Nat.le_refl _, fun _ _ _ => rfl⟩
theorem But.trans {q : Nat} {a b c : World} (h : But q a b) (k : But q b c) : But q a c :=
  ⟨k.os.trans h.os, k.tape.trans h.tape, k.output.trans h.output, Nat.le_trans h.size k.size, fun i hi hn => (k.block i (Nat.lt_of_lt_of_le hi h.size) hn).trans (h.block i hi hn)⟩
theorem But.of_below {q : Nat} {a b : World} (h : Below a.heap.size a b) : But q a b := ⟨h.os, h.tape, h.output, h.size, fun k hk _ => h.block k hk⟩
theorem But.setCell {q : Nat} {a b : World} (h : But q a b) (i : Nat) (v : Value) : But q a (b.setCell ⟨q, i, none⟩ v) :=
  h.trans ⟨rfl, rfl, rfl, by simp [World.setCell], fun k _ hn => Below.heap_setCell _ _ _ _ (by simpa using hn)⟩
theorem But.below {q B : Nat} {a b : World} (h : But q a b) (hB : B ≤ q) (hs : B ≤ a.heap.size) : Below B a b := ⟨h.os, h.tape, h.output, h.size, fun k hk => h.block k (by omega) (by omega)⟩

theorem At.lt {w : World} {q : Nat} {s : St} (h : At w q s) : q < w.heap.size := by
  obtain ⟨T, h⟩ := h
  exact Blk.lt (xs := _) ⟨T, (0, 0), h⟩
theorem At.below {w w' : World} {q : Nat} {s : St} (h : At w q s) (hb : Below w.heap.size w w') : At w' q s := by
  have := h.lt
  obtain ⟨T, h⟩ := h
  exact ⟨T, by rw [hb.block q this, h]⟩
theorem At.some {w : World} {q : Nat} {s : St} (h : At w q s) : w.cell? ⟨q, 0, none⟩ = Option.some (.bool s.some) := by obtain ⟨T, h⟩ := h; simp [World.cell?, h]
theorem At.last {w : World} {q : Nat} {s : St} (h : At w q s) : w.cell? ⟨q, 1, none⟩ = Option.some (.int .i64 s.last) := by obtain ⟨T, h⟩ := h; simp [World.cell?, h]
theorem At.pict {w : World} {q : Nat} {s : St} (h : At w q s) : w.cell? ⟨q, 2, none⟩ = Option.some (.int .i64 s.pict) := by obtain ⟨T, h⟩ := h; simp [World.cell?, h]
theorem At.conj {w : World} {q : Nat} {s : St} (h : At w q s) : w.cell? ⟨q, 3, none⟩ = Option.some (.int .i64 s.conj) := by obtain ⟨T, h⟩ := h; simp [World.cell?, h]
theorem At.odd {w : World} {q : Nat} {s : St} (h : At w q s) : w.cell? ⟨q, 4, none⟩ = Option.some (.bool s.odd) := by obtain ⟨T, h⟩ := h; simp [World.cell?, h]
theorem At.frozen {w : World} {q : Nat} {s : St} (h : At w q s) (i : Nat) : w.frozen? ⟨q, i, none⟩ = false := by obtain ⟨T, h⟩ := h; simp [World.frozen?, h]

theorem heap_setCell {w : World} {q i : Nat} {c : Array Value} {T : TypeId} {fr : Nat × Nat} {v : Value} (h : w.heap[q]? = Option.some (.cells c T fr)) :
    (w.setCell ⟨q, i, none⟩ v).heap[q]? = Option.some (.cells (c.setIfInBounds i v) T fr) := by
  simp only [World.setCell, Array.getElem?_modify]
  simp [h]

theorem At.set_pict {w : World} {q : Nat} {s : St} (h : At w q s) (v : Int) : At (w.setCell ⟨q, 2, none⟩ (.int .i64 v)) q { s with pict := v } := by obtain ⟨T, h⟩ := h; exact ⟨T, by rw [heap_setCell h]; rfl⟩
theorem At.set_conj {w : World} {q : Nat} {s : St} (h : At w q s) (v : Int) : At (w.setCell ⟨q, 3, none⟩ (.int .i64 v)) q { s with conj := v } := by obtain ⟨T, h⟩ := h; exact ⟨T, by rw [heap_setCell h]; rfl⟩
theorem At.set_odd {w : World} {q : Nat} {s : St} (h : At w q s) (v : Bool) : At (w.setCell ⟨q, 4, none⟩ (.bool v)) q { s with odd := v } := by obtain ⟨T, h⟩ := h; exact ⟨T, by rw [heap_setCell h]; rfl⟩
theorem At.set_some {w : World} {q : Nat} {s : St} (h : At w q s) (v : Bool) : At (w.setCell ⟨q, 0, none⟩ (.bool v)) q { s with some := v } := by obtain ⟨T, h⟩ := h; exact ⟨T, by rw [heap_setCell h]; rfl⟩
theorem At.set_last {w : World} {q : Nat} {s : St} (h : At w q s) (v : Int) : At (w.setCell ⟨q, 1, none⟩ (.int .i64 v)) q { s with last := v } := by obtain ⟨T, h⟩ := h; exact ⟨T, by rw [heap_setCell h]; rfl⟩

theorem _root_.Go.Proofs.YtcbfmokafmagpaaGreat.Mem.Blk.setCell {w : World} {g q : Nat} {xs : List Value} (h : Blk w g xs) (hn : g ≠ q) (i : Nat) (v : Value) : Blk (w.setCell ⟨q, i, none⟩ v) g xs := by
  obtain ⟨T, fr, h⟩ := h
  exact ⟨T, fr, by rw [Below.heap_setCell _ _ _ _ (by simpa using hn)]; exact h⟩

end Go.Proofs.YtcbfmokafmagpaaGreat.Seg

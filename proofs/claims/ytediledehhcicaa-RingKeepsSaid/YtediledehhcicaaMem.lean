/-
  Small words on memory: a block that is known whole.
-/
import Derived.Test.YtediledehhcicaaRows
import Derived.WalkKit
import Derived.WalkSpells
import Derived.WalkLawsBesides
import Derived.Lib.Hide
namespace Go.Proofs.Ytediledehhcicaa.Mem
set_option linter.unusedSimpArgs false
set_option linter.unusedVariables false
open Go.RowKit

/-- block b holds just these cells -/
def Blk (w : World) (b : Nat) (xs : List Value) : Prop := ∃ T fr, w.heap[b]? = some (.cells xs.toArray T fr)

theorem Blk.cell {w : World} {b : Nat} {xs : List Value} (h : Blk w b xs) (i : Nat) (v : Value) (hv : xs[i]? = some v) : w.cell? ⟨b, i, none⟩ = some v := by
  obtain ⟨T, fr, h⟩ := h
  simp [World.cell?, h, hv]

theorem Blk.below {w w' : World} {b B : Nat} {xs : List Value} (h : Blk w b xs) (hb : Below B w w') (hlt : b < B) : Blk w' b xs := by
  obtain ⟨T, fr, h⟩ := h
  exact ⟨T, fr, by rw [hb.block b hlt, h]⟩

theorem Blk.lt {w : World} {b : Nat} {xs : List Value} (h : Blk w b xs) : b < w.heap.size := by
  obtain ⟨T, fr, h⟩ := h
  rcases Nat.lt_or_ge b w.heap.size with h1 | h1
  · exact h1
  · rw [Array.getElem?_eq_none (by omega)] at h; cases h

theorem Blk.alloc (w : World) (c : Array Value) (T : TypeId) (fr : Nat × Nat) (xs : List Value) (h : c = xs.toArray) : Blk (w.alloc (.cells c T fr)) w.heap.size xs :=
  ⟨T, fr, by subst h; show (w.heap.push _)[w.heap.size]? = _; simp⟩

theorem Blk.drew {w : World} {b : Nat} {xs : List Value} (h : Blk w b xs) : Blk w.drew b xs := h
theorem Blk.drewN {w : World} {b n : Nat} {xs : List Value} (h : Blk w b xs) : Blk (w.drewN n) b xs := h

theorem getnum {L : List Int} {kd : IntKind} (k : Nat) (h : k < L.length) : (L.map (Value.int kd))[k]? = some (.int kd (L.getD k 0)) := by
  rw [List.getElem?_map, List.getElem?_eq_getElem h]
  simp [List.getD_eq_getElem?_getD, h]

theorem bdrew (w : World) (n : Nat) : Below w.heap.size w (w.drewN n) := ⟨rfl, rfl, rfl, Nat.le_refl _, fun _ _ => rfl⟩

end Go.Proofs.Ytediledehhcicaa.Mem

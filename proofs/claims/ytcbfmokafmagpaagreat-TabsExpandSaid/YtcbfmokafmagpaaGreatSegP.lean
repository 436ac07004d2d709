/-
  Package seg: words for states and properties.
-/
import Derived.Test.YtcbfmokafmagpaaGreatSegC
namespace Go.Proofs.YtcbfmokafmagpaaGreat.Seg
set_option linter.unusedSimpArgs false
set_option linter.unusedVariables false
open Go.RowKit Mem

theorem But.blk {q : Nat} {w w' : World} (h : But q w w') {g : Nat} {xs : List Value} (hk : Blk w g xs) (hn : g ≠ q) : Blk w' g xs := by
  have hl := hk.lt
  obtain ⟨T, fr, hk⟩ := hk
  exact ⟨T, fr, by rw [h.block g hl hn]; exact hk⟩

theorem But.at {q : Nat} {w w' : World} (h : But q w w') {g : Nat} {s : St} (hk : At w g s) (hn : g ≠ q) : At w' g s := by
  have hl := hk.lt
  obtain ⟨T, hk⟩ := hk
  exact ⟨T, by rw [h.block g hl hn]; exact hk⟩

theorem at_new (w : World) (T : TypeId) : At (w.alloc (.cells #[.bool false, .int .i64 0, .int .i64 0, .int .i64 0, .bool false] T)) w.heap.size zero := ⟨T, by show (w.heap.push _)[w.heap.size]? = _; simp [zero]⟩
theorem At.up {w : World} {q : Nat} {s : St} (h : At w q s) (o : Obj) : At (w.alloc o) q s := h.below ((Below.refl _ _).alloc (Nat.le_refl _) _)
theorem blk_new (w : World) (c : Array Value) (T : TypeId) (k : Nat) (hk : k = w.heap.size) : Blk (w.alloc (.cells c T)) k c.toList := by subst hk; exact Blk.alloc w c T (0, 0) c.toList rfl
theorem _root_.Go.Proofs.YtcbfmokafmagpaaGreat.Mem.Blk.up {w : World} {k : Nat} {xs : List Value} (h : Blk w k xs) (o : Obj) : Blk (w.alloc o) k xs := h.below ((Below.refl w.heap.size w).alloc (Nat.le_refl _) _) h.lt

/-- one property -/
structure P4 where
  br : Int
  pi : Bool
  co : Int
  ea : Int

/-- a slice of properties that came in: its cells -/
def IsProps (w : World) (a : Option Addr) (len cap : Nat) (ps : Nat → P4) : Prop :=
  len = 0 ∨
  ∃ b off, a = some ⟨b, off, none⟩ ∧ len ≤ cap ∧ cap ≤ maxLen ∧ b < w.heap.size ∧ ∀ i, i < len → w.cell? ⟨b, off + i * 4, none⟩ = some (.int .i64 (ps i).br) ∧ w.cell? ⟨b, off + i * 4 + 1, none⟩ = some (.bool (ps i).pi) ∧
    w.cell? ⟨b, off + i * 4 + 2, none⟩ = some (.int .i64 (ps i).co) ∧ w.cell? ⟨b, off + i * 4 + 3, none⟩ = some (.int .i64 (ps i).ea)

theorem step_agg (q : Nat) (s : St) (b : Int) (p : Bool) (c e : Int) (w : World) (h : At w q s) :
    Calls Tryz.prog 56 #[.pointer (some ⟨q, 0, none⟩), .agg #[.int .i64 b, .bool p, .int .i64 c, .int .i64 e]] w (StepPost q (joinB s b p c) (next s b p c) w) := step_any q s b p c e w h

/-- the cells of a slice of properties, in some world -/
def Cells (w : World) (b off len : Nat) (ps : Nat → P4) : Prop :=
  ∀ i, i < len → w.cell? ⟨b, off + i * 4, none⟩ = some (.int .i64 (ps i).br) ∧ w.cell? ⟨b, off + i * 4 + 1, none⟩ = some (.bool (ps i).pi) ∧
    w.cell? ⟨b, off + i * 4 + 2, none⟩ = some (.int .i64 (ps i).co) ∧ w.cell? ⟨b, off + i * 4 + 3, none⟩ = some (.int .i64 (ps i).ea)

theorem Cells.below {w w' : World} {b off len : Nat} {ps : Nat → P4} (h : Cells w b off len ps) (hb : Below w.heap.size w w') (hl : b < w.heap.size) : Cells w' b off len ps := by
  intro i hi
  obtain ⟨h1, h2, h3, h4⟩ := h i hi
  exact ⟨(hb.cell (p := ⟨b, _, none⟩) hl).trans h1, (hb.cell (p := ⟨b, _, none⟩) hl).trans h2, (hb.cell (p := ⟨b, _, none⟩) hl).trans h3, (hb.cell (p := ⟨b, _, none⟩) hl).trans h4⟩

end Go.Proofs.YtcbfmokafmagpaaGreat.Seg

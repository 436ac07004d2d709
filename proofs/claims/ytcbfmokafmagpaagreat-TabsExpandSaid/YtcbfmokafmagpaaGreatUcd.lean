/-
  All that is known of a number: package ucd and its reference.
-/
import Derived.Test.YtcbfmokafmagpaaGreatGcbAll
import Derived.Test.YtcbfmokafmagpaaGreatConjAll
import Derived.Test.YtcbfmokafmagpaaGreatEastAll
import Derived.Test.YtcbfmokafmagpaaGreatPictAll
namespace Go.Proofs.YtcbfmokafmagpaaGreat.Ucd
set_option linter.unusedSimpArgs false
set_option linter.unusedVariables false
open Go.RowKit Mem Tab

/-- a property as a value -/
def propV (b : Int) (p : Bool) (c e : Int) : Value := .agg #[.int .i64 b, .bool p, .int .i64 c, .int .i64 e]
/-- what is known of r -/
noncomputable def ofV (r : Int) : Value := propV (Gcb.val r) (Pict.isB r) (Conj.val r) (East.val r)

set_option maxHeartbeats 1000000 in
theorem of_any (r : Int) (hr1 : -2147483648 ≤ r) (hr2 : r ≤ 2147483647) (w : World) :
    Calls Tryz.prog 57 #[.int .i32 r] w fun e w' => e = .returned (ofV r) ∧ Below w.heap.size w w' := by
  have C1 := Lib.hid (Gcb.of_any r hr1 hr2)
  have C2 := Lib.hid (Pict.is_any r hr1 hr2)
  have C3 := Lib.hid (Conj.of_any r hr1 hr2)
  have C4 := Lib.hid (East.of_any r hr1 hr2)
  unfold ofV propV
  generalize Gcb.val r = g at *
  generalize Pict.isB r = p at *
  generalize Conj.val r = c at *
  generalize East.val r = e at *
  go_enter Tryz.func57, Tryz.ntmps57
  go_wp2_with fail
  refine (C1.out _).mono ?_; rintro _ w1 ⟨rfl, h1⟩
  go_wp2_with fail
  refine (C2.out _).mono ?_; rintro _ w2 ⟨rfl, h2⟩
  have h2 := h1.trans (h2.mono h1.size)
  clear h1
  go_wp2_with fail
  refine (C3.out _).mono ?_; rintro _ w3 ⟨rfl, h3⟩
  have h3 := h2.trans (h3.mono h2.size)
  clear h2
  go_wp2_with fail
  refine (C4.out _).mono ?_; rintro _ w4 ⟨rfl, h4⟩
  have h4 := h3.trans (h4.mono h3.size)
  clear h3
  have hz : w.heap.size < w4.heap.size := by have := h4.size; simp at this; omega
  have hblk : w4.heap[w.heap.size]? = some (.cells #[.int .i64 0, .bool false, .int .i64 0, .int .i64 0] 88) := by rw [h4.block _ (by simp)]; show (w.heap.push _)[w.heap.size]? = _; simp
  have hbw : Below w.heap.size w w4 := ((Below.refl _ _).alloc (Nat.le_refl _) _).trans (h4.mono (by simp))
  clear h4 C1 C2 C3 C4
  have c0 : w4.cell? ⟨w.heap.size, 0, none⟩ = some (.int .i64 0) := by simp [World.cell?, hblk]
  have c1 : w4.cell? ⟨w.heap.size, 1, none⟩ = some (.bool false) := by simp [World.cell?, hblk]
  have c2 : w4.cell? ⟨w.heap.size, 2, none⟩ = some (.int .i64 0) := by simp [World.cell?, hblk]
  have c3 : w4.cell? ⟨w.heap.size, 3, none⟩ = some (.int .i64 0) := by simp [World.cell?, hblk]
  have fz : ∀ i, w4.frozen? ⟨w.heap.size, i, none⟩ = false := by intro i; simp [World.frozen?, hblk]
  go_wp2
  refine bodyPost_ret (v := .agg #[.int .i64 g, .bool p, .int .i64 c, .int .i64 e]) (by simp [results, Tryz.results57, go_sem, c0, c1, c2, c3]) rfl ⟨rfl, ?_⟩
  exact (((hbw.setCell (Nat.le_refl _) _).setCell (Nat.le_refl _) _).setCell (Nat.le_refl _) _).setCell (Nat.le_refl _) _

set_option maxHeartbeats 1000000 in
theorem ref_any (r : Int) (hr1 : -2147483648 ≤ r) (hr2 : r ≤ 2147483647) (w : World) :
    Calls Tryz.prog 81 #[.int .i32 r] w fun e w' => e = .returned (ofV r) ∧ Below w.heap.size w w' := by
  have C1 := Lib.hid (Gcb.ref_val r hr1 hr2)
  have C2 := Lib.hid (Pict.ref_any r hr1 hr2)
  have C3 := Lib.hid (Conj.ref_val r hr1 hr2)
  have C4 := Lib.hid (East.ref_val r hr1 hr2)
  unfold ofV propV
  generalize Gcb.val r = g at *
  generalize Pict.isB r = p at *
  generalize Conj.val r = c at *
  generalize East.val r = e at *
  go_enter Tryz.func81, Tryz.ntmps81
  go_wp2_with fail
  refine (C1.out _).mono ?_; rintro _ w1 ⟨rfl, h1⟩
  go_wp2_with fail
  refine (C2.out _).mono ?_; rintro _ w2 ⟨rfl, h2⟩
  have h2 := h1.trans (h2.mono h1.size)
  clear h1
  go_wp2_with fail
  refine (C3.out _).mono ?_; rintro _ w3 ⟨rfl, h3⟩
  have h3 := h2.trans (h3.mono h2.size)
  clear h2
  go_wp2_with fail
  refine (C4.out _).mono ?_; rintro _ w4 ⟨rfl, h4⟩
  have h4 := h3.trans (h4.mono h3.size)
  clear h3
  have hz : w.heap.size < w4.heap.size := by have := h4.size; simp at this; omega
  have hblk : w4.heap[w.heap.size]? = some (.cells #[.int .i64 0, .bool false, .int .i64 0, .int .i64 0] 88) := by rw [h4.block _ (by simp)]; show (w.heap.push _)[w.heap.size]? = _; simp
  have hbw : Below w.heap.size w w4 := ((Below.refl _ _).alloc (Nat.le_refl _) _).trans (h4.mono (by simp))
  clear h4 C1 C2 C3 C4
  have c0 : w4.cell? ⟨w.heap.size, 0, none⟩ = some (.int .i64 0) := by simp [World.cell?, hblk]
  have c1 : w4.cell? ⟨w.heap.size, 1, none⟩ = some (.bool false) := by simp [World.cell?, hblk]
  have c2 : w4.cell? ⟨w.heap.size, 2, none⟩ = some (.int .i64 0) := by simp [World.cell?, hblk]
  have c3 : w4.cell? ⟨w.heap.size, 3, none⟩ = some (.int .i64 0) := by simp [World.cell?, hblk]
  have fz : ∀ i, w4.frozen? ⟨w.heap.size, i, none⟩ = false := by intro i; simp [World.frozen?, hblk]
  go_wp2
  refine bodyPost_ret (v := .agg #[.int .i64 g, .bool p, .int .i64 c, .int .i64 e]) (by simp [results, Tryz.results81, go_sem, c0, c1, c2, c3]) rfl ⟨rfl, ?_⟩
  exact (((hbw.setCell (Nat.le_refl _) _).setCell (Nat.le_refl _) _).setCell (Nat.le_refl _) _).setCell (Nat.le_refl _) _

end Go.Proofs.YtcbfmokafmagpaaGreat.Ucd

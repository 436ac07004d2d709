/-
  The statements of layer 15: works.
-/
import Derived.Test.YtdfocobcchmjfaaSegC
namespace Go.Proofs.Ytdfocobcchmjfaa.Seg
set_option linter.unusedVariables false
open Go.RowKit Mem

theorem But.blk {q : Nat} {w w' : World} (h : But q w w') {g : Nat} {xs : List Value} (hk : Blk w g xs) (hn : g ≠ q) : Blk w' g xs := by
  have hl := hk.lt
  obtain ⟨T, fr, hk⟩ := hk
  exact ⟨T, fr, by rw [h.block g hl hn]; exact hk⟩

theorem But.at {q : Nat} {w w' : World} (h : But q w w') {g : Nat} {s : St} (hk : At w g s) (hn : g ≠ q) : At w' g s := by
  have hl := hk.lt
  obtain ⟨T, hk⟩ := hk
  exact ⟨T, by rw [h.block g hl hn]; exact hk⟩

theorem at_new (w : World) (T : TypeId) : At (w.alloc (.cells #[.bool false, .int .i64 0, .int .i64 0, .int .i64 0, .bool false] T)) w.heap.size zero := ⟨T, by show (w.heap.push _)[w.heap.size]? = _; simp [zero]⟩
theorem At.up {w : World} {q : Nat} {s : St} (h : At w q s) (o : Obj) : At (w.alloc o) q s := h.below ((Below.refl _ _).alloc (Nat.le_refl _) _)
theorem blk_new (w : World) (c : Array Value) (T : TypeId) (k : Nat) (hk : k = w.heap.size) : Blk (w.alloc (.cells c T)) k c.toList := by subst hk; exact Blk.alloc w c T (0, 0) c.toList rfl
theorem _root_.Go.Proofs.Ytdfocobcchmjfaa.Mem.Blk.up {w : World} {k : Nat} {xs : List Value} (h : Blk w k xs) (o : Obj) : Blk (w.alloc o) k xs := h.below ((Below.refl w.heap.size w).alloc (Nat.le_refl _) _) h.lt

set_option maxHeartbeats 4000000 in
theorem works_any (w : World) :
    Calls Try.prog 27 #[] w fun e w' => e = .returned (.bool true) ∧ Below w.heap.size w w' := by
  go_enter Try.func27, Try.ntmps27
  go_wp2_with fail
  have hA := (((at_new w 36).up (.cells #[.int .i64 0, .bool false, .int .i64 1, .int .i64 0] 34)).up (.cells #[.int .i64 4, .bool false, .int .i64 2, .int .i64 0] 34)).up (.cells #[.int .i64 6, .bool false, .int .i64 0, .int .i64 0] 34)
  have hk1 := ((blk_new (w.alloc (.cells #[.bool false, .int .i64 0, .int .i64 0, .int .i64 0, .bool false] 36)) #[.int .i64 0, .bool false, .int .i64 1, .int .i64 0] 34 (w.heap.size + 1) (by simp)).up (.cells #[.int .i64 4, .bool false, .int .i64 2, .int .i64 0] 34)).up (.cells #[.int .i64 6, .bool false, .int .i64 0, .int .i64 0] 34)
  have hk2 := (blk_new ((w.alloc (.cells #[.bool false, .int .i64 0, .int .i64 0, .int .i64 0, .bool false] 36)).alloc (.cells #[.int .i64 0, .bool false, .int .i64 1, .int .i64 0] 34)) #[.int .i64 4, .bool false, .int .i64 2, .int .i64 0] 34 (w.heap.size + 1 + 1) (by simp)).up (.cells #[.int .i64 6, .bool false, .int .i64 0, .int .i64 0] 34)
  have hk3 := blk_new (((w.alloc (.cells #[.bool false, .int .i64 0, .int .i64 0, .int .i64 0, .bool false] 36)).alloc (.cells #[.int .i64 0, .bool false, .int .i64 1, .int .i64 0] 34)).alloc (.cells #[.int .i64 4, .bool false, .int .i64 2, .int .i64 0] 34)) #[.int .i64 6, .bool false, .int .i64 0, .int .i64 0] 34 (w.heap.size + 1 + 1 + 1) (by simp)
  have hbw : Below w.heap.size w ((((w.alloc (.cells #[.bool false, .int .i64 0, .int .i64 0, .int .i64 0, .bool false] 36)).alloc (.cells #[.int .i64 0, .bool false, .int .i64 1, .int .i64 0] 34)).alloc (.cells #[.int .i64 4, .bool false, .int .i64 2, .int .i64 0] 34)).alloc (.cells #[.int .i64 6, .bool false, .int .i64 0, .int .i64 0] 34)) :=
    ((((Below.refl _ _).alloc (Nat.le_refl _) _).alloc (by first | (simp; done) | (simp; omega)) _).alloc (by first | (simp; done) | (simp; omega)) _).alloc (by first | (simp; done) | (simp; omega)) _
  generalize ((((w.alloc (.cells #[.bool false, .int .i64 0, .int .i64 0, .int .i64 0, .bool false] 36)).alloc (.cells #[.int .i64 0, .bool false, .int .i64 1, .int .i64 0] 34)).alloc (.cells #[.int .i64 4, .bool false, .int .i64 2, .int .i64 0] 34)).alloc (.cells #[.int .i64 6, .bool false, .int .i64 0, .int .i64 0] 34)) = w0 at *
  refine (step_core w.heap.size zero 0 false 1 0 w0 hA false ⟨true, 0, 0, 1, false⟩ (Lib.hid (by kernel_rfl)) (Lib.hid (by kernel_rfl))).mono ?_
  rintro e w1 ⟨rfl, hA1, hB1⟩
  have hk1 := hB1.blk hk1 (by omega)
  have hk2 := hB1.blk hk2 (by omega)
  have hk3 := hB1.blk hk3 (by omega)
  have hbw := hbw.trans (hB1.below (Nat.le_refl _) hbw.size)
  clear hB1 hA
  have c0 := hk2.cell 0 _ rfl
  have c1 := hk2.cell 1 _ rfl
  have c2 := hk2.cell 2 _ rfl
  have c3 := hk2.cell 3 _ rfl
  go_wp2_with fail
  refine (step_core w.heap.size _ 4 false 2 0 w1 hA1 true ⟨true, 4, 0, 2, false⟩ (Lib.hid (by kernel_rfl)) (Lib.hid (by kernel_rfl))).mono ?_
  rintro e w2 ⟨rfl, hA2, hB2⟩
  clear c0 c1 c2 c3
  have hk1 := hB2.blk hk1 (by omega)
  have hk3 := hB2.blk hk3 (by omega)
  have hbw := hbw.trans (hB2.below (Nat.le_refl _) hbw.size)
  clear hB2 hA1 hk2
  have c0 := hk1.cell 0 _ rfl
  have c1 := hk1.cell 1 _ rfl
  have c2 := hk1.cell 2 _ rfl
  have c3 := hk1.cell 3 _ rfl
  go_wp2_with fail
  refine (step_core w.heap.size _ 0 false 1 0 w2 hA2 true ⟨true, 0, 0, 1, false⟩ (Lib.hid (by kernel_rfl)) (Lib.hid (by kernel_rfl))).mono ?_
  rintro e w3 ⟨rfl, hA3, hB3⟩
  clear c0 c1 c2 c3
  have hk3 := hB3.blk hk3 (by omega)
  have hbw := hbw.trans (hB3.below (Nat.le_refl _) hbw.size)
  clear hB3 hA2 hk1
  have c0 := hk3.cell 0 _ rfl
  have c1 := hk3.cell 1 _ rfl
  have c2 := hk3.cell 2 _ rfl
  have c3 := hk3.cell 3 _ rfl
  go_wp2_with fail
  refine (step_core w.heap.size _ 6 false 0 0 w3 hA3 false ⟨true, 6, 0, 0, true⟩ (Lib.hid (by kernel_rfl)) (Lib.hid (by kernel_rfl))).mono ?_
  rintro e w4 ⟨rfl, hA4, hB4⟩
  clear c0 c1 c2 c3
  have hk3 := hB4.blk hk3 (by omega)
  have hbw := hbw.trans (hB4.below (Nat.le_refl _) hbw.size)
  clear hB4 hA3
  have c0 := hk3.cell 0 _ rfl
  have c1 := hk3.cell 1 _ rfl
  have c2 := hk3.cell 2 _ rfl
  have c3 := hk3.cell 3 _ rfl
  go_wp2_with fail
  refine (step_core w.heap.size _ 6 false 0 0 w4 hA4 true ⟨true, 6, 0, 0, false⟩ (Lib.hid (by kernel_rfl)) (Lib.hid (by kernel_rfl))).mono ?_
  rintro e w5 ⟨rfl, hA5, hB5⟩
  clear c0 c1 c2 c3
  have hk3 := hB5.blk hk3 (by omega)
  have hbw := hbw.trans (hB5.below (Nat.le_refl _) hbw.size)
  clear hB5 hA4
  have c0 := hk3.cell 0 _ rfl
  have c1 := hk3.cell 1 _ rfl
  have c2 := hk3.cell 2 _ rfl
  have c3 := hk3.cell 3 _ rfl
  go_wp2_with fail
  refine (step_core w.heap.size _ 6 false 0 0 w5 hA5 false ⟨true, 6, 0, 0, true⟩ (Lib.hid (by kernel_rfl)) (Lib.hid (by kernel_rfl))).mono ?_
  rintro e w6 ⟨rfl, hA6, hB6⟩
  clear c0 c1 c2 c3
  have hbw := hbw.trans (hB6.below (Nat.le_refl _) hbw.size)
  clear hB6 hA5 hA6 hk3
  go_wp2
  go_ret
  exact ⟨rfl, hbw⟩

end Go.Proofs.Ytdfocobcchmjfaa.Seg

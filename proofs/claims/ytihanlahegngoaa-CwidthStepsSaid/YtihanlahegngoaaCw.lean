/-
  Package cwidth: the gauge.
-/
import Derived.Test.YtihanlahegngoaaBasew
import Derived.Test.YtihanlahegngoaaSegP
import Derived.RegionTactic
namespace Go.Proofs.Ytihanlahegngoaa.Cw
set_option linter.unusedSimpArgs false
set_option linter.unusedVariables false
open Go Go.RowKit Mem Seg

structure Ga where
  some : Bool
  pict : Bool
  wide : Bool

def zero : Ga := ⟨false, false, false⟩
/-- does one more make it wide? -/
def widensB (s : Ga) (r b : Int) (p : Bool) (e : Int) : Bool := Basew.bw b e == 2 || (s.some && ((r == 65039 && s.pict) || p || b == 6))
def next (s : Ga) (r b : Int) (p : Bool) (e : Int) : Ga := ⟨true, p, s.wide || widensB s r b p e⟩
def wid (b : Bool) : Int := if b then 2 else 1

/-- block q holds the gauge -/
def At (w : World) (q : Nat) (s : Ga) : Prop := ∃ T, w.heap[q]? = Option.some (.cells #[.bool s.some, .bool s.pict, .bool s.wide] T (0, 0))
theorem At.lt {w : World} {q : Nat} {s : Ga} (h : At w q s) : q < w.heap.size := by
  obtain ⟨T, h⟩ := h
  exact Blk.lt (xs := _) ⟨T, (0, 0), h⟩
theorem At.below {w w' : World} {q : Nat} {s : Ga} (h : At w q s) (hb : Below w.heap.size w w') : At w' q s := by
  have := h.lt
  obtain ⟨T, h⟩ := h
  exact ⟨T, by rw [hb.block q this, h]⟩
theorem At.some {w : World} {q : Nat} {s : Ga} (h : At w q s) : w.cell? ⟨q, 0, none⟩ = Option.some (.bool s.some) := by obtain ⟨T, h⟩ := h; simp [World.cell?, h]
theorem At.pict {w : World} {q : Nat} {s : Ga} (h : At w q s) : w.cell? ⟨q, 1, none⟩ = Option.some (.bool s.pict) := by obtain ⟨T, h⟩ := h; simp [World.cell?, h]
theorem At.wide {w : World} {q : Nat} {s : Ga} (h : At w q s) : w.cell? ⟨q, 2, none⟩ = Option.some (.bool s.wide) := by obtain ⟨T, h⟩ := h; simp [World.cell?, h]
theorem At.frozen {w : World} {q : Nat} {s : Ga} (h : At w q s) (i : Nat) : w.frozen? ⟨q, i, none⟩ = false := by obtain ⟨T, h⟩ := h; simp [World.frozen?, h]
theorem At.set_some {w : World} {q : Nat} {s : Ga} (h : At w q s) (v : Bool) : At (w.setCell ⟨q, 0, none⟩ (.bool v)) q { s with some := v } := by obtain ⟨T, h⟩ := h; exact ⟨T, by rw [heap_setCell h]; rfl⟩
theorem At.set_pict {w : World} {q : Nat} {s : Ga} (h : At w q s) (v : Bool) : At (w.setCell ⟨q, 1, none⟩ (.bool v)) q { s with pict := v } := by obtain ⟨T, h⟩ := h; exact ⟨T, by rw [heap_setCell h]; rfl⟩
theorem At.set_wide {w : World} {q : Nat} {s : Ga} (h : At w q s) (v : Bool) : At (w.setCell ⟨q, 2, none⟩ (.bool v)) q { s with wide := v } := by obtain ⟨T, h⟩ := h; exact ⟨T, by rw [heap_setCell h]; rfl⟩
theorem at_new (w : World) (T : TypeId) : At (w.alloc (.cells #[.bool false, .bool false, .bool false] T)) w.heap.size zero := ⟨T, by show (w.heap.push _)[w.heap.size]? = _; simp [zero]⟩

set_option maxHeartbeats 2000000 in
theorem widens_any (q : Nat) (s : Ga) (r b : Int) (p : Bool) (c e : Int) (w : World) (h : Hid (At w q s)) :
    Calls Try.prog 59 #[.pointer (some ⟨q, 0, none⟩), .int .i32 r, .agg #[.int .i64 b, .bool p, .int .i64 c, .int .i64 e]] w fun e' w' => e' = .returned (.bool (widensB s r b p e)) ∧ Below w.heap.size w w' := by
  have HW : Hid (widensB s r b p e = (Basew.bw b e == 2 || (s.some && ((r == 65039 && s.pict) || p || b == 6)))) := rfl
  have HO := Lib.hid (Basew.of_any b p c e)
  have hlt := h.out.lt
  have A1 : At (w.alloc (.cells #[.int .i64 b, .bool p, .int .i64 c, .int .i64 e] 29)) q s := h.out.below ((Below.refl _ _).alloc (Nat.le_refl _) _)
  have K1 : Blk (w.alloc (.cells #[.int .i64 b, .bool p, .int .i64 c, .int .i64 e] 29)) w.heap.size [.int .i64 b, .bool p, .int .i64 c, .int .i64 e] := Blk.alloc _ _ _ _ _ rfl
  have B1 : Below w.heap.size w (w.alloc (.cells #[.int .i64 b, .bool p, .int .i64 c, .int .i64 e] 29)) := (Below.refl _ _).alloc (Nat.le_refl _) _
  have HA := Lib.hid A1
  have HK := Lib.hid K1
  have HB := Lib.hid B1
  clear A1 K1 B1 h
  generalize Basew.bw b e = x at *
  obtain ⟨so, pi, wi⟩ := s
  go_enter Try.func59, Try.ntmps59
  go_wp2_with fail
  generalize w.alloc (.cells #[.int .i64 b, .bool p, .int .i64 c, .int .i64 e] 29) = w1 at *
  refine (HO.out _).mono ?_
  rintro e' w2 ⟨rfl, hb2⟩
  have HA2 := Lib.hid (HA.out.below hb2)
  have HB2 := Lib.hid (HB.out.trans (hb2.mono HB.out.size))
  have HK2 := Lib.hid (HK.out.below hb2 HK.out.lt)
  clear HA HB HK hb2 HO
  have p0 := HK2.out.cell 0 _ rfl
  have p1 := HK2.out.cell 1 _ rfl
  have c0 := HA2.out.some
  have c1 := HA2.out.pict
  simp only at c0 c1
  cases so <;> cases pi <;> cases p
  all_goals
    go_wp2
    all_goals (go_ret; refine ⟨ret_bool (by rw [HW.out]; simp [*]), HB2.out⟩)

def StepPost (q : Nat) (j : Int) (s' : Ga) (w : World) (e : Ending) (w' : World) : Prop :=
  e = .returned (.int .i64 j) ∧ At w' q s' ∧ But q w w'

set_option maxHeartbeats 4000000 in
theorem step_any (q : Nat) (s : Ga) (r b : Int) (p : Bool) (c e : Int) (w : World) (h : At w q s) :
    Calls Try.prog 19 #[.pointer (some ⟨q, 0, none⟩), .int .i32 r, .agg #[.int .i64 b, .bool p, .int .i64 c, .int .i64 e]] w (StepPost q (wid (next s r b p e).wide) (next s r b p e) w) := by
  have hlt := h.lt
  have H0 := Lib.hid h
  have A1 : At (w.alloc (.cells #[.int .i64 b, .bool p, .int .i64 c, .int .i64 e] 29)) q s := h.below ((Below.refl _ _).alloc (Nat.le_refl _) _)
  have B1 : Below w.heap.size w (w.alloc (.cells #[.int .i64 b, .bool p, .int .i64 c, .int .i64 e] 29)) := (Below.refl _ _).alloc (Nat.le_refl _) _
  have K0 : Blk (w.alloc (.cells #[.int .i64 b, .bool p, .int .i64 c, .int .i64 e] 29)) w.heap.size [.int .i64 b, .bool p, .int .i64 c, .int .i64 e] := Blk.alloc _ _ _ _ _ rfl
  have HA := Lib.hid A1
  have HB := Lib.hid B1
  have HK := Lib.hid K0
  have HWD := Lib.hid (widens_any q s r b p c e)
  have HX : Hid (next s r b p e = ⟨true, p, s.wide || widensB s r b p e⟩) := rfl
  clear A1 B1 K0 h
  generalize widensB s r b p e = wd at *
  generalize next s r b p e = s' at *
  obtain ⟨so, pi, wi⟩ := s
  have c2 := HA.out.wide
  have f2 := HA.out.frozen 2
  simp only at c2
  cases wi
  · go_enter Try.func19, Try.ntmps19
    have p0 := HK.out.cell 0 _ rfl
    have p1 := HK.out.cell 1 _ rfl
    have p2 := HK.out.cell 2 _ rfl
    have p3 := HK.out.cell 3 _ rfl
    go_wp2_with fail
    generalize w.alloc (.cells #[.int .i64 b, .bool p, .int .i64 c, .int .i64 e] 29) = w1 at *
    refine (HWD.out _ HA).mono ?_
    rintro e' w2 ⟨rfl, hb2⟩
    have HA2 := Lib.hid (HA.out.below hb2)
    have HB2 := Lib.hid (HB.out.trans (hb2.mono HB.out.size))
    have HK2 := Lib.hid (HK.out.below hb2 HK.out.lt)
    have hkl := HK2.out.lt
    clear HA HB HK hb2 HWD c2 f2 p0 p1 p2 p3
    have c2 := HA2.out.wide
    have f2 := HA2.out.frozen 2
    have p1 := HK2.out.cell 1 _ rfl
    go_wp2
    have HA3 := Lib.hid (HA2.out.set_wide wd)
    have HB3 := Lib.hid ((But.of_below HB2.out).setCell (q := q) 2 (.bool wd))
    have HK3 := Lib.hid (HK2.out.setCell (q := q) (by omega) 2 (.bool wd))
    generalize w2.setCell ⟨q, 2, none⟩ (.bool wd) = w3 at *
    clear HA2 HB2 HK2 c2 f2 p1
    have p1 := HK3.out.cell 1 _ rfl
    have f0 := HA3.out.frozen 0
    have f1 := HA3.out.frozen 1
    have c0 := HA3.out.some
    have c1 := HA3.out.pict
    have c2 := HA3.out.wide
    simp only at c0 c1 c2
    go_region
    all_goals
      cases wd
      all_goals
        go_wp2
        go_ret
        refine ⟨by rw [HX.out]; rfl, ?_, ?_⟩
        · rw [HX.out]; exact (HA3.out.set_some true).set_pict p
        · exact ((HB3.out.trans (But.of_below ((Below.refl _ _).drew))).setCell 0 (.bool true)).setCell 1 _
  · have p1 := HK.out.cell 1 _ rfl
    go_enter Try.func19, Try.ntmps19
    clear HWD p1
    go_wp2
    have HS : (w.setCell ⟨q, 2, none⟩ (.bool true)).heap.size = w.heap.size := by simp [World.setCell]
    have HA3 : Hid (At ((w.setCell ⟨q, 2, none⟩ (.bool true)).alloc (.cells #[.int .i64 b, .bool p, .int .i64 c, .int .i64 e] 29)) q ⟨so, pi, true⟩) := (H0.out.set_wide true).below ((Below.refl _ _).alloc (Nat.le_refl _) _)
    have HB3 : Hid (But q w ((w.setCell ⟨q, 2, none⟩ (.bool true)).alloc (.cells #[.int .i64 b, .bool p, .int .i64 c, .int .i64 e] 29))) := ((But.refl q w).setCell 2 (.bool true)).trans (But.of_below ((Below.refl _ _).alloc (Nat.le_refl _) _))
    have HK3 : Hid (Blk ((w.setCell ⟨q, 2, none⟩ (.bool true)).alloc (.cells #[.int .i64 b, .bool p, .int .i64 c, .int .i64 e] 29)) w.heap.size [.int .i64 b, .bool p, .int .i64 c, .int .i64 e]) := by
      have := Blk.alloc (w.setCell ⟨q, 2, none⟩ (.bool true)) #[.int .i64 b, .bool p, .int .i64 c, .int .i64 e] 29 (0, 0) [.int .i64 b, .bool p, .int .i64 c, .int .i64 e] rfl
      rw [HS] at this
      exact this
    generalize ((w.setCell ⟨q, 2, none⟩ (.bool true)).alloc (.cells #[.int .i64 b, .bool p, .int .i64 c, .int .i64 e] 29)) = w3 at *
    clear HA HB HK c2 f2 HS
    have p1 := HK3.out.cell 1 _ rfl
    have f0 := HA3.out.frozen 0
    have f1 := HA3.out.frozen 1
    have c0 := HA3.out.some
    have c1 := HA3.out.pict
    have c2 := HA3.out.wide
    simp only at c0 c1 c2
    go_region
    all_goals
      go_wp2
      go_ret
      refine ⟨by rw [HX.out]; rfl, ?_, ?_⟩
      · rw [HX.out]; exact (HA3.out.set_some true).set_pict p
      · exact ((HB3.out.trans (But.of_below ((Below.refl _ _).drew))).setCell 0 (.bool true)).setCell 1 _

set_option maxHeartbeats 1000000 in
theorem reset_any (q : Nat) (s : Ga) (w : World) (h : At w q s) :
    Calls Try.prog 21 #[.pointer (some ⟨q, 0, none⟩)] w fun e w' => e = .returned (.tuple #[]) ∧ At w' q zero ∧ But q w w' := by
  have c0 := h.some
  have c1 := h.pict
  have c2 := h.wide
  have z0 := h.frozen 0
  have z1 := h.frozen 1
  have z2 := h.frozen 2
  have H := Lib.hid h
  clear h
  go_enter Try.func21, Try.ntmps21
  go_wp2
  go_end0
  exact ⟨rfl, ((H.out.set_some false).set_pict false).set_wide false, (((But.refl q w).setCell 0 _).setCell 1 _).setCell 2 _⟩

theorem reset_none (w : World) : Calls Try.prog 21 #[.pointer none] w fun e w' => e = .returned (.tuple #[]) ∧ w = w' := by
  go_enter Try.func21, Try.ntmps21
  go_wp2
  go_end0
  exact ⟨rfl, rfl⟩

theorem step_none (r b : Int) (p : Bool) (c e : Int) (w : World) : Calls Try.prog 19 #[.pointer none, .int .i32 r, .agg #[.int .i64 b, .bool p, .int .i64 c, .int .i64 e]] w fun e w' => e = .returned (.int .i64 1) ∧ Below w.heap.size w w' := by
  go_enter Try.func19, Try.ntmps19
  go_wp2
  go_ret
  exact ⟨rfl, (Below.refl _ _).alloc (Nat.le_refl _) _⟩

end Go.Proofs.Ytihanlahegngoaa.Cw

/-
  A slice of properties that came in, opened to its cells.
  The walk of the statement SegCopies.
  seg.State within a feeder: its walks at an offset (printed by gen_off.py).
-/
import Derived.Test.YtjicdcmdgbcdcaaGreatDoorCd9
import Derived.ProofKit
import Derived.Deep.Slices
section
namespace Go.Proofs.YtjicdcmdgbcdcaaGreatDoor.Seg
set_option linter.unusedSimpArgs false
set_option linter.unusedVariables false
open Go.ChangeShapes Go.WideShapes Go.Deep Go.RowKit

theorem add_none (b off n : Nat) : (Addr.mk b off none).add n = ⟨b, off + n, none⟩ := by
  unfold Addr.add
  split <;> simp_all

end Go.Proofs.YtjicdcmdgbcdcaaGreatDoor.Seg
end
section
namespace Go.Proofs.YtjicdcmdgbcdcaaGreatDoor.Seg
set_option linter.unusedSimpArgs false
set_option linter.unusedVariables false
open Go.RowKit Mem

theorem At.set_all {w : World} {q : Nat} {s : St} (h : At w q s) :
    At (((((w.setCell ⟨q, 0, none⟩ (.bool false)).setCell ⟨q, 1, none⟩ (.int .i64 0)).setCell ⟨q, 2, none⟩ (.int .i64 0)).setCell ⟨q, 3, none⟩ (.int .i64 0)).setCell ⟨q, 4, none⟩ (.bool false)) q zero :=
  ((((h.set_some false).set_last 0).set_pict 0).set_conj 0).set_odd false

set_option maxHeartbeats 1000000 in
theorem reset_any (q : Nat) (s : St) (w : World) (h : At w q s) :
    Calls Tryz.prog 69 #[.pointer (some ⟨q, 0, none⟩)] w fun e w' => e = .returned (.tuple #[]) ∧ At w' q zero ∧ But q w w' := by
  have c0 := h.some
  have c1 := h.last
  have c2 := h.pict
  have c3 := h.conj
  have c4 := h.odd
  have z0 := h.frozen 0
  have z1 := h.frozen 1
  have z2 := h.frozen 2
  have z3 := h.frozen 3
  have z4 := h.frozen 4
  have H := Lib.hid h
  clear h
  go_enter Tryz.func69, Tryz.ntmps69
  go_wp2
  go_end0
  exact ⟨rfl, H.out.set_all, (((((But.refl q w).setCell 0 _).setCell 1 _).setCell 2 _).setCell 3 _).setCell 4 _⟩

end Go.Proofs.YtjicdcmdgbcdcaaGreatDoor.Seg
end
section
namespace Go.Proofs.YtjicdcmdgbcdcaaGreatDoor.SegO
set_option linter.unusedSimpArgs false
set_option linter.unusedVariables false
open Go.RowKit Mem Seg

/-- the block's other cells -/
structure Fr where
  a0 : Value
  a1 : Value
  a2 : Value
  a3 : Value
  a4 : Value
  a5 : Value
  z : Value
/-- in block q it stands, from cell 6 on -/
def At (K : Fr) (w : World) (q : Nat) (s : St) : Prop := ∃ T : Unit, w.heap[q]? = Option.some (.cells #[K.a0, K.a1, K.a2, K.a3, K.a4, K.a5, .bool s.some, .int .i64 s.last, .int .i64 s.pict, .int .i64 s.conj, .bool s.odd, K.z] 125 (0, 0))
theorem At.lt {K : Fr} {w : World} {q : Nat} {s : St} (h : At K w q s) : q < w.heap.size := by
  obtain ⟨T, h⟩ := h
  exact Blk.lt (xs := _) ⟨_, (0, 0), h⟩
theorem At.below {K : Fr} {w w' : World} {q : Nat} {s : St} (h : At K w q s) (hb : Below w.heap.size w w') : At K w' q s := by
  have := h.lt
  obtain ⟨T, h⟩ := h
  exact ⟨T, by rw [hb.block q this, h]⟩
theorem At.frozen {K : Fr} {w : World} {q : Nat} {s : St} (h : At K w q s) (i : Nat) : w.frozen? ⟨q, i, none⟩ = false := by obtain ⟨T, h⟩ := h; simp [World.frozen?, h]
theorem At.some {K : Fr} {w : World} {q : Nat} {s : St} (h : At K w q s) : w.cell? ⟨q, 6, none⟩ = Option.some (.bool s.some) := by obtain ⟨T, h⟩ := h; simp [World.cell?, h]
theorem At.last {K : Fr} {w : World} {q : Nat} {s : St} (h : At K w q s) : w.cell? ⟨q, 7, none⟩ = Option.some (.int .i64 s.last) := by obtain ⟨T, h⟩ := h; simp [World.cell?, h]
theorem At.pict {K : Fr} {w : World} {q : Nat} {s : St} (h : At K w q s) : w.cell? ⟨q, 8, none⟩ = Option.some (.int .i64 s.pict) := by obtain ⟨T, h⟩ := h; simp [World.cell?, h]
theorem At.conj {K : Fr} {w : World} {q : Nat} {s : St} (h : At K w q s) : w.cell? ⟨q, 9, none⟩ = Option.some (.int .i64 s.conj) := by obtain ⟨T, h⟩ := h; simp [World.cell?, h]
theorem At.odd {K : Fr} {w : World} {q : Nat} {s : St} (h : At K w q s) : w.cell? ⟨q, 10, none⟩ = Option.some (.bool s.odd) := by obtain ⟨T, h⟩ := h; simp [World.cell?, h]
theorem At.set_some {K : Fr} {w : World} {q : Nat} {s : St} (h : At K w q s) (v : Bool) : At K (w.setCell ⟨q, 6, none⟩ (.bool v)) q { s with some := v } := by obtain ⟨T, h⟩ := h; exact ⟨T, by rw [heap_setCell h]; rfl⟩
theorem At.set_last {K : Fr} {w : World} {q : Nat} {s : St} (h : At K w q s) (v : Int) : At K (w.setCell ⟨q, 7, none⟩ (.int .i64 v)) q { s with last := v } := by obtain ⟨T, h⟩ := h; exact ⟨T, by rw [heap_setCell h]; rfl⟩
theorem At.set_pict {K : Fr} {w : World} {q : Nat} {s : St} (h : At K w q s) (v : Int) : At K (w.setCell ⟨q, 8, none⟩ (.int .i64 v)) q { s with pict := v } := by obtain ⟨T, h⟩ := h; exact ⟨T, by rw [heap_setCell h]; rfl⟩
theorem At.set_conj {K : Fr} {w : World} {q : Nat} {s : St} (h : At K w q s) (v : Int) : At K (w.setCell ⟨q, 9, none⟩ (.int .i64 v)) q { s with conj := v } := by obtain ⟨T, h⟩ := h; exact ⟨T, by rw [heap_setCell h]; rfl⟩
theorem At.set_odd {K : Fr} {w : World} {q : Nat} {s : St} (h : At K w q s) (v : Bool) : At K (w.setCell ⟨q, 10, none⟩ (.bool v)) q { s with odd := v } := by obtain ⟨T, h⟩ := h; exact ⟨T, by rw [heap_setCell h]; rfl⟩

set_option maxHeartbeats 1000000 in
theorem picture_any (K : Fr) (q : Nat) (s : St) (b : Int) (p : Bool) (c e : Int) (w : World) (h : Hid (At K w q s)) :
    Calls Tryz.prog 225 #[.pointer (some ⟨q, 6, none⟩), propV b p c e] w fun e' w' => e' = .returned (.int .i64 (pictS s b p)) ∧ Below w.heap.size w w' := by
  have h2 := h.out.pict
  have hlt := h.out.lt
  clear h
  have H : Hid (pictS s b p = if p then 1 else if s.pict == 1 && b == 4 then 1 else if s.pict == 1 && b == 5 then 2 else 0) := rfl
  unfold propV
  generalize s.pict = pi at *
  cases p
  all_goals
    go_enter Tryz.func225, Tryz.ntmps225
    go_wp2
    all_goals (go_ret; refine ⟨ret_int (by rw [H.out]; simp [*]), (Below.refl _ _).alloc (Nat.le_refl _) _⟩)

set_option maxHeartbeats 1000000 in
theorem conjunct_any (K : Fr) (q : Nat) (s : St) (b : Int) (p : Bool) (c e : Int) (w : World) (h : Hid (At K w q s)) :
    Calls Tryz.prog 226 #[.pointer (some ⟨q, 6, none⟩), propV b p c e] w fun e' w' => e' = .returned (.int .i64 (conjS s c)) ∧ Below w.heap.size w w' := by
  have h2 := h.out.conj
  have hlt := h.out.lt
  clear h
  have H : Hid (conjS s c = if c == 1 then 1 else if s.conj == 0 then 0 else if c == 2 then 2 else if c == 3 then s.conj else 0) := rfl
  unfold propV
  generalize s.conj = ci at *
  go_enter Tryz.func226, Tryz.ntmps226
  go_wp2
  all_goals (go_ret; refine ⟨ret_int (by rw [H.out]; simp [*]), (Below.refl _ _).alloc (Nat.le_refl _) _⟩)

set_option maxHeartbeats 2000000 in
theorem joins_any (K : Fr) (q : Nat) (s : St) (b : Int) (p : Bool) (c e : Int) (w : World) (h : Hid (At K w q s)) :
    Calls Tryz.prog 224 #[.pointer (some ⟨q, 6, none⟩), propV b p c e] w fun e' w' => e' = .returned (.bool (joinB s b p c)) ∧ Below w.heap.size w w' := by
  have h0 := h.out.some
  have h1 := h.out.last
  have h2 := h.out.pict
  have h3 := h.out.conj
  have h4 := h.out.odd
  have hlt := h.out.lt
  clear h
  have H : Hid (joinB s b p c = (s.some && ((c == 1 && s.conj == 2) || (p && s.pict == 2) || (Pairs.pj (Pairs.cls s.last) (Pairs.cls b) == 1) || (Pairs.pj (Pairs.cls s.last) (Pairs.cls b) == 2 && s.last == 6 && s.odd)))) := rfl
  unfold propV
  have J := Lib.hid (pjoin s.last b)
  generalize s.pict = pi at *
  generalize s.conj = ci at *
  generalize s.odd = od at *
  generalize Pairs.pj (Pairs.cls s.last) (Pairs.cls b) = j at *
  generalize s.last = la at *
  generalize s.some = so at *
  cases so
  · go_enter Tryz.func224, Tryz.ntmps224
    go_wp2
    go_ret
    exact ⟨ret_bool (by rw [H.out]; rfl), (Below.refl _ _).alloc (Nat.le_refl _) _⟩
  · cases p
    all_goals
      go_enter Tryz.func224, Tryz.ntmps224
      go_wp2
      all_goals
        first
          | (go_ret
             exact ⟨ret_bool (by rw [H.out]; simp [*]), (Below.refl _ _).alloc (Nat.le_refl _) _⟩)
          | (go_quiet ((go_at_call 275; exact Calls.quiet_of_same (J.out _)))
             go_wp2
             all_goals
               go_ret
               exact ⟨ret_bool (by rw [H.out]; simp [*]), ((Below.refl _ _).alloc (Nat.le_refl _) _).trans ((bdrew _ _).mono (by simp))⟩)

def StepPost (K : Fr) (q : Nat) (j : Bool) (s' : St) (w : World) (e : Ending) (w' : World) : Prop :=
  e = .returned (.bool j) ∧ At K w' q s' ∧ But q w w'

set_option maxHeartbeats 4000000 in
theorem step_core (K : Fr) (q : Nat) (s : St) (b : Int) (p : Bool) (c e : Int) (w : World) (h : At K w q s) (jo : Bool) (s' : St) (HJO : Hid (joinB s b p c = jo)) (HX : Hid (next s b p c = s')) :
    Calls Tryz.prog 157 #[.pointer (some ⟨q, 6, none⟩), propV b p c e] w (StepPost K q jo s' w) := by
  have hlt := h.lt
  have A1 : At K (w.alloc (.cells #[.int .i64 b, .bool p, .int .i64 c, .int .i64 e] 224)) q s := h.below ((Below.refl _ _).alloc (Nat.le_refl _) _)
  have B1 : Below w.heap.size w (w.alloc (.cells #[.int .i64 b, .bool p, .int .i64 c, .int .i64 e] 224)) := (Below.refl _ _).alloc (Nat.le_refl _) _
  have K0 : Blk (w.alloc (.cells #[.int .i64 b, .bool p, .int .i64 c, .int .i64 e] 224)) w.heap.size [.int .i64 b, .bool p, .int .i64 c, .int .i64 e] := Blk.alloc _ _ _ _ _ rfl
  have S1 : (w.alloc (.cells #[.int .i64 b, .bool p, .int .i64 c, .int .i64 e] 224)).heap.size = w.heap.size + 1 := by simp
  have HA := Lib.hid A1
  have HB := Lib.hid B1
  have HK := Lib.hid K0
  have HS := Lib.hid S1
  have HJ : Hid (∀ w, Hid (At K w q s) → Calls Tryz.prog 224 #[.pointer (some ⟨q, 6, none⟩), propV b p c e] w fun e' w' => e' = .returned (.bool jo) ∧ Below w.heap.size w w') := by
    rw [← HJO.out]; exact joins_any K q s b p c e
  have HP := Lib.hid (picture_any K q s b p c e)
  have HC := Lib.hid (conjunct_any K q s b p c e)
  have HX : Hid (s' = ⟨true, b, pictS s b p, conjS s c, oddS s b⟩) := HX.out.symm
  clear A1 B1 K0 S1 h
  unfold propV at *
  go_enter Tryz.func157, Tryz.ntmps157
  go_wp2_with fail
  generalize w.alloc (.cells #[.int .i64 b, .bool p, .int .i64 c, .int .i64 e] 224) = w1 at *
  refine (HJ.out _ HA.out).mono ?_
  rintro e' w2 ⟨rfl, hb2⟩
  have HA2 := Lib.hid (HA.out.below hb2)
  have HB2 := Lib.hid (HB.out.trans (hb2.mono (HB.out.size)))
  have HK2 := Lib.hid (HK.out.below hb2 HK.out.lt)
  clear HA HB HK hb2 HJ HS
  have p0 := HK2.out.cell 0 _ rfl
  have p1 := HK2.out.cell 1 _ rfl
  have p2 := HK2.out.cell 2 _ rfl
  have p3 := HK2.out.cell 3 _ rfl
  go_wp2_with fail
  have HD := Lib.hid ((Below.refl w2.heap.size w2).drew)
  have hwl := HK2.out.lt
  go_region_with (first
    | (go_at_call 225; refine (HP.out _ ?_).mono ?_; exact HA2.out; rintro e' w3 ⟨rfl, hb3⟩; have hb3 := HD.out.trans hb3; have HA3 := Lib.hid (HA2.out.below hb3); have HK3 := Lib.hid (HK2.out.below hb3 hwl); have HB3 := Lib.hid (HB2.out.trans (hb3.mono HB2.out.size)); have hwl3 := HK3.out.lt; clear p0 p1 p2 p3 hb3; have p0 := HK3.out.cell 0 _ rfl; have p1 := HK3.out.cell 1 _ rfl; have p2 := HK3.out.cell 2 _ rfl; have p3 := HK3.out.cell 3 _ rfl)
    | (go_at_call 226; refine (HC.out _ ?_).mono ?_; exact HA3.out; rintro e' w4 ⟨rfl, hb4⟩; have HA4 := Lib.hid (HA3.out.below hb4); have HK4 := Lib.hid (HK3.out.below hb4 hwl3); have HB4 := Lib.hid (HB3.out.trans (hb4.mono HB3.out.size)); clear p0 p1 p2 p3 hb4; have p0 := HK4.out.cell 0 _ rfl; have p1 := HK4.out.cell 1 _ rfl; have p2 := HK4.out.cell 2 _ rfl; have p3 := HK4.out.cell 3 _ rfl; have k2 := HA4.out.pict; have k3 := HA4.out.conj; have z2 := HA4.out.frozen 8; have z3 := HA4.out.frozen 9))
  all_goals
    have HA5 := Lib.hid ((HA4.out.set_pict (pictS s b p)).set_conj (conjS s c))
    have HB5 := Lib.hid (((But.of_below HB4.out).setCell (q := q) 8 (.int .i64 (pictS s b p))).setCell 9 (.int .i64 (conjS s c)))
    have HK5 := Lib.hid ((HK4.out.setCell (q := q) (by omega) 8 (.int .i64 (pictS s b p))).setCell (q := q) (by omega) 9 (.int .i64 (conjS s c)))
    generalize (w4.setCell ⟨q, 8, none⟩ (.int .i64 (pictS s b p))).setCell ⟨q, 9, none⟩ (.int .i64 (conjS s c)) = w5 at *
    clear HA4 HB4 HK4 HA3 HK3 HB3 HA2 HK2 HB2 p0 p1 p2 p3 k2 k3 z2 z3 HP HC HD hwl hwl3
    have p0 := HK5.out.cell 0 _ rfl
    have s0 := HA5.out.some
    have s1 := HA5.out.last
    have s4 := HA5.out.odd
    have z4 := HA5.out.frozen 10
    simp only at s0 s1 s4
    have HO : Hid (oddS s b = (b == 6 && !(s.some && s.last == 6 && s.odd))) := rfl
    go_wp2
    · have e6 : oddS s b = (!s.odd) := by rw [HO.out]; simp [*]
      have HE := Lib.hid e6
      clear e6
      have HA6 := Lib.hid (HA5.out.set_odd (!s.odd))
      have HB6 := Lib.hid (HB5.out.setCell 10 (.bool (!s.odd)))
      have HK6 := Lib.hid (HK5.out.setCell (q := q) (by omega) 10 (.bool (!s.odd)))
      clear HA5 HB5 HK5 p0 s0 s1 s4 z4 HO
      generalize w5.setCell ⟨q, 10, none⟩ (.bool (!s.odd)) = w6 at *
      have p0 := HK6.out.cell 0 _ rfl
      have y0 := HA6.out.some
      have y1 := HA6.out.last
      have z0 := HA6.out.frozen 6
      have z1 := HA6.out.frozen 7
      simp only at y0 y1
      go_region
      all_goals
        go_wp2
        go_ret
        refine ⟨rfl, ?_, ?_⟩
        · rw [HX.out, HE.out]; first | exact (HA6.out.set_some true).set_last b | (have hb6 : b = 6 := (by assumption); have T2 := (HA6.out.set_some true).set_last b; rw [hb6] at T2 ⊢; exact T2)
        · exact ((HB6.out.trans (But.of_below ((Below.refl _ _).drew))).setCell 6 (.bool true)).setCell 7 _
    · have e6 : oddS s b = (true) := by rw [HO.out]; simp [*]
      have HE := Lib.hid e6
      clear e6
      have HA6 := Lib.hid (HA5.out.set_odd (true))
      have HB6 := Lib.hid (HB5.out.setCell 10 (.bool (true)))
      have HK6 := Lib.hid (HK5.out.setCell (q := q) (by omega) 10 (.bool (true)))
      clear HA5 HB5 HK5 p0 s0 s1 s4 z4 HO
      generalize w5.setCell ⟨q, 10, none⟩ (.bool (true)) = w6 at *
      have p0 := HK6.out.cell 0 _ rfl
      have y0 := HA6.out.some
      have y1 := HA6.out.last
      have z0 := HA6.out.frozen 6
      have z1 := HA6.out.frozen 7
      simp only at y0 y1
      go_region
      all_goals
        go_wp2
        go_ret
        refine ⟨rfl, ?_, ?_⟩
        · rw [HX.out, HE.out]; first | exact (HA6.out.set_some true).set_last b | (have hb6 : b = 6 := (by assumption); have T2 := (HA6.out.set_some true).set_last b; rw [hb6] at T2 ⊢; exact T2)
        · exact ((HB6.out.trans (But.of_below ((Below.refl _ _).drew))).setCell 6 (.bool true)).setCell 7 _
    · have e6 : oddS s b = (true) := by rw [HO.out]; simp [*]
      have HE := Lib.hid e6
      clear e6
      have HA6 := Lib.hid (HA5.out.set_odd (true))
      have HB6 := Lib.hid (HB5.out.setCell 10 (.bool (true)))
      have HK6 := Lib.hid (HK5.out.setCell (q := q) (by omega) 10 (.bool (true)))
      clear HA5 HB5 HK5 p0 s0 s1 s4 z4 HO
      generalize w5.setCell ⟨q, 10, none⟩ (.bool (true)) = w6 at *
      have p0 := HK6.out.cell 0 _ rfl
      have y0 := HA6.out.some
      have y1 := HA6.out.last
      have z0 := HA6.out.frozen 6
      have z1 := HA6.out.frozen 7
      simp only at y0 y1
      go_region
      all_goals
        go_wp2
        go_ret
        refine ⟨rfl, ?_, ?_⟩
        · rw [HX.out, HE.out]; first | exact (HA6.out.set_some true).set_last b | (have hb6 : b = 6 := (by assumption); have T2 := (HA6.out.set_some true).set_last b; rw [hb6] at T2 ⊢; exact T2)
        · exact ((HB6.out.trans (But.of_below ((Below.refl _ _).drew))).setCell 6 (.bool true)).setCell 7 _
    · have e6 : oddS s b = (false) := by rw [HO.out]; simp [*]
      have HE := Lib.hid e6
      clear e6
      have HA6 := Lib.hid (HA5.out.set_odd (false))
      have HB6 := Lib.hid (HB5.out.setCell 10 (.bool (false)))
      have HK6 := Lib.hid (HK5.out.setCell (q := q) (by omega) 10 (.bool (false)))
      clear HA5 HB5 HK5 p0 s0 s1 s4 z4 HO
      generalize w5.setCell ⟨q, 10, none⟩ (.bool (false)) = w6 at *
      have p0 := HK6.out.cell 0 _ rfl
      have y0 := HA6.out.some
      have y1 := HA6.out.last
      have z0 := HA6.out.frozen 6
      have z1 := HA6.out.frozen 7
      simp only at y0 y1
      go_region
      all_goals
        go_wp2
        go_ret
        refine ⟨rfl, ?_, ?_⟩
        · rw [HX.out, HE.out]; first | exact (HA6.out.set_some true).set_last b | (have hb6 : b = 6 := (by assumption); have T2 := (HA6.out.set_some true).set_last b; rw [hb6] at T2 ⊢; exact T2)
        · exact ((HB6.out.trans (But.of_below ((Below.refl _ _).drew))).setCell 6 (.bool true)).setCell 7 _

theorem step_any (K : Fr) (q : Nat) (s : St) (b : Int) (p : Bool) (c e : Int) (w : World) (h : At K w q s) :
    Calls Tryz.prog 157 #[.pointer (some ⟨q, 6, none⟩), propV b p c e] w (StepPost K q (joinB s b p c) (next s b p c) w) :=
  step_core K q s b p c e w h _ _ (Lib.hid rfl) (Lib.hid rfl)

theorem At.set_all {K : Fr} {w : World} {q : Nat} {s : St} (h : At K w q s) :
    At K (((((w.setCell ⟨q, 6, none⟩ (.bool false)).setCell ⟨q, 7, none⟩ (.int .i64 0)).setCell ⟨q, 8, none⟩ (.int .i64 0)).setCell ⟨q, 9, none⟩ (.int .i64 0)).setCell ⟨q, 10, none⟩ (.bool false)) q zero :=
  ((((h.set_some false).set_last 0).set_pict 0).set_conj 0).set_odd false

set_option maxHeartbeats 1000000 in
theorem reset_any (K : Fr) (q : Nat) (s : St) (w : World) (h : At K w q s) :
    Calls Tryz.prog 69 #[.pointer (some ⟨q, 6, none⟩)] w fun e w' => e = .returned (.tuple #[]) ∧ At K w' q zero ∧ But q w w' := by
  have c0 := h.some
  have c1 := h.last
  have c2 := h.pict
  have c3 := h.conj
  have c4 := h.odd
  have z0 := h.frozen 6
  have z1 := h.frozen 7
  have z2 := h.frozen 8
  have z3 := h.frozen 9
  have z4 := h.frozen 10
  have H := Lib.hid h
  clear h
  go_enter Tryz.func69, Tryz.ntmps69
  go_wp2
  go_end0
  exact ⟨rfl, H.out.set_all, (((((But.refl q w).setCell 6 _).setCell 7 _).setCell 8 _).setCell 9 _).setCell 10 _⟩

end Go.Proofs.YtjicdcmdgbcdcaaGreatDoor.SegO
end

/-
  Walks of package seg: Step.
-/
import Derived.Test.YtcbfmokafmagpaaGreatSegB
import Derived.Deep.RegionWith
import Derived.RegionTactic
namespace Go.Proofs.YtcbfmokafmagpaaGreat.Seg
set_option linter.unusedSimpArgs false
set_option linter.unusedVariables false
open Go.RowKit Mem

def StepPost (q : Nat) (j : Bool) (s' : St) (w : World) (e : Ending) (w' : World) : Prop :=
  e = .returned (.bool j) ∧ At w' q s' ∧ But q w w'

set_option maxHeartbeats 4000000 in
theorem step_core (q : Nat) (s : St) (b : Int) (p : Bool) (c e : Int) (w : World) (h : At w q s) (jo : Bool) (s' : St) (HJO : Hid (joinB s b p c = jo)) (HX : Hid (next s b p c = s')) :
    Calls Tryz.prog 56 #[.pointer (some ⟨q, 0, none⟩), propV b p c e] w (StepPost q jo s' w) := by
  have hlt := h.lt
  have A1 : At (w.alloc (.cells #[.int .i64 b, .bool p, .int .i64 c, .int .i64 e] 88)) q s := h.below ((Below.refl _ _).alloc (Nat.le_refl _) _)
  have B1 : Below w.heap.size w (w.alloc (.cells #[.int .i64 b, .bool p, .int .i64 c, .int .i64 e] 88)) := (Below.refl _ _).alloc (Nat.le_refl _) _
  have K0 : Blk (w.alloc (.cells #[.int .i64 b, .bool p, .int .i64 c, .int .i64 e] 88)) w.heap.size [.int .i64 b, .bool p, .int .i64 c, .int .i64 e] := Blk.alloc _ _ _ _ _ rfl
  have S1 : (w.alloc (.cells #[.int .i64 b, .bool p, .int .i64 c, .int .i64 e] 88)).heap.size = w.heap.size + 1 := by simp
  have HA := Lib.hid A1
  have HB := Lib.hid B1
  have HK := Lib.hid K0
  have HS := Lib.hid S1
  have HJ : Hid (∀ w, Hid (At w q s) → Calls Tryz.prog 74 #[.pointer (some ⟨q, 0, none⟩), propV b p c e] w fun e' w' => e' = .returned (.bool jo) ∧ Below w.heap.size w w') := by
    rw [← HJO.out]; exact joins_any q s b p c e
  have HP := Lib.hid (picture_any q s b p c e)
  have HC := Lib.hid (conjunct_any q s b p c e)
  have HX : Hid (s' = ⟨true, b, pictS s b p, conjS s c, oddS s b⟩) := HX.out.symm
  clear A1 B1 K0 S1 h
  unfold propV at *
  go_enter Tryz.func56, Tryz.ntmps56
  go_wp2_with fail
  generalize w.alloc (.cells #[.int .i64 b, .bool p, .int .i64 c, .int .i64 e] 88) = w1 at *
  refine (HJ.out _ HA.out).mono ?_
  rintro e' w2 ⟨rfl, hb2⟩
  have HA2 := Lib.hid (HA.out.below hb2)
  have HB2 := Lib.hid (HB.out.trans (hb2.mono (HB.out.size)))
  have HK2 := Lib.hid (HK.out.below hb2 HK.out.lt)
  clear HA HB HK hb2 HJ HS
  have p0 := HK2.out.cell 0 _ rfl
  have p1 := HK2.out.cell 1 _ rfl
  have p2 := HK2.out.cell 2 _ rfl
  have p3 := HK2.out.cell 3 _ rfl
  go_wp2_with fail
  have HD := Lib.hid ((Below.refl w2.heap.size w2).drew)
  have hwl := HK2.out.lt
  go_region_with (first
    | (go_at_call 75; refine (HP.out _ ?_).mono ?_; exact HA2.out; rintro e' w3 ⟨rfl, hb3⟩; have hb3 := HD.out.trans hb3; have HA3 := Lib.hid (HA2.out.below hb3); have HK3 := Lib.hid (HK2.out.below hb3 hwl); have HB3 := Lib.hid (HB2.out.trans (hb3.mono HB2.out.size)); have hwl3 := HK3.out.lt; clear p0 p1 p2 p3 hb3; have p0 := HK3.out.cell 0 _ rfl; have p1 := HK3.out.cell 1 _ rfl; have p2 := HK3.out.cell 2 _ rfl; have p3 := HK3.out.cell 3 _ rfl)
    | (go_at_call 76; refine (HC.out _ ?_).mono ?_; exact HA3.out; rintro e' w4 ⟨rfl, hb4⟩; have HA4 := Lib.hid (HA3.out.below hb4); have HK4 := Lib.hid (HK3.out.below hb4 hwl3); have HB4 := Lib.hid (HB3.out.trans (hb4.mono HB3.out.size)); clear p0 p1 p2 p3 hb4; have p0 := HK4.out.cell 0 _ rfl; have p1 := HK4.out.cell 1 _ rfl; have p2 := HK4.out.cell 2 _ rfl; have p3 := HK4.out.cell 3 _ rfl; have k2 := HA4.out.pict; have k3 := HA4.out.conj; have z2 := HA4.out.frozen 2; have z3 := HA4.out.frozen 3))
  all_goals
    have HA5 := Lib.hid ((HA4.out.set_pict (pictS s b p)).set_conj (conjS s c))
    have HB5 := Lib.hid (((But.of_below HB4.out).setCell (q := q) 2 (.int .i64 (pictS s b p))).setCell 3 (.int .i64 (conjS s c)))
    have HK5 := Lib.hid ((HK4.out.setCell (q := q) (by omega) 2 (.int .i64 (pictS s b p))).setCell (q := q) (by omega) 3 (.int .i64 (conjS s c)))
    generalize (w4.setCell ⟨q, 2, none⟩ (.int .i64 (pictS s b p))).setCell ⟨q, 3, none⟩ (.int .i64 (conjS s c)) = w5 at *
    clear HA4 HB4 HK4 HA3 HK3 HB3 HA2 HK2 HB2 p0 p1 p2 p3 k2 k3 z2 z3 HP HC HD hwl hwl3
    have p0 := HK5.out.cell 0 _ rfl
    have s0 := HA5.out.some
    have s1 := HA5.out.last
    have s4 := HA5.out.odd
    have z4 := HA5.out.frozen 4
    simp only at s0 s1 s4
    have HO : Hid (oddS s b = (b == 6 && !(s.some && s.last == 6 && s.odd))) := rfl
    go_wp2
    · have e6 : oddS s b = (!s.odd) := by rw [HO.out]; simp [*]
      have HE := Lib.hid e6
      clear e6
      have HA6 := Lib.hid (HA5.out.set_odd (!s.odd))
      have HB6 := Lib.hid (HB5.out.setCell 4 (.bool (!s.odd)))
      have HK6 := Lib.hid (HK5.out.setCell (q := q) (by omega) 4 (.bool (!s.odd)))
      clear HA5 HB5 HK5 p0 s0 s1 s4 z4 HO
      generalize w5.setCell ⟨q, 4, none⟩ (.bool (!s.odd)) = w6 at *
      have p0 := HK6.out.cell 0 _ rfl
      have y0 := HA6.out.some
      have y1 := HA6.out.last
      have z0 := HA6.out.frozen 0
      have z1 := HA6.out.frozen 1
      simp only at y0 y1
      go_region
      all_goals
        go_wp2
        go_ret
        refine ⟨rfl, ?_, ?_⟩
        · rw [HX.out, HE.out]; first | exact (HA6.out.set_some true).set_last b | (have hb6 : b = 6 := (by assumption); have T2 := (HA6.out.set_some true).set_last b; rw [hb6] at T2 ⊢; exact T2)
        · exact ((HB6.out.trans (But.of_below ((Below.refl _ _).drew))).setCell 0 (.bool true)).setCell 1 _
    · have e6 : oddS s b = (true) := by rw [HO.out]; simp [*]
      have HE := Lib.hid e6
      clear e6
      have HA6 := Lib.hid (HA5.out.set_odd (true))
      have HB6 := Lib.hid (HB5.out.setCell 4 (.bool (true)))
      have HK6 := Lib.hid (HK5.out.setCell (q := q) (by omega) 4 (.bool (true)))
      clear HA5 HB5 HK5 p0 s0 s1 s4 z4 HO
      generalize w5.setCell ⟨q, 4, none⟩ (.bool (true)) = w6 at *
      have p0 := HK6.out.cell 0 _ rfl
      have y0 := HA6.out.some
      have y1 := HA6.out.last
      have z0 := HA6.out.frozen 0
      have z1 := HA6.out.frozen 1
      simp only at y0 y1
      go_region
      all_goals
        go_wp2
        go_ret
        refine ⟨rfl, ?_, ?_⟩
        · rw [HX.out, HE.out]; first | exact (HA6.out.set_some true).set_last b | (have hb6 : b = 6 := (by assumption); have T2 := (HA6.out.set_some true).set_last b; rw [hb6] at T2 ⊢; exact T2)
        · exact ((HB6.out.trans (But.of_below ((Below.refl _ _).drew))).setCell 0 (.bool true)).setCell 1 _
    · have e6 : oddS s b = (true) := by rw [HO.out]; simp [*]
      have HE := Lib.hid e6
      clear e6
      have HA6 := Lib.hid (HA5.out.set_odd (true))
      have HB6 := Lib.hid (HB5.out.setCell 4 (.bool (true)))
      have HK6 := Lib.hid (HK5.out.setCell (q := q) (by omega) 4 (.bool (true)))
      clear HA5 HB5 HK5 p0 s0 s1 s4 z4 HO
      generalize w5.setCell ⟨q, 4, none⟩ (.bool (true)) = w6 at *
      have p0 := HK6.out.cell 0 _ rfl
      have y0 := HA6.out.some
      have y1 := HA6.out.last
      have z0 := HA6.out.frozen 0
      have z1 := HA6.out.frozen 1
      simp only at y0 y1
      go_region
      all_goals
        go_wp2
        go_ret
        refine ⟨rfl, ?_, ?_⟩
        · rw [HX.out, HE.out]; first | exact (HA6.out.set_some true).set_last b | (have hb6 : b = 6 := (by assumption); have T2 := (HA6.out.set_some true).set_last b; rw [hb6] at T2 ⊢; exact T2)
        · exact ((HB6.out.trans (But.of_below ((Below.refl _ _).drew))).setCell 0 (.bool true)).setCell 1 _
    · have e6 : oddS s b = (false) := by rw [HO.out]; simp [*]
      have HE := Lib.hid e6
      clear e6
      have HA6 := Lib.hid (HA5.out.set_odd (false))
      have HB6 := Lib.hid (HB5.out.setCell 4 (.bool (false)))
      have HK6 := Lib.hid (HK5.out.setCell (q := q) (by omega) 4 (.bool (false)))
      clear HA5 HB5 HK5 p0 s0 s1 s4 z4 HO
      generalize w5.setCell ⟨q, 4, none⟩ (.bool (false)) = w6 at *
      have p0 := HK6.out.cell 0 _ rfl
      have y0 := HA6.out.some
      have y1 := HA6.out.last
      have z0 := HA6.out.frozen 0
      have z1 := HA6.out.frozen 1
      simp only at y0 y1
      go_region
      all_goals
        go_wp2
        go_ret
        refine ⟨rfl, ?_, ?_⟩
        · rw [HX.out, HE.out]; first | exact (HA6.out.set_some true).set_last b | (have hb6 : b = 6 := (by assumption); have T2 := (HA6.out.set_some true).set_last b; rw [hb6] at T2 ⊢; exact T2)
        · exact ((HB6.out.trans (But.of_below ((Below.refl _ _).drew))).setCell 0 (.bool true)).setCell 1 _

theorem step_any (q : Nat) (s : St) (b : Int) (p : Bool) (c e : Int) (w : World) (h : At w q s) :
    Calls Tryz.prog 56 #[.pointer (some ⟨q, 0, none⟩), propV b p c e] w (StepPost q (joinB s b p c) (next s b p c) w) :=
  step_core q s b p c e w h _ _ (Lib.hid rfl) (Lib.hid rfl)

end Go.Proofs.YtcbfmokafmagpaaGreat.Seg

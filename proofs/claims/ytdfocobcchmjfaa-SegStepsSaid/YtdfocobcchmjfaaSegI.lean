/-
  The walk of the statement SegSteps.
-/
import Derived.Test.YtdfocobcchmjfaaSegH
namespace Go.Proofs.Ytdfocobcchmjfaa.Seg
set_option linter.unusedVariables false
open Go.RowKit Mem

theorem reset_none (w : World) : Calls Try.prog 38 #[.pointer none] w fun e w' => e = .returned (.tuple #[]) ∧ w = w' := by
  go_enter Try.func38, Try.ntmps38
  go_wp2
  go_end0
  exact ⟨rfl, rfl⟩

theorem step_none (b : Int) (p : Bool) (c e : Int) (w : World) : Calls Try.prog 28 #[.pointer none, .agg #[.int .i64 b, .bool p, .int .i64 c, .int .i64 e]] w fun e w' => e = .returned (.bool false) ∧ Below w.heap.size w w' := by
  go_enter Try.func28, Try.ntmps28
  go_wp2
  go_ret
  exact ⟨rfl, (Below.refl _ _).alloc (Nat.le_refl _) _⟩

set_option maxHeartbeats 4000000 in
theorem steps_any (w : World) (a : Option Addr) (la ca : Nat) (pa : Nat → P4) (ha : IsProps w a la ca pa) :
    Calls Try.prog 8 #[.slice a la ca] w fun e w' => e = .returned (.bool true) ∧ Below w.heap.size w w' := by
  have hla : la ≤ 9223372036854775807 := by rcases ha with rfl | ⟨_, _, _, h1, h2, _⟩; omega; unfold maxLen at h2; omega
  have HA := Lib.hid ha
  clear ha
  by_cases h1 : 300 < la
  · have d1 : decide (300 < (la : Int)) = true := by simp; omega
    go_enter Try.func8, Try.ntmps8
    go_wp2_with fail
    refine (works_any _).mono ?_; rintro e w1 ⟨rfl, hb1⟩
    go_wp2_with fail
    refine (works_any _).mono ?_; rintro e w2 ⟨rfl, hb2⟩
    have hb2 := hb1.trans (hb2.mono hb1.size)
    go_wp2
    go_ret
    exact ⟨rfl, hb2⟩
  · have d1 : decide (300 < (la : Int)) = false := by simp; omega
    go_enter Try.func8, Try.ntmps8
    go_wp2_with fail
    refine (works_any _).mono ?_; rintro e w1 ⟨rfl, hb1⟩
    go_wp2_with fail
    have A1 := at_new w1 36
    have B1 : Below w.heap.size w (w1.alloc (.cells #[.bool false, .int .i64 0, .int .i64 0, .int .i64 0, .bool false] 36)) := hb1.alloc hb1.size _
    generalize (w1.alloc (.cells #[.bool false, .int .i64 0, .int .i64 0, .int .i64 0, .bool false] 36)) = w2 at *
    have hsz := hb1.size
    generalize hQ : w1.heap.size = Q at *
    have HA1 := Lib.hid A1
    have HB1 := Lib.hid B1
    clear A1 B1 hb1 hQ
    go_loopw [4] (fun i wr => ∃ (k : Nat), k ≤ la ∧ i = .int .i64 k ∧ Hid (At wr Q (sAt pa k) ∧ Below w.heap.size w wr)) (fun i _ => la - (intOf i).toNat)
    case atStart => exact ⟨0, Nat.zero_le _, rfl, HA1.out, HB1.out⟩
    case round =>
      obtain ⟨k, hk, rfl, HR⟩ := hrel
      by_cases hlt : k < la
      · obtain ⟨A, Bw⟩ := HR.out
        rcases HA.out with h0 | ⟨ba, off, rfl, _, _, hbl, hcell⟩
        · omega
        have hcell : Cells w ba off la pa := hcell
        obtain ⟨c0, c1, c2, c3⟩ := hcell k hlt
        have c0 := (Bw.cell (p := ⟨ba, off + k * 4, none⟩) hbl).trans c0
        have c1 := (Bw.cell (p := ⟨ba, off + k * 4 + 1, none⟩) hbl).trans c1
        have c2 := (Bw.cell (p := ⟨ba, off + k * 4 + 2, none⟩) hbl).trans c2
        have c3 := (Bw.cell (p := ⟨ba, off + k * 4 + 3, none⟩) hbl).trans c3
        have hA := Lib.hid A
        have hBw := Lib.hid Bw
        have hCW := Lib.hid hcell
        have hlt' : (k : Int) < la := by omega
        clear A Bw HR hcell
        have hlaw := joins_law pa k
        go_wp2_with fail
        refine (step_agg Q (sAt pa k) _ _ _ _ wr hA.out).mono ?_
        rw [hlaw]
        rintro e w3 ⟨rfl, hA3, hB3⟩
        have hA3 : Hid (At w3 Q (sAt pa (k + 1))) := hA3
        have hBw3 := Lib.hid (hBw.out.trans (hB3.below (by omega) hBw.out.size))
        have hC3 := Lib.hid (hCW.out.below hBw3.out hbl)
        have hb3 : ba < w3.heap.size := Nat.lt_of_lt_of_le hbl hBw3.out.size
        clear hA hBw hB3 c0 c1 c2 c3 hlaw
        generalize hj : joinsR pa k = jj at *
        have HJ := Lib.hid hj
        clear hj
        go_wp2_with fail
        refine (joins_ref ba off la ca pa k w3 hC3.out hb3 hlt hla).mono ?_
        rw [HJ.out]
        rintro e w4 ⟨rfl, hB4⟩
        have R : Hid (At w4 Q (sAt pa (k + 1)) ∧ Below w.heap.size w w4) := ⟨hA3.out.below hB4, hBw3.out.trans (hB4.mono hBw3.out.size)⟩
        clear hA3 hBw3 hC3 hB4 hb3 HJ hCW
        go_wp2_with fail
        go_roundw
        case rel => exact ⟨k + 1, by omega, by go_num, R⟩
        case measure => simp [intOf]; omega
      · obtain rfl : k = la := by omega
        have hBw := Lib.hid HR.out.2
        clear HR
        go_wp2_with fail
        refine (reset_none _).mono ?_; rintro e w' ⟨rfl, rfl⟩
        go_wp2_with fail
        refine (step_none _ _ _ _ _).mono ?_; rintro e w5 ⟨rfl, hb5⟩
        go_wp2
        go_ret
        exact ⟨rfl, hBw.out.trans (hb5.mono hBw.out.size)⟩

end Go.Proofs.Ytdfocobcchmjfaa.Seg

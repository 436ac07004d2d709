/-
  The walk of the statement SegBreaks.
-/
import Derived.Test.YtdfocobcchmjfaaSegD
import Derived.Deep.DeepMust
namespace Go.Proofs.Ytdfocobcchmjfaa.Seg
set_option linter.unusedVariables false
open Go.RowKit Mem

/-- one property -/
structure P4 where
  br : Int
  pi : Bool
  co : Int
  ea : Int

/-- a slice of properties that came in: its cells -/
def IsProps (w : World) (a : Option Addr) (len cap : Nat) (ps : Nat → P4) : Prop :=
  len = 0 ∨
  ∃ b off, a = some ⟨b, off, none⟩ ∧ len ≤ cap ∧ cap ≤ maxLen ∧ b < w.heap.size ∧ ∀ i, i < len → w.cell? ⟨b, off + i * 4, none⟩ = some (.int .i64 (ps i).br) ∧ w.cell? ⟨b, off + i * 4 + 1, none⟩ = some (.bool (ps i).pi) ∧
    w.cell? ⟨b, off + i * 4 + 2, none⟩ = some (.int .i64 (ps i).co) ∧ w.cell? ⟨b, off + i * 4 + 3, none⟩ = some (.int .i64 (ps i).ea)

theorem wrap_pos (c : Int) : 0 ≤ IntKind.u64.wrap c := by
  simp [IntKind.wrap, IntKind.signed, IntKind.bits]
  omega
theorem pbv (c : Int) : wrap64 (2 + wrap64 ((IntKind.u64.wrap c).tmod 2)) = 2 ∨ wrap64 (2 + wrap64 ((IntKind.u64.wrap c).tmod 2)) = 3 := by
  have h := wrap_pos c
  generalize IntKind.u64.wrap c = n at *
  have e : n.tmod 2 = n % 2 := Int.tmod_eq_emod_of_nonneg h
  rw [e]
  unfold wrap64
  omega

theorem step_agg (q : Nat) (s : St) (b : Int) (p : Bool) (c e : Int) (w : World) (h : At w q s) :
    Calls Try.prog 28 #[.pointer (some ⟨q, 0, none⟩), .agg #[.int .i64 b, .bool p, .int .i64 c, .int .i64 e]] w (StepPost q (joinB s b p c) (next s b p c) w) := step_any q s b p c e w h

set_option maxHeartbeats 4000000 in
theorem breaks_any (w : World) (a : Option Addr) (la ca : Nat) (pa : Nat → P4) (ha : IsProps w a la ca pa) (b : Option Addr) (lb cb : Nat) (pb : Nat → P4) (hb : IsProps w b lb cb pb) (c : Int) (hc1 : -9223372036854775808 ≤ c) (hc2 : c ≤ 9223372036854775807) :
    Calls Try.prog 5 #[.slice a la ca, .slice b lb cb, .int .i64 c] w fun e w' => e = .returned (.bool true) ∧ Below w.heap.size w w' := by
  have hla : la ≤ 9223372036854775807 := by rcases ha with rfl | ⟨_, _, _, h1, h2, _⟩; omega; unfold maxLen at h2; omega
  have hlb : lb ≤ 9223372036854775807 := by rcases hb with rfl | ⟨_, _, _, h1, h2, _⟩; omega; unfold maxLen at h2; omega
  have HA := Lib.hid ha
  have HB := Lib.hid hb
  clear ha hb
  by_cases h1 : 200 < la
  · have d1 : decide (200 < (la : Int)) = true := by simp; omega
    go_enter Try.func5, Try.ntmps5
    go_wp2_with fail
    refine (works_any _).mono ?_; rintro e w1 ⟨rfl, hb1⟩
    go_wp2_with fail
    refine (works_any _).mono ?_; rintro e w2 ⟨rfl, hb2⟩
    have hb2 := hb1.trans (hb2.mono hb1.size)
    go_wp2
    go_ret
    exact ⟨rfl, hb2⟩
  · have d1 : decide (200 < (la : Int)) = false := by simp; omega
    by_cases h2 : 200 < lb
    · have d2 : decide (200 < (lb : Int)) = true := by simp; omega
      go_enter Try.func5, Try.ntmps5
      go_wp2_with fail
      refine (works_any _).mono ?_; rintro e w1 ⟨rfl, hb1⟩
      go_wp2_with fail
      refine (works_any _).mono ?_; rintro e w2 ⟨rfl, hb2⟩
      have hb2 := hb1.trans (hb2.mono hb1.size)
      go_wp2
      go_ret
      exact ⟨rfl, hb2⟩
    · have d2 : decide (200 < (lb : Int)) = false := by simp; omega
      go_enter Try.func5, Try.ntmps5
      go_wp2_with fail
      refine (works_any _).mono ?_; rintro e w1 ⟨rfl, hb1⟩
      go_wp2_with fail
      have hx := pbv c
      have A1 := (at_new (w1.alloc (.cells #[.int .i64 (wrap64 (2 + wrap64 ((IntKind.u64.wrap c).tmod 2))), .bool false, .int .i64 0, .int .i64 0] 34)) 36).up (.cells #[.bool false, .int .i64 0, .int .i64 0, .int .i64 0, .bool false] 36)
      have A2 := at_new ((w1.alloc (.cells #[.int .i64 (wrap64 (2 + wrap64 ((IntKind.u64.wrap c).tmod 2))), .bool false, .int .i64 0, .int .i64 0] 34)).alloc (.cells #[.bool false, .int .i64 0, .int .i64 0, .int .i64 0, .bool false] 36)) 36
      have K1 := ((blk_new w1 #[.int .i64 (wrap64 (2 + wrap64 ((IntKind.u64.wrap c).tmod 2))), .bool false, .int .i64 0, .int .i64 0] 34 w1.heap.size rfl).up (.cells #[.bool false, .int .i64 0, .int .i64 0, .int .i64 0, .bool false] 36)).up (.cells #[.bool false, .int .i64 0, .int .i64 0, .int .i64 0, .bool false] 36)
      have B1 : Below w.heap.size w (((w1.alloc (.cells #[.int .i64 (wrap64 (2 + wrap64 ((IntKind.u64.wrap c).tmod 2))), .bool false, .int .i64 0, .int .i64 0] 34)).alloc (.cells #[.bool false, .int .i64 0, .int .i64 0, .int .i64 0, .bool false] 36)).alloc (.cells #[.bool false, .int .i64 0, .int .i64 0, .int .i64 0, .bool false] 36)) :=
        ((hb1.alloc hb1.size _).alloc (by have := hb1.size; simp; omega) _).alloc (by have := hb1.size; simp; omega) _
      have e1 : (w1.alloc (.cells #[.int .i64 (wrap64 (2 + wrap64 ((IntKind.u64.wrap c).tmod 2))), .bool false, .int .i64 0, .int .i64 0] 34)).heap.size = w1.heap.size + 1 := by simp
      have e2 : ((w1.alloc (.cells #[.int .i64 (wrap64 (2 + wrap64 ((IntKind.u64.wrap c).tmod 2))), .bool false, .int .i64 0, .int .i64 0] 34)).alloc (.cells #[.bool false, .int .i64 0, .int .i64 0, .int .i64 0, .bool false] 36)).heap.size = w1.heap.size + 1 + 1 := by simp
      rw [e1] at A1
      rw [e2] at A2
      clear e1 e2
      generalize (((w1.alloc (.cells #[.int .i64 (wrap64 (2 + wrap64 ((IntKind.u64.wrap c).tmod 2))), .bool false, .int .i64 0, .int .i64 0] 34)).alloc (.cells #[.bool false, .int .i64 0, .int .i64 0, .int .i64 0, .bool false] 36)).alloc (.cells #[.bool false, .int .i64 0, .int .i64 0, .int .i64 0, .bool false] 36)) = w2 at *
      generalize wrap64 (2 + wrap64 ((IntKind.u64.wrap c).tmod 2)) = x at *
      have hsz := hb1.size
      generalize hQ : w1.heap.size = Q at *
      have HX := Lib.hid hx
      have HA1 := Lib.hid A1
      have HA2 := Lib.hid A2
      have HK1 := Lib.hid K1
      have HB1 := Lib.hid B1
      clear hx A1 A2 K1 B1 hb1 hQ
      go_loopw [10] (fun i wr => ∃ (k : Nat) (s : St), k ≤ la ∧ i = .int .i64 k ∧ Hid (At wr (Q + 1) s ∧ At wr (Q + 1 + 1) zero ∧ Blk wr Q [.int .i64 x, .bool false, .int .i64 0, .int .i64 0] ∧ Below w.heap.size w wr)) (fun i _ => la - (intOf i).toNat)
      case atStart => exact ⟨0, zero, Nat.zero_le _, rfl, HA1.out, HA2.out, HK1.out, HB1.out⟩
      case round =>
        obtain ⟨k, s, hk, rfl, HR⟩ := hrel
        by_cases hlt : k < la
        · obtain ⟨A, Z, K, Bw⟩ := HR.out
          rcases HA.out with h0 | ⟨ba, off, rfl, _, _, hbl, hcell⟩
          · omega
          obtain ⟨c0, c1, c2, c3⟩ := hcell k hlt
          have c0 := (Bw.cell (p := ⟨ba, off + k * 4, none⟩) hbl).trans c0
          have c1 := (Bw.cell (p := ⟨ba, off + k * 4 + 1, none⟩) hbl).trans c1
          have c2 := (Bw.cell (p := ⟨ba, off + k * 4 + 2, none⟩) hbl).trans c2
          have c3 := (Bw.cell (p := ⟨ba, off + k * 4 + 3, none⟩) hbl).trans c3
          have hA := Lib.hid A
          have hZ := Lib.hid Z
          have hK := Lib.hid K
          have hBw := Lib.hid Bw
          have hlt' : (k : Int) < la := by omega
          clear A Z K Bw HR hcell
          go_wp2_with fail
          refine (step_any (Q + 1) s _ _ _ _ wr hA.out).mono ?_
          rintro e w3 ⟨rfl, hA3, hB3⟩
          have R : Hid (At w3 (Q + 1) (next s (pa k).br (pa k).pi (pa k).co) ∧ At w3 (Q + 1 + 1) zero ∧ Blk w3 Q [.int .i64 x, .bool false, .int .i64 0, .int .i64 0] ∧ Below w.heap.size w w3) :=
            ⟨hA3, hB3.at hZ.out (by omega), hB3.blk hK.out (by omega), hBw.out.trans (hB3.below (by omega) hBw.out.size)⟩
          clear hA hZ hK hBw hA3 hB3 c0 c1 c2 c3
          go_wp2_with fail
          go_roundw
          case rel => exact ⟨k + 1, _, by omega, by go_num, R⟩
          case measure => simp [intOf]; omega
        · obtain rfl : k = la := by omega
          obtain ⟨A, Z, K, Bw⟩ := HR.out
          have c0 := K.cell 0 _ rfl
          have c1 := K.cell 1 _ rfl
          have c2 := K.cell 2 _ rfl
          have c3 := K.cell 3 _ rfl
          have hA := Lib.hid A
          have hZ := Lib.hid Z
          have hK := Lib.hid K
          have hBw := Lib.hid Bw
          clear A Z K Bw HR
          go_wp2_with fail
          refine (step_core (Q + 1) s x false 0 0 wr hA.out _ ⟨true, x, 0, 0, false⟩ (Lib.hid rfl) (Lib.hid (by rcases HX.out with rfl | rfl <;> simp [next, pictS, conjS, oddS]))).mono ?_
          rintro e w3 ⟨rfl, hA3, hB3⟩
          have hZ3 := Lib.hid (hB3.at hZ.out (by omega))
          have hK3 := Lib.hid (hB3.blk hK.out (by omega))
          have hBw3 := Lib.hid (hBw.out.trans (hB3.below (by omega) hBw.out.size))
          have hA3 := Lib.hid hA3
          clear c0 c1 c2 c3 hA hZ hK hBw hB3
          have c0 := hK3.out.cell 0 _ rfl
          have c1 := hK3.out.cell 1 _ rfl
          have c2 := hK3.out.cell 2 _ rfl
          have c3 := hK3.out.cell 3 _ rfl
          go_wp2_with fail
          refine (step_core (Q + 1 + 1) zero x false 0 0 w3 hZ3.out _ ⟨true, x, 0, 0, false⟩ (Lib.hid rfl) (Lib.hid (by rcases HX.out with rfl | rfl <;> simp [next, pictS, conjS, oddS, zero]))).mono ?_
          rintro e w4 ⟨rfl, hZ4, hB4⟩
          have hA4 := Lib.hid (hB4.at hA3.out (by omega))
          have hBw4 := Lib.hid (hBw3.out.trans (hB4.below (by omega) hBw3.out.size))
          have hZ4 := Lib.hid hZ4
          clear c0 c1 c2 c3 hA3 hZ3 hK3 hBw3 hB4
          go_wp2_with fail
          go_loopw [11] (fun i wr => ∃ (j : Nat) (s : St), j ≤ lb ∧ i = .int .i64 j ∧ Hid (At wr (Q + 1) s ∧ At wr (Q + 1 + 1) s ∧ Below w.heap.size w wr)) (fun i _ => lb - (intOf i).toNat)
          case atStart => exact ⟨0, ⟨true, x, 0, 0, false⟩, Nat.zero_le _, rfl, hA4.out, hZ4.out, hBw4.out⟩
          case round =>
            clear hA4 hZ4 hBw4
            obtain ⟨j, s, hj, rfl, HR⟩ := hrel
            by_cases hlt : j < lb
            · obtain ⟨A, Z, Bw⟩ := HR.out
              rcases HB.out with h0 | ⟨bb, off, rfl, _, _, hbl, hcell⟩
              · omega
              obtain ⟨c0, c1, c2, c3⟩ := hcell j hlt
              have H0 := Lib.hid c0
              have H1 := Lib.hid c1
              have H2 := Lib.hid c2
              have H3 := Lib.hid c3
              have hA := Lib.hid A
              have hZ := Lib.hid Z
              have hBw := Lib.hid Bw
              have hlt' : (j : Int) < lb := by omega
              clear c0 c1 c2 c3 A Z Bw HR hcell
              have c0 := (hBw.out.cell (p := ⟨bb, off + j * 4, none⟩) hbl).trans H0.out
              have c1 := (hBw.out.cell (p := ⟨bb, off + j * 4 + 1, none⟩) hbl).trans H1.out
              have c2 := (hBw.out.cell (p := ⟨bb, off + j * 4 + 2, none⟩) hbl).trans H2.out
              have c3 := (hBw.out.cell (p := ⟨bb, off + j * 4 + 3, none⟩) hbl).trans H3.out
              go_wp2_with fail
              go_region_with (first
                | (go_at_call 28; (with_reducible refine (step_agg (Q + 1) s _ _ _ _ _ ?_).mono ?_); exact hA.out; rintro e' w5 ⟨rfl, hA5, hB5⟩; have hA5 := Lib.hid hA5; have hZ5 := Lib.hid (hB5.at (w := wr.drew) hZ.out (by omega)); have hBw5 := Lib.hid ((hBw.out.drew).trans (hB5.below (by omega) hBw.out.size)); clear c0 c1 c2 c3 hB5; have c0 := (hBw5.out.cell (p := ⟨bb, off + j * 4, none⟩) hbl).trans H0.out; have c1 := (hBw5.out.cell (p := ⟨bb, off + j * 4 + 1, none⟩) hbl).trans H1.out; have c2 := (hBw5.out.cell (p := ⟨bb, off + j * 4 + 2, none⟩) hbl).trans H2.out; have c3 := (hBw5.out.cell (p := ⟨bb, off + j * 4 + 3, none⟩) hbl).trans H3.out)
                | (go_at_call 28; refine (step_agg (Q + 1 + 1) s _ _ _ _ _ ?_).mono ?_; exact hZ5.out; rintro e' w6 ⟨rfl, hZ6, hB6⟩; have hZ6 := Lib.hid hZ6; have hA6 := Lib.hid (hB6.at hA5.out (by omega)); have hBw6 := Lib.hid (hBw5.out.trans (hB6.below (by omega) hBw5.out.size)); clear c0 c1 c2 c3 hB6; have c0 := (hBw6.out.cell (p := ⟨bb, off + j * 4, none⟩) hbl).trans H0.out; have c1 := (hBw6.out.cell (p := ⟨bb, off + j * 4 + 1, none⟩) hbl).trans H1.out; have c2 := (hBw6.out.cell (p := ⟨bb, off + j * 4 + 2, none⟩) hbl).trans H2.out; have c3 := (hBw6.out.cell (p := ⟨bb, off + j * 4 + 3, none⟩) hbl).trans H3.out))
              all_goals
                have R : Hid (At w6 (Q + 1) (next s (pb j).br (pb j).pi (pb j).co) ∧ At w6 (Q + 1 + 1) (next s (pb j).br (pb j).pi (pb j).co) ∧ Below w.heap.size w w6) := ⟨hA6.out, hZ6.out, hBw6.out⟩
                clear hA6 hZ6 hBw6 hA5 hZ5 hBw5 hA hZ hBw c0 c1 c2 c3 H0 H1 H2 H3
                go_wp2_with fail
                go_roundw
                case rel => exact ⟨j + 1, _, by omega, by go_num, R⟩
                case measure => simp [intOf]; omega
            · obtain rfl : j = lb := by omega
              have hBw := Lib.hid HR.out.2.2
              clear HR
              go_wp2
              go_ret
              exact ⟨rfl, hBw.out⟩

end Go.Proofs.Ytdfocobcchmjfaa.Seg

/-
  The walk of the statement SegCopies.
-/
import Derived.Test.YtdfocobcchmjfaaOpenProps
namespace Go.Proofs.Ytdfocobcchmjfaa.Seg
set_option linter.unusedVariables false
open Go.RowKit Mem

theorem At.set_all {w : World} {q : Nat} {s : St} (h : At w q s) :
    At (((((w.setCell ⟨q, 0, none⟩ (.bool false)).setCell ⟨q, 1, none⟩ (.int .i64 0)).setCell ⟨q, 2, none⟩ (.int .i64 0)).setCell ⟨q, 3, none⟩ (.int .i64 0)).setCell ⟨q, 4, none⟩ (.bool false)) q zero :=
  ((((h.set_some false).set_last 0).set_pict 0).set_conj 0).set_odd false

set_option maxHeartbeats 1000000 in
theorem reset_any (q : Nat) (s : St) (w : World) (h : At w q s) :
    Calls Try.prog 38 #[.pointer (some ⟨q, 0, none⟩)] w fun e w' => e = .returned (.tuple #[]) ∧ At w' q zero ∧ But q w w' := by
  have c0 := h.some
  have c1 := h.last
  have c2 := h.pict
  have c3 := h.conj
  have c4 := h.odd
  have z0 := h.frozen 0
  have z1 := h.frozen 1
  have z2 := h.frozen 2
  have z3 := h.frozen 3
  have z4 := h.frozen 4
  have H := Lib.hid h
  clear h
  go_enter Try.func38, Try.ntmps38
  go_wp2
  go_end0
  exact ⟨rfl, H.out.set_all, (((((But.refl q w).setCell 0 _).setCell 1 _).setCell 2 _).setCell 3 _).setCell 4 _⟩

theorem at_new' (w : World) (T : TypeId) (s : St) : At (w.alloc (.cells #[.bool s.some, .int .i64 s.last, .int .i64 s.pict, .int .i64 s.conj, .bool s.odd] T)) w.heap.size s := ⟨T, by show (w.heap.push _)[w.heap.size]? = _; simp⟩

set_option maxHeartbeats 16000000 in
theorem copies_any (w : World) (a : Option Addr) (la ca : Nat) (pa : Nat → P4) (ha : IsProps w a la ca pa) (b : Option Addr) (lb cb : Nat) (pb : Nat → P4) (hb : IsProps w b lb cb pb) :
    Calls Try.prog 9 #[.slice a la ca, .slice b lb cb] w fun e w' => e = .returned (.bool true) ∧ Below w.heap.size w w' := by
  have hla : la ≤ 9223372036854775807 := by rcases ha with rfl | ⟨_, _, _, h1, h2, _⟩; omega; unfold maxLen at h2; omega
  have hlb : lb ≤ 9223372036854775807 := by rcases hb with rfl | ⟨_, _, _, h1, h2, _⟩; omega; unfold maxLen at h2; omega
  have HA := Lib.hid ha
  have HB := Lib.hid hb
  clear ha hb
  by_cases h1 : 300 < la
  · have d1 : decide (300 < (la : Int)) = true := by simp; omega
    go_enter Try.func9, Try.ntmps9
    go_wp2_with fail
    refine (works_any _).mono ?_; rintro e w1 ⟨rfl, hb1⟩
    go_wp2_with fail
    refine (works_any _).mono ?_; rintro e w2 ⟨rfl, hb2⟩
    have hb2 := hb1.trans (hb2.mono hb1.size)
    go_wp2
    go_ret
    exact ⟨rfl, hb2⟩
  · have d1 : decide (300 < (la : Int)) = false := by simp; omega
    by_cases h2 : 300 < lb
    · have d2 : decide (300 < (lb : Int)) = true := by simp; omega
      go_enter Try.func9, Try.ntmps9
      go_wp2_with fail
      refine (works_any _).mono ?_; rintro e w1 ⟨rfl, hb1⟩
      go_wp2_with fail
      refine (works_any _).mono ?_; rintro e w2 ⟨rfl, hb2⟩
      have hb2 := hb1.trans (hb2.mono hb1.size)
      go_wp2
      go_ret
      exact ⟨rfl, hb2⟩
    · have d2 : decide (300 < (lb : Int)) = false := by simp; omega
      go_enter Try.func9, Try.ntmps9
      go_wp2_with fail
      refine (works_any _).mono ?_; rintro e w1 ⟨rfl, hb1⟩
      go_wp2_with fail
      have A1 := (at_new w1 36).up (.cells #[.bool false, .int .i64 0, .int .i64 0, .int .i64 0, .bool false] 36)
      have A2 := at_new (w1.alloc (.cells #[.bool false, .int .i64 0, .int .i64 0, .int .i64 0, .bool false] 36)) 36
      have B1 : Below w.heap.size w ((w1.alloc (.cells #[.bool false, .int .i64 0, .int .i64 0, .int .i64 0, .bool false] 36)).alloc (.cells #[.bool false, .int .i64 0, .int .i64 0, .int .i64 0, .bool false] 36)) :=
        (hb1.alloc hb1.size _).alloc (by have := hb1.size; simp; omega) _
      have e1 : (w1.alloc (.cells #[.bool false, .int .i64 0, .int .i64 0, .int .i64 0, .bool false] 36)).heap.size = w1.heap.size + 1 := by simp
      rw [e1] at A2
      clear e1
      generalize ((w1.alloc (.cells #[.bool false, .int .i64 0, .int .i64 0, .int .i64 0, .bool false] 36)).alloc (.cells #[.bool false, .int .i64 0, .int .i64 0, .int .i64 0, .bool false] 36)) = w2 at *
      have hsz := hb1.size
      generalize hQ : w1.heap.size = Q at *
      have HA1 := Lib.hid A1
      have HA2 := Lib.hid A2
      have HB1 := Lib.hid B1
      clear A1 A2 B1 hb1 hQ
      go_loopw [7] (fun i wr => ∃ (k : Nat) (s : St), k ≤ la ∧ i = .int .i64 k ∧ Hid (At wr Q s ∧ At wr (Q + 1) zero ∧ Below w.heap.size w wr)) (fun i _ => la - (intOf i).toNat)
      case atStart => exact ⟨0, zero, Nat.zero_le _, rfl, HA1.out, HA2.out, HB1.out⟩
      case round =>
        obtain ⟨k, s, hk, rfl, HR⟩ := hrel
        by_cases hlt : k < la
        · obtain ⟨A, Z, Bw⟩ := HR.out
          rcases HA.out with h0 | ⟨ba, off, rfl, _, _, hbl, hcell⟩
          · omega
          obtain ⟨c0, c1, c2, c3⟩ := hcell k hlt
          have c0 := (Bw.cell (p := ⟨ba, off + k * 4, none⟩) hbl).trans c0
          have c1 := (Bw.cell (p := ⟨ba, off + k * 4 + 1, none⟩) hbl).trans c1
          have c2 := (Bw.cell (p := ⟨ba, off + k * 4 + 2, none⟩) hbl).trans c2
          have c3 := (Bw.cell (p := ⟨ba, off + k * 4 + 3, none⟩) hbl).trans c3
          have hA := Lib.hid A
          have hZ := Lib.hid Z
          have hBw := Lib.hid Bw
          have hlt' : (k : Int) < la := by omega
          clear A Z Bw HR hcell
          go_wp2_with fail
          refine (step_any Q s _ _ _ _ wr hA.out).mono ?_
          rintro e w3 ⟨rfl, hA3, hB3⟩
          have R : Hid (At w3 Q (next s (pa k).br (pa k).pi (pa k).co) ∧ At w3 (Q + 1) zero ∧ Below w.heap.size w w3) :=
            ⟨hA3, hB3.at hZ.out (by omega), hBw.out.trans (hB3.below (by omega) hBw.out.size)⟩
          clear hA hZ hBw hA3 hB3 c0 c1 c2 c3
          go_wp2_with fail
          go_roundw
          case rel => exact ⟨k + 1, _, by omega, by go_num, R⟩
          case measure => simp [intOf]; omega
        · obtain rfl : k = la := by omega
          obtain ⟨A, Z, Bw⟩ := HR.out
          have c0 := A.some
          have c1 := A.last
          have c2 := A.pict
          have c3 := A.conj
          have c4 := A.odd
          have hA := Lib.hid A
          have hZ := Lib.hid Z
          have hBw := Lib.hid Bw
          have hQ2 : Q + 1 < wr.heap.size := Z.lt
          clear A Z Bw HR
          go_wp2_with fail
          have T1 := (at_new' wr 36 s).up (.cells #[.bool s.some, .int .i64 s.last, .int .i64 s.pict, .int .i64 s.conj, .bool s.odd] 36)
          have U1 := at_new' (wr.alloc (.cells #[.bool s.some, .int .i64 s.last, .int .i64 s.pict, .int .i64 s.conj, .bool s.odd] 36)) 36 s
          have A1 := (hA.out.up (.cells #[.bool s.some, .int .i64 s.last, .int .i64 s.pict, .int .i64 s.conj, .bool s.odd] 36)).up (.cells #[.bool s.some, .int .i64 s.last, .int .i64 s.pict, .int .i64 s.conj, .bool s.odd] 36)
          have Z1 := (hZ.out.up (.cells #[.bool s.some, .int .i64 s.last, .int .i64 s.pict, .int .i64 s.conj, .bool s.odd] 36)).up (.cells #[.bool s.some, .int .i64 s.last, .int .i64 s.pict, .int .i64 s.conj, .bool s.odd] 36)
          have W1 : Below w.heap.size w ((wr.alloc (.cells #[.bool s.some, .int .i64 s.last, .int .i64 s.pict, .int .i64 s.conj, .bool s.odd] 36)).alloc (.cells #[.bool s.some, .int .i64 s.last, .int .i64 s.pict, .int .i64 s.conj, .bool s.odd] 36)) :=
            (hBw.out.alloc hBw.out.size _).alloc (by have := hBw.out.size; simp; omega) _
          have e1 : (wr.alloc (.cells #[.bool s.some, .int .i64 s.last, .int .i64 s.pict, .int .i64 s.conj, .bool s.odd] 36)).heap.size = wr.heap.size + 1 := by simp
          rw [e1] at U1
          generalize ((wr.alloc (.cells #[.bool s.some, .int .i64 s.last, .int .i64 s.pict, .int .i64 s.conj, .bool s.odd] 36)).alloc (.cells #[.bool s.some, .int .i64 s.last, .int .i64 s.pict, .int .i64 s.conj, .bool s.odd] 36)) = w4 at *
          clear e1 c0 c1 c2 c3 c4
          have hwr := hBw.out.size
          generalize hT : wr.heap.size = T at *
          refine (reset_any (T + 1) s w4 U1).mono ?_
          rintro e w5 ⟨rfl, hU5, hB5⟩
          have hT5 := Lib.hid (hB5.at T1 (by omega))
          have hA5 := Lib.hid (hB5.at A1 (by omega))
          have hZ5 := Lib.hid (hB5.at Z1 (by omega))
          have hW5 := Lib.hid (W1.trans (hB5.below (by omega) W1.size))
          have hU5 := Lib.hid hU5
          clear T1 U1 A1 Z1 W1 hB5 hA hZ hBw hT
          go_wp2_with fail
          go_loopw [10] (fun i wx => ∃ (j : Nat) (s1 s2 : St), j ≤ lb ∧ i = .int .i64 j ∧ Hid (At wx Q s1 ∧ At wx T s1 ∧ At wx (T + 1) s2 ∧ At wx (Q + 1) s2 ∧ Below w.heap.size w wx)) (fun i _ => lb - (intOf i).toNat)
          case atStart => exact ⟨0, s, zero, Nat.zero_le _, rfl, hA5.out, hT5.out, hU5.out, hZ5.out, hW5.out⟩
          case round =>
            clear hA5 hT5 hU5 hZ5 hW5
            obtain ⟨j, s1, s2, hj, rfl, HR⟩ := hrel
            by_cases hlt : j < lb
            · obtain ⟨A, T1, U, Z, Bw⟩ := HR.out
              rcases HB.out with h0 | ⟨bb, off, rfl, _, _, hbl, hcell⟩
              · omega
              obtain ⟨c0, c1, c2, c3⟩ := hcell j hlt
              have H0 := Lib.hid c0
              have H1 := Lib.hid c1
              have H2 := Lib.hid c2
              have H3 := Lib.hid c3
              have hA := Lib.hid A
              have hT := Lib.hid T1
              have hU := Lib.hid U
              have hZ := Lib.hid Z
              have hBw := Lib.hid Bw
              have hlt' : (j : Int) < lb := by omega
              clear c0 c1 c2 c3 A T1 U Z Bw HR hcell
              have c0 := (hBw.out.cell (p := ⟨bb, off + j * 4, none⟩) hbl).trans H0.out
              have c1 := (hBw.out.cell (p := ⟨bb, off + j * 4 + 1, none⟩) hbl).trans H1.out
              have c2 := (hBw.out.cell (p := ⟨bb, off + j * 4 + 2, none⟩) hbl).trans H2.out
              have c3 := (hBw.out.cell (p := ⟨bb, off + j * 4 + 3, none⟩) hbl).trans H3.out
              go_wp2_with fail
              refine (step_agg Q s1 _ _ _ _ _ hA.out).mono ?_
              rintro e' w6 ⟨rfl, hA6, hB6⟩
              have hT6 := Lib.hid (hB6.at hT.out (by omega))
              have hU6 := Lib.hid (hB6.at hU.out (by omega))
              have hZ6 := Lib.hid (hB6.at hZ.out (by omega))
              have hBw6 := Lib.hid (hBw.out.trans (hB6.below (by omega) hBw.out.size))
              have hA6 := Lib.hid hA6
              clear hA hT hU hZ hB6 c0 c1 c2 c3 hBw HA
              have c0 := (hBw6.out.cell (p := ⟨bb, off + j * 4, none⟩) hbl).trans H0.out
              have c1 := (hBw6.out.cell (p := ⟨bb, off + j * 4 + 1, none⟩) hbl).trans H1.out
              have c2 := (hBw6.out.cell (p := ⟨bb, off + j * 4 + 2, none⟩) hbl).trans H2.out
              have c3 := (hBw6.out.cell (p := ⟨bb, off + j * 4 + 3, none⟩) hbl).trans H3.out
              go_wp2_with fail
              go_region_with (first
                | (go_at_call 28; (with_reducible refine (step_agg T s1 _ _ _ _ _ ?_).mono ?_); exact hT6.out; rintro e' w7 ⟨rfl, hT7, hB7⟩; have hT7 := Lib.hid hT7; have hA7 := Lib.hid (hB7.at (w := w6.drew) hA6.out (by omega)); have hU7 := Lib.hid (hB7.at (w := w6.drew) hU6.out (by omega)); have hZ7 := Lib.hid (hB7.at (w := w6.drew) hZ6.out (by omega)); have hBw7 := Lib.hid ((hBw6.out.drew).trans (hB7.below (by omega) hBw6.out.size)); clear c0 c1 c2 c3 hB7 hA6 hT6 hU6 hZ6 hBw6; have c0 := (hBw7.out.cell (p := ⟨bb, off + j * 4, none⟩) hbl).trans H0.out; have c1 := (hBw7.out.cell (p := ⟨bb, off + j * 4 + 1, none⟩) hbl).trans H1.out; have c2 := (hBw7.out.cell (p := ⟨bb, off + j * 4 + 2, none⟩) hbl).trans H2.out; have c3 := (hBw7.out.cell (p := ⟨bb, off + j * 4 + 3, none⟩) hbl).trans H3.out)
                | (go_at_call 28; (with_reducible refine (step_agg (T + 1) s2 _ _ _ _ _ ?_).mono ?_); exact hU7.out; rintro e' w8 ⟨rfl, hU8, hB8⟩; have hU8 := Lib.hid hU8; have hA8 := Lib.hid (hB8.at hA7.out (by omega)); have hT8 := Lib.hid (hB8.at hT7.out (by omega)); have hZ8 := Lib.hid (hB8.at hZ7.out (by omega)); have hBw8 := Lib.hid (hBw7.out.trans (hB8.below (by omega) hBw7.out.size)); clear c0 c1 c2 c3 hB8 hA7 hT7 hU7 hZ7 hBw7; have c0 := (hBw8.out.cell (p := ⟨bb, off + j * 4, none⟩) hbl).trans H0.out; have c1 := (hBw8.out.cell (p := ⟨bb, off + j * 4 + 1, none⟩) hbl).trans H1.out; have c2 := (hBw8.out.cell (p := ⟨bb, off + j * 4 + 2, none⟩) hbl).trans H2.out; have c3 := (hBw8.out.cell (p := ⟨bb, off + j * 4 + 3, none⟩) hbl).trans H3.out)
                | (go_at_call 28; refine (step_agg (Q + 1) s2 _ _ _ _ _ ?_).mono ?_; exact hZ8.out; rintro e' w9 ⟨rfl, hZ9, hB9⟩; have hZ9 := Lib.hid hZ9; have hA9 := Lib.hid (hB9.at hA8.out (by omega)); have hT9 := Lib.hid (hB9.at hT8.out (by omega)); have hU9 := Lib.hid (hB9.at hU8.out (by omega)); have hBw9 := Lib.hid (hBw8.out.trans (hB9.below (by omega) hBw8.out.size)); clear c0 c1 c2 c3 hB9 hA8 hT8 hU8 hZ8 hBw8; have c0 := (hBw9.out.cell (p := ⟨bb, off + j * 4, none⟩) hbl).trans H0.out; have c1 := (hBw9.out.cell (p := ⟨bb, off + j * 4 + 1, none⟩) hbl).trans H1.out; have c2 := (hBw9.out.cell (p := ⟨bb, off + j * 4 + 2, none⟩) hbl).trans H2.out; have c3 := (hBw9.out.cell (p := ⟨bb, off + j * 4 + 3, none⟩) hbl).trans H3.out))
              all_goals
                have R : Hid (At w9 Q (next s1 (pb j).br (pb j).pi (pb j).co) ∧ At w9 T (next s1 (pb j).br (pb j).pi (pb j).co) ∧ At w9 (T + 1) (next s2 (pb j).br (pb j).pi (pb j).co) ∧ At w9 (Q + 1) (next s2 (pb j).br (pb j).pi (pb j).co) ∧ Below w.heap.size w w9) := ⟨hA9.out, hT9.out, hU9.out, hZ9.out, hBw9.out⟩
                clear c0 c1 c2 c3 H0 H1 H2 H3 hA9 hT9 hU9 hZ9 hBw9
                go_wp2_with fail
                go_roundw
                case rel => exact ⟨j + 1, _, _, by omega, by go_num, R⟩
                case measure => simp [intOf]; omega
            · obtain rfl : j = lb := by omega
              have hBw := Lib.hid HR.out.2.2.2.2
              clear HR
              go_wp2
              go_ret
              exact ⟨rfl, hBw.out⟩

end Go.Proofs.Ytdfocobcchmjfaa.Seg

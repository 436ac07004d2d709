/-
  The walk of the reference of layer 15: Joins.
-/
import Derived.Test.YtcbfmokafmagpaaGreatSegG
import Derived.Test.YtcbfmokafmagpaaGreatPairsC
import Derived.Lib.QuietBelow
import Derived.IntWalk
namespace Go.Proofs.YtcbfmokafmagpaaGreat.Seg
set_option linter.unusedSimpArgs false
set_option linter.unusedVariables false
open Go.RowKit Mem

theorem riRun_le (ps : Nat → P4) (n : Nat) : riRun ps n ≤ n := by
  induction n with
  | zero => exact Nat.le_refl _
  | succ n ih => simp only [riRun]; split <;> omega

theorem odd_int (n : Nat) : (((n : Int) % 2 == 1) : Bool) = (n % 2 == 1) := by
  rcases Nat.mod_two_eq_zero_or_one n with h | h
  · have : (n : Int) % 2 = 0 := by omega
    rw [h, this]; rfl
  · have : (n : Int) % 2 = 1 := by omega
    rw [h, this]; rfl

set_option maxHeartbeats 4000000 in
theorem joins_tail (b off len cap : Nat) (ps : Nat → P4) (i : Nat) (w : World) (hC : Cells w b off len ps) (hlt : b < w.heap.size) (hi : i < len) (h1 : 1 ≤ i) (hlen : len ≤ 9223372036854775807) :
    Calls Tryz.prog 67 #[.slice (some ⟨b, off, none⟩) len cap, .int .i64 i] w fun e w' => e = .returned (.bool (joinsR ps i)) ∧ Below w.heap.size w w' := by
  have c0 := (hC (i - 1) (by omega)).1
  have c1 := (hC i hi).1
  have HR : Hid (joinsR ps i = (decide (1 ≤ i) && ((Pairs.pj (Pairs.cls (ps (i - 1)).br) (Pairs.cls (ps i).br) == 1 || conjR ps i || pictR ps i) || (Pairs.pj (Pairs.cls (ps (i - 1)).br) (Pairs.cls (ps i).br) == 2 && (ps i).br == 6 && riRun ps i % 2 == 1)))) := rfl
  have e1 : decide (1 ≤ i) = true := by simp; omega
  have HR := Lib.hid (HR.out.trans (by rw [e1, Bool.true_and]))
  have HJ := Lib.hid (Pairs.rjoin_any (ps (i - 1)).br (ps i).br)
  have HC := Lib.hid hC
  have hi' : (i : Int) < len := by omega
  have d1 : decide ((i : Int) < 1) = false := by simp; omega
  have d2 : decide ((len : Int) ≤ i) = false := by simp; omega
  have hge : (1 : Int) ≤ i := by omega
  clear e1 hC
  have x1 : IntKind.i64.wrap ((i : Int) - 1) = (i : Int) - 1 := IntWalk.i64_in _ (by omega)
  have x2 : (0 : Int) ≤ (i : Int) - 1 := by omega
  have x3 : ((i : Int) - 1).toNat = i - 1 := by omega
  have x4 : (i : Int) - 1 < len := by omega
  go_enter Tryz.func67, Tryz.ntmps67
  go_wp2_with fail
  have k0 := cell_regrown c0
  have k1 := cell_regrown c1
  have cJ := Lib.hid fun d os => Calls.regrown_of (w := w) (d := d) (os := os) (HJ.out (Go.Sort.grow (redrawn w d) os))
  refine wp_region_quiet_below (by kernel_rfl) (by kernel_rfl) ?_
  repeat (quiet_step (exact cJ.out _ _))
  refine wpQuiet_nil ?_
  intro _ hw'
  obtain ⟨⟨dq, osq⟩, hw''⟩ := hw'
  subst hw''
  have hbw := below_regrown w dq osq
  have HC2 := Lib.hid (HC.out.below hbw hlt)
  generalize Go.Sort.grow (redrawn w dq) osq = w2 at *
  have K1 := conjunct_ref b off len cap ps i w2 HC2.out hi hlen
  have K2 := picture_ref b off len cap ps i w2 HC2.out hi hlen
  have c1 := (HC2.out i hi).1
  have HB := Lib.hid hbw
  clear cJ k0 k1 c0 HJ HC hbw x1 x2 x3 x4
  generalize Pairs.pj (Pairs.cls (ps (i - 1)).br) (Pairs.cls (ps i).br) = j at *
  generalize conjR ps i = cj at *
  generalize pictR ps i = pr at *
  generalize (ps i).br = br at *
  have K1 := Lib.hid K1
  have K2 := Lib.hid K2
  by_cases hj1 : j = 1
  · subst hj1
    have HR := Lib.hid (HR.out.trans (by simp : _ = true))
    go_wp2
    go_ret
    exact ⟨ret_bool HR.out.symm, HB.out⟩
  · have e1 : (j == 1) = false := by simp [hj1]
    cases cj
    · cases pr
      · by_cases hj2 : j = 2
        · subst hj2
          have e2 : ((2 : Int) != 2) = false := rfl
          by_cases h6 : br = 6
          · subst h6
            have HR := Lib.hid (HR.out.trans (by simp : _ = (riRun ps i % 2 == 1)))
            go_wp2_with (first
              | (go_at_call 86; refine K1.out.mono ?_; rintro e w' ⟨rfl, rfl⟩)
              | (go_at_call 87; refine K2.out.mono ?_; rintro e w' ⟨rfl, rfl⟩))
            go_loop [6, 7] (fun n k => ∃ (m L : Nat), m ≤ i ∧ k = .int .i64 ((m : Int) - 1) ∧ n = .int .i64 L ∧ Hid (L + riRun ps m = riRun ps i)) (fun _ k => (intOf k + 1).toNat)
            case atStart => exact ⟨i, 0, Nat.le_refl _, rfl, rfl, Lib.hid (by omega)⟩
            case round =>
              obtain ⟨m, L, hm, hk, rfl, H⟩ := hrel
              have hL : (L : Int) < len := by have := H.out; have := riRun_le ps i; omega
              cases m with
              | zero =>
                rw [show ((0 : Nat) : Int) - 1 = -1 from rfl] at hk
                subst hk
                go_wp2
                go_ret
                refine ⟨ret_bool ?_, HB.out⟩
                have e : L = riRun ps i := H.out
                rw [HR.out, ← e, ← odd_int]
              | succ n =>
                rw [show ((n + 1 : Nat) : Int) - 1 = (n : Int) from by omega] at hk
                subst hk
                have cn := (HC2.out n (by omega)).1
                have hn' : (n : Int) < len := by omega
                have HD : Hid (riRun ps (n + 1) = if (ps n).br = 6 then riRun ps n + 1 else 0) := rfl
                generalize (ps n).br = c at *
                by_cases hc : c = 6
                · subst hc
                  go_wp2
                  go_round
                  case rel => exact ⟨n, L + 1, by omega, rfl, by go_num, Lib.hid (by have h1 := H.out; have h2 := HD.out; simp at h2; omega)⟩
                  case measure => first | (simp [intOf]; done) | (simp [intOf]; omega)
                · have e6 : (c == 6) = false := by simp [hc]
                  go_wp2
                  go_ret
                  refine ⟨ret_bool ?_, HB.out⟩
                  have e : L = riRun ps i := by have h1 := H.out; have h2 := HD.out; rw [if_neg hc] at h2; omega
                  rw [HR.out, ← e, ← odd_int]
          · have e6 : (br != 6) = true := by simp [h6]
            have e6' : (br == 6) = false := by simp [h6]
            have HR := Lib.hid (HR.out.trans (by rw [e6']; simp : _ = false))
            clear e6'
            go_wp2_with (first
              | (go_at_call 86; refine K1.out.mono ?_; rintro e w' ⟨rfl, rfl⟩)
              | (go_at_call 87; refine K2.out.mono ?_; rintro e w' ⟨rfl, rfl⟩))
            go_ret
            exact ⟨ret_bool HR.out.symm, HB.out⟩
        · have e2 : (j != 2) = true := by simp [hj2]
          have e2' : (j == 2) = false := by simp [hj2]
          have HR := Lib.hid (HR.out.trans (by rw [e1, e2']; simp : _ = false))
          clear e2'
          go_wp2_with (first
            | (go_at_call 86; refine K1.out.mono ?_; rintro e w' ⟨rfl, rfl⟩)
            | (go_at_call 87; refine K2.out.mono ?_; rintro e w' ⟨rfl, rfl⟩))
          go_ret
          exact ⟨ret_bool HR.out.symm, HB.out⟩
      · have HR := Lib.hid (HR.out.trans (by simp : _ = true))
        go_wp2_with (first
          | (go_at_call 86; refine K1.out.mono ?_; rintro e w' ⟨rfl, rfl⟩)
          | (go_at_call 87; refine K2.out.mono ?_; rintro e w' ⟨rfl, rfl⟩))
        go_ret
        exact ⟨ret_bool HR.out.symm, HB.out⟩
    · have HR := Lib.hid (HR.out.trans (by simp : _ = true))
      go_wp2_with (first
        | (go_at_call 86; refine K1.out.mono ?_; rintro e w' ⟨rfl, rfl⟩)
        | (go_at_call 87; refine K2.out.mono ?_; rintro e w' ⟨rfl, rfl⟩))
      go_ret
      exact ⟨ret_bool HR.out.symm, HB.out⟩

theorem joins_zero (b off len cap : Nat) (ps : Nat → P4) (w : World) :
    Calls Tryz.prog 67 #[.slice (some ⟨b, off, none⟩) len cap, .int .i64 0] w fun e w' => e = .returned (.bool (joinsR ps 0)) ∧ Below w.heap.size w w' := by
  go_enter Tryz.func67, Tryz.ntmps67
  go_wp2
  go_ret
  exact ⟨ret_bool (by simp [joinsR]), Below.refl _ _⟩

theorem joins_ref (b off len cap : Nat) (ps : Nat → P4) (i : Nat) (w : World) (hC : Cells w b off len ps) (hlt : b < w.heap.size) (hi : i < len) (hlen : len ≤ 9223372036854775807) :
    Calls Tryz.prog 67 #[.slice (some ⟨b, off, none⟩) len cap, .int .i64 i] w fun e w' => e = .returned (.bool (joinsR ps i)) ∧ Below w.heap.size w w' := by
  cases i with
  | zero => exact joins_zero b off len cap ps w
  | succ i => exact joins_tail b off len cap ps (i + 1) w hC hlt hi (by omega) hlen

end Go.Proofs.YtcbfmokafmagpaaGreat.Seg

/-
  linotypelaw07.PackShares.
-/
import Derived.Test.YtpeniadomjijcaaPackX
import Derived.Test.YtpeniadomjijcaaPackS
import Derived.Deep.CutBlock
import Derived.Deep.DeepCutAuto
namespace Go.Proofs.Ytpeniadomjijcaa.Pack
set_option linter.unusedSimpArgs false
set_option linter.unusedVariables false
open Go Go.RowKit Mem Turn Sp TabLaw Same

theorem ret_b {a b : Bool} (h : a = b) : Ending.returned (.bool a) = .returned (.bool b) := by rw [h]

set_option maxRecDepth 100000 in
set_option maxHeartbeats 4000000 in
theorem alike_any (a : Option Addr) (n c : Nat) (l : List S3) (A B : Nat) (hA : A < 4352) (hB : B < 4352) (w : World) (h : LAt w a n c l) (hn : n ≤ 100000) :
    Calls Try.prog 10 #[.slice a n c, .int .i64 (A : Int), .int .i64 (B : Int)] w fun e w' => e = .returned (.bool (decide (cont l (256 * (A : Int)) = cont l (256 * (B : Int))))) ∧ w' = w := by
  obtain ⟨f, hf⟩ : ∃ f, f = val3 l := ⟨_, rfl⟩
  have FIND : Hid (∀ r, Calls Try.prog 14 #[.slice a n c, .int .i64 r] w fun e w' => e = .returned (.int .i64 (f r)) ∧ w = w') := Lib.hid fun r => by
    rw [hf]; exact (find_same a n c l r w h hn).mono fun _ _ ⟨e, e2⟩ => ⟨e, e2.symm⟩
  have HN : Hid (∀ k : Nat, k < 256 → f (256 * (A : Int) + k) ≠ f (256 * (B : Int) + k) → decide (cont l (256 * (A : Int)) = cont l (256 * (B : Int))) = false) := Lib.hid fun k hk hne => decide_eq_false fun e => hne (by
    have e1 := cont_get l (256 * (A : Int)) hk
    have e2 := cont_get l (256 * (B : Int)) hk
    rw [e, e2] at e1
    injection e1 with e1
    rw [hf]; exact e1.symm)
  have HY : Hid ((∀ k : Nat, k < 256 → f (256 * (A : Int) + k) = f (256 * (B : Int) + k)) → decide (cont l (256 * (A : Int)) = cont l (256 * (B : Int))) = true) := Lib.hid fun h => decide_eq_true (by
    unfold cont
    refine List.map_congr_left fun i hi => ?_
    have := h i (List.mem_range.1 hi)
    rwa [hf] at this)
  generalize decide (cont l (256 * (A : Int)) = cont l (256 * (B : Int))) = res at *
  clear hf h
  go_enter Try.func10, Try.ntmps10
  go_wp2
  go_loop [7] (fun i => ∃ k : Nat, k ≤ 256 ∧ i = .int .i64 k ∧ Hid (∀ j : Nat, j < k → f (256 * (A : Int) + j) = f (256 * (B : Int) + j))) (fun i => 256 - (intOf i).toNat)
  case atStart => exact ⟨0, Nat.zero_le _, rfl, Lib.hid fun j hj => absurd hj (by omega)⟩
  case round =>
    obtain ⟨k, hk, rfl, HE⟩ := hrel
    by_cases hlt : k < 256
    · have hlt' : (k : Int) < 256 := by omega
      by_cases hv : f (256 * (A : Int) + k) = f (256 * (B : Int) + k)
      · have d1 : (f (256 * (A : Int) + k) != f (256 * (B : Int) + k)) = false := by simp [hv]
        have HE2 : Hid (∀ j : Nat, j < k + 1 → f (256 * (A : Int) + j) = f (256 * (B : Int) + j)) := Lib.hid fun j hj => by
          rcases Nat.lt_or_ge j k with h | h
          · exact HE.out j h
          · obtain rfl : j = k := by omega
            exact hv
        clear hv
        go_wp2_with fail
        refine (FIND.out _).mono ?_
        rintro e w' ⟨rfl, rfl⟩
        go_wp2_with fail
        refine (FIND.out _).mono ?_
        rintro e w' ⟨rfl, rfl⟩
        go_wp2_with fail
        go_round
        case rel => exact ⟨k + 1, by omega, by go_num, HE2⟩
        case measure => simp [intOf]; omega
      · have d1 : (f (256 * (A : Int) + k) != f (256 * (B : Int) + k)) = true := by simp [hv]
        have HR := Lib.hid (HN.out k hlt hv)
        clear hv
        go_wp2_with fail
        refine (FIND.out _).mono ?_
        rintro e w' ⟨rfl, rfl⟩
        go_wp2_with fail
        refine (FIND.out _).mono ?_
        rintro e w' ⟨rfl, rfl⟩
        go_wp2_with fail
        go_ret
        exact ⟨ret_b HR.out.symm, rfl⟩
    · obtain rfl : k = 256 := by omega
      have HR := Lib.hid (HY.out HE.out)
      go_wp2_with fail
      go_ret
      exact ⟨ret_b HR.out.symm, rfl⟩

theorem u64_nat (a : Int) : ∃ U : Nat, IntKind.u64.wrap a = (U : Int) := by
  refine ⟨(IntKind.u64.wrap a).toNat, ?_⟩
  have : 0 ≤ IntKind.u64.wrap a := by
    unfold IntKind.wrap
    simp [IntKind.bits, IntKind.signed]
    omega
  omega

set_option maxRecDepth 100000 in
set_option maxHeartbeats 16000000 in
theorem shares_any (w : World) (a : Option Addr) (n c : Nat) (l : List S3) (hs : IsSpans w a n c l) (x : Int) (hx1 : -9223372036854775808 ≤ x) (hx2 : x ≤ 9223372036854775807) (y : Int) (hy1 : -9223372036854775808 ≤ y) (hy2 : y ≤ 9223372036854775807) :
    Calls Try.prog 3 #[.slice a n c, .int .i64 x, .int .i64 y] w fun e w' => e = .returned (.bool true) ∧ Below w.heap.size w w' := by
  have HW : Hid (∀ X, Calls Try.prog 6 #[] X fun e w' => e = .returned (.bool true) ∧ Below X.heap.size X w') := Lib.hid fun X => works_ok X
  have HLA := Lib.hid hs.1
  have hc := hs.2.1
  have hnc := hs.1.2.1
  clear hs
  by_cases hn : 40 < n
  · have d1 : decide ((40 : Int) < (n : Int)) = true := decide_eq_true (by omega)
    have d2 : decide (40 < n) = true := decide_eq_true hn
    go_enter Try.func3, Try.ntmps3
    go_wp2_with fail
    refine (HW.out w).mono ?_
    rintro e w1 ⟨rfl, hb1⟩
    have HB1 := Lib.hid hb1
    clear hb1
    go_wp2_with fail
    refine (HW.out w1).mono ?_
    rintro e w2 ⟨rfl, hb2⟩
    have HB2 := Lib.hid (HB1.out.trans (hb2.mono HB1.out.size))
    clear hb2
    go_wp2_with fail
    go_ret
    exact ⟨rfl, HB2.out⟩
  have d1 : decide ((40 : Int) < (n : Int)) = false := decide_eq_false (by omega)
  have d2 : decide (40 < n) = false := decide_eq_false hn
  by_cases hr : Right l
  · have HR := Lib.hid hr
    obtain ⟨U, hU⟩ := u64_nat x
    obtain ⟨V, hV⟩ := u64_nat y
    obtain ⟨A0, hA0⟩ : ∃ A0, A0 = U % 4352 := ⟨_, rfl⟩
    obtain ⟨B0, hB0⟩ : ∃ B0, B0 = V % 4352 := ⟨_, rfl⟩
    have t1 : (U : Int).tmod 4352 = (A0 : Int) := by rw [Int.tmod_eq_emod_of_nonneg (by omega)]; omega
    have t2 : (V : Int).tmod 4352 = (B0 : Int) := by rw [Int.tmod_eq_emod_of_nonneg (by omega)]; omega
    have t3 : (U : Int) % 4352 = (A0 : Int) := by omega
    have t4 : (V : Int) % 4352 = (B0 : Int) := by omega
    have b1 : (A0 : Int) < 4352 := by omega
    have b2 : (B0 : Int) < 4352 := by omega
    clear hA0 hB0 hr
    go_enter Try.func3, Try.ntmps3
    go_wp2_with fail
    refine (HW.out w).mono ?_
    rintro e w1 ⟨rfl, hb1⟩
    have HB1 := Lib.hid hb1
    have HL1 := Lib.hid (HLA.out.below hb1)
    clear hb1
    go_wp2_with fail
    refine (rright_yes a n c l w1 HL1.out HR.out (by omega)).mono ?_
    rintro e w2 ⟨rfl, hb2⟩
    have HB2 := Lib.hid (HB1.out.trans (hb2.mono HB1.out.size))
    have HL2 := Lib.hid (HL1.out.below hb2)
    clear hb2
    go_wp2_with fail
    refine (build_of a n c l HR.out (by omega) w2 HL2.out).mono ?_
    rintro e w3 ⟨qt, rfl, _, ht3, hb3⟩
    have HB3 := Lib.hid (HB2.out.trans (hb3.mono HB2.out.size))
    have HT3 := Lib.hid ht3
    have HL3 := Lib.hid (HL2.out.below hb3)
    clear hb3 ht3
    obtain ⟨g, hg⟩ : ∃ g, g = blk l := ⟨_, rfl⟩
    obtain ⟨q, hq⟩ : ∃ q, q = cnt l := ⟨_, rfl⟩
    have HBK : Hid (∀ r, Calls Try.prog 9 #[.pointer (some ⟨qt, 0, none⟩), .int .i64 r] w3 fun e w' => e = .returned (.int .i64 (g r)) ∧ w3 = w') := Lib.hid fun r => by
      rw [hg]; exact block_any _ l r w3 HT3.out
    have HB0 : Hid (Calls Try.prog 9 #[.pointer (some ⟨qt, 0, none⟩), .int .i64 0] w3 fun e w' => e = .returned (.int .i64 0) ∧ w3 = w') := Lib.hid (by
      have := block_any _ l 0 w3 HT3.out
      rwa [blk_zero] at this)
    have HBS : Hid (Calls Try.prog 11 #[.pointer (some ⟨qt, 0, none⟩)] w3 fun e w' => e = .returned (.int .i64 ((q 4352 : Nat) : Int)) ∧ w3 = w') := Lib.hid (by
      rw [hq]; exact blocks_any _ l w3 HT3.out)
    have HQ4 : q 4352 ≤ 3 * n + 1 := by have := tab_few HR.out 4352; rw [HLA.out.1] at this; rw [hq]; exact this
    have HEQ : Hid (∀ A B : Nat, A < 4352 → B < 4352 → (g (A : Int) == g (B : Int)) = decide (cont l (256 * (A : Int)) = cont l (256 * (B : Int)))) := Lib.hid fun A B hA hB => by
      rw [hg, Bool.eq_iff_iff]
      simp only [beq_iff_eq, decide_eq_true_eq]
      exact blk_eq l hA hB
    have HNX : Hid (∀ p : Nat, p < 4352 → ∃ k : Nat, g (p : Int) = (k : Int) ∧ k ≤ q p ∧ k < q 4352 ∧ q (p + 1) = (if k = q p then q p + 1 else q p)) := Lib.hid fun p hp => by
      rw [hg, hq]; exact blk_next l hp
    have HQB : Hid (∀ p, q p ≤ p) := Lib.hid fun p => by rw [hq]; exact (tab_len l p).2
    have HQ0 : Hid (q 0 = 0) := Lib.hid (by rw [hq]; rfl)
    have HLIK : Hid (∀ A B : Nat, A < 4352 → B < 4352 → Calls Try.prog 10 #[.slice a n c, .int .i64 (A : Int), .int .i64 (B : Int)] w3 fun e w' => e = .returned (.bool (decide (cont l (256 * (A : Int)) = cont l (256 * (B : Int))))) ∧ w' = w3) := Lib.hid fun A B hA hB =>
      alike_any a n c l A B hA hB w3 HL3.out (by omega)
    clear hg hq
    go_upto_if 36 with fail
    go_cut [1] (fun s1 wx => ∃ A : Nat, A < 4352 ∧ s1 = .int .i64 (A : Int) ∧ w3 = wx)
    case first =>
      by_cases h0 : 0 < n
      · have e0 : decide ((0 : Int) < (n : Int)) = true := decide_eq_true (by omega)
        have e1 : decide (0 < n) = true := decide_eq_true h0
        obtain ⟨A1, hA1⟩ : ∃ A1, A1 = A0 % n := ⟨_, rfl⟩
        have hA2 : A1 < n := by rw [hA1]; exact Nat.mod_lt _ h0
        have t5 : (A0 : Int).tmod (n : Int) = (A1 : Int) := by rw [Int.tmod_eq_emod_of_nonneg (by omega), hA1]; rfl
        have t6 : (A0 : Int) % (n : Int) = (A1 : Int) := by rw [hA1]; rfl
        have b3 : (A1 : Int) < (n : Int) := by omega
        obtain ⟨s, hs⟩ : ∃ s, l[A1]? = some s := ⟨_, List.getElem?_eq_getElem (by rw [HLA.out.1]; exact hA2)⟩
        obtain ⟨b', off, rfl, hat⟩ := HL3.out.2.2.resolve_left (by omega)
        obtain ⟨x0, _, _⟩ := hat.2 A1 s hs
        obtain ⟨r1, r2, r3, _⟩ := right_le HR.out hs
        obtain ⟨s0, s1, s2⟩ := s
        simp only at x0 r1 r2 r3
        obtain ⟨P, hP⟩ : ∃ P : Nat, (P : Int) = s0 / 256 := ⟨(s0 / 256).toNat, by omega⟩
        have t7 : s0.tdiv 256 = (P : Int) := by rw [Int.tdiv_eq_ediv_of_nonneg (by omega)]; exact hP.symm
        have t8 : s0 / 256 = (P : Int) := hP.symm
        have hP2 : P < 4352 := by omega
        clear hA1 hat hs hP
        go_wp2_with fail
        go_meet
        exact ⟨P, hP2, rfl, rfl⟩
      · have e0 : decide ((0 : Int) < (n : Int)) = false := decide_eq_false (by omega)
        have e1 : decide (0 < n) = false := decide_eq_false h0
        have hA : A0 < 4352 := by omega
        go_wp2_with fail
        go_meet
        exact ⟨A0, hA, rfl, rfl⟩
    case rest =>
      obtain ⟨A, hA, rfl, rfl⟩ := hcut
      have hB : B0 < 4352 := by omega
      have hbb := HEQ.out A B0 hA hB
      have HLK := Lib.hid (HLIK.out A B0 hA hB)
      generalize decide (cont l (256 * (A : Int)) = cont l (256 * (B0 : Int))) = res at *
      have hrr : (res != res) = false := by simp
      have d5 : decide (3 * (n : Int) + 1 < ((q 4352 : Nat) : Int)) = false := decide_eq_false (by omega)
      have d6 : decide (3 * n + 1 < q 4352) = false := decide_eq_false (by omega)
      go_wp2_with fail
      refine (HBK.out _).mono ?_
      rintro e w4 ⟨rfl, rfl⟩
      go_wp2_with fail
      refine (HBK.out _).mono ?_
      rintro e w4 ⟨rfl, rfl⟩
      go_wp2_with fail
      refine HLK.out.mono ?_
      rintro e w4 ⟨rfl, rfl⟩
      go_wp2_with fail
      refine HB0.out.mono ?_
      rintro e w4 ⟨rfl, rfl⟩
      go_wp2_with fail
      refine HBS.out.mono ?_
      rintro e w4 ⟨rfl, rfl⟩
      go_wp2_with fail
      clear hbb hrr
      obtain ⟨w3, rfl⟩ : ∃ w3 : World, w3 = w4 := ⟨_, rfl⟩
      go_loop [8, 9] (fun last i => ∃ p : Nat, p ≤ 4352 ∧ i = .int .i64 p ∧ last = .int .i64 ((q p : Nat) : Int)) (fun _ i => 4352 - (intOf i).toNat)
      case atStart => exact ⟨0, Nat.zero_le _, rfl, by rw [HQ0.out]; rfl⟩
      case round =>
        obtain ⟨p, hp, rfl, rfl⟩ := hrel
        by_cases hlt : p < 4352
        · have hlt' : (p : Int) < 4352 := by omega
          obtain ⟨k, hk1, hk2, hk3, hk4⟩ := HNX.out p hlt
          have HB1 := Lib.hid (hk1 ▸ HBK.out (p : Int) : Calls Try.prog 9 #[.pointer (some ⟨qt, 0, none⟩), .int .i64 (p : Int)] w3 fun e w' => e = .returned (.int .i64 (k : Int)) ∧ w3 = w')
          have HQN := Lib.hid hk4
          have f1 : decide ((k : Int) < 0) = false := decide_eq_false (by omega)
          have f2 : decide (((q p : Nat) : Int) < (k : Int)) = false := decide_eq_false (by omega)
          have f3 : decide (q p < k) = false := decide_eq_false (by omega)
          have f4 : decide (((q 4352 : Nat) : Int) ≤ (k : Int)) = false := decide_eq_false (by omega)
          have f5 : decide (q 4352 ≤ k) = false := decide_eq_false (by omega)
          have f6 : q p ≤ 5000 := by have := HQB.out p; omega
          generalize q p = C at *
          by_cases hkC : k = C
          · subst hkC
            have f7 : ((k : Int) == (k : Int)) = true := by simp
            have HQN2 : Hid (q (p + 1) = k + 1) := Lib.hid (by rw [HQN.out, if_pos rfl])
            clear hk1 hk2 hk3 hk4
            go_wp2_with fail
            refine HB1.out.mono ?_
            rintro e w4 ⟨rfl, rfl⟩
            go_wp2_with fail
            refine HBS.out.mono ?_
            rintro e w4 ⟨rfl, rfl⟩
            go_wp2_with fail
            go_round
            case rel => exact ⟨p + 1, by omega, by go_num, by rw [HQN2.out]; go_num⟩
            case measure => simp [intOf]; omega
          · have f7 : ((k : Int) == (C : Int)) = false := by simp; omega
            have f8 : (k == C) = false := by simpa using hkC
            have HQN2 : Hid (q (p + 1) = C) := Lib.hid (by rw [HQN.out, if_neg hkC])
            clear hk1 hk2 hk3 hk4
            go_wp2_with fail
            refine HB1.out.mono ?_
            rintro e w4 ⟨rfl, rfl⟩
            go_wp2_with fail
            refine HBS.out.mono ?_
            rintro e w4 ⟨rfl, rfl⟩
            go_wp2_with fail
            go_round
            case rel => exact ⟨p + 1, by omega, by go_num, by rw [HQN2.out]⟩
            case measure => simp [intOf]; omega
        · obtain rfl : p = 4352 := by omega
          have f1 : (((q 4352 : Nat) : Int) == ((q 4352 : Nat) : Int)) = true := by simp
          go_wp2_with fail
          refine HBS.out.mono ?_
          rintro e w4 ⟨rfl, rfl⟩
          go_wp2_with fail
          go_ret
          exact ⟨rfl, HB3.out⟩
  · have HR := Lib.hid hr
    clear hr
    go_enter Try.func3, Try.ntmps3
    go_wp2_with fail
    refine (HW.out w).mono ?_
    rintro e w1 ⟨rfl, hb1⟩
    have HB1 := Lib.hid hb1
    have HL1 := Lib.hid (HLA.out.below hb1)
    clear hb1
    go_wp2_with fail
    refine (rright_no a n c l w1 HL1.out HR.out (by omega)).mono ?_
    rintro e w2 ⟨rfl, hb2⟩
    have HB2 := Lib.hid (HB1.out.trans (hb2.mono HB1.out.size))
    clear hb2
    go_wp2_with fail
    refine (HW.out w2).mono ?_
    rintro e w3 ⟨rfl, hb3⟩
    have HB3 := Lib.hid (HB2.out.trans (hb3.mono HB2.out.size))
    clear hb3
    go_wp2_with fail
    go_ret
    exact ⟨rfl, HB3.out⟩
end Go.Proofs.Ytpeniadomjijcaa.Pack

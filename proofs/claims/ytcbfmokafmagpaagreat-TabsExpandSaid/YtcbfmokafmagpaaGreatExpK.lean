/-
  The walk of the statement TabsExpand.
-/
import Derived.Test.YtcbfmokafmagpaaGreatExpR
import Derived.Test.YtcbfmokafmagpaaGreatTabsW
import Derived.Test.YtcbfmokafmagpaaGreatOpenInts
namespace Go.Proofs.YtcbfmokafmagpaaGreat.Stops
set_option linter.unusedSimpArgs false
set_option linter.unusedVariables false
open Go Go.RowKit Go.Shelf Mem Turn Gra Same GraLaw Mea

theorem ev_one {N K K' : Nat} (h1 : K * N ≤ 1023) (h2 : 1023 < (K + 1) * N) (h3 : K' * N ≤ 1023) (h4 : 1023 < (K' + 1) * N) : K = K' := by
  rcases Nat.lt_trichotomy K K' with h | h | h
  · have := Nat.mul_le_mul_right N (show K + 1 ≤ K' by omega); omega
  · exact h
  · have := Nat.mul_le_mul_right N (show K' + 1 ≤ K by omega); omega
theorem given_rise {cs : List Int} (h : Rise cs) : (fun y => y ∈ cs) = Given cs := funext fun y => propext ⟨fun hy => ⟨hy, h.2 y hy⟩, fun hy => hy.1⟩

theorem fresh_len {w w' : World} {n m : Nat} {xs : List Int} {e : Ending} (h : Fresh w w' 21 1 n (xs.map (Value.int .i32)) e) (hn : n = m) : Fresh w w' 21 1 m (xs.map (Value.int .i32)) e := hn ▸ h

set_option maxRecDepth 100000 in
set_option maxHeartbeats 16000000 in
theorem exp_any (w : World) (a : Option Addr) (n c : Nat) (xs : List Int) (h : Runes w a n c xs) (a1 : Option Addr) (n1 c1 : Nat) (cols : List Int) (h1 : IsInts w a1 n1 c1 cols) (x : Int) (_ : -9223372036854775808 ≤ x) (_ : x ≤ 9223372036854775807) :
    Calls Tryz.prog 5 #[.slice a n c, .slice a1 n1 c1, .int .i64 x] w fun e w' => e = .returned (.bool true) ∧ Below w.heap.size w w' := by
  obtain ⟨i0, hi, hz0, hz1, hz2⟩ := info_parts info_int
  have hm : n ≤ 9223372036854775807 := Nat.le_trans h.le h.max
  have hm1 : n1 ≤ 9223372036854775807 := Nat.le_trans h1.2.1 h1.2.2
  have HH := Lib.hid h
  have H1 := Lib.hid h1.1
  clear h h1
  by_cases g1 : 200 < n
  · have d1 : decide (200 < (n : Int)) = true := by simp; omega
    go_enter Tryz.func5, Tryz.ntmps5
    go_wp2_with fail
    refine (works_any _).mono ?_; rintro e w1 ⟨rfl, hb1⟩
    go_wp2_with fail
    refine (works_any _).mono ?_; rintro e w2 ⟨rfl, hb2⟩
    have hb2 := hb1.trans (hb2.mono hb1.size)
    go_wp2
    go_ret
    exact ⟨rfl, hb2⟩
  have d1 : decide (200 < (n : Int)) = false := by simp; omega
  by_cases g2 : 40 < n1
  · have d2 : decide (40 < (n1 : Int)) = true := by simp; omega
    go_enter Tryz.func5, Tryz.ntmps5
    go_wp2_with fail
    refine (works_any _).mono ?_; rintro e w1 ⟨rfl, hb1⟩
    go_wp2_with fail
    refine (works_any _).mono ?_; rintro e w2 ⟨rfl, hb2⟩
    have hb2 := hb1.trans (hb2.mono hb1.size)
    go_wp2
    go_ret
    exact ⟨rfl, hb2⟩
  have d2 : decide (40 < (n1 : Int)) = false := by simp; omega
  obtain ⟨N, hN⟩ : ∃ N : Nat, max 1 (min x 1024) = (N : Int) := ⟨(max 1 (min x 1024)).toNat, by omega⟩
  have hN1 : 1 ≤ N ∧ N ≤ 1024 := by omega
  go_enter Tryz.func5, Tryz.ntmps5
  go_wp2_with fail
  refine (works_any _).mono ?_; rintro e w1 ⟨rfl, hb1⟩
  have g3 : n ≤ 200 := by omega
  have g4 : n1 ≤ 40 := by omega
  have HB1 := Lib.hid hb1
  have HEV := Lib.hid (every_any x N hN)
  clear hb1 g1 g2
  go_wp2
  go_loopw [7, 9] (fun v i wr => ∃ k c : Nat, c ≤ 2047 ∧ 1 ≤ c ∧ i = .int .i64 c ∧ Hid (c = (k + 1) * N ∧ k * N ≤ 1023) ∧ Hid (wr.ownsRow w1.heap.size 3 1 v k ((ev N k).map (Value.int .i64)) ∧ Below w1.heap.size w1 wr)) (fun _ i _ => 2048 - (intOf i).toNat)
  case atStart => exact ⟨0, N, by omega, by omega, rfl, ⟨by omega, by omega⟩, World.ownsRow_nil _ _ _ _, Below.refl _ _⟩
  case round =>
    obtain ⟨k, c', hc, hc1, rfl, HK, H⟩ := hrel
    obtain ⟨q1, q2⟩ := H.out
    obtain ⟨av, cv, rfl⟩ := own_slice q1
    have HO := Lib.hid q1
    have HBW := Lib.hid q2
    have hs2 := q2.size
    clear q1 q2 H
    have hk : k ≤ 1023 := by
      have h1 := HK.out.2
      have h2 := Nat.mul_le_mul_left k hN1.1
      omega
    by_cases hlt : c' ≤ 1023
    · have dlt : decide ((c' : Int) ≤ 1023) = true := by simp; omega
      have hlt1 : (c' : Int) ≤ 1023 := by omega
      have x1 : IntKind.i64.wrap ((c' : Int) + (N : Int)) = (c' : Int) + (N : Int) := IntWalk.i64_in _ (by omega)
      have HK2 : Hid (c' + N = (k + 1 + 1) * N ∧ (k + 1) * N ≤ 1023) := Lib.hid ⟨by rw [Nat.succ_mul, ← HK.out.1], by rw [← HK.out.1]; exact hlt⟩
      go_wp2_with (at_builtin; (refine wpList_append_own _ rfl _ _ 42 rfl w1.heap.size 3 i0 _ 1 8 Tryz.underlying42 hi hz0 hz1 hz2 rfl (by decide) (.slice av k cv) k _ rfl (HO.out.alloc _) ⟨wr.heap.size, 0, none⟩ 1 1 [.int .i64 c'] rfl rfl (cell_new1 _ _ _) (by simp [Value.oneCell']) (by unfold maxLen; omega) (by omega) (by simp; omega) ?_; intro v5 w5 hown5 hgrow5 _))
      have R : Hid (w5.ownsRow w1.heap.size 3 1 v5 (k + 1) ((ev N (k + 1)).map (Value.int .i64)) ∧ Below w1.heap.size w1 w5) := by
        rw [ev_next, List.map_append, ← HK.out.1]
        exact Lib.hid ⟨hown5, (HBW.out.alloc hs2 _).grown hgrow5 (by simp; omega) (fun j e => (HO.out.lt j e).1)⟩
      clear hown5 hgrow5 HO
      go_roundw
      case rel => exact ⟨k + 1, c' + N, by omega, by omega, by go_num, HK2, R⟩
      case measure => simp [intOf]; omega
    · have dlt : decide ((c' : Int) ≤ 1023) = false := by simp; omega
      have hlt1 : ¬ (c' : Int) ≤ 1023 := by omega
      have HKN : Hid (k * N ≤ 1023 ∧ 1023 < (k + 1) * N) := Lib.hid ⟨HK.out.2, by rw [← HK.out.1]; omega⟩
      have HRI : Hid (Rise (ev N k)) := Lib.hid (ev_rise hN1.1 HKN.out.1)
      have HIA : Hid (Ints .i64 wr av k (ev N k)) := Lib.hid (ints_of_own HO.out)
      have HBB := Lib.hid (HB1.out.trans (HBW.out.mono HB1.out.size))
      clear HO HBW HB1 HK
      rcases Nat.lt_or_ge 100 N with h100 | h100
      · have d100 : decide (100 < (N : Int)) = true := by simp; omega
        have h100' : 100 < (N : Int) := by omega
        go_wp2_with fail
        refine (HEV.out wr).mono ?_
        rintro e w2 ⟨rfl, ⟨K', e1, e2, hst⟩, hb2⟩
        obtain rfl := ev_one HKN.out.1 HKN.out.2 e1 e2
        clear e1 e2
        go_wp2_with fail
        refine (all_any _ _ _ HRI.out w2 hst).mono ?_
        rintro e w3 ⟨v3, rfl, ho3, hb3⟩
        rw [ev_len] at ho3
        obtain ⟨a3, c3, rfl⟩ := own_slice ho3
        have hb3' := hb2.trans (hb3.mono hb2.size)
        have HB3 := Lib.hid (HBB.out.trans (hb3'.mono HBB.out.size))
        have HIA3 := Lib.hid (HIA.out.below hb3')
        clear hst hb2 hb3 ho3 hb3' HBB HIA
        go_wp2_with fail
        clear d100 h100 h100'
        refine (of_any a1 n1 c1 cols w3 (H1.out.below HB3.out) (by omega)).mono ?_
        rintro e w4 ⟨rfl, ⟨cs, hr, hcs, hst⟩, hb4⟩
        have HR := Lib.hid hr
        have HM : Hid ((fun y => y ∈ cs) = Given cols) := Lib.hid (funext fun y => propext (hcs y))
        have HST := Lib.hid hst
        have HB4 := Lib.hid (HB3.out.trans (hb4.mono HB3.out.size))
        have HIA4 := Lib.hid (HIA3.out.below hb4)
        clear hr hcs hst hb4 HB3 HIA3
        go_wp2_with fail
        refine (expand_any _ _ cs HR.out w4 HST.out a n c xs (HH.out.below HB4.out) (by omega)).mono ?_
        rintro e w5 ⟨o, ho, hol, hF⟩
        rw [HM.out] at ho
        have HO1 := Lib.hid ho
        obtain ⟨a5, c5, rfl, hi5, hb5⟩ := fresh_ints hF
        have HI5 := Lib.hid hi5
        have HB5 := Lib.hid (HB4.out.trans (hb5.mono HB4.out.size))
        have HIA5 := Lib.hid (HIA4.out.below hb5)
        clear ho hF hi5 hb5 HB4 HIA4 HST HM HR
        go_wp2_with fail
        refine (rexpand_any a1 n1 c1 cols w5 (H1.out.below HB5.out) (by omega) a n c xs (HH.out.below HB5.out) (by omega)).mono ?_
        rintro e w6 ⟨o', ho', -, hF⟩
        obtain rfl : o' = o := by rw [ho', HO1.out]
        obtain ⟨a6, c6, rfl, hi6, hb6⟩ := fresh_ints hF
        have HI6 := Lib.hid hi6
        have HI56 := Lib.hid (HI5.out.below hb6)
        have HB6 := Lib.hid (HB5.out.trans (hb6.mono HB5.out.size))
        have HIA6 := Lib.hid (HIA5.out.below hb6)
        clear ho' hF hi6 hb6 HB5 HIA5 HI5 HO1
        generalize o'.length = ol at *
        go_wp2_with fail
        refine (same_true _ _ _ _ _ _ _ w6 HI56.out HI6.out (by omega)).mono ?_
        rintro e w7 ⟨rfl, hb7⟩
        have HB7 := Lib.hid (HB6.out.trans (hb7.mono HB6.out.size))
        have HIA7 := Lib.hid (HIA6.out.below hb7)
        clear hb7 HI56 HI6 HB6 HIA6
        go_wp2_with fail
        refine (HEV.out w7).mono ?_
        rintro e w8 ⟨rfl, ⟨K', e1, e2, hst⟩, hb8⟩
        obtain rfl := ev_one HKN.out.1 HKN.out.2 e1 e2
        have HST := Lib.hid hst
        have HB8 := Lib.hid (HB7.out.trans (hb8.mono HB7.out.size))
        have HIA8 := Lib.hid (HIA7.out.below hb8)
        clear e1 e2 hst hb8 HB7 HIA7
        go_wp2_with fail
        refine (expand_any _ _ _ HRI.out w8 HST.out a n c xs (HH.out.below HB8.out) (by omega)).mono ?_
        rintro e w9 ⟨p, hp, hpl, hF⟩
        rw [given_rise HRI.out] at hp
        have HP1 := Lib.hid hp
        obtain ⟨a9, c9, rfl, hi9, hb9⟩ := fresh_ints hF
        have HI9 := Lib.hid hi9
        have HB9 := Lib.hid (HB8.out.trans (hb9.mono HB8.out.size))
        have HIA9 := Lib.hid (HIA8.out.below hb9)
        clear hp hF hi9 hb9 HB8 HIA8 HST
        go_wp2_with fail
        refine (rexpand_any av k cv (ev N k) w9 HIA9.out (by omega) a n c xs (HH.out.below HB9.out) (by omega)).mono ?_
        rintro e w10 ⟨p', hp', -, hF⟩
        obtain rfl : p' = p := by rw [hp', HP1.out]
        obtain ⟨a10, c10, rfl, hi10, hb10⟩ := fresh_ints hF
        have HI10 := Lib.hid hi10
        have HI910 := Lib.hid (HI9.out.below hb10)
        have HB10 := Lib.hid (HB9.out.trans (hb10.mono HB9.out.size))
        clear hp' hF hi10 hb10 HB9 HIA9 HI9 HP1
        generalize p'.length = pl at *
        go_wp2_with fail
        refine (same_true _ _ _ _ _ _ _ w10 HI910.out HI10.out (by omega)).mono ?_
        rintro e w11 ⟨rfl, hb11⟩
        have HB11 := Lib.hid (HB10.out.trans (hb11.mono HB10.out.size))
        clear hb11 HI910 HI10 HB10
        go_wp2
        go_ret
        exact ⟨rfl, HB11.out⟩
      · have d100 : decide (100 < (N : Int)) = false := by simp; omega
        have h100' : ¬ 100 < (N : Int) := by omega
        have HB3 := HBB
        have HIA3 := HIA
        clear HBB HIA
        generalize wr = w3 at *
        go_wp2_with fail
        clear d100 h100 h100'
        refine (of_any a1 n1 c1 cols w3 (H1.out.below HB3.out) (by omega)).mono ?_
        rintro e w4 ⟨rfl, ⟨cs, hr, hcs, hst⟩, hb4⟩
        have HR := Lib.hid hr
        have HM : Hid ((fun y => y ∈ cs) = Given cols) := Lib.hid (funext fun y => propext (hcs y))
        have HST := Lib.hid hst
        have HB4 := Lib.hid (HB3.out.trans (hb4.mono HB3.out.size))
        have HIA4 := Lib.hid (HIA3.out.below hb4)
        clear hr hcs hst hb4 HB3 HIA3
        go_wp2_with fail
        refine (expand_any _ _ cs HR.out w4 HST.out a n c xs (HH.out.below HB4.out) (by omega)).mono ?_
        rintro e w5 ⟨o, ho, hol, hF⟩
        rw [HM.out] at ho
        have HO1 := Lib.hid ho
        obtain ⟨a5, c5, rfl, hi5, hb5⟩ := fresh_ints hF
        have HI5 := Lib.hid hi5
        have HB5 := Lib.hid (HB4.out.trans (hb5.mono HB4.out.size))
        have HIA5 := Lib.hid (HIA4.out.below hb5)
        clear ho hF hi5 hb5 HB4 HIA4 HST HM HR
        go_wp2_with fail
        refine (rexpand_any a1 n1 c1 cols w5 (H1.out.below HB5.out) (by omega) a n c xs (HH.out.below HB5.out) (by omega)).mono ?_
        rintro e w6 ⟨o', ho', -, hF⟩
        obtain rfl : o' = o := by rw [ho', HO1.out]
        obtain ⟨a6, c6, rfl, hi6, hb6⟩ := fresh_ints hF
        have HI6 := Lib.hid hi6
        have HI56 := Lib.hid (HI5.out.below hb6)
        have HB6 := Lib.hid (HB5.out.trans (hb6.mono HB5.out.size))
        have HIA6 := Lib.hid (HIA5.out.below hb6)
        clear ho' hF hi6 hb6 HB5 HIA5 HI5 HO1
        generalize o'.length = ol at *
        go_wp2_with fail
        refine (same_true _ _ _ _ _ _ _ w6 HI56.out HI6.out (by omega)).mono ?_
        rintro e w7 ⟨rfl, hb7⟩
        have HB7 := Lib.hid (HB6.out.trans (hb7.mono HB6.out.size))
        have HIA7 := Lib.hid (HIA6.out.below hb7)
        clear hb7 HI56 HI6 HB6 HIA6
        go_wp2_with fail
        refine (HEV.out w7).mono ?_
        rintro e w8 ⟨rfl, ⟨K', e1, e2, hst⟩, hb8⟩
        obtain rfl := ev_one HKN.out.1 HKN.out.2 e1 e2
        have HST := Lib.hid hst
        have HB8 := Lib.hid (HB7.out.trans (hb8.mono HB7.out.size))
        have HIA8 := Lib.hid (HIA7.out.below hb8)
        clear e1 e2 hst hb8 HB7 HIA7
        go_wp2_with fail
        refine (expand_any _ _ _ HRI.out w8 HST.out a n c xs (HH.out.below HB8.out) (by omega)).mono ?_
        rintro e w9 ⟨p, hp, hpl, hF⟩
        rw [given_rise HRI.out] at hp
        have HP1 := Lib.hid hp
        obtain ⟨a9, c9, rfl, hi9, hb9⟩ := fresh_ints hF
        have HI9 := Lib.hid hi9
        have HB9 := Lib.hid (HB8.out.trans (hb9.mono HB8.out.size))
        have HIA9 := Lib.hid (HIA8.out.below hb9)
        clear hp hF hi9 hb9 HB8 HIA8 HST
        go_wp2_with fail
        refine (rexpand_any av k cv (ev N k) w9 HIA9.out (by omega) a n c xs (HH.out.below HB9.out) (by omega)).mono ?_
        rintro e w10 ⟨p', hp', -, hF⟩
        obtain rfl : p' = p := by rw [hp', HP1.out]
        obtain ⟨a10, c10, rfl, hi10, hb10⟩ := fresh_ints hF
        have HI10 := Lib.hid hi10
        have HI910 := Lib.hid (HI9.out.below hb10)
        have HB10 := Lib.hid (HB9.out.trans (hb10.mono HB9.out.size))
        clear hp' hF hi10 hb10 HB9 HIA9 HI9 HP1
        generalize p'.length = pl at *
        go_wp2_with fail
        refine (same_true _ _ _ _ _ _ _ w10 HI910.out HI10.out (by omega)).mono ?_
        rintro e w11 ⟨rfl, hb11⟩
        have HB11 := Lib.hid (HB10.out.trans (hb11.mono HB10.out.size))
        clear hb11 HI910 HI10 HB10
        go_wp2
        go_ret
        exact ⟨rfl, HB11.out⟩

end Go.Proofs.YtcbfmokafmagpaaGreat.Stops

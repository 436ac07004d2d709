/-
  The walk of the statement TableEven.
-/
import Derived.Test.YtcbfmokafmagpaaTabB
import Derived.Test.YtcbfmokafmagpaaTabP
namespace Go.Proofs.Ytcbfmokafmagpaa.Tbl
set_option linter.unusedSimpArgs false
set_option linter.unusedVariables false
open Go Go.RowKit Go.Shelf Mem Turn Gra Same GraLaw Mea Rep Just

theorem plainTo_next {R : List (List (List Int))} {r : Nat} {row : List (List Int)} (h : PlainTo R r) (hr : R[r]? = some row) (hp : ∀ (j : Nat) (t : List Int), row[j]? = some t → NoPre t ∧ Beg t) : PlainTo R (r + 1) := by
  intro i row' hi hr'
  rcases Nat.lt_or_ge i r with h1 | h1
  · exact h i row' h1 hr'
  · obtain rfl : i = r := by omega
    rw [hr] at hr'
    injection hr' with hr'
    subst hr'
    exact hp

theorem ln_len {f : Nat → List Int} {g B : Nat} : ∀ k, (∀ i, i < k → (f i).length ≤ B) → (ln f g k).length ≤ k * (g + B)
  | 0, _ => by simp [ln]
  | k + 1, h => by
    have h1 := ln_len (f := f) (g := g) (B := B) k (fun i hi => h i (by omega))
    have h2 := h k (by omega)
    rw [ln_next, Nat.succ_mul]
    simp only [List.length_append, List.length_replicate]
    split <;> omega
theorem line_len {R : List (List (List Int))} {n : Nat} (hs : SmallTo R n) (hl : R.length = n) (ps : Nat → Int × Int) (g m r : Nat) (hg : g ≤ 1024) (hm : m ≤ 10) : (lineL R n ps g m r).length ≤ 100000 := by
  have h1 := ln_len (f := lnF R n ps r) (g := g) (B := 1400) m fun i _ => by
    have h2 := fit_len (fit_ex ((R.getD r []).getD i []) (lim (mx R i n) (ps i).1) (ps i).2)
    have h3 : ((R.getD r []).getD i []).length ≤ 300 := by
      rcases Nat.lt_or_ge r n with hr | hr
      · obtain ⟨row, hrow⟩ : ∃ row, R[r]? = some row := ⟨_, List.getElem?_eq_getElem (by omega)⟩
        rw [getD_some hrow]
        exact small_text hs hr hrow
      · rw [getD_none (l := R) (by omega)]; simp
    simp only [List.length_nil] at h2
    show (fitV _ _ _).length ≤ 1400
    omega
  have h4 : m * (g + 1400) ≤ 10 * 2424 := Nat.mul_le_mul hm (by omega)
  unfold lineL
  omega

set_option maxRecDepth 100000 in
set_option maxHeartbeats 8000000 in
theorem even_any (w : World) (a : Option Addr) (n c : Nat) (R : List (List (List Int))) (h : Rows3 w a n c R) (gap : Int) (hg1 : -9223372036854775808 ≤ gap) (hg2 : gap ≤ 9223372036854775807) (b : Option Addr) (m cm : Nat) (ps : Nat → Int × Int) (hc : IsCols w b m cm ps) :
    Calls Try.prog 4 #[.slice a n c, .int .i64 gap, .slice b m cm] w fun e w' => e = .returned (.bool true) ∧ Below w.heap.size w w' := by
  have HH := Lib.hid h
  have HC := Lib.hid hc
  have HLR := Lib.hid h.1
  have hmm : m ≤ 9223372036854775807 := Nat.le_trans hc.1 hc.2.1
  clear h hc
  go_enter Try.func4, Try.ntmps4
  go_wp2_with fail
  refine (works_any _).mono ?_; rintro e w1 ⟨rfl, hb1⟩
  go_wp2_with fail
  refine (great_any a n c R w1 (HH.out.below hb1)).mono ?_
  rintro e w2 ⟨⟨bb, rfl, hgr⟩, rfl⟩
  cases bb
  · obtain ⟨hn, hs⟩ := hgr rfl
    have HS := Lib.hid hs
    clear hgr hs
    by_cases h10 : 10 < m
    · have d1 : decide ((10 : Int) < m) = true := by simp; omega
      go_wp2_with fail
      refine (works_any _).mono ?_; rintro e w3 ⟨rfl, hb3⟩
      have hb3 := hb1.trans (hb3.mono hb1.size)
      go_wp2
      go_ret
      exact ⟨rfl, hb3⟩
    · have d1 : decide ((10 : Int) < m) = false := by simp; omega
      by_cases h0 : m = 0
      · have d2 : ((m : Int) == 0) = true := by simp; omega
        clear h0
        go_wp2_with fail
        refine (works_any _).mono ?_; rintro e w3 ⟨rfl, hb3⟩
        have hb3 := hb1.trans (hb3.mono hb1.size)
        go_wp2
        go_ret
        exact ⟨rfl, hb3⟩
      · have d2 : ((m : Int) == 0) = false := by simp; omega
        have hm0 : 0 < m := by omega
        have HB1 := Lib.hid hb1
        clear hb1
        go_wp2
        go_loopw [7] (fun i wr => ∃ r : Nat, r ≤ n ∧ i = .int .i64 r ∧ Hid (PlainTo R r ∧ Below w.heap.size w wr)) (fun i _ => n - (intOf i).toNat)
        case atStart => exact ⟨0, Nat.zero_le _, rfl, fun i row hi => by omega, HB1.out⟩
        case round =>
          obtain ⟨r, hr, rfl, H⟩ := hrel
          by_cases hlt : r < n
          · have hlt1 : (r : Int) < n := by omega
            obtain ⟨_, _, _, h0 | ⟨b1, off1, rfl, hbl1, hc1⟩⟩ := HH.out
            · omega
            obtain ⟨row, hrow⟩ : ∃ row, R[r]? = some row := ⟨_, List.getElem?_eq_getElem (by rw [HLR.out]; exact hlt)⟩
            obtain ⟨a1, n1, c1, hcellw, hl1, hnc1, hcm1, hT1⟩ := hc1 r row hrow
            have HCW := Lib.hid hcellw
            have HT1 := Lib.hid hT1
            have HRow := Lib.hid hrow
            have HL1 := Lib.hid hl1
            have HP := Lib.hid H.out.1
            have HBr := Lib.hid H.out.2
            clear hc1 hrow hT1 hcellw hl1 H
            generalize wr = wq at *
            go_wp2
            go_loopw [8] (fun i wr => ∃ k : Nat, k ≤ n1 ∧ i = .int .i64 k ∧ Hid ((∀ (j : Nat) (t : List Int), j < k → row[j]? = some t → NoPre t ∧ Beg t) ∧ Below w.heap.size w wr)) (fun i _ => n1 - (intOf i).toNat)
            case atStart => exact ⟨0, Nat.zero_le _, rfl, fun i row hi => by omega, HBr.out⟩
            case round =>
              obtain ⟨k, hk, rfl, H⟩ := hrel
              have hcell := (H.out.2.cell (p := ⟨b1, off1 + r, none⟩) hbl1).trans HCW.out
              by_cases hkt : k < n1
              · have hkt1 : (k : Int) < n1 := by omega
                rcases HT1.out with h0 | ⟨b2, off2, rfl, hbl2, hc2⟩
                · omega
                obtain ⟨t, ht⟩ : ∃ t, row[k]? = some t := ⟨_, List.getElem?_eq_getElem (by rw [HL1.out]; exact hkt)⟩
                obtain ⟨a2, n2, c2, hcell2, hT2⟩ := hc2 k t ht
                have hcell2 := (H.out.2.cell (p := ⟨b2, off2 + k, none⟩) hbl2).trans hcell2
                have HPL := Lib.hid (plain_any a2 n2 c2 t wr (hT2.1.below H.out.2))
                have HTT := Lib.hid ht
                clear hc2 ht hT2
                go_wp2_with fail
                refine HPL.out.mono ?_
                rintro e w3 ⟨⟨bb, rfl, hp⟩, hb3⟩
                have HB3 := Lib.hid (H.out.2.trans (hb3.mono H.out.2.size))
                cases bb
                · clear hp hb3 HPL
                  go_wp2
                  go_ret
                  exact ⟨rfl, HB3.out⟩
                · have HN : Hid (∀ (j : Nat) (t : List Int), j < k + 1 → row[j]? = some t → NoPre t ∧ Beg t) := Lib.hid fun j t' hj ht' => by
                    rcases Nat.lt_or_ge j k with h1 | h1
                    · exact H.out.1 j t' h1 ht'
                    · obtain rfl : j = k := by omega
                      rw [HTT.out] at ht'
                      injection ht' with ht'
                      subst ht'
                      exact hp rfl
                  clear hp hb3 HPL H
                  go_wp2
                  go_roundw
                  case rel => exact ⟨k + 1, by omega, by go_num, HN.out, HB3.out⟩
                  case measure => simp [intOf]; omega
              · obtain rfl : k = n1 := by omega
                have HN : Hid (PlainTo R (r + 1)) := Lib.hid (plainTo_next HP.out HRow.out fun j t ht => H.out.1 j t (by have := (List.getElem?_eq_some_iff.1 ht).1; rw [HL1.out] at this; exact this) ht)
                have HB3 := Lib.hid H.out.2
                clear H
                go_wp2
                go_roundw
                case rel => exact ⟨r + 1, by omega, by go_num, HN.out, HB3.out⟩
                case measure => simp [intOf]; omega
          · obtain rfl : r = n := by omega
            have HP := Lib.hid H.out.1
            have HBr := Lib.hid H.out.2
            clear H
            obtain ⟨gm, hgm⟩ : ∃ gm : Nat, (IntKind.u64.wrap gap).tmod 20 = (gm : Int) := by
              have h1 : 0 ≤ IntKind.u64.wrap gap := by unfold IntKind.wrap; simp [IntKind.bits, IntKind.signed]; omega
              exact ⟨((IntKind.u64.wrap gap).tmod 20).toNat, (Int.toNat_of_nonneg (Int.tmod_nonneg _ h1)).symm⟩
            have hgm20 : gm < 20 := by
              have : (IntKind.u64.wrap gap).tmod 20 < 20 := Int.tmod_lt_of_pos _ (by omega)
              omega
            obtain ⟨g, hgg⟩ : ∃ g : Nat, 1 + (gm : Int) = (g : Int) := ⟨1 + gm, by omega⟩
            obtain ⟨M, hM⟩ : ∃ M : Nat, (m : Int) - 1 = (M : Int) := ⟨m - 1, by omega⟩
            have hgb : 1 ≤ g ∧ g ≤ 20 := by omega
            have hMb : M ≤ 9 ∧ m - 1 = M := by omega
            obtain ⟨P, hP⟩ : ∃ P : Nat, (g : Int) * (M : Int) = (P : Int) := ⟨g * M, by simp⟩
            have hPb : P ≤ 180 := by
              have : (P : Int) = ((g * M : Nat) : Int) := by rw [← hP]; simp
              have h2 : P = g * M := by omega
              have := Nat.mul_le_mul hgb.2 hMb.1
              omega
            have u1 : IntKind.i64.wrap (gm : Int) = (gm : Int) := IntWalk.i64_in _ (by omega)
            have u2 : IntKind.i64.wrap (g : Int) = (g : Int) := IntWalk.i64_in _ (by omega)
            have u3 : IntKind.i64.wrap (M : Int) = (M : Int) := IntWalk.i64_in _ (by omega)
            have u4 : IntKind.i64.wrap (P : Int) = (P : Int) := IntWalk.i64_in _ (by omega)
            have HWD : Hid (∀ i, wsum (itms (lineL R r ps g m i)) = (P : Int) + sumTo (fun k => lim (mx R k r) (ps k).1) m) := Lib.hid fun i => by
              rw [line_wide HS.out HLR.out HP.out ps g m i hgb.1, hMb.2, hP]
            have HSB := Lib.hid (sumTo_bd (W := fun k => lim (mx R k r) (ps k).1) (fun k => lim_bd (mx_bd HS.out HLR.out k r).1 _))
            have HR32 := Lib.hid (rows_ok HH.out)
            have HWA := Lib.hid (widths_any a r c R wr (HH.out.below HBr.out) HS.out hn b m cm ps (HC.out.below HBr.out) (by omega))
            go_wp2_with fail
            refine HWA.out.mono ?_
            rintro e w3 ⟨g1, rfl, hgw, hrow, hb3⟩
            have HROW := Lib.hid hrow
            have HB3 := Lib.hid (HBr.out.trans (hb3.mono HBr.out.size))
            clear hrow hb3 HWA
            go_wp2
            go_loopw [9, 11] (fun s i wr => ∃ k : Nat, k ≤ m ∧ s = .int .i64 ((P : Int) + sumTo (fun k => lim (mx R k r) (ps k).1) k) ∧ i = .int .i64 k ∧ w3 = wr) (fun _ i _ => m - (intOf i).toNat)
            case atStart => exact ⟨0, Nat.zero_le _, by show Value.int .i64 (P : Int) = .int .i64 ((P : Int) + 0); rw [Int.add_zero], rfl, rfl⟩
            case round =>
              obtain ⟨k, hk, rfl, rfl, rfl⟩ := hrel
              by_cases hkt : k < m
              · have hkt1 : (k : Int) < m := by omega
                have hcell := HROW.out.cell (k := k) (by unfold wl; exact tab_get hkt _)
                have hs1 := HSB.out k
                have hs2 := HSB.out (k + 1)
                have HNX : Hid (sumTo (fun k => lim (mx R k r) (ps k).1) (k + 1) = sumTo (fun k => lim (mx R k r) (ps k).1) k + lim (mx R k r) (ps k).1) := Lib.hid rfl
                have hs3 := HNX.out
                generalize hS1 : sumTo (fun k => lim (mx R k r) (ps k).1) (k + 1) = S1 at *
                have HS1 := Lib.hid hS1
                clear hS1
                generalize sumTo (fun k => lim (mx R k r) (ps k).1) k = S0 at *
                generalize lim (mx R k r) (ps k).1 = x0 at *
                have u5 : IntKind.i64.wrap ((P : Int) + S0 + x0) = (P : Int) + S0 + x0 := IntWalk.i64_in _ (by omega)
                go_wp2
                go_roundw
                case rel => exact ⟨k + 1, by omega, by rw [HS1.out, HNX.out, Int.add_assoc], by go_num, trivial⟩
                case measure => simp [intOf]; omega
              · obtain rfl : k = m := by omega
                have hs1 := HSB.out k
                have HLA := Lib.hid (lines_any a r c R w3 (HH.out.below HB3.out) HS.out hn g g (by omega) b k cm ps (HC.out.below HB3.out) (by omega))
                generalize sumTo (fun k => lim (mx R k r) (ps k).1) k = S0 at *
                generalize hwant : (P : Int) + S0 = want at *
                go_wp2_with fail
                refine HLA.out.mono ?_
                rintro e w4 ⟨v, b', rfl, hO, hb4⟩
                have hL := hO.lists
                obtain ⟨A, C, rfl⟩ := lists_slice hL
                have hlen := linesL_len R r ps g k r
                rw [hlen] at hL ⊢
                have HL4 := Lib.hid hL
                have HB4 := Lib.hid (HB3.out.trans (hb4.mono HB3.out.size))
                clear hO hL hb4 HLA
                go_wp2
                go_loopw [13] (fun i wr => ∃ q : Nat, q ≤ r ∧ i = .int .i64 q ∧ Hid (Below w4.heap.size w4 wr)) (fun i _ => r - (intOf i).toNat)
                case atStart => exact ⟨0, Nat.zero_le _, rfl, Below.refl _ _⟩
                case round =>
                  obtain ⟨q, hq, rfl, H⟩ := hrel
                  by_cases hqt : q < r
                  · have hqt1 : (q : Int) < r := by omega
                    obtain ⟨g4, rfl, hg4, hat⟩ := lists_own HL4.out (by rw [hlen]; omega)
                    obtain ⟨a5, n5, c5, hcell, ho5⟩ := hat q (lineL R r ps g k q) (by unfold linesL; rw [List.getElem?_map, List.getElem?_range hqt]; rfl)
                    have hcell := (H.out.cell (p := ⟨g4, q, none⟩) hg4).trans hcell
                    have hrun := runes_own ho5 (line_r32 HR32.out r ps g k q)
                    have hn5 := hrun.ints.1
                    have hll : (lineL R r ps g k q).length ≤ 100000 := line_len HS.out HLR.out ps g k q (by omega) (by omega)
                    have HCOL := Lib.hid (cols_any a5 n5 c5 _ wr (hrun.below H.out) (by omega))
                    rw [HWD.out q] at HCOL
                    clear hat ho5 hrun hll hn5
                    go_wp2_with fail
                    refine HCOL.out.mono ?_
                    rintro e w5 ⟨rfl, hb5⟩
                    have HB5 := Lib.hid (H.out.trans (hb5.mono H.out.size))
                    clear hb5 H HCOL
                    go_wp2
                    go_roundw
                    case rel => exact ⟨q + 1, by omega, by go_num, HB5.out⟩
                    case measure => simp [intOf]; omega
                  · obtain rfl : q = r := by omega
                    have HBE := Lib.hid (HB4.out.trans (H.out.mono HB4.out.size))
                    clear H
                    go_wp2
                    go_ret
                    exact ⟨rfl, HBE.out⟩
  · go_wp2_with fail
    refine (works_any _).mono ?_; rintro e w3 ⟨rfl, hb3⟩
    have hb3 := hb1.trans (hb3.mono hb1.size)
    go_wp2
    go_ret
    exact ⟨rfl, hb3⟩

end Go.Proofs.Ytcbfmokafmagpaa.Tbl

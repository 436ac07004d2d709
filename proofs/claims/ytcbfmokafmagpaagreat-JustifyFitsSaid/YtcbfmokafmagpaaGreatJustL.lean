/-
  The walk of the statement JustifyFits.
-/
import Derived.Test.YtcbfmokafmagpaaGreatJustS
import Derived.Test.YtcbfmokafmagpaaGreatJustW
namespace Go.Proofs.YtcbfmokafmagpaaGreat.Just
set_option linter.unusedSimpArgs false
set_option linter.unusedVariables false
open Go Go.RowKit Go.Shelf Mem Turn Gra Same GraLaw Mea Rep

theorem same_of (xs ys : List Int) (hxy : xs = ys) (a1 : Option Addr) (n1 c1 : Nat) (a2 : Option Addr) (n2 c2 : Nat) (w : World) (h1 : Ints .i32 w a1 n1 xs) (h2 : Ints .i32 w a2 n2 ys) (hm : n1 ≤ 9223372036854775807) :
    Calls Tryz.prog 7 #[.slice a1 n1 c1, .slice a2 n2 c2] w fun e w' => e = .returned (.bool true) ∧ Below w.heap.size w w' := by
  subst hxy
  exact same_true a1 n1 c1 xs a2 n2 c2 w h1 h2 hm

theorem fitP_len {xs ms : List Int} {x side : Int} {o : List Int} (h : FitP xs ms x side o) : o.length ≤ xs.length + ms.length + 1024 := by
  have hp : ∀ zs, (padL zs x side).length ≤ zs.length + 1024 := fun zs => by
    have hh := hold_le x
    have hw := wsum_le (itms zs)
    have h1 : padN zs x ≤ 1024 := by unfold padN; omega
    have h2 : padA zs x side ≤ padN zs x := by
      unfold padA
      split
      · omega
      · split <;> omega
    rw [padL_eq, pdL_len]
    omega
  rcases h with ⟨_, rfl⟩ | ⟨_, _, k, _, rfl⟩ | ⟨_, _, k, _, rfl⟩
  · have := hp xs; omega
  · have := hp (xs.take (st (Jn xs) xs.length k)); rw [List.length_take] at this; omega
  · have := hp (xs.take (st (Jn xs) xs.length k) ++ ms); rw [List.length_append, List.length_take] at this; omega
theorem padL_len (xs : List Int) (x side : Int) : (padL xs x side).length ≤ xs.length + 1024 := by
  have hh := hold_le x
  have hw := wsum_le (itms xs)
  have h1 : padN xs x ≤ 1024 := by unfold padN; omega
  have h2 : padA xs x side ≤ padN xs x := by
    unfold padA
    split
    · omega
    · split <;> omega
  rw [padL_eq, pdL_len]
  omega

theorem own77 (xs : List Int) : xs.map (Value.int .i32) ++ [.int .i32 7, .int .i32 7] = (xs ++ [7, 7]).map (Value.int .i32) := by simp
theorem r32_77 {xs : List Int} (h : R32 xs) : R32 (xs ++ [7, 7]) := by
  intro z hz
  rcases List.mem_append.1 hz with hz | hz
  · exact h z hz
  · simp at hz
    subst hz
    omega
theorem runes_77 {w : World} {a : Option Addr} {n c : Nat} {xs : List Int} (h : Runes w a (n + 1 + 1) c (xs ++ [7, 7])) (hx : xs.length = n) : Runes w a n c xs := by
  have := runes_take h (j := n) (by omega)
  rw [List.take_append_of_le_length (by omega), List.take_of_length_le (by omega)] at this
  exact this
theorem cell_77 {w : World} {base g n c : Nat} {xs : List Int} (h : w.ownsRow base 21 1 (.slice (some ⟨g, 0, none⟩) (n + 1 + 1) c) (n + 1 + 1) ((xs ++ [7, 7]).map (Value.int .i32))) (hx : xs.length = n) : w.cell? ⟨g, n, none⟩ = some (.int .i32 7) := by
  have := h.cells (g := g) rfl n (.int .i32 7) (by rw [List.getElem?_map, List.getElem?_append_right (by omega)]; simp [hx])
  rw [add_none, Nat.zero_add] at this
  exact this

set_option maxRecDepth 100000 in
set_option maxHeartbeats 8000000 in
theorem fits_any (w : World) (a : Option Addr) (n c : Nat) (xs : List Int) (h : Runes w a n c xs) (x : Int) (hx1 : -9223372036854775808 ≤ x) (hx2 : x ≤ 9223372036854775807) (am : Option Addr) (nm cm : Nat) (ms : List Int) (hms : Runes w am nm cm ms) :
    Calls Tryz.prog 3 #[.slice a n c, .int .i64 x, .slice am nm cm] w fun e w' => e = .returned (.bool true) ∧ Below w.heap.size w w' := by
  have hm : n ≤ 9223372036854775807 := Nat.le_trans h.le h.max
  have hmm : nm ≤ 9223372036854775807 := Nat.le_trans hms.le hms.max
  have hnc := h.le
  have HH := Lib.hid h
  have HM := Lib.hid hms
  have HLN := Lib.hid h.ints.1
  have HLM := Lib.hid hms.ints.1
  clear h hms
  by_cases h1 : 60 < n ∨ 30 < nm
  · have d1 : decide (60 < (n : Int)) = true ∨ (decide (60 < (n : Int)) = false ∧ decide (30 < (nm : Int)) = true) := by
      rcases Nat.lt_or_ge 60 n with h | h
      · exact .inl (by simp; omega)
      · exact .inr ⟨by simp; omega, by simp; omega⟩
    rcases d1 with d1 | ⟨d1, d2⟩
    all_goals
      go_enter Tryz.func3, Tryz.ntmps3
      go_wp2_with fail
      refine (works_any _).mono ?_; rintro e w1 ⟨rfl, hb1⟩
      go_wp2_with fail
      refine (works_any _).mono ?_; rintro e w2 ⟨rfl, hb2⟩
      have hb2 := hb1.trans (hb2.mono hb1.size)
      go_wp2
      go_ret
      exact ⟨rfl, hb2⟩
  have d1 : decide (60 < (n : Int)) = false := by simp; omega
  have d2 : decide (30 < (nm : Int)) = false := by simp; omega
  have hn60 : n ≤ 60 := by omega
  have hm30 : nm ≤ 30 := by omega
  obtain ⟨i0, hi, hz0, hz1, hz2⟩ := info_parts info_i32
  go_enter Tryz.func3, Tryz.ntmps3
  go_wp2_with fail
  refine (works_any _).mono ?_; rintro e w1 ⟨rfl, hb1⟩
  have HB1 := Lib.hid hb1
  have HX1 := Lib.hid (HH.out.below hb1)
  have hs1 := hb1.size
  clear hb1 h1
  have HSRC := Lib.hid ((src_ints HX1.out.ints).keep ((Below.refl _ w1).alloc (Nat.le_refl _) (.cells #[] 21)))
  have H3 : Hid ((w1.alloc (.cells #[] 21)).ownsRow w1.heap.size 21 1 (.slice (some ⟨w1.heap.size, 0, none⟩) 0 0) 0 []) := World.ownsRow_made w1 #[] 0 (Nat.le_refl _) (by unfold maxLen; omega) rfl
  go_wp2_with (first
    | (at_builtin; (refine wpList_append_src _ rfl (.tmp 22) (.tmp 23) 22 rfl w1.heap.size 21 i0 _ 1 4 Tryz.underlying22 hi hz0 hz1 hz2 rfl (by decide) _ 0 _ rfl H3.out a n c (xs.map (Value.int .i32)) rfl HSRC.out (one_cells _ _) (by unfold maxLen; omega) (by omega) (by simp) ?_; intro v2 w2 hown2 hgrow2; rw [Nat.zero_add, List.nil_append] at hown2; have HO2 := Lib.hid hown2; have HB2 : Hid (Below w.heap.size w w2) := Lib.hid ((HB1.out.alloc hs1 _).grown hgrow2 (by simp; omega) (fun k e => by injection (show some w1.heap.size = some k from e) with e; omega)); have hs2 : w1.heap.size ≤ w2.heap.size := (by have := hgrow2.size; simp at this; omega); clear hown2 hgrow2))
    | (at_builtin; (refine wpList_append_own _ rfl (.tmp 24) (.tmp 25) 22 rfl w1.heap.size 21 i0 _ 1 4 Tryz.underlying22 hi hz0 hz1 hz2 rfl (by decide) _ n _ rfl (HO2.out.alloc _) ⟨w2.heap.size, 0, none⟩ 2 2 [.int .i32 7, .int .i32 7] rfl rfl (cell_new2 _ _ _ _) (by simp [Value.oneCell']) (by unfold maxLen; omega) (by omega) (by simp; omega) ?_; intro v3 w3 hown3 hgrow3 _; obtain ⟨g, c3, rfl⟩ := ownsRow_succ hown3; rw [own77 xs] at hown3; have R3 := runes_own hown3 (r32_77 HX1.out.r32); have hle3 := R3.le; have hmx3 := R3.max; have HR3 := Lib.hid (runes_77 R3 HLN.out); have hg3 := (hown3.lt g rfl).2; have HC3 := Lib.hid (cell_77 hown3 HLN.out); have HB3 : Hid (Below w.heap.size w w3) := Lib.hid ((HB2.out.alloc (by omega) _).grown hgrow3 (by simp; omega) (fun k e => Nat.le_trans hs1 (HO2.out.lt k e).1)); clear R3 hown3 hgrow3)))
  have HX3 := Lib.hid (HH.out.below HB3.out)
  have HM3 := Lib.hid (HM.out.below HB3.out)
  have hs3 := HB3.out.size
  have hnc3 : (n : Int) ≤ (c3 : Int) := by omega
  clear HH HM HX1 HO2 HB2 HSRC H3 HB1
  go_loopw [8] (fun i wr => ∃ k : Nat, k ≤ 5 ∧ i = .int .i64 ((k : Int) - 1) ∧ Hid (Below w3.heap.size w3 wr)) (fun i _ => (4 - intOf i).toNat)
  case atStart => exact ⟨0, by omega, rfl, Below.refl _ _⟩
  case round =>
    obtain ⟨k, hk, rfl, H⟩ := hrel
    have HA := Lib.hid (HX3.out.below H.out)
    have HC := Lib.hid (HM3.out.below H.out)
    have HO := Lib.hid (HR3.out.below H.out)
    have HB := Lib.hid (HB3.out.trans (H.out.mono hs3))
    have HBI := Lib.hid H.out
    clear H
    by_cases hlt : k < 5
    · have hlt' : (k : Int) - 1 ≤ 3 := by omega
      generalize hside : (k : Int) - 1 = side at *
      have HSD := Lib.hid hside
      have hsd1 : side ≤ 3 := by omega
      have hsd2 : -1 ≤ side := by omega
      clear hside hlt'
      go_wp2_with fail
      refine (pad_any _ n c3 xs _ HO.out (by omega) x side hx1 hx2).mono ?_
      rintro e w4 hF
      have hpl := padL_len xs x side
      rw [HLN.out] at hpl
      generalize hP : padL xs x side = P at *
      obtain ⟨a4, c4, rfl, hi4, hb4⟩ := fresh_ints hF
      have HI4 := Lib.hid hi4
      have HA4 := Lib.hid (HA.out.below hb4)
      have HC4 := Lib.hid (HC.out.below hb4)
      have HO4 := Lib.hid (HO.out.below hb4)
      have HB4 := Lib.hid (HB.out.trans (hb4.mono HB.out.size))
      have HBI4 := Lib.hid (HBI.out.trans (hb4.mono HBI.out.size))
      have HP := Lib.hid hP
      clear hF hi4 hb4 HA HC HO HB HBI hP
      go_wp2_with fail
      refine (pad_ref a n c xs _ HA4.out (by omega) x side hx1 hx2).mono ?_
      rintro e w5 hF
      rw [HP.out] at hF
      obtain ⟨a5, c5, rfl, hi5, hb5⟩ := fresh_ints hF
      have HI5 := Lib.hid hi5
      have HI4b := Lib.hid (HI4.out.below hb5)
      have HA5 := Lib.hid (HA4.out.below hb5)
      have HC5 := Lib.hid (HC4.out.below hb5)
      have HO5 := Lib.hid (HO4.out.below hb5)
      have HB5 := Lib.hid (HB4.out.trans (hb5.mono HB4.out.size))
      have HBI5 := Lib.hid (HBI4.out.trans (hb5.mono HBI4.out.size))
      clear hF hi5 hb5 HA4 HC4 HO4 HB4 HBI4 HI4
      generalize hPl : P.length = Pl at *
      go_wp2_with fail
      refine (same_true _ _ _ _ _ _ _ w5 HI4b.out HI5.out (by omega)).mono ?_
      rintro e w6 ⟨rfl, hb6⟩
      have HA6 := Lib.hid (HA5.out.below hb6)
      have HC6 := Lib.hid (HC5.out.below hb6)
      have HO6 := Lib.hid (HO5.out.below hb6)
      have HB6 := Lib.hid (HB5.out.trans (hb6.mono HB5.out.size))
      have HBI6 := Lib.hid (HBI5.out.trans (hb6.mono HBI5.out.size))
      clear hb6 HA5 HC5 HO5 HB5 HBI5 HI4b HI5 HP hPl hpl
      go_wp2_with fail
      refine (fit_any _ n c3 xs am nm cm ms w6 HO6.out HC6.out (by omega) (by omega) x side hx1 hx2).mono ?_
      rintro e w7 ⟨o1, ho1, hF⟩
      have hol := fitP_len ho1
      rw [HLN.out, HLM.out] at hol
      obtain ⟨a7, c7, rfl, hi7, hb7⟩ := fresh_ints hF
      have HI7 := Lib.hid hi7
      have HF1 := Lib.hid ho1
      have HA7 := Lib.hid (HA6.out.below hb7)
      have HC7 := Lib.hid (HC6.out.below hb7)
      have HB7 := Lib.hid (HB6.out.trans (hb7.mono HB6.out.size))
      have HBI7 := Lib.hid (HBI6.out.trans (hb7.mono HBI6.out.size))
      clear hF hi7 hb7 HA6 HC6 HO6 HB6 HBI6 ho1
      go_wp2_with fail
      refine (fit_ref a n c xs am nm cm ms w7 HA7.out HC7.out (by omega) (by omega) x side hx1 hx2).mono ?_
      rintro e w8 ⟨o2, ho2, hF⟩
      obtain rfl := fitP_one HF1.out ho2
      obtain ⟨a8, c8, rfl, hi8, hb8⟩ := fresh_ints hF
      have HI8 := Lib.hid hi8
      have HI7b := Lib.hid (HI7.out.below hb8)
      have HB8 := Lib.hid (HB7.out.trans (hb8.mono HB7.out.size))
      have HBI8 := Lib.hid (HBI7.out.trans (hb8.mono HBI7.out.size))
      clear hF hi8 hb8 HA7 HC7 HB7 HBI7 HI7 HF1 ho2
      generalize o1.length = ol at *
      go_wp2_with fail
      refine (same_true _ _ _ _ _ _ _ w8 HI7b.out HI8.out (by omega)).mono ?_
      rintro e w9 ⟨rfl, hb9⟩
      have HBI9 := Lib.hid (HBI8.out.trans (hb9.mono HBI8.out.size))
      clear hb9 HI7b HI8 HB8 HBI8
      go_wp2
      go_roundw
      case rel => exact ⟨k + 1, by omega, by have := HSD.out; go_num, HBI9.out⟩
      case measure => simp [intOf]; omega
    · obtain rfl : k = 5 := by omega
      have HCC := Lib.hid ((HBI.out.cell (p := ⟨g, n, none⟩) hg3).trans HC3.out)
      have hgr : g < wr.heap.size := Nat.lt_of_lt_of_le hg3 HBI.out.size
      clear HC3
      go_wp2_with fail
      refine (cut_any _ n c3 xs _ HO.out (by omega) x hx1 hx2).mono ?_
      rintro e w4 ⟨k, hk, hF⟩
      have hle : st (Jn xs) xs.length k ≤ n := Nat.le_trans (st_le (J := Jn xs) (n := xs.length) (k := k) hk.1) (Nat.le_of_eq HLN.out)
      have HK := Lib.hid hk
      obtain ⟨v4, rfl, hown4, hb4⟩ := hF
      obtain ⟨a4, c4, rfl⟩ := own_slice hown4
      have HI4 := Lib.hid (ints_of_own hown4)
      have HA4 := Lib.hid (HA.out.below hb4)
      have HB4 := Lib.hid (HB.out.trans (hb4.mono HB.out.size))
      have HC4 := Lib.hid ((hb4.cell (p := ⟨g, n, none⟩) hgr).trans HCC.out)
      have hg4 := Nat.lt_of_lt_of_le hgr hb4.size
      clear hown4 hb4 hk HA HC HO HB HBI HCC hgr
      generalize hs : st (Jn xs) xs.length k = s at *
      have HSS := Lib.hid hs
      clear hs
      go_wp2_with fail
      refine (cut_ref a n c xs w4 HA4.out (by omega) x hx1 hx2).mono ?_
      rintro e w5 ⟨k', hk', hF⟩
      obtain rfl := headP_one HK.out hk'
      rw [HSS.out] at hF
      obtain ⟨v5, rfl, hown5, hb5⟩ := hF
      obtain ⟨a5, c5, rfl⟩ := own_slice hown5
      have HI5 := Lib.hid (ints_of_own hown5)
      have HI4b := Lib.hid (HI4.out.below hb5)
      have HB5 := Lib.hid (HB4.out.trans (hb5.mono HB4.out.size))
      have HC5 := Lib.hid ((hb5.cell (p := ⟨g, n, none⟩) hg4).trans HC4.out)
      have hg5 := Nat.lt_of_lt_of_le hg4 hb5.size
      clear hown5 hb5 hk' HA4 HB4 HC4 HI4 hg4
      go_wp2_with fail
      refine (same_true _ _ _ _ _ _ _ w5 HI4b.out HI5.out (by omega)).mono ?_
      rintro e w6 ⟨rfl, hb6⟩
      have HB6 := Lib.hid (HB5.out.trans (hb6.mono HB5.out.size))
      have hc6 := (hb6.cell (p := ⟨g, n, none⟩) hg5).trans HC5.out
      clear hb6 HI4b HI5 HB5 HC5
      have hnc6 : (n : Int) + 1 ≤ (c3 : Int) := by omega
      go_wp2
      go_ret
      exact ⟨rfl, HB6.out⟩

end Go.Proofs.YtcbfmokafmagpaaGreat.Just

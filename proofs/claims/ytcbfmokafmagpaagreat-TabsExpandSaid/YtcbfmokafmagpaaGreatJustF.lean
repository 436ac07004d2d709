/-
  justify.Fit; the law's works; JustifyWide.
-/
import Derived.Test.YtcbfmokafmagpaaGreatJustP
namespace Go.Proofs.YtcbfmokafmagpaaGreat.Just
set_option linter.unusedSimpArgs false
set_option linter.unusedVariables false
open Go Go.RowKit Go.Shelf Mem Turn Gra Same GraLaw Mea Rep

theorem padL_hold (xs : List Int) (x side : Int) : padL xs (hold x) side = padL xs x side := by
  unfold padL padA padN
  rw [hold_hold]
theorem hold_of {y : Int} (h0 : 0 ≤ y) (h1 : y ≤ 1024) : hold y = y := by unfold hold; omega

/-- a text of a width -/
def FitP (xs ms : List Int) (x side : Int) (out : List Int) : Prop :=
  (wsum (itms xs) ≤ hold x ∧ out = padL xs x side) ∨
  (hold x < wsum (itms xs) ∧ hold x < wsum (itms ms) ∧ ∃ k, HeadP xs (hold x) k ∧ out = padL (xs.take (st (Jn xs) xs.length k)) x side) ∨
  (hold x < wsum (itms xs) ∧ wsum (itms ms) ≤ hold x ∧ ∃ k, HeadP xs (hold x - wsum (itms ms)) k ∧ out = padL (xs.take (st (Jn xs) xs.length k) ++ ms) x side)

set_option maxRecDepth 100000 in
set_option maxHeartbeats 4000000 in
theorem fit_any (a : Option Addr) (n c : Nat) (xs : List Int) (am : Option Addr) (nm cm : Nat) (ms : List Int) (w : World) (h : Runes w a n c xs) (hm : Runes w am nm cm ms) (hn : n ≤ 20000) (hnm : nm ≤ 20000) (x side : Int) (hx1 : -9223372036854775808 ≤ x) (hx2 : x ≤ 9223372036854775807) :
    Calls Tryz.prog 10 #[.slice a n c, .int .i64 x, .int .i64 side, .slice am nm cm] w fun e w' => ∃ out, FitP xs ms x side out ∧ Fresh w w' 21 1 out.length (out.map (Value.int .i32)) e := by
  obtain ⟨i0, hi, hz0, hz1, hz2⟩ := info_parts info_i32
  have HH := Lib.hid h
  have HM := Lib.hid hm
  have HLN := Lib.hid h.ints.1
  have hh := hold_le x
  have HE := Lib.hid (held_any x hx1 hx2)
  have hw := wsum_le (itms xs)
  have hil := itms_len xs
  have hwm := wsum_le (itms ms)
  have hilm := itms_len ms
  have hln := h.ints.1
  have hlm := hm.ints.1
  have HCOL := Lib.hid (cols_any a n c xs w HH.out (by omega))
  have HP : Hid (FitP xs ms x side = FitP xs ms x side) := Lib.hid rfl
  have HPL := Lib.hid (fun zs => padL_hold zs x side)
  clear h hm
  have HYE : ∃ y, y = hold x := ⟨_, rfl⟩
  obtain ⟨y, hy⟩ := HYE
  rw [← hy] at hh HE HPL
  have HY := Lib.hid hy
  obtain ⟨S, hS⟩ : ∃ S, S = wsum (itms xs) := ⟨_, rfl⟩
  obtain ⟨Z, hZ⟩ : ∃ Z, Z = wsum (itms ms) := ⟨_, rfl⟩
  rw [← hS] at hw HCOL
  rw [← hZ] at hwm
  have HS := Lib.hid hS
  have HZ := Lib.hid hZ
  have u1 : IntKind.i64.wrap (y - Z) = y - Z := IntWalk.i64_in _ (by omega)
  clear hy hS hZ
  go_enter Tryz.func10, Tryz.ntmps10
  go_wp2_with fail
  refine (HE.out _).mono ?_
  rintro e w1 ⟨rfl, rfl⟩
  go_wp2_with fail
  refine HCOL.out.mono ?_
  rintro e w1 ⟨rfl, hb⟩
  have HB := Lib.hid hb
  have HX := Lib.hid (HH.out.below hb)
  have HMX := Lib.hid (HM.out.below hb)
  clear hb HE HCOL HH HM
  by_cases hSy : S ≤ y
  · have d1 : decide (S ≤ y) = true := by simpa using hSy
    go_wp2_with fail
    refine (pad_any a n c xs w1 HX.out (by omega) y side (by omega) (by omega)).mono ?_
    rintro e w2 ⟨v, rfl, hown, hb2⟩
    rw [HPL.out] at hown
    have HF := Lib.hid (show Fresh w w2 21 1 _ _ (.returned v) from ⟨v, rfl, hown.mono HB.out.size, HB.out.trans (hb2.mono HB.out.size)⟩)
    clear hown hb2 HB HX HMX
    go_wp2
    go_ret
    refine ⟨_, .inl ⟨?_, rfl⟩, HF.out⟩
    rw [← HS.out, ← HY.out]
    exact hSy
  · have d1 : decide (S ≤ y) = false := by simpa using hSy
    go_wp2_with fail
    refine (cols_any am nm cm ms w1 HMX.out (by omega)).mono ?_
    rintro e w2 ⟨rfl, hb2⟩
    rw [← HZ.out]
    have HB2 := Lib.hid (HB.out.trans (hb2.mono HB.out.size))
    have HX2 := Lib.hid (HX.out.below hb2)
    have HM2 := Lib.hid (HMX.out.below hb2)
    clear hb2 HB HX HMX
    by_cases hroom : y - Z < 0
    · have d2 : decide (y - Z < 0) = true := by simpa using hroom
      go_wp2_with fail
      refine (cut_any a n c xs w2 HX2.out (by omega) y (by omega) (by omega)).mono ?_
      rintro e w3 ⟨k, hk, v, rfl, hown, hb3⟩
      rw [hold_of (by omega) (by omega)] at hk
      obtain ⟨a3, c3, rfl⟩ := own_slice hown
      have hle := st_le (J := Jn xs) (n := xs.length) (k := k) hk.1
      have HR3 := Lib.hid (runes_own hown (r32_take HX2.out.r32 _))
      have HB3 := Lib.hid (HB2.out.trans (hb3.mono HB2.out.size))
      have HK := Lib.hid hk
      have HPK := Lib.hid (HPL.out (xs.take (st (Jn xs) xs.length k)))
      clear hown hb3 hk
      have HFK : Hid (∀ out, out = padL (xs.take (st (Jn xs) xs.length k)) x side → FitP xs ms x side out) := by
        refine Lib.hid fun out ho => .inr (.inl ⟨?_, ?_, k, ?_, ho⟩)
        · rw [← HS.out, ← HY.out]; omega
        · rw [← HZ.out, ← HY.out]; omega
        · rw [← HY.out]; exact HK.out
      generalize xs.take (st (Jn xs) xs.length k) = zs at *
      generalize st (Jn xs) xs.length k = s at *
      go_wp2_with fail
      refine (pad_any a3 s c3 zs w3 HR3.out (by omega) y side (by omega) (by omega)).mono ?_
      rintro e w4 ⟨v4, rfl, hown4, hb4⟩
      rw [HPK.out] at hown4
      have HF := Lib.hid (show Fresh w w4 21 1 _ _ (.returned v4) from ⟨v4, rfl, hown4.mono HB3.out.size, HB3.out.trans (hb4.mono HB3.out.size)⟩)
      clear hown4 hb4 HB3 HR3
      go_wp2
      go_ret
      exact ⟨_, HFK.out _ rfl, HF.out⟩
    · have d2 : decide (y - Z < 0) = false := by simpa using hroom
      go_wp2_with fail
      refine (cut_any a n c xs w2 HX2.out (by omega) (y - Z) (by omega) (by omega)).mono ?_
      rintro e w3 ⟨k, hk, v, rfl, hown, hb3⟩
      rw [hold_of (by omega) (by omega)] at hk
      have hle := st_le (J := Jn xs) (n := xs.length) (k := k) hk.1
      have HO3 := Lib.hid hown
      have HB3 := Lib.hid (HB2.out.trans (hb3.mono HB2.out.size))
      have HM3 := Lib.hid (HM2.out.below hb3)
      have HSRC := Lib.hid (src_ints HM3.out.ints)
      have hs3 := hb3.size
      have HK := Lib.hid hk
      have HR32 : Hid (R32 (xs.take (st (Jn xs) xs.length k) ++ ms)) := Lib.hid fun z hz => by
        rcases List.mem_append.1 hz with hz | hz
        · exact r32_take HX2.out.r32 _ z hz
        · exact HM3.out.r32 z hz
      have HPK := Lib.hid (HPL.out (xs.take (st (Jn xs) xs.length k) ++ ms))
      have HFK : Hid (∀ out, out = padL (xs.take (st (Jn xs) xs.length k) ++ ms) x side → FitP xs ms x side out) := by
        refine Lib.hid fun out ho => .inr (.inr ⟨?_, ?_, k, ?_, ho⟩)
        · rw [← HS.out, ← HY.out]; omega
        · rw [← HZ.out, ← HY.out]; omega
        · rw [← HY.out, ← HZ.out]; exact HK.out
      clear hown hb3 hk
      generalize xs.take (st (Jn xs) xs.length k) = zs at *
      generalize st (Jn xs) xs.length k = s at *
      go_wp2_with (at_builtin; (refine wpList_append_src _ rfl _ _ 22 rfl w2.heap.size 21 i0 _ 1 4 Tryz.underlying22 hi hz0 hz1 hz2 rfl (by decide) _ s _ rfl HO3.out am nm cm (ms.map (Value.int .i32)) rfl HSRC.out (one_cells _ _) (by unfold maxLen; omega) (by omega) (by omega) ?_; intro v' w4 hown4 hgrow4; rw [← List.map_append] at hown4; obtain ⟨a4, c4, rfl⟩ := own_slice hown4))
      have HR4 := Lib.hid (runes_own hown4 HR32.out)
      have HB4 := Lib.hid (HB3.out.grown hgrow4 (by have := HB3.out.size; omega) (fun g e => (Nat.le_trans HB2.out.size (HO3.out.lt g e).1)))
      clear hown4 hgrow4 HB3 HO3 HM3 HSRC
      refine (pad_any a4 (s + nm) c4 (zs ++ ms) w4 HR4.out (by omega) y side (by omega) (by omega)).mono ?_
      rintro e w5 ⟨v5, rfl, hown5, hb5⟩
      rw [HPK.out] at hown5
      have HF := Lib.hid (show Fresh w w5 21 1 _ _ (.returned v5) from ⟨v5, rfl, hown5.mono HB4.out.size, HB4.out.trans (hb5.mono HB4.out.size)⟩)
      clear hown5 hb5 HB4 HR4
      go_wp2
      go_ret
      exact ⟨_, HFK.out _ rfl, HF.out⟩

end Go.Proofs.YtcbfmokafmagpaaGreat.Just

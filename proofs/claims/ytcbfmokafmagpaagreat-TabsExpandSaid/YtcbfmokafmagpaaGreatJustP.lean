/-
  justify.blanks, Cut, Pad, Fit. Printed by gen_just.py.
-/
import Derived.Test.YtcbfmokafmagpaaGreatJust
import Derived.Test.YtcbfmokafmagpaaGreatFitLaw
namespace Go.Proofs.YtcbfmokafmagpaaGreat.Just
set_option linter.unusedSimpArgs false
set_option linter.unusedVariables false
open Go Go.RowKit Go.Shelf Mem Turn Gra Same GraLaw Mea Rep

set_option maxHeartbeats 1000000 in
theorem blanks_any (y : Nat) (w : World) (hy : y ≤ 2000) :
    Calls Tryz.prog 29 #[.int .i64 y] w fun e w' => Fresh w w' 21 1 y ((List.replicate y (32 : Int)).map (Value.int .i32)) e := by
  have B1 : Below w.heap.size w (w.alloc (.cells #[.int .i32 32] 21)) := (Below.refl _ _).alloc (Nat.le_refl _) _
  have c1 : (w.alloc (.cells #[.int .i32 32] 21)).cell? ⟨w.heap.size, 0, none⟩ = some (.int .i32 32) := by simp
  have s1 : w.heap.size < (w.alloc (.cells #[.int .i32 32] 21)).heap.size := by simp
  go_enter Tryz.func29, Tryz.ntmps29
  go_wp2_with fail
  generalize (w.alloc (.cells #[.int .i32 32] 21)) = w1 at *
  refine (repeat_any w.heap.size 1 y w1 s1 c1 hy).mono ?_
  rintro e w2 ⟨v, rfl, hown, hb⟩
  have HF := Lib.hid (show Fresh w w2 21 1 _ _ (.returned v) from ⟨v, rfl, hown.mono (by omega), B1.trans (hb.mono B1.size)⟩)
  clear hown hb B1 c1 s1
  go_wp2
  go_ret
  exact HF.out

set_option maxHeartbeats 2000000 in
theorem cut_any (a : Option Addr) (n c : Nat) (xs : List Int) (w : World) (h : Runes w a n c xs) (hn : n ≤ 100000) (x : Int) (hx1 : -9223372036854775808 ≤ x) (hx2 : x ≤ 9223372036854775807) :
    Calls Tryz.prog 12 #[.slice a n c, .int .i64 x] w fun e w' => ∃ k, HeadP xs (hold x) k ∧ Fresh w w' 21 1 (st (Jn xs) xs.length k) ((xs.take (st (Jn xs) xs.length k)).map (Value.int .i32)) e := by
  have HH := Lib.hid h
  have hcn := h.le
  have hcm := h.max
  have HL := Lib.hid h.ints.1
  have hh := hold_le x
  have HE := Lib.hid (held_any x hx1 hx2)
  clear h
  generalize hold x = y at *
  go_enter Tryz.func12, Tryz.ntmps12
  go_wp2_with fail
  refine (HE.out _).mono ?_
  rintro e w1 ⟨rfl, rfl⟩
  go_wp2_with fail
  refine (head_any a n c xs w HH.out hn y (by omega) (by omega)).mono ?_
  rintro e w1 ⟨k, rfl, hk, hb⟩
  have hle : st (Jn xs) xs.length k ≤ n := by
    have := st_le (J := Jn xs) (n := xs.length) (k := k) hk.1
    have := HL.out
    omega
  have HT := Lib.hid (runes_take (HH.out.below hb) (j := st (Jn xs) xs.length k) hle)
  have HB := Lib.hid hb
  have HK := Lib.hid hk
  clear hb hk HH
  generalize hs : st (Jn xs) xs.length k = s at *
  have HS := Lib.hid hs
  clear hs
  have hsc : (s : Int) ≤ (c : Int) := by omega
  go_wp2_with fail
  refine (clone_full a s c (xs.take s) w1 HT.out.ints (by omega)).mono ?_
  rintro e w2 ⟨v, rfl, hown, hb2⟩
  have HF := Lib.hid (show Fresh w w2 21 1 _ _ (.returned v) from ⟨v, rfl, hown.mono HB.out.size, HB.out.trans (hb2.mono HB.out.size)⟩)
  clear hown hb2 HB HT
  go_wp2
  go_ret
  refine ⟨k, HK.out, ?_⟩
  rw [HS.out]
  exact HF.out

/-- a text with blanks -/
noncomputable def padN (xs : List Int) (x : Int) : Nat := (hold x - wsum (itms xs)).toNat
noncomputable def padA (xs : List Int) (x side : Int) : Nat := if side = 1 then padN xs x else if side = 2 then padN xs x / 2 else 0
noncomputable def padL (xs : List Int) (x side : Int) : List Int := [List.replicate (padA xs x side) 32, xs, List.replicate (padN xs x - padA xs x side) 32].flatten

theorem three (w : World) (T : TypeId) {a1 a2 a3 : Option Addr} {n1 n2 n3 : Nat} (l1 : List Int) (c1 : Nat) (l2 : List Int) (c2 : Nat) (l3 : List Int) (c3 : Nat) (h1 : Ints .i32 w a1 n1 l1) (h2 : Ints .i32 w a2 n2 l2) (h3 : Ints .i32 w a3 n3 l3) :
    ∀ (i : Nat) (ys : List Int), [l1, l2, l3][i]? = some ys → ∃ a n k, (w.alloc (.cells #[.slice a1 n1 c1, .slice a2 n2 c2, .slice a3 n3 c3] T)).cell? ⟨w.heap.size, i, none⟩ = some (.slice a n k) ∧ Ints .i32 (w.alloc (.cells #[.slice a1 n1 c1, .slice a2 n2 c2, .slice a3 n3 c3] T)) a n ys := by
  have hb : Below w.heap.size w (w.alloc (.cells #[.slice a1 n1 c1, .slice a2 n2 c2, .slice a3 n3 c3] T)) := (Below.refl _ _).alloc (Nat.le_refl _) _
  intro i ys h
  match i, h with
  | 0, h => simp at h; subst h; exact ⟨_, _, _, by unfold World.cell?; rw [heap_alloc_new]; rfl, h1.below hb⟩
  | 1, h => simp at h; subst h; exact ⟨_, _, _, by unfold World.cell?; rw [heap_alloc_new]; rfl, h2.below hb⟩
  | 2, h => simp at h; subst h; exact ⟨_, _, _, by unfold World.cell?; rw [heap_alloc_new]; rfl, h3.below hb⟩
  | i + 3, h => simp at h

set_option maxRecDepth 100000 in
set_option maxHeartbeats 4000000 in
theorem pad_any (a : Option Addr) (n c : Nat) (xs : List Int) (w : World) (h : Runes w a n c xs) (hn : n ≤ 50000) (x side : Int) (hx1 : -9223372036854775808 ≤ x) (hx2 : x ≤ 9223372036854775807) :
    Calls Tryz.prog 8 #[.slice a n c, .int .i64 x, .int .i64 side] w fun e w' => Fresh w w' 21 1 (padL xs x side).length ((padL xs x side).map (Value.int .i32)) e := by
  have HH := Lib.hid h
  have HL := h.ints.1
  have hh := hold_le x
  have HE := Lib.hid (held_any x hx1 hx2)
  have hw := wsum_le (itms xs)
  have hil := itms_len xs
  have hpn : ((padN xs x : Nat) : Int) = max 0 (hold x - wsum (itms xs)) := by unfold padN; omega
  have hp1 : padN xs x ≤ 1024 := by unfold padN; omega
  have HP : Hid (padL xs x side = [List.replicate (padA xs x side) 32, xs, List.replicate (padN xs x - padA xs x side) 32].flatten) := Lib.hid rfl
  have hpa : padA xs x side = if side = 1 then padN xs x else if side = 2 then padN xs x / 2 else 0 := rfl
  rw [hpa] at HP
  clear h hpa
  have HCOL := Lib.hid (cols_any a n c xs w HH.out (by omega))
  generalize hold x = y at *
  generalize wsum (itms xs) = S at *
  generalize padN xs x = N at *
  have u1 : IntKind.i64.wrap (y - S) = y - S := IntWalk.i64_in _ (by omega)
  have hmx : max 0 (y - S) = (N : Int) := hpn.symm
  obtain ⟨M, hM⟩ : ∃ M, M = N / 2 := ⟨_, rfl⟩
  obtain ⟨R, hR⟩ : ∃ R, R = N - M := ⟨_, rfl⟩
  rw [← hM] at HP
  have hMR : M + R = N := by omega
  have q1 : Int.tdiv (N : Int) 2 = (M : Int) := by rw [Int.tdiv_eq_ediv_of_nonneg (by omega)]; omega
  have u2 : IntKind.i64.wrap (N : Int) = (N : Int) := IntWalk.i64_in _ (by omega)
  have u3 : IntKind.i64.wrap (M : Int) = (M : Int) := IntWalk.i64_in _ (by omega)
  have e1 : (N : Int) - (N : Int) = 0 := by omega
  have e2 : (N : Int) - (M : Int) = (R : Int) := by omega
  have u4 : IntKind.i64.wrap (R : Int) = (R : Int) := IntWalk.i64_in _ (by omega)
  have HR := Lib.hid hR
  clear hM hR
  clear hpn
  go_enter Tryz.func8, Tryz.ntmps8
  go_wp2_with fail
  refine (HE.out _).mono ?_
  rintro e w1 ⟨rfl, rfl⟩
  go_wp2_with fail
  refine HCOL.out.mono ?_
  rintro e w1 ⟨rfl, hb⟩
  have HB := Lib.hid hb
  have HX := Lib.hid (HH.out.below hb)
  clear hb HE HCOL HH
  have hc3 : (side = 1 ∧ (side == 1) = true) ∨ (side = 2 ∧ (side == 2) = true) ∨ (¬ side = 1 ∧ ¬ side = 2 ∧ (side == 1) = false ∧ (side == 2) = false) := by
    by_cases s1 : side = 1
    · exact .inl ⟨s1, by simpa using s1⟩
    · by_cases s2 : side = 2
      · exact .inr (.inl ⟨s2, by simpa using s2⟩)
      · exact .inr (.inr ⟨s1, s2, by simpa using s1, by simpa using s2⟩)
  rcases hc3 with ⟨rfl, _⟩ | ⟨rfl, _⟩ | ⟨n1, n2, d1, d2⟩
  · rw [if_pos rfl, Nat.sub_self] at HP
    go_wp2_with fail
    refine (blanks_any (N) _ (by omega)).mono ?_
    rintro e w2 ⟨v2, rfl, hown2, hb2⟩
    obtain ⟨a2, c2, rfl⟩ := own_slice hown2
    have HI2 := Lib.hid (ints_of_own hown2)
    have HB2 := Lib.hid (HB.out.trans (hb2.mono HB.out.size))
    have HX2 := Lib.hid (HX.out.below hb2)
    clear hown2 hb2 HX HB
    go_wp2_with fail
    refine (blanks_any (0) _ (by omega)).mono ?_
    rintro e w3 ⟨v3, rfl, hown3, hb3⟩
    obtain ⟨a3, c3, rfl⟩ := own_slice hown3
    have HI3 := Lib.hid (ints_of_own hown3)
    have HB3 := Lib.hid (HB2.out.trans (hb3.mono HB2.out.size))
    have HX3 := Lib.hid (HX2.out.below hb3)
    have HJ3 := Lib.hid (HI2.out.below hb3)
    clear hown3 hb3 HX2 HB2 HI2
    go_wp2_with fail
    have HV := Lib.hid (three w3 22 _ c2 _ c _ c3 HJ3.out HX3.out.ints HI3.out)
    have HB4 := Lib.hid (HB3.out.alloc HB3.out.size (.cells #[.slice a2 (N) c2, .slice a n c, .slice a3 (0) c3] 22))
    have hs4 := HB3.out.size
    have hs5 : w3.heap.size < (w3.alloc (.cells #[.slice a2 (N) c2, .slice a n c, .slice a3 (0) c3] 22)).heap.size := by simp
    clear HB3 HX3 HI3 HJ3
    generalize (w3.alloc (.cells #[.slice a2 (N) c2, .slice a n c, .slice a3 (0) c3] 22)) = w4 at *
    refine (concat_any w3.heap.size 3 3 [List.replicate (N) 32, xs, List.replicate (0) 32] w4 rfl (by omega) (by omega) (by omega) hs5 HV.out (by simp only [List.flatten_cons, List.flatten_nil, List.length_append, List.length_replicate, List.length_nil]; omega)).mono ?_
    rintro e w5 ⟨v5, rfl, hown5, hb5⟩
    have HF := Lib.hid (show Fresh w w5 21 1 _ _ (.returned v5) from ⟨v5, rfl, hown5.mono (by omega), HB4.out.trans (hb5.mono HB4.out.size)⟩)
    clear hown5 hb5 HB4 HV
    go_wp2
    go_ret
    have hP := HP.out
    rw [hP]
    exact HF.out
  · rw [if_neg (by omega), if_pos rfl, ← HR.out] at HP
    go_wp2_with fail
    refine (blanks_any (M) _ (by omega)).mono ?_
    rintro e w2 ⟨v2, rfl, hown2, hb2⟩
    obtain ⟨a2, c2, rfl⟩ := own_slice hown2
    have HI2 := Lib.hid (ints_of_own hown2)
    have HB2 := Lib.hid (HB.out.trans (hb2.mono HB.out.size))
    have HX2 := Lib.hid (HX.out.below hb2)
    clear hown2 hb2 HX HB
    go_wp2_with fail
    refine (blanks_any (R) _ (by omega)).mono ?_
    rintro e w3 ⟨v3, rfl, hown3, hb3⟩
    obtain ⟨a3, c3, rfl⟩ := own_slice hown3
    have HI3 := Lib.hid (ints_of_own hown3)
    have HB3 := Lib.hid (HB2.out.trans (hb3.mono HB2.out.size))
    have HX3 := Lib.hid (HX2.out.below hb3)
    have HJ3 := Lib.hid (HI2.out.below hb3)
    clear hown3 hb3 HX2 HB2 HI2
    go_wp2_with fail
    have HV := Lib.hid (three w3 22 _ c2 _ c _ c3 HJ3.out HX3.out.ints HI3.out)
    have HB4 := Lib.hid (HB3.out.alloc HB3.out.size (.cells #[.slice a2 (M) c2, .slice a n c, .slice a3 (R) c3] 22))
    have hs4 := HB3.out.size
    have hs5 : w3.heap.size < (w3.alloc (.cells #[.slice a2 (M) c2, .slice a n c, .slice a3 (R) c3] 22)).heap.size := by simp
    clear HB3 HX3 HI3 HJ3
    generalize (w3.alloc (.cells #[.slice a2 (M) c2, .slice a n c, .slice a3 (R) c3] 22)) = w4 at *
    refine (concat_any w3.heap.size 3 3 [List.replicate (M) 32, xs, List.replicate (R) 32] w4 rfl (by omega) (by omega) (by omega) hs5 HV.out (by simp only [List.flatten_cons, List.flatten_nil, List.length_append, List.length_replicate, List.length_nil]; omega)).mono ?_
    rintro e w5 ⟨v5, rfl, hown5, hb5⟩
    have HF := Lib.hid (show Fresh w w5 21 1 _ _ (.returned v5) from ⟨v5, rfl, hown5.mono (by omega), HB4.out.trans (hb5.mono HB4.out.size)⟩)
    clear hown5 hb5 HB4 HV
    go_wp2
    go_ret
    have hP := HP.out
    rw [hP]
    exact HF.out
  · rw [if_neg n1, if_neg n2, Nat.sub_zero] at HP
    go_wp2_with fail
    refine (blanks_any (0) _ (by omega)).mono ?_
    rintro e w2 ⟨v2, rfl, hown2, hb2⟩
    obtain ⟨a2, c2, rfl⟩ := own_slice hown2
    have HI2 := Lib.hid (ints_of_own hown2)
    have HB2 := Lib.hid (HB.out.trans (hb2.mono HB.out.size))
    have HX2 := Lib.hid (HX.out.below hb2)
    clear hown2 hb2 HX HB
    go_wp2_with fail
    refine (blanks_any (N) _ (by omega)).mono ?_
    rintro e w3 ⟨v3, rfl, hown3, hb3⟩
    obtain ⟨a3, c3, rfl⟩ := own_slice hown3
    have HI3 := Lib.hid (ints_of_own hown3)
    have HB3 := Lib.hid (HB2.out.trans (hb3.mono HB2.out.size))
    have HX3 := Lib.hid (HX2.out.below hb3)
    have HJ3 := Lib.hid (HI2.out.below hb3)
    clear hown3 hb3 HX2 HB2 HI2
    go_wp2_with fail
    have HV := Lib.hid (three w3 22 _ c2 _ c _ c3 HJ3.out HX3.out.ints HI3.out)
    have HB4 := Lib.hid (HB3.out.alloc HB3.out.size (.cells #[.slice a2 (0) c2, .slice a n c, .slice a3 (N) c3] 22))
    have hs4 := HB3.out.size
    have hs5 : w3.heap.size < (w3.alloc (.cells #[.slice a2 (0) c2, .slice a n c, .slice a3 (N) c3] 22)).heap.size := by simp
    clear HB3 HX3 HI3 HJ3
    generalize (w3.alloc (.cells #[.slice a2 (0) c2, .slice a n c, .slice a3 (N) c3] 22)) = w4 at *
    refine (concat_any w3.heap.size 3 3 [List.replicate (0) 32, xs, List.replicate (N) 32] w4 rfl (by omega) (by omega) (by omega) hs5 HV.out (by simp only [List.flatten_cons, List.flatten_nil, List.length_append, List.length_replicate, List.length_nil]; omega)).mono ?_
    rintro e w5 ⟨v5, rfl, hown5, hb5⟩
    have HF := Lib.hid (show Fresh w w5 21 1 _ _ (.returned v5) from ⟨v5, rfl, hown5.mono (by omega), HB4.out.trans (hb5.mono HB4.out.size)⟩)
    clear hown5 hb5 HB4 HV
    go_wp2
    go_ret
    have hP := HP.out
    rw [hP]
    exact HF.out

end Go.Proofs.YtcbfmokafmagpaaGreat.Just

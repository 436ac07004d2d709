/-
  The document's answers Cut, Pad, Fit of layer 58.
-/
import Derived.Test.YtcbfmokafmagpaaGreatJustF
import Derived.Test.YtcbfmokafmagpaaGreatMeaHeads
namespace Go.Proofs.YtcbfmokafmagpaaGreat.Just
set_option linter.unusedSimpArgs false
set_option linter.unusedVariables false
open Go Go.RowKit Go.Shelf Mem Turn Gra Same GraLaw Mea Rep

theorem fitP_one {xs ms : List Int} {x side : Int} {o p : List Int} (h : FitP xs ms x side o) (h' : FitP xs ms x side p) : o = p := by
  rcases h with ⟨h1, rfl⟩ | ⟨h1, h2, k, hk, rfl⟩ | ⟨h1, h2, k, hk, rfl⟩ <;> rcases h' with ⟨g1, rfl⟩ | ⟨g1, g2, j, hj, rfl⟩ | ⟨g1, g2, j, hj, rfl⟩ <;> first | omega | (obtain rfl := headP_one hk hj; rfl) | rfl

set_option maxHeartbeats 2000000 in
theorem cut_ref (a : Option Addr) (n c : Nat) (xs : List Int) (w : World) (h : Runes w a n c xs) (hn : n ≤ 100000) (x : Int) (hx1 : -9223372036854775808 ≤ x) (hx2 : x ≤ 9223372036854775807) :
    Calls Tryz.prog 13 #[.slice a n c, .int .i64 x] w fun e w' => ∃ k, HeadP xs (hold x) k ∧ Fresh w w' 21 1 (st (Jn xs) xs.length k) ((xs.take (st (Jn xs) xs.length k)).map (Value.int .i32)) e := by
  obtain ⟨i0, hi, hz0, hz1, hz2⟩ := info_parts info_i32
  have HH := Lib.hid h
  have hcn := h.le
  have hcm := h.max
  have HL := Lib.hid h.ints.1
  have hh := hold_le x
  have hmx : max 0 (min x 1024) = hold x := rfl
  clear h
  generalize hold x = y at *
  go_enter Tryz.func13, Tryz.ntmps13
  go_wp2_with fail
  refine (head_ref a n c xs w HH.out hn y (by omega) (by omega)).mono ?_
  rintro e w1 ⟨hr, hb⟩
  rcases hr with ⟨_, k, rfl, hk⟩ | ⟨hx0, _⟩
  · have hle : st (Jn xs) xs.length k ≤ n := by
      have := st_le (J := Jn xs) (n := xs.length) (k := k) hk.1
      have := HL.out
      omega
    have HT := Lib.hid (runes_take (HH.out.below hb) (j := st (Jn xs) xs.length k) hle)
    have HB := Lib.hid hb
    have HK := Lib.hid hk
    clear hb hk HH
    generalize hs : st (Jn xs) xs.length k = s at *
    have HS := Lib.hid hs
    clear hs
    have hsc : (s : Int) ≤ (c : Int) := by omega
    have HSRC := Lib.hid ((src_ints HT.out.ints).keep ((Below.refl _ w1).alloc (Nat.le_refl _) (.cells #[] 21)))
    have H3 : Hid ((w1.alloc (.cells #[] 21)).ownsRow w1.heap.size 21 1 (.slice (some ⟨w1.heap.size, 0, none⟩) 0 0) 0 []) := World.ownsRow_made w1 #[] 0 (Nat.le_refl _) (by unfold maxLen; omega) rfl
    generalize hU : wsum (its (cl xs) k) = U
    clear hU
    go_wp2_with (at_builtin; (refine wpList_append_src _ rfl _ _ 22 rfl w1.heap.size 21 i0 _ 1 4 Tryz.underlying22 hi hz0 hz1 hz2 rfl (by decide) _ 0 _ rfl H3.out a s c ((xs.take s).map (Value.int .i32)) rfl HSRC.out (one_cells _ _) (by unfold maxLen; omega) (by omega) (by simp) ?_; intro v' w3 hown' hgrow))
    rw [Nat.zero_add, List.nil_append] at hown'
    have HF := Lib.hid (show Fresh w w3 21 1 _ _ (.returned v') from ⟨v', rfl, hown'.mono HB.out.size, (HB.out.alloc HB.out.size _).grown hgrow (by have := HB.out.size; simp; omega) (fun k e => by injection (show some w1.heap.size = some k from e) with e; have := HB.out.size; omega)⟩)
    clear hown' hgrow HB HT HSRC H3
    go_ret
    refine ⟨k, HK.out, ?_⟩
    rw [HS.out]
    exact HF.out
  · omega

def pdL (A : Nat) (xs : List Int) (j : Nat) : List Int := List.replicate A 32 ++ xs ++ List.replicate j 32
theorem pdL_next (A : Nat) (xs : List Int) (j : Nat) : pdL A xs j ++ [32] = pdL A xs (j + 1) := by
  unfold pdL
  rw [List.replicate_succ', List.append_assoc, List.append_assoc]
theorem pdL_len (A : Nat) (xs : List Int) (j : Nat) : (pdL A xs j).length = A + xs.length + j := by simp [pdL]; omega
theorem padL_eq (xs : List Int) (x side : Int) : padL xs x side = pdL (padA xs x side) xs (padN xs x - padA xs x side) := by simp [padL, pdL]
theorem rep_next (t : Nat) : (List.replicate t (32 : Int)).map (Value.int .i32) ++ [.int .i32 32] = (List.replicate (t + 1) (32 : Int)).map (Value.int .i32) := by
  rw [List.replicate_succ', List.map_append]
  rfl

set_option maxRecDepth 100000 in
set_option maxHeartbeats 4000000 in
theorem pad_ref (a : Option Addr) (n c : Nat) (xs : List Int) (w : World) (h : Runes w a n c xs) (hn : n ≤ 50000) (x side : Int) (hx1 : -9223372036854775808 ≤ x) (hx2 : x ≤ 9223372036854775807) :
    Calls Tryz.prog 9 #[.slice a n c, .int .i64 x, .int .i64 side] w fun e w' => Fresh w w' 21 1 (padL xs x side).length ((padL xs x side).map (Value.int .i32)) e := by
  obtain ⟨i0, hi, hz0, hz1, hz2⟩ := info_parts info_i32
  have HH := Lib.hid h
  have HLN := Lib.hid h.ints.1
  have hh := hold_le x
  have hw := wsum_le (itms xs)
  have hil := itms_len xs
  have hln := h.ints.1
  have hNL : ((padN xs x : Nat) : Int) = max 0 (hold x - wsum (itms xs)) := by unfold padN; omega
  have hcase : (side = 1 ∧ padA xs x side = padN xs x) ∨ (side = 2 ∧ padA xs x side = padN xs x / 2) ∨ (¬ side = 1 ∧ ¬ side = 2 ∧ padA xs x side = 0) := by
    unfold padA
    by_cases s1 : side = 1
    · rw [if_pos s1]; exact .inl ⟨s1, rfl⟩
    · rw [if_neg s1]
      by_cases s2 : side = 2
      · rw [if_pos s2]; exact .inr (.inl ⟨s2, rfl⟩)
      · rw [if_neg s2]; exact .inr (.inr ⟨s1, s2, rfl⟩)
  have HP := Lib.hid (padL_eq xs x side)
  have HCOL := Lib.hid (fun w1 h => cols_ref a n c xs w1 h (by omega))
  have hmx : max 0 (min x 1024) = hold x := rfl
  clear h
  generalize padL xs x side = P at *
  generalize padA xs x side = A at *
  generalize padN xs x = N at *
  generalize hold x = y at *
  generalize wsum (itms xs) = S at *
  obtain ⟨L, hL⟩ : ∃ L, L = y - S := ⟨_, rfl⟩
  rw [← hL] at hNL
  have hL1 : -200000 ≤ L := by omega
  have hL2 : L ≤ 1024 := by omega
  have u1 : IntKind.i64.wrap (y - S) = L := by rw [hL]; exact IntWalk.i64_in _ (by omega)
  have hAN : A ≤ N := by omega
  have hN1 : N ≤ 1024 := by omega
  have hyS : y - S = L := hL.symm
  have HNL := Lib.hid hNL
  have HC := Lib.hid hcase
  clear hL hw hil hcase hNL
  go_enter Tryz.func9, Tryz.ntmps9
  go_wp2_with fail
  refine (HCOL.out _ HH.out).mono ?_
  rintro e w1 ⟨rfl, hb⟩
  have HB := Lib.hid hb
  clear hb HCOL
  go_wp2
  go_loopw [8, 9] (fun v i wr => ∃ (k t : Nat), k ≤ N ∧ t ≤ A ∧ i = .int .i64 k ∧ Hid (t = min k A ∧ wr.ownsRow w.heap.size 21 1 v t ((List.replicate t (32 : Int)).map (Value.int .i32)) ∧ Below w.heap.size w wr)) (fun _ i _ => N - (intOf i).toNat)
  case atStart => exact ⟨0, 0, Nat.zero_le _, Nat.zero_le _, rfl, by omega, World.ownsRow_nil _ _ _ _, HB.out⟩
  case round =>
    obtain ⟨k, t, hk, htA, rfl, H⟩ := hrel
    by_cases hlt : (k : Int) < L
    · have hkN : k < N := by have := HNL.out; omega
      have hq : Hid (L / 2 = ((N / 2 : Nat) : Int)) := by have := HNL.out; exact Lib.hid (by omega)
      have HO := Lib.hid H.out.2.1
      have HBr := Lib.hid H.out.2.2
      have HT := Lib.hid H.out.1
      have hsz := H.out.2.2.size
      clear H
      by_cases hput : side = 1 ∨ side = 2 ∧ (k : Int) < L / 2
      · have HN : Hid (t + 1 = min (k + 1) A) := by
          have h1 := HC.out; have h2 := HT.out; have h3 := hq.out
          exact Lib.hid (by omega)
        have htA' : t + 1 ≤ A := by have := HN.out; omega
        have hs : (side = 1) ∨ (side = 2 ∧ decide ((k : Int) < L / 2) = true) := by
          rcases hput with h | ⟨h1, h2⟩
          · exact .inl h
          · exact .inr ⟨h1, by simpa using h2⟩
        clear hput
        rcases hs with rfl | ⟨rfl, d1⟩
        all_goals
          go_wp2_with (at_builtin; refine wpList_append_own _ rfl _ _ 22 rfl w.heap.size 21 i0 _ 1 4 Tryz.underlying22 hi hz0 hz1 hz2 rfl (by decide) _ t _ rfl (HO.out.alloc _) ⟨wr.heap.size, 0, none⟩ 1 1 [.int .i32 32] rfl rfl (cell_new1 _ _ _) (by simp [Value.oneCell']) (by unfold maxLen; omega) (by omega) (by simp; omega) ?_; intro v2 w2 hown2 hgrow2 _)
          rw [rep_next] at hown2
          have HB2 := Lib.hid ((HBr.out.alloc hsz (.cells #[.int .i32 32] 21)).grown hgrow2 (by simp; omega) (fun g e => (HO.out.lt g e).1))
          have HO2 := Lib.hid hown2
          clear hown2 hgrow2 HBr HO
          go_wp2
          go_roundw
          case rel => exact ⟨k + 1, t + 1, by omega, by omega, by go_num, HN.out, HO2.out, HB2.out⟩
          case measure => simp [intOf]; omega
      · have HN : Hid (t = min (k + 1) A) := by
          have h1 := HC.out; have h2 := HT.out; have h3 := hq.out
          exact Lib.hid (by omega)
        have hs : (side == 1) = false ∧ ((side = 2 ∧ decide ((k : Int) < L / 2) = false) ∨ (side == 2) = false) := by
          refine ⟨by simp; omega, ?_⟩
          by_cases s2 : side = 2
          · exact .inl ⟨s2, by simp; omega⟩
          · exact .inr (by simpa using s2)
        clear hput
        obtain ⟨d0, hs⟩ := hs
        rcases hs with ⟨rfl, d1⟩ | d1
        all_goals
          go_wp2
          go_roundw
          case rel => exact ⟨k + 1, t, by omega, by omega, by go_num, HN.out, HO.out, HBr.out⟩
          case measure => simp [intOf]; omega
    · have hkN : k = N := by have := HNL.out; omega
      have htA2 : t = A := by have := H.out.1; omega
      subst htA2
      have HO := Lib.hid H.out.2.1
      have HBr := Lib.hid H.out.2.2
      have hsz := H.out.2.2.size
      have HS := Lib.hid (src_ints (HH.out.below H.out.2.2).ints)
      have HLN2 := HLN.out
      clear H HC
      obtain ⟨a1, c1, rfl⟩ := own_slice HO.out
      go_wp2_with (at_builtin; (refine wpList_append_src _ rfl _ _ 22 rfl w.heap.size 21 i0 _ 1 4 Tryz.underlying22 hi hz0 hz1 hz2 rfl (by decide) _ t _ rfl HO.out a n c (xs.map (Value.int .i32)) rfl HS.out (one_cells _ _) (by unfold maxLen; omega) (by omega) hsz ?_; intro v2 w2 hown2 hgrow2))
      have HO2 : Hid (w2.ownsRow w.heap.size 21 1 v2 (t + n + 0) ((pdL t xs 0).map (Value.int .i32))) := by
        have : pdL t xs 0 = List.replicate t 32 ++ xs := by simp [pdL]
        rw [this, List.map_append]
        exact Lib.hid hown2
      have HB2 := Lib.hid (HBr.out.grown hgrow2 hsz (fun g e => (HO.out.lt g e).1))
      clear hown2 hgrow2 HO HBr HS
      go_wp2
      generalize wr = wo at *
      go_loopw [8, 11] (fun v i wq => ∃ (j : Nat), t + j ≤ N ∧ i = .int .i64 ((t : Int) + (j : Int)) ∧ Hid (wq.ownsRow w.heap.size 21 1 v (t + n + j) ((pdL t xs j).map (Value.int .i32)) ∧ Below w.heap.size w wq)) (fun _ i _ => N - (intOf i).toNat)
      case atStart => exact ⟨0, by omega, by go_num, HO2.out, HB2.out⟩
      case round =>
        obtain ⟨j, hj, rfl, H⟩ := hrel
        have HO := Lib.hid H.out.1
        have HBq := Lib.hid H.out.2
        have hsz := H.out.2.size
        clear H HO2 HB2
        by_cases hlt : (t : Int) + (j : Int) < L
        · have hjN : t + j < N := by have := HNL.out; omega
          go_wp2_with (at_builtin; refine wpList_append_own _ rfl _ _ 22 rfl w.heap.size 21 i0 _ 1 4 Tryz.underlying22 hi hz0 hz1 hz2 rfl (by decide) _ (t + n + j) _ rfl (HO.out.alloc _) ⟨wr.heap.size, 0, none⟩ 1 1 [.int .i32 32] rfl rfl (cell_new1 _ _ _) (by simp [Value.oneCell']) (by unfold maxLen; omega) (by omega) (by simp; omega) ?_; intro v3 w3 hown3 hgrow3 _)
          have he : (pdL t xs j).map (Value.int .i32) ++ [.int .i32 32] = (pdL t xs (j + 1)).map (Value.int .i32) := by
            rw [← pdL_next, List.map_append]
            rfl
          rw [he] at hown3
          have HB3 := Lib.hid ((HBq.out.alloc hsz (.cells #[.int .i32 32] 21)).grown hgrow3 (by simp; omega) (fun g e => (HO.out.lt g e).1))
          have HO3 := Lib.hid hown3
          clear hown3 hgrow3 HBq HO he
          go_wp2
          go_roundw
          case rel => exact ⟨j + 1, by omega, by go_num, HO3.out, HB3.out⟩
          case measure => simp [intOf]; omega
        · have hjN : t + j = N := by have := HNL.out; omega
          go_wp2
          go_ret
          refine ⟨_, rfl, ?_, HBq.out⟩
          have hP := HP.out
          have hl := pdL_len t xs j
          rw [hP, show N - t = j by omega, hl, HLN2]
          exact HO.out

end Go.Proofs.YtcbfmokafmagpaaGreat.Just

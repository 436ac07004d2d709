/-
  The walk of the statement BorderGoes.
-/
import Derived.Test.YtihanlahegngoaaBorder
namespace Go.Proofs.Ytihanlahegngoaa.Border
set_option linter.unusedSimpArgs false
set_option linter.unusedVariables false
open Go Go.RowKit Go.Shelf Mem Turn GraLaw Same Gra Search

theorem bs_get_le (xs : List Int) {i j a b : Nat} (h : i ≤ j) (ha : (bs xs)[i]? = some a) (hb : (bs xs)[j]? = some b) : a ≤ b := by
  rcases Nat.lt_or_ge i j with h' | h'
  · exact Nat.le_of_lt (bs_get_lt xs h' ha hb)
  · obtain rfl : i = j := by omega
    rw [ha] at hb; injection hb with hb; omega

theorem step_next (xs : List Int) {k x y : Nat} (hx : (bs xs)[k]? = some x) (hy : (bs xs)[k + 1]? = some y) : NextP xs x y := by
  refine .inl ⟨by have := bs_get_lt xs (Nat.lt_succ_self k) hx hy; omega, List.mem_of_getElem? hy, fun z hz h => ?_⟩
  obtain ⟨j, hj⟩ := List.mem_iff_getElem?.1 hz
  rcases Nat.lt_or_ge k j with h' | h'
  · exact bs_get_le xs h' hy hj
  · have := bs_get_le xs h' hj hx; omega

theorem step_prev (xs : List Int) {k x y : Nat} (hx : (bs xs)[k]? = some x) (hy : (bs xs)[k + 1]? = some y) : PrevP xs y x := by
  refine .inl ⟨by have := bs_get_lt xs (Nat.lt_succ_self k) hx hy; omega, List.mem_of_getElem? hx, fun z hz h => ?_⟩
  obtain ⟨j, hj⟩ := List.mem_iff_getElem?.1 hz
  rcases Nat.lt_or_ge k j with h' | h'
  · have := bs_get_le xs h' hy hj; omega
  · exact bs_get_le xs h' hj hx

theorem bs_end (xs : List Int) {k : Nat} (hk : k + 1 = (bs xs).length) : (bs xs)[k]? = some xs.length := by
  have e : k = (starts (Jn xs) xs.length).length := by
    unfold bs bnd at hk
    simp at hk
    omega
  unfold bs bnd
  rw [e]; simp

theorem bs_beg (xs : List Int) : (bs xs)[0]? = some 0 := by
  have hp := bs_pos xs
  have h : (bs xs)[0]? = some (bs xs)[0] := List.getElem?_eq_getElem hp
  obtain ⟨j, hj⟩ := List.mem_iff_getElem?.1 (bs_zero xs)
  have := bs_get_le xs (Nat.zero_le j) h hj
  rw [h]; congr 1; omega

theorem bs_more (xs : List Int) {k x : Nat} (hx : (bs xs)[k]? = some x) (hlt : x < xs.length) : ∃ y, (bs xs)[k + 1]? = some y := by
  have hk := (List.getElem?_eq_some_iff.1 hx).1
  refine ⟨_, List.getElem?_eq_getElem (Nat.lt_of_not_le fun h => ?_)⟩
  have := bs_end xs (k := k) (by omega)
  rw [hx] at this; injection this with this; omega

set_option maxRecDepth 100000 in
set_option maxHeartbeats 8000000 in
theorem goes_any (w : World) (a : Option Addr) (n c : Nat) (xs : List Int) (h : Runes w a n c xs) :
    Calls Try.prog 9 #[.slice a n c] w fun e w' => e = .returned (.bool true) ∧ Below w.heap.size w w' := by
  obtain ⟨i0, hi, hz0, hz1, hz2⟩ := info_parts info_int
  have hm : n ≤ 9223372036854775807 := Nat.le_trans h.le h.max
  have HL := Lib.hid h.ints.1
  have HH := Lib.hid h
  clear h
  by_cases h1 : 100 < n
  · have d1 : decide (100 < (n : Int)) = true := by simp; omega
    go_enter Try.func9, Try.ntmps9
    go_wp2_with fail
    refine (works_any _).mono ?_; rintro e w1 ⟨rfl, hb1⟩
    go_wp2_with fail
    refine (works_any _).mono ?_; rintro e w2 ⟨rfl, hb2⟩
    have hb2 := hb1.trans (hb2.mono hb1.size)
    go_wp2
    go_ret
    exact ⟨rfl, hb2⟩
  have d1 : decide (100 < (n : Int)) = false := by simp; omega
  have hn : n ≤ 100000 := by omega
  go_enter Try.func9, Try.ntmps9
  go_wp2_with fail
  refine (works_any _).mono ?_; rintro e w1 ⟨rfl, hb1⟩
  have B1 := Lib.hid hb1
  have hs1 := hb1.size
  clear hb1
  go_wp2
  go_loopw [3, 4, 5] (fun v x i wr => ∃ (k m : Nat) (l : List Value), k ≤ n ∧ m ≤ n ∧ i = .int .i64 k ∧ x = .int .i64 m ∧ Hid ((bs xs)[k]? = some m ∧ wr.ownsRow w1.heap.size 3 1 v k l ∧ Below w1.heap.size w1 wr)) (fun _ _ i _ => n + 1 - (intOf i).toNat)
  case atStart => exact ⟨0, 0, [], Nat.zero_le _, Nat.zero_le _, rfl, rfl, bs_beg xs, World.ownsRow_nil _ _ _ _, Below.refl _ _⟩
  case round =>
    obtain ⟨k, m, l, hk, hmn, rfl, rfl, H⟩ := hrel
    have hkn : (k : Int) ≤ n := by omega
    by_cases hlt : m < n
    · obtain ⟨y, hy⟩ := bs_more xs H.out.1 (by rw [HL.out]; exact hlt)
      have hyn : y ≤ n := by have := bs_le xs (List.mem_of_getElem? hy); rw [HL.out] at this; exact this
      have hmy := bs_get_lt xs (Nat.lt_succ_self k) H.out.1 hy
      have hkb : k + 1 ≤ n := by
        have := (List.getElem?_eq_some_iff.1 hy).1
        have h9 := bs_len xs
        rw [HL.out] at h9
        omega
      have HN := Lib.hid (step_next xs H.out.1 hy)
      have HP := Lib.hid (step_prev xs H.out.1 hy)
      have HI : Hid (isB xs (y : Int) = true) := Lib.hid (isB_iff.2 ⟨y, List.mem_of_getElem? hy, rfl⟩)
      have HY := Lib.hid hy
      have hs2 := H.out.2.2.size
      have hlt' : (m : Int) < n := by omega
      clear hy
      go_wp2_with (at_builtin; refine wpList_append_own _ rfl _ _ 37 rfl w1.heap.size 3 i0 _ 1 8 Try.underlying37 hi hz0 hz1 hz2 rfl (by decide) _ k _ rfl (H.out.2.1.alloc _) ⟨wr.heap.size, 0, none⟩ 1 1 [.int .i64 m] rfl rfl (cell_new1 _ _ _) (by simp [Value.oneCell']) (by unfold maxLen; omega) (by omega) (by simp; omega) ?_; intro v' w3 hown' hgrow _)
      have B3 := Lib.hid ((H.out.2.2.alloc hs2 _).grown hgrow (by simp; omega) (fun g e => (H.out.2.1.lt g e).1))
      have HO := Lib.hid hown'
      obtain ⟨A3, C3, rfl⟩ := own_slice hown'
      clear hown' hgrow
      refine (next_any a n c xs _ (HH.out.below (B1.out.trans (B3.out.mono hs1))) hn m (by omega) (by omega)).mono ?_; rintro e w4 ⟨y', rfl, hy', hb4⟩
      obtain rfl := hy'.uniq HN.out
      have B4 := Lib.hid (B3.out.trans (hb4.mono B3.out.size))
      have O4 := Lib.hid ((Turn.of_new hb4 : Turn (fun _ => False) _ _).kept HO.out (fun _ _ => id))
      have hmy' : (m : Int) < y' := by omega
      have hyn' : (y' : Int) ≤ n := by omega
      clear hb4 hy' HN HO B3
      go_wp2_with fail
      refine (prev_any a n c xs _ (HH.out.below (B1.out.trans (B4.out.mono hs1))) hn y' (by omega) (by omega)).mono ?_; rintro e w5 ⟨z, rfl, hz, hb5⟩
      obtain rfl := hz.uniq HP.out
      have B5 := Lib.hid (B4.out.trans (hb5.mono B4.out.size))
      have O5 := Lib.hid ((Turn.of_new hb5 : Turn (fun _ => False) _ _).kept O4.out (fun _ _ => id))
      clear hb5 hz HP O4 B4
      go_wp2_with fail
      refine (is_any a n c xs _ (HH.out.below (B1.out.trans (B5.out.mono hs1))) hn y' (by omega) (by omega)).mono ?_; rintro e w6 ⟨rfl, hb6⟩
      rw [HI.out]
      have B6 := Lib.hid (B5.out.trans (hb6.mono B5.out.size))
      have O6 := Lib.hid ((Turn.of_new hb6 : Turn (fun _ => False) _ _).kept O5.out (fun _ _ => id))
      clear hb6 O5 B5
      go_wp2
      go_roundw
      case rel => exact ⟨k + 1, y', _, hkb, hyn, by go_num, rfl, HY.out, O6.out, B6.out⟩
      case measure => simp [intOf]; omega
    · obtain rfl : m = n := by omega
      obtain ⟨A3, C3, rfl⟩ := own_slice H.out.2.1
      by_cases h0 : m = 0
      · subst h0
        go_wp2
        go_ret
        exact ⟨rfl, B1.out.trans (H.out.2.2.mono hs1)⟩
      · have d0 : ((m : Int) == 0) = false := by simp; omega
        have hk0 : 0 < k := by
          rcases Nat.eq_zero_or_pos k with h | h
          · subst h
            have := H.out.1
            rw [bs_beg] at this; injection this with this; omega
          · exact h
        go_wp2
        go_ret
        exact ⟨rfl, B1.out.trans (H.out.2.2.mono hs1)⟩

end Go.Proofs.Ytihanlahegngoaa.Border

/-
  slices.Clone of any runes, slices.Grow at nil, slices.Concat, justify.held, blanks, Cut, Pad, Fit.
-/
import Derived.Test.YtcbfmokafmagpaaGreatMeaAll
import Derived.Test.YtcbfmokafmagpaaGreatRep
import Derived.Test.YtcbfmokafmagpaaGreatLaysGrow
namespace Go.Proofs.YtcbfmokafmagpaaGreat.Just
set_option linter.unusedSimpArgs false
set_option linter.unusedVariables false
open Go Go.RowKit Go.Shelf Mem Turn Gra Same GraLaw Mea Rep

theorem src_ints {k : IntKind} {w : World} {a : Option Addr} {n : Nat} {xs : List Int} (h : Ints k w a n xs) : Turn.Src w a n 1 (xs.map (Value.int k)) := by
  obtain ⟨hl, h⟩ := h
  rcases a with _ | ad
  · have h0 : n = 0 := by
      rcases h with h | ⟨_, _, h, _⟩
      · exact h
      · cases h
    subst h0
    exact .inl ⟨rfl, rfl, by simp [List.length_eq_zero_iff.1 hl]⟩
  · refine .inr ⟨ad, rfl, by simp [hl], fun j u hj => ?_⟩
    rw [List.getElem?_map, Option.map_eq_some_iff] at hj
    obtain ⟨x, hx, rfl⟩ := hj
    have hj := (List.getElem?_eq_some_iff.1 hx).1
    rcases h with h | ⟨b, off, h, _, hc⟩
    · omega
    · injection h with h
      subst h
      rw [add_none]
      exact hc j x hx

set_option maxHeartbeats 1000000 in
set_option maxRecDepth 100000 in
theorem clone_full (a : Option Addr) (n c : Nat) (xs : List Int) (w : World) (h : Ints .i32 w a n xs) (hn : n ≤ 100000) :
    Calls Tryz.prog 32 #[.slice a n c] w fun e w' => Fresh w w' 21 1 n (xs.map (Value.int .i32)) e := by
  obtain ⟨i0, hi, hz0, hz1, hz2⟩ := info_parts info_i32
  have q22 : ∀ (w : World) (a : Option Addr) (n c n' c' : Nat), (binOp .eql 22 (.slice a n c) (.slice none n' c')).run Tryz.prog w = .ok (.bool a.isNone) w := fun w a n c n' c' => Lib.run_eql_slice_nil w _ _ a n c n' c' Tryz.underlying22
  have hs := src_ints h
  have hl := h.1
  rcases a with _ | ad
  · obtain ⟨_, h0, h1⟩ | ⟨_, h0, _⟩ := hs
    · subst h0
      rw [h1]
      clear h h1 hl
      go_enter Tryz.func32, Tryz.ntmps32
      go_wp2
      go_ret
      exact ⟨_, rfl, World.ownsRow_nil _ _ _ _, Below.refl _ _⟩
    · cases h0
  · have HS := Lib.hid (hs.keep ((Below.refl _ _).alloc (Nat.le_refl _) (.cells #[] 21)))
    have H3 : Hid ((w.alloc (.cells #[] 21)).ownsRow w.heap.size 21 1 (.slice (some ⟨w.heap.size, 0, none⟩) 0 0) 0 []) := World.ownsRow_made w #[] 0 (Nat.le_refl _) (by unfold maxLen; omega) rfl
    clear h hs hl
    go_enter Tryz.func32, Tryz.ntmps32
    go_wp2_with (at_builtin; (refine wpList_append_src _ rfl _ _ 22 rfl w.heap.size 21 i0 _ 1 4 Tryz.underlying22 hi hz0 hz1 hz2 rfl (by decide) _ 0 _ rfl H3.out (some ad) n c (xs.map (Value.int .i32)) rfl HS.out (one_cells _ _) (by unfold maxLen; omega) (by omega) (by simp) ?_; intro v' w3 hown' hgrow))
    go_ret
    refine ⟨v', rfl, ?_, ((Below.refl _ _).alloc (Nat.le_refl _) _).grown hgrow (by simp) (fun k e => by injection (show some w.heap.size = some k from e) with e; omega)⟩
    rw [Nat.zero_add, List.nil_append] at hown'
    exact hown'

theorem grow_nil (n : Nat) (w : World) (hn : n ≤ 1000000) :
    Calls Tryz.prog 47 #[.slice none 0 0, .int .i64 n] w fun e w' => Fresh w w' 21 1 0 [] e := by
  obtain ⟨i0, hi, hz0, hz1, hz2⟩ := info_parts info_i32
  rcases Nat.eq_zero_or_pos n with h0 | h0
  · refine (Any8.slices_Grow_room LaysGrow.laysGrow none 0 0 n w (Nat.le_refl _) (by omega) (by omega) (by omega)).mono ?_
    rintro e w' ⟨rfl, rfl⟩
    exact ⟨_, rfl, World.ownsRow_nil _ _ _ _, Below.refl _ _⟩
  · refine (Any8.slices_Grow_grow LaysGrow.laysGrow i0 (.int .i32 0) hi hz0 (by omega) none 0 0 n [] w (Nat.le_refl _) (by omega) (by rw [hz2]; omega) (by omega) (by simp) (fun _ => rfl) (fun _ h => by cases h)).mono ?_
    rintro e w' ⟨rfl, rfl⟩
    have hg := grownCap_ge w (0 + n) 0 (LaysGrow.laysGrow_ren.t 25)
    have hm := grownCap_le_maxLen w (0 + n) 0 (LaysGrow.laysGrow_ren.t 25) (by unfold maxLen; omega)
    refine ⟨_, rfl, World.ownsRow_made w.drew _ _ (Nat.le_refl _) hm ?_, (Below.refl _ _).drew.alloc (Nat.le_refl _) _⟩
    have : ∀ k, (Builtin.zeroCells (Value.int .i32 0).cells k).size = k := fun k => by rw [size_zeroCells]; simp [Value.cells]
    simp only [Array.size_append, this, List.size_toArray, List.length_nil]
    omega

/-- a width as it counts -/
def hold (x : Int) : Int := max 0 (min x 1024)
theorem hold_le (x : Int) : 0 ≤ hold x ∧ hold x ≤ 1024 := by unfold hold; omega
theorem hold_hold (x : Int) : hold (hold x) = hold x := by unfold hold; omega

theorem held_any (x : Int) (hx1 : -9223372036854775808 ≤ x) (hx2 : x ≤ 9223372036854775807) (w : World) :
    Calls Tryz.prog 26 #[.int .i64 x] w fun e w' => e = .returned (.int .i64 (hold x)) ∧ w = w' := by
  go_enter Tryz.func26, Tryz.ntmps26
  go_wp2
  go_ret
  exact ⟨rfl, rfl⟩

def T (xss : List (List Int)) (k : Nat) : List Int := (xss.take k).flatten
theorem T_next {xss : List (List Int)} {k : Nat} {xs : List Int} (h : xss[k]? = some xs) : T xss (k + 1) = T xss k ++ xs := by
  unfold T
  rw [List.take_add_one, h]
  simp
theorem T_le (xss : List (List Int)) (k : Nat) : (T xss k).length ≤ xss.flatten.length := by
  have : xss.flatten = T xss k ++ (xss.drop k).flatten := by
    unfold T
    rw [← List.flatten_append, List.take_append_drop]
  rw [this]
  simp

set_option maxRecDepth 100000 in
set_option maxHeartbeats 4000000 in
theorem concat_any (b c m : Nat) (xss : List (List Int)) (w : World) (hl : xss.length = m) (hm : m ≤ 100) (hmc : m ≤ c) (hc : c ≤ 9223372036854775807) (hb : b < w.heap.size)
    (hv : ∀ i xs, xss[i]? = some xs → ∃ a n k, w.cell? ⟨b, i, none⟩ = some (.slice a n k) ∧ Ints .i32 w a n xs) (ht : xss.flatten.length ≤ 100000) :
    Calls Tryz.prog 28 #[.slice (some ⟨b, 0, none⟩) m c] w fun e w' => Fresh w w' 21 1 xss.flatten.length (xss.flatten.map (Value.int .i32)) e := by
  obtain ⟨i0, hi, hz0, hz1, hz2⟩ := info_parts info_i32
  have HL := Lib.hid hl
  have HV := Lib.hid hv
  have HT := Lib.hid ht
  have HTL := Lib.hid (T_le xss)
  have HTA : Hid (T xss m = xss.flatten) := by unfold T; rw [List.take_of_length_le (by omega)]; exact Lib.hid rfl
  clear hl hv ht
  go_enter Tryz.func28, Tryz.ntmps28
  go_wp2
  go_loopw [3, 11] (fun s i wr => ∃ (k t : Nat), k ≤ m ∧ s = .int .i64 t ∧ i = .int .i64 k ∧ Hid (t = (T xss k).length) ∧ w = wr) (fun _ i _ => m - (intOf i).toNat)
  case atStart => exact ⟨0, 0, Nat.zero_le _, rfl, rfl, rfl, rfl⟩
  case round =>
    obtain ⟨k, t, hk, rfl, rfl, hT, rfl⟩ := hrel
    have hkm : (k : Int) ≤ (m : Int) := by omega
    have htl : t ≤ 100000 := by have := hT.out; have := HTL.out k; have := HT.out; omega
    by_cases hlt : k < m
    · have hlt' : (k : Int) < (m : Int) := by omega
      obtain ⟨xs, hxs⟩ : ∃ xs, xss[k]? = some xs := ⟨_, List.getElem?_eq_getElem (by rw [HL.out]; exact hlt)⟩
      obtain ⟨a, n, c', hcell, hints⟩ := HV.out k xs hxs
      have hn := hints.1
      have hnext := T_next hxs
      have hle := HTL.out (k + 1)
      rw [hnext, List.length_append, hn, ← hT.out] at hle
      have HN : Hid (t + n = (T xss (k + 1)).length) := by rw [hnext, List.length_append, hn, ← hT.out]; exact Lib.hid rfl
      have hnl : t + n ≤ 100000 := Nat.le_trans hle HT.out
      have u1 : IntKind.i64.wrap ((t : Int) + (n : Int)) = (t : Int) + (n : Int) := IntWalk.i64_in _ (by omega)
      have d1 : decide ((t : Int) + (n : Int) < 0) = false := decide_eq_false (by omega)
      clear hxs hints hn hnext hle hT
      go_wp2
      go_roundw
      case rel => exact ⟨k + 1, t + n, by omega, by go_num, by go_num, HN, trivial⟩
      case measure => simp [intOf]; omega
    · obtain rfl : k = m := by omega
      have HTM : Hid (t = xss.flatten.length) := by rw [hT.out, HTA.out]; exact Lib.hid rfl
      clear hT
      go_wp2_with fail
      refine (grow_nil t w (by omega)).mono ?_
      rintro e w1 ⟨v, rfl, hown, hB⟩
      have HB := Lib.hid hB
      have HO := Lib.hid hown
      clear hB hown
      go_wp2
      go_loopw [6, 27] (fun v i wq => ∃ (j : Nat), j ≤ k ∧ i = .int .i64 j ∧ Hid (wq.ownsRow w.heap.size 21 1 v (T xss j).length ((T xss j).map (Value.int .i32)) ∧ Below w.heap.size w wq)) (fun _ i _ => k - (intOf i).toNat)
      case atStart => exact ⟨0, Nat.zero_le _, rfl, HO.out, HB.out⟩
      case round =>
        obtain ⟨j, hj, rfl, H⟩ := hrel
        have hjk : (j : Int) ≤ (k : Int) := by omega
        by_cases hjl : j < k
        · have hjl' : (j : Int) < (k : Int) := by omega
          obtain ⟨xs, hxs⟩ : ∃ xs, xss[j]? = some xs := ⟨_, List.getElem?_eq_getElem (by rw [HL.out]; exact hjl)⟩
          obtain ⟨a, n, c', hcell, hints⟩ := HV.out j xs hxs
          have hcell := (H.out.2.cell (p := ⟨b, j, none⟩) hb).trans hcell
          have hn := hints.1
          have hnext := T_next hxs
          have hle := HTL.out (j + 1)
          rw [hnext, List.length_append, hn] at hle
          have hnl := Nat.le_trans hle HT.out
          have HS := Lib.hid (src_ints (hints.below H.out.2))
          have HB := Lib.hid H.out.2
          have HO := Lib.hid H.out.1
          have hsz := H.out.2.size
          have HNX := Lib.hid hnext
          have HN := Lib.hid hn
          have HJ := Lib.hid (rfl : (T xss j).length = (T xss j).length)
          generalize hj0 : (T xss j).length = tj at HJ HO hle hnl ⊢
          have HJ := Lib.hid hj0
          clear hxs hints hn hnext hle H
          go_wp2_with (at_builtin; (refine wpList_append_src _ rfl _ _ 22 rfl w.heap.size 21 i0 _ 1 4 Tryz.underlying22 hi hz0 hz1 hz2 rfl (by decide) _ tj _ rfl HO.out a n c' (xs.map (Value.int .i32)) rfl HS.out (one_cells _ _) (by unfold maxLen; omega) (by omega) (by omega) ?_; intro v' w3 hown' hgrow))
          have HO2 := Lib.hid hown'
          have HB2 := Lib.hid (HB.out.grown hgrow (by omega) (fun g e => (HO.out.lt g e).1))
          clear hown' hgrow
          go_roundw
          case rel =>
            refine ⟨j + 1, by omega, by go_num, ?_⟩
            rw [HNX.out]
            have hle : (T xss j ++ xs).length = tj + n := by rw [List.length_append, HJ.out, HN.out]
            rw [hle, List.map_append]
            exact ⟨HO2.out, HB2.out⟩
          case measure => simp [intOf]; omega
        · obtain rfl : j = k := by omega
          have HE := HTA.out
          have HB := Lib.hid H.out.2
          have HO := H.out.1
          rw [HE] at HO
          clear H
          go_wp2
          go_ret
          exact ⟨_, rfl, HO, HB.out⟩

end Go.Proofs.YtcbfmokafmagpaaGreat.Just

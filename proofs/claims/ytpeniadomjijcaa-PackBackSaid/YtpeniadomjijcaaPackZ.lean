/-
  linotypelaw07.PackBack.
-/
import Derived.Test.YtpeniadomjijcaaPackU
import Derived.Test.YtpeniadomjijcaaOpenSpans
namespace Go.Proofs.Ytpeniadomjijcaa.Pack
set_option linter.unusedSimpArgs false
set_option linter.unusedVariables false
open Go Go.RowKit Mem Turn Sp TabLaw

theorem lat_own {w : World} {base n c : Nat} {a : Option Addr} {l : List S3} (h : w.ownsRow base 29 3 (.slice a n c) n (cells l)) : LAt w a n c l := by
  have hl : l.length = n := by have := h.1; rw [cells_len] at this; omega
  rcases h.2 with ⟨e, h0⟩ | ⟨g, cap, cur, h1, h2, h3, h4, _⟩
  · injection e with _ _ e
    exact ⟨hl, by omega, .inl h0⟩
  · injection h1 with h1 _ h5
    subst h1 h5
    exact ⟨hl, h4, .inr ⟨g, 0, rfl, own_at h⟩⟩

set_option maxRecDepth 100000 in
set_option maxHeartbeats 4000000 in
theorem same_l (a b : Option Addr) (n c d : Nat) (l : List S3) (w : World) (ha : LAt w a n c l) (hb : LAt w b n d l) (hn : n ≤ 2000000) :
    Calls Try.prog 15 #[.slice a n c, .slice b n d] w fun e w' => e = .returned (.bool true) ∧ Below w.heap.size w w' := by
  have HA := Lib.hid ha
  have HB := Lib.hid hb
  have hnc := ha.2.1
  have hnd := hb.2.1
  have e0 : ((n : Int) != (n : Int)) = false := by simp
  clear ha hb
  go_enter Try.func15, Try.ntmps15
  go_wp2_with fail
  go_loopw [5] (fun i wr => ∃ k : Nat, k ≤ n ∧ i = .int .i64 k ∧ Hid (Below w.heap.size w wr)) (fun i _ => n - (intOf i).toNat)
  case atStart => exact ⟨0, Nat.zero_le _, rfl, Lib.hid (Below.refl _ _)⟩
  case round =>
    obtain ⟨k, hk, rfl, H⟩ := hrel
    by_cases hlt : k < n
    · obtain ⟨b1, o1, rfl, h1⟩ := HA.out.2.2.resolve_left (by omega)
      obtain ⟨b2, o2, rfl, h2⟩ := HB.out.2.2.resolve_left (by omega)
      obtain ⟨s, hs⟩ : ∃ s, l[k]? = some s := ⟨_, List.getElem?_eq_getElem (by rw [HA.out.1]; exact hlt)⟩
      obtain ⟨x0, x1, x2⟩ := (h1.below H.out).2 k s hs
      obtain ⟨y0, y1, y2⟩ := (h2.below H.out).2 k s hs
      obtain ⟨s0, s1, s2⟩ := s
      simp only at x0 x1 x2 y0 y1 y2
      have hlt' : (k : Int) < n := by omega
      have hk0 : (0 : Int) ≤ (k : Int) := by omega
      clear hs h1 h2
      go_wp2_with fail
      go_quiet (fail)
      go_wp2_with fail
      go_roundw
      case rel => exact ⟨k + 1, by omega, by go_num, Lib.hid (H.out.trans ((bdrew _ _).mono H.out.size))⟩
      case measure => simp [intOf]; omega
    · obtain rfl : k = n := by omega
      go_wp2_with fail
      go_ret
      exact ⟨rfl, H.out⟩

set_option maxRecDepth 100000 in
set_option maxHeartbeats 4000000 in
theorem fewest_l (a : Option Addr) (n c : Nat) (l : List S3) (w : World) (h : LAt w a n c l) (hr : Right l) (hn : n ≤ 100000) :
    Calls Try.prog 16 #[.slice a n c] w (OwnP w.heap.size w (fewest l)) := by
  rcases h.2.2 with rfl | ⟨b, off, rfl, hat⟩
  · obtain rfl := h.nil_of
    have HC := Lib.hid (right_yes a 0 c [] w h hr hn)
    clear h hr
    go_enter Try.func16, Try.ntmps16
    go_wp2_with fail
    refine HC.out.mono ?_
    rintro e w1 ⟨rfl, hb1⟩
    have HB1 := Lib.hid hb1
    clear hb1 HC
    go_wp2_with fail
    go_loopw [3, 11] (fun v i wr => i = .int .i64 0 ∧ v = .slice none 0 0 ∧ Hid (Below w.heap.size w wr)) (fun _ i _ => 0)
    case atStart => exact ⟨rfl, rfl, HB1⟩
    case round =>
      obtain ⟨rfl, rfl, H⟩ := hrel
      go_wp2
      go_ret
      exact ⟨_, rfl, World.ownsRow_nil _ _ _ _, H.out⟩
  · exact fewest_any b off n c l w h.1 hat hr hn

set_option maxRecDepth 100000 in
set_option maxHeartbeats 8000000 in
theorem back_any (w : World) (a : Option Addr) (n c : Nat) (l : List S3) (hs : IsSpans w a n c l) :
    Calls Try.prog 5 #[.slice a n c] w fun e w' => e = .returned (.bool true) ∧ Below w.heap.size w w' := by
  have HW : Hid (∀ X, Calls Try.prog 6 #[] X fun e w' => e = .returned (.bool true) ∧ Below X.heap.size X w') := Lib.hid fun X => works_ok X
  have HLA := Lib.hid hs.1
  have hc := hs.2.1
  have hnc := hs.1.2.1
  clear hs
  by_cases hn : 100 < n
  · have d1 : decide ((100 : Int) < (n : Int)) = true := decide_eq_true (by omega)
    have d2 : decide (100 < n) = true := decide_eq_true hn
    go_enter Try.func5, Try.ntmps5
    go_wp2_with fail
    refine (HW.out w).mono ?_
    rintro e w1 ⟨rfl, hb1⟩
    have HB1 := Lib.hid hb1
    clear hb1
    go_wp2_with fail
    refine (HW.out w1).mono ?_
    rintro e w2 ⟨rfl, hb2⟩
    have HB2 := Lib.hid (HB1.out.trans (hb2.mono HB1.out.size))
    clear hb2
    go_wp2_with fail
    go_ret
    exact ⟨rfl, HB2.out⟩
  have d1 : decide ((100 : Int) < (n : Int)) = false := decide_eq_false (by omega)
  have d2 : decide (100 < n) = false := decide_eq_false hn
  by_cases hr : Right l
  · have HR := Lib.hid hr
    clear hr
    go_enter Try.func5, Try.ntmps5
    go_wp2_with fail
    refine (HW.out w).mono ?_
    rintro e w1 ⟨rfl, hb1⟩
    have HB1 := Lib.hid hb1
    have HL1 := Lib.hid (HLA.out.below hb1)
    clear hb1
    go_wp2_with fail
    refine (rright_yes a n c l w1 HL1.out HR.out (by omega)).mono ?_
    rintro e w2 ⟨rfl, hb2⟩
    have HB2 := Lib.hid (HB1.out.trans (hb2.mono HB1.out.size))
    have HL2 := Lib.hid (HL1.out.below hb2)
    clear hb2
    go_wp2_with fail
    refine (build_of a n c l HR.out (by omega) w2 HL2.out).mono ?_
    rintro e w3 ⟨qt, rfl, _, ht3, hb3⟩
    have HB3 := Lib.hid (HB2.out.trans (hb3.mono HB2.out.size))
    have HT3 := Lib.hid ht3
    have HL3 := Lib.hid (HL2.out.below hb3)
    clear hb3 ht3
    go_wp2_with fail
    refine (spans_any _ l HR.out w3 HT3.out).mono ?_
    rintro e w4 ⟨v4, rfl, ho4, hb4⟩
    obtain ⟨a4, c4, rfl⟩ := own_sl ho4
    have HB4 := Lib.hid (HB3.out.trans (hb4.mono HB3.out.size))
    have HL4 := Lib.hid (HL3.out.below hb4)
    have HS4 := Lib.hid (lat_own ho4)
    clear ho4 hb4
    go_wp2_with fail
    refine (fewest_l a n c l w4 HL4.out HR.out (by omega)).mono ?_
    rintro e w5 ⟨v5, rfl, ho5, hb5⟩
    obtain ⟨a5, c5, rfl⟩ := own_sl ho5
    have HB5 := Lib.hid (HB4.out.trans (hb5.mono HB4.out.size))
    have HS5 := Lib.hid (HS4.out.below hb5)
    have HF5 := Lib.hid (lat_own ho5)
    have hfl : (fewest l).length ≤ 100 := by
      have := foldl_len l []
      have e := HLA.out.1
      simp only [List.length_nil, Nat.zero_add] at this
      show (l.foldl lay []).length ≤ 100
      omega
    clear ho5 hb5
    generalize (fewest l).length = fl at *
    go_wp2_with fail
    refine (same_l a4 a5 fl c4 c5 (fewest l) w5 HS5.out HF5.out (by omega)).mono ?_
    rintro e w6 ⟨rfl, hb6⟩
    have HB6 := Lib.hid (HB5.out.trans (hb6.mono HB5.out.size))
    clear hb6
    go_wp2_with fail
    go_ret
    exact ⟨rfl, HB6.out⟩
  · have HR := Lib.hid hr
    clear hr
    go_enter Try.func5, Try.ntmps5
    go_wp2_with fail
    refine (HW.out w).mono ?_
    rintro e w1 ⟨rfl, hb1⟩
    have HB1 := Lib.hid hb1
    have HL1 := Lib.hid (HLA.out.below hb1)
    clear hb1
    go_wp2_with fail
    refine (rright_no a n c l w1 HL1.out HR.out (by omega)).mono ?_
    rintro e w2 ⟨rfl, hb2⟩
    have HB2 := Lib.hid (HB1.out.trans (hb2.mono HB1.out.size))
    clear hb2
    go_wp2_with fail
    refine (HW.out w2).mono ?_
    rintro e w3 ⟨rfl, hb3⟩
    have HB3 := Lib.hid (HB2.out.trans (hb3.mono HB2.out.size))
    clear hb3
    go_wp2_with fail
    go_ret
    exact ⟨rfl, HB3.out⟩
end Go.Proofs.Ytpeniadomjijcaa.Pack

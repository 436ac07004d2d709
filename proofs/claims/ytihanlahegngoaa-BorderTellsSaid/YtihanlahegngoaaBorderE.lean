/-
  The walk of the statement BorderTells.
-/
import Derived.Test.YtihanlahegngoaaBorder
namespace Go.Proofs.Ytihanlahegngoaa.Border
set_option linter.unusedSimpArgs false
set_option linter.unusedVariables false
open Go Go.RowKit Go.Shelf Mem Turn GraLaw Same Gra Search

theorem isB_neg {xs : List Int} {x : Int} (h : isB xs x = true) : 0 ≤ x := by
  obtain ⟨k, _, e⟩ := isB_iff.1 h
  omega

set_option maxRecDepth 100000 in
set_option maxHeartbeats 8000000 in
theorem tells_any (w : World) (a : Option Addr) (n c : Nat) (xs : List Int) (h : Runes w a n c xs) (x : Int) (hx1 : -9223372036854775808 ≤ x) (hx2 : x ≤ 9223372036854775807) :
    Calls Try.prog 8 #[.slice a n c, .int .i64 x] w fun e w' => e = .returned (.bool true) ∧ Below w.heap.size w w' := by
  have hm : n ≤ 9223372036854775807 := Nat.le_trans h.le h.max
  have HL := Lib.hid h.ints.1
  have HH := Lib.hid h
  clear h
  by_cases h1 : 60 < n
  · have d1 : decide (60 < (n : Int)) = true := by simp; omega
    go_enter Try.func8, Try.ntmps8
    go_wp2_with fail
    refine (works_any _).mono ?_; rintro e w1 ⟨rfl, hb1⟩
    go_wp2_with fail
    refine (works_any _).mono ?_; rintro e w2 ⟨rfl, hb2⟩
    have hb2 := hb1.trans (hb2.mono hb1.size)
    go_wp2
    go_ret
    exact ⟨rfl, hb2⟩
  have d1 : decide (60 < (n : Int)) = false := by simp; omega
  have hn : n ≤ 100000 := by omega
  have HI : Hid (isB xs x = true → 0 ≤ x) := Lib.hid isB_neg
  have x1 : IntKind.i64.wrap ((n : Int) - 1) = (n : Int) - 1 := IntWalk.i64_in _ (by omega)
  go_enter Try.func8, Try.ntmps8
  go_wp2_with fail
  refine (works_any _).mono ?_; rintro e w1 ⟨rfl, hb1⟩
  have B1 := Lib.hid hb1
  clear hb1
  go_wp2_with fail
  refine (around_any a n c xs _ (HH.out.below B1.out) hn x hx1 hx2).mono ?_; rintro e w2 ⟨r, s, rfl, hr, hb2⟩
  have B2 := Lib.hid (B1.out.trans (hb2.mono B1.out.size))
  have HA := Lib.hid hr
  clear hb2 hr B1
  have hrest : Hid (∀ (y : Int) (r' s' : Nat), y = max 0 (min x ((n : Int) - 1)) → 0 < n → SnapP xs y r' → NextP xs y s' → r = r' ∧ s = s') := Lib.hid fun y r' s' hy h0 h3 h4 => by
    rcases HA.out with ⟨h, _⟩ | ⟨_, h5, h6⟩
    · have h9 := HL.out; omega
    · rw [HL.out, ← hy] at h5 h6
      exact ⟨h5.uniq h3, h6.uniq h4⟩
  by_cases h0 : n = 0
  · obtain ⟨rfl, rfl⟩ : r = 0 ∧ s = 0 := by
      rcases HA.out with ⟨_, h5, h6⟩ | ⟨h, _⟩
      · exact ⟨h5, h6⟩
      · have h9 := HL.out; omega
    subst h0
    clear HA hrest
    go_wp2_with fail
    all_goals (refine (is_any a 0 c xs _ (HH.out.below B2.out) hn x hx1 hx2).mono ?_)
    all_goals (rintro e w3 ⟨rfl, hb3⟩)
    all_goals (have B3 := Lib.hid (B2.out.trans (hb3.mono B2.out.size)))
    all_goals (clear hb3 B2)
    all_goals (go_wp2_with fail)
    all_goals (refine (is_ref a 0 c xs _ (HH.out.below B3.out) hn x).mono ?_)
    all_goals (rintro e w4 ⟨rfl, hb4⟩)
    all_goals (rcases hi : isB xs x with _ | _)
    all_goals (try have hx0 := HI.out hi)
    all_goals (clear hi)
    all_goals (have B4 := Lib.hid (B3.out.trans (hb4.mono B3.out.size)))
    all_goals (clear hb4 B3)
    all_goals (go_wp2_with fail)
    all_goals (refine (next_any a 0 c xs _ (HH.out.below B4.out) hn x hx1 hx2).mono ?_)
    all_goals (rintro e w5 ⟨u, rfl, hu, hb5⟩)
    all_goals (have B5 := Lib.hid (B4.out.trans (hb5.mono B4.out.size)))
    all_goals (clear hb5 B4)
    all_goals (go_wp2_with fail)
    all_goals (refine (next_ref a 0 c xs _ (HH.out.below B5.out) hn x).mono ?_)
    all_goals (rintro e w6 ⟨u', rfl, hu', hb6⟩)
    all_goals (obtain rfl := hu.uniq hu')
    all_goals (clear hu hu')
    all_goals (have B6 := Lib.hid (B5.out.trans (hb6.mono B5.out.size)))
    all_goals (clear hb6 B5)
    all_goals (go_wp2_with fail)
    all_goals (refine (prev_any a 0 c xs _ (HH.out.below B6.out) hn x hx1 hx2).mono ?_)
    all_goals (rintro e w7 ⟨v, rfl, hv, hb7⟩)
    all_goals (have B7 := Lib.hid (B6.out.trans (hb7.mono B6.out.size)))
    all_goals (clear hb7 B6)
    all_goals (go_wp2_with fail)
    all_goals (refine (prev_ref a 0 c xs _ (HH.out.below B7.out) hn x).mono ?_)
    all_goals (rintro e w8 ⟨v', rfl, hv', hb8⟩)
    all_goals (obtain rfl := hv.uniq hv')
    all_goals (clear hv hv')
    all_goals (have B8 := Lib.hid (B7.out.trans (hb8.mono B7.out.size)))
    all_goals (clear hb8 B7)
    all_goals (go_wp2_with fail)
    all_goals (refine (snap_any a 0 c xs _ (HH.out.below B8.out) hn x hx1 hx2).mono ?_)
    all_goals (rintro e w9 ⟨z, rfl, hz, hb9⟩)
    all_goals (have B9 := Lib.hid (B8.out.trans (hb9.mono B8.out.size)))
    all_goals (clear hb9 B8)
    all_goals (go_wp2_with fail)
    all_goals (refine (snap_ref a 0 c xs _ (HH.out.below B9.out) hn x).mono ?_)
    all_goals (rintro e w10 ⟨z', rfl, hz', hb10⟩)
    all_goals (obtain rfl := hz.uniq hz')
    all_goals (clear hz hz')
    all_goals (have B10 := Lib.hid (B9.out.trans (hb10.mono B9.out.size)))
    all_goals (clear hb10 B9)
    all_goals (go_wp2)
    all_goals (go_ret)
    all_goals (exact ⟨rfl, B10.out⟩)
  · have h0' : 0 < n := by omega
    clear h0
    clear HA
    go_wp2_with fail
    all_goals (refine (snap_ref a n c xs _ (HH.out.below B2.out) hn _).mono ?_)
    all_goals (rintro e w3 ⟨r3, rfl, hr3, hb3⟩)
    all_goals (have B3 := Lib.hid (B2.out.trans (hb3.mono B2.out.size)))
    all_goals (have HR3 := Lib.hid hr3)
    all_goals (clear hb3 hr3)
    all_goals (go_wp2_with fail)
    all_goals (refine (next_ref a n c xs _ (HH.out.below B3.out) hn _).mono ?_)
    all_goals (rintro e w4 ⟨s4, rfl, hs4, hb4⟩)
    all_goals (obtain ⟨rfl, rfl⟩ := hrest.out _ r3 s4 (by omega) h0' HR3.out hs4)
    all_goals (have B4 := Lib.hid (B3.out.trans (hb4.mono B3.out.size)))
    all_goals (clear hb4 hs4 HR3 hrest B3 B2)
    all_goals (go_wp2_with fail)
    all_goals (refine (is_any a n c xs _ (HH.out.below B4.out) hn x hx1 hx2).mono ?_)
    all_goals (rintro e w5 ⟨rfl, hb5⟩)
    all_goals (have B5 := Lib.hid (B4.out.trans (hb5.mono B4.out.size)))
    all_goals (clear hb5 B4)
    all_goals (go_wp2_with fail)
    all_goals (refine (is_ref a n c xs _ (HH.out.below B5.out) hn x).mono ?_)
    all_goals (rintro e w6 ⟨rfl, hb6⟩)
    all_goals (rcases hi : isB xs x with _ | _)
    all_goals (try have hx0 := HI.out hi)
    all_goals (clear hi)
    all_goals (have B6 := Lib.hid (B5.out.trans (hb6.mono B5.out.size)))
    all_goals (clear hb6 B5)
    all_goals (go_wp2_with fail)
    all_goals (refine (next_any a n c xs _ (HH.out.below B6.out) hn x hx1 hx2).mono ?_)
    all_goals (rintro e w7 ⟨u, rfl, hu, hb7⟩)
    all_goals (have B7 := Lib.hid (B6.out.trans (hb7.mono B6.out.size)))
    all_goals (clear hb7 B6)
    all_goals (go_wp2_with fail)
    all_goals (refine (next_ref a n c xs _ (HH.out.below B7.out) hn x).mono ?_)
    all_goals (rintro e w8 ⟨u', rfl, hu', hb8⟩)
    all_goals (obtain rfl := hu.uniq hu')
    all_goals (clear hu hu')
    all_goals (have B8 := Lib.hid (B7.out.trans (hb8.mono B7.out.size)))
    all_goals (clear hb8 B7)
    all_goals (go_wp2_with fail)
    all_goals (refine (prev_any a n c xs _ (HH.out.below B8.out) hn x hx1 hx2).mono ?_)
    all_goals (rintro e w9 ⟨v, rfl, hv, hb9⟩)
    all_goals (have B9 := Lib.hid (B8.out.trans (hb9.mono B8.out.size)))
    all_goals (clear hb9 B8)
    all_goals (go_wp2_with fail)
    all_goals (refine (prev_ref a n c xs _ (HH.out.below B9.out) hn x).mono ?_)
    all_goals (rintro e w10 ⟨v', rfl, hv', hb10⟩)
    all_goals (obtain rfl := hv.uniq hv')
    all_goals (clear hv hv')
    all_goals (have B10 := Lib.hid (B9.out.trans (hb10.mono B9.out.size)))
    all_goals (clear hb10 B9)
    all_goals (go_wp2_with fail)
    all_goals (refine (snap_any a n c xs _ (HH.out.below B10.out) hn x hx1 hx2).mono ?_)
    all_goals (rintro e w11 ⟨z, rfl, hz, hb11⟩)
    all_goals (have B11 := Lib.hid (B10.out.trans (hb11.mono B10.out.size)))
    all_goals (clear hb11 B10)
    all_goals (go_wp2_with fail)
    all_goals (refine (snap_ref a n c xs _ (HH.out.below B11.out) hn x).mono ?_)
    all_goals (rintro e w12 ⟨z', rfl, hz', hb12⟩)
    all_goals (obtain rfl := hz.uniq hz')
    all_goals (clear hz hz')
    all_goals (have B12 := Lib.hid (B11.out.trans (hb12.mono B11.out.size)))
    all_goals (clear hb12 B11)
    all_goals (go_wp2)
    all_goals (go_ret)
    all_goals (exact ⟨rfl, B12.out⟩)

end Go.Proofs.Ytihanlahegngoaa.Border

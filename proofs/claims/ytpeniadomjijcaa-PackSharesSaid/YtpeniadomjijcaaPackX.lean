/-
  linotypelaw07.PackGets.
-/
import Derived.Test.YtpeniadomjijcaaPackW
import Derived.Test.YtpeniadomjijcaaOpenSpans
namespace Go.Proofs.Ytpeniadomjijcaa.Pack
set_option linter.unusedSimpArgs false
set_option linter.unusedVariables false
open Go Go.RowKit Mem Turn Sp TabLaw Same

set_option maxRecDepth 100000 in
set_option maxHeartbeats 4000000 in
theorem find_same (a : Option Addr) (n c : Nat) (l : List S3) (r : Int) (w : World) (h : LAt w a n c l) (hn : n ≤ 100000) :
    Calls Try.prog 14 #[.slice a n c, .int .i64 r] w fun e w' => e = .returned (.int .i64 (val3 l r)) ∧ w' = w := by
  rcases h.2.2 with rfl | ⟨b, off, rfl, hat⟩
  · obtain rfl := h.nil_of
    have HV : Hid (val3 [] r = 0) := Lib.hid rfl
    clear h
    go_enter Try.func14, Try.ntmps14
    go_wp2
    go_loop [5] (fun i => i = .int .i64 0) (fun i => 0)
    case atStart => exact rfl
    case round =>
      subst hrel
      go_wp2
      go_ret
      exact ⟨ret_i HV.out.symm, rfl⟩
  · have HL := Lib.hid h.1
    have HA := Lib.hid hat
    have hnc := h.2.1
    clear h hat
    go_enter Try.func14, Try.ntmps14
    go_wp2
    go_loop [5] (fun i => ∃ k : Nat, k ≤ n ∧ i = .int .i64 k ∧ Hid (∀ t ∈ l.take k, has r t = false)) (fun i => n - (intOf i).toNat)
    case atStart => exact ⟨0, Nat.zero_le _, rfl, Lib.hid (by simp)⟩
    case round =>
      obtain ⟨k, hk, rfl, HNO⟩ := hrel
      by_cases hlt : k < n
      · skip
        obtain ⟨s, hs⟩ : ∃ s, l[k]? = some s := ⟨_, List.getElem?_eq_getElem (by rw [HL.out]; exact hlt)⟩
        obtain ⟨c0, c1, c2⟩ := HA.out.2 k s hs
        have hlt' : (k : Int) < n := by omega
        have HS := Lib.hid hs
        clear hs
        by_cases g1 : s.1 ≤ r
        · by_cases g2 : r ≤ s.2.1
          · have HV := Lib.hid (val3_at HS.out HNO.out (by simp [has, g1, g2]))
            obtain ⟨s0, s1, s2⟩ := s
            simp only at c0 c1 c2 g1 g2
            have d1 : decide (s0 ≤ r) = true := by simpa using g1
            have d2 : decide (r ≤ s1) = true := by simpa using g2
            go_wp2
            go_ret
            exact ⟨ret_i HV.out.symm, rfl⟩
          · have HN := Lib.hid (show has r s = false from by simp [has]; omega)
            obtain ⟨s0, s1, s2⟩ := s
            simp only at c0 c1 c2 g1 g2
            have d1 : decide (s0 ≤ r) = true := by simpa using g1
            have d2 : decide (r ≤ s1) = false := by simpa using g2
            go_wp2
            go_round
            case rel => exact ⟨k + 1, by omega, by go_num, no_next HS.out HNO.out HN.out⟩
            case measure => simp [intOf]; omega
        · have HN := Lib.hid (show has r s = false from by simp [has]; omega)
          obtain ⟨s0, s1, s2⟩ := s
          simp only at c0 c1 c2 g1
          have d1 : decide (s0 ≤ r) = false := by simpa using g1
          go_wp2
          go_round
          case rel => exact ⟨k + 1, by omega, by go_num, no_next HS.out HNO.out HN.out⟩
          case measure => simp [intOf]; omega
      · obtain rfl : k = n := by omega
        have e1 : l.take k = l := List.take_of_length_le (by rw [HL.out]; exact Nat.le_refl _)
        have HV := Lib.hid (show val3 l r = 0 from by rw [e1] at HNO; exact val3_none HNO.out)
        go_wp2
        go_ret
        exact ⟨ret_i HV.out.symm, rfl⟩

theorem val3_lo {l : List S3} (hr : Right l) {k : Nat} {s : S3} (hs : l[k]? = some s) : val3 l s.1 = s.2.2 ∧ val3 l s.2.1 = s.2.2 := by
  obtain ⟨h1, h2, h3, h4⟩ := right_le hr hs
  have key : ∀ r, s.1 ≤ r → r ≤ s.2.1 → val3 l r = s.2.2 := fun r e1 e2 => by
    refine val3_at hs (fun t ht => ?_) (has_iff.2 ⟨e1, e2⟩)
    obtain ⟨i, hi, hie⟩ := List.mem_take_iff_getElem.1 ht
    have := right_lt hr (List.getElem?_eq_some_iff.2 ⟨by omega, hie⟩) (show i < k by omega) hs
    exact has_no fun h => by omega
  exact ⟨key _ (Int.le_refl _) h2, key _ h2 (Int.le_refl _)⟩

theorem ints_below {w w' : World} {a : Option Addr} {n : Nat} {xs : List Int} (h : Ints .i64 w a n xs) (hb : Below w.heap.size w w') : Ints .i64 w' a n xs :=
  ⟨h.1, h.2.imp id fun ⟨b, off, e, h1, h2⟩ => ⟨b, off, e, Nat.lt_of_lt_of_le h1 hb.size, fun i x hx => (hb.cell (p := ⟨b, off + i, none⟩) h1).trans (h2 i x hx)⟩⟩

set_option maxRecDepth 100000 in
set_option maxHeartbeats 16000000 in
theorem gets_any (w : World) (a : Option Addr) (n c : Nat) (l : List S3) (hs : IsSpans w a n c l) (b : Option Addr) (m d : Nat) (xs : List Int) (hi : IsInts w b m d xs) :
    Calls Try.prog 4 #[.slice a n c, .slice b m d] w fun e w' => e = .returned (.bool true) ∧ Below w.heap.size w w' := by
  have HW : Hid (∀ X, Calls Try.prog 6 #[] X fun e w' => e = .returned (.bool true) ∧ Below X.heap.size X w') := Lib.hid fun X => works_ok X
  have HLA := Lib.hid hs.1
  have HIN := Lib.hid hi.1
  have hc := hs.2.1
  clear hs
  have hmd := hi.2.1
  have hd := hi.2.2
  clear hi
  have hnc := HLA.out.2.1
  by_cases hn : 200 < n
  · have d1 : decide ((200 : Int) < (n : Int)) = true := decide_eq_true (by omega)
    have d2 : decide (200 < n) = true := decide_eq_true hn
    go_enter Try.func4, Try.ntmps4
    go_wp2_with fail
    refine (HW.out w).mono ?_
    rintro e w1 ⟨rfl, hb1⟩
    have HB1 := Lib.hid hb1
    clear hb1
    go_wp2_with fail
    refine (HW.out w1).mono ?_
    rintro e w2 ⟨rfl, hb2⟩
    have HB2 := Lib.hid (HB1.out.trans (hb2.mono HB1.out.size))
    clear hb2
    go_wp2_with fail
    go_ret
    exact ⟨rfl, HB2.out⟩
  have d1 : decide ((200 : Int) < (n : Int)) = false := decide_eq_false (by omega)
  have d2 : decide (200 < n) = false := decide_eq_false hn
  by_cases hm : 200 < m
  · have d3 : decide ((200 : Int) < (m : Int)) = true := decide_eq_true (by omega)
    have d4 : decide (200 < m) = true := decide_eq_true hm
    go_enter Try.func4, Try.ntmps4
    go_wp2_with fail
    refine (HW.out w).mono ?_
    rintro e w1 ⟨rfl, hb1⟩
    have HB1 := Lib.hid hb1
    clear hb1
    go_wp2_with fail
    refine (HW.out w1).mono ?_
    rintro e w2 ⟨rfl, hb2⟩
    have HB2 := Lib.hid (HB1.out.trans (hb2.mono HB1.out.size))
    clear hb2
    go_wp2_with fail
    go_ret
    exact ⟨rfl, HB2.out⟩
  have d3 : decide ((200 : Int) < (m : Int)) = false := decide_eq_false (by omega)
  have d4 : decide (200 < m) = false := decide_eq_false hm
  by_cases hr : Right l
  · have HR := Lib.hid hr
    clear hr
    go_enter Try.func4, Try.ntmps4
    go_wp2_with fail
    refine (HW.out w).mono ?_
    rintro e w1 ⟨rfl, hb1⟩
    have HB1 := Lib.hid hb1
    clear hb1
    have HL1 := Lib.hid (HLA.out.below HB1.out)
    go_wp2_with fail
    refine (build_of a n c l HR.out (by omega) w1 HL1.out).mono ?_
    rintro e w2 ⟨qt, rfl, _, ht2, hb2⟩
    have HB2 := Lib.hid (HB1.out.trans (hb2.mono HB1.out.size))
    have HT2 := Lib.hid ht2
    have HL2 := Lib.hid (HL1.out.below hb2)
    clear hb2 ht2
    go_wp2_with fail
    refine (rright_yes a n c l w2 HL2.out HR.out (by omega)).mono ?_
    rintro e w3 ⟨rfl, hb3⟩
    have HB3 := Lib.hid (HB2.out.trans (hb3.mono HB2.out.size))
    have HT3 := Lib.hid (HT2.out.below hb3)
    clear hb3
    obtain ⟨f, hf⟩ : ∃ f, f = val3 l := ⟨_, rfl⟩
    have GET : Hid (∀ X, TabOf X (.pointer (some ⟨qt, 0, none⟩)) l → ∀ k r, Calls Try.prog 12 #[.pointer (some ⟨qt, 0, none⟩), .int .i64 r] (X.drewN k) fun e w' => e = .returned (.int .i64 (f r)) ∧ ∃ d, w' = (X.drewN k).drewN d) := Lib.hid fun X h k r => by
      rw [hf]; exact get_any _ l HR.out r _ (h.drewN k)
    have FIND : Hid (∀ X, LAt X a n c l → ∀ k r, Calls Try.prog 14 #[.slice a n c, .int .i64 r] (X.drewN k) fun e w' => e = .returned (.int .i64 (f r)) ∧ w' = X.drewN k) := Lib.hid fun X h k r => by
      rw [hf]; exact find_same a n c l r _ (h.drewN k) (by omega)
    have HF := Lib.hid (fun (k : Nat) (s : S3) (hs : l[k]? = some s) => show f s.1 = s.2.2 ∧ f s.2.1 = s.2.2 by rw [hf]; exact val3_lo HR.out hs)
    have HIN3 := Lib.hid (ints_below HIN.out HB3.out)
    have HL3 := Lib.hid (HLA.out.below HB3.out)
    clear hf
    go_wp2_with fail
    go_loopw [6] (fun i wr => ∃ k : Nat, k ≤ m ∧ i = .int .i64 k ∧ Hid (Below w3.heap.size w3 wr)) (fun i _ => m - (intOf i).toNat)
    case atStart => exact ⟨0, Nat.zero_le _, rfl, Lib.hid (Below.refl _ _)⟩
    case round =>
      obtain ⟨k, hk, rfl, HBk⟩ := hrel
      by_cases hkm : k < m
      · obtain ⟨x, hx⟩ : ∃ x, xs[k]? = some x := ⟨_, List.getElem?_eq_getElem (by rw [HIN.out.1]; exact hkm)⟩
        obtain ⟨b', off, rfl, hbl, hcell⟩ := HIN3.out.2.resolve_left (by omega)
        have hc0 := (HBk.out.cell (p := ⟨b', off + k, none⟩) hbl).trans (hcell k x hx)
        have G := Lib.hid (GET.out wr (HT3.out.below HBk.out))
        have FD := Lib.hid (FIND.out wr (HL3.out.below HBk.out))
        have hkm' : (k : Int) < m := by omega
        have hk0 : (0 : Int) ≤ (k : Int) := by omega
        have hfx : (f x != f x) = false := by simp
        clear hbl hcell hx
        go_wp2_with fail
        go_quiet ((first | (go_at_call 12; exact Calls.quiet_of (G.out _ _)) | (go_at_call 14; exact Calls.quiet_of_same (FD.out _ _))))
        go_wp2_with fail
        go_roundw
        case rel => exact ⟨k + 1, by omega, by go_num, Lib.hid (HBk.out.trans ((bdrew _ _).mono HBk.out.size))⟩
        case measure => simp [intOf]; omega
      · obtain rfl : k = m := by omega
        obtain ⟨w4, rfl⟩ : ∃ w4 : World, w4 = wr := ⟨_, rfl⟩
        have HB4 := Lib.hid (HB3.out.trans (HBk.out.mono HB3.out.size))
        have HT4 := Lib.hid (HT3.out.below HBk.out)
        have HL4 := Lib.hid (HL3.out.below HBk.out)
        clear HBk
        go_wp2_with fail
        go_loopw [7] (fun i wr => ∃ j : Nat, j ≤ n ∧ i = .int .i64 j ∧ Hid (Below w4.heap.size w4 wr)) (fun i _ => n - (intOf i).toNat)
        case atStart => exact ⟨0, Nat.zero_le _, rfl, Lib.hid (Below.refl _ _)⟩
        case round =>
          obtain ⟨j, hj, rfl, HBj⟩ := hrel
          by_cases hjn : j < n
          · obtain ⟨s, hs⟩ : ∃ s, l[j]? = some s := ⟨_, List.getElem?_eq_getElem (by rw [HLA.out.1]; exact hjn)⟩
            obtain ⟨ab, off, rfl, hat⟩ := HL4.out.2.2.resolve_left (by omega)
            obtain ⟨x0, x1, x2⟩ := (hat.below (HBj.out)).2 j s hs
            have hf1 := HF.out j s hs
            obtain ⟨r1, r2, r3, _⟩ := right_le HR.out hs
            have G := Lib.hid (GET.out wr (HT4.out.below HBj.out))
            have FD := Lib.hid (FIND.out wr (HL4.out.below HBj.out))
            obtain ⟨s0, s1, s2⟩ := s
            simp only at x0 x1 x2 hf1 r1 r2 r3
            have f0 : (f s0 != s2) = false := by simp [hf1.1]
            have f1 : (f s1 != s2) = false := by simp [hf1.2]
            have f2 : (f (s1 + 1) != f (s1 + 1)) = false := by simp
            have f3 : (f (s0 - 1) != f (s0 - 1)) = false := by simp
            have u1 : IntKind.i64.wrap (s1 + 1) = s1 + 1 := IntWalk.i64_in _ (by omega)
            have u2 : IntKind.i64.wrap (s0 - 1) = s0 - 1 := IntWalk.i64_in _ (by omega)
            have hjn' : (j : Int) < n := by omega
            have hj0 : (0 : Int) ≤ (j : Int) := by omega
            clear hs hat hf1
            go_wp2_with fail
            go_quiet ((first | (go_at_call 12; exact Calls.quiet_of (G.out _ _)) | (go_at_call 14; exact Calls.quiet_of_same (FD.out _ _))))
            go_wp2_with fail
            go_roundw
            case rel => exact ⟨j + 1, by omega, by go_num, Lib.hid (HBj.out.trans ((bdrew _ _).mono HBj.out.size))⟩
            case measure => simp [intOf]; omega
          · obtain rfl : j = n := by omega
            go_wp2_with fail
            go_ret
            exact ⟨rfl, HB4.out.trans (HBj.out.mono HB4.out.size)⟩
  · have HR := Lib.hid hr
    clear hr
    go_enter Try.func4, Try.ntmps4
    go_wp2_with fail
    refine (HW.out w).mono ?_
    rintro e w1 ⟨rfl, hb1⟩
    have HB1 := Lib.hid hb1
    clear hb1
    have HL1 := Lib.hid (HLA.out.below HB1.out)
    go_wp2_with fail
    refine (build_not a n c l HR.out (by omega) w1 HL1.out).mono ?_
    rintro e w2 ⟨rfl, hb2⟩
    have HB2 := Lib.hid (HB1.out.trans (hb2.mono HB1.out.size))
    have HL2 := Lib.hid (HL1.out.below hb2)
    clear hb2
    go_wp2_with fail
    refine (rright_no a n c l w2 HL2.out HR.out (by omega)).mono ?_
    rintro e w3 ⟨rfl, hb3⟩
    have HB3 := Lib.hid (HB2.out.trans (hb3.mono HB2.out.size))
    clear hb3
    go_wp2_with fail
    refine (get_nil 5 w3).mono ?_
    rintro e w4 ⟨rfl, rfl⟩
    go_wp2_with fail
    refine (blocks_nil w3).mono ?_
    rintro e w4 ⟨rfl, rfl⟩
    go_wp2_with fail
    refine (block_nil 0 w3).mono ?_
    rintro e w4 ⟨rfl, rfl⟩
    go_wp2_with fail
    refine (spans_nil w3).mono ?_
    rintro e w4 ⟨rfl, rfl⟩
    go_wp2_with fail
    go_ret
    exact ⟨rfl, HB3.out⟩
end Go.Proofs.Ytpeniadomjijcaa.Pack

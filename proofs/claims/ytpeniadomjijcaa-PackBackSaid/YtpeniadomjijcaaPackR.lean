/-
  spans.Right and the reference's Right and Find, at any list: nil, empty, right or not.
-/
import Derived.Test.YtpeniadomjijcaaPackB
namespace Go.Proofs.Ytpeniadomjijcaa.Pack
set_option linter.unusedSimpArgs false
set_option linter.unusedVariables false
open Go Go.RowKit Mem Turn Sp TabLaw

theorem LAt.below {w w' : World} {a : Option Addr} {n c : Nat} {l : List S3} (h : LAt w a n c l) (hb : Below w.heap.size w w') : LAt w' a n c l :=
  ⟨h.1, h.2.1, h.2.2.imp id fun ⟨b, off, e, h⟩ => ⟨b, off, e, h.below hb⟩⟩
theorem LAt.nil_of {w : World} {a : Option Addr} {c : Nat} {l : List S3} (h : LAt w a 0 c l) : l = [] := List.eq_nil_of_length_eq_zero h.1
theorem right_nil : Right [] := fun k s h => by simp at h

set_option maxRecDepth 100000 in
set_option maxHeartbeats 4000000 in
theorem right_yes (a : Option Addr) (n c : Nat) (l : List S3) (w : World) (h : LAt w a n c l) (hr : Right l) (hn : n ≤ 100000) :
    Calls Try.prog 17 #[.slice a n c] w fun e w' => e = .returned (.bool true) ∧ Below w.heap.size w w' := by
  rcases h.2.2 with rfl | ⟨b, off, rfl, hat⟩
  · clear h
    go_enter Try.func17, Try.ntmps17
    go_wp2
    go_loopw [3, 8] (fun v i wr => ∃ v0 : Int, i = .int .i64 0 ∧ v = .int .i64 v0 ∧ Hid (Below w.heap.size w wr)) (fun _ i _ => 0)
    case atStart => exact ⟨-1, rfl, rfl, Lib.hid (Below.refl _ _)⟩
    case round =>
      obtain ⟨v0, rfl, rfl, H⟩ := hrel
      go_wp2
      go_ret
      exact ⟨rfl, H.out⟩
  · exact right_ok b off n c l w h.1 hat hr hn

set_option maxRecDepth 100000 in
set_option maxHeartbeats 8000000 in
theorem right_no (a : Option Addr) (n c : Nat) (l : List S3) (w : World) (h : LAt w a n c l) (hr : ¬ Right l) (hn : n ≤ 100000) :
    Calls Try.prog 17 #[.slice a n c] w fun e w' => e = .returned (.bool false) ∧ Below w.heap.size w w' := by
  have hn0 : n ≠ 0 := fun e => hr (by subst e; rw [h.nil_of]; exact right_nil)
  obtain ⟨b, off, rfl, hat⟩ := h.2.2.resolve_left hn0
  have HL := Lib.hid h.1
  have HA := Lib.hid hat
  have HR := Lib.hid hr
  clear h hr hat hn0
  go_enter Try.func17, Try.ntmps17
  go_wp2
  go_loopw [3, 8] (fun v i wr => ∃ k : Nat, k ≤ n ∧ i = .int .i64 k ∧ v = .int .i64 (prev l k) ∧ Hid (Below w.heap.size w wr ∧ RightTo l k)) (fun _ i _ => n - (intOf i).toNat)
  case atStart => exact ⟨0, Nat.zero_le _, rfl, rfl, Below.refl _ _, RightTo.zero l⟩
  case round =>
    obtain ⟨k, hk, rfl, rfl, HH⟩ := hrel
    have H := Lib.hid HH.out.1
    have HT := Lib.hid HH.out.2
    clear HH
    by_cases hlt : k < n
    · skip
      obtain ⟨s, hs⟩ : ∃ s, l[k]? = some s := ⟨_, List.getElem?_eq_getElem (by rw [HL.out]; exact hlt)⟩
      obtain ⟨c0, c1, c2⟩ := HA.out.2 k s hs
      have c0 := (H.out.cell (p := ⟨b, off + k * 3, none⟩) HA.out.1).trans c0
      have c1 := (H.out.cell (p := ⟨b, off + k * 3 + 1, none⟩) HA.out.1).trans c1
      have c2 := (H.out.cell (p := ⟨b, off + k * 3 + 2, none⟩) HA.out.1).trans c2
      have hlt' : (k : Int) < n := by omega
      have HP := Lib.hid (prev_get hs)
      have HOK : Hid (∀ h : okAt l k s, RightTo l (k + 1)) := Lib.hid fun h => HT.out.next hs h
      have hok : okAt l k s ↔ (prev l k < s.1 ∧ s.1 ≤ s.2.1 ∧ s.2.1 ≤ 1114111 ∧ 1 ≤ s.2.2 ∧ s.2.2 ≤ 65535) := Iff.rfl
      have HK := Lib.hid hok
      clear hok
      generalize prev l k = pv at *
      obtain ⟨s0, s1, s2⟩ := s
      simp only at c0 c1 c2
      obtain ⟨W2, hW2⟩ : ∃ W2, W2 = wr.alloc (.cells #[.int .i64 s0, .int .i64 s1, .int .i64 s2] 29) := ⟨_, rfl⟩
      have hnew : (wr.alloc (.cells #[.int .i64 0, .int .i64 0, .int .i64 0] 29)).heap[wr.heap.size]? = some (.cells #[.int .i64 0, .int .i64 0, .int .i64 0] 29 (0, 0)) := heap_alloc_new wr _
      have hrow : (wr.alloc (.cells #[.int .i64 0, .int .i64 0, .int .i64 0] 29)).setRow wr.heap.size #[.int .i64 s0, .int .i64 s1, .int .i64 s2] = W2 := by rw [hW2]; exact World.setRow_alloc_new wr _ _ _
      have hh2 : W2.heap[wr.heap.size]? = some (.cells #[.int .i64 s0, .int .i64 s1, .int .i64 s2] 29 (0, 0)) := by rw [hW2]; exact heap_alloc_new wr _
      have q0 : W2.cell? ⟨wr.heap.size, 0, none⟩ = some (.int .i64 s0) := by simp [World.cell?, hh2]
      have q1 : W2.cell? ⟨wr.heap.size, 1, none⟩ = some (.int .i64 s1) := by simp [World.cell?, hh2]
      have q2 : W2.cell? ⟨wr.heap.size, 2, none⟩ = some (.int .i64 s2) := by simp [World.cell?, hh2]
      have BW : Below w.heap.size w W2 := by rw [hW2]; exact H.out.alloc H.out.size _
      have R := Lib.hid BW
      clear hs hW2 BW hh2 H
      by_cases g0 : s0 ≤ pv
      · have d0 : decide (s0 ≤ pv) = true := decide_eq_true g0
        go_wp2_with (refine wpList_store_row rfl 29 _ _ rfl wr.heap.size #[.int .i64 s0, .int .i64 s1, .int .i64 s2] rfl rfl _ _ hnew (size_span _ _ _) rfl (one_span _ _ _) ?_)
        go_ret
        exact ⟨rfl, R.out⟩
      have d0 : decide (s0 ≤ pv) = false := decide_eq_false g0
      by_cases g1 : s1 < s0
      · have d1 : decide (s1 < s0) = true := decide_eq_true g1
        go_wp2_with (refine wpList_store_row rfl 29 _ _ rfl wr.heap.size #[.int .i64 s0, .int .i64 s1, .int .i64 s2] rfl rfl _ _ hnew (size_span _ _ _) rfl (one_span _ _ _) ?_)
        go_ret
        exact ⟨rfl, R.out⟩
      have d1 : decide (s1 < s0) = false := decide_eq_false g1
      by_cases g2 : 1114111 < s1
      · have d2 : decide (1114111 < s1) = true := decide_eq_true g2
        go_wp2_with (refine wpList_store_row rfl 29 _ _ rfl wr.heap.size #[.int .i64 s0, .int .i64 s1, .int .i64 s2] rfl rfl _ _ hnew (size_span _ _ _) rfl (one_span _ _ _) ?_)
        go_ret
        exact ⟨rfl, R.out⟩
      have d2 : decide (1114111 < s1) = false := decide_eq_false g2
      by_cases g3 : s2 < 1
      · have d3 : decide (s2 < 1) = true := decide_eq_true g3
        go_wp2_with (refine wpList_store_row rfl 29 _ _ rfl wr.heap.size #[.int .i64 s0, .int .i64 s1, .int .i64 s2] rfl rfl _ _ hnew (size_span _ _ _) rfl (one_span _ _ _) ?_)
        go_ret
        exact ⟨rfl, R.out⟩
      have d3 : decide (s2 < 1) = false := decide_eq_false g3
      by_cases g4 : 65535 < s2
      · have d4 : decide (65535 < s2) = true := decide_eq_true g4
        go_wp2_with (refine wpList_store_row rfl 29 _ _ rfl wr.heap.size #[.int .i64 s0, .int .i64 s1, .int .i64 s2] rfl rfl _ _ hnew (size_span _ _ _) rfl (one_span _ _ _) ?_)
        go_ret
        exact ⟨rfl, R.out⟩
      have d4 : decide (65535 < s2) = false := decide_eq_false g4
      have HRT := Lib.hid (HOK.out (HK.out.2 (by simp only; omega)))
      clear g0 g1 g2 g3 g4
      go_wp2_with (refine wpList_store_row rfl 29 _ _ rfl wr.heap.size #[.int .i64 s0, .int .i64 s1, .int .i64 s2] rfl rfl _ _ hnew (size_span _ _ _) rfl (one_span _ _ _) ?_)
      go_roundw
      case rel => exact ⟨k + 1, by omega, by go_num, by rw [HP.out], R.out, HRT.out⟩
      case measure => simp [intOf]; omega
    · obtain rfl : k = n := by omega
      exact absurd (by have := HT.out; rw [← HL.out] at this; exact this.all) HR.out

set_option maxRecDepth 100000 in
set_option maxHeartbeats 4000000 in
theorem rright_yes (a : Option Addr) (n c : Nat) (l : List S3) (w : World) (h : LAt w a n c l) (hr : Right l) (hn : n ≤ 100000) :
    Calls Try.prog 7 #[.slice a n c] w fun e w' => e = .returned (.bool true) ∧ Below w.heap.size w w' := by
  rcases h.2.2 with rfl | ⟨b, off, rfl, hat⟩
  · clear h
    go_enter Try.func7, Try.ntmps7
    go_wp2
    go_loopw [3] (fun i wr => i = .int .i64 0 ∧ Hid (Below w.heap.size w wr)) (fun i _ => 0)
    case atStart => exact ⟨rfl, Lib.hid (Below.refl _ _)⟩
    case round =>
      obtain ⟨rfl, H⟩ := hrel
      go_wp2
      go_ret
      exact ⟨rfl, H.out⟩
  · exact rright_ok b off n c l w h.1 hat hr hn h.2.1

set_option maxRecDepth 100000 in
set_option maxHeartbeats 8000000 in
theorem rright_no (a : Option Addr) (n c : Nat) (l : List S3) (w : World) (h : LAt w a n c l) (hr : ¬ Right l) (hn : n ≤ 100000) :
    Calls Try.prog 7 #[.slice a n c] w fun e w' => e = .returned (.bool false) ∧ Below w.heap.size w w' := by
  have hn0 : n ≠ 0 := fun e => hr (by subst e; rw [h.nil_of]; exact right_nil)
  obtain ⟨b, off, rfl, hat⟩ := h.2.2.resolve_left hn0
  have HL := Lib.hid h.1
  have HA := Lib.hid hat
  have HR := Lib.hid hr
  have hnc := h.2.1
  clear h hr hat hn0
  go_enter Try.func7, Try.ntmps7
  go_wp2
  go_loopw [3] (fun i wr => ∃ k : Nat, k ≤ n ∧ i = .int .i64 k ∧ Hid (Below w.heap.size w wr ∧ RightTo l k)) (fun i _ => n - (intOf i).toNat)
  case atStart => exact ⟨0, Nat.zero_le _, rfl, Below.refl _ _, RightTo.zero l⟩
  case round =>
    obtain ⟨k, hk, rfl, HH⟩ := hrel
    have H := Lib.hid HH.out.1
    have HT := Lib.hid HH.out.2
    clear HH
    by_cases hlt : k < n
    · skip
      obtain ⟨s, hs⟩ : ∃ s, l[k]? = some s := ⟨_, List.getElem?_eq_getElem (by rw [HL.out]; exact hlt)⟩
      obtain ⟨c0, c1, c2⟩ := HA.out.2 k s hs
      have c0 := (H.out.cell (p := ⟨b, off + k * 3, none⟩) HA.out.1).trans c0
      have c1 := (H.out.cell (p := ⟨b, off + k * 3 + 1, none⟩) HA.out.1).trans c1
      have c2 := (H.out.cell (p := ⟨b, off + k * 3 + 2, none⟩) HA.out.1).trans c2
      have hlt' : (k : Int) < n := by omega
      have HB := Lib.hid H.out
      have HOK : Hid (∀ h : okAt l k s, RightTo l (k + 1)) := Lib.hid fun h => HT.out.next hs h
      have hok : okAt l k s ↔ (prev l k < s.1 ∧ s.1 ≤ s.2.1 ∧ s.2.1 ≤ 1114111 ∧ 1 ≤ s.2.2 ∧ s.2.2 ≤ 65535) := Iff.rfl
      have HK := Lib.hid hok
      have HPG := Lib.hid (HT.out.prev_ge (by rw [HL.out]; exact hk))
      clear hok
      cases k with
      | zero =>
        obtain ⟨s0, s1, s2⟩ := s
        simp only at c0 c1 c2
        simp only [Nat.zero_mul, Nat.add_zero] at c0 c1 c2
        have HPV : Hid (prev l 0 = -1) := Lib.hid rfl
        clear hs H
        by_cases g0 : s0 < 0
        · have d0 : decide (s0 < 0) = true := decide_eq_true g0
          clear g0
          go_wp2
          go_quiet (fail)
          go_wp2
          go_ret
          exact ⟨rfl, HB.out.trans ((bdrew _ _).mono HB.out.size)⟩
        have d0 : decide (s0 < 0) = false := decide_eq_false g0
        by_cases g1 : s1 < s0
        · have d1 : decide (s1 < s0) = true := decide_eq_true g1
          clear g1
          go_wp2
          go_quiet (fail)
          go_wp2
          go_ret
          exact ⟨rfl, HB.out.trans ((bdrew _ _).mono HB.out.size)⟩
        have d1 : decide (s1 < s0) = false := decide_eq_false g1
        by_cases g2 : 1114111 < s1
        · have d2 : decide (1114111 < s1) = true := decide_eq_true g2
          clear g2
          go_wp2
          go_quiet (fail)
          go_wp2
          go_ret
          exact ⟨rfl, HB.out.trans ((bdrew _ _).mono HB.out.size)⟩
        have d2 : decide (1114111 < s1) = false := decide_eq_false g2
        by_cases g3 : s2 < 1
        · have d3 : decide (s2 < 1) = true := decide_eq_true g3
          clear g3
          go_wp2
          go_quiet (fail)
          go_wp2
          go_ret
          exact ⟨rfl, HB.out.trans ((bdrew _ _).mono HB.out.size)⟩
        have d3 : decide (s2 < 1) = false := decide_eq_false g3
        by_cases g4 : 65535 < s2
        · have d4 : decide (65535 < s2) = true := decide_eq_true g4
          clear g4
          go_wp2
          go_quiet (fail)
          go_wp2
          go_ret
          exact ⟨rfl, HB.out.trans ((bdrew _ _).mono HB.out.size)⟩
        have d4 : decide (65535 < s2) = false := decide_eq_false g4
        have HRT := Lib.hid (HOK.out (HK.out.2 (by rw [HPV.out]; simp only; omega)))
        clear g0 g1 g2 g3 g4
        go_wp2
        go_quiet (fail)
        go_wp2
        go_roundw
        case rel => exact ⟨1, by omega, rfl, HB.out.trans ((bdrew _ _).mono HB.out.size), HRT.out⟩
        case measure => simp [intOf]; omega
      | succ j =>
        obtain ⟨p, hp⟩ : ∃ p, l[j]? = some p := ⟨_, List.getElem?_eq_getElem (by rw [HL.out]; omega)⟩
        obtain ⟨_, e1, _⟩ := HA.out.2 j p hp
        have e1 := (H.out.cell (p := ⟨b, off + j * 3 + 1, none⟩) HA.out.1).trans e1
        have HPV := Lib.hid (prev_get hp)
        have hpg := HPG.out.1
        rw [HPV.out] at hpg
        have hp0 : 0 ≤ p.2.1 := by
          have := HT.out j p (by omega) hp
          have h2 := HT.out.prev_ge (by rw [HL.out]; exact hk)
          have h3 := (show RightTo l j from fun i s hi hs => HT.out i s (by omega) hs).prev_ge (by rw [HL.out]; omega)
          obtain ⟨r1, r2, _⟩ := this
          omega
        obtain ⟨s0, s1, s2⟩ := s
        obtain ⟨p0, p1, p2⟩ := p
        simp only at c0 c1 c2 e1 hpg hp0
        have d7 : decide ((0 : Int) < (j : Int) + 1) = true := decide_eq_true (by omega)
        have x1 : IntKind.i64.wrap ((j : Int) + 1 - 1) = (j : Int) := by rw [show (j : Int) + 1 - 1 = (j : Int) from by omega]; exact IntWalk.i64_in _ (by omega)
        have hj : (j : Int) < n := by omega
        have hj1 : (j : Int) + 1 < n := by omega
        clear hs hp H
        by_cases g0 : s0 < 0
        · have d0 : decide (s0 < 0) = true := decide_eq_true g0
          clear g0
          go_wp2
          go_quiet (fail)
          go_wp2
          go_ret
          exact ⟨rfl, HB.out.trans ((bdrew _ _).mono HB.out.size)⟩
        have d0 : decide (s0 < 0) = false := decide_eq_false g0
        by_cases g1 : s1 < s0
        · have d1 : decide (s1 < s0) = true := decide_eq_true g1
          clear g1
          go_wp2
          go_quiet (fail)
          go_wp2
          go_ret
          exact ⟨rfl, HB.out.trans ((bdrew _ _).mono HB.out.size)⟩
        have d1 : decide (s1 < s0) = false := decide_eq_false g1
        by_cases g2 : 1114111 < s1
        · have d2 : decide (1114111 < s1) = true := decide_eq_true g2
          clear g2
          go_wp2
          go_quiet (fail)
          go_wp2
          go_ret
          exact ⟨rfl, HB.out.trans ((bdrew _ _).mono HB.out.size)⟩
        have d2 : decide (1114111 < s1) = false := decide_eq_false g2
        by_cases g3 : s2 < 1
        · have d3 : decide (s2 < 1) = true := decide_eq_true g3
          clear g3
          go_wp2
          go_quiet (fail)
          go_wp2
          go_ret
          exact ⟨rfl, HB.out.trans ((bdrew _ _).mono HB.out.size)⟩
        have d3 : decide (s2 < 1) = false := decide_eq_false g3
        by_cases g4 : 65535 < s2
        · have d4 : decide (65535 < s2) = true := decide_eq_true g4
          clear g4
          go_wp2
          go_quiet (fail)
          go_wp2
          go_ret
          exact ⟨rfl, HB.out.trans ((bdrew _ _).mono HB.out.size)⟩
        have d4 : decide (65535 < s2) = false := decide_eq_false g4
        by_cases g5 : s0 ≤ p1
        · have d5 : decide (s0 ≤ p1) = true := decide_eq_true g5
          clear g5
          go_wp2
          go_quiet (fail)
          go_wp2
          go_ret
          exact ⟨rfl, HB.out.trans ((bdrew _ _).mono HB.out.size)⟩
        have d5 : decide (s0 ≤ p1) = false := decide_eq_false g5
        have HRT := Lib.hid (HOK.out (HK.out.2 (by rw [HPV.out]; simp only; omega)))
        clear g0 g1 g2 g3 g4 g5
        go_wp2
        go_quiet (fail)
        go_wp2
        go_roundw
        case rel => exact ⟨j + 1 + 1, by omega, by go_num, HB.out.trans ((bdrew _ _).mono HB.out.size), HRT.out⟩
        case measure => simp [intOf]; omega
    · obtain rfl : k = n := by omega
      exact absurd (by have := HT.out; rw [← HL.out] at this; exact this.all) HR.out

set_option maxRecDepth 100000 in
set_option maxHeartbeats 4000000 in
theorem find_l (a : Option Addr) (n c : Nat) (l : List S3) (r : Int) (w : World) (h : LAt w a n c l) (hn : n ≤ 100000) :
    Calls Try.prog 14 #[.slice a n c, .int .i64 r] w fun e w' => e = .returned (.int .i64 (val3 l r)) ∧ Below w.heap.size w w' := by
  rcases h.2.2 with rfl | ⟨b, off, rfl, hat⟩
  · obtain rfl := h.nil_of
    have HV : Hid (val3 [] r = 0) := Lib.hid rfl
    clear h
    go_enter Try.func14, Try.ntmps14
    go_wp2
    go_loopw [5] (fun i wr => i = .int .i64 0 ∧ Hid (Below w.heap.size w wr)) (fun i _ => 0)
    case atStart => exact ⟨rfl, Lib.hid (Below.refl _ _)⟩
    case round =>
      obtain ⟨rfl, H⟩ := hrel
      go_wp2
      go_ret
      exact ⟨ret_i HV.out.symm, H.out⟩
  · exact find_any b off n c l r w h.1 hat hn h.2.1
end Go.Proofs.Ytpeniadomjijcaa.Pack

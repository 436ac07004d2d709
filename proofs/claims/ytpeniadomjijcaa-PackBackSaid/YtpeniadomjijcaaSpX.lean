/-
  spans.Fewest, spans.Count; the reference's Right, Few, Find: at right lists.
-/
import Derived.Test.YtpeniadomjijcaaSpW
namespace Go.Proofs.Ytpeniadomjijcaa.Sp
set_option linter.unusedSimpArgs false
set_option linter.unusedVariables false
open Go Go.RowKit Mem TabLaw

theorem ret_i {k : IntKind} {a b : Int} (h : a = b) : Ending.returned (.int k a) = .returned (.int k b) := by rw [h]
theorem no_next {l : List S3} {r : Int} {k : Nat} {s : S3} (hs : l[k]? = some s) (h : ∀ t ∈ l.take k, has r t = false) (hn : has r s = false) : ∀ t ∈ l.take (k + 1), has r t = false := by
  intro t ht
  rw [List.take_add_one, hs] at ht
  rcases List.mem_append.1 ht with ht | ht
  · exact h t ht
  · simp at ht; subst ht; exact hn

theorem right_le {l : List S3} (hr : Right l) {k : Nat} {s : S3} (hs : l[k]? = some s) : 0 ≤ s.1 ∧ s.1 ≤ s.2.1 ∧ s.2.1 ≤ 1114111 ∧ -1 ≤ prev l k := by
  have hk := (List.getElem?_eq_some_iff.1 hs).1
  have hp := (hr.to k).prev_ge (by omega)
  obtain ⟨h1, h2, h3, _⟩ := hr k s hs
  omega

set_option maxRecDepth 100000 in
set_option maxHeartbeats 4000000 in
theorem fewest_any (b off n c : Nat) (l : List S3) (w : World) (hl : l.length = n) (h : At3 w b off l) (hr : Right l) (hn : n ≤ 100000) :
    Calls Try.prog 16 #[.slice (some ⟨b, off, none⟩) n c] w (OwnP w.heap.size w (fewest l)) := by
  have HL := Lib.hid hl
  have HA := Lib.hid h
  have HR := Lib.hid hr
  have HC := Lib.hid (right_ok b off n c l w hl h hr hn)
  clear hl h hr
  go_enter Try.func16, Try.ntmps16
  go_wp2_with fail
  refine HC.out.mono ?_
  rintro e w1 ⟨rfl, hb1⟩
  have B1 := Lib.hid hb1
  clear hb1 HC
  go_wp2
  go_loopw [3, 11] (fun v i wr => ∃ k : Nat, k ≤ n ∧ i = .int .i64 k ∧ Hid (wr.ownsRow w.heap.size 29 3 v ((l.take k).foldl lay []).length (cells ((l.take k).foldl lay [])) ∧ Below w.heap.size w wr)) (fun _ i _ => n - (intOf i).toNat)
  case atStart => exact ⟨0, Nat.zero_le _, rfl, World.ownsRow_nil _ _ _ _, B1.out⟩
  case round =>
    obtain ⟨k, hk, rfl, HH⟩ := hrel
    have H := Lib.hid HH.out.2
    by_cases hlt : k < n
    · skip
      obtain ⟨s, hs⟩ : ∃ s, l[k]? = some s := ⟨_, List.getElem?_eq_getElem (by rw [HL.out]; exact hlt)⟩
      obtain ⟨c0, c1, c2⟩ := HA.out.2 k s hs
      have c0 := (H.out.cell (p := ⟨b, off + k * 3, none⟩) HA.out.1).trans c0
      have c1 := (H.out.cell (p := ⟨b, off + k * 3 + 1, none⟩) HA.out.1).trans c1
      have c2 := (H.out.cell (p := ⟨b, off + k * 3 + 2, none⟩) HA.out.1).trans c2
      have hlt' : (k : Int) < n := by omega
      have HF := Lib.hid (foldl_take l hs)
      have hfl := foldl_len (l.take k) []
      rw [List.length_take, HL.out] at hfl
      have HHW := Lib.hid HH.out.1
      obtain ⟨av, cv, rfl⟩ := own_sl HH.out.1
      generalize (l.take k).foldl lay [] = L at *
      obtain ⟨r1, r2, r3, r4⟩ := right_le HR.out hs
      obtain ⟨s0, s1, s2⟩ := s
      simp only at c0 c1 c2 r1 r2 r3
      have hln : L.length ≤ 100000 := by simp at hfl; omega
      obtain ⟨W2, hW2⟩ : ∃ W2, W2 = wr.alloc (.cells #[.int .i64 s0, .int .i64 s1, .int .i64 s2] 29) := ⟨_, rfl⟩
      have hnew : (wr.alloc (.cells #[.int .i64 0, .int .i64 0, .int .i64 0] 29)).heap[wr.heap.size]? = some (.cells #[.int .i64 0, .int .i64 0, .int .i64 0] 29 (0, 0)) := heap_alloc_new wr _
      have hrow : (wr.alloc (.cells #[.int .i64 0, .int .i64 0, .int .i64 0] 29)).setRow wr.heap.size #[.int .i64 s0, .int .i64 s1, .int .i64 s2] = W2 := by rw [hW2]; exact World.setRow_alloc_new wr _ _ _
      have hh2 : W2.heap[wr.heap.size]? = some (.cells #[.int .i64 s0, .int .i64 s1, .int .i64 s2] 29 (0, 0)) := by rw [hW2]; exact heap_alloc_new wr _
      have q0 : W2.cell? ⟨wr.heap.size, 0, none⟩ = some (.int .i64 s0) := by simp [World.cell?, hh2]
      have q1 : W2.cell? ⟨wr.heap.size, 1, none⟩ = some (.int .i64 s1) := by simp [World.cell?, hh2]
      have q2 : W2.cell? ⟨wr.heap.size, 2, none⟩ = some (.int .i64 s2) := by simp [World.cell?, hh2]
      have BW : Below w.heap.size w W2 := by rw [hW2]; exact H.out.alloc H.out.size _
      have HO : Hid (W2.ownsRow w.heap.size 29 3 (.slice av L.length cv) L.length (cells L)) := by rw [hW2]; exact HHW.out.alloc _
      have HBW := Lib.hid BW
      have hsz := BW.size
      clear hs hW2 BW hh2 H HH hfl HHW r4
      go_wp2_with (refine wpList_store_row rfl 29 _ _ rfl wr.heap.size #[.int .i64 s0, .int .i64 s1, .int .i64 s2] rfl rfl _ _ hnew (size_span _ _ _) rfl (one_span _ _ _) ?_)
      refine (lay_any w.heap.size (.slice av L.length cv) L s0 s1 s2 W2 HO.out hsz hln r1 (by omega)).mono ?_
      rintro e w3 ⟨v3, rfl, ho3, hb3⟩
      rw [HF.out] at ho3
      have R := Lib.hid (And.intro ho3 (HBW.out.trans hb3))
      clear ho3 hb3 HO HBW
      go_wp2
      go_roundw
      case rel => exact ⟨k + 1, by omega, by go_num, R⟩
      case measure => simp [intOf]; omega
    · obtain rfl : k = n := by omega
      have e1 : l.take k = l := List.take_of_length_le (by rw [HL.out]; exact Nat.le_refl _)
      rw [e1] at HH
      go_wp2
      go_ret
      exact ⟨_, rfl, HH.out.1, HH.out.2⟩

set_option maxRecDepth 100000 in
set_option maxHeartbeats 4000000 in
theorem rright_ok (b off n c : Nat) (l : List S3) (w : World) (hl : l.length = n) (h : At3 w b off l) (hr : Right l) (hn : n ≤ 100000) (hnc : n ≤ c) :
    Calls Try.prog 7 #[.slice (some ⟨b, off, none⟩) n c] w fun e w' => e = .returned (.bool true) ∧ Below w.heap.size w w' := by
  have HL := Lib.hid hl
  have HA := Lib.hid h
  have HR := Lib.hid hr
  clear hl h hr
  go_enter Try.func7, Try.ntmps7
  go_wp2
  go_loopw [3] (fun i wr => ∃ k : Nat, k ≤ n ∧ i = .int .i64 k ∧ Hid (Below w.heap.size w wr)) (fun i _ => n - (intOf i).toNat)
  case atStart => exact ⟨0, Nat.zero_le _, rfl, Below.refl _ _⟩
  case round =>
    obtain ⟨k, hk, rfl, H⟩ := hrel
    by_cases hlt : k < n
    · skip
      obtain ⟨s, hs⟩ : ∃ s, l[k]? = some s := ⟨_, List.getElem?_eq_getElem (by rw [HL.out]; exact hlt)⟩
      obtain ⟨c0, c1, c2⟩ := HA.out.2 k s hs
      have c0 := (H.out.cell (p := ⟨b, off + k * 3, none⟩) HA.out.1).trans c0
      have c1 := (H.out.cell (p := ⟨b, off + k * 3 + 1, none⟩) HA.out.1).trans c1
      have c2 := (H.out.cell (p := ⟨b, off + k * 3 + 2, none⟩) HA.out.1).trans c2
      have hlt' : (k : Int) < n := by omega
      obtain ⟨r1, r2, r3, r4, r5⟩ := HR.out k s hs
      obtain ⟨q1, _⟩ := right_le HR.out hs
      have HB := Lib.hid H.out
      cases k with
      | zero =>
        obtain ⟨s0, s1, s2⟩ := s
        simp only at c0 c1 c2 r1 r2 r3 r4 r5 q1
        have d0 : decide (s0 < 0) = false := by simp; omega
        have d2 : decide (s1 < s0) = false := by simp; omega
        have d3 : decide (1114111 < s1) = false := by simp; omega
        have d4 : decide (s2 < 1) = false := by simp at r4 ⊢; omega
        have d5 : decide (65535 < s2) = false := by simp; omega
        clear hs r1 r2 r3 r4 r5 H
        simp only [Nat.zero_mul, Nat.add_zero] at c0 c1 c2
        go_wp2
        go_quiet (fail)
        go_wp2
        go_roundw
        case rel => exact ⟨1, by omega, rfl, HB.out.trans ((bdrew _ _).mono HB.out.size)⟩
        case measure => simp [intOf]; omega
      | succ j =>
        obtain ⟨p, hp⟩ : ∃ p, l[j]? = some p := ⟨_, List.getElem?_eq_getElem (by rw [HL.out]; omega)⟩
        obtain ⟨_, e1, _⟩ := HA.out.2 j p hp
        have e1 := (H.out.cell (p := ⟨b, off + j * 3 + 1, none⟩) HA.out.1).trans e1
        rw [prev_get hp] at r1
        obtain ⟨s0, s1, s2⟩ := s
        obtain ⟨p0, p1, p2⟩ := p
        simp only at c0 c1 c2 r1 r2 r3 r4 r5 q1 e1
        have d0 : decide (s0 < 0) = false := by simp; omega
        have d2 : decide (s1 < s0) = false := by simp; omega
        have d3 : decide (1114111 < s1) = false := by simp; omega
        have d4 : decide (s2 < 1) = false := by simp at r4 ⊢; omega
        have d5 : decide (65535 < s2) = false := by simp; omega
        have d6 : decide (s0 ≤ p1) = false := by simp; omega
        have d7 : decide ((0 : Int) < (j : Int) + 1) = true := decide_eq_true (by omega)
        have x1 : IntKind.i64.wrap ((j : Int) + 1 - 1) = (j : Int) := by rw [show (j : Int) + 1 - 1 = (j : Int) from by omega]; exact IntWalk.i64_in _ (by omega)
        have hj : (j : Int) < n := by omega
        have hj1 : (j : Int) + 1 < n := by omega
        clear hs hp r1 r2 r3 r4 r5 H
        go_wp2
        go_quiet (fail)
        go_wp2
        go_roundw
        case rel => exact ⟨j + 1 + 1, by omega, by go_num, HB.out.trans ((bdrew _ _).mono HB.out.size)⟩
        case measure => simp [intOf]; omega
    · obtain rfl : k = n := by omega
      go_wp2
      go_ret
      exact ⟨rfl, H.out⟩

theorem val3_at {l : List S3} {r : Int} {k : Nat} {s : S3} (hs : l[k]? = some s) (hno : ∀ t ∈ l.take k, has r t = false) (h : has r s = true) : val3 l r = s.2.2 := by
  unfold val3
  have e : l = l.take k ++ s :: l.drop (k + 1) := by
    conv => lhs; rw [← List.take_append_drop k l]
    congr 1
    rw [List.drop_eq_getElem_cons (List.getElem?_eq_some_iff.1 hs).1, (List.getElem?_eq_some_iff.1 hs).2]
  rw [e, List.find?_append, List.find?_eq_none.2 (fun t ht => by simp [hno t ht])]
  simp [List.find?_cons, h]

set_option maxRecDepth 100000 in
set_option maxHeartbeats 4000000 in
theorem find_any (b off n c : Nat) (l : List S3) (r : Int) (w : World) (hl : l.length = n) (h : At3 w b off l) (hn : n ≤ 100000) (hnc : n ≤ c) :
    Calls Try.prog 14 #[.slice (some ⟨b, off, none⟩) n c, .int .i64 r] w fun e w' => e = .returned (.int .i64 (val3 l r)) ∧ Below w.heap.size w w' := by
  have HL := Lib.hid hl
  have HA := Lib.hid h
  clear hl h
  go_enter Try.func14, Try.ntmps14
  go_wp2
  go_loopw [5] (fun i wr => ∃ k : Nat, k ≤ n ∧ i = .int .i64 k ∧ Hid ((∀ t ∈ l.take k, has r t = false) ∧ Below w.heap.size w wr)) (fun i _ => n - (intOf i).toNat)
  case atStart => exact ⟨0, Nat.zero_le _, rfl, by simp, Below.refl _ _⟩
  case round =>
    obtain ⟨k, hk, rfl, HH⟩ := hrel
    have H := Lib.hid HH.out.2
    by_cases hlt : k < n
    · skip
      obtain ⟨s, hs⟩ : ∃ s, l[k]? = some s := ⟨_, List.getElem?_eq_getElem (by rw [HL.out]; exact hlt)⟩
      obtain ⟨c0, c1, c2⟩ := HA.out.2 k s hs
      have c0 := (H.out.cell (p := ⟨b, off + k * 3, none⟩) HA.out.1).trans c0
      have c1 := (H.out.cell (p := ⟨b, off + k * 3 + 1, none⟩) HA.out.1).trans c1
      have c2 := (H.out.cell (p := ⟨b, off + k * 3 + 2, none⟩) HA.out.1).trans c2
      have hlt' : (k : Int) < n := by omega
      have HB := Lib.hid H.out
      have HNO := Lib.hid HH.out.1
      have HS := Lib.hid hs
      clear hs H HH
      by_cases g1 : s.1 ≤ r
      · by_cases g2 : r ≤ s.2.1
        · have HV := Lib.hid (val3_at HS.out HNO.out (by simp [has, g1, g2]))
          obtain ⟨s0, s1, s2⟩ := s
          simp only at c0 c1 c2 g1 g2
          have d1 : decide (s0 ≤ r) = true := by simpa using g1
          have d2 : decide (r ≤ s1) = true := by simpa using g2
          go_wp2
          go_ret
          exact ⟨ret_i HV.out.symm, HB.out⟩
        · have HN := Lib.hid (show has r s = false from by simp [has]; omega)
          obtain ⟨s0, s1, s2⟩ := s
          simp only at c0 c1 c2 g1 g2
          have d1 : decide (s0 ≤ r) = true := by simpa using g1
          have d2 : decide (r ≤ s1) = false := by simpa using g2
          go_wp2
          go_roundw
          case rel => exact ⟨k + 1, by omega, by go_num, no_next HS.out HNO.out HN.out, HB.out⟩
          case measure => simp [intOf]; omega
      · have HN := Lib.hid (show has r s = false from by simp [has]; omega)
        obtain ⟨s0, s1, s2⟩ := s
        simp only at c0 c1 c2 g1
        have d1 : decide (s0 ≤ r) = false := by simpa using g1
        go_wp2
        go_roundw
        case rel => exact ⟨k + 1, by omega, by go_num, no_next HS.out HNO.out HN.out, HB.out⟩
        case measure => simp [intOf]; omega
    · obtain rfl : k = n := by omega
      have e1 : l.take k = l := List.take_of_length_le (by rw [HL.out]; exact Nat.le_refl _)
      have HV := Lib.hid (show val3 l r = 0 from by rw [e1] at HH; exact val3_none HH.out.1)
      go_wp2
      go_ret
      exact ⟨ret_i HV.out.symm, H.out⟩

end Go.Proofs.Ytpeniadomjijcaa.Sp

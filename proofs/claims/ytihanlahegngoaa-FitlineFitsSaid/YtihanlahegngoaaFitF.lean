/-
  The walk of the statement FitlineFits.
-/
import Derived.Test.YtihanlahegngoaaFitP
import Derived.Test.YtihanlahegngoaaFitW
namespace Go.Proofs.Ytihanlahegngoaa.Fit
set_option linter.unusedSimpArgs false
set_option linter.unusedVariables false
open Go Go.RowKit Go.Shelf Mem Seg Turn Gra Same GraLaw Mea

theorem src_own {w : World} {base : Nat} {a : Option Addr} {n c : Nat} {ln : List Int} (h : w.ownsRow base 21 1 (.slice a n c) n (ln.map (Value.int .i32))) : Src w a n 1 (ln.map (Value.int .i32)) := by
  rcases h.2 with ⟨h1, h2⟩ | ⟨g, cap, cur, h1, _⟩
  · injection h1 with h1 _ _
    have h3 := h.1
    rw [h2] at h3
    exact .inl ⟨h1, h2, List.eq_nil_of_length_eq_zero (by simpa using h3)⟩
  · injection h1 with h1 _ _
    subst h1
    exact .inr ⟨_, rfl, h.1, h.cells rfl⟩

theorem flat_take (L : List (List Int)) {k : Nat} {ln : List Int} (h : L[k]? = some ln) : (L.take (k + 1)).flatten = (L.take k).flatten ++ ln := by
  rw [List.take_add_one, h]; simp

theorem mem_len {L : List (List Int)} {ln : List Int} (h : ln ∈ L) : ln.length ≤ L.flatten.length := by
  induction L with
  | nil => simp at h
  | cons a L ih =>
    simp only [List.flatten_cons, List.length_append]
    rcases List.mem_cons.1 h with rfl | h
    · omega
    · have := ih h; omega

set_option maxRecDepth 100000 in
set_option maxHeartbeats 16000000 in
theorem fits22_any (w : World) (a : Option Addr) (n c : Nat) (xs : List Int) (h : Runes w a n c xs) (x : Int) (hx1 : -9223372036854775808 ≤ x) (hx2 : x ≤ 9223372036854775807) :
    Calls Try.prog 13 #[.slice a n c, .int .i64 x] w fun e w' => e = .returned (.bool true) ∧ Below w.heap.size w w' := by
  have hm : n ≤ 9223372036854775807 := Nat.le_trans h.le h.max
  have HH := Lib.hid h
  have HL := Lib.hid h.ints.1
  clear h
  obtain ⟨i1, hi1, hy0, hy1, hy2⟩ := info_parts info_i32
  by_cases g1 : 300 < n
  · have d1 : decide (300 < (n : Int)) = true := by simp; omega
    go_enter Try.func13, Try.ntmps13
    go_wp2_with fail
    refine (works22_any _).mono ?_; rintro e w1 ⟨rfl, hb1⟩
    go_wp2_with fail
    refine (works22_any _).mono ?_; rintro e w2 ⟨rfl, hb2⟩
    have hb2 := hb1.trans (hb2.mono hb1.size)
    go_wp2
    go_ret
    exact ⟨rfl, hb2⟩
  have d1 : decide (300 < (n : Int)) = false := by simp; omega
  have hn : n ≤ 1000 := by omega
  obtain ⟨m0, hm0⟩ : ∃ m0, (if (1024 : Int) < x then (1024 : Int) else x) = m0 := ⟨_, rfl⟩
  obtain ⟨W, hW⟩ : ∃ W, (if (1 : Int) < m0 then m0 else (1 : Int)) = W := ⟨_, rfl⟩
  have hW1 : 1 ≤ W ∧ W ≤ 1024 := by split at hm0 <;> split at hW <;> omega
  have HM := Lib.hid hm0
  have HW := Lib.hid hW
  clear hm0 hW
  go_enter Try.func13, Try.ntmps13
  go_wp2_with fail
  refine (works22_any _).mono ?_; rintro e w1 ⟨rfl, hb1⟩
  have B1 := Lib.hid hb1
  clear hb1
  go_wp2
  go_loopw [5] (fun i wr => ∃ k : Nat, k ≤ n ∧ i = .int .i64 k ∧ Hid ((∀ y ∈ xs.take k, Basew.silentB y = false) ∧ Below w.heap.size w wr)) (fun i _ => n - (intOf i).toNat)
  case atStart => exact ⟨0, Nat.zero_le _, rfl, by simp, B1.out⟩
  case round =>
    obtain ⟨k, hk, rfl, H⟩ := hrel
    by_cases hlt : k < n
    · obtain ⟨y, hy⟩ : ∃ y, xs[k]? = some y := ⟨_, List.getElem?_eq_getElem (by rw [HL.out]; exact hlt)⟩
      obtain ⟨_, h0 | ⟨b, off, rfl, hb, hc⟩⟩ := HH.out.ints
      · omega
      have hlt' : (k : Int) < n := by omega
      have c0 := (H.out.2.cell (p := ⟨b, off + k, none⟩) hb).trans (hc k y hy)
      have HY := Lib.hid hy
      have HN1 := Lib.hid H.out.1
      have HB := Lib.hid H.out.2
      clear hc hy H
      go_wp2_with fail
      refine (Basew.rsilent_any y wr).mono ?_
      rintro e wr1 ⟨rfl, rfl⟩
      cases hsil : Basew.silentB y
      · have HS := Lib.hid hsil
        clear hsil
        go_wp2
        go_roundw
        case rel =>
          refine ⟨k + 1, by omega, by go_num, fun z hz => ?_, HB.out⟩
          rw [List.take_add_one, HY.out] at hz
          rcases List.mem_append.1 hz with hz | hz
          · exact HN1.out z hz
          · simp at hz; subst hz; exact HS.out
        case measure => simp [intOf]; omega
      · clear hsil
        go_wp2
        go_ret
        exact ⟨rfl, HB.out⟩
    · obtain rfl : k = n := by omega
      have hns : ∀ y ∈ xs, Basew.silentB y = false := by
        have := H.out.1
        rwa [List.take_of_length_le (by rw [HL.out]; exact Nat.le_refl _)] at this
      have HLAW := Lib.hid (fl_law hW1.1 hns)
      have HB := Lib.hid H.out.2
      clear H hns hlt hk
      have HLINES := Lib.hid (lines_any a k c xs wr (HH.out.below HB.out) hn x W m0 hx1 hx2 HM.out HW.out)
      have hm0 := HM.out
      have hWW := HW.out
      go_wp2_with fail
      refine HLINES.out.mono ?_
      rintro e w2 ⟨v2, rfl, hls, hb2⟩
      obtain ⟨a2, c2, rfl⟩ := lists_slice hls
      have HB2 := Lib.hid (HB.out.trans (hb2.mono HB.out.size))
      have HLS := Lib.hid hls
      have HFLE : Hid ((fl W xs).length ≤ 1001) := by
        have h1 := fS_len (W := W) (cl xs) (cnt (Jn xs) xs.length)
        have h2 := cnt_le (J := Jn xs) xs.length
        have h3 := HL.out
        refine Lib.hid ?_
        unfold fl
        rw [List.length_append]
        simp only [List.length_cons, List.length_nil]
        omega
      have HRL : Hid (∀ ln ∈ fl W xs, R32 ln) := Lib.hid fun ln hln y hy => HH.out.r32 y (by rw [← HLAW.out.1]; exact List.mem_flatten.2 ⟨ln, hln, hy⟩)
      have HLE : Hid (∀ ln ∈ fl W xs, ln.length ≤ 1000) := Lib.hid fun ln hln => by
        have h1 := mem_len hln
        have h2 := congrArg List.length HLAW.out.1
        have h3 := HL.out
        omega
      have HTL : Hid (∀ j, ((fl W xs).take j).flatten.length ≤ 1000) := Lib.hid fun j => by
        have h2 := congrArg List.length HLAW.out.1
        have h3 := HL.out
        have e : (fl W xs).flatten = ((fl W xs).take j).flatten ++ ((fl W xs).drop j).flatten := by rw [← List.flatten_append, List.take_append_drop]
        rw [e, List.length_append] at h2
        omega
      clear hls hb2 HLINES
      generalize hLen : (fl W xs).length = L at *
      have HLL := Lib.hid hLen
      clear hLen
      have hL1 := HFLE.out
      go_wp2
      go_loopw [7, 8] (fun v i wr => ∃ k : Nat, k ≤ L ∧ i = .int .i64 k ∧ Hid (wr.ownsRow w2.heap.size 21 1 v (((fl W xs).take k).flatten).length ((((fl W xs).take k).flatten).map (Value.int .i32)) ∧ Below w2.heap.size w2 wr)) (fun _ i _ => L - (intOf i).toNat)
      case atStart => exact ⟨0, Nat.zero_le _, rfl, World.ownsRow_nil _ _ _ _, Below.refl _ _⟩
      case round =>
        obtain ⟨k, hk, rfl, H⟩ := hrel
        obtain ⟨av, cv, rfl⟩ := own_slice H.out.1
        by_cases hlt : k < L
        · have hlt' : (k : Int) < L := by omega
          obtain ⟨ln, hln⟩ : ∃ ln, (fl W xs)[k]? = some ln := ⟨_, List.getElem?_eq_getElem (by rw [HLL.out]; exact hlt)⟩
          obtain ⟨g, rfl, hg, hat⟩ := lists_own HLS.out (by rw [HLL.out]; omega)
          obtain ⟨a', n', c', hc1, q2⟩ := hat k ln hln
          have HNX : Hid ((((fl W xs).take (k + 1)).flatten).length = (((fl W xs).take k).flatten).length + n' ∧ (((fl W xs).take (k + 1)).flatten).map (Value.int .i32) = (((fl W xs).take k).flatten).map (Value.int .i32) ++ ln.map (Value.int .i32)) := by
            have h1 := q2.1
            simp at h1
            refine Lib.hid ⟨by rw [flat_take _ hln, List.length_append, h1], by rw [flat_take _ hln, List.map_append]⟩
          have hfw := HLAW.out.2.1 ln (List.mem_of_getElem? hln)
          have hn1 : n' ≤ 100000 := by have h1 := q2.1; have h2 := HLE.out ln (List.mem_of_getElem? hln); simp at h1; omega
          have htl := HTL.out k
          have OWN := Lib.hid H.out.1
          have HBr := Lib.hid H.out.2
          have q2' := (Turn.of_new HBr.out : Turn (fun _ => False) w2 wr).kept q2 (fun _ _ => id)
          have HRN0 := Lib.hid (runes_own q2' (HRL.out ln (List.mem_of_getElem? hln)))
          have HQ2 := Lib.hid q2
          have HC1 := Lib.hid hc1
          have HLN := Lib.hid hln
          have e0 := (HBr.out.cell (p := ⟨g, k, none⟩) hg).trans hc1
          have HCR := Lib.hid (cols_ref a' n' c' ln wr HRN0.out hn1)
          have hni := wsum_le (itms ln)
          have hnl := itms_len ln
          have hll := HLE.out ln (List.mem_of_getElem? hln)
          generalize (((fl W xs).take k).flatten).map (Value.int .i32) = CC at *
          generalize (((fl W xs).take k).flatten).length = lk at *
          generalize hni' : wsum (itms ln) = ni at *
          have HNI := Lib.hid hni'
          clear H q2 q2' hc1 hln hni'
          go_wp2_with fail
          refine HCR.out.mono ?_
          rintro e w4 ⟨rfl, hb4⟩
          have HB4 := Lib.hid (HBr.out.trans (hb4.mono HBr.out.size))
          have OWN4 := Lib.hid ((Turn.of_new hb4 : Turn (fun _ => False) wr w4).kept OWN.out (fun _ _ => id))
          clear hb4 HCR OWN HBr e0
          rcases Int.lt_or_le 1 W with hw9 | hw9
          · have d3 : decide ((1 : Int) < W) = true := decide_eq_true hw9
            have d4 : decide (W < ni) = false := decide_eq_false (by have := hfw hw9; omega)
            by_cases hk1 : k + 1 < L
            · have d5 : decide ((k : Int) + 1 < (L : Int)) = true := decide_eq_true (by omega)
              have hk1' : (k : Int) + 1 < (L : Int) := by omega
              obtain ⟨nx, hnx⟩ : ∃ nx, (fl W xs)[k + 1]? = some nx := ⟨_, List.getElem?_eq_getElem (by rw [HLL.out]; exact hk1)⟩
              obtain ⟨a'', n'', c'', hc2, q3⟩ := hat (k + 1) nx hnx
              obtain ⟨y, hy, hno⟩ := HLAW.out.2.2 k ln nx HLN.out hnx
              have q3' := (Turn.of_new HB4.out : Turn (fun _ => False) w2 w4).kept q3 (fun _ _ => id)
              have HRN := Lib.hid (runes_own q3' (HRL.out nx (List.mem_of_getElem? hnx)))
              have hn2 : n'' ≤ 100000 := by have h1 := q3.1; have h2 := HLE.out nx (List.mem_of_getElem? hnx); simp at h1; omega
              have e2 := (HB4.out.cell (p := ⟨g, k + 1, none⟩) hg).trans hc2
              have HIT := Lib.hid (items_ref a'' n'' c'' nx w4 HRN.out hn2)
              have HY := Lib.hid hy
              have HNO := Lib.hid hno
              clear hnx hc2 q3 q3' hy hno
              go_wp2_with fail
              refine HIT.out.mono ?_
              rintro e w5 ⟨v5, rfl, hP, hb5⟩
              have hpos : 0 < (itms nx).length := (List.getElem?_eq_some_iff.1 HY.out).1
              obtain ⟨A5, C5, rfl⟩ := pitems_slice hP
              obtain ⟨g5, rfl, _, hg5, hat5⟩ := pitems_at hP hpos
              obtain ⟨p0, _⟩ := hat5 0 y HY.out
              rw [Nat.zero_mul] at p0
              have HB5 := Lib.hid (HB4.out.trans (hb5.mono HB4.out.size))
              have OWNX := Lib.hid ((Turn.of_new hb5 : Turn (fun _ => False) w4 w5).kept OWN4.out (fun _ _ => id))
              have hlz : (((itms nx).length : Int) == 0) = false := by simp; intro h; rw [h] at hpos; simp at hpos
              have hposi : (0 : Int) < ((itms nx).length : Int) := by omega
              have hno := HNO.out
              rw [HNI.out] at hno
              have hwy := width_one y
              generalize Cw.width y = wy at *
              generalize (itms nx).length = ly at *
              obtain ⟨mn1, hmn1⟩ : ∃ mn1, (if W < wy then W else wy) = mn1 := ⟨_, rfl⟩
              have hm1e : mn1 = min wy W := by rw [← hmn1]; split <;> omega
              obtain ⟨mn2, hm2e⟩ : ∃ mn2, mn2 = ni := ⟨_, rfl⟩
              have hniW := hfw hw9
              subst hm2e
              have x5 : IntKind.i64.wrap (W - mn2) = W - mn2 := IntWalk.i64_in _ (by omega)
              have d6 : decide (mn1 ≤ W - mn2) = false := decide_eq_false (by omega)
              clear hm1e hno hP hat5 hb5 HIT hwy
              try clear hm2e
              have q9 := (Turn.of_new HB5.out : Turn (fun _ => False) w2 w5).kept HQ2.out (fun _ _ => id)
              have HSRC : Hid (Src w5 a' n' 1 (ln.map (Value.int .i32))) := src_own q9
              have e1 := ((HB5.out).cell (p := ⟨g, k, none⟩) hg).trans HC1.out
              have hszB := (HB5.out).size
              clear q9
              go_wp2_with (at_builtin; (refine wpList_append_src _ rfl _ _ 22 rfl w2.heap.size 21 i1 _ 1 4 Try.underlying22 hi1 hy0 hy1 hy2 rfl (by decide) _ lk _ rfl OWNX.out a' n' c' (ln.map (Value.int .i32)) rfl HSRC.out (one_cells _ _) (by unfold maxLen; omega) (by omega) (by omega) ?_; intro v9 w9 hown9 hgrow9))
              have R : Hid (w9.ownsRow w2.heap.size 21 1 v9 (((fl W xs).take (k + 1)).flatten).length ((((fl W xs).take (k + 1)).flatten).map (Value.int .i32)) ∧ Below w2.heap.size w2 w9) := by
                rw [HNX.out.1, HNX.out.2]
                exact ⟨hown9, (HB5.out).grown hgrow9 hszB (fun j e => (OWNX.out.lt j e).1)⟩
              clear hown9 hgrow9 OWNX HSRC
              go_roundw
              case rel => exact ⟨k + 1, by omega, by go_num, R⟩
              case measure => simp [intOf]; omega
            · have d5 : decide ((k : Int) + 1 < (L : Int)) = false := decide_eq_false (by omega)
              have hk1' : ¬ (k : Int) + 1 < (L : Int) := by omega
              have OWNX := OWN4
              have q9 := (Turn.of_new HB4.out : Turn (fun _ => False) w2 w4).kept HQ2.out (fun _ _ => id)
              have HSRC : Hid (Src w4 a' n' 1 (ln.map (Value.int .i32))) := src_own q9
              have e1 := ((HB4.out).cell (p := ⟨g, k, none⟩) hg).trans HC1.out
              have hszB := (HB4.out).size
              clear q9
              go_wp2_with (at_builtin; (refine wpList_append_src _ rfl _ _ 22 rfl w2.heap.size 21 i1 _ 1 4 Try.underlying22 hi1 hy0 hy1 hy2 rfl (by decide) _ lk _ rfl OWNX.out a' n' c' (ln.map (Value.int .i32)) rfl HSRC.out (one_cells _ _) (by unfold maxLen; omega) (by omega) (by omega) ?_; intro v9 w9 hown9 hgrow9))
              have R : Hid (w9.ownsRow w2.heap.size 21 1 v9 (((fl W xs).take (k + 1)).flatten).length ((((fl W xs).take (k + 1)).flatten).map (Value.int .i32)) ∧ Below w2.heap.size w2 w9) := by
                rw [HNX.out.1, HNX.out.2]
                exact ⟨hown9, (HB4.out).grown hgrow9 hszB (fun j e => (OWNX.out.lt j e).1)⟩
              clear hown9 hgrow9 OWNX HSRC
              go_roundw
              case rel => exact ⟨k + 1, by omega, by go_num, R⟩
              case measure => simp [intOf]; omega
          · have d3 : decide ((1 : Int) < W) = false := decide_eq_false (by omega)
            by_cases hk1 : k + 1 < L
            · have d5 : decide ((k : Int) + 1 < (L : Int)) = true := decide_eq_true (by omega)
              have hk1' : (k : Int) + 1 < (L : Int) := by omega
              obtain ⟨nx, hnx⟩ : ∃ nx, (fl W xs)[k + 1]? = some nx := ⟨_, List.getElem?_eq_getElem (by rw [HLL.out]; exact hk1)⟩
              obtain ⟨a'', n'', c'', hc2, q3⟩ := hat (k + 1) nx hnx
              obtain ⟨y, hy, hno⟩ := HLAW.out.2.2 k ln nx HLN.out hnx
              have q3' := (Turn.of_new HB4.out : Turn (fun _ => False) w2 w4).kept q3 (fun _ _ => id)
              have HRN := Lib.hid (runes_own q3' (HRL.out nx (List.mem_of_getElem? hnx)))
              have hn2 : n'' ≤ 100000 := by have h1 := q3.1; have h2 := HLE.out nx (List.mem_of_getElem? hnx); simp at h1; omega
              have e2 := (HB4.out.cell (p := ⟨g, k + 1, none⟩) hg).trans hc2
              have HIT := Lib.hid (items_ref a'' n'' c'' nx w4 HRN.out hn2)
              have HY := Lib.hid hy
              have HNO := Lib.hid hno
              clear hnx hc2 q3 q3' hy hno
              go_wp2_with fail
              refine HIT.out.mono ?_
              rintro e w5 ⟨v5, rfl, hP, hb5⟩
              have hpos : 0 < (itms nx).length := (List.getElem?_eq_some_iff.1 HY.out).1
              obtain ⟨A5, C5, rfl⟩ := pitems_slice hP
              obtain ⟨g5, rfl, _, hg5, hat5⟩ := pitems_at hP hpos
              obtain ⟨p0, _⟩ := hat5 0 y HY.out
              rw [Nat.zero_mul] at p0
              have HB5 := Lib.hid (HB4.out.trans (hb5.mono HB4.out.size))
              have OWNX := Lib.hid ((Turn.of_new hb5 : Turn (fun _ => False) w4 w5).kept OWN4.out (fun _ _ => id))
              have hlz : (((itms nx).length : Int) == 0) = false := by simp; intro h; rw [h] at hpos; simp at hpos
              have hposi : (0 : Int) < ((itms nx).length : Int) := by omega
              have hno := HNO.out
              rw [HNI.out] at hno
              have hwy := width_one y
              generalize Cw.width y = wy at *
              generalize (itms nx).length = ly at *
              obtain ⟨mn1, hmn1⟩ : ∃ mn1, (if W < wy then W else wy) = mn1 := ⟨_, rfl⟩
              have hm1e : mn1 = min wy W := by rw [← hmn1]; split <;> omega
              obtain ⟨mn2, hmn2⟩ : ∃ mn2, (if W < ni then W else ni) = mn2 := ⟨_, rfl⟩
              have hm2e : mn2 = min ni W := by rw [← hmn2]; split <;> omega
              have x5 : IntKind.i64.wrap (W - mn2) = W - mn2 := IntWalk.i64_in _ (by omega)
              have d6 : decide (mn1 ≤ W - mn2) = false := decide_eq_false (by omega)
              clear hm1e hno hP hat5 hb5 HIT hwy
              try clear hm2e
              have q9 := (Turn.of_new HB5.out : Turn (fun _ => False) w2 w5).kept HQ2.out (fun _ _ => id)
              have HSRC : Hid (Src w5 a' n' 1 (ln.map (Value.int .i32))) := src_own q9
              have e1 := ((HB5.out).cell (p := ⟨g, k, none⟩) hg).trans HC1.out
              have hszB := (HB5.out).size
              clear q9
              go_wp2_with (at_builtin; (refine wpList_append_src _ rfl _ _ 22 rfl w2.heap.size 21 i1 _ 1 4 Try.underlying22 hi1 hy0 hy1 hy2 rfl (by decide) _ lk _ rfl OWNX.out a' n' c' (ln.map (Value.int .i32)) rfl HSRC.out (one_cells _ _) (by unfold maxLen; omega) (by omega) (by omega) ?_; intro v9 w9 hown9 hgrow9))
              have R : Hid (w9.ownsRow w2.heap.size 21 1 v9 (((fl W xs).take (k + 1)).flatten).length ((((fl W xs).take (k + 1)).flatten).map (Value.int .i32)) ∧ Below w2.heap.size w2 w9) := by
                rw [HNX.out.1, HNX.out.2]
                exact ⟨hown9, (HB5.out).grown hgrow9 hszB (fun j e => (OWNX.out.lt j e).1)⟩
              clear hown9 hgrow9 OWNX HSRC
              go_roundw
              case rel => exact ⟨k + 1, by omega, by go_num, R⟩
              case measure => simp [intOf]; omega
            · have d5 : decide ((k : Int) + 1 < (L : Int)) = false := decide_eq_false (by omega)
              have hk1' : ¬ (k : Int) + 1 < (L : Int) := by omega
              have OWNX := OWN4
              have q9 := (Turn.of_new HB4.out : Turn (fun _ => False) w2 w4).kept HQ2.out (fun _ _ => id)
              have HSRC : Hid (Src w4 a' n' 1 (ln.map (Value.int .i32))) := src_own q9
              have e1 := ((HB4.out).cell (p := ⟨g, k, none⟩) hg).trans HC1.out
              have hszB := (HB4.out).size
              clear q9
              go_wp2_with (at_builtin; (refine wpList_append_src _ rfl _ _ 22 rfl w2.heap.size 21 i1 _ 1 4 Try.underlying22 hi1 hy0 hy1 hy2 rfl (by decide) _ lk _ rfl OWNX.out a' n' c' (ln.map (Value.int .i32)) rfl HSRC.out (one_cells _ _) (by unfold maxLen; omega) (by omega) (by omega) ?_; intro v9 w9 hown9 hgrow9))
              have R : Hid (w9.ownsRow w2.heap.size 21 1 v9 (((fl W xs).take (k + 1)).flatten).length ((((fl W xs).take (k + 1)).flatten).map (Value.int .i32)) ∧ Below w2.heap.size w2 w9) := by
                rw [HNX.out.1, HNX.out.2]
                exact ⟨hown9, (HB4.out).grown hgrow9 hszB (fun j e => (OWNX.out.lt j e).1)⟩
              clear hown9 hgrow9 OWNX HSRC
              go_roundw
              case rel => exact ⟨k + 1, by omega, by go_num, R⟩
              case measure => simp [intOf]; omega
        · obtain rfl : k = L := by omega
          have e9 : (fl W xs).take k = fl W xs := List.take_of_length_le (by rw [HLL.out]; exact Nat.le_refl _)
          have ho := H.out.1
          rw [e9, HLAW.out.1, HL.out] at ho
          have hsz2 := HB2.out.size
          have HBE := Lib.hid (HB2.out.trans (H.out.2.mono (by exact hsz2)))
          have hlx : ((((fl W xs).take k).flatten).length) = xs.length := by rw [e9, HLAW.out.1]
          rw [hlx, HL.out]
          have HS := Lib.hid (same_true av _ cv xs a _ c wr (ints_of_own ho) (HH.out.below HBE.out).ints hm)
          go_wp2_with fail
          refine HS.out.mono ?_
          rintro e w9 ⟨rfl, hb9⟩
          have HB9 := Lib.hid (HBE.out.trans (hb9.mono HBE.out.size))
          go_wp2
          go_ret
          exact ⟨rfl, HB9.out⟩

end Go.Proofs.Ytihanlahegngoaa.Fit

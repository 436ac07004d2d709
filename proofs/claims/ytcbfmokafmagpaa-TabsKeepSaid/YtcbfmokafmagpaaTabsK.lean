/-
  The walk of the statement TabsKeep.
-/
import Derived.Test.YtcbfmokafmagpaaTabsW
import Derived.Test.YtcbfmokafmagpaaTabsB
import Derived.BigQuiet
import Derived.Test.YtcbfmokafmagpaaOpenInts
namespace Go.Proofs.Ytcbfmokafmagpaa.Stops
set_option linter.unusedSimpArgs false
set_option linter.unusedVariables false
open Go Go.RowKit Go.Shelf Mem Turn Gra Same GraLaw Mea

theorem ints_drewN {k : IntKind} {w : World} {a : Option Addr} {n : Nat} {xs : List Int} (h : Ints k w a n xs) (m : Nat) : Ints k (w.drewN m) a n xs := h.below (bdrew w m)

set_option maxRecDepth 100000 in
set_option maxHeartbeats 16000000 in
theorem keep_any (w : World) (a1 : Option Addr) (n1 c1 : Nat) (cols : List Int) (h1 : Ints .i64 w a1 n1 cols) (hn1 : n1 ≤ 9223372036854775807) (a2 : Option Addr) (n2 c2 : Nat) (off : List Int) (h2 : Ints .i64 w a2 n2 off) (hn2 : n2 ≤ 9223372036854775807) (x : Int) :
    Calls Try.prog 5 #[.slice a1 n1 c1, .slice a2 n2 c2, .int .i64 x] w fun e w' => e = .returned (.bool true) ∧ Below w.heap.size w w' := by
  obtain ⟨i0, hi, hz0, hz1, hz2⟩ := info_parts info_int
  have H1 := Lib.hid h1
  have H2 := Lib.hid h2
  have HL1 := Lib.hid h1.1
  have HL2 := Lib.hid h2.1
  clear h1 h2
  by_cases g1 : 60 < n1
  · have d1 : decide (60 < (n1 : Int)) = true := by simp; omega
    go_enter Try.func5, Try.ntmps5
    go_wp2_with fail
    refine (works_any _).mono ?_; rintro e w1 ⟨rfl, hb1⟩
    go_wp2_with fail
    refine (works_any _).mono ?_; rintro e w2 ⟨rfl, hb2⟩
    have hb2 := hb1.trans (hb2.mono hb1.size)
    go_wp2
    go_ret
    exact ⟨rfl, hb2⟩
  have d1 : decide (60 < (n1 : Int)) = false := by simp; omega
  by_cases g2 : 60 < n2
  · have d2 : decide (60 < (n2 : Int)) = true := by simp; omega
    go_enter Try.func5, Try.ntmps5
    go_wp2_with fail
    refine (works_any _).mono ?_; rintro e w1 ⟨rfl, hb1⟩
    go_wp2_with fail
    refine (works_any _).mono ?_; rintro e w2 ⟨rfl, hb2⟩
    have hb2 := hb1.trans (hb2.mono hb1.size)
    go_wp2
    go_ret
    exact ⟨rfl, hb2⟩
  have d2 : decide (60 < (n2 : Int)) = false := by simp; omega
  go_enter Try.func5, Try.ntmps5
  go_wp2_with fail
  refine (works_any _).mono ?_; rintro e w1 ⟨rfl, hb1⟩
  go_wp2_with fail
  have HB1 := Lib.hid hb1
  refine (of_any a1 n1 c1 cols w1 (H1.out.below hb1) (by omega)).mono ?_
  rintro e w2 ⟨rfl, hcs, hb2⟩
  have HCS : Hid (∃ cs, Rise cs ∧ (∀ y, y ∈ cs ↔ Given cols y ∧ y ∉ off.take 0) ∧ StopsAt w2 w1.heap.size (w1.heap.size + 1) cs) := by
    obtain ⟨cs, e1, e2, e3⟩ := hcs
    exact Lib.hid ⟨cs, e1, fun y => by rw [e2 y]; simp, e3⟩
  have HB2 := Lib.hid hb2
  have HWS := hb1.size
  clear hb1 hcs hb2
  have g3 : n1 ≤ 60 := by omega
  have g4 : n2 ≤ 60 := by omega
  clear d1 d2 g1 g2
  go_wp2
  -- the stops that are taken away
  go_loopw [9] (fun i wr => ∃ k : Nat, k ≤ n2 ∧ i = .int .i64 k ∧ Hid ((∃ cs, Rise cs ∧ (∀ y, y ∈ cs ↔ Given cols y ∧ y ∉ off.take k) ∧ StopsAt wr w1.heap.size (w1.heap.size + 1) cs) ∧ Below w1.heap.size w1 wr)) (fun i _ => n2 - (intOf i).toNat)
  case atStart => exact ⟨0, Nat.zero_le _, rfl, HCS.out, HB2.out⟩
  case round =>
    obtain ⟨k, hk, rfl, H⟩ := hrel
    by_cases hlt : k < n2
    · have hlt1 : (k : Int) < n2 := by omega
      have u1 : IntKind.i64.wrap ((k : Int) + 1) = (k : Int) + 1 := IntWalk.i64_in _ (by omega)
      obtain ⟨y, b, o, hy, rfl, hb, hcell⟩ := ints_at H2.out hlt
      have hcell := ((HB1.out.trans (H.out.2.mono HWS)).cell (p := ⟨b, o + k, none⟩) hb).trans hcell
      obtain ⟨⟨cs, hr, hm, hs⟩, hbw⟩ := H.out
      have HY := Lib.hid hy
      have HM := Lib.hid hm
      have HBW := Lib.hid hbw
      have HSE := Lib.hid (set_any w1.heap.size (w1.heap.size + 1) cs hr wr hs y false)
      clear hy hm hs hbw hr H
      go_wp2_with fail
      refine HSE.out.mono ?_
      rintro e w3 ⟨rfl, cs', hP, hs1, ht⟩
      have R : Hid ((∃ cs, Rise cs ∧ (∀ y, y ∈ cs ↔ Given cols y ∧ y ∉ off.take (k + 1)) ∧ StopsAt w3 w1.heap.size (w1.heap.size + 1) cs) ∧ Below w1.heap.size w1 w3) := by
        refine Lib.hid ⟨⟨cs', hP.1, fun z => ?_, hs1⟩, HBW.out.trans (ht.below HBW.out.size (fun j hj => by omega))⟩
        rw [hP.2 z, List.take_add_one, HY.out]
        simp only [Bool.false_eq_true, if_false]
        rw [HM.out z]
        simp only [Option.toList_some, List.mem_append, List.mem_singleton, not_or]
        constructor
        · rintro ⟨⟨e1, e2⟩, e3⟩
          exact ⟨e1, e2, e3⟩
        · rintro ⟨e1, e2, e3⟩
          exact ⟨⟨e1, e2⟩, e3⟩
      clear hP hs1 ht HSE
      go_wp2
      go_roundw
      case rel => exact ⟨k + 1, by omega, by go_num, R⟩
      case measure => simp [intOf]; omega
    · obtain rfl : n2 = k := by omega
      have HE : Hid (∃ cs, Rise cs ∧ (∀ y, y ∈ cs ↔ Given (wantL off cols n1) y) ∧ StopsAt wr w1.heap.size (w1.heap.size + 1) cs) := by
        obtain ⟨cs, e1, e2, e3⟩ := H.out.1
        rw [List.take_of_length_le (by rw [HL2.out]; exact Nat.le_refl _)] at e2
        exact Lib.hid ⟨cs, e1, fun y => (e2 y).trans (given_want (by rw [HL1.out]; exact Nat.le_refl _) y).symm, e3⟩
      have HBA : Hid (Below w.heap.size w wr) := Lib.hid (HB1.out.trans (H.out.2.mono HWS))
      have HSA := H.out.2.size
      clear H HB2 HCS
      generalize wr = wA at *
      go_wp2
      -- what is wanted
      go_loopw [8, 10, 11, 12] (fun v i g j wr => ∃ k : Nat, k ≤ n1 ∧ i = .int .i64 k ∧ Hid (wr.ownsRow wA.heap.size 3 1 v (wantL off cols k).length ((wantL off cols k).map (Value.int .i64)) ∧ Below wA.heap.size wA wr)) (fun _ i _ _ _ => n1 - (intOf i).toNat)
      case atStart => exact ⟨0, Nat.zero_le _, rfl, World.ownsRow_nil _ _ _ _, Below.refl _ _⟩
      case round =>
        obtain ⟨k, hk, rfl, H⟩ := hrel
        obtain ⟨H8, HBW⟩ := H.out
        obtain ⟨av, cv, rfl⟩ := own_slice H8
        have H8 := Lib.hid H8
        have HBW := Lib.hid HBW
        clear H
        by_cases hlt : k < n1
        · have hlt1 : (k : Int) < n1 := by omega
          have u1 : IntKind.i64.wrap ((k : Int) + 1) = (k : Int) + 1 := IntWalk.i64_in _ (by omega)
          obtain ⟨y, b1, o1, hy, rfl, hb1, hcell1⟩ := ints_at H1.out hlt
          have HY := Lib.hid hy
          clear hy
          generalize hLL : (wantL off cols k).length = L at *
          have HLL := Lib.hid hLL
          have hLk : L ≤ 60 := by rw [← hLL]; have := wantL_len off cols k; omega
          clear hLL
          generalize wr = wq at *
          have hcell1 := ((HBA.out.trans (HBW.out.mono HBA.out.size)).cell (p := ⟨b1, o1 + k, none⟩) hb1).trans hcell1
          go_wp2
          go_loopw [11, 12] (fun g j wr => ∃ m : Nat, m ≤ n2 ∧ j = .int .i64 m ∧ g = .bool ((off.take m).contains y) ∧ Hid (Below wq.heap.size wq wr)) (fun _ j _ => n2 - (intOf j).toNat)
          case atStart => exact ⟨0, Nat.zero_le _, rfl, rfl, Below.refl _ _⟩
          case round =>
            obtain ⟨m, hm, rfl, rfl, HQ⟩ := hrel
            by_cases hltm : m < n2
            · have hltm1 : (m : Int) < n2 := by omega
              have u2 : IntKind.i64.wrap ((m : Int) + 1) = (m : Int) + 1 := IntWalk.i64_in _ (by omega)
              obtain ⟨z, b2, o2, hz, rfl, hb2, hcell2⟩ := ints_at H2.out hltm
              have hbq := HBA.out.trans (HBW.out.mono HBA.out.size)
              have hcell2 := ((hbq.trans (HQ.out.mono hbq.size)).cell (p := ⟨b2, o2 + m, none⟩) hb2).trans hcell2
              have hcell1 := (HQ.out.cell (p := ⟨b1, o1 + k, none⟩) (Nat.lt_of_lt_of_le hb1 hbq.size)).trans hcell1
              have hs : (off.take (m + 1)).contains y = ((off.take m).contains y || z == y) := by
                rw [List.take_add_one, hz]
                simp [Bool.beq_comm, eq_comm]
                rfl
              have HS := Lib.hid hs
              clear hs hz hbq
              generalize (off.take m).contains y = gb at *
              cases gb
              · by_cases hzy : z = y
                · have dzy : (z == y) = true := by simp [hzy]
                  have R : Hid ((off.take (m + 1)).contains y = true) := Lib.hid (by rw [HS.out, dzy]; rfl)
                  clear HS hzy
                  go_wp2
                  go_quiet (fail)
                  go_wp2
                  go_roundw
                  case rel => exact ⟨m + 1, by omega, by go_num, by rw [R.out], HQ.out.trans (bdrew _ _ |>.mono HQ.out.size)⟩
                  case measure => simp [intOf]; omega
                · have dzy : (z == y) = false := by simp [hzy]
                  have R : Hid ((off.take (m + 1)).contains y = false) := Lib.hid (by rw [HS.out, dzy]; rfl)
                  clear HS hzy
                  go_wp2
                  go_quiet (fail)
                  go_wp2
                  go_roundw
                  case rel => exact ⟨m + 1, by omega, by go_num, by rw [R.out], HQ.out.trans (bdrew _ _ |>.mono HQ.out.size)⟩
                  case measure => simp [intOf]; omega
              · have R : Hid ((off.take (m + 1)).contains y = true) := Lib.hid (by rw [HS.out]; rfl)
                clear HS
                go_wp2
                go_quiet (fail)
                go_wp2
                go_roundw
                case rel => exact ⟨m + 1, by omega, by go_num, by rw [R.out], HQ.out.trans (bdrew _ _ |>.mono HQ.out.size)⟩
                case measure => simp [intOf]; omega
            · obtain rfl : n2 = m := by omega
              have hall : off.take n2 = off := List.take_of_length_le (by rw [HL2.out]; exact Nat.le_refl _)
              rw [hall]
              have hbq := HBA.out.trans (HBW.out.mono HBA.out.size)
              have hcell1 := (HQ.out.cell (p := ⟨b1, o1 + k, none⟩) (Nat.lt_of_lt_of_le hb1 hbq.size)).trans hcell1
              have H8' := Lib.hid ((Turn.of_new HQ.out : Turn (fun _ => False) wq wr).kept H8.out (fun _ _ => id))
              have HBW' := Lib.hid (HBW.out.trans (HQ.out.mono HBW.out.size))
              have hws := HBW'.out.size
              clear hall hbq H8 HBW HQ
              by_cases hg : off.contains y = true
              · have HN := Lib.hid (wantL_in HY.out hg)
                rw [hg]
                clear hg
                go_wp2
                go_roundw
                case rel => exact ⟨k + 1, by omega, by go_num, by rw [HN.out, HLL.out]; exact ⟨H8'.out, HBW'.out⟩⟩
                case measure => simp [intOf]; omega
              · have hg' : off.contains y = false := by simpa using hg
                have HN := Lib.hid (wantL_out HY.out hg')
                rw [hg']
                clear hg hg'
                go_wp2_with (at_builtin; (refine wpList_append_own _ rfl _ _ 40 rfl wA.heap.size 3 i0 _ 1 8 Try.underlying40 hi hz0 hz1 hz2 rfl (by decide) (.slice av L cv) L _ rfl (H8'.out.alloc _) ⟨wr.heap.size, 0, none⟩ 1 1 [.int .i64 y] rfl rfl (cell_new1 _ _ _) (by simp [Value.oneCell']) (by unfold maxLen; omega) (by omega) (by simp; omega) ?_; intro v5 w5 hown5 hgrow5 _))
                have R : Hid (w5.ownsRow wA.heap.size 3 1 v5 (wantL off cols (k + 1)).length ((wantL off cols (k + 1)).map (Value.int .i64)) ∧ Below wA.heap.size wA w5) := by
                  rw [HN.out, List.length_append, HLL.out, List.map_append]
                  exact Lib.hid ⟨hown5, (HBW'.out.alloc hws _).grown hgrow5 (by simp; omega) (fun j e => (H8'.out.lt j e).1)⟩
                clear hown5 hgrow5 H8'
                go_roundw
                case rel => exact ⟨k + 1, by omega, by go_num, R⟩
                case measure => simp [intOf]; omega
        · obtain rfl : n1 = k := by omega
          have hLk : (wantL off cols n1).length ≤ 60 := by have := wantL_len off cols n1; omega
          have HI8 := Lib.hid (ints_of_own H8.out)
          obtain ⟨cs, hr, hm, hs⟩ := HE.out
          have HR := Lib.hid hr
          have HM := Lib.hid hm
          have HST := Lib.hid (hs.turn (Turn.of_new HBW.out : Turn (fun _ => False) wA wr) (fun _ h => h.elim))
          have HBB := Lib.hid (HBA.out.trans (HBW.out.mono HBA.out.size))
          have hcl := rise_len hr
          have HWA := HBW.out.size
          clear hr hm hs HE H8 HBW HBA
          generalize wantL off cols n1 = want at *
          generalize hLL : want.length = L at *
          clear hLL
          generalize wr = wB at *
          go_wp2_with fail
          refine (all_any _ _ cs HR.out wB HST.out).mono ?_
          rintro e wC ⟨vl, rfl, hol, hbC⟩
          obtain ⟨al, cl', rfl⟩ := own_slice hol
          have HIL := Lib.hid (ints_of_own hol)
          have HSC := Lib.hid (HST.out.below hbC)
          have HBC := Lib.hid (HBB.out.trans (hbC.mono HBB.out.size))
          have HIW := Lib.hid (HI8.out.below hbC)
          clear hol hbC HST HBB HI8
          generalize hnn : cs.length = N at *
          have HNN := Lib.hid hnn
          clear hnn
          go_wp2
          -- those that are there rise and were wanted
          go_loopw [14] (fun i wr => ∃ k : Nat, k ≤ N ∧ i = .int .i64 k ∧ Hid (Below wC.heap.size wC wr)) (fun i _ => N - (intOf i).toNat)
          case atStart => exact ⟨0, Nat.zero_le _, rfl, Below.refl _ _⟩
          case round =>
            obtain ⟨k, hk, rfl, HQ⟩ := hrel
            by_cases hlt : k < N
            · have hlt1 : (k : Int) < N := by omega
              have u1 : IntKind.i64.wrap ((k : Int) + 1) = (k : Int) + 1 := IntWalk.i64_in _ (by omega)
              obtain ⟨y, b, o, hy, rfl, hb, hcell⟩ := ints_at HIL.out hlt
              have hcell := (HQ.out.cell (p := ⟨b, o + k, none⟩) hb).trans hcell
              have hgy : Given want y := (HM.out y).1 (List.mem_of_getElem? hy)
              have J : Hid (∀ m, Calls Try.prog 19 #[.slice av L cv, .int .i64 y] (wr.drewN m) fun e w' => e = .returned (.bool true) ∧ w' = wr.drewN m) := Lib.hid fun m =>
                (has_any av L cv want (wr.drewN m) (ints_drewN (HIW.out.below HQ.out) m) (by omega) y).mono fun e w' h => ⟨by rw [h.1, hasB_true hgy], h.2.symm⟩
              clear hgy
              by_cases hk0 : k ≤ 0
              · have d0 : decide ((0 : Int) < (k : Int)) = false := decide_eq_false (by omega)
                have d0' : decide (0 < k) = false := decide_eq_false (by omega)
                clear hk0
                go_wp2
                go_quiet ((go_at_call 19; exact Calls.quiet_of_same (J.out _)))
                go_wp2
                go_roundw
                case rel => exact ⟨k + 1, by omega, by go_num, HQ.out.trans (bdrew _ _ |>.mono HQ.out.size)⟩
                case measure => simp [intOf]; omega
              · have d0 : decide ((0 : Int) < (k : Int)) = true := decide_eq_true (by omega)
                have d0' : decide (0 < k) = true := decide_eq_true (by omega)
                obtain ⟨y', b', o', hy', hbe, hb', hcell'⟩ := ints_at HIL.out (show k - 1 < N by omega)
                injection hbe with hbe
                injection hbe with e1 e2
                subst e1 e2
                have hcell' := (HQ.out.cell (p := ⟨b, o + (k - 1), none⟩) hb).trans hcell'
                have hrr := rise_at HR.out hy' (y := y) (by rw [show k - 1 + 1 = k by omega]; exact hy)
                have d1 : decide (y ≤ y') = false := decide_eq_false (by omega)
                have u2 : IntKind.i64.wrap ((k : Int) - 1) = (k : Int) - 1 := IntWalk.i64_in _ (by omega)
                have e3 : ((k : Int) - 1).toNat = k - 1 := by omega
                have q3 : (0 : Int) ≤ (k : Int) - 1 := by omega
                have q4 : (k : Int) - 1 < (N : Int) := by omega
                clear hrr hy hy' hk0
                go_wp2
                go_quiet ((go_at_call 19; exact Calls.quiet_of_same (J.out _)))
                go_wp2
                go_roundw
                case rel => exact ⟨k + 1, by omega, by go_num, HQ.out.trans (bdrew _ _ |>.mono HQ.out.size)⟩
                case measure => simp [intOf]; omega
            · obtain rfl : N = k := by omega
              have HSD := Lib.hid (HSC.out.below HQ.out)
              have HID := Lib.hid (HIW.out.below HQ.out)
              have HBD := Lib.hid (HBC.out.trans (HQ.out.mono HBC.out.size))
              clear HSC HIW HBC HQ HIL
              generalize wr = wD at *
              go_wp2
              -- how many were wanted
              go_loopw [15, 16] (fun t i wr => ∃ k u : Nat, 1 ≤ k ∧ k ≤ 1024 ∧ i = .int .i64 k ∧ t = .int .i64 u ∧ u ≤ 1023 ∧ Hid (u = cs.countP (· < (k : Int))) ∧ wD = wr) (fun _ i _ => 1024 - (intOf i).toNat)
              case atStart => exact ⟨1, 0, Nat.le_refl _, by omega, rfl, rfl, by omega, (count_first HR.out).symm, rfl⟩
              case round =>
                obtain ⟨k, u, hk1, hk, rfl, rfl, hu, HU, rfl⟩ := hrel
                by_cases hlt : k ≤ 1023
                · have hlt1 : (k : Int) ≤ 1023 := by omega
                  have dlt : decide ((k : Int) ≤ 1023) = true := decide_eq_true hlt1
                  have u1 : IntKind.i64.wrap ((k : Int) + 1) = (k : Int) + 1 := IntWalk.i64_in _ (by omega)
                  have u2 : IntKind.i64.wrap ((u : Int) + 1) = (u : Int) + 1 := IntWalk.i64_in _ (by omega)
                  have hc := count_next (k : Int) HR.out.1
                  have hcl2 : cs.countP (· < (k : Int) + 1) ≤ cs.length := count_le cs _
                  rw [← HU.out] at hc
                  by_cases hg : Given want (k : Int)
                  · have hkc := (HM.out k).2 hg
                    rw [if_pos hkc] at hc
                    have HU2 : Hid (u + 1 = cs.countP (· < ((k + 1 : Nat) : Int))) := Lib.hid (by rw [← hc]; rfl)
                    have hu2 : u + 1 ≤ 1023 := by rw [HNN.out] at hcl2; omega
                    have e1 := hasB_true hg
                    clear hg hkc hc hcl2
                    go_wp2_with fail
                    refine (has_any av L cv want wD HID.out (by omega) (k : Int)).mono ?_
                    rw [e1]
                    rintro e w1 ⟨rfl, rfl⟩
                    go_wp2
                    go_roundw
                    case rel => exact ⟨k + 1, u + 1, by omega, by omega, by go_num, by go_num, hu2, HU2, trivial⟩
                    case measure => simp [intOf]; omega
                  · have hkc : ¬ (k : Int) ∈ cs := fun h => hg ((HM.out k).1 h)
                    rw [if_neg hkc] at hc
                    have HU2 : Hid (u = cs.countP (· < ((k + 1 : Nat) : Int))) := Lib.hid (by rw [Nat.add_zero] at hc; rw [← hc]; rfl)
                    have e1 := hasB_false hg
                    clear hg hkc hc hcl2
                    go_wp2_with fail
                    refine (has_any av L cv want wD HID.out (by omega) (k : Int)).mono ?_
                    rw [e1]
                    rintro e w1 ⟨rfl, rfl⟩
                    go_wp2
                    go_roundw
                    case rel => exact ⟨k + 1, u, by omega, by omega, by go_num, rfl, hu, HU2, trivial⟩
                    case measure => simp [intOf]; omega
                · obtain rfl : k = 1024 := by omega
                  have huN : u = N := by rw [HU.out, ← HNN.out]; exact count_last HR.out
                  subst huN
                  go_wp2_with fail
                  refine (set_nil _ _ _).mono ?_
                  rintro e w3 ⟨rfl, rfl⟩
                  go_wp2_with fail
                  refine (next_any _ _ cs HR.out wD HSD.out x).mono ?_
                  rintro e w3 ⟨⟨r, rfl, hr1⟩, rfl⟩
                  go_wp2_with fail
                  refine (rnext_any av L cv want wD HID.out (by omega) x).mono ?_
                  rintro e w3 ⟨⟨r', rfl, hr2⟩, rfl⟩
                  have hM : (fun y => y ∈ cs) = Given want := funext fun y => propext (HM.out y)
                  have HMM := Lib.hid hM
                  rw [hM] at hr1
                  obtain rfl := nextQ_one hr1 hr2
                  clear hr1 hr2 hM
                  go_wp2_with fail
                  refine (prev_any _ _ cs HR.out wD HSD.out x).mono ?_
                  rintro e w3 ⟨⟨p, rfl, hr1⟩, rfl⟩
                  go_wp2_with fail
                  refine (rprev_any av L cv want wD HID.out (by omega) x).mono ?_
                  rintro e w3 ⟨⟨p', rfl, hr2⟩, rfl⟩
                  rw [HMM.out] at hr1
                  obtain rfl := prevQ_one hr1 hr2
                  clear hr1 hr2
                  go_wp2_with fail
                  refine (next_nil _ _).mono ?_
                  rintro e w3 ⟨rfl, rfl⟩
                  go_wp2_with fail
                  refine (prev_nil _ _).mono ?_
                  rintro e w3 ⟨rfl, rfl⟩
                  go_wp2_with fail
                  refine (all_nil _).mono ?_
                  rintro e w3 ⟨rfl, rfl⟩
                  go_wp2
                  go_ret
                  exact ⟨rfl, HBD.out⟩

theorem keep_row (w : World) (a1 : Option Addr) (n1 c1 : Nat) (cols : List Int) (h1 : IsInts w a1 n1 c1 cols) (a2 : Option Addr) (n2 c2 : Nat) (off : List Int) (h2 : IsInts w a2 n2 c2 off) (x : Int) (_ : -9223372036854775808 ≤ x) (_ : x ≤ 9223372036854775807) :
    Calls Try.prog 5 #[.slice a1 n1 c1, .slice a2 n2 c2, .int .i64 x] w fun e w' => e = .returned (.bool true) ∧ Below w.heap.size w w' :=
  keep_any w a1 n1 c1 cols h1.1 (Nat.le_trans h1.2.1 h1.2.2) a2 n2 c2 off h2.1 (Nat.le_trans h2.2.1 h2.2.2) x

end Go.Proofs.Ytcbfmokafmagpaa.Stops

/-
  pack.Table.Spans.
-/
import Derived.Test.YtpeniadomjijcaaPackV
import Derived.Test.YtpeniadomjijcaaPackW
namespace Go.Proofs.Ytpeniadomjijcaa.Pack
set_option linter.unusedSimpArgs false
set_option linter.unusedVariables false
open Go Go.RowKit Mem Turn Sp TabLaw

/-- what is told so far lies in a slice of the call's own -/
def Told (w : World) (l : List S3) (N : Nat) (v : Value) (wr : World) : Prop := wr.ownsRow w.heap.size 29 3 v (scan l N).length (cells (scan l N)) ∧ Below w.heap.size w wr

theorem told_new {w w2 w3 : World} {l : List S3} {N : Nat} {y : Int} {v3 : Value} {av : Option Addr} {cv n : Nat} (hy : 0 < val3 l (N : Int)) (hyv : val3 l (N : Int) = y) (hs : scan l (N + 1) = scan l N ++ [((N : Int), (N : Int), y)]) (hn : (scan l N).length = n)
    (hb : Below w.heap.size w w2) (ho : w2.ownsRow w.heap.size 29 3 (.slice av n cv) n (cells (scan l N))) (o : Obj)
    (hown : w3.ownsRow w.heap.size 29 3 v3 (n + 1) (cells (scan l N) ++ [.int .i64 (N : Int), .int .i64 (N : Int), .int .i64 y])) (hg : (w2.alloc o).grownBy w3 (Value.slice av n cv).ownBlock) : Told w l (N + 1) v3 w3 := by
  have hb3 : Below w.heap.size w (w2.alloc o) := hb.alloc hb.size _
  refine ⟨?_, hb3.grown hg hb3.size (fun g e => (ho.lt g e).1)⟩
  rw [hs, List.length_append, List.length_singleton, hn, cells_app]
  exact hown
theorem told_none {w w2 : World} {l : List S3} {N : Nat} {av : Option Addr} {cv n : Nat} (hy : val3 l (N : Int) ≤ 0) (hn : (scan l N).length = n)
    (hb : Below w.heap.size w w2) (ho : w2.ownsRow w.heap.size 29 3 (.slice av n cv) n (cells (scan l N))) : Told w l (N + 1) (.slice av n cv) w2 := by
  refine ⟨?_, hb⟩
  rw [scan, if_neg (by omega), hn]
  exact ho
theorem scan_new_nil {l : List S3} {N : Nat} (h : 0 < val3 l (N : Int)) (e : scan l N = []) : scan l (N + 1) = scan l N ++ [((N : Int), (N : Int), val3 l (N : Int))] := by
  rw [scan, if_pos h, e, lay_nil]
  rfl
theorem scan_new {l a : List S3} {p : S3} {N : Nat} (h : 0 < val3 l (N : Int)) (e : scan l N = a ++ [p]) (hp : ¬ (p.2.2 = val3 l (N : Int) ∧ p.2.1 = (N : Int) - 1)) : scan l (N + 1) = scan l N ++ [((N : Int), (N : Int), val3 l (N : Int))] := by
  rw [scan, if_pos h, e, lay_new a p _ hp]
theorem scan_long {l a : List S3} {p : S3} {N : Nat} (h : 0 < val3 l (N : Int)) (e : scan l N = a ++ [p]) (hp : p.2.2 = val3 l (N : Int) ∧ p.2.1 = (N : Int) - 1) : scan l (N + 1) = a ++ [(p.1, (N : Int), p.2.2)] := by
  rw [scan, if_pos h, e, lay_long a p _ hp]
theorem scan_none {l : List S3} {N : Nat} (h : ¬ 0 < val3 l (N : Int)) : scan l (N + 1) = scan l N := by
  rw [scan, if_neg h]

set_option maxRecDepth 100000 in
set_option maxHeartbeats 8000000 in
theorem spans_any (v : Value) (l : List S3) (hr : Right l) (w : World) (h : TabOf w v l) : Calls Try.prog 13 #[v] w (OwnP w.heap.size w (fewest l)) := by
  obtain ⟨i0, hi, hz0, hz1, hz2⟩ := info_parts info_span
  have HT := Lib.hid h
  have HR := Lib.hid hr
  obtain ⟨qt, base, rfl, _⟩ := h
  clear hr
  go_enter Try.func13, Try.ntmps13
  go_wp2_with fail
  go_loopw [3, 4] (fun v i wr => ∃ N : Nat, N ≤ 1114112 ∧ i = .int .i64 N ∧ Hid (Told w l N v wr)) (fun _ i _ => 1114112 - (intOf i).toNat)
  case atStart => exact ⟨0, Nat.zero_le _, rfl, Lib.hid ⟨World.ownsRow_nil _ _ _ _, Below.refl _ _⟩⟩
  case round =>
    obtain ⟨N, hN, rfl, H⟩ := hrel
    by_cases hlt : N < 1114112
    · have hlt' : (N : Int) ≤ 1114111 := by omega
      obtain ⟨av, cv, rfl⟩ := own_sl H.out.1
      have HB := Lib.hid H.out.2
      have HO := Lib.hid H.out.1
      have hslen := scan_len l N
      have hbd := val3_bd HR.out (N : Int)
      obtain ⟨y, hy⟩ : ∃ y, val3 l (N : Int) = y := ⟨_, rfl⟩
      have HG := Lib.hid (get_any _ l HR.out (N : Int) wr (HT.out.below HB.out))
      rw [hy] at HG hbd
      have HV := Lib.hid hy
      clear hy H
      rcases List.eq_nil_or_concat (scan l N) with e | ⟨a, p, e⟩
      · have HE := Lib.hid e
        have hl0 : (scan l N).length = 0 := by rw [e]; rfl
        rw [hl0] at HO
        have HL0 := Lib.hid hl0
        rw [hl0]
        clear e hl0 hslen
        by_cases hy0 : 0 < y
        · have d1 : decide (0 < y) = true := decide_eq_true hy0
          have HY : Hid (0 < val3 l (N : Int)) := Lib.hid (by rw [HV.out]; exact hy0)
          have HSN := Lib.hid (scan_new_nil HY.out HE.out)
          rw [HV.out] at HSN
          go_wp2_with fail
          refine HG.out.mono ?_
          rintro e w2 ⟨rfl, dd, rfl⟩
          have HB2 := Lib.hid (HB.out.trans ((bdrew wr dd).mono HB.out.size))
          have HO2 : Hid ((wr.drewN dd).ownsRow w.heap.size 29 3 (.slice av 0 cv) (0) (cells (scan l N))) := Lib.hid ((Turn.drewN (fun _ => False) wr dd).kept HO.out (fun _ _ => id))
          generalize wr.drewN dd = w2 at *
          go_wp2_with (at_builtin; refine wpList_append_own _ rfl _ _ 22 rfl w.heap.size 29 i0 _ 3 24 Try.underlying22 hi hz0 hz1 hz2 rfl (by decide) _ 0 _ rfl (HO2.out.alloc _) ⟨w2.heap.size, 0, none⟩ 1 1 [.int .i64 (N : Int), .int .i64 (N : Int), .int .i64 y] rfl rfl (cell_new3 _ _ _ _ _) (one3 _ _ _) (by unfold maxLen; omega) (by omega) (by have := HB2.out.size; simp; omega) ?_; intro v3 w3 hown3 hgrow3 _)
          have HOW := Lib.hid (told_new HY.out HV.out HSN.out HL0.out HB2.out HO2.out _ hown3 hgrow3)
          clear hown3 hgrow3
          go_wp2_with fail
          go_roundw
          case rel => exact ⟨N + 1, by omega, by go_num, HOW⟩
          case measure => simp [intOf]; omega
        · have d1 : decide (0 < y) = false := decide_eq_false hy0
          have HNY : Hid (val3 l (N : Int) ≤ 0) := Lib.hid (by rw [HV.out]; omega)
          go_wp2_with fail
          refine HG.out.mono ?_
          rintro e w2 ⟨rfl, dd, rfl⟩
          have HB2 := Lib.hid (HB.out.trans ((bdrew wr dd).mono HB.out.size))
          have HO2 : Hid ((wr.drewN dd).ownsRow w.heap.size 29 3 (.slice av 0 cv) (0) (cells (scan l N))) := Lib.hid ((Turn.drewN (fun _ => False) wr dd).kept HO.out (fun _ _ => id))
          generalize wr.drewN dd = w2 at *
          go_wp2_with fail
          have HOW := Lib.hid (told_none HNY.out HL0.out HB2.out HO2.out)
          clear HB2 HO2
          go_roundw
          case rel => exact ⟨N + 1, by omega, by go_num, HOW⟩
          case measure => simp [intOf]; omega
      · rw [List.concat_eq_append] at e
        have HE := Lib.hid e
        obtain ⟨m, hm⟩ : ∃ m, a.length = m := ⟨_, rfl⟩
        have hl0 : (scan l N).length = m + 1 := by rw [e, List.length_append, hm]; rfl
        have hmN : m + 1 ≤ 1114112 := by omega
        have HPOS := Lib.hid (scan_pos l N p (by rw [e]; simp))
        rw [hl0] at HO
        have HL0 := Lib.hid hl0
        rw [hl0]
        obtain ⟨g, rfl, hg, hgc⟩ := own_some HO.out (by omega)
        obtain ⟨p0, p1, p2⟩ := p
        have hcells := (own_at HO.out).2 m (p0, p1, p2) (by rw [e, ← hm]; simp)
        rw [Nat.zero_add] at hcells
        obtain ⟨c0, c1, c2⟩ := hcells
        simp only at c0 c1 c2
        have f1 := HO.out.frozenAt (m * 3 + 1)
        have x1 : IntKind.i64.wrap (((m + 1 : Nat) : Int) - 1) = (m : Int) := by rw [show ((m + 1 : Nat) : Int) - 1 = (m : Int) from by omega]; exact IntWalk.i64_in _ (by omega)
        have x1' : IntKind.i64.wrap ((m : Int) + 1 - 1) = (m : Int) := by rw [show (m : Int) + 1 - 1 = (m : Int) from by omega]; exact IntWalk.i64_in _ (by omega)
        have x2 : IntKind.i64.wrap ((N : Int) - 1) = (N : Int) - 1 := IntWalk.i64_in _ (by omega)
        have hll : m < m + 1 := by omega
        have HM := Lib.hid hm
        clear e hl0 hslen hm
        by_cases hq : p2 = y ∧ p1 = (N : Int) - 1
        · obtain ⟨rfl, rfl⟩ := hq
          have d1 : (p2 == p2) = true := by simp
          have d2 : ((N : Int) - 1 == (N : Int) - 1) = true := by simp
          have HY : Hid (0 < val3 l (N : Int)) := Lib.hid (by rw [HV.out]; exact HPOS.out)
          have HSL := Lib.hid (scan_long HY.out HE.out ⟨HV.out.symm, rfl⟩)
          go_wp2_with fail
          refine HG.out.mono ?_
          rintro e w2 ⟨rfl, dd, rfl⟩
          have HB2 := Lib.hid (HB.out.trans ((bdrew wr dd).mono HB.out.size))
          have HO2 : Hid ((wr.drewN dd).ownsRow w.heap.size 29 3 (.slice (some ⟨g, 0, none⟩) (m + 1) cv) (m + 1) (cells (scan l N))) := Lib.hid ((Turn.drewN (fun _ => False) wr dd).kept HO.out (fun _ _ => id))
          have c0 : (wr.drewN dd).cell? ⟨g, m * 3, none⟩ = some (.int .i64 p0) := c0
          have c1 : (wr.drewN dd).cell? ⟨g, m * 3 + 1, none⟩ = some (.int .i64 ((N : Int) - 1)) := c1
          have c2 : (wr.drewN dd).cell? ⟨g, m * 3 + 2, none⟩ = some (.int .i64 p2) := c2
          have f1 : (wr.drewN dd).frozen? ⟨g, m * 3 + 1, none⟩ = false := f1
          generalize wr.drewN dd = w2 at *
          have HW : Hid (Told w l (N + 1) (.slice (some ⟨g, 0, none⟩) (m + 1) cv) (w2.setCell ⟨g, m * 3 + 1, none⟩ (.int .i64 (N : Int)))) := Lib.hid (by
            have hst := (HO2.out.stored (m * 3 + 1) (.int .i64 (N : Int))).1
            have hch := cells_hi a (p0, (N : Int) - 1, p2) (N : Int)
            rw [HM.out] at hch
            rw [HE.out, hch] at hst
            refine ⟨?_, HB2.out.setCell (p := ⟨g, m * 3 + 1, none⟩) hg _⟩
            rw [HSL.out]
            have hll2 : (a ++ [(p0, (N : Int), p2)]).length = m + 1 := by rw [List.length_append, HM.out]; rfl
            show World.ownsRow _ _ _ _ _ (a ++ [(p0, (N : Int), p2)]).length _
            rw [hll2]
            exact hst)
          go_wp2_with fail
          go_roundw
          case rel => exact ⟨N + 1, by omega, by go_num, HW⟩
          case measure => simp [intOf]; omega
        · have hq2 : Hid ((p2 == y) = false ∨ ((p2 == y) = true ∧ (p1 == (N : Int) - 1) = false)) := Lib.hid (by
            by_cases h1 : p2 = y
            · exact .inr ⟨by simpa using h1, by simpa using fun h2 => hq ⟨h1, h2⟩⟩
            · exact .inl (by simpa using h1))
          have HNQ : Hid (¬ (p2 = val3 l (N : Int) ∧ p1 = (N : Int) - 1)) := Lib.hid (by rw [HV.out]; exact hq)
          clear hq
          by_cases hy0 : 0 < y
          · have d1 : decide (0 < y) = true := decide_eq_true hy0
            have HY : Hid (0 < val3 l (N : Int)) := Lib.hid (by rw [HV.out]; exact hy0)
            have HSN := Lib.hid (scan_new HY.out HE.out HNQ.out)
            rw [HV.out] at HSN
            rcases hq2.out with d2 | ⟨d2, d3⟩
            · skip
              go_wp2_with fail
              refine HG.out.mono ?_
              rintro e w2 ⟨rfl, dd, rfl⟩
              have HB2 := Lib.hid (HB.out.trans ((bdrew wr dd).mono HB.out.size))
              have HO2 : Hid ((wr.drewN dd).ownsRow w.heap.size 29 3 (.slice (some ⟨g, 0, none⟩) (m + 1) cv) (m + 1) (cells (scan l N))) := Lib.hid ((Turn.drewN (fun _ => False) wr dd).kept HO.out (fun _ _ => id))
              have c0 : (wr.drewN dd).cell? ⟨g, m * 3, none⟩ = some (.int .i64 p0) := c0
              have c1 : (wr.drewN dd).cell? ⟨g, m * 3 + 1, none⟩ = some (.int .i64 p1) := c1
              have c2 : (wr.drewN dd).cell? ⟨g, m * 3 + 2, none⟩ = some (.int .i64 p2) := c2
              have f1 : (wr.drewN dd).frozen? ⟨g, m * 3 + 1, none⟩ = false := f1
              generalize wr.drewN dd = w2 at *
              go_wp2_with (at_builtin; refine wpList_append_own _ rfl _ _ 22 rfl w.heap.size 29 i0 _ 3 24 Try.underlying22 hi hz0 hz1 hz2 rfl (by decide) _ (m + 1) _ rfl (HO2.out.alloc _) ⟨w2.heap.size, 0, none⟩ 1 1 [.int .i64 (N : Int), .int .i64 (N : Int), .int .i64 y] rfl rfl (cell_new3 _ _ _ _ _) (one3 _ _ _) (by unfold maxLen; omega) (by omega) (by have := HB2.out.size; simp; omega) ?_; intro v3 w3 hown3 hgrow3 _)
              have HOW := Lib.hid (told_new HY.out HV.out HSN.out HL0.out HB2.out HO2.out _ hown3 hgrow3)
              clear hown3 hgrow3
              go_wp2_with fail
              go_roundw
              case rel => exact ⟨N + 1, by omega, by go_num, HOW⟩
              case measure => simp [intOf]; omega
            · skip
              go_wp2_with fail
              refine HG.out.mono ?_
              rintro e w2 ⟨rfl, dd, rfl⟩
              have HB2 := Lib.hid (HB.out.trans ((bdrew wr dd).mono HB.out.size))
              have HO2 : Hid ((wr.drewN dd).ownsRow w.heap.size 29 3 (.slice (some ⟨g, 0, none⟩) (m + 1) cv) (m + 1) (cells (scan l N))) := Lib.hid ((Turn.drewN (fun _ => False) wr dd).kept HO.out (fun _ _ => id))
              have c0 : (wr.drewN dd).cell? ⟨g, m * 3, none⟩ = some (.int .i64 p0) := c0
              have c1 : (wr.drewN dd).cell? ⟨g, m * 3 + 1, none⟩ = some (.int .i64 p1) := c1
              have c2 : (wr.drewN dd).cell? ⟨g, m * 3 + 2, none⟩ = some (.int .i64 p2) := c2
              have f1 : (wr.drewN dd).frozen? ⟨g, m * 3 + 1, none⟩ = false := f1
              generalize wr.drewN dd = w2 at *
              go_wp2_with (at_builtin; refine wpList_append_own _ rfl _ _ 22 rfl w.heap.size 29 i0 _ 3 24 Try.underlying22 hi hz0 hz1 hz2 rfl (by decide) _ (m + 1) _ rfl (HO2.out.alloc _) ⟨w2.heap.size, 0, none⟩ 1 1 [.int .i64 (N : Int), .int .i64 (N : Int), .int .i64 y] rfl rfl (cell_new3 _ _ _ _ _) (one3 _ _ _) (by unfold maxLen; omega) (by omega) (by have := HB2.out.size; simp; omega) ?_; intro v3 w3 hown3 hgrow3 _)
              have HOW := Lib.hid (told_new HY.out HV.out HSN.out HL0.out HB2.out HO2.out _ hown3 hgrow3)
              clear hown3 hgrow3
              go_wp2_with fail
              go_roundw
              case rel => exact ⟨N + 1, by omega, by go_num, HOW⟩
              case measure => simp [intOf]; omega
          · have d1 : decide (0 < y) = false := decide_eq_false hy0
            have HNY : Hid (val3 l (N : Int) ≤ 0) := Lib.hid (by rw [HV.out]; omega)
            rcases hq2.out with d2 | ⟨d2, d3⟩
            · skip
              go_wp2_with fail
              refine HG.out.mono ?_
              rintro e w2 ⟨rfl, dd, rfl⟩
              have HB2 := Lib.hid (HB.out.trans ((bdrew wr dd).mono HB.out.size))
              have HO2 : Hid ((wr.drewN dd).ownsRow w.heap.size 29 3 (.slice (some ⟨g, 0, none⟩) (m + 1) cv) (m + 1) (cells (scan l N))) := Lib.hid ((Turn.drewN (fun _ => False) wr dd).kept HO.out (fun _ _ => id))
              have c0 : (wr.drewN dd).cell? ⟨g, m * 3, none⟩ = some (.int .i64 p0) := c0
              have c1 : (wr.drewN dd).cell? ⟨g, m * 3 + 1, none⟩ = some (.int .i64 p1) := c1
              have c2 : (wr.drewN dd).cell? ⟨g, m * 3 + 2, none⟩ = some (.int .i64 p2) := c2
              have f1 : (wr.drewN dd).frozen? ⟨g, m * 3 + 1, none⟩ = false := f1
              generalize wr.drewN dd = w2 at *
              go_wp2_with fail
              have HOW := Lib.hid (told_none HNY.out HL0.out HB2.out HO2.out)
              clear HB2 HO2
              go_roundw
              case rel => exact ⟨N + 1, by omega, by go_num, HOW⟩
              case measure => simp [intOf]; omega
            · skip
              go_wp2_with fail
              refine HG.out.mono ?_
              rintro e w2 ⟨rfl, dd, rfl⟩
              have HB2 := Lib.hid (HB.out.trans ((bdrew wr dd).mono HB.out.size))
              have HO2 : Hid ((wr.drewN dd).ownsRow w.heap.size 29 3 (.slice (some ⟨g, 0, none⟩) (m + 1) cv) (m + 1) (cells (scan l N))) := Lib.hid ((Turn.drewN (fun _ => False) wr dd).kept HO.out (fun _ _ => id))
              have c0 : (wr.drewN dd).cell? ⟨g, m * 3, none⟩ = some (.int .i64 p0) := c0
              have c1 : (wr.drewN dd).cell? ⟨g, m * 3 + 1, none⟩ = some (.int .i64 p1) := c1
              have c2 : (wr.drewN dd).cell? ⟨g, m * 3 + 2, none⟩ = some (.int .i64 p2) := c2
              have f1 : (wr.drewN dd).frozen? ⟨g, m * 3 + 1, none⟩ = false := f1
              generalize wr.drewN dd = w2 at *
              go_wp2_with fail
              have HOW := Lib.hid (told_none HNY.out HL0.out HB2.out HO2.out)
              clear HB2 HO2
              go_roundw
              case rel => exact ⟨N + 1, by omega, by go_num, HOW⟩
              case measure => simp [intOf]; omega
    · obtain rfl : N = 1114112 := by omega
      have HS := Lib.hid (scan_all HR.out)
      go_wp2_with fail
      go_ret
      have h1 := H.out.1
      have h2 := H.out.2
      rw [HS.out] at h1
      exact ⟨_, rfl, h1, h2⟩
end Go.Proofs.Ytpeniadomjijcaa.Pack

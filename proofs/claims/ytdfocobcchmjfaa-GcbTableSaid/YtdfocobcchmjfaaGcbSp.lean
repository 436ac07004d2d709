/-
  Package gcb: its spans; how many numbers the reference's lists have.
-/
import Derived.Test.YtdfocobcchmjfaaSpX
import Derived.Test.YtdfocobcchmjfaaGcbAll
import Derived.Test.YtdfocobcchmjfaaSpM
import Derived.Deep.Onto
namespace Go.Proofs.Ytdfocobcchmjfaa.GcbSp
set_option linter.unusedSimpArgs false
set_option linter.unusedVariables false
open Go Go.RowKit Mem Tab TabLaw Sp

noncomputable def tbl : List S3 := (TabLaw.trip GcbTab.gcb)
theorem tbl_len : tbl.length = 131 := by kernel_rfl
theorem tbl_right : Right tbl := right_of (by kernel_rfl)
theorem few_right : Right (fewest tbl) := right_of (by kernel_rfl)
theorem few_few : Few (fewest tbl) := few_of (by kernel_rfl)
theorem few_pos : 0 < (fewest tbl).length ∧ (fewest tbl).length ≤ 131 := by
  have : (decide (0 < (fewest tbl).length) && decide ((fewest tbl).length ≤ 131)) = true := by kernel_rfl
  simpa using this
theorem row (k : Nat) (h : k < 131) : ∃ t, tbl[k]? = some t ∧ GcbTab.gcb.getD (k * 3) 0 = t.1 ∧ GcbTab.gcb.getD (k * 3 + 1) 0 = t.2.1 ∧ GcbTab.gcb.getD (k * 3 + 2) 0 = t.2.2 := Gcb.good.row k h

set_option maxRecDepth 100000 in
set_option maxHeartbeats 4000000 in
theorem spans_any (w : World) :
    Calls Try.prog 47 #[] w (OwnP w.heap.size w (fewest tbl)) := by
  obtain ⟨i0, hi, hz0, hz1, hz2⟩ := info_parts info_span
  go_enter Try.func47, Try.ntmps47
  go_wp2_with fail
  refine (GcbTab.gcb_any _).mono ?_
  rintro e w1 ⟨rfl, hb, hk, hz⟩
  go_wp2_with fail
  have HK := Lib.hid hk
  have HBB := Lib.hid hb
  clear hk
  go_loopw [1, 6] (fun v i wr => ∃ k : Nat, k ≤ 131 ∧ i = .int .i64 k ∧ Hid (wr.ownsRow (w.heap.size + 1) 44 3 v (tbl.take k).length (cells (tbl.take k)) ∧ Below (w.heap.size + 1) w1 wr)) (fun _ i _ => 131 - (intOf i).toNat)
  case atStart => exact ⟨0, Nat.zero_le _, rfl, World.ownsRow_nil _ _ _ _, Below.refl _ _⟩
  case round =>
    obtain ⟨k, hk, rfl, HR⟩ := hrel
    obtain ⟨av, cv, rfl⟩ := own_sl HR.out.1
    by_cases hlt : k < 131
    · have hlt' : (k : Int) < 131 := by omega
      have hbk := HK.out.below HR.out.2 (by omega)
      obtain ⟨s, hs, e0, e1, e2⟩ := row k hlt
      have c0 := hbk.cell (k * 3) _ (getnum _ (by rw [GcbTab.gcb_len]; omega))
      have c1 := hbk.cell (k * 3 + 1) _ (getnum _ (by rw [GcbTab.gcb_len]; omega))
      have c2 := hbk.cell (k * 3 + 2) _ (getnum _ (by rw [GcbTab.gcb_len]; omega))
      rw [e0] at c0
      rw [e1] at c1
      rw [e2] at c2
      have HT : Hid ((tbl.take (k + 1)).length = k + 1 ∧ cells (tbl.take (k + 1)) = cells (tbl.take k) ++ [.int .i64 s.1, .int .i64 s.2.1, .int .i64 s.2.2]) :=
        ⟨by rw [List.length_take, tbl_len]; omega, by rw [List.take_add_one, hs, cells_app]; rfl⟩
      have hl : (tbl.take k).length = k := by rw [List.length_take, tbl_len]; omega
      have hown := HR.out.1
      rw [hl] at hown ⊢
      have hown := Lib.hid hown
      have HBW := Lib.hid HR.out.2
      have hsz := HBW.out.size
      obtain ⟨r1, r2, r3, _⟩ := right_le tbl_right hs
      obtain ⟨s0, s1, s2⟩ := s
      simp only at c0 c1 c2 r1 r2 r3
      
      clear hs e0 e1 HR hbk
      generalize cells (tbl.take k) = L at *
      go_wp2_with (at_builtin; go_must (refine wpList_append_own _ rfl _ _ 22 rfl (w.heap.size + 1) 44 i0 _ 3 24 Try.underlying22 hi hz0 hz1 hz2 rfl (by decide) _ _ _ rfl ((hown.out.alloc _).alloc _) ⟨wr.heap.size + 1, 0, none⟩ 1 1 [.int .i64 s0, .int .i64 s1, .int .i64 s2] rfl rfl ?d1 ?d2 ?d3 ?d4 ?d5 ?_))
      case d2 => exact ⟨rfl, rfl, rfl⟩
      case d3 => unfold maxLen; omega
      case d4 => omega
      case d5 => omega
      intro v2 w2 hown2 hgrow2 _
      have R : Hid (w2.ownsRow (w.heap.size + 1) 44 3 v2 (tbl.take (k + 1)).length (cells (tbl.take (k + 1))) ∧ Below (w.heap.size + 1) w1 w2) := by
        rw [HT.out.1, HT.out.2]
        exact ⟨hown2, ((HBW.out.alloc (by omega) _).alloc (by simp; omega) _).grown hgrow2 (by simp; omega) (fun g e => (hown.out.lt g e).1)⟩
      clear hown2 hgrow2 HT hown HBW
      go_wp2
      go_roundw
      case rel => exact ⟨k + 1, by omega, by go_num, R⟩
      case measure => simp [intOf]; omega
    · obtain rfl : k = 131 := by omega
      have e1 : tbl.take 131 = tbl := List.take_of_length_le (by rw [tbl_len]; exact Nat.le_refl _)
      have ho := HR.out.1
      rw [e1, tbl_len] at ho ⊢
      obtain ⟨g, rfl, hg, hgc⟩ := own_some ho (by omega)
      have hsz := HR.out.2.size
      have hB : Below w.heap.size w wr := HBB.out.trans (HR.out.2.mono (by omega))
      have HF := Lib.hid (fewest_any g 0 131 cv tbl wr tbl_len (own_at ho) tbl_right (by omega))
      clear ho HR HK HBB
      go_wp2_with fail
      refine HF.out.mono ?_
      rintro e w3 ⟨v3, rfl, ho3, hb3⟩
      have ho3 := ho3.mono hB.size
      have hb3 := hB.trans (hb3.mono hB.size)
      clear hB
      go_wp2
      go_ret
      exact ⟨v3, rfl, ho3, hb3⟩

theorem many_ok : GcbRefW.LL.flatten.all okP = true := by kernel_rfl
theorem many_small : GcbRefW.LL.flatten.length ≤ 1000 := by
  have : decide (GcbRefW.LL.flatten.length ≤ 1000) = true := by kernel_rfl
  simpa using this
theorem many_eq : many (fewest tbl) (fewest tbl).length = msum GcbRefW.LL.flatten := by kernel_rfl

open GcbRefW in
set_option maxRecDepth 100000 in
set_option maxHeartbeats 8000000 in
theorem many_any (w : World) :
    Calls Try.prog 48 #[] w fun e w' => e = .returned (.int .i64 (msum LL.flatten)) ∧ Below w.heap.size w w' := by
  go_enter Try.func48, Try.ntmps48
  go_wp2_with fail
  refine (GcbTab.l1_any _).mono ?_
  rintro e w1 ⟨rfl, hb1, hk1, hz1⟩
  go_wp2_with fail
  refine (GcbTab.l2_any _).mono ?_
  rintro e w2 ⟨rfl, hb2, hk2, hz2⟩
  rw [hz1] at hb2 hk2 hz2
  have hk1 := hk1.below hb2 (by omega)
  have hb2 := hb1.trans (hb2.mono (by omega))
  clear hb1
  go_wp2_with fail
  refine (GcbTab.l3_any _).mono ?_
  rintro e w3 ⟨rfl, hb3, hk3, hz3⟩
  rw [hz2] at hb3 hk3 hz3
  have hk1 := hk1.below hb3 (by omega)
  have hk2 := hk2.below hb3 (by omega)
  have hb3 := hb2.trans (hb3.mono (by omega))
  clear hb2
  go_wp2_with fail
  refine (GcbTab.l4_any _).mono ?_
  rintro e w4 ⟨rfl, hb4, hk4, hz4⟩
  rw [hz3] at hb4 hk4 hz4
  have hk1 := hk1.below hb4 (by omega)
  have hk2 := hk2.below hb4 (by omega)
  have hk3 := hk3.below hb4 (by omega)
  have hb4 := hb3.trans (hb4.mono (by omega))
  clear hb3
  go_wp2_with fail
  refine (GcbTab.l5_any _).mono ?_
  rintro e w5 ⟨rfl, hb5, hk5, hz5⟩
  rw [hz4] at hb5 hk5 hz5
  have hk1 := hk1.below hb5 (by omega)
  have hk2 := hk2.below hb5 (by omega)
  have hk3 := hk3.below hb5 (by omega)
  have hk4 := hk4.below hb5 (by omega)
  have hb5 := hb4.trans (hb5.mono (by omega))
  clear hb4
  go_wp2_with fail
  refine (GcbTab.l6_any _).mono ?_
  rintro e w6 ⟨rfl, hb6, hk6, hz6⟩
  rw [hz5] at hb6 hk6 hz6
  have hk1 := hk1.below hb6 (by omega)
  have hk2 := hk2.below hb6 (by omega)
  have hk3 := hk3.below hb6 (by omega)
  have hk4 := hk4.below hb6 (by omega)
  have hk5 := hk5.below hb6 (by omega)
  have hb6 := hb5.trans (hb6.mono (by omega))
  clear hb5
  go_wp2_with fail
  refine (GcbTab.l7_any _).mono ?_
  rintro e w7 ⟨rfl, hb7, hk7, hz7⟩
  rw [hz6] at hb7 hk7 hz7
  have hk1 := hk1.below hb7 (by omega)
  have hk2 := hk2.below hb7 (by omega)
  have hk3 := hk3.below hb7 (by omega)
  have hk4 := hk4.below hb7 (by omega)
  have hk5 := hk5.below hb7 (by omega)
  have hk6 := hk6.below hb7 (by omega)
  have hb7 := hb6.trans (hb7.mono (by omega))
  clear hb6
  go_wp2_with fail
  refine (GcbTab.l8_any _).mono ?_
  rintro e w8 ⟨rfl, hb8, hk8, hz8⟩
  rw [hz7] at hb8 hk8 hz8
  have hk1 := hk1.below hb8 (by omega)
  have hk2 := hk2.below hb8 (by omega)
  have hk3 := hk3.below hb8 (by omega)
  have hk4 := hk4.below hb8 (by omega)
  have hk5 := hk5.below hb8 (by omega)
  have hk6 := hk6.below hb8 (by omega)
  have hk7 := hk7.below hb8 (by omega)
  have hb8 := hb7.trans (hb8.mono (by omega))
  clear hb7
  have hz : w8.heap.size = w.heap.size + 8 := by omega
  go_wp2_with fail
  have c0 : (w8.alloc (.cells #[.slice (some ⟨w.heap.size, 0, none⟩) 1 1, .slice (some ⟨w.heap.size + 1, 0, none⟩) 1 1, .slice (some ⟨w.heap.size + 1 + 1, 0, none⟩) 16 16, .slice (some ⟨w.heap.size + 1 + 1 + 1, 0, none⟩) 77 77, .slice (some ⟨w.heap.size + 1 + 1 + 1 + 1, 0, none⟩) 1 1, .slice (some ⟨w.heap.size + 1 + 1 + 1 + 1 + 1, 0, none⟩) 1 1, .slice (some ⟨w.heap.size + 1 + 1 + 1 + 1 + 1 + 1, 0, none⟩) 8 8, .slice (some ⟨w.heap.size + 1 + 1 + 1 + 1 + 1 + 1 + 1, 0, none⟩) 26 26] 57)).cell? ⟨w.heap.size + 1 + 1 + 1 + 1 + 1 + 1 + 1 + 1, 0, none⟩ = some (.slice (some ⟨w.heap.size, 0, none⟩) 1 1) := by rw [← hz8]; simp
  have c1 : (w8.alloc (.cells #[.slice (some ⟨w.heap.size, 0, none⟩) 1 1, .slice (some ⟨w.heap.size + 1, 0, none⟩) 1 1, .slice (some ⟨w.heap.size + 1 + 1, 0, none⟩) 16 16, .slice (some ⟨w.heap.size + 1 + 1 + 1, 0, none⟩) 77 77, .slice (some ⟨w.heap.size + 1 + 1 + 1 + 1, 0, none⟩) 1 1, .slice (some ⟨w.heap.size + 1 + 1 + 1 + 1 + 1, 0, none⟩) 1 1, .slice (some ⟨w.heap.size + 1 + 1 + 1 + 1 + 1 + 1, 0, none⟩) 8 8, .slice (some ⟨w.heap.size + 1 + 1 + 1 + 1 + 1 + 1 + 1, 0, none⟩) 26 26] 57)).cell? ⟨w.heap.size + 1 + 1 + 1 + 1 + 1 + 1 + 1 + 1, 1, none⟩ = some (.slice (some ⟨w.heap.size + 1, 0, none⟩) 1 1) := by rw [← hz8]; simp
  have c2 : (w8.alloc (.cells #[.slice (some ⟨w.heap.size, 0, none⟩) 1 1, .slice (some ⟨w.heap.size + 1, 0, none⟩) 1 1, .slice (some ⟨w.heap.size + 1 + 1, 0, none⟩) 16 16, .slice (some ⟨w.heap.size + 1 + 1 + 1, 0, none⟩) 77 77, .slice (some ⟨w.heap.size + 1 + 1 + 1 + 1, 0, none⟩) 1 1, .slice (some ⟨w.heap.size + 1 + 1 + 1 + 1 + 1, 0, none⟩) 1 1, .slice (some ⟨w.heap.size + 1 + 1 + 1 + 1 + 1 + 1, 0, none⟩) 8 8, .slice (some ⟨w.heap.size + 1 + 1 + 1 + 1 + 1 + 1 + 1, 0, none⟩) 26 26] 57)).cell? ⟨w.heap.size + 1 + 1 + 1 + 1 + 1 + 1 + 1 + 1, 2, none⟩ = some (.slice (some ⟨w.heap.size + 1 + 1, 0, none⟩) 16 16) := by rw [← hz8]; simp
  have c3 : (w8.alloc (.cells #[.slice (some ⟨w.heap.size, 0, none⟩) 1 1, .slice (some ⟨w.heap.size + 1, 0, none⟩) 1 1, .slice (some ⟨w.heap.size + 1 + 1, 0, none⟩) 16 16, .slice (some ⟨w.heap.size + 1 + 1 + 1, 0, none⟩) 77 77, .slice (some ⟨w.heap.size + 1 + 1 + 1 + 1, 0, none⟩) 1 1, .slice (some ⟨w.heap.size + 1 + 1 + 1 + 1 + 1, 0, none⟩) 1 1, .slice (some ⟨w.heap.size + 1 + 1 + 1 + 1 + 1 + 1, 0, none⟩) 8 8, .slice (some ⟨w.heap.size + 1 + 1 + 1 + 1 + 1 + 1 + 1, 0, none⟩) 26 26] 57)).cell? ⟨w.heap.size + 1 + 1 + 1 + 1 + 1 + 1 + 1 + 1, 3, none⟩ = some (.slice (some ⟨w.heap.size + 1 + 1 + 1, 0, none⟩) 77 77) := by rw [← hz8]; simp
  have c4 : (w8.alloc (.cells #[.slice (some ⟨w.heap.size, 0, none⟩) 1 1, .slice (some ⟨w.heap.size + 1, 0, none⟩) 1 1, .slice (some ⟨w.heap.size + 1 + 1, 0, none⟩) 16 16, .slice (some ⟨w.heap.size + 1 + 1 + 1, 0, none⟩) 77 77, .slice (some ⟨w.heap.size + 1 + 1 + 1 + 1, 0, none⟩) 1 1, .slice (some ⟨w.heap.size + 1 + 1 + 1 + 1 + 1, 0, none⟩) 1 1, .slice (some ⟨w.heap.size + 1 + 1 + 1 + 1 + 1 + 1, 0, none⟩) 8 8, .slice (some ⟨w.heap.size + 1 + 1 + 1 + 1 + 1 + 1 + 1, 0, none⟩) 26 26] 57)).cell? ⟨w.heap.size + 1 + 1 + 1 + 1 + 1 + 1 + 1 + 1, 4, none⟩ = some (.slice (some ⟨w.heap.size + 1 + 1 + 1 + 1, 0, none⟩) 1 1) := by rw [← hz8]; simp
  have c5 : (w8.alloc (.cells #[.slice (some ⟨w.heap.size, 0, none⟩) 1 1, .slice (some ⟨w.heap.size + 1, 0, none⟩) 1 1, .slice (some ⟨w.heap.size + 1 + 1, 0, none⟩) 16 16, .slice (some ⟨w.heap.size + 1 + 1 + 1, 0, none⟩) 77 77, .slice (some ⟨w.heap.size + 1 + 1 + 1 + 1, 0, none⟩) 1 1, .slice (some ⟨w.heap.size + 1 + 1 + 1 + 1 + 1, 0, none⟩) 1 1, .slice (some ⟨w.heap.size + 1 + 1 + 1 + 1 + 1 + 1, 0, none⟩) 8 8, .slice (some ⟨w.heap.size + 1 + 1 + 1 + 1 + 1 + 1 + 1, 0, none⟩) 26 26] 57)).cell? ⟨w.heap.size + 1 + 1 + 1 + 1 + 1 + 1 + 1 + 1, 5, none⟩ = some (.slice (some ⟨w.heap.size + 1 + 1 + 1 + 1 + 1, 0, none⟩) 1 1) := by rw [← hz8]; simp
  have c6 : (w8.alloc (.cells #[.slice (some ⟨w.heap.size, 0, none⟩) 1 1, .slice (some ⟨w.heap.size + 1, 0, none⟩) 1 1, .slice (some ⟨w.heap.size + 1 + 1, 0, none⟩) 16 16, .slice (some ⟨w.heap.size + 1 + 1 + 1, 0, none⟩) 77 77, .slice (some ⟨w.heap.size + 1 + 1 + 1 + 1, 0, none⟩) 1 1, .slice (some ⟨w.heap.size + 1 + 1 + 1 + 1 + 1, 0, none⟩) 1 1, .slice (some ⟨w.heap.size + 1 + 1 + 1 + 1 + 1 + 1, 0, none⟩) 8 8, .slice (some ⟨w.heap.size + 1 + 1 + 1 + 1 + 1 + 1 + 1, 0, none⟩) 26 26] 57)).cell? ⟨w.heap.size + 1 + 1 + 1 + 1 + 1 + 1 + 1 + 1, 6, none⟩ = some (.slice (some ⟨w.heap.size + 1 + 1 + 1 + 1 + 1 + 1, 0, none⟩) 8 8) := by rw [← hz8]; simp
  have c7 : (w8.alloc (.cells #[.slice (some ⟨w.heap.size, 0, none⟩) 1 1, .slice (some ⟨w.heap.size + 1, 0, none⟩) 1 1, .slice (some ⟨w.heap.size + 1 + 1, 0, none⟩) 16 16, .slice (some ⟨w.heap.size + 1 + 1 + 1, 0, none⟩) 77 77, .slice (some ⟨w.heap.size + 1 + 1 + 1 + 1, 0, none⟩) 1 1, .slice (some ⟨w.heap.size + 1 + 1 + 1 + 1 + 1, 0, none⟩) 1 1, .slice (some ⟨w.heap.size + 1 + 1 + 1 + 1 + 1 + 1, 0, none⟩) 8 8, .slice (some ⟨w.heap.size + 1 + 1 + 1 + 1 + 1 + 1 + 1, 0, none⟩) 26 26] 57)).cell? ⟨w.heap.size + 1 + 1 + 1 + 1 + 1 + 1 + 1 + 1, 7, none⟩ = some (.slice (some ⟨w.heap.size + 1 + 1 + 1 + 1 + 1 + 1 + 1, 0, none⟩) 26 26) := by rw [← hz8]; simp
  have hbW : Below w8.heap.size w8 (w8.alloc (.cells #[.slice (some ⟨w.heap.size, 0, none⟩) 1 1, .slice (some ⟨w.heap.size + 1, 0, none⟩) 1 1, .slice (some ⟨w.heap.size + 1 + 1, 0, none⟩) 16 16, .slice (some ⟨w.heap.size + 1 + 1 + 1, 0, none⟩) 77 77, .slice (some ⟨w.heap.size + 1 + 1 + 1 + 1, 0, none⟩) 1 1, .slice (some ⟨w.heap.size + 1 + 1 + 1 + 1 + 1, 0, none⟩) 1 1, .slice (some ⟨w.heap.size + 1 + 1 + 1 + 1 + 1 + 1, 0, none⟩) 8 8, .slice (some ⟨w.heap.size + 1 + 1 + 1 + 1 + 1 + 1 + 1, 0, none⟩) 26 26] 57)) := (Below.refl _ _).alloc (Nat.le_refl _) _
  generalize (w8.alloc (.cells #[.slice (some ⟨w.heap.size, 0, none⟩) 1 1, .slice (some ⟨w.heap.size + 1, 0, none⟩) 1 1, .slice (some ⟨w.heap.size + 1 + 1, 0, none⟩) 16 16, .slice (some ⟨w.heap.size + 1 + 1 + 1, 0, none⟩) 77 77, .slice (some ⟨w.heap.size + 1 + 1 + 1 + 1, 0, none⟩) 1 1, .slice (some ⟨w.heap.size + 1 + 1 + 1 + 1 + 1, 0, none⟩) 1 1, .slice (some ⟨w.heap.size + 1 + 1 + 1 + 1 + 1 + 1, 0, none⟩) 8 8, .slice (some ⟨w.heap.size + 1 + 1 + 1 + 1 + 1 + 1 + 1, 0, none⟩) 26 26] 57)) = W at *
  have hk1 := hk1.below hbW (by omega)
  have hk2 := hk2.below hbW (by omega)
  have hk3 := hk3.below hbW (by omega)
  have hk4 := hk4.below hbW (by omega)
  have hk5 := hk5.below hbW (by omega)
  have hk6 := hk6.below hbW (by omega)
  have hk7 := hk7.below hbW (by omega)
  have hk8 := hk8.below hbW (by omega)
  have hL : Lists W w.heap.size (w.heap.size + 8) := at_8 W w.heap.size c0 hk1 c1 hk2 c2 hk3 c3 hk4 c4 hk5 c5 hk6 c6 hk7 c7 hk8
  have HL := Lib.hid hL
  have hbw : Below w.heap.size w W := hb8.trans (hbW.mono (by omega))
  clear hL hbW hb8 hz hz1 hz2 hz3 hz4 hz5 hz6 hz7 hz8 c0 c1 c2 c3 c4 c5 c6 c7 hk1 hk2 hk3 hk4 hk5 hk6 hk7 hk8
  have HBWW := Lib.hid hbw
  have hszW := hbw.size
  have hblk : w.heap.size + 1 + 1 + 1 + 1 + 1 + 1 + 1 + 1 < W.heap.size := by
    obtain ⟨n, hc, _⟩ := HL.out 0 _ rfl
    exact World.block_lt_of_cell? _ _ hc
  go_loopw [1, 3] (fun s i wr => ∃ k : Nat, k ≤ 8 ∧ i = .int .i64 k ∧ s = .int .i64 (msum (LL.take k).flatten) ∧ Hid (Below W.heap.size W wr)) (fun _ i _ => 8 - (intOf i).toNat)
  case atStart => exact ⟨0, Nat.zero_le _, rfl, rfl, Below.refl _ _⟩
  case round =>
    obtain ⟨k, hkn, rfl, rfl, H⟩ := hrel
    by_cases hlt : k < 8
    · have hlt' : (k : Int) < 8 := by omega
      obtain ⟨L, hLk⟩ : ∃ L, tabs[k]? = some L := ⟨_, List.getElem?_eq_getElem (by rw [tabs_len]; exact hlt)⟩
      obtain ⟨n, hc, hbk, hl, hp, hn⟩ := HL.out k L hLk
      have HC : Hid (W.cell? ⟨w.heap.size + 1 + 1 + 1 + 1 + 1 + 1 + 1 + 1, k, none⟩ = some (.slice (some ⟨w.heap.size + k, 0, none⟩) n n)) := hc
      have HBK := Lib.hid hbk
      have hLL : LL[k]? = some (TabLaw.pairs L) := by unfold LL; rw [List.getElem?_map, hLk]; rfl
      have HNX := Lib.hid (flat_next hLL)
      have HIN := Lib.hid (flat_ok hLL many_ok many_small)
      have HP := Lib.hid hp
      have HLN := Lib.hid hl
      have hkW : w.heap.size + k < W.heap.size := HBK.out.lt
      clear hc hbk hl hp hLk hLL
      have HBr := Lib.hid H.out
      generalize wr = wo at *
      clear H
      go_wp2
      go_loopw [1, 4] (fun s j wb => ∃ q : Nat, q ≤ n ∧ j = .int .i64 q ∧ s = .int .i64 (msum ((LL.take k).flatten ++ (TabLaw.pairs L).take q)) ∧ Hid (Below W.heap.size W wb)) (fun _ j _ => n - (intOf j).toNat)
      case atStart => exact ⟨0, Nat.zero_le _, rfl, by simp, HBr.out⟩
      case round =>
        obtain ⟨q, hq, rfl, rfl, HI⟩ := hrel
        have c0 := (HI.out.cell (p := ⟨w.heap.size + 1 + 1 + 1 + 1 + 1 + 1 + 1 + 1, k, none⟩) hblk).trans HC.out
        by_cases hqn : q < n
        · have hqn' : (q : Int) < n := by omega
          obtain ⟨p, hpq⟩ : ∃ p, (TabLaw.pairs L)[q]? = some p := ⟨_, List.getElem?_eq_getElem (by rw [HP.out]; exact hqn)⟩
          obtain ⟨e0, e1⟩ := TabLaw.pairs_get L q p hpq
          rw [Nat.mul_comm 2 q] at e0 e1
          have hbk := HBK.out.below HI.out hkW
          have c1 := hbk.cell (q * 2) _ (getnum _ (by rw [HLN.out]; omega))
          have c2 := hbk.cell (q * 2 + 1) _ (getnum _ (by rw [HLN.out]; omega))
          rw [e0] at c1
          rw [e1] at c2
          obtain ⟨b1, b2, p1, p2, p3⟩ := HIN.out q p hpq
          have HS := Lib.hid (msum_next (A := (LL.take k).flatten) hpq)
          generalize msum ((LL.take k).flatten ++ (TabLaw.pairs L).take q) = m0 at *
          obtain ⟨lo, hi⟩ := p
          simp only at c1 c2 p1 p2 p3 HS
          have x1 : IntKind.i64.wrap (m0 + hi) = m0 + hi := IntWalk.i64_in _ (by omega)
          have x2 : IntKind.i64.wrap (m0 + hi - lo) = m0 + hi - lo := IntWalk.i64_in _ (by omega)
          have x3 : IntKind.i64.wrap (m0 + hi - lo + 1) = m0 + hi - lo + 1 := IntWalk.i64_in _ (by omega)
          have HB2 := Lib.hid HI.out
          clear e0 e1 hbk hpq HI b1 b2 p1 p2 p3
          go_wp2
          go_quiet (fail)
          go_wp2
          go_roundw
          case rel => exact ⟨q + 1, by omega, by go_num, by rw [HS.out, show m0 + hi - lo + 1 = m0 + (hi - lo + 1) from by omega], HB2.out.trans ((bdrew _ _).mono HB2.out.size)⟩
          case measure => simp [intOf]; omega
        · obtain rfl : q = n := by omega
          have e9 : (TabLaw.pairs L).take q = TabLaw.pairs L := List.take_of_length_le (by rw [HP.out]; exact Nat.le_refl _)
          rw [e9, HNX.out]
          have HB2 := Lib.hid HI.out
          clear e9 hqn HI
          go_wp2
          go_roundw
          case rel => exact ⟨k + 1, by omega, by go_num, rfl, HB2.out⟩
          case measure => simp [intOf]; omega
    · obtain rfl : k = 8 := by omega
      have e9 : LL.take 8 = LL := List.take_of_length_le (by rw [LL_len]; exact Nat.le_refl _)
      rw [e9]
      go_wp2
      go_ret
      exact ⟨rfl, HBWW.out.trans (H.out.mono hszW)⟩

end Go.Proofs.Ytdfocobcchmjfaa.GcbSp

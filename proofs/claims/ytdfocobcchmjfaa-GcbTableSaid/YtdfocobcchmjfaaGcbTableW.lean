/-
  The walk of the statement GcbTable.
-/
import Derived.Test.YtdfocobcchmjfaaGcbSp
import Derived.Test.YtdfocobcchmjfaaGcbW
namespace Go.Proofs.Ytdfocobcchmjfaa.GcbSp
set_option linter.unusedSimpArgs false
set_option linter.unusedVariables false
open Go Go.RowKit Mem Tab TabLaw Sp

theorem check_v : (TabLaw.trip GcbTab.gcb).all (fun t => decide (1 ≤ t.2.2) && decide (t.2.2 ≤ 8)) = true := by kernel_rfl
theorem check_h : (TabLaw.trip GcbTab.gcb).all (fun p => decide (p.2.1 < 4352) || (decide (4607 < p.1) && decide (p.2.1 < 43360)) || (decide (43388 < p.1) && decide (p.2.1 < 44032)) || decide (55291 < p.1)) = true := by kernel_rfl
/-- what the table tells, and what stands in it is no Hangul -/
theorem tval_is (r : Int) : (Gcb.tval r = 0 ∧ Gcb.val r = Hangul.hclass r) ∨ (1 ≤ Gcb.tval r ∧ Gcb.tval r ≤ 8 ∧ Gcb.val r = Gcb.tval r ∧ Hangul.hclass r = 0) := by
  cases hf : (TabLaw.trip GcbTab.gcb).find? (TabLaw.has r) with
  | none =>
    have e : Gcb.tval r = 0 := by unfold Gcb.tval TabLaw.val3; rw [hf]; rfl
    exact .inl ⟨e, by unfold Gcb.val; rw [if_pos e]⟩
  | some c =>
    have e : Gcb.tval r = c.2.2 := by unfold Gcb.tval TabLaw.val3; rw [hf]; rfl
    have hc := List.find?_some hf
    have hm := List.mem_of_find?_eq_some hf
    have k1 := List.all_eq_true.1 check_v c hm
    have k2 := List.all_eq_true.1 check_h c hm
    simp only [Bool.and_eq_true, decide_eq_true_eq] at k1
    simp [TabLaw.has] at hc
    simp at k2
    refine .inr ⟨by omega, by omega, by unfold Gcb.val; rw [if_neg (by omega)], ?_⟩
    unfold Hangul.hclass
    repeat (first | rw [if_neg (by omega)])

set_option maxRecDepth 100000 in
set_option maxHeartbeats 8000000 in
theorem table_any (r : Int) (hr1 : -2147483648 ≤ r) (hr2 : r ≤ 2147483647) (w : World) :
    Calls Try.prog 13 #[.int .i32 r] w fun e w' => e = .returned (.bool true) ∧ Below w.heap.size w w' := by
  have HV : Hid (val3 (fewest tbl) r = Gcb.tval r) := val3_fewest tbl tbl_right r
  have hpos := few_pos
  have HM : Hid (many (fewest tbl) (fewest tbl).length = msum GcbRefW.LL.flatten) := Lib.hid many_eq
  have x1 : IntKind.i64.wrap r = r := IntWalk.i64_in _ (by omega)
  go_enter Try.func13, Try.ntmps13
  go_wp2_with fail
  refine (Gcb.works_any _).mono ?_; rintro e w0 ⟨rfl, hb0⟩
  have B0 := Lib.hid hb0
  clear hb0
  go_wp2_with fail
  refine (spans_any w0).mono ?_
  rintro e w1 ⟨v, rfl, ho, hb1⟩
  obtain ⟨av, cv, rfl⟩ := own_sl ho
  obtain ⟨g, rfl, hg, hgc⟩ := own_some ho hpos.1
  have A2 := own_at ho
  have hR := few_right
  have hF := few_few
  generalize hn : (fewest tbl).length = n at *
  have HN := Lib.hid hn
  generalize fewest tbl = F at *
  have HR := Lib.hid hR
  have HF := Lib.hid hF
  have A2 := Lib.hid A2
  have B2 := Lib.hid (B0.out.trans (hb1.mono B0.out.size))
  clear ho hb1 hR hF hn B0
  have hn1 : n ≤ 100000 := by omega
  go_wp2_with fail
  refine (rright_ok g 0 n cv F w1 HN.out A2.out HR.out hn1 hgc).mono ?_; rintro e w3 ⟨rfl, hb3⟩
  have A3 := Lib.hid (A2.out.below hb3)
  have B3 := Lib.hid (B2.out.trans (hb3.mono B2.out.size))
  clear hb3
  go_wp2_with fail
  refine (rfew_ok g 0 n cv F w3 HN.out A3.out HR.out HF.out hn1 hgc (by omega)).mono ?_; rintro e w4 ⟨rfl, hb4⟩
  have A4 := Lib.hid (A3.out.below hb4)
  have B4 := Lib.hid (B3.out.trans (hb4.mono B3.out.size))
  clear hb4
  go_wp2_with fail
  refine (count_any g 0 n cv F w4 HN.out A4.out HR.out hn1).mono ?_; rintro e w5 ⟨rfl, hb5⟩
  have A5 := Lib.hid (A4.out.below hb5)
  have B5 := Lib.hid (B4.out.trans (hb5.mono B4.out.size))
  clear hb5
  rw [HM.out]
  have HMM := Lib.hid (many_any w5)
  generalize msum GcbRefW.LL.flatten = mm at *
  have xm : (mm != mm) = false := by simp
  clear HM
  go_wp2_with fail
  refine HMM.out.mono ?_; rintro e w6 ⟨rfl, hb6⟩
  have A6 := Lib.hid (A5.out.below hb6)
  have B6 := Lib.hid (B5.out.trans (hb6.mono B5.out.size))
  clear hb6 HMM
  go_wp2_with fail
  refine (find_any g 0 n cv F r w6 HN.out A6.out hn1 hgc).mono ?_; rintro e w7 ⟨rfl, hb7⟩
  have B7 := Lib.hid (B6.out.trans (hb7.mono B6.out.size))
  clear hb7
  rw [HV.out]
  have HRR := Lib.hid (Gcb.ref_val r hr1 hr2 w7)
  have HH := Lib.hid (Hangul.class_any r)
  rcases tval_is r with ⟨t1, t2⟩ | ⟨t1, t2, t3, t4⟩
  · rw [t1]
    rw [t2] at HRR
    generalize Hangul.hclass r = hc at *
    have xh : (hc == hc) = true := by simp
    clear t1 t2
    go_wp2_with fail
    refine HRR.out.mono ?_; rintro e w8 ⟨rfl, hb8⟩
    have B8 := Lib.hid (B7.out.trans (hb8.mono B7.out.size))
    clear hb8 HRR
    go_wp2_with fail
    refine (HH.out _).mono ?_; rintro e w9 ⟨rfl, rfl⟩
    go_wp2
    go_ret
    exact ⟨rfl, B8.out⟩
  · rw [t3] at HRR
    rw [t4] at HH
    generalize Gcb.tval r = tv at *
    have d1 : decide (tv ≤ 8) = true := by simpa using t2
    have d2 : (tv == 0) = false := by simp; omega
    have d3 : decide (0 < tv) = true := decide_eq_true (by omega)
    have xh : (tv == tv) = true := by simp
    clear t1 t2 t3 t4
    go_wp2_with fail
    refine HRR.out.mono ?_; rintro e w8 ⟨rfl, hb8⟩
    have B8 := Lib.hid (B7.out.trans (hb8.mono B7.out.size))
    clear hb8 HRR
    go_wp2_with fail
    refine (HH.out _).mono ?_; rintro e w9 ⟨rfl, rfl⟩
    go_wp2
    go_ret
    exact ⟨rfl, B8.out⟩

end Go.Proofs.Ytdfocobcchmjfaa.GcbSp

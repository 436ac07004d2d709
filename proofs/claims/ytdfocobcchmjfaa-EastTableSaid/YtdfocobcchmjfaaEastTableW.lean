/-
  The walk of the statement EastTable.
-/
import Derived.Test.YtdfocobcchmjfaaEastSp
namespace Go.Proofs.Ytdfocobcchmjfaa.EastSp
set_option linter.unusedSimpArgs false
set_option linter.unusedVariables false
open Go Go.RowKit Mem Tab TabLaw Sp

theorem e1 : East.val 19968 = 1 := by kernel_rfl
theorem e2 : East.val 65313 = 2 := by kernel_rfl
theorem e3 : East.val 65393 = 3 := by kernel_rfl
theorem e4 : East.val 97 = 0 := by kernel_rfl
set_option maxHeartbeats 2000000 in
theorem works_any (w : World) :
    Calls Try.prog 41 #[] w fun e w' => e = .returned (.bool true) ∧ Below w.heap.size w w' := by
  go_enter Try.func41, Try.ntmps41
  go_wp2_with fail
  refine (East.of_any _ (by omega) (by omega) _).mono ?_; rintro e w1 ⟨rfl, h1⟩; rw [e1]
  go_wp2_with fail
  refine (East.of_any _ (by omega) (by omega) _).mono ?_; rintro e w2 ⟨rfl, h2⟩; rw [e2]
  have h2 := h1.trans (h2.mono h1.size)
  clear h1
  go_wp2_with fail
  refine (East.of_any _ (by omega) (by omega) _).mono ?_; rintro e w3 ⟨rfl, h3⟩; rw [e3]
  have h3 := h2.trans (h3.mono h2.size)
  clear h2
  go_wp2_with fail
  refine (East.of_any _ (by omega) (by omega) _).mono ?_; rintro e w4 ⟨rfl, h4⟩; rw [e4]
  have h4 := h3.trans (h4.mono h3.size)
  clear h3
  go_wp2
  go_ret
  exact ⟨rfl, h4⟩

set_option maxRecDepth 100000 in
set_option maxHeartbeats 8000000 in
theorem table_any (r : Int) (hr1 : -2147483648 ≤ r) (hr2 : r ≤ 2147483647) (w : World) :
    Calls Try.prog 11 #[.int .i32 r] w fun e w' => e = .returned (.bool true) ∧ Below w.heap.size w w' := by
  have HV : Hid (val3 (fewest tbl) r = East.val r) := val3_fewest tbl tbl_right r
  have hpos := few_pos
  have HM : Hid (many (fewest tbl) (fewest tbl).length = msum EastRefW.LL.flatten) := Lib.hid many_eq
  have x1 : IntKind.i64.wrap r = r := IntWalk.i64_in _ (by omega)
  go_enter Try.func11, Try.ntmps11
  go_wp2_with fail
  refine (spans_any w).mono ?_
  rintro e w1 ⟨v, rfl, ho, hb1⟩
  obtain ⟨av, cv, rfl⟩ := own_sl ho
  obtain ⟨g, rfl, hg, hgc⟩ := own_some ho hpos.1
  have A1 := own_at ho
  have hR := few_right
  have hF := few_few
  have hL : (fewest tbl).length = (fewest tbl).length := rfl
  generalize hn : (fewest tbl).length = n at *
  have HN := Lib.hid hn
  generalize fewest tbl = F at *
  have HR := Lib.hid hR
  have HF := Lib.hid hF
  have A1 := Lib.hid A1
  have B1 := Lib.hid hb1
  clear ho hb1 hR hF hL hn
  have hn1 : n ≤ 100000 := by omega
  go_wp2_with fail
  refine (works_any _).mono ?_; rintro e w2 ⟨rfl, hb2⟩
  have A2 := Lib.hid (A1.out.below hb2)
  have B2 := Lib.hid (B1.out.trans (hb2.mono B1.out.size))
  clear hb2
  go_wp2_with fail
  refine (rright_ok g 0 n cv F w2 HN.out A2.out HR.out hn1 hgc).mono ?_; rintro e w3 ⟨rfl, hb3⟩
  have A3 := Lib.hid (A2.out.below hb3)
  have B3 := Lib.hid (B2.out.trans (hb3.mono B2.out.size))
  clear hb3
  go_wp2_with fail
  refine (rfew_ok g 0 n cv F w3 HN.out A3.out HR.out HF.out hn1 hgc (by omega)).mono ?_; rintro e w4 ⟨rfl, hb4⟩
  have A4 := Lib.hid (A3.out.below hb4)
  have B4 := Lib.hid (B3.out.trans (hb4.mono B3.out.size))
  clear hb4
  go_wp2_with fail
  refine (count_any g 0 n cv F w4 HN.out A4.out HR.out hn1).mono ?_; rintro e w5 ⟨rfl, hb5⟩
  have A5 := Lib.hid (A4.out.below hb5)
  have B5 := Lib.hid (B4.out.trans (hb5.mono B4.out.size))
  clear hb5
  rw [HM.out]
  have HMM := Lib.hid (many_any w5)
  generalize msum EastRefW.LL.flatten = mm at *
  have xm : (mm == mm) = true := by simp
  clear HM
  go_wp2_with fail
  refine HMM.out.mono ?_; rintro e w6 ⟨rfl, hb6⟩
  have A6 := Lib.hid (A5.out.below hb6)
  have B6 := Lib.hid (B5.out.trans (hb6.mono B5.out.size))
  clear hb6 HMM
  go_wp2_with fail
  refine (find_any g 0 n cv F r w6 HN.out A6.out hn1 hgc).mono ?_; rintro e w7 ⟨rfl, hb7⟩
  have B7 := Lib.hid (B6.out.trans (hb7.mono B6.out.size))
  clear hb7
  rw [HV.out]
  have HRR := Lib.hid (East.ref_val r hr1 hr2 w7)
  generalize East.val r = vv at *
  have xv : (vv == vv) = true := by simp
  go_wp2_with fail
  refine HRR.out.mono ?_; rintro e w8 ⟨rfl, hb8⟩
  have B8 := Lib.hid (B7.out.trans (hb8.mono B7.out.size))
  clear hb8 HRR
  go_wp2
  go_ret
  exact ⟨rfl, B8.out⟩

end Go.Proofs.Ytdfocobcchmjfaa.EastSp

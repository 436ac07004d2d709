/-
  The walk of the statement FitlineBreaks.
-/
import Derived.Test.YtihanlahegngoaaFitR
import Derived.Test.YtihanlahegngoaaFitW
import Derived.Test.YtihanlahegngoaaSame16
namespace Go.Proofs.Ytihanlahegngoaa.Fit
set_option linter.unusedSimpArgs false
set_option linter.unusedVariables false
open Go Go.RowKit Go.Shelf Mem Seg Turn Gra Same GraLaw Mea

set_option maxRecDepth 100000 in
set_option maxHeartbeats 8000000 in
theorem breaks22_any (w : World) (a : Option Addr) (n c : Nat) (xs : List Int) (h : Runes w a n c xs) (x : Int) (hx1 : -9223372036854775808 ≤ x) (hx2 : x ≤ 9223372036854775807) :
    Calls Try.prog 12 #[.slice a n c, .int .i64 x] w fun e w' => e = .returned (.bool true) ∧ Below w.heap.size w w' := by
  have hm : n ≤ 9223372036854775807 := Nat.le_trans h.le h.max
  have HH := Lib.hid h
  clear h
  by_cases g1 : 300 < n
  · have d1 : decide (300 < (n : Int)) = true := by simp; omega
    go_enter Try.func12, Try.ntmps12
    go_wp2_with fail
    refine (works22_any _).mono ?_; rintro e w1 ⟨rfl, hb1⟩
    go_wp2_with fail
    refine (works22_any _).mono ?_; rintro e w2 ⟨rfl, hb2⟩
    have hb2 := hb1.trans (hb2.mono hb1.size)
    go_wp2
    go_ret
    exact ⟨rfl, hb2⟩
  have d1 : decide (300 < (n : Int)) = false := by simp; omega
  have hn : n ≤ 1000 := by omega
  obtain ⟨m0, hm0⟩ : ∃ m0, (if (1024 : Int) < x then (1024 : Int) else x) = m0 := ⟨_, rfl⟩
  obtain ⟨W, hW⟩ : ∃ W, (if (1 : Int) < m0 then m0 else (1 : Int)) = W := ⟨_, rfl⟩
  have HM := Lib.hid hm0
  have HW := Lib.hid hW
  have HFL : Hid ((fl W xs).length ≤ 1001) := by
    have h1 := fS_len (W := W) (cl xs) (cnt (Jn xs) xs.length)
    have h2 := cnt_le (J := Jn xs) xs.length
    have h3 := HH.out.ints.1
    refine Lib.hid ?_
    unfold fl
    rw [List.length_append]
    simp only [List.length_cons, List.length_nil]
    omega
  clear hm0 hW
  go_enter Try.func12, Try.ntmps12
  go_wp2_with fail
  refine (works22_any _).mono ?_; rintro e w1 ⟨rfl, hb1⟩
  have B1 := Lib.hid hb1
  clear hb1
  go_wp2_with fail
  refine (lines_any a n c xs _ (HH.out.below B1.out) hn x W m0 hx1 hx2 HM.out HW.out).mono ?_
  rintro e w2 ⟨v2, rfl, hl2, hb2⟩
  have R2 := Lib.hid hl2.reads
  have B2 := Lib.hid (B1.out.trans (hb2.mono B1.out.size))
  clear hl2 hb2
  go_wp2_with fail
  refine (rlines_any a n c xs _ (HH.out.below B2.out) hn x W m0 hx1 hx2 HM.out HW.out).mono ?_
  rintro e w3 ⟨v3, rfl, hl3, hb3⟩
  have R2 := Lib.hid (R2.out.below hb3)
  have R3 := Lib.hid hl3.reads
  obtain ⟨a3, c3, rfl⟩ := lists_slice hl3
  have B3 := Lib.hid (B2.out.trans (hb3.mono B2.out.size))
  clear hl3 hb3
  have HS := Lib.hid (same16_true v2 _ (fl W xs) w3 R2.out R3.out (by have := HFL.out; omega))
  have HC := Lib.hid (fun w4 (hw : Below w.heap.size w w4) => count22_any a n c xs w4 (HH.out.below hw) hn x W m0 hx1 hx2 HM.out HW.out)
  generalize (fl W xs).length = L at *
  have xl : ((L : Int) == L) = true := by simp
  go_wp2_with fail
  refine HS.out.mono ?_
  rintro e w4 ⟨rfl, hb4⟩
  have B4 := Lib.hid (B3.out.trans (hb4.mono B3.out.size))
  clear hb4
  go_wp2_with fail
  refine (HC.out w4 B4.out).mono ?_
  rintro e w5 ⟨rfl, hb5⟩
  have B5 := Lib.hid (B4.out.trans (hb5.mono B4.out.size))
  go_wp2
  go_ret
  exact ⟨rfl, B5.out⟩

end Go.Proofs.Ytihanlahegngoaa.Fit

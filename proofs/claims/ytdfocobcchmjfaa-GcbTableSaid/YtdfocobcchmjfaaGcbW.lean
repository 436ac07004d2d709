/-
  works of layer 9.
-/
import Derived.Test.YtdfocobcchmjfaaGcbAll
namespace Go.Proofs.Ytdfocobcchmjfaa.Gcb
set_option linter.unusedSimpArgs false
set_option linter.unusedVariables false
open Go.RowKit Mem Tab

theorem e1 : val 13 = 1 := by kernel_rfl
theorem e2 : val 10 = 2 := by kernel_rfl
theorem e3 : val 769 = 4 := by kernel_rfl
theorem e4 : val 4352 = 9 := by kernel_rfl
theorem e5 : val 97 = 0 := by kernel_rfl

theorem works_any (w : World) :
    Calls Try.prog 46 #[] w fun e w' => e = .returned (.bool true) ∧ Below w.heap.size w w' := by
  go_enter Try.func46, Try.ntmps46
  go_wp2_with fail
  refine (of_any _ (by omega) (by omega) _).mono ?_; rintro e w1 ⟨rfl, h1⟩; rw [e1]
  go_wp2_with fail
  refine (of_any _ (by omega) (by omega) _).mono ?_; rintro e w2 ⟨rfl, h2⟩; rw [e2]
  have h2 := h1.trans (h2.mono h1.size)
  clear h1
  go_wp2_with fail
  refine (of_any _ (by omega) (by omega) _).mono ?_; rintro e w3 ⟨rfl, h3⟩; rw [e3]
  have h3 := h2.trans (h3.mono h2.size)
  clear h2
  go_wp2_with fail
  refine (of_any _ (by omega) (by omega) _).mono ?_; rintro e w4 ⟨rfl, h4⟩; rw [e4]
  have h4 := h3.trans (h4.mono h3.size)
  clear h3
  go_wp2_with fail
  refine (of_any _ (by omega) (by omega) _).mono ?_; rintro e w5 ⟨rfl, h5⟩; rw [e5]
  have h5 := h4.trans (h5.mono h4.size)
  clear h4
  go_wp2
  go_ret
  exact ⟨rfl, h5⟩

end Go.Proofs.Ytdfocobcchmjfaa.Gcb

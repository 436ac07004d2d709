/-
  Walks of the statements of layer 8.
-/
import Derived.Test.YtihanlahegngoaaHangul
namespace Go.Proofs.Ytihanlahegngoaa.Hangul
set_option linter.unusedSimpArgs false
set_option linter.unusedVariables false
open Go.RowKit

theorem hT0 {r : Int} (_h1 : 44032 ≤ r) (_h2 : r ≤ 55203) (h : (hT r == 0) = true) : (r - 44032) % 28 = 0 := by
  have h := eq_of_beq h
  unfold hT at h
  split at h <;> omega
theorem hT1 {r : Int} (h1 : 44032 ≤ r) (h2 : r ≤ 55203) (h : (hT r == 0) = false) : (r - 44032) % 28 ≠ 0 := by
  have h := ne_of_beq_false h
  unfold hT at h
  split at h <;> omega

set_option maxHeartbeats 400000 in
theorem rclass_any (r : Int) (hr1 : -2147483648 ≤ r) (hr2 : r ≤ 2147483647) (w : World) :
    Calls Try.prog 75 #[.int .i32 r] w fun e w' => e = .returned (.int .i64 (hclass r)) ∧ w = w' := by
  rcases (show r < 44032 ∧ (hL r == 0) = true ∨ (44032 ≤ r ∧ r ≤ 55203) ∧ (hL r == 0) = false ∨ 55203 < r ∧ (hL r == 0) = true by unfold hL; split <;> simp <;> omega) with ⟨h, hd⟩ | ⟨⟨h, h'⟩, hd⟩ | ⟨h, hd⟩
  all_goals
    go_enter Try.func75, Try.ntmps75
    go_wp2_with (go_at_call 102; refine (rsplit_any _ hr1 hr2 _).mono ?_; rintro e w' ⟨rfl, rfl⟩)
    all_goals
      go_ret
      clear hd
      first
        | (have ht := hT0 h h' (by assumption); exact ⟨ret_int (by unfold hclass; repeat (first | rw [if_pos (by omega)] | rw [if_neg (by omega)])), rfl⟩)
        | (have ht := hT1 h h' (by assumption); exact ⟨ret_int (by unfold hclass; repeat (first | rw [if_pos (by omega)] | rw [if_neg (by omega)])), rfl⟩)
        | exact ⟨ret_int (by unfold hclass; repeat (first | rw [if_pos (by omega)] | rw [if_neg (by omega)])), rfl⟩

end Go.Proofs.Ytihanlahegngoaa.Hangul

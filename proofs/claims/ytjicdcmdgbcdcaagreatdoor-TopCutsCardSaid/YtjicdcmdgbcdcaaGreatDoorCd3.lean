/-
  Walks of package hangul and of its reference.
  Walks of the statements of layer 8.
-/
import Derived.Test.YtjicdcmdgbcdcaaGreatDoorRows
import Derived.WalkKit
import Derived.WalkSpells
import Derived.WalkLawsBesides
section
namespace Go.Proofs.YtjicdcmdgbcdcaaGreatDoor.Hangul
set_option linter.unusedSimpArgs false
set_option linter.unusedVariables false
open Go.RowKit

theorem ret_int {k : IntKind} {a b : Int} (h : a = b) : Ending.returned (.int k a) = .returned (.int k b) := by rw [h]
theorem ret_bool {a b : Bool} (h : a = b) : Ending.returned (.bool a) = .returned (.bool b) := by rw [h]
def sylB (r : Int) : Bool := decide (44032 ≤ r ∧ r ≤ 55203)
/-- the class of breaks of chapter 8 -/
def hclass (r : Int) : Int :=
  if 4352 ≤ r ∧ r ≤ 4447 ∨ 43360 ≤ r ∧ r ≤ 43388 then 9
  else if 4448 ≤ r ∧ r ≤ 4519 ∨ 55216 ≤ r ∧ r ≤ 55238 then 10
  else if 4520 ≤ r ∧ r ≤ 4607 ∨ 55243 ≤ r ∧ r ≤ 55291 then 11
  else if 44032 ≤ r ∧ r ≤ 55203 then (if (r - 44032) % 28 = 0 then 12 else 13)
  else 0
def hL (r : Int) : Int := if 44032 ≤ r ∧ r ≤ 55203 then 4352 + (r - 44032) / 588 else 0
def hV (r : Int) : Int := if 44032 ≤ r ∧ r ≤ 55203 then 4449 + (r - 44032) / 28 % 21 else 0
def hT (r : Int) : Int := if 44032 ≤ r ∧ r ≤ 55203 ∧ 0 < (r - 44032) % 28 then 4519 + (r - 44032) % 28 else 0

set_option maxHeartbeats 400000 in
theorem class_any (r : Int) (w : World) :
    Calls Tryz.prog 279 #[.int .i32 r] w fun e w' => e = .returned (.int .i64 (hclass r)) ∧ w = w' := by
  rcases (show r < 44032 ∧ decide (44032 ≤ r) = false ∨ (44032 ≤ r ∧ r ≤ 55203) ∨ 55203 < r ∧ decide (r ≤ 55203) = false by simp; omega) with ⟨h, hd⟩ | ⟨h, h'⟩ | ⟨h, hd⟩
  all_goals
    go_enter Tryz.func279, Tryz.ntmps279
    go_wp2
    all_goals (go_ret; exact ⟨ret_int (by unfold hclass; (try simp only [beq_iff_eq, beq_eq_false_iff_ne] at *); repeat (first | rw [if_pos (by omega)] | rw [if_neg (by omega)])), rfl⟩)

end Go.Proofs.YtjicdcmdgbcdcaaGreatDoor.Hangul

namespace Go.Proofs.YtjicdcmdgbcdcaaGreatDoor.Hangul
set_option linter.unusedSimpArgs false
set_option linter.unusedVariables false
open Go.RowKit

theorem hT1 {r : Int} (h1 : 44032 ≤ r) (h2 : r ≤ 55203) (h : (hT r == 0) = false) : (r - 44032) % 28 ≠ 0 := by
  have h := ne_of_beq_false h
  unfold hT at h
  split at h <;> omega

end Go.Proofs.YtjicdcmdgbcdcaaGreatDoor.Hangul
end

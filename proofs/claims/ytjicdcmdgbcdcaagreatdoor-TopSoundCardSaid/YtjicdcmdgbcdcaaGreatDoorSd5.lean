/-
  Walks of package hangul and of its reference.
  Walks of the statements of layer 8.
-/
import Derived.Test.YtjicdcmdgbcdcaaGreatDoorRows
import Derived.WalkKit
import Derived.WalkSpells
import Derived.WalkLawsBesides
section
namespace Go.Proofs.YtjicdcmdgbcdcaaGreatDoor.Hangul
set_option linter.unusedSimpArgs false
set_option linter.unusedVariables false
open Go.RowKit

theorem ret_int {k : IntKind} {a b : Int} (h : a = b) : Ending.returned (.int k a) = .returned (.int k b) := by rw [h]
theorem ret_bool {a b : Bool} (h : a = b) : Ending.returned (.bool a) = .returned (.bool b) := by rw [h]
theorem ret_int3 {k : IntKind} {a b c a' b' c' : Int} (h1 : a = a') (h2 : b = b') (h3 : c = c') :
    Ending.returned (.tuple #[.int k a, .int k b, .int k c]) = .returned (.tuple #[.int k a', .int k b', .int k c']) := by rw [h1, h2, h3]

def sylB (r : Int) : Bool := decide (44032 ≤ r ∧ r ≤ 55203)
/-- the class of breaks of chapter 8 -/
def hclass (r : Int) : Int :=
  if 4352 ≤ r ∧ r ≤ 4447 ∨ 43360 ≤ r ∧ r ≤ 43388 then 9
  else if 4448 ≤ r ∧ r ≤ 4519 ∨ 55216 ≤ r ∧ r ≤ 55238 then 10
  else if 4520 ≤ r ∧ r ≤ 4607 ∨ 55243 ≤ r ∧ r ≤ 55291 then 11
  else if 44032 ≤ r ∧ r ≤ 55203 then (if (r - 44032) % 28 = 0 then 12 else 13)
  else 0
def hL (r : Int) : Int := if 44032 ≤ r ∧ r ≤ 55203 then 4352 + (r - 44032) / 588 else 0
def hV (r : Int) : Int := if 44032 ≤ r ∧ r ≤ 55203 then 4449 + (r - 44032) / 28 % 21 else 0
def hT (r : Int) : Int := if 44032 ≤ r ∧ r ≤ 55203 ∧ 0 < (r - 44032) % 28 then 4519 + (r - 44032) % 28 else 0

theorem syl_any (r : Int) (w : World) :
    Calls Tryz.prog 329 #[.int .i32 r] w fun e w' => e = .returned (.bool (sylB r)) ∧ w = w' := by
  go_enter Tryz.func329, Tryz.ntmps329
  go_wp2
  all_goals (go_ret; exact ⟨ret_bool (by unfold sylB; first | (rw [decide_eq_true (by omega)]) | (rw [decide_eq_false (by omega)]) | (rw [decide_eq_decide]; omega)), rfl⟩)

set_option maxHeartbeats 400000 in
theorem class_any (r : Int) (w : World) :
    Calls Tryz.prog 279 #[.int .i32 r] w fun e w' => e = .returned (.int .i64 (hclass r)) ∧ w = w' := by
  rcases (show r < 44032 ∧ decide (44032 ≤ r) = false ∨ (44032 ≤ r ∧ r ≤ 55203) ∨ 55203 < r ∧ decide (r ≤ 55203) = false by simp; omega) with ⟨h, hd⟩ | ⟨h, h'⟩ | ⟨h, hd⟩
  all_goals
    go_enter Tryz.func279, Tryz.ntmps279
    go_wp2
    all_goals (go_ret; exact ⟨ret_int (by unfold hclass; (try simp only [beq_iff_eq, beq_eq_false_iff_ne] at *); repeat (first | rw [if_pos (by omega)] | rw [if_neg (by omega)])), rfl⟩)

set_option maxHeartbeats 400000 in
theorem rsplit_any (r : Int) (hr1 : -2147483648 ≤ r) (hr2 : r ≤ 2147483647) (w : World) :
    Calls Tryz.prog 341 #[.int .i32 r] w fun e w' => e = .returned (.tuple #[.int .i64 (hL r), .int .i64 (hV r), .int .i64 (hT r)]) ∧ w = w' := by
  by_cases h1 : 44032 ≤ r ∧ r ≤ 55203
  · obtain ⟨h1, h2⟩ := h1
    go_enter Tryz.func341, Tryz.ntmps341
    go_wp2
    go_loop [6, 7] (fun at_ l => ∃ k : Nat, k ≤ 19 ∧ l = .int .i64 (4352 + k) ∧ at_ = .int .i64 (44032 + k * 588) ∧ 44032 + (k : Int) * 588 ≤ r) (fun _ l => (4371 - intOf l).toNat)
    case atStart => exact ⟨0, by omega, rfl, rfl, by omega⟩
    case round =>
      obtain ⟨k, hk, rfl, rfl, hr⟩ := hrel
      have hk' : (k : Int) < 19 := by omega
      go_wp2
      go_loop [6, 8, 9] (fun at_ v t => ∃ j : Nat, j ≤ 21 ∧ v = .int .i64 (4449 + j) ∧ at_ = .int .i64 (44032 + k * 588 + j * 28) ∧ 44032 + (k : Int) * 588 + j * 28 ≤ r) (fun _ v _ => (4470 - intOf v).toNat)
      case atStart => exact ⟨0, by omega, rfl, by simp, by omega⟩
      case round =>
        obtain ⟨j, hj, rfl, rfl, hr2⟩ := hrel
        go_wp2
        · go_ret3
          have he : (4519 + r - (44032 + (k : Int) * 588 + j * 28) == 4519) = true := by assumption
          have he := eq_of_beq he
          exact ⟨ret_int3 (by unfold hL; rw [if_pos ⟨h1, h2⟩]; omega) (by unfold hV; rw [if_pos ⟨h1, h2⟩]; omega) (by unfold hT; rw [if_neg (by omega)]), rfl⟩
        · go_ret3
          have he : (4519 + r - (44032 + (k : Int) * 588 + j * 28) == 4519) = false := by assumption
          have he := ne_of_beq_false he
          exact ⟨ret_int3 (by unfold hL; rw [if_pos ⟨h1, h2⟩]; omega) (by unfold hV; rw [if_pos ⟨h1, h2⟩]; omega) (by unfold hT; rw [if_pos (by omega)]; omega), rfl⟩
        · go_round
          case rel => exact ⟨j + 1, by omega, by go_num, by go_num, by omega⟩
          case measure => simp [intOf]; omega
        · go_round
          case rel => exact ⟨k + 1, by omega, by go_num, by go_num, by omega⟩
          case measure => simp [intOf]; omega
  · rcases (show r < 44032 ∧ decide (r < 44032) = true ∧ True ∨ 55203 < r ∧ decide (r < 44032) = false ∧ decide (55203 < r) = true by simp; omega) with ⟨h2, hd, hd'⟩ | ⟨h2, hd, hd'⟩
    all_goals
      go_enter Tryz.func341, Tryz.ntmps341
      go_wp2
      all_goals (go_ret3; exact ⟨ret_int3 (by unfold hL; rw [if_neg h1]) (by unfold hV; rw [if_neg h1]) (by unfold hT; rw [if_neg (by omega)]), rfl⟩)


end Go.Proofs.YtjicdcmdgbcdcaaGreatDoor.Hangul

namespace Go.Proofs.YtjicdcmdgbcdcaaGreatDoor.Hangul
set_option linter.unusedSimpArgs false
set_option linter.unusedVariables false
open Go.RowKit

theorem hT0 {r : Int} (_h1 : 44032 ≤ r) (_h2 : r ≤ 55203) (h : (hT r == 0) = true) : (r - 44032) % 28 = 0 := by
  have h := eq_of_beq h
  unfold hT at h
  split at h <;> omega
theorem hT1 {r : Int} (h1 : 44032 ≤ r) (h2 : r ≤ 55203) (h : (hT r == 0) = false) : (r - 44032) % 28 ≠ 0 := by
  have h := ne_of_beq_false h
  unfold hT at h
  split at h <;> omega

set_option maxHeartbeats 400000 in
theorem rclass_any (r : Int) (hr1 : -2147483648 ≤ r) (hr2 : r ≤ 2147483647) (w : World) :
    Calls Tryz.prog 317 #[.int .i32 r] w fun e w' => e = .returned (.int .i64 (hclass r)) ∧ w = w' := by
  rcases (show r < 44032 ∧ (hL r == 0) = true ∨ (44032 ≤ r ∧ r ≤ 55203) ∧ (hL r == 0) = false ∨ 55203 < r ∧ (hL r == 0) = true by unfold hL; split <;> simp <;> omega) with ⟨h, hd⟩ | ⟨⟨h, h'⟩, hd⟩ | ⟨h, hd⟩
  all_goals
    go_enter Tryz.func317, Tryz.ntmps317
    go_wp2_with (go_at_call 341; refine (rsplit_any _ hr1 hr2 _).mono ?_; rintro e w' ⟨rfl, rfl⟩)
    all_goals
      go_ret
      clear hd
      first
        | (have ht := hT0 h h' (by assumption); exact ⟨ret_int (by unfold hclass; repeat (first | rw [if_pos (by omega)] | rw [if_neg (by omega)])), rfl⟩)
        | (have ht := hT1 h h' (by assumption); exact ⟨ret_int (by unfold hclass; repeat (first | rw [if_pos (by omega)] | rw [if_neg (by omega)])), rfl⟩)
        | exact ⟨ret_int (by unfold hclass; repeat (first | rw [if_pos (by omega)] | rw [if_neg (by omega)])), rfl⟩

end Go.Proofs.YtjicdcmdgbcdcaaGreatDoor.Hangul
end

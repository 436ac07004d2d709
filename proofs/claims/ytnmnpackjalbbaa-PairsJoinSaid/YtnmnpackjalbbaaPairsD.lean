/-
  Walks of the statements of layer 14.
-/
import Derived.Test.YtnmnpackjalbbaaPairsC
namespace Go.Proofs.Ytnmnpackjalbbaa.Pairs
open Go.RowKit

theorem k1 : pj (cls 1) (cls 2) = 1 := by decide
theorem k2 : pj (cls 2) (cls 1) = 0 := by decide
theorem k3 : pj (cls 6) (cls 6) = 2 := by decide
theorem k4 : pj (cls 0) (cls 4) = 1 := by decide
theorem k5 : pj (cls 9) (cls 12) = 1 := by decide
theorem k6 : pj (cls 12) (cls 9) = 0 := by decide

set_option maxHeartbeats 400000 in
theorem works_any (w : World) :
    Calls Try.prog 30 #[] w fun e w' => e = .returned (.bool true) ∧ w = w' := by
  go_enter Try.func30, Try.ntmps30
  go_wp2_with (go_at_call 28; refine (join_any _ _ _).mono ?_; rintro e w' ⟨rfl, rfl⟩; first | rw [k1] | rw [k2] | rw [k3] | rw [k4] | rw [k5] | rw [k6])
  go_ret
  exact ⟨rfl, rfl⟩

set_option maxHeartbeats 400000 in
theorem pjoin_any (a : Int) (_ : -9223372036854775808 ≤ a) (_ : a ≤ 9223372036854775807) (b : Int) (_ : -9223372036854775808 ≤ b) (_ : b ≤ 9223372036854775807) (w : World) :
    Calls Try.prog 7 #[.int .i64 a, .int .i64 b] w fun e w' => e = .returned (.bool true) ∧ Below w.heap.size w w' := by
  go_enter Try.func7, Try.ntmps7
  go_wp2_with (first
    | (go_at_call 28; refine (join_any _ _ _).mono ?_; rintro e w' ⟨rfl, rfl⟩)
    | (go_at_call 29; refine (rjoin_any _ _ _).mono ?_; rintro e w' ⟨rfl, hb⟩)
    | (go_at_call 30; refine (works_any _).mono ?_; rintro e w' ⟨rfl, rfl⟩))
  go_ret
  exact ⟨rfl, by assumption⟩

theorem c4 : cls 4 = 4 := by decide
theorem c5 : cls 5 = 5 := by decide
theorem c8 : cls 8 = 8 := by decide
theorem c0 : cls 0 = 0 := by decide

theorem other_cases (a : Int) :
    (decide (1 ≤ a) = true ∧ decide (a ≤ 3) = true ∧ (pj (cls a) 0 = 0 ∧ pj (cls a) 4 = 0 ∧ pj (cls a) 5 = 0 ∧ pj (cls a) 8 = 0)) ∨
    ((decide (1 ≤ a) = false ∨ decide (1 ≤ a) = true ∧ decide (a ≤ 3) = false) ∧ ((pj (cls a) 0 = 0 ∨ (pj (cls a) 0 = 2 ∧ ((a == 4) = true ∨ (a == 4) = false ∧ (a == 5) = true)) ∨ (pj (cls a) 0 = 1 ∧ (a == 4) = false ∧ (a == 5) = false ∧ (a == 7) = true)) ∧ pj (cls a) 4 = 1 ∧ pj (cls a) 5 = 1 ∧ pj (cls a) 8 = 1)) := by
  by_cases h : 0 ≤ a ∧ a ≤ 13
  · obtain ⟨i, rfl⟩ := Int.eq_ofNat_of_zero_le h.1
    have : i < 14 := by omega
    have key : ∀ i : Fin 14, (decide (1 ≤ (i.val : Int)) = true ∧ decide ((i.val : Int) ≤ 3) = true ∧ (pj (cls (i.val : Int)) 0 = 0 ∧ pj (cls (i.val : Int)) 4 = 0 ∧ pj (cls (i.val : Int)) 5 = 0 ∧ pj (cls (i.val : Int)) 8 = 0)) ∨
      ((decide (1 ≤ (i.val : Int)) = false ∨ decide (1 ≤ (i.val : Int)) = true ∧ decide ((i.val : Int) ≤ 3) = false) ∧ ((pj (cls (i.val : Int)) 0 = 0 ∨ (pj (cls (i.val : Int)) 0 = 2 ∧ (((i.val : Int) == 4) = true ∨ ((i.val : Int) == 4) = false ∧ ((i.val : Int) == 5) = true)) ∨ (pj (cls (i.val : Int)) 0 = 1 ∧ ((i.val : Int) == 4) = false ∧ ((i.val : Int) == 5) = false ∧ ((i.val : Int) == 7) = true)) ∧ pj (cls (i.val : Int)) 4 = 1 ∧ pj (cls (i.val : Int)) 5 = 1 ∧ pj (cls (i.val : Int)) 8 = 1)) := by decide
    exact key ⟨i, this⟩
  · have e : cls a = 0 := by unfold cls; rw [if_pos (by omega)]
    rw [e]
    refine .inr ⟨?_, .inl (by decide), by decide, by decide, by decide⟩
    simp
    omega

set_option maxHeartbeats 1000000 in
theorem other_any (a : Int) (_ : -9223372036854775808 ≤ a) (_ : a ≤ 9223372036854775807) (w : World) :
    Calls Try.prog 8 #[.int .i64 a] w fun e w' => e = .returned (.bool true) ∧ w = w' := by
  rcases other_cases a with ⟨h1, h2, p0, p4, p5, p8⟩ | ⟨h1 | ⟨h1, h2⟩, p0 | ⟨p0, q1 | ⟨q1, q2⟩⟩ | ⟨p0, q1, q2, q3⟩, p4, p5, p8⟩
  all_goals
    have P0 := Lib.hid p0
    have P4 := Lib.hid p4
    have P5 := Lib.hid p5
    have P8 := Lib.hid p8
    clear p0 p4 p5 p8
    go_enter Try.func8, Try.ntmps8
    go_wp2_with (first
      | (go_at_call 28; refine (join_any _ _ _).mono ?_; rintro e w' ⟨rfl, rfl⟩; rw [c0, P0.out])
      | (go_at_call 30; refine (works_any _).mono ?_; rintro e w' ⟨rfl, rfl⟩))
    go_loop [5] (fun b => ∃ k : Nat, k ≤ 5 ∧ b = .int .i64 (4 + k)) (fun b => (9 - intOf b).toNat)
    case atStart => exact ⟨0, by omega, rfl⟩
    case round =>
      obtain ⟨k, hk, rfl⟩ := hrel
      rcases (show k = 0 ∨ k = 1 ∨ k = 2 ∨ k = 3 ∨ k = 4 ∨ k = 5 by omega) with rfl | rfl | rfl | rfl | rfl | rfl
      all_goals
        go_wp2_with (go_at_call 28; refine (join_any _ _ _).mono ?_; rintro e w' ⟨rfl, rfl⟩; first | rw [c4, P4.out] | rw [c5, P5.out] | rw [c8, P8.out])
        first
          | (go_round
             case rel => first | exact ⟨1, by omega, rfl⟩ | exact ⟨2, by omega, rfl⟩ | exact ⟨3, by omega, rfl⟩ | exact ⟨4, by omega, rfl⟩ | exact ⟨5, by omega, rfl⟩
             case measure => simp [intOf])
          | (go_ret; exact ⟨rfl, rfl⟩)

end Go.Proofs.Ytnmnpackjalbbaa.Pairs

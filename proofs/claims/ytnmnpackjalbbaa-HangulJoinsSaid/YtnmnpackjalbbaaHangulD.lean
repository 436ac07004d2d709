/-
  Walks of the statements of layer 8: HangulJoins.
-/
import Derived.Test.YtnmnpackjalbbaaHangulC
import Derived.Lib.Hide
namespace Go.Proofs.Ytnmnpackjalbbaa.Hangul
open Go.RowKit

/-- the three parts fit, or where they first don't: in the walk's own spelling -/
def Fit (l v t : Int) : Prop := 4352 ≤ l ∧ l ≤ 4370 ∧ 4449 ≤ v ∧ v ≤ 4469 ∧ (t = 0 ∨ 4520 ≤ t ∧ t ≤ 4546)

theorem cases8 (l v t : Int) :
    (l < 4352 ∧ decide (4352 ≤ l) = false) ∨
    (4352 ≤ l ∧ 4370 < l ∧ decide (l ≤ 4370) = false) ∨
    (4352 ≤ l ∧ l ≤ 4370 ∧ v < 4449 ∧ decide (4449 ≤ v) = false) ∨
    (4352 ≤ l ∧ l ≤ 4370 ∧ 4449 ≤ v ∧ 4469 < v ∧ decide (v ≤ 4469) = false) ∨
    (4352 ≤ l ∧ l ≤ 4370 ∧ 4449 ≤ v ∧ v ≤ 4469 ∧ (t == 0) = false ∧ (t != 0) = true ∧ t < 4520 ∧ decide (4520 ≤ t) = false) ∨
    (4352 ≤ l ∧ l ≤ 4370 ∧ 4449 ≤ v ∧ v ≤ 4469 ∧ (t == 0) = false ∧ (t != 0) = true ∧ 4546 < t ∧ decide (t ≤ 4546) = false) ∨
    (4352 ≤ l ∧ l ≤ 4370 ∧ 4449 ≤ v ∧ v ≤ 4469 ∧ (t == 0) = true ∧ (t != 0) = false ∧ t = 0) ∨
    (4352 ≤ l ∧ l ≤ 4370 ∧ 4449 ≤ v ∧ v ≤ 4469 ∧ (t == 0) = false ∧ (t != 0) = true ∧ 4520 ≤ t ∧ t ≤ 4546) := by
  simp
  omega

theorem ret_intbool {k : IntKind} {a a' : Int} {b : Bool} (h : a = a') : Ending.returned (.tuple #[.int k a, .bool b]) = .returned (.tuple #[.int k a', .bool b]) := by rw [h]

def joined (l v t : Int) : Int := 44032 + ((l - 4352) * 21 + v - 4449) * 28 + t - 4519

set_option maxHeartbeats 400000 in
theorem join_no (l v t : Int) (h : ¬ Fit l v t) (w : World) :
    Calls Try.prog 20 #[.int .i32 l, .int .i32 v, .int .i32 t] w fun e w' => e = .returned (.tuple #[.int .i32 0, .bool false]) ∧ w = w' := by
  unfold Fit at h
  rcases cases8 l v t with ⟨h1, h2⟩ | ⟨h1, h2, h3⟩ | ⟨h1, h2, h3, h4⟩ | ⟨h1, h2, h3, h4, h5⟩ | ⟨h1, h2, h3, h4, h5, h6, h7, h8⟩ | ⟨h1, h2, h3, h4, h5, h6, h7, h8⟩ | ⟨h1, h2, h3, h4, h5, h6, rfl⟩ | ⟨h1, h2, h3, h4, h5, h6, h7, h8⟩
  case inr.inr.inr.inr.inr.inr.inl => omega
  case inr.inr.inr.inr.inr.inr.inr => omega
  all_goals
    clear h
    go_enter Try.func20, Try.ntmps20
    go_wp2
    go_ret2
    exact ⟨rfl, rfl⟩

set_option maxHeartbeats 400000 in
theorem join_zero (l v : Int) (h1 : 4352 ≤ l) (h2 : l ≤ 4370) (h3 : 4449 ≤ v) (h4 : v ≤ 4469) (w : World) :
    Calls Try.prog 20 #[.int .i32 l, .int .i32 v, .int .i32 0] w fun e w' => e = .returned (.tuple #[.int .i32 (joined l v 4519), .bool true]) ∧ w = w' := by
  go_enter Try.func20, Try.ntmps20
  go_wp2
  go_ret2
  exact ⟨ret_intbool (by unfold joined; omega), rfl⟩

set_option maxHeartbeats 400000 in
theorem join_yes (l v t : Int) (h1 : 4352 ≤ l) (h2 : l ≤ 4370) (h3 : 4449 ≤ v) (h4 : v ≤ 4469) (h5 : 4520 ≤ t) (h6 : t ≤ 4546) (w : World) :
    Calls Try.prog 20 #[.int .i32 l, .int .i32 v, .int .i32 t] w fun e w' => e = .returned (.tuple #[.int .i32 (joined l v t), .bool true]) ∧ w = w' := by
  have e1 : (t == 0) = false := by simp; omega
  have e2 : (t != 0) = true := by simp; omega
  go_enter Try.func20, Try.ntmps20
  go_wp2
  go_ret2
  exact ⟨rfl, rfl⟩

theorem parts (l v t : Int) (h1 : 4352 ≤ l) (h2 : l ≤ 4370) (h3 : 4449 ≤ v) (h4 : v ≤ 4469) (h5 : 4519 ≤ t) (h6 : t ≤ 4546) :
    hL (joined l v t) = l ∧ hV (joined l v t) = v ∧ hT (joined l v t) = (if t = 4519 then 0 else t) ∧ sylB (joined l v t) = true := by
  have b : 44032 ≤ joined l v t ∧ joined l v t ≤ 55203 := by unfold joined; omega
  refine ⟨?_, ?_, ?_, ?_⟩
  · unfold hL; rw [if_pos b]; unfold joined; omega
  · unfold hV; rw [if_pos b]; unfold joined; omega
  · unfold hT; unfold joined at *; split <;> split <;> omega
  · unfold sylB; rw [decide_eq_true b]

set_option maxHeartbeats 1000000 in
theorem joins_any (l v t : Int) (w : World) :
    Calls Try.prog 4 #[.int .i32 l, .int .i32 v, .int .i32 t] w fun e w' => e = .returned (.bool true) ∧ w = w' := by
  rcases cases8 l v t with ⟨h1, h2⟩ | ⟨h1, h2, h3⟩ | ⟨h1, h2, h3, h4⟩ | ⟨h1, h2, h3, h4, h5⟩ | ⟨h1, h2, h3, h4, h5, h6, h7, h8⟩ | ⟨h1, h2, h3, h4, h5, h6, h7, h8⟩ | ⟨h1, h2, h3, h4, h5, h6, rfl⟩ | ⟨h1, h2, h3, h4, h5, h6, h7, h8⟩
  case inr.inr.inr.inr.inr.inr.inl =>
    obtain ⟨p1, p2, p3, p4⟩ := parts l v 4519 h1 h2 h3 h4 (by omega) (by omega)
    rw [if_pos rfl] at p3
    have P1 := Lib.hid p1
    have P2 := Lib.hid p2
    have P3 := Lib.hid p3
    have P4 := Lib.hid p4
    clear p1 p2 p3 p4
    go_enter Try.func4, Try.ntmps4
    go_wp2_with (first
      | (go_at_call 19; refine (works_any _).mono ?_; rintro e w' ⟨rfl, rfl⟩)
      | (go_at_call 20; refine (join_zero l v h1 h2 h3 h4 _).mono ?_; rintro e w' ⟨rfl, rfl⟩)
      | (go_at_call 14; refine (split_any _ _).mono ?_; rintro e w' ⟨rfl, rfl⟩; rw [P1.out, P2.out, P3.out])
      | (go_at_call 16; refine (syl_any _ _).mono ?_; rintro e w' ⟨rfl, rfl⟩; rw [P4.out]))
    go_ret
    exact ⟨rfl, rfl⟩
  case inr.inr.inr.inr.inr.inr.inr =>
    obtain ⟨p1, p2, p3, p4⟩ := parts l v t h1 h2 h3 h4 (by omega) (by omega)
    rw [if_neg (by omega)] at p3
    have P1 := Lib.hid p1
    have P2 := Lib.hid p2
    have P3 := Lib.hid p3
    have P4 := Lib.hid p4
    clear p1 p2 p3 p4
    go_enter Try.func4, Try.ntmps4
    go_wp2_with (first
      | (go_at_call 19; refine (works_any _).mono ?_; rintro e w' ⟨rfl, rfl⟩)
      | (go_at_call 20; refine (join_yes l v t h1 h2 h3 h4 h7 h8 _).mono ?_; rintro e w' ⟨rfl, rfl⟩)
      | (go_at_call 14; refine (split_any _ _).mono ?_; rintro e w' ⟨rfl, rfl⟩; rw [P1.out, P2.out, P3.out])
      | (go_at_call 16; refine (syl_any _ _).mono ?_; rintro e w' ⟨rfl, rfl⟩; rw [P4.out]))
    go_ret
    exact ⟨rfl, rfl⟩
  all_goals
    have hn : ¬ Fit l v t := by
      unfold Fit
      first | omega | (have e := ne_of_beq_false h5; omega)
    have HN := Lib.hid hn
    clear hn
    go_enter Try.func4, Try.ntmps4
    go_wp2_with (first
      | (go_at_call 19; refine (works_any _).mono ?_; rintro e w' ⟨rfl, rfl⟩)
      | (go_at_call 20; refine (join_no l v t HN.out _).mono ?_; rintro e w' ⟨rfl, rfl⟩))
    go_ret
    exact ⟨rfl, rfl⟩

end Go.Proofs.Ytnmnpackjalbbaa.Hangul

/-
  Walks of package pairs and of its reference.
-/
import Derived.Test.YtcbfmokafmagpaaGreatRows
import Derived.WalkKit
import Derived.WalkSpells
import Derived.WalkLawsBesides
import Derived.Lib.Hide
namespace Go.Proofs.YtcbfmokafmagpaaGreat.Pairs
set_option linter.unusedSimpArgs false
set_option linter.unusedVariables false
open Go.RowKit

theorem ret_int {k : IntKind} {a b : Int} (h : a = b) : Ending.returned (.int k a) = .returned (.int k b) := by rw [h]
theorem ret_bool {a b : Bool} (h : a = b) : Ending.returned (.bool a) = .returned (.bool b) := by rw [h]

def cls (c : Int) : Int := if c < 0 ∨ 13 < c then 0 else c
def brkB (c : Int) : Bool := c == 1 || c == 2 || c == 3
def sylB (a b : Int) : Bool :=
  (a == 9 && (b == 9 || b == 10 || b == 12 || b == 13)) || ((a == 12 || a == 10) && (b == 10 || b == 11)) || ((a == 13 || a == 11) && b == 11)
/-- of two classes -/
def pj (a b : Int) : Int :=
  if a == 1 && b == 2 then 1
  else if brkB a || brkB b then 0
  else if sylB a b || b == 4 || b == 5 || b == 8 || a == 7 then 1
  else if (b == 0 && (a == 5 || a == 4)) || (a == 6 && b == 6) then 2
  else 0

theorem class_any (c : Int) (w : World) :
    Calls Tryz.prog 110 #[.int .i64 c] w fun e w' => e = .returned (.int .i64 (cls c)) ∧ w = w' := by
  go_enter Tryz.func110, Tryz.ntmps110
  go_wp2
  all_goals (go_ret; exact ⟨ret_int (by unfold cls; first | (rw [if_pos (by omega)]) | (rw [if_neg (by omega)])), rfl⟩)

theorem breaks_any (c : Int) (w : World) :
    Calls Tryz.prog 111 #[.int .i64 c] w fun e w' => e = .returned (.bool (brkB c)) ∧ w = w' := by
  go_enter Tryz.func111, Tryz.ntmps111
  go_wp2
  all_goals (go_ret; exact ⟨ret_bool (by unfold brkB; simp [*]), rfl⟩)

set_option maxHeartbeats 1000000 in
theorem syllable_any (a b : Int) (w : World) :
    Calls Tryz.prog 112 #[.int .i64 a, .int .i64 b] w fun e w' => e = .returned (.bool (sylB a b)) ∧ w = w' := by
  go_enter Tryz.func112, Tryz.ntmps112
  go_wp2
  all_goals go_ret
  all_goals (refine ⟨ret_bool ?_, rfl⟩; unfold sylB; try simp [*])
  have e : a = 9 := eq_of_beq (by assumption)
  subst e
  simp

end Go.Proofs.YtcbfmokafmagpaaGreat.Pairs

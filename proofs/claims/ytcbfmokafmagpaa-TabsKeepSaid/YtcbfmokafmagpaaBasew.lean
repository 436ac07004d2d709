/-
  Package basew and its reference.
-/
import Derived.Test.YtcbfmokafmagpaaUcd
import Derived.Lib.QuietBelow
namespace Go.Proofs.Ytcbfmokafmagpaa.Basew
set_option linter.unusedSimpArgs false
set_option linter.unusedVariables false
open Go.RowKit Mem Tab Ucd

theorem ret_int {k : IntKind} {a b : Int} (h : a = b) : Ending.returned (.int k a) = .returned (.int k b) := by rw [h]
theorem ret_bool {a b : Bool} (h : a = b) : Ending.returned (.bool a) = .returned (.bool b) := by rw [h]

def zs : List Int := [1, 2, 3, 4, 5, 10, 11]
def noneB (c : Int) : Bool := c == 1 || c == 2 || c == 3 || c == 4 || c == 5 || c == 10 || c == 11
/-- how wide a class of breaks and an east width make it -/
def bw (b e : Int) : Int := if noneB b then 0 else if e == 1 || e == 2 then 2 else 1
def silentB (r : Int) : Bool := (decide (0 ≤ r) && decide (r ≤ 31)) || (decide (127 ≤ r) && decide (r ≤ 159))

theorem none_any (c : Int) (w : World) :
    Calls Try.prog 102 #[.int .i64 c] w fun e w' => e = .returned (.bool (noneB c)) ∧ w = w' := by
  go_enter Try.func102, Try.ntmps102
  go_wp2
  all_goals (go_ret; exact ⟨ret_bool (by unfold noneB; simp [*]), rfl⟩)

theorem e12 (e : Int) : (e == 1) = true ∨ ((e == 1) = false ∧ (e == 2) = true) ∨ ((e == 1) = false ∧ (e == 2) = false) := by
  by_cases h1 : e = 1
  · simp [h1]
  · by_cases h2 : e = 2 <;> simp [h1, h2]

set_option maxHeartbeats 400000 in
theorem of_any (b : Int) (p : Bool) (c e : Int) (w : World) :
    Calls Try.prog 101 #[propV b p c e] w fun e' w' => e' = .returned (.int .i64 (bw b e)) ∧ Below w.heap.size w w' := by
  unfold propV
  have hb : bw b e = if noneB b then 0 else if e == 1 || e == 2 then 2 else 1 := rfl
  have H := Lib.hid hb
  clear hb
  rcases e12 e with h1 | ⟨h1, h2⟩ | ⟨h1, h2⟩
  all_goals
   go_enter Try.func101, Try.ntmps101
   go_wp2_with (go_at_call 102; refine (none_any _ _).mono ?_; rintro e w' ⟨rfl, rfl⟩)
   all_goals (go_ret; refine ⟨ret_int (by rw [H.out]; simp [*]), (Below.refl _ _).alloc (Nat.le_refl _) _⟩)

theorem noneB_zs (b : Int) : noneB b = zs.any fun z => b == z := by simp [noneB, zs, Bool.or_assoc]

theorem sil_cases (r : Int) :
    (decide (0 ≤ r) = true ∧ decide (r < 32) = true ∧ decide (r ≤ 31) = true ∧ silentB r = true) ∨
    (decide (0 ≤ r) = true ∧ decide (r < 32) = false ∧ decide (r ≤ 31) = false ∧ decide (127 ≤ r) = true ∧ decide (r ≤ 159) = true ∧ silentB r = true) ∨
    (decide (0 ≤ r) = true ∧ decide (r < 32) = false ∧ decide (r ≤ 31) = false ∧ decide (127 ≤ r) = true ∧ decide (r ≤ 159) = false ∧ silentB r = false) ∨
    (decide (0 ≤ r) = true ∧ decide (r < 32) = false ∧ decide (r ≤ 31) = false ∧ decide (127 ≤ r) = false ∧ True ∧ silentB r = false) ∨
    (decide (0 ≤ r) = false ∧ decide (127 ≤ r) = false ∧ True ∧ silentB r = false) := by
  unfold silentB
  simp
  omega

set_option maxHeartbeats 400000 in
theorem silent_any (r : Int) (w : World) : Calls Try.prog 63 #[.int .i32 r] w fun e w' => e = .returned (.bool (silentB r)) ∧ w = w' := by
  rcases sil_cases r with ⟨d1, d2, d3, h⟩ | ⟨d1, d2, d3, d4, d5, h⟩ | ⟨d1, d2, d3, d4, d5, h⟩ | ⟨d1, d2, d3, d4, d5, h⟩ | ⟨d1, d2, d3, h⟩
  all_goals
    rw [h]
    clear h
    go_enter Try.func63, Try.ntmps63
    go_wp2
    go_ret
    exact ⟨rfl, rfl⟩

end Go.Proofs.Ytcbfmokafmagpaa.Basew

/-
  The walk of the reference's table of pairs.
-/
import Derived.Test.YtcbfmokafmagpaaPairsB
import Derived.Test.YtcbfmokafmagpaaMem
namespace Go.Proofs.Ytcbfmokafmagpaa.Pairs
set_option linter.unusedSimpArgs false
set_option linter.unusedVariables false
open Go.RowKit Mem

def rowS (a : Nat) : ByteArray := ⟨((List.range 14).map fun b : Nat => UInt8.ofNat (48 + (pj a b).toNat)).toArray⟩
def rowsL : List Value := (List.range 14).map fun a => .string (rowS a)

def RowsPost (w : World) (e : Ending) (w' : World) : Prop :=
  e = .returned (.slice (some ⟨w.heap.size, 0, none⟩) 14 14) ∧ Below w.heap.size w w' ∧ Blk w' w.heap.size rowsL

theorem rowsL_get (a : Nat) (h : a < 14) : rowsL[a]? = some (.string (rowS a)) := by
  unfold rowsL
  rw [List.getElem?_map, List.getElem?_range h]
  rfl

theorem rowS_size (a : Nat) : (rowS a).size = 14 := by
  unfold rowS ByteArray.size
  simp

theorem pj_le (a b : Int) : 0 ≤ pj a b ∧ pj a b ≤ 2 := by
  unfold pj
  repeat' split
  all_goals omega

theorem rowS_get (a b : Nat) (h : b < (rowS a).size) : (((rowS a)[b]'h).toNat : Int) - 48 = pj a b := by
  have e : ((rowS a)[b]'h).toNat = 48 + (pj a b).toNat := by
    show ((((List.range 14).map fun b : Nat => UInt8.ofNat (48 + (pj a b).toNat)).toArray)[b]'h).toNat = _
    have := pj_le a b
    simp
    omega
  have := pj_le a b
  omega

theorem idx (a : Int) : (∃ i : Nat, a = i ∧ i < 14 ∧ cls a = i ∧ decide (a < 0) = false ∧ decide (13 < a) = false) ∨
    (cls a = 0 ∧ a < 0 ∧ decide (a < 0) = true) ∨ (cls a = 0 ∧ 13 < a ∧ decide (a < 0) = false ∧ decide (13 < a) = true) := by
  by_cases h : 0 ≤ a ∧ a ≤ 13
  · obtain ⟨i, rfl⟩ := Int.eq_ofNat_of_zero_le h.1
    refine .inl ⟨i, rfl, by omega, ?_, by simp, by simp; omega⟩
    unfold cls
    rw [if_neg (by omega)]
  · have e : cls a = 0 := by unfold cls; rw [if_pos (by omega)]
    simp [e]
    omega

end Go.Proofs.Ytcbfmokafmagpaa.Pairs

/-
  The table of one list, reckoned.
-/
import Derived.Test.YtpeniadomjijcaaPackG
namespace Go.Proofs.Ytpeniadomjijcaa.Pack
set_option linter.unusedSimpArgs false
set_option linter.unusedVariables false
open Sp TabLaw

def l0 : List S3 := [(1, 300, 7)]
theorem right_l0 : Right l0 := by
  intro k s h
  match k, h with
  | 0, h => simp [l0] at h; subst h; simp [okAt, prev]
theorem val_l0 (r : Int) : val3 l0 r = if 1 ≤ r ∧ r ≤ 300 then 7 else 0 := by
  by_cases h : 1 ≤ r ∧ r ≤ 300
  · simp [val3, l0, has, h]
  · rw [if_neg h]
    refine val3_zero fun t ht => ?_
    simp only [l0, List.mem_singleton] at ht
    subst ht
    exact has_no h
theorem cont_l0 (p : Nat) (h : 2 ≤ p) : cont l0 (256 * (p : Int)) = List.replicate 256 0 :=
  cont_const fun i hi => by rw [val_l0, if_neg (by omega)]
theorem l0_01 : cont l0 0 ≠ cont l0 256 := fun h => by
  have := congrArg (·[0]?) h
  simp only [cont_get l0 _ (show 0 < 256 from by omega)] at this
  rw [val_l0, val_l0] at this
  simp at this
theorem l0_0z : cont l0 0 ≠ List.replicate 256 0 := fun h => by
  have h3 := cont_get l0 0 (show 1 < 256 from by omega)
  have h2 : (List.replicate 256 (0 : Int))[1]? = some 0 := by rw [List.getElem?_replicate, if_pos (by omega)]
  rw [h, h2, val_l0] at h3
  simp at h3
theorem l0_1z : cont l0 256 ≠ List.replicate 256 0 := fun h => by
  have h3 := cont_get l0 256 (show 0 < 256 from by omega)
  have h2 : (List.replicate 256 (0 : Int))[0]? = some 0 := by rw [List.getElem?_replicate, if_pos (by omega)]
  rw [h, h2, val_l0] at h3
  simp at h3
theorem tab_l0 : ∀ p : Nat, tabAt l0 (p + 3) = ([0, 1, 2] ++ List.replicate p 2, [cont l0 0, cont l0 256, List.replicate 256 0])
  | 0 => by
    have e0 : cont l0 (256 * ((0 : Nat) : Int)) = cont l0 0 := rfl
    have e1 : cont l0 (256 * ((1 : Nat) : Int)) = cont l0 256 := rfl
    have e2 : cont l0 (256 * ((2 : Nat) : Int)) = List.replicate 256 0 := cont_l0 2 (by omega)
    have h01 := l0_01
    have h0z := l0_0z
    have h1z := l0_1z
    simp only [tabAt, e0, e1, e2]
    generalize cont l0 0 = a at *
    generalize cont l0 256 = b at *
    generalize List.replicate 256 (0 : Int) = z at *
    simp [num, h01, h0z, h1z, Ne.symm h01, Ne.symm h0z, Ne.symm h1z]
  | p + 1 => by
    have e2 : cont l0 (256 * ((p + 3 : Nat) : Int)) = List.replicate 256 0 := cont_l0 _ (by omega)
    have h01 := l0_01
    have h0z := l0_0z
    have h1z := l0_1z
    show tabAt l0 ((p + 3) + 1) = _
    rw [tabAt, tab_l0 p, e2]
    generalize cont l0 0 = a at *
    generalize cont l0 256 = b at *
    generalize List.replicate 256 (0 : Int) = z at *
    have hm : z ∈ [a, b, z] := by simp
    have hi : [a, b, z].idxOf z = 2 := by
      have e1 : (a == z) = false := by simpa using h0z
      have e2 : (b == z) = false := by simpa using h1z
      simp [List.idxOf_cons, e1, e2]
    simp only [num, if_pos hm, hi]
    rw [List.append_assoc, ← List.replicate_succ']
theorem tab_l0_len : (tabAt l0 4352).2.length = 3 := by rw [show (4352 : Nat) = 4349 + 3 from rfl, tab_l0]; rfl
theorem blk_l0 (p : Nat) (h : 2 ≤ p) (h2 : p < 4352) : blk l0 (p : Int) = 2 := by
  unfold blk
  rw [if_pos (by omega), show (4352 : Nat) = 4349 + 3 from rfl, tab_l0]
  have : ([0, 1, 2] ++ List.replicate 4349 2)[p]? = some 2 := by
    rcases Nat.lt_or_ge p 3 with h3 | h3
    · obtain rfl : p = 2 := by omega
      rfl
    · rw [List.getElem?_append_right (by simpa using h3), List.getElem?_replicate, if_pos (by simp; omega)]
  simp only [Int.toNat_natCast, List.getD_eq_getElem?_getD, this]
  rfl
theorem blk_out (l : List S3) : blk l 4352 = -1 := by unfold blk; rw [if_neg (by omega)]
end Go.Proofs.Ytpeniadomjijcaa.Pack

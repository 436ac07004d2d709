/-
  The plain law of a wheel: what lies where, and what is there in order. No Go in sight.
-/
import Derived.Test.YtediledehhcicaaRingD
namespace Go.Proofs.Ytediledehhcicaa.Ring
set_option linter.unusedSimpArgs false
set_option linter.unusedVariables false

section
variable {α : Type}
/-- the list P, read from place f on, round and round, is ls -/
def Lg (P : List α) (f : Nat) (ls : List α) : Prop := ls.length = P.length ∧ ∀ i, i < P.length → P[(f + i) % P.length]? = ls[i]?

theorem lg_nil : Lg ([] : List α) 0 [] := ⟨rfl, fun i h => absurd h (by simp)⟩
theorem lg_zero {P ls : List α} (h : Lg P 0 ls) : P = ls := by
  refine List.ext_getElem? fun i => ?_
  rcases Nat.lt_or_ge i P.length with h1 | h1
  · have := h.2 i h1
    rw [Nat.zero_add, Nat.mod_eq_of_lt h1] at this
    exact this
  · rw [List.getElem?_eq_none h1, List.getElem?_eq_none (by rw [h.1]; exact h1)]
theorem lg_refl (P : List α) : Lg P 0 P := ⟨rfl, fun i h => by rw [Nat.zero_add, Nat.mod_eq_of_lt h]⟩
theorem lg_push {P ls : List α} (h : Lg P 0 ls) (x : α) : Lg (P ++ [x]) 0 (ls ++ [x]) := by
  obtain rfl := lg_zero h
  exact lg_refl _
theorem lg_turn {P ls : List α} {f : Nat} (h : Lg P f ls) (hf : f < P.length) (x : α) : Lg (P.set f x) ((f + 1) % P.length) (ls.drop 1 ++ [x]) := by
  have hl := h.1
  refine ⟨by simp; omega, fun i hi => ?_⟩
  rw [List.length_set] at hi ⊢
  have e : ((f + 1) % P.length + i) % P.length = (f + (i + 1)) % P.length := by
    rw [Nat.mod_add_mod]
    congr 1
    omega
  rw [e]
  rcases Nat.lt_or_ge (i + 1) P.length with h1 | h1
  · have hne : f ≠ (f + (i + 1)) % P.length := by
      intro h2
      rcases Nat.lt_or_ge (f + (i + 1)) P.length with h3 | h3
      · rw [Nat.mod_eq_of_lt h3] at h2; omega
      · rw [Nat.mod_eq_sub_mod h3, Nat.mod_eq_of_lt (by omega)] at h2; omega
    rw [List.getElem?_set_ne hne, h.2 (i + 1) h1, List.getElem?_append_left (by simp; omega), List.getElem?_drop, Nat.add_comm 1 i]
  · have hi2 : i + 1 = P.length := by omega
    have e2 : (f + (i + 1)) % P.length = f := by
      rw [hi2, Nat.add_mod_right, Nat.mod_eq_of_lt hf]
    have e3 : i - (ls.drop 1).length = 0 := by rw [List.length_drop]; omega
    rw [e2, List.getElem?_set_self hf, List.getElem?_append_right (by rw [List.length_drop]; omega), e3]
    rfl

/-- one thing is pushed -/
def push1 (most : Nat) (s : List α × Nat) (x : α) : List α × Nat := if s.1.length < most then (s.1 ++ [x], s.2) else (s.1.drop 1 ++ [x], min (s.2 + 1) 1073741824)
def pushes (most : Nat) (s : List α × Nat) (xs : List α) : List α × Nat := xs.foldl (push1 most) s
theorem push1_len {most : Nat} (hm : 0 < most) {s : List α × Nat} (h : s.1.length ≤ most) (x : α) : (push1 most s x).1.length ≤ most := by
  unfold push1
  split
  · simp; omega
  · simp; omega
theorem pushes_len {most : Nat} (hm : 0 < most) : ∀ (xs : List α) {s : List α × Nat}, s.1.length ≤ most → (pushes most s xs).1.length ≤ most
  | [], s, h => h
  | x :: xs, s, h => pushes_len hm xs (push1_len hm h x)
theorem pushes_take {most : Nat} (s : List α × Nat) {xs : List α} {k : Nat} {x : α} (h : xs[k]? = some x) : push1 most (pushes most s (xs.take k)) x = pushes most s (xs.take (k + 1)) := by
  unfold pushes
  rw [List.take_add_one, h, List.foldl_append]
  rfl
theorem pushes_gone {most : Nat} (hm : 0 < most) : ∀ (xs : List α) {s : List α × Nat}, s.2 ≤ 1073741824 → (pushes most s xs).2 ≤ 1073741824
  | [], s, h => h
  | x :: xs, s, h => pushes_gone hm xs (by unfold push1; split <;> simp <;> omega)
/-- what is there are the newest -/
theorem pushes_eq {most : Nat} (hm : 0 < most) : ∀ (xs : List α) {s : List α × Nat}, s.1.length ≤ most → s.2 + xs.length ≤ 1073741824 →
    pushes most s xs = ((s.1 ++ xs).drop ((s.1 ++ xs).length - most), s.2 + ((s.1 ++ xs).length - most))
  | [], s, h, hg => by
    have e : s.1.length - most = 0 := by omega
    simp [pushes, e]
  | x :: xs, s, h, hg => by
    show pushes most (push1 most s x) xs = _
    have hl := push1_len hm h x
    unfold push1 at hl ⊢
    split
    · rename_i h1
      rw [if_pos h1] at hl
      have ih := pushes_eq hm xs (s := (s.1 ++ [x], s.2)) hl (by simp only [List.length_cons] at hg ⊢; omega)
      rw [ih]
      simp only [List.append_assoc, List.singleton_append]
    · rename_i h1
      rw [if_neg h1] at hl
      have hs : s.1.length = most := by omega
      have hmin : min (s.2 + 1) 1073741824 = s.2 + 1 := by simp only [List.length_cons] at hg; omega
      rw [hmin] at hl ⊢
      have ih := pushes_eq hm xs (s := (s.1.drop 1 ++ [x], s.2 + 1)) hl (by simp only [List.length_cons] at hg ⊢; omega)
      rw [ih]
      obtain ⟨y, t, hyt⟩ : ∃ y t, s.1 = y :: t := by
        cases h2 : s.1 with
        | nil => rw [h2] at hs; simp at hs; omega
        | cons y t => exact ⟨y, t, rfl⟩
      have ht : t.length + 1 = most := by rw [← hs, hyt]; rfl
      simp only [hyt, List.drop_one, List.tail_cons, List.append_assoc, List.singleton_append, List.length_append, List.length_cons, List.cons_append, List.length_nil, Nat.zero_add, List.nil_append]
      have e1 : t.length + (xs.length + 1) - most = xs.length := by omega
      have e2 : t.length + (xs.length + 1) + 1 - most = xs.length + 1 := by omega
      rw [e1, e2, List.drop_succ_cons]
      congr 1
      omega
end
end Go.Proofs.Ytediledehhcicaa.Ring

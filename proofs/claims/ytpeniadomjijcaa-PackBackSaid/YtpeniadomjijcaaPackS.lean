/-
  The plain law of shared blocks: how many there are, when two pages have one, how they are numbered. No Go in sight.
-/
import Derived.Test.YtpeniadomjijcaaPackG
namespace Go.Proofs.Ytpeniadomjijcaa.Pack
set_option linter.unusedSimpArgs false
set_option linter.unusedVariables false
open Sp TabLaw

theorem nodup_le {α : Type} [BEq α] [LawfulBEq α] : ∀ (a b : List α), a.Nodup → (∀ x ∈ a, x ∈ b) → a.length ≤ b.length
  | [], b, _, _ => Nat.zero_le _
  | x :: t, b, hn, hs => by
    have hx : x ∈ b := hs x (by simp)
    rw [List.nodup_cons] at hn
    have ih := nodup_le t (b.erase x) hn.2 (fun y hy => by
      have hne : y ≠ x := fun e => hn.1 (e ▸ hy)
      exact (List.mem_erase_of_ne hne).2 (hs y (by simp [hy])))
    rw [List.length_erase_of_mem hx] at ih
    have := List.length_pos_of_mem hx
    simp only [List.length_cons]
    omega

theorem tab_mem (l : List S3) : ∀ (P : Nat) (b : List Int), b ∈ (tabAt l P).2 → ∃ p : Nat, p < P ∧ b = cont l (256 * (p : Int))
  | 0, b, h => by simp [tabAt] at h
  | P + 1, b, h => by
    simp only [tabAt] at h
    unfold num at h
    split at h
    · obtain ⟨p, hp, e⟩ := tab_mem l P b h
      exact ⟨p, by omega, e⟩
    · rcases List.mem_append.1 h with h | h
      · obtain ⟨p, hp, e⟩ := tab_mem l P b h
        exact ⟨p, by omega, e⟩
      · rw [List.mem_singleton] at h
        exact ⟨P, by omega, h⟩

theorem val3_in {l : List S3} (hr : Right l) {k : Nat} {s : S3} (hs : l[k]? = some s) {r : Int} (e1 : s.1 ≤ r) (e2 : r ≤ s.2.1) : val3 l r = s.2.2 := by
  refine val3_at hs (fun t ht => ?_) (has_iff.2 ⟨e1, e2⟩)
  obtain ⟨i, hi, hie⟩ := List.mem_take_iff_getElem.1 ht
  have := right_lt hr (List.getElem?_eq_some_iff.2 ⟨by omega, hie⟩) (show i < k by omega) hs
  exact has_no fun h => by omega

/-- what a page can hold -/
def kinds (l : List S3) : List (List Int) := List.replicate 256 0 :: l.flatMap fun s => [List.replicate 256 s.2.2, cont l (256 * (s.1 / 256)), cont l (256 * (s.2.1 / 256))]
theorem kinds_len (l : List S3) : (kinds l).length = 3 * l.length + 1 := by
  have : ∀ L : List S3, (L.flatMap fun s => [List.replicate 256 s.2.2, cont l (256 * (s.1 / 256)), cont l (256 * (s.2.1 / 256))]).length = 3 * L.length := by
    intro L
    induction L with
    | nil => rfl
    | cons s L ih =>
      rw [List.flatMap_cons, List.length_append, ih]
      simp only [List.length_cons, List.length_nil]
      omega
  rw [kinds, List.length_cons, this]
theorem kinds_mem {l : List S3} (hr : Right l) (p : Nat) : cont l (256 * (p : Int)) ∈ kinds l := by
  by_cases h : ∃ (k : Nat) (s : S3), l[k]? = some s ∧ s.1 ≤ 256 * (p : Int) + 255 ∧ 256 * (p : Int) ≤ s.2.1
  · obtain ⟨k, s, hs, h1, h2⟩ := h
    have hm := List.mem_of_getElem? hs
    refine List.mem_cons_of_mem _ (List.mem_flatMap.2 ⟨s, hm, ?_⟩)
    by_cases h3 : s.1 ≤ 256 * (p : Int)
    · by_cases h4 : 256 * (p : Int) + 255 ≤ s.2.1
      · have e : cont l (256 * (p : Int)) = List.replicate 256 s.2.2 := cont_const fun i hi => val3_in hr hs (by omega) (by omega)
        rw [e]
        exact List.mem_cons_self
      · have e : s.2.1 / 256 = (p : Int) := by omega
        rw [e]
        exact List.mem_cons_of_mem _ (List.mem_cons_of_mem _ List.mem_cons_self)
    · have e : s.1 / 256 = (p : Int) := by omega
      rw [e]
      exact List.mem_cons_of_mem _ List.mem_cons_self
  · have e : cont l (256 * (p : Int)) = List.replicate 256 0 := cont_const fun i hi => val3_zero fun t ht => has_no fun hh => by
      obtain ⟨k, hk⟩ := List.mem_iff_getElem?.1 ht
      exact h ⟨k, t, hk, by omega, by omega⟩
    rw [e]
    exact List.mem_cons_self
/-- there are few blocks -/
theorem tab_few {l : List S3} (hr : Right l) (P : Nat) : (tabAt l P).2.length ≤ 3 * l.length + 1 := by
  rw [← kinds_len]
  refine nodup_le _ _ (tab_ok l P).1 fun b hb => ?_
  obtain ⟨p, _, rfl⟩ := tab_mem l P b hb
  exact kinds_mem hr p

/-- two pages have one block just if they hold the same -/
theorem blk_eq (l : List S3) {a b : Nat} (ha : a < 4352) (hb : b < 4352) : blk l (a : Int) = blk l (b : Int) ↔ cont l (256 * (a : Int)) = cont l (256 * (b : Int)) := by
  obtain ⟨i, e1, e2, e3⟩ := tab_get l 4352 a ha
  obtain ⟨j, f1, f2, f3⟩ := tab_get l 4352 b hb
  have hA : blk l (a : Int) = (i : Int) := by
    unfold blk
    rw [if_pos (by omega)]
    simp [List.getD_eq_getElem?_getD, e1]
  have hB : blk l (b : Int) = (j : Int) := by
    unfold blk
    rw [if_pos (by omega)]
    simp [List.getD_eq_getElem?_getD, f1]
  rw [hA, hB]
  have hnd := (tab_ok l 4352).1
  constructor
  · intro h
    have : i = j := by omega
    subst this
    rw [e3] at f3
    injection f3
  · intro h
    rw [h, ← f3] at e3
    have := (List.getElem?_inj e2 hnd).1 e3
    omega

theorem num_cnt (bs : List (List Int)) (x : List Int) : (num x bs).2 ≤ bs.length ∧ (num x bs).1.length = if (num x bs).2 = bs.length then bs.length + 1 else bs.length := by
  unfold num
  split
  · rename_i h
    have := List.idxOf_lt_length_iff.2 h
    simp only
    rw [if_neg (by omega)]
    exact ⟨by omega, rfl⟩
  · simp
theorem tab_first (l : List S3) : ∀ (P p : Nat), p < P → (tabAt l P).1[p]? = some (num (cont l (256 * (p : Int))) (tabAt l p).2).2
  | 0, p, h => absurd h (by omega)
  | P + 1, p, h => by
    have hl := (tab_len l P).1
    simp only [tabAt]
    rcases Nat.lt_or_ge p P with h1 | h1
    · rw [List.getElem?_append_left (by omega)]
      exact tab_first l P p h1
    · obtain rfl : p = P := by omega
      rw [List.getElem?_append_right (by omega), hl, Nat.sub_self]
      rfl
/-- how many blocks there are behind p pages -/
def cnt (l : List S3) (p : Nat) : Nat := (tabAt l p).2.length
theorem blk_next (l : List S3) {p : Nat} (hp : p < 4352) : ∃ k : Nat, blk l (p : Int) = (k : Int) ∧ k ≤ cnt l p ∧ k < cnt l 4352 ∧ cnt l (p + 1) = (if k = cnt l p then cnt l p + 1 else cnt l p) := by
  refine ⟨(num (cont l (256 * (p : Int))) (tabAt l p).2).2, ?_, (num_cnt _ _).1, ?_, (num_cnt _ _).2⟩
  · unfold blk
    rw [if_pos (by omega)]
    simp [List.getD_eq_getElem?_getD, tab_first l 4352 p hp]
  · obtain ⟨k, e1, e2, _⟩ := tab_get l 4352 p hp
    rw [tab_first l 4352 p hp] at e1
    injection e1 with e1
    rw [e1]
    exact e2
theorem blk_zero (l : List S3) : blk l 0 = 0 := by
  obtain ⟨k, e, h1, _⟩ := blk_next l (show 0 < 4352 by omega)
  have : cnt l 0 = 0 := rfl
  have e' : blk l 0 = (k : Int) := e
  omega
end Go.Proofs.Ytpeniadomjijcaa.Pack

/-
  Plain facts about the tables: pictures, conjuncts and classes.
-/
import Derived.Test.YtcbfmokafmagpaaGreatGcbAll
import Derived.Test.YtcbfmokafmagpaaGreatConjAll
import Derived.Test.YtcbfmokafmagpaaGreatPictAll
namespace Go.Proofs.YtcbfmokafmagpaaGreat.Tells
set_option linter.unusedSimpArgs false
set_option linter.unusedVariables false
open Go.RowKit Mem Tab

theorem check1 : (TabLaw.pairs PictTab.pict).all (fun p => (TabLaw.trip GcbTab.gcb).all fun t => decide (p.2 < t.1) || decide (t.2.1 < p.1)) = true := by kernel_rfl
theorem check2 : (TabLaw.pairs PictTab.pict).all (fun p => decide (p.2 < 4352) || (decide (4607 < p.1) && decide (p.2 < 43360)) || (decide (43388 < p.1) && decide (p.2 < 44032)) || decide (55291 < p.1)) = true := by kernel_rfl

/-- a picture has the class Other -/
theorem pict_other (r : Int) (h : Pict.isB r = true) : Gcb.val r = 0 := by
  unfold Pict.isB at h
  obtain ⟨p, hp, h2⟩ := List.any_eq_true.1 h
  have c1 := List.all_eq_true.1 check1 p hp
  have c2 := List.all_eq_true.1 check2 p hp
  simp [TabLaw.hasP] at h2
  have t0 : Gcb.tval r = 0 := TabLaw.val3_none fun t ht => by
    have := List.all_eq_true.1 c1 t ht
    simp at this
    simp [TabLaw.has]
    omega
  unfold Gcb.val
  rw [if_pos t0]
  simp at c2
  unfold Hangul.hclass
  repeat (first | rw [if_neg (by omega)])

theorem check3 : (TabLaw.trip ConjTab.conj).all (fun c => decide (c.2.2 < 2) || (TabLaw.trip GcbTab.gcb).any fun t => decide (t.1 ≤ c.1) && decide (c.2.1 ≤ t.2.1) && (t.2.2 == 4 || t.2.2 == 5)) = true := by kernel_rfl

/-- what links or joins in a conjunct is Extend or ZWJ -/
theorem conj_class (r : Int) (h : 2 ≤ Conj.val r) : Gcb.val r = 4 ∨ Gcb.val r = 5 := by
  unfold Conj.val at h
  cases hf : (TabLaw.trip ConjTab.conj).find? (TabLaw.has r) with
  | none => unfold TabLaw.val3 at h; rw [hf] at h; simp at h
  | some c =>
    have e : TabLaw.val3 (TabLaw.trip ConjTab.conj) r = c.2.2 := by unfold TabLaw.val3; rw [hf]; rfl
    rw [e] at h
    have hc := List.find?_some hf
    have hm := List.mem_of_find?_eq_some hf
    have k := List.all_eq_true.1 check3 c hm
    simp only [Bool.or_eq_true, decide_eq_true_eq] at k
    rcases k with k | k
    · omega
    · obtain ⟨t, ht, k2⟩ := List.any_eq_true.1 k
      simp [TabLaw.has] at hc
      simp at k2
      have tv : Gcb.tval r = t.2.2 := TabLaw.val3_of Gcb.good.sorted ht (by simp [TabLaw.has]; omega)
      unfold Gcb.val
      rw [if_neg (by omega), tv]
      omega

theorem check4 : (TabLaw.trip ConjTab.conj).all (fun c => !(c.2.2 == 1) || ((TabLaw.trip GcbTab.gcb).all fun t => decide (c.2.1 < t.1) || decide (t.2.1 < c.1))) = true := by kernel_rfl
theorem check5 : (TabLaw.trip ConjTab.conj).all (fun c => !(c.2.2 == 1) || (decide (c.2.1 < 4352) || (decide (4607 < c.1) && decide (c.2.1 < 43360)) || (decide (43388 < c.1) && decide (c.2.1 < 44032)) || decide (55291 < c.1))) = true := by kernel_rfl

/-- a Consonant has the class Other -/
theorem consonant_other (r : Int) (h : Conj.val r = 1) : Gcb.val r = 0 := by
  unfold Conj.val at h
  cases hf : (TabLaw.trip ConjTab.conj).find? (TabLaw.has r) with
  | none => unfold TabLaw.val3 at h; rw [hf] at h; simp at h
  | some c =>
    have e : TabLaw.val3 (TabLaw.trip ConjTab.conj) r = c.2.2 := by unfold TabLaw.val3; rw [hf]; rfl
    rw [e] at h
    have hc := List.find?_some hf
    have hm := List.mem_of_find?_eq_some hf
    have c1 := List.all_eq_true.1 check4 c hm
    have c2 := List.all_eq_true.1 check5 c hm
    simp [TabLaw.has] at hc
    obtain ⟨ca, cb, cc⟩ := c
    simp only at h hc
    subst h
    simp at c1 c2
    have t0 : Gcb.tval r = 0 := TabLaw.val3_none fun t ht => by
      obtain ⟨ta, tb, tc⟩ := t
      have := c1 _ _ _ ht
      simp [TabLaw.has]
      omega
    unfold Gcb.val
    rw [if_pos t0]
    unfold Hangul.hclass
    repeat (first | rw [if_neg (by omega)])

end Go.Proofs.YtcbfmokafmagpaaGreat.Tells

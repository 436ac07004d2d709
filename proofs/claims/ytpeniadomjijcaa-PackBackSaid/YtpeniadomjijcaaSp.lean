/-
  The plain law of spans: right lists, the fewest, what they tell and how many numbers they have. No Go in sight.
-/
import Derived.Test.YtpeniadomjijcaaTabLaw
namespace Go.Proofs.Ytpeniadomjijcaa.Sp
set_option linter.unusedSimpArgs false
set_option linter.unusedVariables false
open Go TabLaw

abbrev S3 := Int × Int × Int
/-- the cells of a list of spans -/
def cells : List S3 → List Value
  | [] => []
  | s :: l => .int .i64 s.1 :: .int .i64 s.2.1 :: .int .i64 s.2.2 :: cells l
theorem cells_len (l : List S3) : (cells l).length = l.length * 3 := by
  induction l with
  | nil => rfl
  | cons s l ih => simp [cells, ih]; omega
theorem cells_app (a b : List S3) : cells (a ++ b) = cells a ++ cells b := by
  induction a with
  | nil => rfl
  | cons s l ih => simp [cells, ih]
theorem cells_get {l : List S3} {k : Nat} {s : S3} (h : l[k]? = some s) : (cells l)[k * 3]? = some (.int .i64 s.1) ∧ (cells l)[k * 3 + 1]? = some (.int .i64 s.2.1) ∧ (cells l)[k * 3 + 2]? = some (.int .i64 s.2.2) := by
  induction l generalizing k with
  | nil => simp at h
  | cons t l ih =>
    cases k with
    | zero => simp at h; subst h; exact ⟨rfl, rfl, rfl⟩
    | succ k =>
      obtain ⟨h1, h2, h3⟩ := ih (by simpa using h)
      refine ⟨?_, ?_, ?_⟩
      · rw [show (k + 1) * 3 = k * 3 + 1 + 1 + 1 from by omega]; simpa [cells] using h1
      · rw [show (k + 1) * 3 + 1 = k * 3 + 1 + 1 + 1 + 1 from by omega]; simpa [cells] using h2
      · rw [show (k + 1) * 3 + 2 = k * 3 + 2 + 1 + 1 + 1 from by omega]; simpa [cells] using h3
theorem cells_hi (a : List S3) (p : S3) (h : Int) : (cells (a ++ [p])).set (a.length * 3 + 1) (.int .i64 h) = cells (a ++ [(p.1, h, p.2.2)]) := by
  rw [cells_app, cells_app, List.set_append_right _ _ (by rw [cells_len]; omega), cells_len, show a.length * 3 + 1 - a.length * 3 = 1 from by omega]
  rfl

/-- the end of the span ahead -/
def prev (l : List S3) : Nat → Int
  | 0 => -1
  | k + 1 => (l.getD k (0, 0, 0)).2.1
/-- is the span at k right? -/
def okAt (l : List S3) (k : Nat) (s : S3) : Prop := prev l k < s.1 ∧ s.1 ≤ s.2.1 ∧ s.2.1 ≤ 1114111 ∧ 1 ≤ s.2.2 ∧ s.2.2 ≤ 65535
def Right (l : List S3) : Prop := ∀ (k : Nat) (s : S3), l[k]? = some s → okAt l k s
/-- the first k are right -/
def RightTo (l : List S3) (n : Nat) : Prop := ∀ (k : Nat) (s : S3), k < n → l[k]? = some s → okAt l k s
theorem RightTo.zero (l : List S3) : RightTo l 0 := fun k s h => absurd h (by omega)
theorem RightTo.next {l : List S3} {n : Nat} (h : RightTo l n) {s : S3} (hs : l[n]? = some s) (ho : okAt l n s) : RightTo l (n + 1) := by
  intro k t hk ht
  rcases Nat.lt_or_ge k n with h1 | h1
  · exact h k t h1 ht
  · obtain rfl : k = n := by omega
    rw [hs] at ht; cases ht; exact ho
theorem RightTo.all {l : List S3} (h : RightTo l l.length) : Right l := fun k s hs => h k s (List.getElem?_eq_some_iff.1 hs).1 hs
theorem Right.to {l : List S3} (h : Right l) (n : Nat) : RightTo l n := fun k s _ hs => h k s hs
theorem not_right {l : List S3} {k : Nat} {s : S3} (hs : l[k]? = some s) (h : ¬ okAt l k s) : ¬ Right l := fun hr => h (hr k s hs)
theorem RightTo.prev_ge {l : List S3} {n : Nat} (h : RightTo l n) (hn : n ≤ l.length) : -1 ≤ prev l n ∧ prev l n ≤ 1114111 := by
  induction n with
  | zero => exact ⟨Int.le_refl _, by simp [prev]⟩
  | succ n ih =>
    have hl : n < l.length := by omega
    obtain ⟨h1, h2, h3, _⟩ := h n l[n] (by omega) (List.getElem?_eq_getElem hl)
    have := ih (fun k s hk hs => h k s (by omega) hs) (by omega)
    have e : prev l (n + 1) = l[n].2.1 := by simp [prev, List.getD_eq_getElem?_getD, List.getElem?_eq_getElem hl]
    rw [e]; omega
/-- a closed list's question -/
def rightB : Int → List S3 → Bool
  | _, [] => true
  | h, s :: l => decide (h < s.1) && decide (s.1 ≤ s.2.1) && decide (s.2.1 ≤ 1114111) && decide (1 ≤ s.2.2) && decide (s.2.2 ≤ 65535) && rightB s.2.1 l
theorem rightB_at {h : Int} {l : List S3} (hb : rightB h l = true) : ∀ (k : Nat) (s : S3), l[k]? = some s → (if k = 0 then h else prev l k) < s.1 ∧ s.1 ≤ s.2.1 ∧ s.2.1 ≤ 1114111 ∧ 1 ≤ s.2.2 ∧ s.2.2 ≤ 65535 := by
  induction l generalizing h with
  | nil => intro k s hs; simp at hs
  | cons t l ih =>
    simp only [rightB, Bool.and_eq_true, decide_eq_true_eq] at hb
    intro k s hs
    cases k with
    | zero => simp at hs; subst hs; exact ⟨hb.1.1.1.1.1, hb.1.1.1.1.2, hb.1.1.1.2, hb.1.1.2, hb.1.2⟩
    | succ k =>
      have := ih hb.2 k s (by simpa using hs)
      refine ⟨?_, this.2⟩
      have h1 := this.1
      cases k with
      | zero => simpa [prev] using h1
      | succ k => simpa [prev] using h1
theorem right_of {l : List S3} (h : rightB (-1) l = true) : Right l := by
  intro k s hs
  have := rightB_at h k s hs
  refine ⟨?_, this.2⟩
  cases k with
  | zero => exact this.1
  | succ k => exact this.1

/-- no two that touch have one value -/
def fewAt (l : List S3) (k : Nat) (s : S3) : Prop := ∀ p : S3, 0 < k → l[k - 1]? = some p → ¬ (s.2.2 = p.2.2 ∧ s.1 - 1 = p.2.1)
def Few (l : List S3) : Prop := ∀ (k : Nat) (s : S3), l[k]? = some s → fewAt l k s
def fewB : List S3 → Bool
  | [] => true
  | [_] => true
  | p :: s :: l => !(decide (s.2.2 = p.2.2) && decide (s.1 - 1 = p.2.1)) && fewB (s :: l)
theorem few_of {l : List S3} (h : fewB l = true) : Few l := by
  induction l with
  | nil => intro k s hs; simp at hs
  | cons p l ih =>
    cases l with
    | nil =>
      intro k s hs q hk hq
      cases k with
      | zero => omega
      | succ k => simp at hs
    | cons t l =>
      simp only [fewB, Bool.and_eq_true, Bool.not_eq_true', Bool.and_eq_false_iff, decide_eq_false_iff_not] at h
      intro k s hs q hk hq
      cases k with
      | zero => omega
      | succ k =>
        cases k with
        | zero =>
          simp at hs hq
          subst hs hq
          rintro ⟨h1, h2⟩
          rcases h.1 with h3 | h3
          · exact h3 h1
          · exact h3 h2
        | succ k => exact ih h.2 (k + 1) s (by simpa using hs) q (by omega) (by simpa using hq)

/-- a span behind others -/
def lay (l : List S3) (s : S3) : List S3 :=
  match l.getLast? with
  | some p => if p.2.2 = s.2.2 ∧ p.2.1 = s.1 - 1 then l.dropLast ++ [(p.1, s.2.1, p.2.2)] else l ++ [s]
  | none => l ++ [s]
def fewest (l : List S3) : List S3 := l.foldl lay []
theorem lay_nil (s : S3) : lay [] s = [s] := rfl
theorem lay_long (a : List S3) (p s : S3) (h : p.2.2 = s.2.2 ∧ p.2.1 = s.1 - 1) : lay (a ++ [p]) s = a ++ [(p.1, s.2.1, p.2.2)] := by
  simp [lay, h]
theorem lay_new (a : List S3) (p s : S3) (h : ¬ (p.2.2 = s.2.2 ∧ p.2.1 = s.1 - 1)) : lay (a ++ [p]) s = a ++ [p] ++ [s] := by
  simp only [lay, List.getLast?_concat, if_neg h]
theorem lay_len (l : List S3) (s : S3) : (lay l s).length ≤ l.length + 1 := by
  rcases List.eq_nil_or_concat l with rfl | ⟨a, p, rfl⟩
  · simp [lay]
  · rw [List.concat_eq_append]
    by_cases h : p.2.2 = s.2.2 ∧ p.2.1 = s.1 - 1
    · rw [lay_long a p s h]; simp
    · rw [lay_new a p s h]; simp
theorem foldl_take (l : List S3) {k : Nat} {s : S3} (h : l[k]? = some s) : lay ((l.take k).foldl lay []) s = (l.take (k + 1)).foldl lay [] := by
  rw [List.take_add_one, h, List.foldl_append]
  rfl
theorem foldl_len (l : List S3) (a : List S3) : (l.foldl lay a).length ≤ a.length + l.length := by
  induction l generalizing a with
  | nil => simp
  | cons s l ih =>
    have := ih (lay a s)
    have := lay_len a s
    simp only [List.foldl_cons, List.length_cons]; omega

theorem val3_app (a b : List S3) (r : Int) : val3 (a ++ b) r = if (a.find? (has r)).isSome then val3 a r else val3 b r := by
  unfold val3
  rw [List.find?_append]
  cases h : a.find? (has r) <;> simp
theorem val3_lay (l rest : List S3) (s : S3) (hl : ∀ t ∈ l, t.1 ≤ t.2.1) (hs : s.1 ≤ s.2.1) (r : Int) : val3 (lay l s ++ rest) r = val3 (l ++ s :: rest) r := by
  rcases List.eq_nil_or_concat l with rfl | ⟨a, p, rfl⟩
  · rfl
  · rw [List.concat_eq_append] at hl ⊢
    by_cases h : p.2.2 = s.2.2 ∧ p.2.1 = s.1 - 1
    · rw [lay_long a p s h]
      have hp := hl p (by simp)
      obtain ⟨h1, h2⟩ := h
      simp only [List.append_assoc, List.cons_append, List.nil_append]
      rw [val3_app, val3_app a]
      congr 1
      unfold val3
      simp only [List.find?_cons]
      by_cases q1 : p.1 ≤ r
      · by_cases q2 : r ≤ s.2.1
        · have e1 : has r (p.1, s.2.1, p.2.2) = true := by simp [has, q1, q2]
          rw [e1]
          by_cases q3 : r ≤ p.2.1
          · have e2 : has r p = true := by simp [has, q1, q3]
            rw [e2]
            rfl
          · have e2 : has r p = false := by simp [has]; omega
            have e3 : has r s = true := by simp [has]; omega
            rw [e2, e3]
            simp [h1]
        · have e1 : has r (p.1, s.2.1, p.2.2) = false := by simp [has]; omega
          have e2 : has r p = false := by simp [has]; omega
          have e3 : has r s = false := by simp [has]; omega
          rw [e1, e2, e3]
      · have e1 : has r (p.1, s.2.1, p.2.2) = false := by simp [has]; omega
        have e2 : has r p = false := by simp [has]; omega
        have e3 : has r s = false := by simp [has]; omega
        rw [e1, e2, e3]
    · rw [lay_new a p s h]
      simp only [List.append_assoc, List.cons_append, List.nil_append]
theorem lay_le (l : List S3) (s : S3) (hl : ∀ t ∈ l, t.1 ≤ t.2.1) (hs : s.1 ≤ s.2.1) : ∀ t ∈ lay l s, t.1 ≤ t.2.1 := by
  rcases List.eq_nil_or_concat l with rfl | ⟨a, p, rfl⟩
  · intro t ht; rw [lay_nil] at ht; simp at ht; subst ht; exact hs
  · rw [List.concat_eq_append] at hl ⊢
    have hp := hl p (by simp)
    by_cases h : p.2.2 = s.2.2 ∧ p.2.1 = s.1 - 1
    · rw [lay_long a p s h]
      intro t ht
      rcases List.mem_append.1 ht with ht | ht
      · exact hl t (by simp [ht])
      · simp at ht; subst ht; have := h.2; show p.1 ≤ s.2.1; omega
    · rw [lay_new a p s h]
      intro t ht
      rcases List.mem_append.1 ht with ht | ht
      · exact hl t ht
      · simp at ht; subst ht; exact hs
theorem val3_foldl (l a : List S3) (ha : ∀ t ∈ a, t.1 ≤ t.2.1) (hl : ∀ t ∈ l, t.1 ≤ t.2.1) (r : Int) : val3 (l.foldl lay a) r = val3 (a ++ l) r := by
  induction l generalizing a with
  | nil => simp
  | cons s l ih =>
    have hs := hl s (by simp)
    rw [List.foldl_cons, ih (lay a s) (lay_le a s ha hs) (fun t ht => hl t (by simp [ht]))]
    exact val3_lay a l s ha hs r
theorem val3_fewest (l : List S3) (hl : Right l) (r : Int) : val3 (fewest l) r = val3 l r := by
  have := val3_foldl l [] (by simp) (fun t ht => by obtain ⟨k, hk⟩ := List.mem_iff_getElem?.1 ht; exact (hl k t hk).2.1) r
  unfold fewest
  simpa using this

/-- how many numbers the first k have -/
def many (l : List S3) : Nat → Int
  | 0 => 0
  | k + 1 => many l k + ((l.getD k (0, 0, 0)).2.1 - (l.getD k (0, 0, 0)).1 + 1)
theorem many_le {l : List S3} (h : Right l) {k : Nat} (hk : k ≤ l.length) : 0 ≤ many l k ∧ many l k ≤ prev l k + 1 := by
  induction k with
  | zero => simp [many, prev]
  | succ k ih =>
    have hl : k < l.length := by omega
    have ho := h k l[k] (List.getElem?_eq_getElem hl)
    have := ih (by omega)
    have e : l.getD k (0, 0, 0) = l[k] := by simp [List.getD_eq_getElem?_getD, List.getElem?_eq_getElem hl]
    obtain ⟨h1, h2, _⟩ := ho
    simp only [many, prev, e]
    omega

end Go.Proofs.Ytpeniadomjijcaa.Sp

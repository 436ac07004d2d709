/-
  The plain law: what stands behind a border is told as if it stood alone. No Go in sight.
-/
import Derived.Test.YtcbfmokafmagpaaGreatClone
import Derived.Test.YtcbfmokafmagpaaGreatTellsLaw
namespace Go.Proofs.YtcbfmokafmagpaaGreat.Gra
set_option linter.unusedSimpArgs false
set_option linter.unusedVariables false
open Go Go.RowKit Mem Turn GraLaw Same Seg

theorem pj_four (a : Int) (ha : a = 0 ∨ a = 4 ∨ a = 5) (b : Int) (hb : b = 4 ∨ b = 5) : (Pairs.pj (Pairs.cls a) (Pairs.cls b) == 1) = true := by
  rcases ha with rfl | rfl | rfl <;> rcases hb with rfl | rfl <;> decide
theorem pj_ri2 : (Pairs.pj (Pairs.cls 6) (Pairs.cls 6) == 2) = true := by decide

/-- what a state of real numbers is -/
def Inv (s : St) : Prop := (s.pict = 1 → s.last = 0 ∨ s.last = 4) ∧ (s.conj ≠ 0 → s.last = 0 ∨ s.last = 4 ∨ s.last = 5) ∧ (s.some = false → s = zero)

theorem inv_next {s : St} (h : Inv s) (r : Int) : Inv (next s (prop r).br (prop r).pi (prop r).co) := by
  obtain ⟨h1, h2, h3⟩ := h
  refine ⟨fun hp => ?_, fun hc => ?_, fun hs => by simp [next] at hs⟩
  · show Gcb.val r = 0 ∨ Gcb.val r = 4
    have hp : pictS s (Gcb.val r) (Pict.isB r) = 1 := hp
    unfold pictS at hp
    cases hpi : Pict.isB r
    · rw [hpi] at hp
      by_cases k4 : Gcb.val r = 4
      · exact .inr k4
      · exfalso
        have f4 : (Gcb.val r == 4) = false := by simp [k4]
        rw [f4, Bool.and_false] at hp
        simp only [Bool.false_eq_true, if_false] at hp
        split at hp <;> omega
    · exact .inl (Tells.pict_other r hpi)
  · show Gcb.val r = 0 ∨ Gcb.val r = 4 ∨ Gcb.val r = 5
    have hc : conjS s (Conj.val r) ≠ 0 := hc
    unfold conjS at hc
    by_cases k1 : Conj.val r = 1
    · exact .inl (Tells.consonant_other r k1)
    · by_cases k2 : 2 ≤ Conj.val r
      · exact .inr (Tells.conj_class r k2)
      · exfalso
        apply hc
        have e1 : (Conj.val r == 1) = false := by simp [k1]
        have e2 : (Conj.val r == 2) = false := by simp; omega
        have e3 : (Conj.val r == 3) = false := by simp; omega
        rw [e1, e2, e3]
        simp

theorem inv_sAt (xs : List Int) (n : Nat) : Inv (sAt (props xs) n) := by
  induction n with
  | zero => exact ⟨fun h => by simp [sAt, zero] at h, fun h => by simp [sAt, zero] at h, fun _ => rfl⟩
  | succ n ih => exact inv_next ih _

theorem next_core {s : St} {b c : Int} {p : Bool} (h1 : s.pict = 1 → s.last = 0 ∨ s.last = 4) (h2 : s.conj ≠ 0 → s.last = 0 ∨ s.last = 4 ∨ s.last = 5) (hs : s.some = true) (hc : 2 ≤ c → b = 4 ∨ b = 5)
    (hj : joinB s b p c = false) : next s b p c = next zero b p c := by
  unfold joinB at hj
  rw [hs, Bool.true_and] at hj
  simp only [Bool.or_eq_false_iff] at hj
  obtain ⟨⟨⟨j1, j2⟩, j3⟩, j4⟩ := hj
  unfold next
  have e1 : pictS s b p = pictS zero b p := by
    unfold pictS
    cases p
    · simp only [Bool.false_eq_true, if_false, zero]
      by_cases hq : s.pict = 1
      · have hl := h1 hq
        have n4 : b ≠ 4 := fun h => by rw [h, pj_four _ (by omega) 4 (.inl rfl)] at j3; cases j3
        have n5 : b ≠ 5 := fun h => by rw [h, pj_four _ (by omega) 5 (.inr rfl)] at j3; cases j3
        have f4 : (b == 4) = false := by simp [n4]
        have f5 : (b == 5) = false := by simp [n5]
        rw [f4, f5]; simp
      · have fq : (s.pict == 1) = false := by simp [hq]
        rw [fq]; simp
    · rfl
  have e2 : conjS s c = conjS zero c := by
    unfold conjS
    by_cases k1 : c = 1
    · simp [k1]
    · have f1 : (c == 1) = false := by simp [k1]
      rw [f1]
      by_cases hq : s.conj = 0
      · simp [hq, zero]
      · have hl := h2 hq
        have k2 : ¬ 2 ≤ c := fun h => by
          have := hc h
          rw [pj_four _ hl _ this] at j3; cases j3
        have f2 : (c == 2) = false := by simp; omega
        have f3 : (c == 3) = false := by simp; omega
        rw [f2, f3]; simp [zero]
  have e3 : oddS s b = oddS zero b := by
    unfold oddS
    by_cases k6 : b = 6
    · subst k6
      by_cases hl : s.last = 6
      · rw [hl, pj_ri2] at j4
        simp at j4
        simp [hs, hl, j4, zero]
      · simp [hl, zero]
    · have f6 : (b == 6) = false := by simp [k6]
      rw [f6]; rfl
  rw [e1, e2, e3]

/-- AT A BORDER the state behind the next number is that of a row that begins with it -/
theorem next_border {s : St} (h : Inv s) (r : Int) (hj : joinB s (prop r).br (prop r).pi (prop r).co = false) : next s (prop r).br (prop r).pi (prop r).co = next zero (prop r).br (prop r).pi (prop r).co := by
  obtain ⟨h1, h2, h3⟩ := h
  rcases hs : s.some with _ | _
  · rw [h3 hs]
  · exact next_core h1 h2 hs (Tells.conj_class r) hj

theorem props_drop (xs : List Int) (s i : Nat) : props (xs.drop s) i = props xs (s + i) := by
  unfold props
  simp [List.getD_eq_getElem?_getD, List.getElem?_drop]

theorem sAt_drop (xs : List Int) {s : Nat} (hJ : Jn xs s = false) (i : Nat) : sAt (props (xs.drop s)) (i + 1) = sAt (props xs) (s + i + 1) := by
  induction i with
  | zero =>
    show next zero _ _ _ = next (sAt (props xs) s) _ _ _
    rw [props_drop]
    have hj : joinB (sAt (props xs) s) (props xs s).br (props xs s).pi (props xs s).co = false := by rw [joins_law]; exact hJ
    exact (next_border (inv_sAt xs s) (xs.getD s 0) hj).symm
  | succ i ih =>
    show next (sAt (props (xs.drop s)) (i + 1)) _ _ _ = next (sAt (props xs) (s + i + 1)) _ _ _
    rw [ih, props_drop, show s + (i + 1) = s + i + 1 from by omega]

/-- THE LAW -/
theorem Jn_drop (xs : List Int) {s : Nat} (hJ : Jn xs s = false) (i : Nat) : Jn (xs.drop s) i = Jn xs (s + i) := by
  cases i with
  | zero => rw [Jn_zero, Nat.add_zero, hJ]
  | succ i =>
    show joinsR (props (xs.drop s)) (i + 1) = joinsR (props xs) (s + (i + 1))
    rw [← joins_law, ← joins_law, sAt_drop xs hJ, props_drop, show s + (i + 1) = s + i + 1 from by omega]

theorem sAt_congr {ps qs : Nat → P4} {n : Nat} (h : ∀ i, i < n → ps i = qs i) : sAt ps n = sAt qs n := by
  induction n with
  | zero => rfl
  | succ n ih => simp only [sAt]; rw [ih (fun i hi => h i (by omega)), h n (by omega)]

theorem Jn_congr {xs ys : List Int} {i : Nat} (h : ∀ j, j ≤ i → props xs j = props ys j) : Jn xs i = Jn ys i := by
  show joinsR _ _ = joinsR _ _
  rw [← joins_law, ← joins_law, sAt_congr (fun j hj => h j (by omega)), h i (Nat.le_refl _)]

theorem props_append (a b : List Int) {i : Nat} (h : i < a.length) : props (a ++ b) i = props a i := by
  unfold props
  simp [List.getD_eq_getElem?_getD, List.getElem?_append_left h]

theorem Jn_append (a b : List Int) {i : Nat} (h : i < a.length) : Jn (a ++ b) i = Jn a i := Jn_congr fun j hj => props_append a b (by omega)
theorem Jn_append_right (a b : List Int) (hJ : Jn (a ++ b) a.length = false) (i : Nat) : Jn (a ++ b) (a.length + i) = Jn b i := by
  have := Jn_drop (a ++ b) hJ i
  rw [List.drop_left] at this
  exact this.symm

theorem starts_congr {J K : Nat → Bool} {n : Nat} (h : ∀ i, i < n → J i = K i) : starts J n = starts K n := by
  induction n with
  | zero => rfl
  | succ n ih => simp only [starts]; rw [ih (fun i hi => h i (by omega)), h n (by omega)]

theorem starts_shift {J K : Nat → Bool} {m : Nat} (h : ∀ i, J (m + i) = K i) (n : Nat) : starts J (m + n) = starts J m ++ (starts K n).map (m + ·) := by
  induction n with
  | zero => simp [starts]
  | succ n ih =>
    rw [show m + (n + 1) = m + n + 1 from by omega]
    simp only [starts]
    rw [ih, h n]
    split
    · rfl
    · simp

theorem starts_append (a b : List Int) (hJ : Jn (a ++ b) a.length = false) : starts (Jn (a ++ b)) (a ++ b).length = starts (Jn a) a.length ++ (starts (Jn b) b.length).map (a.length + ·) := by
  rw [List.length_append, starts_shift (Jn_append_right a b hJ), starts_congr (fun i hi => Jn_append a b hi)]

theorem cnt_append (a b : List Int) (hJ : Jn (a ++ b) a.length = false) : cnt (Jn (a ++ b)) (a ++ b).length = cnt (Jn a) a.length + cnt (Jn b) b.length := by
  unfold cnt; rw [starts_append a b hJ]; simp

theorem st_left (a b : List Int) (hJ : Jn (a ++ b) a.length = false) (hb : 0 < b.length) {k : Nat} (hk : k ≤ cnt (Jn a) a.length) : st (Jn (a ++ b)) (a ++ b).length k = st (Jn a) a.length k := by
  rcases Nat.lt_or_ge k (cnt (Jn a) a.length) with h | h
  · have h1 := st_start h
    have h2 := st_start (J := Jn (a ++ b)) (n := (a ++ b).length) (k := k) (by rw [cnt_append a b hJ]; omega)
    rw [starts_append a b hJ, List.getElem?_append_left (by exact h), h1] at h2
    injection h2 with h2; exact h2.symm
  · have : k = cnt (Jn a) a.length := by omega
    subst this
    have h2 := st_at (J := Jn (a ++ b)) (n := (a ++ b).length) (i := a.length) (by simp; omega) hJ
    have h3 : cnt (Jn (a ++ b)) a.length = cnt (Jn a) a.length := by unfold cnt; rw [starts_congr (fun i hi => Jn_append a b hi)]
    rw [h3] at h2
    rw [h2.1, st_cnt]

theorem st_right (a b : List Int) (hJ : Jn (a ++ b) a.length = false) {j : Nat} (hj : j ≤ cnt (Jn b) b.length) : st (Jn (a ++ b)) (a ++ b).length (cnt (Jn a) a.length + j) = a.length + st (Jn b) b.length j := by
  rcases Nat.lt_or_ge j (cnt (Jn b) b.length) with h | h
  · have h1 := st_start h
    have h2 := st_start (J := Jn (a ++ b)) (n := (a ++ b).length) (k := cnt (Jn a) a.length + j) (by rw [cnt_append a b hJ]; omega)
    have hl : (starts (Jn a) a.length).length = cnt (Jn a) a.length := rfl
    rw [starts_append a b hJ, List.getElem?_append_right (by rw [hl]; omega), hl, Nat.add_sub_cancel_left, List.getElem?_map, h1] at h2
    injection h2 with h2; exact h2.symm
  · have : j = cnt (Jn b) b.length := by omega
    subst this
    rw [← cnt_append a b hJ, st_cnt, st_cnt, List.length_append]

theorem cls_nil : cls [] = [] := rfl

/-- THE CLUSTERS OF TWO ROWS, if the second one begins with a number that does not join -/
theorem cls_append (a b : List Int) (h : b = [] ∨ Jn (a ++ b) a.length = false) : cls (a ++ b) = cls a ++ cls b := by
  rcases h with rfl | hJ
  · simp [cls_nil]
  rcases Nat.eq_zero_or_pos b.length with h0 | h0
  · obtain rfl := List.eq_nil_of_length_eq_zero h0
    simp [cls_nil]
  have hla : (cls a).length = cnt (Jn a) a.length := by simp [cls]
  have hlb : (cls b).length = cnt (Jn b) b.length := by simp [cls]
  have hl : (cls (a ++ b)).length = cnt (Jn a) a.length + cnt (Jn b) b.length := by unfold cls; rw [List.length_map, List.length_range, cnt_append a b hJ]
  apply List.ext_getElem?
  intro k
  rcases Nat.lt_or_ge k (cnt (Jn a) a.length) with hk | hk
  · rw [List.getElem?_append_left (by omega)]
    simp only [cls, List.getElem?_map]
    rw [List.getElem?_range (by rw [cnt_append a b hJ]; omega), List.getElem?_range hk]
    simp only [Option.map_some, Option.some.injEq]
    unfold cl
    rw [st_left a b hJ h0 (by omega), st_left a b hJ h0 (by omega)]
    have h1 := st_le (J := Jn a) (n := a.length) (k := k + 1) hk
    have h2 := st_mono (J := Jn a) (n := a.length) (j := k) (k := k + 1) (by omega) hk
    rw [List.drop_append_of_le_length (by omega), List.take_append_of_le_length (by simp; omega)]
  · rcases Nat.lt_or_ge k (cnt (Jn a) a.length + cnt (Jn b) b.length) with hk2 | hk2
    · rw [List.getElem?_append_right (by omega), hla]
      simp only [cls, List.getElem?_map]
      rw [List.getElem?_range (by rw [cnt_append a b hJ]; omega), List.getElem?_range (by omega)]
      simp only [Option.map_some, Option.some.injEq]
      unfold cl
      obtain ⟨j, rfl⟩ : ∃ j, k = cnt (Jn a) a.length + j := ⟨k - cnt (Jn a) a.length, by omega⟩
      rw [st_right a b hJ (by omega), show cnt (Jn a) a.length + j + 1 = cnt (Jn a) a.length + (j + 1) from by omega, st_right a b hJ (by omega), Nat.add_sub_cancel_left]
      rw [← List.drop_drop, List.drop_left]
      congr 1
      omega
    · rw [List.getElem?_eq_none (by omega), List.getElem?_append_right (by omega), List.getElem?_eq_none (by omega)]

end Go.Proofs.YtcbfmokafmagpaaGreat.Gra

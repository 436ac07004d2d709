/-
  The plain law of where clusters begin. No Go in sight.
-/
namespace Go.Proofs.YtcbfmokafmagpaaGreat.GraLaw
set_option linter.unusedSimpArgs false
set_option linter.unusedVariables false

/-- where clusters begin, among the first n places: J i: does place i join the one ahead of it? -/
def starts (J : Nat → Bool) : Nat → List Nat
  | 0 => []
  | n + 1 => if J n then starts J n else starts J n ++ [n]

/-- the borders: the starts, and the end -/
def bnd (J : Nat → Bool) (n : Nat) : List Nat := starts J n ++ [n]
/-- border number k -/
def st (J : Nat → Bool) (n k : Nat) : Nat := (bnd J n).getD k n
/-- how many clusters -/
def cnt (J : Nat → Bool) (n : Nat) : Nat := (starts J n).length

section
variable {J : Nat → Bool}
theorem starts_lt {n x : Nat} (h : x ∈ starts J n) : x < n := by
  induction n with
  | zero => simp [starts] at h
  | succ n ih =>
    simp only [starts] at h
    split at h
    · have := ih h; omega
    · rcases List.mem_append.1 h with h | h
      · have := ih h; omega
      · simp at h; omega

theorem mem_starts {n x : Nat} : x ∈ starts J n ↔ x < n ∧ J x = false := by
  induction n with
  | zero => simp [starts]
  | succ n ih =>
    simp only [starts]
    split
    · rename_i h
      rw [ih]
      constructor
      · rintro ⟨h1, h2⟩; exact ⟨by omega, h2⟩
      · rintro ⟨h1, h2⟩
        refine ⟨?_, h2⟩
        rcases Nat.lt_or_ge x n with h3 | h3
        · exact h3
        · have : x = n := by omega
          subst this; rw [h] at h2; cases h2
    · rename_i h
      rw [List.mem_append, ih]
      constructor
      · rintro (⟨h1, h2⟩ | h1)
        · exact ⟨by omega, h2⟩
        · simp at h1; subst h1; exact ⟨by omega, by simpa using h⟩
      · rintro ⟨h1, h2⟩
        rcases Nat.lt_or_ge x n with h3 | h3
        · exact .inl ⟨h3, h2⟩
        · exact .inr (by simp; omega)

theorem starts_prefix {i n : Nat} (h : i ≤ n) : starts J i <+: starts J n := by
  induction n with
  | zero => have : i = 0 := by omega
            subst this; exact List.prefix_refl _
  | succ n ih =>
    rcases Nat.lt_or_ge n i with h1 | h1
    · have : i = n + 1 := by omega
      subst this; exact List.prefix_refl _
    · simp only [starts]
      split
      · exact ih h1
      · exact (ih h1).trans (List.prefix_append _ _)

theorem sorted (n : Nat) : (starts J n).Pairwise (· < ·) := by
  induction n with
  | zero => simp [starts]
  | succ n ih =>
    simp only [starts]
    split
    · exact ih
    · rw [List.pairwise_append]
      exact ⟨ih, by simp, fun a ha b hb => by simp at hb; subst hb; exact starts_lt ha⟩

theorem sorted_bnd (n : Nat) : (bnd J n).Pairwise (· < ·) := by
  unfold bnd
  rw [List.pairwise_append]
  exact ⟨sorted n, by simp, fun a ha b hb => by simp at hb; subst hb; exact starts_lt ha⟩

theorem bnd_len (n : Nat) : (bnd J n).length = cnt J n + 1 := by simp [bnd, cnt]
theorem st_cnt (n : Nat) : st J n (cnt J n) = n := by simp [st, bnd, cnt, List.getD_eq_getElem?_getD]
theorem st_get {n k : Nat} (h : k ≤ cnt J n) : (bnd J n)[k]? = some (st J n k) := by
  have hl : k < (bnd J n).length := by rw [bnd_len]; omega
  rw [List.getElem?_eq_getElem hl]
  simp [st, List.getD_eq_getElem?_getD, List.getElem?_eq_getElem hl]
theorem st_start {n k : Nat} (h : k < cnt J n) : (starts J n)[k]? = some (st J n k) := by
  have := st_get (J := J) (n := n) (k := k) (by omega)
  unfold bnd at this
  rwa [List.getElem?_append_left (by exact h)] at this
theorem st_mono {n j k : Nat} (h : j < k) (hk : k ≤ cnt J n) : st J n j < st J n k := by
  have h1 := st_get (J := J) (n := n) (k := j) (by omega)
  have h2 := st_get (J := J) (n := n) (k := k) hk
  have hj : j < (bnd J n).length := by rw [bnd_len]; omega
  have hk' : k < (bnd J n).length := by rw [bnd_len]; omega
  have := List.pairwise_iff_getElem.1 (sorted_bnd (J := J) n) j k hj hk' h
  rw [List.getElem?_eq_getElem hj] at h1
  rw [List.getElem?_eq_getElem hk'] at h2
  injection h1 with h1; injection h2 with h2
  omega
theorem st_le {n k : Nat} (hk : k ≤ cnt J n) : st J n k ≤ n := by
  rcases Nat.lt_or_ge k (cnt J n) with h | h
  · have := st_mono (J := J) h (Nat.le_refl _); rw [st_cnt] at this; omega
  · have : k = cnt J n := by omega
    subst this; rw [st_cnt]; exact Nat.le_refl _
theorem cnt_le (n : Nat) : cnt J n ≤ n := by
  induction n with
  | zero => simp [cnt, starts]
  | succ n ih =>
    unfold cnt at *
    simp only [starts]
    split
    · omega
    · simp; omega
theorem cnt_mono {i n : Nat} (h : i ≤ n) : cnt J i ≤ cnt J n := (starts_prefix h).length_le

/-- at place i a new cluster begins: the one ahead is number cnt i - 1, from its start to i -/
theorem st_at {n i : Nat} (hi : i < n) (hJ : J i = false) : st J n (cnt J i) = i ∧ cnt J i < cnt J n := by
  have hp : starts J (i + 1) <+: starts J n := starts_prefix (by omega)
  have e : starts J (i + 1) = starts J i ++ [i] := by simp [starts, hJ]
  have hl : cnt J i < cnt J n := by
    have := hp.length_le; rw [e] at this; simp at this; unfold cnt; omega
  refine ⟨?_, hl⟩
  have h1 := st_start hl
  have h2 : (starts J (i + 1))[cnt J i]? = some i := by rw [e]; simp [cnt]
  obtain ⟨t, ht⟩ := hp
  rw [← ht, List.getElem?_append_left (by rw [e]; simp [cnt])] at h1
  rw [h2] at h1
  injection h1 with h1; exact h1.symm

/-- the borders of a beginning that ends at a border are the first ones -/
theorem st_pre {n i k : Nat} (hi : i ≤ n) (hk : k < cnt J i) : st J i k = st J n k := by
  have h1 := st_start hk
  have hk' : k < cnt J n := Nat.lt_of_lt_of_le hk (cnt_mono hi)
  have h2 := st_start hk'
  obtain ⟨t, ht⟩ := starts_prefix (J := J) hi
  rw [← ht, List.getElem?_append_left hk, h1] at h2
  injection h2

theorem cnt_st {n k : Nat} (hk : k ≤ cnt J n) : cnt J (st J n k) = k := by
  rcases Nat.lt_or_ge k (cnt J n) with h | h
  · -- st k = s is a start; the starts below s are the first k
    have hs := st_start h
    have hm : st J n k ∈ starts J n := List.mem_of_getElem? hs
    have hJ := (mem_starts.1 hm).2
    have hlt := (mem_starts.1 hm).1
    obtain ⟨h1, h2⟩ := st_at hlt hJ
    rcases Nat.lt_trichotomy (cnt J (st J n k)) k with h3 | h3 | h3
    · have := st_mono (J := J) (n := n) h3 hk; omega
    · exact h3
    · have := st_mono (J := J) (n := n) h3 (by omega); omega
  · have : k = cnt J n := by omega
    subst this; rw [st_cnt]

theorem J_st {n k : Nat} (hk : k < cnt J n) : J (st J n k) = false := (mem_starts.1 (List.mem_of_getElem? (st_start hk))).2

theorem cnt_zero : cnt J 0 = 0 := rfl
theorem cnt_pos {n : Nat} (h0 : J 0 = false) (hn : 0 < n) : 0 < cnt J n := by
  have := (st_at (J := J) (n := n) hn h0).2
  rw [cnt_zero] at this; exact this
theorem st_zero {n : Nat} (h0 : J 0 = false) : st J n 0 = 0 := by
  rcases Nat.eq_zero_or_pos n with h | h
  · subst h; rfl
  · have := (st_at (J := J) (n := n) h h0).1
    rw [cnt_zero] at this; exact this
/-- between two starts all join -/
theorem J_mid {n k i : Nat} (hk : k < cnt J n) (h1 : st J n k < i) (h2 : i < st J n (k + 1)) : J i = true := by
  rcases hJ : J i with _ | _
  · exfalso
    have hin : i < n := by have := st_le (J := J) (n := n) (k := k + 1) hk; omega
    obtain ⟨h3, h4⟩ := st_at hin hJ
    rcases Nat.lt_trichotomy (cnt J i) (k + 1) with h5 | h5 | h5
    · have : cnt J i ≤ k := by omega
      rcases Nat.lt_or_ge (cnt J i) k with h6 | h6
      · have := st_mono (J := J) (n := n) h6 (by omega); omega
      · have : cnt J i = k := by omega
        rw [this] at h3; omega
    · rw [h5] at h3; omega
    · have := st_mono (J := J) (n := n) h5 (by omega); omega
  · rfl
/-- the start of the last cluster that has begun ahead of place i -/
def frm (J : Nat → Bool) (i : Nat) : Nat := st J i (cnt J i - 1)
theorem frm_lt {i : Nat} (h0 : J 0 = false) (hi : 0 < i) : frm J i < i := by
  have := cnt_pos h0 hi
  have h := st_mono (J := J) (n := i) (j := cnt J i - 1) (k := cnt J i) (by omega) (Nat.le_refl _)
  rw [st_cnt] at h; exact h
theorem frm_zero : frm J 0 = 0 := rfl
theorem cnt_one (h0 : J 0 = false) : cnt J 1 = 1 := by simp [cnt, starts, h0]
theorem frm_one (h0 : J 0 = false) : frm J 1 = 0 := by simp [frm, cnt_one h0, st_zero h0]
theorem cnt_join {i : Nat} (h : J i = true) : cnt J (i + 1) = cnt J i := by simp [cnt, starts, h]
theorem cnt_new {i : Nat} (h : J i = false) : cnt J (i + 1) = cnt J i + 1 := by simp [cnt, starts, h]
theorem frm_join {i : Nat} (h0 : J 0 = false) (hi : 0 < i) (h : J i = true) : frm J (i + 1) = frm J i := by
  have := cnt_pos h0 hi
  unfold frm
  rw [cnt_join h]
  exact (st_pre (J := J) (n := i + 1) (i := i) (by omega) (by omega)).symm
theorem frm_new {i : Nat} (h : J i = false) : frm J (i + 1) = i := by
  unfold frm
  rw [cnt_new h]
  exact (st_at (J := J) (n := i + 1) (i := i) (by omega) h).1
theorem frm_st {n i : Nat} (h0 : J 0 = false) (hi : 0 < i) (hn : i ≤ n) : frm J i = st J n (cnt J i - 1) := by
  have := cnt_pos h0 hi
  exact st_pre hn (by omega)
end

end Go.Proofs.YtcbfmokafmagpaaGreat.GraLaw

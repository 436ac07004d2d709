/-
  The plain law of spans that are told number by number. No Go in sight.
-/
import Derived.Test.YtpeniadomjijcaaPackS
namespace Go.Proofs.Ytpeniadomjijcaa.Pack
set_option linter.unusedSimpArgs false
set_option linter.unusedVariables false
open Sp TabLaw

/-- the spans of the first N numbers -/
def scan (l : List S3) : Nat → List S3
  | 0 => []
  | N + 1 => if 0 < val3 l (N : Int) then lay (scan l N) ((N : Int), (N : Int), val3 l (N : Int)) else scan l N

theorem scan_gap (l : List S3) {A : Nat} : ∀ B : Nat, A ≤ B → (∀ n : Nat, A ≤ n → n < B → val3 l (n : Int) = 0) → scan l B = scan l A
  | 0, h, _ => by obtain rfl : A = 0 := by omega
                  rfl
  | B + 1, h, hz => by
    rcases Nat.lt_or_ge B A with h1 | h1
    · obtain rfl : A = B + 1 := by omega
      rfl
    · have e := hz B h1 (by omega)
      rw [scan, e, if_neg (by omega)]
      exact scan_gap l B h1 (fun n h2 h3 => hz n h2 (by omega))
/-- what was laid is made longer by one -/
theorem lay_lay (a : List S3) (s h v : Int) : lay (lay a (s, h, v)) (h + 1, h + 1, v) = lay a (s, h + 1, v) := by
  rcases List.eq_nil_or_concat a with rfl | ⟨a, p, rfl⟩
  · rw [lay_nil, lay_nil]
    have := lay_long [] (s, h, v) (h + 1, h + 1, v) ⟨rfl, by simp only; omega⟩
    simpa using this
  · rw [List.concat_eq_append]
    by_cases hp : p.2.2 = v ∧ p.2.1 = s - 1
    · rw [lay_long a p (s, h, v) hp, lay_long a p (s, h + 1, v) hp]
      exact lay_long a (p.1, h, p.2.2) (h + 1, h + 1, v) ⟨hp.1, by simp only; omega⟩
    · rw [lay_new a p (s, h, v) hp, lay_new a p (s, h + 1, v) hp]
      exact lay_long (a ++ [p]) (s, h, v) (h + 1, h + 1, v) ⟨rfl, by simp only; omega⟩
theorem scan_run (l : List S3) {A : Nat} {v : Int} (hv : 0 < v) : ∀ j : Nat, (∀ n : Nat, A ≤ n → n ≤ A + j → val3 l (n : Int) = v) → scan l (A + j + 1) = lay (scan l A) ((A : Int), ((A + j : Nat) : Int), v)
  | 0, h => by
    rw [Nat.add_zero, scan, h A (Nat.le_refl _) (by omega), if_pos hv]
    rfl
  | j + 1, h => by
    have ih := scan_run l hv j (fun n h1 h2 => h n h1 (by omega))
    rw [scan, show A + (j + 1) = A + j + 1 from rfl, h (A + j + 1) (by omega) (by omega), if_pos hv, ih]
    have := lay_lay (scan l A) (A : Int) ((A + j : Nat) : Int) v
    rw [show ((A + j + 1 : Nat) : Int) = ((A + j : Nat) : Int) + 1 from by omega]
    exact this
theorem scan_take {l : List S3} (hr : Right l) : ∀ k : Nat, k ≤ l.length → ∃ N : Nat, (N : Int) = prev l k + 1 ∧ scan l N = (l.take k).foldl lay []
  | 0, _ => ⟨0, by simp [prev], rfl⟩
  | k + 1, hk => by
    obtain ⟨N, hN, ih⟩ := scan_take hr k (by omega)
    obtain ⟨s, hs⟩ : ∃ s, l[k]? = some s := ⟨_, List.getElem?_eq_getElem (by omega)⟩
    obtain ⟨r1, r2, r3, r4, r5⟩ := hr k s hs
    have hl := right_le hr hs
    obtain ⟨A, hA⟩ : ∃ A : Nat, (A : Int) = s.1 := ⟨s.1.toNat, by omega⟩
    obtain ⟨j, hj⟩ : ∃ j : Nat, ((A + j : Nat) : Int) = s.2.1 := ⟨(s.2.1 - s.1).toNat, by omega⟩
    refine ⟨A + j + 1, by rw [prev_get hs]; omega, ?_⟩
    have hg : scan l A = scan l N := scan_gap l A (by omega) fun n h1 h2 => val3_zero fun t ht => has_no fun hh => by
      obtain ⟨i, hi⟩ := List.mem_iff_getElem?.1 ht
      rcases Nat.lt_or_ge i k with h3 | h3
      · have h4 : t.2.1 ≤ prev l k := by
          rcases Nat.eq_zero_or_pos k with h0 | h0
          · omega
          · obtain ⟨u, hu⟩ : ∃ u, l[k - 1]? = some u := ⟨_, List.getElem?_eq_getElem (by omega)⟩
            have e : prev l k = u.2.1 := by
              have := prev_get hu
              rwa [show k - 1 + 1 = k from by omega] at this
            rw [e]
            rcases Nat.lt_or_ge i (k - 1) with h5 | h5
            · have := right_lt hr hi h5 hu
              have := (hr (k - 1) u hu).2.1
              omega
            · obtain rfl : i = k - 1 := by omega
              rw [hi] at hu; injection hu with hu; subst hu
              exact Int.le_refl _
        omega
      · have h4 : s.1 ≤ t.1 := by
          rcases Nat.lt_or_ge k i with h5 | h5
          · have := right_lt hr hs h5 hi
            omega
          · obtain rfl : i = k := by omega
            rw [hi] at hs; injection hs with hs; subst hs
            exact Int.le_refl _
        omega
    rw [scan_run l (v := s.2.2) (by omega) j (fun n h1 h2 => val3_in hr hs (by omega) (by omega)), hg, ih, hA, hj]
    exact foldl_take l hs
/-- all numbers told -/
theorem scan_all {l : List S3} (hr : Right l) : scan l 1114112 = fewest l := by
  obtain ⟨N, hN, e⟩ := scan_take hr l.length (Nat.le_refl _)
  rw [List.take_length] at e
  have hp := (hr.to l.length).prev_ge (Nat.le_refl _)
  have hg : scan l 1114112 = scan l N := scan_gap l 1114112 (by omega) fun n h1 h2 => val3_zero fun t ht => has_no fun hh => by
    obtain ⟨i, hi⟩ := List.mem_iff_getElem?.1 ht
    have hil := (List.getElem?_eq_some_iff.1 hi).1
    obtain ⟨u, hu⟩ : ∃ u, l[l.length - 1]? = some u := ⟨_, List.getElem?_eq_getElem (by omega)⟩
    have e2 : prev l l.length = u.2.1 := by
      have := prev_get hu
      rwa [show l.length - 1 + 1 = l.length from by omega] at this
    rcases Nat.lt_or_ge i (l.length - 1) with h5 | h5
    · have := right_lt hr hi h5 hu
      have := (hr (l.length - 1) u hu).2.1
      omega
    · obtain rfl : i = l.length - 1 := by omega
      rw [hi] at hu; injection hu with hu; subst hu
      omega
  rw [hg, e]
  rfl
theorem scan_len (l : List S3) : ∀ N : Nat, (scan l N).length ≤ N
  | 0 => Nat.le_refl _
  | N + 1 => by
    have ih := scan_len l N
    rw [scan]
    split
    · have := lay_len (scan l N) ((N : Int), (N : Int), val3 l (N : Int))
      omega
    · omega
theorem scan_pos (l : List S3) : ∀ (N : Nat) (t : S3), t ∈ scan l N → 0 < t.2.2
  | 0, t, h => by cases h
  | N + 1, t, h => by
    rw [scan] at h
    split at h
    · rename_i hv
      rcases List.eq_nil_or_concat (scan l N) with e | ⟨a, p, e⟩
      · rw [e, lay_nil, List.mem_singleton] at h
        subst h
        exact hv
      · rw [List.concat_eq_append] at e
        have ih := scan_pos l N
        rw [e] at ih h
        by_cases hp : p.2.2 = val3 l (N : Int) ∧ p.2.1 = (N : Int) - 1
        · rw [lay_long a p _ hp] at h
          rcases List.mem_append.1 h with h | h
          · exact ih t (by simp [h])
          · rw [List.mem_singleton] at h
            subst h
            exact ih p (by simp)
        · rw [lay_new a p _ hp] at h
          rcases List.mem_append.1 h with h | h
          · exact ih t h
          · rw [List.mem_singleton] at h
            subst h
            exact hv
    · exact scan_pos l N t h
end Go.Proofs.Ytpeniadomjijcaa.Pack

/-
  The plain law of tables: a sorted table of rows (lo, hi, value), searched by halves, tells what a row of lists of pairs tells that is looked through from its head on. No Go in sight.
-/
import Derived.Test.YtpeniadomjijcaaRows
namespace Go.Proofs.Ytpeniadomjijcaa.TabLaw
set_option linter.unusedSimpArgs false
set_option linter.unusedVariables false

def trip : List Int → List (Int × Int × Int)
  | a :: b :: c :: r => (a, b, c) :: trip r
  | _ => []

def pairs : List Int → List (Int × Int)
  | a :: b :: r => (a, b) :: pairs r
  | _ => []

theorem trip_get (L : List Int) (i : Nat) (t : Int × Int × Int) (h : (trip L)[i]? = some t) :
    L.getD (3 * i) 0 = t.1 ∧ L.getD (3 * i + 1) 0 = t.2.1 ∧ L.getD (3 * i + 2) 0 = t.2.2 := by
  induction L using trip.induct generalizing i with
  | case1 a b c r ih =>
    cases i with
    | zero => simp [trip] at h; subst h; simp
    | succ i =>
      simp [trip] at h
      obtain ⟨h1, h2, h3⟩ := ih i h
      refine ⟨?_, ?_, ?_⟩
      · rw [show 3 * (i + 1) = 3 * i + 1 + 1 + 1 from by omega]; simpa using h1
      · rw [show 3 * (i + 1) + 1 = 3 * i + 1 + 1 + 1 + 1 from by omega]; simpa using h2
      · rw [show 3 * (i + 1) + 2 = 3 * i + 2 + 1 + 1 + 1 from by omega]; simpa using h3
  | case2 l hl =>
    unfold trip at h
    split at h
    · exact absurd rfl (hl _ _ _ _)
    · simp at h

theorem pairs_get (L : List Int) (i : Nat) (t : Int × Int) (h : (pairs L)[i]? = some t) : L.getD (2 * i) 0 = t.1 ∧ L.getD (2 * i + 1) 0 = t.2 := by
  induction L using pairs.induct generalizing i with
  | case1 a b r ih =>
    cases i with
    | zero => simp [pairs] at h; subst h; simp
    | succ i =>
      simp [pairs] at h
      obtain ⟨h1, h2⟩ := ih i h
      refine ⟨?_, ?_⟩
      · rw [show 2 * (i + 1) = 2 * i + 1 + 1 from by omega]; simpa using h1
      · rw [show 2 * (i + 1) + 1 = 2 * i + 1 + 1 + 1 from by omega]; simpa using h2
  | case2 l hl =>
    unfold pairs at h
    split at h
    · exact absurd rfl (hl _ _ _)
    · simp at h

def has (r : Int) (t : Int × Int × Int) : Bool := decide (t.1 ≤ r) && decide (r ≤ t.2.1)
def hasP (r : Int) (t : Int × Int) : Bool := decide (t.1 ≤ r) && decide (r ≤ t.2)

/-- what a table tells of a number -/
def val3 (T : List (Int × Int × Int)) (r : Int) : Int := ((T.find? (has r)).map (·.2.2)).getD 0
/-- which list is the first that has a number -/
def which (LL : List (List (Int × Int))) (r : Int) : Option Nat := LL.findIdx? fun l => l.any (hasP r)

def sorted3 : List (Int × Int × Int) → Bool
  | [] => true
  | [t] => decide (t.1 ≤ t.2.1)
  | t :: u :: r => decide (t.1 ≤ t.2.1) && decide (t.2.1 < u.1) && sorted3 (u :: r)

theorem sorted3_cons {t u : Int × Int × Int} {r : List (Int × Int × Int)} (h : sorted3 (t :: u :: r) = true) : t.1 ≤ t.2.1 ∧ t.2.1 < u.1 ∧ sorted3 (u :: r) = true := by
  simpa [sorted3, and_assoc] using h

theorem sorted3_lt (T : List (Int × Int × Int)) (h : sorted3 T = true) : ∀ (i j : Nat) (t u : Int × Int × Int), i < j → T[i]? = some t → T[j]? = some u → t.2.1 < u.1 := by
  induction T with
  | nil => intro i j t u _ h1; simp at h1
  | cons a T ih =>
    cases T with
    | nil =>
      intro i j t u hij h1 h2
      cases j with
      | zero => omega
      | succ j => simp at h2
    | cons b T =>
      obtain ⟨p1, p2, p3⟩ := sorted3_cons h
      have hb : ∀ (j : Nat) u, (b :: T)[j]? = some u → b.1 ≤ u.1 := by
        intro j u hu
        cases j with
        | zero => simp at hu; subst hu; omega
        | succ j =>
          have := ih p3 0 (j + 1) b u (by omega) (by simp) hu
          have hbb : b.1 ≤ b.2.1 := by
            cases T with
            | nil => simpa [sorted3] using p3
            | cons c T => exact (sorted3_cons p3).1
          omega
      intro i j t u hij h1 h2
      cases j with
      | zero => omega
      | succ j =>
        cases i with
        | zero =>
          simp at h1; subst h1
          have := hb j u (by simpa using h2)
          omega
        | succ i => exact ih p3 i j t u (by omega) (by simpa using h1) (by simpa using h2)

theorem sorted3_le (T : List (Int × Int × Int)) (h : sorted3 T = true) : ∀ (i : Nat) (t : Int × Int × Int), T[i]? = some t → t.1 ≤ t.2.1 := by
  induction T with
  | nil => intro i t h1; simp at h1
  | cons a T ih =>
    intro i t h1
    cases T with
    | nil =>
      cases i with
      | zero => simp at h1; subst h1; simpa [sorted3] using h
      | succ i => simp at h1
    | cons b T =>
      obtain ⟨p1, p2, p3⟩ := sorted3_cons h
      cases i with
      | zero => simp at h1; subst h1; exact p1
      | succ i => exact ih p3 i t (by simpa using h1)

/-- two rows that have one number are one -/
theorem sorted3_one {T : List (Int × Int × Int)} (h : sorted3 T = true) {t u : Int × Int × Int} (ht : t ∈ T) (hu : u ∈ T) {r : Int} (h1 : has r t = true) (h2 : has r u = true) : t = u := by
  obtain ⟨i, hi⟩ := List.mem_iff_getElem?.1 ht
  obtain ⟨j, hj⟩ := List.mem_iff_getElem?.1 hu
  simp [has] at h1 h2
  rcases Nat.lt_trichotomy i j with hij | hij | hij
  · have := sorted3_lt T h i j t u hij hi hj; omega
  · subst hij; rw [hi] at hj; exact Option.some.inj hj
  · have := sorted3_lt T h j i u t hij hj hi; omega

theorem val3_of {T : List (Int × Int × Int)} (h : sorted3 T = true) {t : Int × Int × Int} (ht : t ∈ T) {r : Int} (h1 : has r t = true) : val3 T r = t.2.2 := by
  unfold val3
  cases hf : T.find? (has r) with
  | none => exact absurd h1 (by simpa using List.find?_eq_none.1 hf t ht)
  | some u =>
    have h2 := List.find?_some hf
    have hm := List.mem_of_find?_eq_some hf
    rw [sorted3_one h ht hm h1 h2]; rfl

theorem val3_none {T : List (Int × Int × Int)} {r : Int} (h : ∀ t ∈ T, has r t = false) : val3 T r = 0 := by
  unfold val3
  rw [List.find?_eq_none.2 (fun t ht => by simp [h t ht])]
  rfl

/-- the place that the search finds tells the value -/
theorem val3_first {T : List (Int × Int × Int)} (h : sorted3 T = true) {r : Int} {i : Nat} (hlo : ∀ t u, t < i → T[t]? = some u → u.2.1 < r) (hhi : ∀ t u, i ≤ t → T[t]? = some u → r ≤ u.2.1) :
    val3 T r = (match T[i]? with | some u => if u.1 ≤ r then u.2.2 else 0 | none => 0) := by
  cases hi : T[i]? with
  | none =>
    refine val3_none fun t ht => ?_
    obtain ⟨j, hj⟩ := List.mem_iff_getElem?.1 ht
    have hjl : j < T.length := (List.getElem?_eq_some_iff.1 hj).1
    have := hlo j t (by have := List.getElem?_eq_none_iff.1 hi; omega) hj
    simp [has]; omega
  | some u =>
    have hu := hhi i u (Nat.le_refl _) hi
    by_cases hle : u.1 ≤ r
    · rw [val3_of h (List.mem_iff_getElem?.2 ⟨i, hi⟩) (by simp [has]; omega)]
      simp [hle]
    · simp only [hle, if_false]
      refine val3_none fun t ht => ?_
      obtain ⟨j, hj⟩ := List.mem_iff_getElem?.1 ht
      rcases Nat.lt_trichotomy j i with hij | hij | hij
      · have := hlo j t hij hj; simp [has]; omega
      · subst hij; rw [hi] at hj; cases hj; simp [has]; omega
      · have := sorted3_lt T h i j u t hij hi hj; simp [has]; omega

/-- each row of the table stands in the list of its value -/
def there (LL : List (List (Int × Int))) (T : List (Int × Int × Int)) : Bool :=
  T.all fun t => decide (1 ≤ t.2.2) && ((LL.getD (t.2.2 - 1).toNat []).any fun p => p.1 == t.1 && p.2 == t.2.1)
/-- and each pair of a list in the table -/
def back (T : List (Int × Int × Int)) : Int → List (List (Int × Int)) → Bool
  | _, [] => true
  | v, l :: r => (l.all fun p => T.any fun t => t.1 == p.1 && t.2.1 == p.2 && t.2.2 == v) && back T (v + 1) r

theorem back_get {T : List (Int × Int × Int)} {LL : List (List (Int × Int))} {v : Int} (h : back T v LL = true) {u : Nat} {l : List (Int × Int)} (hl : LL[u]? = some l) {p : Int × Int} (hp : p ∈ l) :
    ∃ t ∈ T, t.1 = p.1 ∧ t.2.1 = p.2 ∧ t.2.2 = v + u := by
  induction LL generalizing v u with
  | nil => simp at hl
  | cons a r ih =>
    simp only [back, Bool.and_eq_true] at h
    cases u with
    | zero =>
      simp at hl; subst hl
      have := List.all_eq_true.1 h.1 p hp
      obtain ⟨t, ht, e⟩ := List.any_eq_true.1 this
      simp at e
      exact ⟨t, ht, e.1.1, e.1.2, by simp [e.2]⟩
    | succ u =>
      obtain ⟨t, ht, e1, e2, e3⟩ := ih h.2 (by simpa using hl)
      exact ⟨t, ht, e1, e2, by rw [e3]; push_cast; omega⟩

theorem which_eq {LL : List (List (Int × Int))} {T : List (Int × Int × Int)} (hs : sorted3 T = true) (h1 : there LL T = true) (h2 : back T 1 LL = true) (r : Int) :
    (match which LL r with | some k => (k : Int) + 1 | none => 0) = val3 T r ∧ (which LL r = none ↔ val3 T r = 0) := by
  cases hw : which LL r with
  | none =>
    have hn := List.findIdx?_eq_none_iff.1 hw
    have : val3 T r = 0 := by
      refine val3_none fun t ht => ?_
      cases hh : has r t with
      | false => rfl
      | true =>
        have := List.all_eq_true.1 h1 t ht
        simp only [Bool.and_eq_true] at this
        obtain ⟨p, hp, e⟩ := List.any_eq_true.1 this.2
        simp at e
        have hm : LL.getD (t.2.2 - 1).toNat [] ∈ LL := by
          rw [List.getD_eq_getElem?_getD] at hp ⊢
          cases hg : LL[(t.2.2 - 1).toNat]? with
          | none => rw [hg] at hp; simp at hp
          | some l => exact List.mem_iff_getElem?.2 ⟨_, hg⟩
        have hn2 := hn _ hm
        have := List.any_eq_false.1 hn2 p hp
        simp [hasP] at this
        simp [has] at hh
        omega
    exact ⟨this.symm, by simp [this]⟩
  | some k =>
    obtain ⟨hk, hp, hlt⟩ := List.findIdx?_eq_some_iff_getElem.1 hw
    obtain ⟨p, hp1, hp2⟩ := List.any_eq_true.1 hp
    obtain ⟨t, ht, e1, e2, e3⟩ := back_get h2 (List.getElem?_eq_some_iff.2 ⟨hk, rfl⟩) hp1
    have hh : has r t = true := by simp [has, e1, e2]; simpa [hasP] using hp2
    have := val3_of hs ht hh
    rw [this, e3]
    refine ⟨by simp; omega, ?_⟩
    constructor
    · intro h; cases h
    · intro h; omega

/-- a flat table of n rows, sorted -/
structure Good (L : List Int) (n : Nat) : Prop where
  len : (trip L).length = n
  sorted : sorted3 (trip L) = true

theorem Good.row {L : List Int} {n : Nat} (g : Good L n) (i : Nat) (h : i < n) : ∃ t, (trip L)[i]? = some t ∧ L.getD (i * 3) 0 = t.1 ∧ L.getD (i * 3 + 1) 0 = t.2.1 ∧ L.getD (i * 3 + 2) 0 = t.2.2 := by
  have hl : i < (trip L).length := by rw [g.len]; exact h
  refine ⟨(trip L)[i], List.getElem?_eq_getElem hl, ?_⟩
  rw [Nat.mul_comm i 3]
  exact trip_get L i _ (List.getElem?_eq_getElem hl)

theorem Good.mono {L : List Int} {n : Nat} (g : Good L n) (r : Int) (a b : Nat) (hab : a ≤ b) (hb : b < n) (h : r ≤ L.getD (a * 3 + 1) 0) : r ≤ L.getD (b * 3 + 1) 0 := by
  rcases Nat.lt_or_eq_of_le hab with hlt | rfl
  · obtain ⟨t, ht, _, t2, _⟩ := g.row a (by omega)
    obtain ⟨u, hu, _, u2, _⟩ := g.row b hb
    have h1 := sorted3_lt _ g.sorted a b t u hlt ht hu
    have h2 := sorted3_le _ g.sorted b u hu
    omega
  · exact h

theorem Good.first {L : List Int} {n : Nat} (g : Good L n) {r : Int} {i : Nat} (hi : i ≤ n) (h1 : ∀ t, t < i → decide (r ≤ L.getD (t * 3 + 1) 0) = false) (h2 : ∀ t, i ≤ t → t < n → decide (r ≤ L.getD (t * 3 + 1) 0) = true) :
    val3 (trip L) r = if i < n then (if L.getD (i * 3) 0 ≤ r then L.getD (i * 3 + 2) 0 else 0) else 0 := by
  rw [val3_first g.sorted (i := i)]
  · by_cases h : i < n
    · obtain ⟨t, ht, e1, _, e3⟩ := g.row i h
      rw [ht, if_pos h, e1, e3]
    · rw [if_neg h, List.getElem?_eq_none (by rw [g.len]; omega)]
  · intro t u ht hu
    obtain ⟨u', hu', _, e2, _⟩ := g.row t (by omega)
    rw [hu] at hu'; cases hu'
    have := h1 t ht
    simp only [decide_eq_false_iff_not] at this
    omega
  · intro t u ht hu
    have hl : t < n := by rw [← g.len]; exact (List.getElem?_eq_some_iff.1 hu).1
    obtain ⟨u', hu', _, e2, _⟩ := g.row t hl
    rw [hu] at hu'; cases hu'
    have := h2 t ht hl
    simp only [decide_eq_true_eq] at this
    omega

end Go.Proofs.Ytpeniadomjijcaa.TabLaw

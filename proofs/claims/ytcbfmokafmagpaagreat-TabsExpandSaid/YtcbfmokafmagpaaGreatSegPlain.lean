/-
  The plain law of clusters: the machine with a state of constant size tells what the rules, looked through backwards, tell. No Go in sight.
-/
import Derived.Test.YtcbfmokafmagpaaGreatSegP
namespace Go.Proofs.YtcbfmokafmagpaaGreat.Seg
set_option linter.unusedSimpArgs false
set_option linter.unusedVariables false

/-- the state behind the first n properties -/
def sAt (ps : Nat → P4) : Nat → St
  | 0 => zero
  | n + 1 => next (sAt ps n) (ps n).br (ps n).pi (ps n).co

/-- backwards from place n: a picture, with Extend alone before it -/
def pictDown (ps : Nat → P4) : Nat → Bool
  | 0 => false
  | n + 1 => if (ps n).pi then true else if (ps n).br = 4 then pictDown ps n else false

/-- backwards from place n: a Consonant, behind it Linkers and Joiners alone, one Linker at least -/
def conjDown (ps : Nat → P4) : Nat → Nat → Bool
  | 0, _ => false
  | n + 1, links => if (ps n).co = 1 then decide (0 < links) else if (ps n).co = 2 then conjDown ps n (links + 1) else if (ps n).co = 3 then conjDown ps n links else false

/-- how many RI end at place n -/
def riRun (ps : Nat → P4) : Nat → Nat
  | 0 => 0
  | n + 1 => if (ps n).br = 6 then riRun ps n + 1 else 0

def conjR (ps : Nat → P4) (i : Nat) : Bool := (ps i).co == 1 && conjDown ps i 0
def pictR (ps : Nat → P4) (i : Nat) : Bool := (ps i).pi && decide (2 ≤ i) && (ps (i - 1)).br == 5 && !(ps (i - 1)).pi && pictDown ps (i - 1)
/-- by the rules: does the one at place i join the one ahead of it? -/
def joinsR (ps : Nat → P4) (i : Nat) : Bool :=
  decide (1 ≤ i) && ((Pairs.pj (Pairs.cls (ps (i - 1)).br) (Pairs.cls (ps i).br) == 1 || conjR ps i || pictR ps i) || (Pairs.pj (Pairs.cls (ps (i - 1)).br) (Pairs.cls (ps i).br) == 2 && (ps i).br == 6 && riRun ps i % 2 == 1))

theorem sAt_some (ps : Nat → P4) (n : Nat) : (sAt ps n).some = decide (1 ≤ n) := by cases n <;> simp [sAt, zero, next]
theorem sAt_last (ps : Nat → P4) (n : Nat) : (sAt ps (n + 1)).last = (ps n).br := rfl

theorem sAt_pict (ps : Nat → P4) (n : Nat) : ((sAt ps n).pict == 1) = pictDown ps n := by
  induction n with
  | zero => rfl
  | succ n ih =>
    simp only [sAt, next, pictS, pictDown]
    rw [ih]
    cases hp : (ps n).pi
    · by_cases h4 : (ps n).br = 4
      · simp [h4]
        cases hd : pictDown ps n <;> simp
      · simp [h4]
        split <;> simp
    · simp

theorem sAt_pict2 (ps : Nat → P4) (n : Nat) : ((sAt ps (n + 1)).pict == 2) = (!(ps n).pi && (ps n).br == 5 && pictDown ps n) := by
  simp only [sAt, next, pictS]
  rw [sAt_pict]
  cases hp : (ps n).pi
  · by_cases h4 : (ps n).br = 4
    · simp [h4]
      cases hd : pictDown ps n <;> simp
    · by_cases h5 : (ps n).br = 5
      · simp [h5]
        cases hd : pictDown ps n <;> simp
      · simp [h4, h5]
  · simp

theorem sAt_conj (ps : Nat → P4) (n : Nat) : ∀ links, conjDown ps n links = ((sAt ps n).conj == 2 || ((sAt ps n).conj == 1 && decide (0 < links))) := by
  induction n with
  | zero => intro links; simp [conjDown, sAt, zero]
  | succ n ih =>
    intro links
    simp only [conjDown, sAt, next, conjS]
    by_cases h1 : (ps n).co = 1
    · simp [h1]
    · simp only [h1, if_false]
      have h1' : ((ps n).co == 1) = false := by simp [h1]
      simp only [h1', Bool.false_eq_true, if_false]
      by_cases h2 : (ps n).co = 2
      · simp only [h2, if_true, ih]
        by_cases hz : (sAt ps n).conj = 0
        · simp [hz]
        · by_cases hz2 : (sAt ps n).conj = 2
          · simp [hz2]
          · have : (sAt ps n).conj = 1 := by
              have key : ∀ m, (sAt ps m).conj = 0 ∨ (sAt ps m).conj = 1 ∨ (sAt ps m).conj = 2 := by
                intro m
                induction m with
                | zero => left; rfl
                | succ m ihm =>
                  simp only [sAt, next, conjS]
                  split
                  · right; left; rfl
                  · split
                    · left; rfl
                    · split
                      · right; right; rfl
                      · split
                        · exact ihm
                        · left; rfl
              rcases key n with h | h | h
              · exact absurd h hz
              · exact h
              · exact absurd h hz2
            simp [this]
      · by_cases h3 : (ps n).co = 3
        · simp only [h2, h3, if_true, if_false, ih]
          by_cases hz : (sAt ps n).conj = 0
          · simp [hz]
          · simp [hz]
        · simp only [h2, h3, if_false]
          have h2' : ((ps n).co == 2) = false := by simp [h2]
          have h3' : ((ps n).co == 3) = false := by simp [h3]
          simp [h2', h3']

theorem sAt_odd (ps : Nat → P4) (n : Nat) : (sAt ps n).odd = (riRun ps n % 2 == 1) := by
  induction n with
  | zero => rfl
  | succ n ih =>
    simp only [sAt, next, oddS, riRun]
    by_cases h6 : (ps n).br = 6
    · simp only [h6, if_true, beq_self_eq_true, Bool.true_and]
      rw [sAt_some, ih]
      cases n with
      | zero => rfl
      | succ n =>
        rw [sAt_last]
        by_cases hl : (ps n).br = 6
        · simp only [hl, beq_self_eq_true, Bool.and_true]
          have : decide (1 ≤ n + 1) = true := by simp
          rw [this, Bool.true_and]
          have e : riRun ps (n + 1) = riRun ps n + 1 := by simp [riRun, hl]
          rcases Nat.mod_two_eq_zero_or_one (riRun ps (n + 1)) with h | h
          · have : (riRun ps (n + 1) + 1) % 2 = 1 := by omega
            rw [h, this]; rfl
          · have : (riRun ps (n + 1) + 1) % 2 = 0 := by omega
            rw [h, this]; rfl
        · have e : riRun ps (n + 1) = 0 := by simp [riRun, hl]
          have hl' : ((ps n).br == 6) = false := by simp [hl]
          rw [e, hl']; rfl
    · have h6' : ((ps n).br == 6) = false := by simp [h6]
      simp [h6, h6']

theorem pj_ri (a b : Int) : (Pairs.pj (Pairs.cls a) (Pairs.cls b) == 2 && a == 6) = (Pairs.pj (Pairs.cls a) (Pairs.cls b) == 2 && b == 6) := by
  by_cases ha : a = 6
  · subst ha
    by_cases hb : b = 6
    · subst hb; rfl
    · have : Pairs.pj (Pairs.cls 6) (Pairs.cls b) ≠ 2 := by
        have hy : Pairs.cls b ≠ 6 := by unfold Pairs.cls; split <;> omega
        have h6 : Pairs.cls 6 = 6 := by decide
        rw [h6]
        generalize Pairs.cls b = y at *
        unfold Pairs.pj
        have e1 : (y == 6) = false := by simp [hy]
        simp [e1]
        repeat' split
        all_goals simp
      simp [this]
  · by_cases hb : b = 6
    · subst hb
      have : Pairs.pj (Pairs.cls a) (Pairs.cls 6) ≠ 2 := by
        have hy : Pairs.cls a ≠ 6 := by unfold Pairs.cls; split <;> omega
        have h6 : Pairs.cls 6 = 6 := by decide
        rw [h6]
        generalize Pairs.cls a = y at *
        unfold Pairs.pj
        have e1 : (y == 6) = false := by simp [hy]
        simp [e1]
        repeat' split
        all_goals simp
      simp [this]
    · have e1 : (a == 6) = false := by simp [ha]
      have e2 : (b == 6) = false := by simp [hb]
      rw [e1, e2]

/-- THE LAW -/
theorem joins_law (ps : Nat → P4) (i : Nat) : joinB (sAt ps i) (ps i).br (ps i).pi (ps i).co = joinsR ps i := by
  unfold joinB joinsR
  rw [sAt_some]
  cases i with
  | zero => rfl
  | succ i =>
    have e1 : decide (1 ≤ i + 1) = true := by simp
    rw [e1, Bool.true_and, Bool.true_and, sAt_last, sAt_pict2, sAt_odd]
    have ec : (((ps (i + 1)).co == 1) && ((sAt ps (i + 1)).conj == 2)) = conjR ps (i + 1) := by
      unfold conjR; rw [sAt_conj]; simp
    have ep : ((ps (i + 1)).pi && (!(ps i).pi && (ps i).br == 5 && pictDown ps i)) = pictR ps (i + 1) := by
      unfold pictR
      rw [show i + 1 - 1 = i from rfl]
      cases i with
      | zero => simp [pictDown]
      | succ i =>
        have : decide (2 ≤ i + 1 + 1) = true := by simp
        rw [this]
        cases (ps (i + 1 + 1)).pi <;> cases (ps (i + 1)).pi <;> simp
    rw [ec, ep]
    try simp only [Nat.add_sub_cancel]
    rw [show (Pairs.pj (Pairs.cls (ps i).br) (Pairs.cls (ps (i + 1)).br) == 2 && (ps i).br == 6 && (riRun ps (i + 1) % 2 == 1)) = (Pairs.pj (Pairs.cls (ps i).br) (Pairs.cls (ps (i + 1)).br) == 2 && (ps (i + 1)).br == 6 && (riRun ps (i + 1) % 2 == 1)) from by rw [pj_ri]]
    generalize (Pairs.pj (Pairs.cls (ps i).br) (Pairs.cls (ps (i + 1)).br) == 1) = u
    generalize conjR ps (i + 1) = v
    generalize pictR ps (i + 1) = x
    cases u <;> cases v <;> cases x <;> simp

end Go.Proofs.YtcbfmokafmagpaaGreat.Seg

/-
  Small words on memory: a block that is known whole.
  Plain law of the screen: cells, rows, cursor, scrolling, in Lean functions that go as the program's functions go.
  The plain law of tables: a sorted table of rows (lo, hi, value), searched by halves, tells what a row of lists of pairs tells that is looked through from its head on. No Go in sight.
  Walks of package pairs and of its reference.
  One word for what a step has turned: 'Turn T A B': of what lay in A only blocks k with T k may have turned. And a range over a function whose iterator keeps a block of cells of its own.
-/
import Derived.Test.YtjicdcmdgbcdcaaGreatDoorRows
import Derived.WalkKit
import Derived.WalkSpells
import Derived.WalkLawsBesides
import Derived.Lib.Hide
import Derived.RangeFuncBox
import Derived.RangeFuncCalls
import Derived.RangeFuncLeaves
section
namespace Go.Proofs.YtjicdcmdgbcdcaaGreatDoor.Mem
set_option linter.unusedSimpArgs false
set_option linter.unusedVariables false
open Go.RowKit
theorem hp_old (w : World) (o : Obj) (i : Nat) (h : i < w.heap.size) : (w.alloc o).heap[i]? = w.heap[i]? := by
  show (w.heap.push o)[i]? = w.heap[i]?
  rw [Array.getElem?_push, if_neg (Nat.ne_of_lt h)]

/-- block b holds just these cells -/
def Blk (w : World) (b : Nat) (xs : List Value) : Prop := ∃ T fr, w.heap[b]? = some (.cells xs.toArray T fr)

theorem Blk.cell {w : World} {b : Nat} {xs : List Value} (h : Blk w b xs) (i : Nat) (v : Value) (hv : xs[i]? = some v) : w.cell? ⟨b, i, none⟩ = some v := by
  obtain ⟨T, fr, h⟩ := h
  simp [World.cell?, h, hv]

theorem Blk.below {w w' : World} {b B : Nat} {xs : List Value} (h : Blk w b xs) (hb : Below B w w') (hlt : b < B) : Blk w' b xs := by
  obtain ⟨T, fr, h⟩ := h
  exact ⟨T, fr, by rw [hb.block b hlt, h]⟩

theorem Blk.lt {w : World} {b : Nat} {xs : List Value} (h : Blk w b xs) : b < w.heap.size := by
  obtain ⟨T, fr, h⟩ := h
  rcases Nat.lt_or_ge b w.heap.size with h1 | h1
  · exact h1
  · rw [Array.getElem?_eq_none (by omega)] at h; cases h

theorem Blk.alloc (w : World) (c : Array Value) (T : TypeId) (fr : Nat × Nat) (xs : List Value) (h : c = xs.toArray) : Blk (w.alloc (.cells c T fr)) w.heap.size xs :=
  ⟨T, fr, by subst h; show (w.heap.push _)[w.heap.size]? = _; simp⟩

theorem Blk.drew {w : World} {b : Nat} {xs : List Value} (h : Blk w b xs) : Blk w.drew b xs := h
theorem Blk.drewN {w : World} {b n : Nat} {xs : List Value} (h : Blk w b xs) : Blk (w.drewN n) b xs := h

theorem getnum {L : List Int} {kd : IntKind} (k : Nat) (h : k < L.length) : (L.map (Value.int kd))[k]? = some (.int kd (L.getD k 0)) := by
  rw [List.getElem?_map, List.getElem?_eq_getElem h]
  simp [List.getD_eq_getElem?_getD, h]

theorem bdrew (w : World) (n : Nat) : Below w.heap.size w (w.drewN n) := ⟨rfl, rfl, rfl, Nat.le_refl _, fun _ _ => rfl⟩

end Go.Proofs.YtjicdcmdgbcdcaaGreatDoor.Mem
end
section
namespace Go.Proofs.YtjicdcmdgbcdcaaGreatDoor.Scr
set_option linter.unusedSimpArgs false
set_option linter.unusedVariables false

abbrev CellC := Int × List Int
abbrev LineC := List CellC × Bool

def validB (r : Int) : Bool := (decide (0 ≤ r) && decide (r < 55296)) || (decide (57343 < r) && decide (r ≤ 1114111))
def fixR (r : Int) : Int := if validB r then r else 65533
def rightB (c : CellC) : Bool :=
  if c.1 = 0 ∨ c.1 = 3 then c.2.isEmpty
  else if c.1 = 1 ∨ c.1 = 2 then !c.2.isEmpty && decide (c.2.length ≤ 16) && c.2.all validB
  else false
/-- behind a Lead or not: is the rest of a strip sound? -/
def soundGo (lead : Bool) : List CellC → Bool
  | [] => !lead
  | c :: l => rightB c && (lead == (c.1 == 3)) && soundGo (c.1 == 2) l
def soundB (l : List CellC) : Bool := soundGo false l

def blank : CellC := (0, [])
def blanks (n : Nat) : List CellC := List.replicate n blank
def ofC (wide : Int) (text : List Int) : List CellC :=
  if text = [] then (if 2 ≤ wide then [blank, blank] else [blank])
  else if 2 ≤ wide then [(2, (text.take 16).map fixR), (3, [])] else [(1, (text.take 16).map fixR)]

def kindAt (cs : List CellC) (i : Nat) : Int := (cs.getD i blank).1
def putC (l : LineC) (i : Nat) (c : CellC) : LineC := (l.1.set i c, if i + 1 = l.1.length then false else l.2)
def putL (l : LineC) (at_ : Nat) : List CellC → LineC
  | [] => l
  | c :: cs => putL (putC l at_ c) (at_ + 1) cs
/-- what is torn beside -/
def tearL (l : LineC) (a : Nat) : LineC := if kindAt l.1 a = 3 then putC l (a - 1) blank else l
def tearR (l : LineC) (e : Nat) : LineC := if kindAt l.1 e = 3 then putC l e blank else l
def paintN (l : LineC) (a : Nat) (p : List CellC) : LineC := putL (tearR (tearL l a) (a + p.length)) a p
def paint (l : LineC) (at_ : Int) (p : List CellC) : LineC :=
  if at_ < 0 ∨ (l.1.length : Int) < at_ ∨ (l.1.length : Int) - at_ < p.length then l
  else if soundB p = false then l
  else if p = [] then l
  else paintN l at_.toNat p

theorem putC_len (l : LineC) (i : Nat) (c : CellC) : (putC l i c).1.length = l.1.length := by simp [putC]
theorem putL_len (l : LineC) (a : Nat) (p : List CellC) : (putL l a p).1.length = l.1.length := by
  induction p generalizing l a with
  | nil => rfl
  | cons c p ih => rw [putL, ih, putC_len]
theorem tearL_len (l : LineC) (a : Nat) : (tearL l a).1.length = l.1.length := by unfold tearL; split <;> simp [putC_len]
theorem tearR_len (l : LineC) (a : Nat) : (tearR l a).1.length = l.1.length := by unfold tearR; split <;> simp [putC_len]
theorem paintN_len (l : LineC) (a : Nat) (p : List CellC) : (paintN l a p).1.length = l.1.length := by rw [paintN, putL_len, tearR_len, tearL_len]
theorem paint_len (l : LineC) (a : Int) (p : List CellC) : (paint l a p).1.length = l.1.length := by
  unfold paint
  split
  · rfl
  · split
    · rfl
    · split
      · rfl
      · exact paintN_len _ _ _

/-- soundness by places: each cell is right, and a Spacer stands just behind a Lead -/
theorem soundGo_iff (lead : Bool) (l : List CellC) : soundGo lead l = true ↔ (∀ c ∈ l, rightB c = true) ∧ (lead = (kindAt l 0 == 3)) ∧ ∀ i, i < l.length → ((kindAt l i == 2) = (kindAt l (i + 1) == 3)) := by
  induction l generalizing lead with
  | nil => simp [soundGo, kindAt, blank]
  | cons c l ih =>
    simp only [soundGo, Bool.and_eq_true, ih, beq_iff_eq]
    constructor
    · rintro ⟨⟨h1, h2⟩, h3, h4, h5⟩
      refine ⟨fun x hx => ?_, by simpa [kindAt] using h2, fun i hi => ?_⟩
      · rcases List.mem_cons.1 hx with rfl | hx
        · exact h1
        · exact h3 x hx
      · cases i with
        | zero => simpa [kindAt] using h4
        | succ i => simpa [kindAt] using h5 i (by simpa using hi)
    · rintro ⟨h1, h2, h3⟩
      refine ⟨⟨h1 c (by simp), by simpa [kindAt] using h2⟩, fun x hx => h1 x (by simp [hx]), ?_, fun i hi => ?_⟩
      · simpa [kindAt] using h3 0 (by simp)
      · simpa [kindAt] using h3 (i + 1) (by simpa using hi)
theorem sound_first {l : List CellC} (h : soundB l = true) : kindAt l 0 ≠ 3 := by
  have := ((soundGo_iff false l).1 h).2.1
  intro e
  simp [e] at this

/-! what stands where behind a painting -/
theorem getD_set (l : List CellC) (i j : Nat) (c : CellC) : (l.set i c).getD j blank = if i = j ∧ j < l.length then c else l.getD j blank := by
  simp only [List.getD_eq_getElem?_getD, List.getElem?_set]
  by_cases h : i = j
  · subst h
    by_cases h2 : i < l.length
    · simp [h2]
    · simp [h2]
  · simp [h]
theorem putC_get (l : LineC) (i j : Nat) (c : CellC) : (putC l i c).1.getD j blank = if i = j ∧ j < l.1.length then c else l.1.getD j blank := getD_set _ _ _ _
theorem putL_get (l : LineC) (a : Nat) (p : List CellC) (j : Nat) (h : a + p.length ≤ l.1.length) : (putL l a p).1.getD j blank = if a ≤ j ∧ j < a + p.length then p.getD (j - a) blank else l.1.getD j blank := by
  induction p generalizing l a with
  | nil => rw [putL, if_neg (by simp only [List.length_nil]; omega)]
  | cons c p ih =>
    simp only [List.length_cons] at h ⊢
    rw [putL, ih _ _ (by rw [putC_len]; omega), putC_get]
    by_cases h1 : a + 1 ≤ j ∧ j < a + 1 + p.length
    · rw [if_pos h1, if_pos (by omega), show j - a = (j - (a + 1)) + 1 from by omega]
      simp
    · rw [if_neg h1]
      by_cases h2 : a = j
      · subst h2
        rw [if_pos (by omega), if_pos (by omega)]
        simp
      · rw [if_neg (by omega), if_neg (by omega)]
theorem paintN_get (l : LineC) (a : Nat) (p : List CellC) (j : Nat) (h : a + p.length ≤ l.1.length) (h0 : kindAt l.1 0 ≠ 3) : (paintN l a p).1.getD j blank = if a ≤ j ∧ j < a + p.length then p.getD (j - a) blank else if (j + 1 = a ∧ kindAt l.1 a = 3) ∨ (j = a + p.length ∧ kindAt l.1 j = 3) then blank else l.1.getD j blank := by
  rw [paintN, putL_get _ _ _ _ (by rw [tearR_len, tearL_len]; exact h)]
  by_cases h1 : a ≤ j ∧ j < a + p.length
  · rw [if_pos h1, if_pos h1]
  · rw [if_neg h1, if_neg h1]
    have e1 : ∀ j, (tearL l a).1.getD j blank = if j + 1 = a ∧ kindAt l.1 a = 3 then blank else l.1.getD j blank := by
      intro j
      unfold tearL
      by_cases h3 : kindAt l.1 a = 3
      · have ha : a ≠ 0 := fun e => h0 (by rw [← e]; exact h3)
        rw [if_pos h3, putC_get]
        by_cases h4 : j + 1 = a
        · have e2 : (if j + 1 = a ∧ kindAt l.1 a = 3 then blank else l.1.getD j blank) = blank := if_pos ⟨h4, h3⟩
          rw [e2]
          split
          · rfl
          · rename_i h5
            simp [List.getD_eq_getElem?_getD, List.getElem?_eq_none (show l.1.length ≤ j by omega)]
        · have e2 : (if j + 1 = a ∧ kindAt l.1 a = 3 then blank else l.1.getD j blank) = l.1.getD j blank := if_neg (fun x => h4 x.1)
          rw [e2, if_neg (by omega)]
      · rw [if_neg h3, if_neg (fun x => h3 x.2)]
    have k1 : kindAt (tearL l a).1 (a + p.length) = kindAt l.1 (a + p.length) := by
      unfold kindAt
      rw [e1, if_neg (by omega)]
    unfold tearR
    rw [k1]
    by_cases h3 : kindAt l.1 (a + p.length) = 3
    · rw [if_pos h3, putC_get, e1]
      by_cases h4 : a + p.length = j
      · subst h4
        have e2 : (if a + p.length + 1 = a ∧ kindAt l.1 a = 3 ∨ a + p.length = a + p.length ∧ kindAt l.1 (a + p.length) = 3 then blank else l.1.getD (a + p.length) blank) = blank := if_pos (.inr ⟨rfl, h3⟩)
        rw [e2]
        split
        · rfl
        · rename_i h5
          rw [tearL_len] at h5
          rw [if_neg (by omega)]
          simp [List.getD_eq_getElem?_getD, List.getElem?_eq_none (show l.1.length ≤ a + p.length by omega)]
      · rw [if_neg (fun x => h4 x.1)]
        by_cases h6 : j + 1 = a ∧ kindAt l.1 a = 3
        · rw [if_pos h6, if_pos (.inl h6)]
        · rw [if_neg h6, if_neg (fun x => x.elim h6 (fun x => h4 x.1.symm))]
    · rw [if_neg h3, e1]
      by_cases h6 : j + 1 = a ∧ kindAt l.1 a = 3
      · rw [if_pos h6, if_pos (.inl h6)]
      · rw [if_neg h6, if_neg (fun x => x.elim h6 (fun x => h3 (by rw [← x.1]; exact x.2)))]

theorem right_mem {l : List CellC} : (∀ c ∈ l, rightB c = true) ↔ ∀ i, rightB (l.getD i blank) = true := by
  constructor
  · intro h i
    rw [List.getD_eq_getElem?_getD]
    cases e : l[i]? with
    | none => rfl
    | some c => exact h c (List.mem_of_getElem? e)
  · intro h c hc
    obtain ⟨i, hi, rfl⟩ := List.getElem_of_mem hc
    have := h i
    rwa [List.getD_eq_getElem?_getD, List.getElem?_eq_getElem hi] at this
theorem sound_iff (l : List CellC) : soundB l = true ↔ (∀ i, rightB (l.getD i blank) = true) ∧ kindAt l 0 ≠ 3 ∧ ∀ i, (kindAt l i = 2 ↔ kindAt l (i + 1) = 3) := by
  unfold soundB
  rw [soundGo_iff, right_mem]
  constructor
  · rintro ⟨h1, h2, h3⟩
    refine ⟨h1, fun e => by simp [e] at h2, fun i => ?_⟩
    by_cases hi : i < l.length
    · have := h3 i hi
      rw [Bool.eq_iff_iff] at this
      simpa using this
    · have e1 : ∀ j, l.length ≤ j → kindAt l j = 0 := fun j hj => by simp [kindAt, List.getD_eq_getElem?_getD, List.getElem?_eq_none hj, blank]
      rw [e1 i (by omega), e1 (i + 1) (by omega)]
      simp
  · rintro ⟨h1, h2, h3⟩
    refine ⟨h1, ?_, fun i hi => ?_⟩
    · have : (kindAt l 0 == 3) = false := by simp [h2]
      rw [this]
    · rw [Bool.eq_iff_iff]
      simpa using h3 i

/-- TO PAINT KEEPS A ROW SOUND -/
theorem paintN_sound (l : LineC) (a : Nat) (p : List CellC) (h : a + p.length ≤ l.1.length) (hp : p ≠ []) (hl : soundB l.1 = true) (hs : soundB p = true) : soundB (paintN l a p).1 = true := by
  obtain ⟨l1, l2, l3⟩ := (sound_iff _).1 hl
  obtain ⟨p1, p2, p3⟩ := (sound_iff _).1 hs
  have hpl : 0 < p.length := List.length_pos_iff.2 hp
  have hk : ∀ j, kindAt (paintN l a p).1 j = if a ≤ j ∧ j < a + p.length then kindAt p (j - a) else if (j + 1 = a ∧ kindAt l.1 a = 3) ∨ (j = a + p.length ∧ kindAt l.1 j = 3) then 0 else kindAt l.1 j := by
    intro j
    unfold kindAt
    rw [paintN_get l a p j h l2]
    unfold kindAt
    split
    · rfl
    · split
      · rfl
      · rfl
  have pend : kindAt p (p.length - 1) ≠ 2 := fun e => by
    have := (p3 _).1 e
    rw [show p.length - 1 + 1 = p.length from by omega] at this
    simp [kindAt, List.getD_eq_getElem?_getD, blank] at this
  refine (sound_iff _).2 ⟨fun i => ?_, ?_, fun i => ?_⟩
  · rw [paintN_get l a p i h l2]
    split
    · exact p1 _
    · split
      · rfl
      · exact l1 _
  · rw [hk]
    split
    · rename_i h1
      rw [show 0 - a = 0 from by omega]
      exact p2
    · split
      · simp
      · exact l2
  · have k0 := hk i
    have k1 := hk (i + 1)
    have a0 := l3 i
    have a1 := l3 (i + 1)
    by_cases h1 : a ≤ i ∧ i < a + p.length
    · rw [if_pos h1] at k0
      rw [k0]
      by_cases h2 : i + 1 < a + p.length
      · rw [if_pos (by omega), show i + 1 - a = i - a + 1 from by omega] at k1
        rw [k1]
        exact p3 _
      · rw [if_neg (by omega)] at k1
        rw [k1, show i - a = p.length - 1 from by omega]
        refine ⟨fun h3 => absurd h3 pend, fun h3 => ?_⟩
        exfalso
        split at h3
        · cases h3
        · rename_i h4
          exact h4 (.inr ⟨by omega, h3⟩)
    · rw [if_neg h1] at k0
      by_cases h2 : i + 1 = a
      · rw [if_pos (by omega), show i + 1 - a = 0 from by omega] at k1
        rw [k1, k0]
        refine ⟨fun h3 => ?_, fun h3 => absurd h3 p2⟩
        exfalso
        split at h3
        · cases h3
        · rename_i h4
          exact h4 (.inl ⟨h2, by rw [← h2]; exact a0.1 h3⟩)
      · rw [if_neg (show ¬ (a ≤ i + 1 ∧ i + 1 < a + p.length) by omega)] at k1
        by_cases h3 : i + 1 + 1 = a ∧ kindAt l.1 a = 3
        · rw [if_neg (by omega)] at k0
          rw [if_pos (.inl h3)] at k1
          have e : kindAt l.1 (i + 1) = 2 := a1.2 (by rw [h3.1]; exact h3.2)
          rw [k0, k1, a0, e]
          simp
        · by_cases h4 : i = a + p.length ∧ kindAt l.1 i = 3
          · rw [if_pos (.inr h4)] at k0
            rw [if_neg (by omega)] at k1
            rw [k0, k1, ← a0, h4.2]
            simp
          · rw [if_neg (by rintro (x | x); exact h2 x.1; exact h4 x)] at k0
            have h5 : ¬ ((i + 1 + 1 = a ∧ kindAt l.1 a = 3) ∨ (i + 1 = a + p.length ∧ kindAt l.1 (i + 1) = 3)) := by
              rintro (x | x)
              · exact h3 x
              · omega
            rw [if_neg h5] at k1
            rw [k0, k1]
            exact a0
theorem paint_sound (l : LineC) (a : Int) (p : List CellC) (hl : soundB l.1 = true) : soundB (paint l a p).1 = true := by
  unfold paint
  split
  · exact hl
  · split
    · exact hl
    · split
      · exact hl
      · rename_i h1 h2 h3
        exact paintN_sound l _ p (by omega) h3 hl (by simpa using h2)

/-! cursor -/
structure Cur where
  row : Int
  col : Int
  pend : Bool
deriving DecidableEq
def side (n : Int) : Int := max 1 (min n 1024)
def heldC (n most : Int) : Int := max 0 (min n (most - 1))
def hold (c : Cur) (w h : Int) : Cur := ⟨heldC c.row (side h), heldC c.col (side w), c.pend && decide (c.col = side w - 1)⟩
def moveC (row col w h : Int) : Cur := hold ⟨row, col, false⟩ w h
def returnC (c : Cur) : Cur := ⟨c.row, 0, false⟩
def backC (c : Cur) : Cur := ⟨c.row, if 0 < c.col then c.col - 1 else c.col, false⟩
def afterC (c : Cur) (wide w : Int) (auto : Bool) : Cur :=
  if c.col < side w - max 1 (min wide 2) then ⟨c.row, c.col + max 1 (min wide 2), false⟩ else ⟨c.row, side w - 1, auto⟩

end Go.Proofs.YtjicdcmdgbcdcaaGreatDoor.Scr
end
section
namespace Go.Proofs.YtjicdcmdgbcdcaaGreatDoor.TabLaw
set_option linter.unusedSimpArgs false
set_option linter.unusedVariables false

def trip : List Int → List (Int × Int × Int)
  | a :: b :: c :: r => (a, b, c) :: trip r
  | _ => []

def pairs : List Int → List (Int × Int)
  | a :: b :: r => (a, b) :: pairs r
  | _ => []

theorem trip_get (L : List Int) (i : Nat) (t : Int × Int × Int) (h : (trip L)[i]? = some t) :
    L.getD (3 * i) 0 = t.1 ∧ L.getD (3 * i + 1) 0 = t.2.1 ∧ L.getD (3 * i + 2) 0 = t.2.2 := by
  induction L using trip.induct generalizing i with
  | case1 a b c r ih =>
    cases i with
    | zero => simp [trip] at h; subst h; simp
    | succ i =>
      simp [trip] at h
      obtain ⟨h1, h2, h3⟩ := ih i h
      refine ⟨?_, ?_, ?_⟩
      · rw [show 3 * (i + 1) = 3 * i + 1 + 1 + 1 from by omega]; simpa using h1
      · rw [show 3 * (i + 1) + 1 = 3 * i + 1 + 1 + 1 + 1 from by omega]; simpa using h2
      · rw [show 3 * (i + 1) + 2 = 3 * i + 2 + 1 + 1 + 1 from by omega]; simpa using h3
  | case2 l hl =>
    unfold trip at h
    split at h
    · exact absurd rfl (hl _ _ _ _)
    · simp at h

theorem pairs_get (L : List Int) (i : Nat) (t : Int × Int) (h : (pairs L)[i]? = some t) : L.getD (2 * i) 0 = t.1 ∧ L.getD (2 * i + 1) 0 = t.2 := by
  induction L using pairs.induct generalizing i with
  | case1 a b r ih =>
    cases i with
    | zero => simp [pairs] at h; subst h; simp
    | succ i =>
      simp [pairs] at h
      obtain ⟨h1, h2⟩ := ih i h
      refine ⟨?_, ?_⟩
      · rw [show 2 * (i + 1) = 2 * i + 1 + 1 from by omega]; simpa using h1
      · rw [show 2 * (i + 1) + 1 = 2 * i + 1 + 1 + 1 from by omega]; simpa using h2
  | case2 l hl =>
    unfold pairs at h
    split at h
    · exact absurd rfl (hl _ _ _)
    · simp at h

def has (r : Int) (t : Int × Int × Int) : Bool := decide (t.1 ≤ r) && decide (r ≤ t.2.1)
def hasP (r : Int) (t : Int × Int) : Bool := decide (t.1 ≤ r) && decide (r ≤ t.2)

/-- what a table tells of a number -/
def val3 (T : List (Int × Int × Int)) (r : Int) : Int := ((T.find? (has r)).map (·.2.2)).getD 0
/-- which list is the first that has a number -/
def which (LL : List (List (Int × Int))) (r : Int) : Option Nat := LL.findIdx? fun l => l.any (hasP r)

def sorted3 : List (Int × Int × Int) → Bool
  | [] => true
  | [t] => decide (t.1 ≤ t.2.1)
  | t :: u :: r => decide (t.1 ≤ t.2.1) && decide (t.2.1 < u.1) && sorted3 (u :: r)

theorem sorted3_cons {t u : Int × Int × Int} {r : List (Int × Int × Int)} (h : sorted3 (t :: u :: r) = true) : t.1 ≤ t.2.1 ∧ t.2.1 < u.1 ∧ sorted3 (u :: r) = true := by
  simpa [sorted3, and_assoc] using h

theorem sorted3_lt (T : List (Int × Int × Int)) (h : sorted3 T = true) : ∀ (i j : Nat) (t u : Int × Int × Int), i < j → T[i]? = some t → T[j]? = some u → t.2.1 < u.1 := by
  induction T with
  | nil => intro i j t u _ h1; simp at h1
  | cons a T ih =>
    cases T with
    | nil =>
      intro i j t u hij h1 h2
      cases j with
      | zero => omega
      | succ j => simp at h2
    | cons b T =>
      obtain ⟨p1, p2, p3⟩ := sorted3_cons h
      have hb : ∀ (j : Nat) u, (b :: T)[j]? = some u → b.1 ≤ u.1 := by
        intro j u hu
        cases j with
        | zero => simp at hu; subst hu; omega
        | succ j =>
          have := ih p3 0 (j + 1) b u (by omega) (by simp) hu
          have hbb : b.1 ≤ b.2.1 := by
            cases T with
            | nil => simpa [sorted3] using p3
            | cons c T => exact (sorted3_cons p3).1
          omega
      intro i j t u hij h1 h2
      cases j with
      | zero => omega
      | succ j =>
        cases i with
        | zero =>
          simp at h1; subst h1
          have := hb j u (by simpa using h2)
          omega
        | succ i => exact ih p3 i j t u (by omega) (by simpa using h1) (by simpa using h2)

theorem sorted3_le (T : List (Int × Int × Int)) (h : sorted3 T = true) : ∀ (i : Nat) (t : Int × Int × Int), T[i]? = some t → t.1 ≤ t.2.1 := by
  induction T with
  | nil => intro i t h1; simp at h1
  | cons a T ih =>
    intro i t h1
    cases T with
    | nil =>
      cases i with
      | zero => simp at h1; subst h1; simpa [sorted3] using h
      | succ i => simp at h1
    | cons b T =>
      obtain ⟨p1, p2, p3⟩ := sorted3_cons h
      cases i with
      | zero => simp at h1; subst h1; exact p1
      | succ i => exact ih p3 i t (by simpa using h1)

/-- two rows that have one number are one -/
theorem sorted3_one {T : List (Int × Int × Int)} (h : sorted3 T = true) {t u : Int × Int × Int} (ht : t ∈ T) (hu : u ∈ T) {r : Int} (h1 : has r t = true) (h2 : has r u = true) : t = u := by
  obtain ⟨i, hi⟩ := List.mem_iff_getElem?.1 ht
  obtain ⟨j, hj⟩ := List.mem_iff_getElem?.1 hu
  simp [has] at h1 h2
  rcases Nat.lt_trichotomy i j with hij | hij | hij
  · have := sorted3_lt T h i j t u hij hi hj; omega
  · subst hij; rw [hi] at hj; exact Option.some.inj hj
  · have := sorted3_lt T h j i u t hij hj hi; omega

theorem val3_of {T : List (Int × Int × Int)} (h : sorted3 T = true) {t : Int × Int × Int} (ht : t ∈ T) {r : Int} (h1 : has r t = true) : val3 T r = t.2.2 := by
  unfold val3
  cases hf : T.find? (has r) with
  | none => exact absurd h1 (by simpa using List.find?_eq_none.1 hf t ht)
  | some u =>
    have h2 := List.find?_some hf
    have hm := List.mem_of_find?_eq_some hf
    rw [sorted3_one h ht hm h1 h2]; rfl

theorem val3_none {T : List (Int × Int × Int)} {r : Int} (h : ∀ t ∈ T, has r t = false) : val3 T r = 0 := by
  unfold val3
  rw [List.find?_eq_none.2 (fun t ht => by simp [h t ht])]
  rfl

/-- the place that the search finds tells the value -/
theorem val3_first {T : List (Int × Int × Int)} (h : sorted3 T = true) {r : Int} {i : Nat} (hlo : ∀ t u, t < i → T[t]? = some u → u.2.1 < r) (hhi : ∀ t u, i ≤ t → T[t]? = some u → r ≤ u.2.1) :
    val3 T r = (match T[i]? with | some u => if u.1 ≤ r then u.2.2 else 0 | none => 0) := by
  cases hi : T[i]? with
  | none =>
    refine val3_none fun t ht => ?_
    obtain ⟨j, hj⟩ := List.mem_iff_getElem?.1 ht
    have hjl : j < T.length := (List.getElem?_eq_some_iff.1 hj).1
    have := hlo j t (by have := List.getElem?_eq_none_iff.1 hi; omega) hj
    simp [has]; omega
  | some u =>
    have hu := hhi i u (Nat.le_refl _) hi
    by_cases hle : u.1 ≤ r
    · rw [val3_of h (List.mem_iff_getElem?.2 ⟨i, hi⟩) (by simp [has]; omega)]
      simp [hle]
    · simp only [hle, if_false]
      refine val3_none fun t ht => ?_
      obtain ⟨j, hj⟩ := List.mem_iff_getElem?.1 ht
      rcases Nat.lt_trichotomy j i with hij | hij | hij
      · have := hlo j t hij hj; simp [has]; omega
      · subst hij; rw [hi] at hj; cases hj; simp [has]; omega
      · have := sorted3_lt T h i j u t hij hi hj; simp [has]; omega

/-- each row of the table stands in the list of its value -/
def there (LL : List (List (Int × Int))) (T : List (Int × Int × Int)) : Bool :=
  T.all fun t => decide (1 ≤ t.2.2) && ((LL.getD (t.2.2 - 1).toNat []).any fun p => p.1 == t.1 && p.2 == t.2.1)
/-- and each pair of a list in the table -/
def back (T : List (Int × Int × Int)) : Int → List (List (Int × Int)) → Bool
  | _, [] => true
  | v, l :: r => (l.all fun p => T.any fun t => t.1 == p.1 && t.2.1 == p.2 && t.2.2 == v) && back T (v + 1) r

/-- a flat table of n rows, sorted -/
structure Good (L : List Int) (n : Nat) : Prop where
  len : (trip L).length = n
  sorted : sorted3 (trip L) = true

theorem Good.row {L : List Int} {n : Nat} (g : Good L n) (i : Nat) (h : i < n) : ∃ t, (trip L)[i]? = some t ∧ L.getD (i * 3) 0 = t.1 ∧ L.getD (i * 3 + 1) 0 = t.2.1 ∧ L.getD (i * 3 + 2) 0 = t.2.2 := by
  have hl : i < (trip L).length := by rw [g.len]; exact h
  refine ⟨(trip L)[i], List.getElem?_eq_getElem hl, ?_⟩
  rw [Nat.mul_comm i 3]
  exact trip_get L i _ (List.getElem?_eq_getElem hl)

theorem Good.mono {L : List Int} {n : Nat} (g : Good L n) (r : Int) (a b : Nat) (hab : a ≤ b) (hb : b < n) (h : r ≤ L.getD (a * 3 + 1) 0) : r ≤ L.getD (b * 3 + 1) 0 := by
  rcases Nat.lt_or_eq_of_le hab with hlt | rfl
  · obtain ⟨t, ht, _, t2, _⟩ := g.row a (by omega)
    obtain ⟨u, hu, _, u2, _⟩ := g.row b hb
    have h1 := sorted3_lt _ g.sorted a b t u hlt ht hu
    have h2 := sorted3_le _ g.sorted b u hu
    omega
  · exact h

theorem Good.first {L : List Int} {n : Nat} (g : Good L n) {r : Int} {i : Nat} (hi : i ≤ n) (h1 : ∀ t, t < i → decide (r ≤ L.getD (t * 3 + 1) 0) = false) (h2 : ∀ t, i ≤ t → t < n → decide (r ≤ L.getD (t * 3 + 1) 0) = true) :
    val3 (trip L) r = if i < n then (if L.getD (i * 3) 0 ≤ r then L.getD (i * 3 + 2) 0 else 0) else 0 := by
  rw [val3_first g.sorted (i := i)]
  · by_cases h : i < n
    · obtain ⟨t, ht, e1, _, e3⟩ := g.row i h
      rw [ht, if_pos h, e1, e3]
    · rw [if_neg h, List.getElem?_eq_none (by rw [g.len]; omega)]
  · intro t u ht hu
    obtain ⟨u', hu', _, e2, _⟩ := g.row t (by omega)
    rw [hu] at hu'; cases hu'
    have := h1 t ht
    simp only [decide_eq_false_iff_not] at this
    omega
  · intro t u ht hu
    have hl : t < n := by rw [← g.len]; exact (List.getElem?_eq_some_iff.1 hu).1
    obtain ⟨u', hu', _, e2, _⟩ := g.row t hl
    rw [hu] at hu'; cases hu'
    have := h2 t ht hl
    simp only [decide_eq_true_eq] at this
    omega

end Go.Proofs.YtjicdcmdgbcdcaaGreatDoor.TabLaw
end
section
namespace Go.Proofs.YtjicdcmdgbcdcaaGreatDoor.Pairs
set_option linter.unusedSimpArgs false
set_option linter.unusedVariables false
open Go.RowKit

theorem ret_int {k : IntKind} {a b : Int} (h : a = b) : Ending.returned (.int k a) = .returned (.int k b) := by rw [h]
theorem ret_bool {a b : Bool} (h : a = b) : Ending.returned (.bool a) = .returned (.bool b) := by rw [h]

def cls (c : Int) : Int := if c < 0 ∨ 13 < c then 0 else c
def brkB (c : Int) : Bool := c == 1 || c == 2 || c == 3
def sylB (a b : Int) : Bool :=
  (a == 9 && (b == 9 || b == 10 || b == 12 || b == 13)) || ((a == 12 || a == 10) && (b == 10 || b == 11)) || ((a == 13 || a == 11) && b == 11)
/-- of two classes -/
def pj (a b : Int) : Int :=
  if a == 1 && b == 2 then 1
  else if brkB a || brkB b then 0
  else if sylB a b || b == 4 || b == 5 || b == 8 || a == 7 then 1
  else if (b == 0 && (a == 5 || a == 4)) || (a == 6 && b == 6) then 2
  else 0

theorem class_any (c : Int) (w : World) :
    Calls Tryz.prog 325 #[.int .i64 c] w fun e w' => e = .returned (.int .i64 (cls c)) ∧ w = w' := by
  go_enter Tryz.func325, Tryz.ntmps325
  go_wp2
  all_goals (go_ret; exact ⟨ret_int (by unfold cls; first | (rw [if_pos (by omega)]) | (rw [if_neg (by omega)])), rfl⟩)

theorem breaks_any (c : Int) (w : World) :
    Calls Tryz.prog 326 #[.int .i64 c] w fun e w' => e = .returned (.bool (brkB c)) ∧ w = w' := by
  go_enter Tryz.func326, Tryz.ntmps326
  go_wp2
  all_goals (go_ret; exact ⟨ret_bool (by unfold brkB; simp [*]), rfl⟩)

set_option maxHeartbeats 1000000 in
theorem syllable_any (a b : Int) (w : World) :
    Calls Tryz.prog 327 #[.int .i64 a, .int .i64 b] w fun e w' => e = .returned (.bool (sylB a b)) ∧ w = w' := by
  go_enter Tryz.func327, Tryz.ntmps327
  go_wp2
  all_goals go_ret
  all_goals (refine ⟨ret_bool ?_, rfl⟩; unfold sylB; try simp [*])
  have e : a = 9 := eq_of_beq (by assumption)
  subst e
  simp

end Go.Proofs.YtjicdcmdgbcdcaaGreatDoor.Pairs
end
section
namespace Go.Proofs.YtjicdcmdgbcdcaaGreatDoor.Turn
set_option linter.unusedSimpArgs false
set_option linter.unusedVariables false
open Go Go.RowKit

structure Turn (T : Nat → Prop) (A B : World) : Prop where
  os : B.os = A.os
  tape : B.tape = A.tape
  output : B.output = A.output
  size : A.heap.size ≤ B.heap.size
  block : ∀ k, k < A.heap.size → ¬ T k → B.heap[k]? = A.heap[k]?

section
variable {T T' : Nat → Prop} {A B C : World}
theorem Turn.refl (T : Nat → Prop) (A : World) : Turn T A A := ⟨rfl, rfl, rfl, Nat.le_refl _, fun _ _ _ => rfl⟩
theorem Turn.trans (h : Turn T A B) (k : Turn T B C) : Turn T A C :=
  ⟨k.os.trans h.os, k.tape.trans h.tape, k.output.trans h.output, Nat.le_trans h.size k.size, fun i hi hn => (k.block i (Nat.lt_of_lt_of_le hi h.size) hn).trans (h.block i hi hn)⟩
theorem Turn.mono (h : Turn T A B) (hT : ∀ k, k < A.heap.size → T k → T' k) : Turn T' A B := ⟨h.os, h.tape, h.output, h.size, fun k hk hn => h.block k hk (fun ht => hn (hT k hk ht))⟩
theorem Turn.of_below {n : Nat} (h : Below n A B) (hn : ∀ k, n ≤ k → k < A.heap.size → T k) : Turn T A B := ⟨h.os, h.tape, h.output, h.size, fun k hk ht => h.block k (Nat.lt_of_not_le fun hc => ht (hn k hc hk))⟩
theorem Turn.of_new (h : Below A.heap.size A B) : Turn T A B := Turn.of_below h (fun k h1 h2 => absurd h1 (by omega))
theorem Turn.below {n : Nat} (h : Turn T A B) (hs : n ≤ A.heap.size) (hT : ∀ k, T k → n ≤ k) : Below n A B := ⟨h.os, h.tape, h.output, h.size, fun k hk => h.block k (by omega) (fun ht => by have := hT k ht; omega)⟩
theorem Turn.of_grown {row : Option Nat} (h : A.grownBy B row) (hr : ∀ k, row = some k → T k) : Turn T A B := ⟨h.os, h.tape, h.output, h.size, fun k hk ht => h.block k hk (fun e => ht (hr k e.symm))⟩
theorem Turn.alloc (T : Nat → Prop) (A : World) (o : Obj) : Turn T A (A.alloc o) := Turn.of_new ((Below.refl _ _).alloc (Nat.le_refl _) _)
theorem Turn.drewN (T : Nat → Prop) (A : World) (n : Nat) : Turn T A (A.drewN n) := ⟨rfl, rfl, rfl, Nat.le_refl _, fun _ _ _ => rfl⟩
theorem Turn.drew (T : Nat → Prop) (A : World) : Turn T A A.drew := ⟨rfl, rfl, rfl, Nat.le_refl _, fun _ _ _ => rfl⟩
theorem Turn.setCell {p : Addr} (A : World) (v : Value) (hp : T p.block) : Turn T A (A.setCell p v) :=
  ⟨rfl, rfl, rfl, by simp [World.setCell], fun k _ hn => Below.heap_setCell _ _ _ _ (fun e => hn (by rw [e]; exact hp))⟩
theorem Turn.cell {p : Addr} {v : Value} (h : Turn T A B) (hc : A.cell? p = some v) (hp : ¬ T p.block) : B.cell? p = some v :=
  (World.cell?_of_block (h.block p.block (World.block_lt_of_cell? _ _ hc) hp)).trans hc
theorem Turn.frozen {p : Addr} (h : Turn T A B) (hl : p.block < A.heap.size) (hp : ¬ T p.block) : B.frozen? p = A.frozen? p := World.frozen?_of_block (h.block p.block hl hp)
theorem Turn.heap {k : Nat} {o : Obj} (h : Turn T A B) (hk : A.heap[k]? = some o) (hn : ¬ T k) : B.heap[k]? = some o := (h.block k (Array.getElem?_eq_some_iff.1 hk).1 hn).trans hk
theorem Turn.grown {n : Nat} (h : Turn (fun k => k = n) A B) : A.grownBy B (some n) := ⟨h.os, h.tape, h.output, h.size, fun k hk hn => h.block k hk (fun e => hn (by rw [e]))⟩
theorem Turn.kept {base : Nat} {e : TypeId} {size n : Nat} {v : Value} {xs : List Value} (h : Turn T A B) (ho : A.ownsRow base e size v n xs) (hn : ∀ g, v.ownBlock = some g → ¬ T g) : B.ownsRow base e size v n xs := by
  refine ⟨ho.1, ?_⟩
  rcases ho.2 with h0 | ⟨g, cap, cur, rfl, hb, hg, r⟩
  · exact .inl h0
  · exact .inr ⟨g, cap, cur, rfl, hb, h.heap hg (hn g rfl), r⟩
end

/-- THE CONTRACT OF AN ITERATOR VALUE THAT HAS ONE BLOCK OF CELLS OF ITS OWN (the first that its call lays): called in whatever later world, at the yield of whatever loop, it hands out the m elements 'encs 0', 'encs 1', .. one by one, till a round says 'no more'. A round keeps what lay below n₀, the block bx, and that block. -/
def Gives (P : Program) (g : Nat) (lb : Array Value) (encs : Nat → Array Value) (m n₀ bx : Nat) (w : World) : Prop :=
  ∀ (n l : Nat) (J Jx : Nat → World → Prop) (W : World), Below w.heap.size w W →
    (∀ k X Y, J k X → Turn (fun j => j = W.heap.size) X Y → J k Y) → (∀ k X Y, Jx k X → Turn (fun j => j = W.heap.size) X Y → Jx k Y) →
    (∀ k W1, k < m → J k W1 → W.heap.size < W1.heap.size → YieldAt Fence.wide (n - 1) P l (encs k) W1 fun e W' =>
      (e = .returned (.bool true) ∧ J (k + 1) W' ∧ Turn (fun j => n₀ ≤ j ∧ j ≠ bx ∧ j ≠ W.heap.size) W1 W') ∨ (e = .returned (.bool false) ∧ Jx k W')) →
    J 0 W →
    CallsIn Fence.wide n P g (#[.func (.yield l) #[] #[]] ++ lb) W fun e W' => (∃ v, e = .returned v) ∧ (J m W' ∨ ∃ k, k < m ∧ Jx k W')

/-- what a round may turn: B: the heap's size where the loop begins -/
def Rnd (n₀ bx B j : Nat) : Prop := n₀ ≤ j ∧ j ≠ bx ∧ (j < B ∨ B + 3 ≤ j)
/-- the loop's own three blocks -/
def Own3 (B j : Nat) : Prop := B ≤ j ∧ j < B + 3

/-- HOW THE BODY OF A ROUND MAY BE LEFT. -/
def roundPost (n₀ bx B : Nat) (I : Nat → World → Prop) (Ix : Code → Nat → World → Prop) (k : Nat) (W : World) : Exit → Act → World → Prop
  | .normal, _, W' => Turn (Rnd n₀ bx B) W W' ∧ I (k + 1) W'
  | .ret, _, W' => Turn (Rnd n₀ bx B) W W' ∧ Ix .ret k W'
  | .exit id, _, W' => Turn (Rnd n₀ bx B) W W' ∧ Ix (.exit id) k W'
  | .goto t, _, W' => Turn (Rnd n₀ bx B) W W' ∧ Ix (.goto t) k W'
  | .panic _, _, _ => False
  | .outgrown, _, _ => False

variable {P : Program}

end Go.Proofs.YtjicdcmdgbcdcaaGreatDoor.Turn
end

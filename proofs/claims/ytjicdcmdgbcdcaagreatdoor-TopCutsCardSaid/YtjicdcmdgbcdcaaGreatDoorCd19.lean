/-
  Plain law of the pen: Put.
  A pen's own blocks: told by their types; what a call on the pen leaves of all else.
  Plain law of the pen: cells moved within a row, rows of another width, another size, edits.
-/
import Derived.Test.YtjicdcmdgbcdcaaGreatDoorCd13
import Derived.Test.YtjicdcmdgbcdcaaGreatDoorCd18

section
namespace Go.Proofs.YtjicdcmdgbcdcaaGreatDoor.Scr
set_option linter.unusedSimpArgs false
set_option linter.unusedVariables false

/-- how wide a cluster counts on a screen, and its text -/
def wideP (wide : Int) (W : Nat) : Int := if (W : Int) < max 1 (min wide 2) then 1 else max 1 (min wide 2)
def textP (wide : Int) (t : List Int) (W : Nat) : List Int := if (W : Int) < max 1 (min wide 2) then [65533] else t
/-- a cluster put where the cursor stands -/
def putRow (q : PenC) (wide : Int) (t : List Int) (W : Nat) : PenC :=
  { q with
    rows := q.rows.set q.at_.row.toNat (paintN (q.rows.getD q.at_.row.toNat ([], false)) q.at_.col.toNat (ofC wide t))
    at_ := afterC ⟨q.at_.row, q.at_.col, false⟩ wide W q.auto }
def putP (p : PenC) (wide : Int) (t : List Int) (W : Nat) : PenC := putRow (roomP p (wideP wide W) W) (wideP wide W) (textP wide t W) W
def putA (p : PenC) (wide : Int) (W : Nat) : Cur := ⟨(roomP p (wideP wide W) W).at_.row, (roomP p (wideP wide W) W).at_.col, false⟩

theorem wideP_two (wide : Int) (W : Nat) : wideP wide W = 1 ∨ wideP wide W = 2 ∧ 2 ≤ W := by
  unfold wideP
  split
  · exact .inl rfl
  · omega
theorem textP_ne (wide : Int) (t : List Int) (W : Nat) (h : t ≠ []) : textP wide t W ≠ [] := by
  unfold textP
  split
  · simp
  · exact h
theorem wideP_id {wide : Int} {W : Nat} (h : wide = 1 ∨ wide = 2) (hW : wide ≤ W) : wideP wide W = wide := by
  unfold wideP
  rcases h with h | h <;> subst h <;> split <;> omega
theorem textP_id {wide : Int} {t : List Int} {W : Nat} (h : wide = 1 ∨ wide = 2) (hW : wide ≤ W) : textP wide t W = t := by
  unfold textP
  rw [if_neg (by omega)]
theorem ofC_first (wide : Int) (t : List Int) (hw : wide = 1 ∨ wide = 2) (h : t ≠ []) : (ofC wide t).getD 0 blank = (wide, (t.take 16).map fixR) := by
  unfold ofC
  rw [if_neg h]
  rcases hw with e | e
  · subst e; simp
  · subst e; simp
theorem PenOK.line {p : PenC} {W : Nat} (h : PenOK p W) : (p.rows.getD p.at_.row.toNat ([], false)).1.length = W ∧ soundB (p.rows.getD p.at_.row.toNat ([], false)).1 = true := by
  obtain ⟨r0, r1, _⟩ := h.rng
  refine h.rows _ ?_
  rw [List.getD_eq_getElem?_getD, List.getElem?_eq_getElem (by omega)]
  exact List.getElem_mem _
theorem PenOK.putRow {q : PenC} {W : Nat} (h : PenOK q W) (wide : Int) (t : List Int) (hw : wide = 1 ∨ wide = 2) (hc : q.at_.col + wide ≤ W) (ht : t ≠ []) : PenOK (putRow q wide t W) W := by
  obtain ⟨r0, r1, c0, c1, _⟩ := h.rng
  obtain ⟨l1, l2⟩ := h.line
  have h1 := h.w1; have h2 := h.w2; have h3 := h.h1; have h4 := h.h2
  have hlen : (ofC wide t).length = if 2 ≤ wide then 2 else 1 := ofC_len wide t
  have hroom : q.at_.col.toNat + (ofC wide t).length ≤ (q.rows.getD q.at_.row.toNat ([], false)).1.length := by
    rw [hlen, l1]
    split <;> omega
  have hne : ofC wide t ≠ [] := fun e => by
    rw [e] at hlen
    simp at hlen
    split at hlen <;> omega
  refine ⟨h1, h2, by unfold Scr.putRow; simp only [List.length_set]; exact h3, by unfold Scr.putRow; simp only [List.length_set]; exact h4, ?_, ?_⟩
  · exact h.rows.set ⟨by rw [paintN_len]; exact l1, paintN_sound _ _ _ hroom hne l2 (ofC_sound wide t ht)⟩
  · unfold Scr.putRow
    simp only [List.length_set]
    have e1 : side (W : Int) = W := by unfold side; omega
    unfold afterC
    rw [e1]
    have hc' : q.at_.col + wide ≤ W := hc
    split
    · rename_i hlt
      have hlt' : q.at_.col < (W : Int) - max 1 (min wide 2) := hlt
      exact held_of (by omega) (by omega) (by omega) (by omega) r0 r1 (by show 0 ≤ q.at_.col + max 1 (min wide 2); omega) (by show q.at_.col + max 1 (min wide 2) < (W : Int); omega) (fun x => by cases x)
    · exact held_of (by omega) (by omega) (by omega) (by omega) r0 r1 (by show (0 : Int) ≤ (W : Int) - 1; omega) (by show (W : Int) - 1 < (W : Int); omega) (fun x => rfl)
/-- what stands where a cluster was put -/
theorem putRow_cell {q : PenC} {W : Nat} (h : PenOK q W) (wide : Int) (t : List Int) (hw : wide = 1 ∨ wide = 2) (hc : q.at_.col + wide ≤ W) (ht : t ≠ []) :
    ((Scr.putRow q wide t W).rows.getD q.at_.row.toNat ([], false)).1.getD q.at_.col.toNat blank = (wide, (t.take 16).map fixR) := by
  obtain ⟨r0, r1, c0, c1, _⟩ := h.rng
  obtain ⟨l1, l2⟩ := h.line
  have hlen : (ofC wide t).length = if 2 ≤ wide then 2 else 1 := ofC_len wide t
  have hroom : q.at_.col.toNat + (ofC wide t).length ≤ (q.rows.getD q.at_.row.toNat ([], false)).1.length := by
    rw [hlen, l1]
    split <;> omega
  unfold Scr.putRow
  simp only
  rw [List.getD_eq_getElem?_getD (l := q.rows.set _ _), List.getElem?_set_self (by omega)]
  simp only [Option.getD_some]
  rw [paintN_get _ _ _ _ hroom (sound_first l2), if_pos ⟨Nat.le_refl _, by rw [hlen]; split <;> omega⟩, Nat.sub_self]
  exact ofC_first wide t hw ht
theorem PenOK.put {p : PenC} {W : Nat} (h : PenOK p W) (wide : Int) (t : List Int) (ht : t ≠ []) : PenOK (putP p wide t W) W := by
  have hw := wideP_two wide W
  obtain ⟨h1, h2⟩ := h.room (wideP wide W) hw
  exact h1.putRow _ _ (hw.imp id (·.1)) h2 (textP_ne _ _ _ ht)
theorem putP_len (p : PenC) (wide : Int) (t : List Int) (W : Nat) : (putP p wide t W).rows.length = (roomP p (wideP wide W) W).rows.length := by
  unfold putP putRow
  simp
end Go.Proofs.YtjicdcmdgbcdcaaGreatDoor.Scr
end
section
namespace Go.Proofs.YtjicdcmdgbcdcaaGreatDoor.Scr
set_option linter.unusedSimpArgs false
set_option linter.unusedVariables false
open Go Go.RowKit Mem Turn Ring

/-- a block of a pen's -/
def PenTyp (w : World) (b : Nat) : Prop := Typ w 92 b ∨ Typ w 137 b ∨ Typ w 128 b ∨ Typ w 198 b ∨ Typ w 80 b
def PenTypes : List TypeId := [92, 137, 128, 198, 80]
theorem PenTyp.lt {w : World} {b : Nat} (h : PenTyp w b) : b < w.heap.size := by
  rcases h with h | h | h | h | h <;> exact h.lt
theorem PenTyp.not {w : World} {b : Nat} {t : TypeId} (h : PenTyp w b) (ht : t ∉ PenTypes) : ¬ Typ w t b := by
  have hm : ∀ t', t' ∈ PenTypes → t' ≠ t := fun t' h' e => ht (e ▸ h')
  rcases h with h | h | h | h | h
  · exact h.not (hm _ (by simp [PenTypes]))
  · exact h.not (hm _ (by simp [PenTypes]))
  · exact h.not (hm _ (by simp [PenTypes]))
  · exact h.not (hm _ (by simp [PenTypes]))
  · exact h.not (hm _ (by simp [PenTypes]))
theorem PenTyp.free {w : World} {X : Nat → Prop} (h : ∀ b, X b → PenTyp w b) {t : TypeId} (ht : t ∉ PenTypes) : Free X w t := fun b hb _ => (h b hb).not ht
theorem PenTyp.turn {w w' : World} {T : Nat → Prop} {b : Nat} (h : PenTyp w b) (ht : Turn T w w') (hn : ¬ T b) : PenTyp w' b := by
  rcases h with e | e | e | e | e
  · exact .inl (e.turn ht hn)
  · exact .inr (.inl (e.turn ht hn))
  · exact .inr (.inr (.inl (e.turn ht hn)))
  · exact .inr (.inr (.inr (.inl (e.turn ht hn))))
  · exact .inr (.inr (.inr (.inr (e.turn ht hn))))
theorem PenIs.exact {w : World} {X : Nat → Prop} {π γ β : Nat} {Q : List (Nat × Nat)} {p : PenC} {W : Nat} (h : PenIs w X π γ β Q p W) :
    ∃ X0, PenIs w X0 π γ β Q p W ∧ (∀ b, X0 b → X b) ∧ ∀ b, X0 b → PenTyp w b := by
  refine ⟨fun b => b = π ∨ b = γ ∨ b = β ∨ ∃ q ∈ Q, b = q.1 ∨ b = q.2, ⟨h.hdr, h.grid, h.rows.exact.mono (fun b hb _ => .inr (.inr (.inr hb))), .inl rfl, .inr (.inl rfl), .inr (.inr (.inl rfl)), h.w1, h.w2⟩, ?_, ?_⟩
  · rintro b (rfl | rfl | rfl | ⟨q, hq, e⟩)
    · exact h.xπ
    · exact h.xγ
    · exact h.xβ
    · obtain ⟨i, hi⟩ := List.getElem?_of_mem hq
      obtain ⟨l, _, _, _, g3, g4⟩ := h.rows.line hi
      rcases e with rfl | rfl
      · exact g3
      · exact g4
  · rintro b (rfl | rfl | rfl | ⟨q, hq, e⟩)
    · exact .inl h.typ
    · exact .inr (.inl h.grid.typ1)
    · exact .inr (.inr (.inl h.grid.typ2))
    · obtain ⟨i, hi⟩ := List.getElem?_of_mem hq
      obtain ⟨l, _, g1, _⟩ := h.rows.line hi
      rcases e with rfl | rfl
      · exact .inr (.inr (.inr (.inl g1.typ)))
      · exact .inr (.inr (.inr (.inr g1.cells.typ)))
theorem PenIs.turn {w w' : World} {X T : Nat → Prop} {π γ β : Nat} {Q : List (Nat × Nat)} {p : PenC} {W : Nat} (h : PenIs w X π γ β Q p W) (ht : Turn T w w') (hf : Free T w 21) (hX : ∀ b, X b → ¬ T b) : PenIs w' X π γ β Q p W := by
  refine ⟨ht.heap h.hdr (hX _ h.xπ), h.grid.turn ht (hX _ h.xγ) (hX _ h.xβ), h.rows.turn ht hf (fun q hq => ?_), h.xπ, h.xγ, h.xβ, h.w1, h.w2⟩
  obtain ⟨i, hi⟩ := List.getElem?_of_mem hq
  obtain ⟨l, _, _, _, g3, g4⟩ := h.rows.line hi
  exact ⟨hX _ g3, hX _ g4⟩
theorem PenAt.turn {w w' : World} {X T : Nat → Prop} {π : Nat} {p : PenC} {W : Nat} (h : PenAt w X π p W) (ht : Turn T w w') (hf : Free T w 21) (hX : ∀ b, X b → ¬ T b) : PenAt w' X π p W := by
  obtain ⟨γ, β, Q, h⟩ := h
  exact ⟨γ, β, Q, h.turn ht hf hX⟩
theorem PenAt.exact {w : World} {X : Nat → Prop} {π : Nat} {p : PenC} {W : Nat} (h : PenAt w X π p W) : ∃ X0, PenAt w X0 π p W ∧ (∀ b, X0 b → X b) ∧ ∀ b, X0 b → PenTyp w b := by
  obtain ⟨γ, β, Q, h⟩ := h
  obtain ⟨X0, h1, h2, h3⟩ := h.exact
  exact ⟨X0, ⟨γ, β, Q, h1⟩, h2, h3⟩
theorem PenAt.below {w w' : World} {X : Nat → Prop} {π : Nat} {p : PenC} {W : Nat} (h : PenAt w X π p W) (hb : Below w.heap.size w w') : PenAt w' X π p W := by
  obtain ⟨γ, β, Q, h⟩ := h
  exact ⟨γ, β, Q, h.below hb⟩
theorem PenAt.typ {w : World} {X : Nat → Prop} {π : Nat} {p : PenC} {W : Nat} (h : PenAt w X π p W) : Typ w 92 π := by
  obtain ⟨γ, β, Q, h⟩ := h
  exact h.typ
theorem PenTo.wide {w w' : World} {X0 X : Nat → Prop} {π : Nat} {p : PenC} {W : Nat} (h : PenTo w X0 π p W w') (hX : ∀ b, X0 b → X b) : PenTo w X π p W w' := by
  obtain ⟨X', h1, h2, h3⟩ := h
  exact ⟨X', h1, fun b hb => (h2 b hb).imp (hX b) id, h3.mono (fun b _ e => hX b e)⟩
/-- blocks that lie all the same -/
theorem PenTo.pre {w w1 w' : World} {X : Nat → Prop} {π : Nat} {p : PenC} {W : Nat} (hb : Below w.heap.size w w1) (h : PenTo w1 X π p W w') : PenTo w X π p W w' := by
  obtain ⟨X', h1, h2, h3⟩ := h
  have T : Turn (fun _ => False) w w1 := Turn.of_new hb
  exact ⟨X', h1, fun b e => (h2 b e).imp id (fun e => Nat.le_trans hb.size e), (T.mono (fun _ _ h => h.elim)).trans h3⟩
/-- the sentinels that are met -/
structure VarsX (w : World) (X : Nat → Prop) : Prop where
  vars : Vars w
  l1 : 3 < w.heap.size
  l2 : 4 < w.heap.size
  n1 : ¬ X 3
  n2 : ¬ X 4
theorem VarsX.to {w w' : World} {X X' : Nat → Prop} (h : VarsX w X) (ht : Turn X w w') (hX : ∀ b, X' b → X b ∨ w.heap.size ≤ b) : VarsX w' X' :=
  ⟨h.vars.turn ht h.n1 h.n2, Nat.lt_of_lt_of_le h.l1 ht.size, Nat.lt_of_lt_of_le h.l2 ht.size, fun e => (hX _ e).elim h.n1 (fun e => by have := h.l1; omega), fun e => (hX _ e).elim h.n2 (fun e => by have := h.l2; omega)⟩
theorem VarsX.sub {w : World} {X X0 : Nat → Prop} (h : VarsX w X) (hX : ∀ b, X0 b → X b) : VarsX w X0 := ⟨h.vars, h.l1, h.l2, fun e => h.n1 (hX _ e), fun e => h.n2 (hX _ e)⟩
theorem VarsX.below {w w' : World} {X : Nat → Prop} (h : VarsX w X) (hb : Below w.heap.size w w') : VarsX w' X := h.to ((Turn.of_new hb : Turn (fun _ => False) w w').mono (fun _ _ h => h.elim)) (fun b e => .inl e)
theorem VarsX.hv {w : World} {X : Nat → Prop} (h : VarsX w X) : ∀ w', Turn X w w' → Vars w' ∧ 3 < w'.heap.size := fun w' ht => ⟨h.vars.turn ht h.n1 h.n2, Nat.lt_of_lt_of_le h.l1 ht.size⟩
theorem VarsX.hb {w : World} {X : Nat → Prop} (h : VarsX w X) : ∀ w', Below w.heap.size w w' → Vars w' ∧ 3 < w'.heap.size := fun w' hb => h.hv w' ((Turn.of_new hb : Turn (fun _ => False) w w').mono (fun _ _ h => h.elim))
/-- a literal text -/
theorem TxtAt.lit (w : World) (xs : List Int) (n : Nat) (hn : xs.length = n) (hs : n * 4 ≤ 140737488355328) (cs : Array Value) (hc : cs = (xs.map (Value.int .i32)).toArray) : TxtAt (w.alloc (.cells cs 21)) (.slice (some ⟨w.heap.size, 0, none⟩) n n) xs := by
  subst hn hc
  have e := heap_alloc_new w (.cells (xs.map (Value.int .i32)).toArray 21)
  refine ⟨some ⟨w.heap.size, 0, none⟩, xs.length, rfl, Nat.le_refl _, hs, .inr ⟨w.heap.size, 0, rfl, by simp, ⟨_, _, e⟩, fun j x hx => ⟨?_, fun f => f.elim⟩⟩⟩
  simp only [World.cell?, e]
  simp [hx]
end Go.Proofs.YtjicdcmdgbcdcaaGreatDoor.Scr
end
section
namespace Go.Proofs.YtjicdcmdgbcdcaaGreatDoor.Scr
set_option linter.unusedSimpArgs false
set_option linter.unusedVariables false

/-! shift -/
def tearC (cs : List CellC) (col : Nat) : List CellC := if kindAt cs col = 3 then (cs.set (col - 1) blank).set col blank else cs
def insertC (cs : List CellC) (col n : Nat) : List CellC :=
  if kindAt ((cs.take col ++ (blanks n ++ cs.drop col)).take cs.length) (cs.length - 1) = 2 then ((cs.take col ++ (blanks n ++ cs.drop col)).take cs.length).set (cs.length - 1) blank
  else (cs.take col ++ (blanks n ++ cs.drop col)).take cs.length
def deleteC (cs : List CellC) (col n : Nat) : List CellC := (tearC cs (col + n)).take col ++ (tearC cs (col + n)).drop (col + n) ++ blanks n
def shiftR (do_ : List CellC → Nat → Nat → List CellC) (l : LineC) (col n : Int) : LineC :=
  if col < 0 ∨ (l.1.length : Int) ≤ col ∨ n < 1 then l else paint l 0 (do_ (tearC l.1 col.toNat) col.toNat (min n ((l.1.length : Int) - col)).toNat)
theorem tearC_len (cs : List CellC) (col : Nat) : (tearC cs col).length = cs.length := by
  unfold tearC
  split <;> simp
theorem shiftR_len (do_ : List CellC → Nat → Nat → List CellC) (l : LineC) (col n : Int) : (shiftR do_ l col n).1.length = l.1.length := by
  unfold shiftR
  split
  · rfl
  · exact paint_len _ _ _
theorem shiftR_sound (do_ : List CellC → Nat → Nat → List CellC) (l : LineC) (col n : Int) (h : soundB l.1 = true) : soundB (shiftR do_ l col n).1 = true := by
  unfold shiftR
  split
  · exact h
  · exact paint_sound _ _ _ h

/-! fit -/
def cutC (cs : List CellC) (n : Nat) : List CellC := if 0 < n ∧ kindAt (cs.take n) (n - 1) = 2 then (cs.take n).set (n - 1) blank else cs.take n
def fitC (cs : List CellC) (w : Nat) : List CellC := cutC cs (min w cs.length) ++ blanks (w - min w cs.length)
theorem cutC_len (cs : List CellC) (n : Nat) (h : n ≤ cs.length) : (cutC cs n).length = n := by
  unfold cutC
  split <;> simp <;> omega
theorem fitC_len (cs : List CellC) (w : Nat) : (fitC cs w).length = w := by
  unfold fitC
  rw [List.length_append, cutC_len _ _ (by omega)]
  simp [blanks]
  omega
theorem kindAt_out (cs : List CellC) (i : Nat) (h : cs.length ≤ i) : kindAt cs i = 0 := by
  simp [kindAt, List.getD_eq_getElem?_getD, List.getElem?_eq_none h, blank]
theorem getD_take (cs : List CellC) (n i : Nat) : (cs.take n).getD i blank = if i < n then cs.getD i blank else blank := by
  simp only [List.getD_eq_getElem?_getD, List.getElem?_take]
  split
  · rfl
  · simp
theorem getD_blanks (n i : Nat) : (blanks n).getD i blank = blank := by
  simp only [blanks, List.getD_eq_getElem?_getD, List.getElem?_replicate]
  split <;> rfl
theorem cutC_get (cs : List CellC) (n i : Nat) (hn : n ≤ cs.length) : (cutC cs n).getD i blank = if i < n then (if i + 1 = n ∧ kindAt cs i = 2 then blank else cs.getD i blank) else blank := by
  unfold cutC
  have hk : 0 < n → kindAt (cs.take n) (n - 1) = kindAt cs (n - 1) := fun h => by
    unfold kindAt
    rw [getD_take, if_pos (by omega)]
  split
  · rename_i h
    rw [hk h.1] at h
    rw [getD_set, List.length_take]
    by_cases hi : i < n
    · rw [if_pos hi]
      by_cases he : n - 1 = i
      · subst he
        rw [if_pos ⟨rfl, by omega⟩, if_pos ⟨by omega, h.2⟩]
      · rw [if_neg (fun x => he x.1), if_neg (fun x => he (by omega)), getD_take, if_pos hi]
    · rw [if_neg hi, if_neg (by omega), getD_take, if_neg hi]
  · rename_i h
    rw [getD_take]
    split
    · rename_i hi
      rw [if_neg (fun x => h ⟨by omega, by rw [hk (by omega), show n - 1 = i from by omega]; exact x.2⟩)]
    · rfl
theorem fitC_get (cs : List CellC) (w i : Nat) : (fitC cs w).getD i blank = if i < min w cs.length then (if i + 1 = min w cs.length ∧ kindAt cs i = 2 then blank else cs.getD i blank) else blank := by
  unfold fitC
  have hl := cutC_len cs (min w cs.length) (by omega)
  rw [List.getD_eq_getElem?_getD, List.getElem?_append]
  split
  · rw [← List.getD_eq_getElem?_getD, cutC_get _ _ _ (by omega)]
  · rename_i h
    rw [hl] at h
    rw [if_neg h, hl, ← List.getD_eq_getElem?_getD, getD_blanks]
theorem fitC_sound (cs : List CellC) (w : Nat) (h : soundB cs = true) : soundB (fitC cs w) = true := by
  obtain ⟨h1, h2, h3⟩ := (sound_iff _).1 h
  have hk : ∀ i, kindAt (fitC cs w) i = if i < min w cs.length then (if i + 1 = min w cs.length ∧ kindAt cs i = 2 then 0 else kindAt cs i) else 0 := by
    intro i
    unfold kindAt
    rw [fitC_get]
    unfold kindAt
    split
    · split <;> rfl
    · rfl
  refine (sound_iff _).2 ⟨fun i => ?_, ?_, fun i => ?_⟩
  · rw [fitC_get]
    split
    · split
      · rfl
      · exact h1 i
    · rfl
  · rw [hk]
    split
    · split
      · simp
      · exact h2
    · simp
  · rw [hk i, hk (i + 1)]
    by_cases a : i < min w cs.length
    · rw [if_pos a]
      by_cases b : i + 1 < min w cs.length
      · rw [if_pos b, if_neg (by omega)]
        by_cases c : i + 1 + 1 = min w cs.length ∧ kindAt cs (i + 1) = 2
        · rw [if_pos c]
          have := h3 i
          rw [this, c.2]
          simp
        · rw [if_neg c]
          exact h3 i
      · rw [if_neg b]
        by_cases c : kindAt cs i = 2
        · rw [if_pos ⟨by omega, c⟩]
          simp
        · rw [if_neg (fun x => c x.2)]
          simp [c]
    · rw [if_neg a, if_neg (by omega)]
      simp

/-! another size -/
def sizeL (L : List LineC) (top w h : Nat) : List LineC := (List.range h).map fun i => if top + i < L.length then (fitC (L.getD (top + i) ([], false)).1 w, false) else (blanks w, false)
def sizeW (w : Int) : Nat := (max 1 (min w 1024)).toNat
def topOf (p : PenC) (h : Int) : Nat := (max 0 (p.at_.row - sizeW h + 1)).toNat
def sizeP (p : PenC) (w h : Int) : PenC :=
  { p with
    rows := sizeL p.rows (topOf p h) (sizeW w) (sizeW h)
    at_ := moveC (p.at_.row - topOf p h) p.at_.col (sizeW w) (sizeW h) }
theorem sizeW_rng (w : Int) : 1 ≤ sizeW w ∧ sizeW w ≤ 1024 := by unfold sizeW; omega
theorem sizeL_len (L : List LineC) (top w h : Nat) : (sizeL L top w h).length = h := by simp [sizeL]
theorem sizeL_ok (L : List LineC) (top w h W : Nat) (hL : RowsOK L W) : RowsOK (sizeL L top w h) w := by
  intro x hx
  obtain ⟨i, _, rfl⟩ := List.mem_map.1 hx
  split
  · rename_i hi
    have hm : L.getD (top + i) ([], false) ∈ L := by
      rw [List.getD_eq_getElem?_getD, List.getElem?_eq_getElem hi]
      exact List.getElem_mem _
    exact ⟨fitC_len _ _, fitC_sound _ _ (hL _ hm).2⟩
  · exact ⟨by simp [blanks], blanks_sound _⟩
theorem PenOK.size {p : PenC} {W : Nat} (h : PenOK p W) (w h' : Int) : PenOK (sizeP p w h') (sizeW w) := by
  have a := sizeW_rng w
  have b := sizeW_rng h'
  refine ⟨a.1, a.2, by show 1 ≤ (sizeL _ _ _ _).length; rw [sizeL_len]; exact b.1, by show (sizeL _ _ _ _).length ≤ _; rw [sizeL_len]; exact b.2, sizeL_ok _ _ _ _ _ h.rows, ?_⟩
  show moveC _ _ _ _ = hold (moveC _ _ _ _) _ ((sizeL _ _ _ _).length : Nat)
  rw [sizeL_len]
  unfold moveC
  exact (hold_hold _ _ _ (by omega) (by omega) (by omega) (by omega)).symm

/-! edits -/
def setRow (p : PenC) (f : LineC → LineC) : PenC := { p with rows := p.rows.set p.at_.row.toNat (f (p.rows.getD p.at_.row.toNat ([], false))) }
def lineE (p : PenC) (mode : Int) : LineC → LineC := fun l => if mode = 0 then eraseRt l p.at_.col else if mode = 1 then eraseLt l p.at_.col else eraseAll l
def lineP (p : PenC) (mode : Int) : PenC := setRow p (lineE p mode)
def screenHits (mode row i : Int) : Bool := mode == 2 || (mode == 0 && decide (row < i)) || (mode == 1 && decide (i < row))
/-- the first k rows gone through -/
def screenK (mode row : Int) (L : List LineC) (k : Nat) : List LineC := (List.range L.length).map fun i => if i < k ∧ screenHits mode row i = true then eraseAll (L.getD i ([], false)) else L.getD i ([], false)
def screenP (p : PenC) (mode : Int) : PenC := { lineP p mode with rows := screenK mode p.at_.row (lineP p mode).rows (lineP p mode).rows.length }
def rowsP (p : PenC) (kind a : Int) (W : Nat) : PenC :=
  if kind = 10 then { p with rows := upR p.rows 0 a W }
  else if kind = 11 then { p with rows := downR p.rows 0 a W }
  else if kind = 8 then { p with rows := downR p.rows p.at_.row.toNat a W, at_ := returnC p.at_ }
  else if kind = 9 then { p with rows := upR p.rows p.at_.row.toNat a W, at_ := returnC p.at_ }
  else { p with at_ := returnC p.at_ }
def cellsP (p : PenC) (kind a b : Int) (W : Nat) : PenC :=
  if kind = 2 then { p with at_ := moveC a b W p.rows.length }
  else if kind = 3 then lineP p a
  else if kind = 4 then screenP p a
  else if kind = 5 then setRow p (fun l => eraseN l p.at_.col a)
  else if kind = 6 then setRow p (fun l => shiftR insertC l p.at_.col a)
  else if kind = 7 then setRow p (fun l => shiftR deleteC l p.at_.col a)
  else if kind = 12 then { p with auto := !(a == 0) }
  else p
/-- is an edit wrong? -/
def wrongE (kind a : Int) : Int := if kind < 2 ∨ 12 < kind then 5 else if (kind = 3 ∨ kind = 4) ∧ (a < 0 ∨ 2 < a) then 3 else 0
def editP (p : PenC) (kind a b : Int) (W : Nat) : PenC :=
  if kind = 8 ∨ kind = 9 ∨ kind = 10 ∨ kind = 11 then rowsP { p with at_ := { p.at_ with pend := false } } kind a W
  else cellsP { p with at_ := { p.at_ with pend := false } } kind a b W

theorem PenOK.unpend {p : PenC} {W : Nat} (h : PenOK p W) : PenOK { p with at_ := { p.at_ with pend := false } } W := by
  obtain ⟨r0, r1, c0, c1, _⟩ := h.rng
  have h1 := h.w1; have h2 := h.w2; have h3 := h.h1; have h4 := h.h2
  exact ⟨h1, h2, h3, h4, h.rows, held_of (by omega) (by omega) (by simp only; omega) (by simp only; omega) r0 r1 c0 c1 (fun x => by cases x)⟩
theorem PenOK.setRow {p : PenC} {W : Nat} (h : PenOK p W) (f : LineC → LineC) (hl : ∀ l, (f l).1.length = l.1.length) (hs : ∀ l, soundB l.1 = true → soundB (f l).1 = true) : PenOK (setRow p f) W := by
  obtain ⟨l1, l2⟩ := h.line
  refine ⟨h.w1, h.w2, by unfold Scr.setRow; simp only [List.length_set]; exact h.h1, by unfold Scr.setRow; simp only [List.length_set]; exact h.h2, h.rows.set ⟨by rw [hl]; exact l1, hs _ l2⟩, ?_⟩
  unfold Scr.setRow
  simp only [List.length_set]
  exact h.held
theorem eraseAll_len (l : LineC) : (eraseAll l).1.length = l.1.length := by unfold eraseAll; exact eraseR_len _ _ _
theorem eraseAll_sound (l : LineC) (h : soundB l.1 = true) : soundB (eraseAll l).1 = true := by unfold eraseAll; exact eraseR_sound _ _ _ h
theorem eraseN_len (l : LineC) (a b : Int) : (eraseN l a b).1.length = l.1.length := by
  unfold eraseN
  split
  · exact eraseR_len _ _ _
  · rfl
theorem eraseN_sound (l : LineC) (a b : Int) (h : soundB l.1 = true) : soundB (eraseN l a b).1 = true := by
  unfold eraseN
  split
  · exact eraseR_sound _ _ _ h
  · exact h
theorem lineE_len (p : PenC) (mode : Int) (l : LineC) : (lineE p mode l).1.length = l.1.length := by
  unfold lineE
  split
  · exact eraseR_len _ _ _
  · split
    · exact eraseR_len _ _ _
    · exact eraseAll_len _
theorem lineE_sound (p : PenC) (mode : Int) (l : LineC) (h : soundB l.1 = true) : soundB (lineE p mode l).1 = true := by
  unfold lineE
  split
  · exact eraseR_sound _ _ _ h
  · split
    · exact eraseR_sound _ _ _ h
    · exact eraseAll_sound _ h
theorem PenOK.lineP {p : PenC} {W : Nat} (h : PenOK p W) (mode : Int) : PenOK (lineP p mode) W := h.setRow _ (lineE_len p mode) (lineE_sound p mode)
theorem screenK_len (mode row : Int) (L : List LineC) (k : Nat) : (screenK mode row L k).length = L.length := by simp [screenK]
theorem getD_mem {L : List LineC} {i : Nat} (h : i < L.length) : L.getD i ([], false) ∈ L := by
  rw [List.getD_eq_getElem?_getD, List.getElem?_eq_getElem h]
  exact List.getElem_mem _
theorem screenK_ok (mode row : Int) (L : List LineC) (k W : Nat) (h : RowsOK L W) : RowsOK (screenK mode row L k) W := by
  intro x hx
  obtain ⟨i, hi, rfl⟩ := List.mem_map.1 hx
  have hm := h _ (getD_mem (List.mem_range.1 hi))
  split
  · exact ⟨by rw [eraseAll_len]; exact hm.1, eraseAll_sound _ hm.2⟩
  · exact hm
theorem PenOK.screenP {p : PenC} {W : Nat} (h : PenOK p W) (mode : Int) : PenOK (screenP p mode) W := by
  have hl := h.lineP mode
  refine ⟨h.w1, h.w2, ?_, ?_, screenK_ok _ _ _ _ _ hl.rows, ?_⟩
  · show 1 ≤ (screenK _ _ _ _).length
    rw [screenK_len]; exact hl.h1
  · show (screenK _ _ _ _).length ≤ _
    rw [screenK_len]; exact hl.h2
  · show (Scr.lineP p mode).at_ = hold (Scr.lineP p mode).at_ W ((screenK _ _ _ _).length : Nat)
    rw [screenK_len]; exact hl.held
theorem PenOK.rowsOf {p : PenC} {W : Nat} (h : PenOK p W) (L : List LineC) (hl : L.length = p.rows.length) (hL : RowsOK L W) : PenOK { p with rows := L } W :=
  ⟨h.w1, h.w2, by show 1 ≤ L.length; rw [hl]; exact h.h1, by show L.length ≤ _; rw [hl]; exact h.h2, hL, by show p.at_ = hold p.at_ W (L.length : Nat); rw [hl]; exact h.held⟩
theorem PenOK.ret {p : PenC} {W : Nat} (h : PenOK p W) : PenOK { p with at_ := returnC p.at_ } W := by
  obtain ⟨r0, r1, c0, c1, _⟩ := h.rng
  have h1 := h.w1; have h2 := h.w2; have h3 := h.h1; have h4 := h.h2
  exact ⟨h1, h2, h3, h4, h.rows, held_of (by omega) (by omega) (by simp only; omega) (by simp only; omega) r0 r1 (by simp [returnC]) (by simp [returnC]; omega) (fun x => by cases x)⟩
theorem PenOK.rowsP {p : PenC} {W : Nat} (h : PenOK p W) (kind a : Int) : PenOK (rowsP p kind a W) W := by
  obtain ⟨r0, r1, c0, c1, _⟩ := h.rng
  have h3 := h.h1
  unfold Scr.rowsP
  split
  · exact h.rowsOf _ (upR_len _ _ _ _ (by omega)) (upR_ok _ _ _ _ (by omega) h.rows)
  · split
    · exact h.rowsOf _ (downR_len _ _ _ _ (by omega)) (downR_ok _ _ _ _ (by omega) h.rows)
    · split
      · exact (h.rowsOf _ (downR_len p.rows p.at_.row.toNat a W (by omega)) (downR_ok _ _ _ _ (by omega) h.rows)).ret
      · split
        · exact (h.rowsOf _ (upR_len p.rows p.at_.row.toNat a W (by omega)) (upR_ok _ _ _ _ (by omega) h.rows)).ret
        · exact h.ret
theorem PenOK.cellsP {p : PenC} {W : Nat} (h : PenOK p W) (kind a b : Int) : PenOK (cellsP p kind a b W) W := by
  have h1 := h.w1; have h2 := h.w2; have h3 := h.h1; have h4 := h.h2
  unfold Scr.cellsP
  split
  · exact ⟨h1, h2, h3, h4, h.rows, by unfold moveC; exact (hold_hold _ _ _ (by omega) (by omega) (by omega) (by omega)).symm⟩
  · split
    · exact h.lineP a
    · split
      · exact h.screenP a
      · split
        · exact h.setRow _ (fun l => eraseN_len _ _ _) (fun l => eraseN_sound _ _ _)
        · split
          · exact h.setRow _ (fun l => shiftR_len _ _ _ _) (fun l => shiftR_sound _ _ _ _)
          · split
            · exact h.setRow _ (fun l => shiftR_len _ _ _ _) (fun l => shiftR_sound _ _ _ _)
            · split
              · exact ⟨h1, h2, h3, h4, h.rows, h.held⟩
              · exact h
theorem PenOK.edit {p : PenC} {W : Nat} (h : PenOK p W) (kind a b : Int) : PenOK (editP p kind a b W) W := by
  unfold editP
  split
  · exact h.unpend.rowsP kind a
  · exact h.unpend.cellsP kind a b
end Go.Proofs.YtjicdcmdgbcdcaaGreatDoor.Scr
end

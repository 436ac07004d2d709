/-
  All that is known of a number: package ucd and its reference.
  Walks of package seg: joins, picture, conjunct.
  The screen's memory: texts by their blocks' type, cells in a block, rows.
  Walks of package seg: Step.
  Package basew and its reference.
  Walks of package seg: Step.
  Package seg: words for states and properties.
-/
import Derived.Test.YtjicdcmdgbcdcaaGreatDoorSd1
import Derived.Test.YtjicdcmdgbcdcaaGreatDoorSd4
import Derived.Test.YtjicdcmdgbcdcaaGreatDoorSd6
import Derived.Test.YtjicdcmdgbcdcaaGreatDoorSd7
import Derived.Test.YtjicdcmdgbcdcaaGreatDoorSd8
import Derived.Test.YtjicdcmdgbcdcaaGreatDoorSd9
import Derived.Deep.QuietTactic
import Derived.BigQuiet
import Derived.Deep.RegionHeld3
import Derived.Lib.QuietBelow
import Derived.Deep.RegionWith
import Derived.RegionTactic
section
namespace Go.Proofs.YtjicdcmdgbcdcaaGreatDoor.Ucd
set_option linter.unusedSimpArgs false
set_option linter.unusedVariables false
open Go.RowKit Mem Tab

/-- a property as a value -/
def propV (b : Int) (p : Bool) (c e : Int) : Value := .agg #[.int .i64 b, .bool p, .int .i64 c, .int .i64 e]
/-- what is known of r -/
noncomputable def ofV (r : Int) : Value := propV (Gcb.val r) (Pict.isB r) (Conj.val r) (East.val r)

set_option maxHeartbeats 1000000 in
theorem of_any (r : Int) (hr1 : -2147483648 ≤ r) (hr2 : r ≤ 2147483647) (w : World) :
    Calls Tryz.prog 158 #[.int .i32 r] w fun e w' => e = .returned (ofV r) ∧ Below w.heap.size w w' := by
  have C1 := Lib.hid (Gcb.of_any r hr1 hr2)
  have C2 := Lib.hid (Pict.is_any r hr1 hr2)
  have C3 := Lib.hid (Conj.of_any r hr1 hr2)
  have C4 := Lib.hid (East.of_any r hr1 hr2)
  unfold ofV propV
  generalize Gcb.val r = g at *
  generalize Pict.isB r = p at *
  generalize Conj.val r = c at *
  generalize East.val r = e at *
  go_enter Tryz.func158, Tryz.ntmps158
  go_wp2_with fail
  refine (C1.out _).mono ?_; rintro _ w1 ⟨rfl, h1⟩
  go_wp2_with fail
  refine (C2.out _).mono ?_; rintro _ w2 ⟨rfl, h2⟩
  have h2 := h1.trans (h2.mono h1.size)
  clear h1
  go_wp2_with fail
  refine (C3.out _).mono ?_; rintro _ w3 ⟨rfl, h3⟩
  have h3 := h2.trans (h3.mono h2.size)
  clear h2
  go_wp2_with fail
  refine (C4.out _).mono ?_; rintro _ w4 ⟨rfl, h4⟩
  have h4 := h3.trans (h4.mono h3.size)
  clear h3
  have hz : w.heap.size < w4.heap.size := by have := h4.size; simp at this; omega
  have hblk : w4.heap[w.heap.size]? = some (.cells #[.int .i64 0, .bool false, .int .i64 0, .int .i64 0] 224) := by rw [h4.block _ (by simp)]; show (w.heap.push _)[w.heap.size]? = _; simp
  have hbw : Below w.heap.size w w4 := ((Below.refl _ _).alloc (Nat.le_refl _) _).trans (h4.mono (by simp))
  clear h4 C1 C2 C3 C4
  have c0 : w4.cell? ⟨w.heap.size, 0, none⟩ = some (.int .i64 0) := by simp [World.cell?, hblk]
  have c1 : w4.cell? ⟨w.heap.size, 1, none⟩ = some (.bool false) := by simp [World.cell?, hblk]
  have c2 : w4.cell? ⟨w.heap.size, 2, none⟩ = some (.int .i64 0) := by simp [World.cell?, hblk]
  have c3 : w4.cell? ⟨w.heap.size, 3, none⟩ = some (.int .i64 0) := by simp [World.cell?, hblk]
  have fz : ∀ i, w4.frozen? ⟨w.heap.size, i, none⟩ = false := by intro i; simp [World.frozen?, hblk]
  go_wp2
  refine bodyPost_ret (v := .agg #[.int .i64 g, .bool p, .int .i64 c, .int .i64 e]) (by simp [results, Tryz.results158, go_sem, c0, c1, c2, c3]) rfl ⟨rfl, ?_⟩
  exact (((hbw.setCell (Nat.le_refl _) _).setCell (Nat.le_refl _) _).setCell (Nat.le_refl _) _).setCell (Nat.le_refl _) _

set_option maxHeartbeats 1000000 in
theorem ref_any (r : Int) (hr1 : -2147483648 ≤ r) (hr2 : r ≤ 2147483647) (w : World) :
    Calls Tryz.prog 220 #[.int .i32 r] w fun e w' => e = .returned (ofV r) ∧ Below w.heap.size w w' := by
  have C1 := Lib.hid (Gcb.ref_val r hr1 hr2)
  have C2 := Lib.hid (Pict.ref_any r hr1 hr2)
  have C3 := Lib.hid (Conj.ref_val r hr1 hr2)
  have C4 := Lib.hid (East.ref_val r hr1 hr2)
  unfold ofV propV
  generalize Gcb.val r = g at *
  generalize Pict.isB r = p at *
  generalize Conj.val r = c at *
  generalize East.val r = e at *
  go_enter Tryz.func220, Tryz.ntmps220
  go_wp2_with fail
  refine (C1.out _).mono ?_; rintro _ w1 ⟨rfl, h1⟩
  go_wp2_with fail
  refine (C2.out _).mono ?_; rintro _ w2 ⟨rfl, h2⟩
  have h2 := h1.trans (h2.mono h1.size)
  clear h1
  go_wp2_with fail
  refine (C3.out _).mono ?_; rintro _ w3 ⟨rfl, h3⟩
  have h3 := h2.trans (h3.mono h2.size)
  clear h2
  go_wp2_with fail
  refine (C4.out _).mono ?_; rintro _ w4 ⟨rfl, h4⟩
  have h4 := h3.trans (h4.mono h3.size)
  clear h3
  have hz : w.heap.size < w4.heap.size := by have := h4.size; simp at this; omega
  have hblk : w4.heap[w.heap.size]? = some (.cells #[.int .i64 0, .bool false, .int .i64 0, .int .i64 0] 224) := by rw [h4.block _ (by simp)]; show (w.heap.push _)[w.heap.size]? = _; simp
  have hbw : Below w.heap.size w w4 := ((Below.refl _ _).alloc (Nat.le_refl _) _).trans (h4.mono (by simp))
  clear h4 C1 C2 C3 C4
  have c0 : w4.cell? ⟨w.heap.size, 0, none⟩ = some (.int .i64 0) := by simp [World.cell?, hblk]
  have c1 : w4.cell? ⟨w.heap.size, 1, none⟩ = some (.bool false) := by simp [World.cell?, hblk]
  have c2 : w4.cell? ⟨w.heap.size, 2, none⟩ = some (.int .i64 0) := by simp [World.cell?, hblk]
  have c3 : w4.cell? ⟨w.heap.size, 3, none⟩ = some (.int .i64 0) := by simp [World.cell?, hblk]
  have fz : ∀ i, w4.frozen? ⟨w.heap.size, i, none⟩ = false := by intro i; simp [World.frozen?, hblk]
  go_wp2
  refine bodyPost_ret (v := .agg #[.int .i64 g, .bool p, .int .i64 c, .int .i64 e]) (by simp [results, Tryz.results220, go_sem, c0, c1, c2, c3]) rfl ⟨rfl, ?_⟩
  exact (((hbw.setCell (Nat.le_refl _) _).setCell (Nat.le_refl _) _).setCell (Nat.le_refl _) _).setCell (Nat.le_refl _) _

end Go.Proofs.YtjicdcmdgbcdcaaGreatDoor.Ucd
end
section
namespace Go.Proofs.YtjicdcmdgbcdcaaGreatDoor.Seg
set_option linter.unusedSimpArgs false
set_option linter.unusedVariables false
open Go.RowKit Mem

theorem ret_int {k : IntKind} {a b : Int} (h : a = b) : Ending.returned (.int k a) = .returned (.int k b) := by rw [h]
theorem ret_bool {a b : Bool} (h : a = b) : Ending.returned (.bool a) = .returned (.bool b) := by rw [h]

def propV (b : Int) (p : Bool) (c e : Int) : Value := .agg #[.int .i64 b, .bool p, .int .i64 c, .int .i64 e]

set_option maxHeartbeats 1000000 in
theorem picture_any (q : Nat) (s : St) (b : Int) (p : Bool) (c e : Int) (w : World) (h : Hid (At w q s)) :
    Calls Tryz.prog 225 #[.pointer (some ⟨q, 0, none⟩), propV b p c e] w fun e' w' => e' = .returned (.int .i64 (pictS s b p)) ∧ Below w.heap.size w w' := by
  have h2 := h.out.pict
  have hlt := h.out.lt
  clear h
  have H : Hid (pictS s b p = if p then 1 else if s.pict == 1 && b == 4 then 1 else if s.pict == 1 && b == 5 then 2 else 0) := rfl
  unfold propV
  generalize s.pict = pi at *
  cases p
  all_goals
    go_enter Tryz.func225, Tryz.ntmps225
    go_wp2
    all_goals (go_ret; refine ⟨ret_int (by rw [H.out]; simp [*]), (Below.refl _ _).alloc (Nat.le_refl _) _⟩)

set_option maxHeartbeats 1000000 in
theorem conjunct_any (q : Nat) (s : St) (b : Int) (p : Bool) (c e : Int) (w : World) (h : Hid (At w q s)) :
    Calls Tryz.prog 226 #[.pointer (some ⟨q, 0, none⟩), propV b p c e] w fun e' w' => e' = .returned (.int .i64 (conjS s c)) ∧ Below w.heap.size w w' := by
  have h2 := h.out.conj
  have hlt := h.out.lt
  clear h
  have H : Hid (conjS s c = if c == 1 then 1 else if s.conj == 0 then 0 else if c == 2 then 2 else if c == 3 then s.conj else 0) := rfl
  unfold propV
  generalize s.conj = ci at *
  go_enter Tryz.func226, Tryz.ntmps226
  go_wp2
  all_goals (go_ret; refine ⟨ret_int (by rw [H.out]; simp [*]), (Below.refl _ _).alloc (Nat.le_refl _) _⟩)

end Go.Proofs.YtjicdcmdgbcdcaaGreatDoor.Seg
end
section
namespace Go.Proofs.YtjicdcmdgbcdcaaGreatDoor.Scr
set_option linter.unusedSimpArgs false
set_option linter.unusedVariables false
open Go Go.RowKit Mem Turn Ring

/-- block b holds cells of type t -/
def Typ (w : World) (t : TypeId) (b : Nat) : Prop := ∃ cs fr, w.heap[b]? = some (.cells cs t fr)
theorem Typ.of {w : World} {t : TypeId} {b : Nat} {cs : Array Value} {fr : Nat × Nat} (h : w.heap[b]? = some (.cells cs t fr)) : Typ w t b := ⟨cs, fr, h⟩
theorem Typ.lt {w : World} {t : TypeId} {b : Nat} (h : Typ w t b) : b < w.heap.size := by
  obtain ⟨cs, fr, h⟩ := h
  exact (Array.getElem?_eq_some_iff.1 h).1
theorem Typ.not {w : World} {t t' : TypeId} {b : Nat} (h : Typ w t b) (hne : t ≠ t') : ¬ Typ w t' b := by
  rintro ⟨cs', fr', h'⟩
  obtain ⟨cs, fr, h⟩ := h
  rw [h] at h'
  injection h' with h'
  injection h' with _ h'
  exact hne h'
theorem Typ.ne {w : World} {t t' : TypeId} {b b' : Nat} (h : Typ w t b) (h' : Typ w t' b') (hne : t ≠ t') : b ≠ b' := fun e => h.not hne (e ▸ h')
theorem Typ.turn {w w' : World} {T : Nat → Prop} {t : TypeId} {b : Nat} (h : Typ w t b) (ht : Turn T w w') (hn : ¬ T b) : Typ w' t b := by
  obtain ⟨cs, fr, h⟩ := h
  exact ⟨cs, fr, ht.heap h hn⟩

/-- no block of T is of type t -/
def Free (T : Nat → Prop) (w : World) (t : TypeId) : Prop := ∀ b, T b → b < w.heap.size → ¬ Typ w t b
theorem Free.no (w : World) (t : TypeId) : Free (fun _ => False) w t := fun _ h => h.elim

/-- a text that nobody writes: its block is of int32 -/
def TxtAt (w : World) (v : Value) (t : List Int) : Prop := TextAt (Typ w 21) False w v t
theorem TxtAt.turn {w w' : World} {T : Nat → Prop} {v : Value} {t : List Int} (h : TxtAt w v t) (ht : Turn T w w') (hT : Free T w 21) : TxtAt w' v t := by
  have hn : ∀ b, Typ w 21 b → b < w.heap.size → ¬ T b := fun b hb hl hb2 => hT b hb2 hl hb
  obtain ⟨a, c, e, h2, h3, h4⟩ := TextAt.turn h ht hn
  exact ⟨a, c, e, h2, h3, h4.imp id fun ⟨b, off, k1, k2, k3, k4⟩ => ⟨b, off, k1, k2, k3.turn ht (hn b k3 k3.lt), k4⟩⟩
theorem TxtAt.any {w : World} {v : Value} {t : List Int} (h : TxtAt w v t) : TextAt (fun _ => True) False w v t := TextAt.mono h (fun _ _ _ => trivial)
theorem TxtAt.nil (w : World) : TxtAt w (.slice none 0 0) [] := TextAt.nil _ _ _
/-- a slice of the call's own is such a text -/
theorem TxtAt.own {w : World} {base n : Nat} {v : Value} {t : List Int} (h : w.ownsRow base 21 1 v n (t.map (Value.int .i32))) (hs : t.length * 4 ≤ 140737488355328) : TxtAt w v t := by
  have hl : t.length = n := by have := h.1; simp at this; omega
  obtain ⟨a, c, rfl, h2, h3⟩ := own_form h
  subst hl
  refine ⟨a, c, rfl, h2, hs, h3.imp id fun ⟨g, e, e2, hb, hg, hf, hc⟩ => ⟨g, 0, e, hg, ?_, fun j x hx => ⟨by rw [Nat.zero_add]; exact hc j _ (by rw [List.getElem?_map, hx]; rfl), fun f => f.elim⟩⟩⟩
  rcases h.2 with ⟨h5, _⟩ | ⟨g', cap, cur, h5, _, h6, _⟩
  · rw [h5] at e2; cases e2
  · rw [h5] at e2
    injection (show some g' = some g from e2) with e2
    subst e2
    exact ⟨_, _, h6⟩

/-- the texts of cells' rows -/
def Txts (w : World) (rs : List (Int × Value)) (cs : List CellC) : Prop :=
  rs.length = cs.length ∧ ∀ (j : Nat) (r : Int × Value) (x : CellC), rs[j]? = some r → cs[j]? = some x → r.1 = x.1 ∧ TxtAt w r.2 x.2
theorem Txts.turn {w w' : World} {T : Nat → Prop} {rs : List (Int × Value)} {cs : List CellC} (h : Txts w rs cs) (ht : Turn T w w') (hT : Free T w 21) : Txts w' rs cs :=
  ⟨h.1, fun j r x hr hx => ⟨(h.2 j r x hr hx).1, (h.2 j r x hr hx).2.turn ht hT⟩⟩
/-- block κ holds the cells cs -/
def CellsIn (w : World) (κ : Nat) (cs : List CellC) : Prop := ∃ rs, w.heap[κ]? = some (.cells (flatC rs).toArray 80 (0, 0)) ∧ Txts w rs cs
theorem CellsIn.typ {w : World} {κ : Nat} {cs : List CellC} (h : CellsIn w κ cs) : Typ w 80 κ := by
  obtain ⟨rs, h, _⟩ := h
  exact ⟨_, _, h⟩
theorem CellsIn.turn {w w' : World} {T : Nat → Prop} {κ : Nat} {cs : List CellC} (h : CellsIn w κ cs) (ht : Turn T w w') (hT : Free T w 21) (hk : ¬ T κ) : CellsIn w' κ cs := by
  obtain ⟨rs, h1, h2⟩ := h
  exact ⟨rs, ht.heap h1 hk, h2.turn ht hT⟩

/-- a row: its block ρ, its cells' block κ -/
structure RowAt (w : World) (ρ κ : Nat) (l : LineC) : Prop where
  hdr : w.heap[ρ]? = some (.cells #[.slice (some ⟨κ, 0, none⟩) l.1.length l.1.length, .bool l.2] 198 (0, 0))
  cells : CellsIn w κ l.1
  pos : 1 ≤ l.1.length
  le : l.1.length ≤ 1024
theorem RowAt.turn {w w' : World} {T : Nat → Prop} {ρ κ : Nat} {l : LineC} (h : RowAt w ρ κ l) (ht : Turn T w w') (hT : Free T w 21) (h1 : ¬ T ρ) (h2 : ¬ T κ) : RowAt w' ρ κ l := ⟨ht.heap h.hdr h1, h.cells.turn ht hT h2, h.pos, h.le⟩
theorem RowAt.typ {w : World} {ρ κ : Nat} {l : LineC} (h : RowAt w ρ κ l) : Typ w 198 ρ := ⟨_, _, h.hdr⟩
theorem RowAt.ne {w : World} {ρ κ : Nat} {l : LineC} (h : RowAt w ρ κ l) : ρ ≠ κ := h.typ.ne h.cells.typ (by decide)
/-- what a row's own calls turn is no text -/
theorem RowAt.free {w : World} {ρ κ : Nat} {l : LineC} (h : RowAt w ρ κ l) : Free (fun b => b = ρ ∨ b = κ) w 21 := by
  rintro b (rfl | rfl) _
  · exact h.typ.not (by decide)
  · exact h.cells.typ.not (by decide)

end Go.Proofs.YtjicdcmdgbcdcaaGreatDoor.Scr
end
section
namespace Go.Proofs.YtjicdcmdgbcdcaaGreatDoor.Seg
set_option linter.unusedSimpArgs false
set_option linter.unusedVariables false
open Go.RowKit Mem

theorem pjoin (a b : Int) (w : World) : Calls Tryz.prog 275 #[.int .i64 a, .int .i64 b] w fun e w' => e = .returned (.int .i64 (Pairs.pj (Pairs.cls a) (Pairs.cls b))) ∧ w' = w :=
  (Pairs.join_any a b w).mono fun _ _ ⟨h1, h2⟩ => ⟨h1, h2.symm⟩

set_option maxHeartbeats 2000000 in
theorem joins_any (q : Nat) (s : St) (b : Int) (p : Bool) (c e : Int) (w : World) (h : Hid (At w q s)) :
    Calls Tryz.prog 224 #[.pointer (some ⟨q, 0, none⟩), propV b p c e] w fun e' w' => e' = .returned (.bool (joinB s b p c)) ∧ Below w.heap.size w w' := by
  have h0 := h.out.some
  have h1 := h.out.last
  have h2 := h.out.pict
  have h3 := h.out.conj
  have h4 := h.out.odd
  have hlt := h.out.lt
  clear h
  have H : Hid (joinB s b p c = (s.some && ((c == 1 && s.conj == 2) || (p && s.pict == 2) || (Pairs.pj (Pairs.cls s.last) (Pairs.cls b) == 1) || (Pairs.pj (Pairs.cls s.last) (Pairs.cls b) == 2 && s.last == 6 && s.odd)))) := rfl
  unfold propV
  have J := Lib.hid (pjoin s.last b)
  generalize s.pict = pi at *
  generalize s.conj = ci at *
  generalize s.odd = od at *
  generalize Pairs.pj (Pairs.cls s.last) (Pairs.cls b) = j at *
  generalize s.last = la at *
  generalize s.some = so at *
  cases so
  · go_enter Tryz.func224, Tryz.ntmps224
    go_wp2
    go_ret
    exact ⟨ret_bool (by rw [H.out]; rfl), (Below.refl _ _).alloc (Nat.le_refl _) _⟩
  · cases p
    all_goals
      go_enter Tryz.func224, Tryz.ntmps224
      go_wp2
      all_goals
        first
          | (go_ret
             exact ⟨ret_bool (by rw [H.out]; simp [*]), (Below.refl _ _).alloc (Nat.le_refl _) _⟩)
          | (go_quiet ((go_at_call 275; exact Calls.quiet_of_same (J.out _)))
             go_wp2
             all_goals
               go_ret
               exact ⟨ret_bool (by rw [H.out]; simp [*]), ((Below.refl _ _).alloc (Nat.le_refl _) _).trans ((bdrew _ _).mono (by simp))⟩)

end Go.Proofs.YtjicdcmdgbcdcaaGreatDoor.Seg
end
section
namespace Go.Proofs.YtjicdcmdgbcdcaaGreatDoor.Basew
set_option linter.unusedSimpArgs false
set_option linter.unusedVariables false
open Go.RowKit Mem Tab Ucd

theorem ret_int {k : IntKind} {a b : Int} (h : a = b) : Ending.returned (.int k a) = .returned (.int k b) := by rw [h]
theorem ret_bool {a b : Bool} (h : a = b) : Ending.returned (.bool a) = .returned (.bool b) := by rw [h]

def zs : List Int := [1, 2, 3, 4, 5, 10, 11]
def noneB (c : Int) : Bool := c == 1 || c == 2 || c == 3 || c == 4 || c == 5 || c == 10 || c == 11
/-- how wide a class of breaks and an east width make it -/
def bw (b e : Int) : Int := if noneB b then 0 else if e == 1 || e == 2 then 2 else 1
def silentB (r : Int) : Bool := (decide (0 ≤ r) && decide (r ≤ 31)) || (decide (127 ≤ r) && decide (r ≤ 159))

theorem none_any (c : Int) (w : World) :
    Calls Tryz.prog 348 #[.int .i64 c] w fun e w' => e = .returned (.bool (noneB c)) ∧ w = w' := by
  go_enter Tryz.func348, Tryz.ntmps348
  go_wp2
  all_goals (go_ret; exact ⟨ret_bool (by unfold noneB; simp [*]), rfl⟩)

theorem e12 (e : Int) : (e == 1) = true ∨ ((e == 1) = false ∧ (e == 2) = true) ∨ ((e == 1) = false ∧ (e == 2) = false) := by
  by_cases h1 : e = 1
  · simp [h1]
  · by_cases h2 : e = 2 <;> simp [h1, h2]

set_option maxHeartbeats 400000 in
theorem of_any (b : Int) (p : Bool) (c e : Int) (w : World) :
    Calls Tryz.prog 342 #[propV b p c e] w fun e' w' => e' = .returned (.int .i64 (bw b e)) ∧ Below w.heap.size w w' := by
  unfold propV
  have hb : bw b e = if noneB b then 0 else if e == 1 || e == 2 then 2 else 1 := rfl
  have H := Lib.hid hb
  clear hb
  rcases e12 e with h1 | ⟨h1, h2⟩ | ⟨h1, h2⟩
  all_goals
   go_enter Tryz.func342, Tryz.ntmps342
   go_wp2_with (go_at_call 348; refine (none_any _ _).mono ?_; rintro e w' ⟨rfl, rfl⟩)
   all_goals (go_ret; refine ⟨ret_int (by rw [H.out]; simp [*]), (Below.refl _ _).alloc (Nat.le_refl _) _⟩)

theorem noneB_zs (b : Int) : noneB b = zs.any fun z => b == z := by simp [noneB, zs, Bool.or_assoc]

set_option maxHeartbeats 2000000 in
theorem ref_any (b : Int) (p : Bool) (c e : Int) (w : World) :
    Calls Tryz.prog 273 #[propV b p c e] w fun e' w' => e' = .returned (.int .i64 (bw b e)) ∧ Below w.heap.size w w' := by
  unfold propV
  have hb : bw b e = if noneB b then 0 else if e == 1 || e == 2 then 2 else 1 := rfl
  have H := Lib.hid hb
  clear hb
  go_enter Tryz.func273, Tryz.ntmps273
  go_wp2
  have K0 : Blk ((w.alloc (.cells #[.int .i64 b, .bool p, .int .i64 c, .int .i64 e] 224)).alloc (.cells #[.int .i64 1, .int .i64 2, .int .i64 3, .int .i64 4, .int .i64 5, .int .i64 10, .int .i64 11] 3)) w.heap.size [.int .i64 b, .bool p, .int .i64 c, .int .i64 e] :=
    (Blk.alloc w _ _ (0, 0) [.int .i64 b, .bool p, .int .i64 c, .int .i64 e] rfl).below ((Below.refl _ _).alloc (Nat.le_refl _) _) (by simp)
  have K1 : Blk ((w.alloc (.cells #[.int .i64 b, .bool p, .int .i64 c, .int .i64 e] 224)).alloc (.cells #[.int .i64 1, .int .i64 2, .int .i64 3, .int .i64 4, .int .i64 5, .int .i64 10, .int .i64 11] 3)) (w.heap.size + 1) (zs.map (Value.int .i64)) := by
    have h := Blk.alloc (w.alloc (.cells #[.int .i64 b, .bool p, .int .i64 c, .int .i64 e] 224)) #[.int .i64 1, .int .i64 2, .int .i64 3, .int .i64 4, .int .i64 5, .int .i64 10, .int .i64 11] 3 (0, 0) (zs.map (Value.int .i64)) rfl
    simpa using h
  have BW : Below w.heap.size w ((w.alloc (.cells #[.int .i64 b, .bool p, .int .i64 c, .int .i64 e] 224)).alloc (.cells #[.int .i64 1, .int .i64 2, .int .i64 3, .int .i64 4, .int .i64 5, .int .i64 10, .int .i64 11] 3)) :=
    ((Below.refl _ _).alloc (Nat.le_refl _) _).alloc (by simp) _
  generalize ((w.alloc (.cells #[.int .i64 b, .bool p, .int .i64 c, .int .i64 e] 224)).alloc (.cells #[.int .i64 1, .int .i64 2, .int .i64 3, .int .i64 4, .int .i64 5, .int .i64 10, .int .i64 11] 3)) = W at *
  have HK0 := Lib.hid K0
  have HK1 := Lib.hid K1
  have HBW := Lib.hid BW
  clear K0 K1 BW
  go_loopw [4] (fun i wr => ∃ k : Nat, k ≤ 7 ∧ i = .int .i64 k ∧ Hid ((∀ z ∈ zs.take k, (b == z) = false) ∧ Blk wr w.heap.size [.int .i64 b, .bool p, .int .i64 c, .int .i64 e] ∧ Blk wr (w.heap.size + 1) (zs.map (Value.int .i64)) ∧ Below w.heap.size w wr)) (fun i _ => 7 - (intOf i).toNat)
  case atStart => exact ⟨0, by omega, rfl, by simp, HK0.out, HK1.out, HBW.out⟩
  case round =>
    obtain ⟨k, hk, rfl, HR⟩ := hrel
    have c0 := HR.out.2.1.cell 0 _ rfl
    have c3 := HR.out.2.1.cell 3 _ rfl
    by_cases hlt : k < 7
    · obtain ⟨z, hz⟩ : ∃ z, zs[k]? = some z := ⟨_, List.getElem?_eq_getElem (by simpa [zs] using hlt)⟩
      have ck := HR.out.2.2.1.cell k (.int .i64 z) (by rw [List.getElem?_map, hz]; rfl)
      have HZ := Lib.hid hz
      have hlt' : (k : Int) < 7 := by omega
      clear hz
      by_cases hbz : b = z
      · have ebz : (b == z) = true := by simp [hbz]
        have HN : Hid (noneB b = true) := by
          rw [noneB_zs]
          exact List.any_eq_true.2 ⟨z, List.mem_iff_getElem?.2 ⟨k, HZ.out⟩, ebz⟩
        clear hbz
        go_wp2
        go_quiet (fail)
        go_wp2
        go_ret
        exact ⟨ret_int (by rw [H.out, HN.out]; rfl), HR.out.2.2.2.trans ((bdrew _ _).mono HR.out.2.2.2.size)⟩
      · have ebz : (b == z) = false := by simp [hbz]
        clear hbz
        go_wp2
        go_quiet (fail)
        go_wp2
        go_roundw
        case rel =>
          refine ⟨k + 1, by omega, by go_num, ?_, HR.out.2.1, HR.out.2.2.1, HR.out.2.2.2.trans ((bdrew _ _).mono HR.out.2.2.2.size)⟩
          intro y hy
          rw [List.take_add_one, HZ.out] at hy
          rcases List.mem_append.1 hy with h | h
          · exact HR.out.1 y h
          · simp at h; subst h; exact ebz
        case measure => simp [intOf]; omega
    · obtain rfl : k = 7 := by omega
      have HN : Hid (noneB b = false) := by
        rw [noneB_zs]
        exact List.any_eq_false.2 fun z hz => by have := HR.out.1 z (by rw [List.take_of_length_le (by simp [zs])]; exact hz); simp [this]
      rcases e12 e with h1 | ⟨h1, h2⟩ | ⟨h1, h2⟩
      all_goals
        go_wp2
        go_ret
        exact ⟨ret_int (by rw [H.out, HN.out]; simp [*]), HR.out.2.2.2⟩

theorem sil_cases (r : Int) :
    (decide (0 ≤ r) = true ∧ decide (r < 32) = true ∧ decide (r ≤ 31) = true ∧ silentB r = true) ∨
    (decide (0 ≤ r) = true ∧ decide (r < 32) = false ∧ decide (r ≤ 31) = false ∧ decide (127 ≤ r) = true ∧ decide (r ≤ 159) = true ∧ silentB r = true) ∨
    (decide (0 ≤ r) = true ∧ decide (r < 32) = false ∧ decide (r ≤ 31) = false ∧ decide (127 ≤ r) = true ∧ decide (r ≤ 159) = false ∧ silentB r = false) ∨
    (decide (0 ≤ r) = true ∧ decide (r < 32) = false ∧ decide (r ≤ 31) = false ∧ decide (127 ≤ r) = false ∧ True ∧ silentB r = false) ∨
    (decide (0 ≤ r) = false ∧ decide (127 ≤ r) = false ∧ True ∧ silentB r = false) := by
  unfold silentB
  simp
  omega

set_option maxHeartbeats 400000 in
theorem silent_any (r : Int) (w : World) : Calls Tryz.prog 164 #[.int .i32 r] w fun e w' => e = .returned (.bool (silentB r)) ∧ w = w' := by
  rcases sil_cases r with ⟨d1, d2, d3, h⟩ | ⟨d1, d2, d3, d4, d5, h⟩ | ⟨d1, d2, d3, d4, d5, h⟩ | ⟨d1, d2, d3, d4, d5, h⟩ | ⟨d1, d2, d3, h⟩
  all_goals
    rw [h]
    clear h
    go_enter Tryz.func164, Tryz.ntmps164
    go_wp2
    go_ret
    exact ⟨rfl, rfl⟩

set_option maxHeartbeats 400000 in
theorem rsilent_any (r : Int) (w : World) : Calls Tryz.prog 104 #[.int .i32 r] w fun e w' => e = .returned (.bool (silentB r)) ∧ w = w' := by
  rcases sil_cases r with ⟨d1, d2, d3, h⟩ | ⟨d1, d2, d3, d4, d5, h⟩ | ⟨d1, d2, d3, d4, d5, h⟩ | ⟨d1, d2, d3, d4, d5, h⟩ | ⟨d1, d2, d3, h⟩
  all_goals
    rw [h]
    clear h
    go_enter Tryz.func104, Tryz.ntmps104
    go_wp2
    go_ret
    exact ⟨rfl, rfl⟩

end Go.Proofs.YtjicdcmdgbcdcaaGreatDoor.Basew
end
section
namespace Go.Proofs.YtjicdcmdgbcdcaaGreatDoor.Seg
set_option linter.unusedSimpArgs false
set_option linter.unusedVariables false
open Go.RowKit Mem

def StepPost (q : Nat) (j : Bool) (s' : St) (w : World) (e : Ending) (w' : World) : Prop :=
  e = .returned (.bool j) ∧ At w' q s' ∧ But q w w'

set_option maxHeartbeats 4000000 in
theorem step_core (q : Nat) (s : St) (b : Int) (p : Bool) (c e : Int) (w : World) (h : At w q s) (jo : Bool) (s' : St) (HJO : Hid (joinB s b p c = jo)) (HX : Hid (next s b p c = s')) :
    Calls Tryz.prog 157 #[.pointer (some ⟨q, 0, none⟩), propV b p c e] w (StepPost q jo s' w) := by
  have hlt := h.lt
  have A1 : At (w.alloc (.cells #[.int .i64 b, .bool p, .int .i64 c, .int .i64 e] 224)) q s := h.below ((Below.refl _ _).alloc (Nat.le_refl _) _)
  have B1 : Below w.heap.size w (w.alloc (.cells #[.int .i64 b, .bool p, .int .i64 c, .int .i64 e] 224)) := (Below.refl _ _).alloc (Nat.le_refl _) _
  have K0 : Blk (w.alloc (.cells #[.int .i64 b, .bool p, .int .i64 c, .int .i64 e] 224)) w.heap.size [.int .i64 b, .bool p, .int .i64 c, .int .i64 e] := Blk.alloc _ _ _ _ _ rfl
  have S1 : (w.alloc (.cells #[.int .i64 b, .bool p, .int .i64 c, .int .i64 e] 224)).heap.size = w.heap.size + 1 := by simp
  have HA := Lib.hid A1
  have HB := Lib.hid B1
  have HK := Lib.hid K0
  have HS := Lib.hid S1
  have HJ : Hid (∀ w, Hid (At w q s) → Calls Tryz.prog 224 #[.pointer (some ⟨q, 0, none⟩), propV b p c e] w fun e' w' => e' = .returned (.bool jo) ∧ Below w.heap.size w w') := by
    rw [← HJO.out]; exact joins_any q s b p c e
  have HP := Lib.hid (picture_any q s b p c e)
  have HC := Lib.hid (conjunct_any q s b p c e)
  have HX : Hid (s' = ⟨true, b, pictS s b p, conjS s c, oddS s b⟩) := HX.out.symm
  clear A1 B1 K0 S1 h
  unfold propV at *
  go_enter Tryz.func157, Tryz.ntmps157
  go_wp2_with fail
  generalize w.alloc (.cells #[.int .i64 b, .bool p, .int .i64 c, .int .i64 e] 224) = w1 at *
  refine (HJ.out _ HA.out).mono ?_
  rintro e' w2 ⟨rfl, hb2⟩
  have HA2 := Lib.hid (HA.out.below hb2)
  have HB2 := Lib.hid (HB.out.trans (hb2.mono (HB.out.size)))
  have HK2 := Lib.hid (HK.out.below hb2 HK.out.lt)
  clear HA HB HK hb2 HJ HS
  have p0 := HK2.out.cell 0 _ rfl
  have p1 := HK2.out.cell 1 _ rfl
  have p2 := HK2.out.cell 2 _ rfl
  have p3 := HK2.out.cell 3 _ rfl
  go_wp2_with fail
  have HD := Lib.hid ((Below.refl w2.heap.size w2).drew)
  have hwl := HK2.out.lt
  go_region_with (first
    | (go_at_call 225; refine (HP.out _ ?_).mono ?_; exact HA2.out; rintro e' w3 ⟨rfl, hb3⟩; have hb3 := HD.out.trans hb3; have HA3 := Lib.hid (HA2.out.below hb3); have HK3 := Lib.hid (HK2.out.below hb3 hwl); have HB3 := Lib.hid (HB2.out.trans (hb3.mono HB2.out.size)); have hwl3 := HK3.out.lt; clear p0 p1 p2 p3 hb3; have p0 := HK3.out.cell 0 _ rfl; have p1 := HK3.out.cell 1 _ rfl; have p2 := HK3.out.cell 2 _ rfl; have p3 := HK3.out.cell 3 _ rfl)
    | (go_at_call 226; refine (HC.out _ ?_).mono ?_; exact HA3.out; rintro e' w4 ⟨rfl, hb4⟩; have HA4 := Lib.hid (HA3.out.below hb4); have HK4 := Lib.hid (HK3.out.below hb4 hwl3); have HB4 := Lib.hid (HB3.out.trans (hb4.mono HB3.out.size)); clear p0 p1 p2 p3 hb4; have p0 := HK4.out.cell 0 _ rfl; have p1 := HK4.out.cell 1 _ rfl; have p2 := HK4.out.cell 2 _ rfl; have p3 := HK4.out.cell 3 _ rfl; have k2 := HA4.out.pict; have k3 := HA4.out.conj; have z2 := HA4.out.frozen 2; have z3 := HA4.out.frozen 3))
  all_goals
    have HA5 := Lib.hid ((HA4.out.set_pict (pictS s b p)).set_conj (conjS s c))
    have HB5 := Lib.hid (((But.of_below HB4.out).setCell (q := q) 2 (.int .i64 (pictS s b p))).setCell 3 (.int .i64 (conjS s c)))
    have HK5 := Lib.hid ((HK4.out.setCell (q := q) (by omega) 2 (.int .i64 (pictS s b p))).setCell (q := q) (by omega) 3 (.int .i64 (conjS s c)))
    generalize (w4.setCell ⟨q, 2, none⟩ (.int .i64 (pictS s b p))).setCell ⟨q, 3, none⟩ (.int .i64 (conjS s c)) = w5 at *
    clear HA4 HB4 HK4 HA3 HK3 HB3 HA2 HK2 HB2 p0 p1 p2 p3 k2 k3 z2 z3 HP HC HD hwl hwl3
    have p0 := HK5.out.cell 0 _ rfl
    have s0 := HA5.out.some
    have s1 := HA5.out.last
    have s4 := HA5.out.odd
    have z4 := HA5.out.frozen 4
    simp only at s0 s1 s4
    have HO : Hid (oddS s b = (b == 6 && !(s.some && s.last == 6 && s.odd))) := rfl
    go_wp2
    · have e6 : oddS s b = (!s.odd) := by rw [HO.out]; simp [*]
      have HE := Lib.hid e6
      clear e6
      have HA6 := Lib.hid (HA5.out.set_odd (!s.odd))
      have HB6 := Lib.hid (HB5.out.setCell 4 (.bool (!s.odd)))
      have HK6 := Lib.hid (HK5.out.setCell (q := q) (by omega) 4 (.bool (!s.odd)))
      clear HA5 HB5 HK5 p0 s0 s1 s4 z4 HO
      generalize w5.setCell ⟨q, 4, none⟩ (.bool (!s.odd)) = w6 at *
      have p0 := HK6.out.cell 0 _ rfl
      have y0 := HA6.out.some
      have y1 := HA6.out.last
      have z0 := HA6.out.frozen 0
      have z1 := HA6.out.frozen 1
      simp only at y0 y1
      go_region
      all_goals
        go_wp2
        go_ret
        refine ⟨rfl, ?_, ?_⟩
        · rw [HX.out, HE.out]; first | exact (HA6.out.set_some true).set_last b | (have hb6 : b = 6 := (by assumption); have T2 := (HA6.out.set_some true).set_last b; rw [hb6] at T2 ⊢; exact T2)
        · exact ((HB6.out.trans (But.of_below ((Below.refl _ _).drew))).setCell 0 (.bool true)).setCell 1 _
    · have e6 : oddS s b = (true) := by rw [HO.out]; simp [*]
      have HE := Lib.hid e6
      clear e6
      have HA6 := Lib.hid (HA5.out.set_odd (true))
      have HB6 := Lib.hid (HB5.out.setCell 4 (.bool (true)))
      have HK6 := Lib.hid (HK5.out.setCell (q := q) (by omega) 4 (.bool (true)))
      clear HA5 HB5 HK5 p0 s0 s1 s4 z4 HO
      generalize w5.setCell ⟨q, 4, none⟩ (.bool (true)) = w6 at *
      have p0 := HK6.out.cell 0 _ rfl
      have y0 := HA6.out.some
      have y1 := HA6.out.last
      have z0 := HA6.out.frozen 0
      have z1 := HA6.out.frozen 1
      simp only at y0 y1
      go_region
      all_goals
        go_wp2
        go_ret
        refine ⟨rfl, ?_, ?_⟩
        · rw [HX.out, HE.out]; first | exact (HA6.out.set_some true).set_last b | (have hb6 : b = 6 := (by assumption); have T2 := (HA6.out.set_some true).set_last b; rw [hb6] at T2 ⊢; exact T2)
        · exact ((HB6.out.trans (But.of_below ((Below.refl _ _).drew))).setCell 0 (.bool true)).setCell 1 _
    · have e6 : oddS s b = (true) := by rw [HO.out]; simp [*]
      have HE := Lib.hid e6
      clear e6
      have HA6 := Lib.hid (HA5.out.set_odd (true))
      have HB6 := Lib.hid (HB5.out.setCell 4 (.bool (true)))
      have HK6 := Lib.hid (HK5.out.setCell (q := q) (by omega) 4 (.bool (true)))
      clear HA5 HB5 HK5 p0 s0 s1 s4 z4 HO
      generalize w5.setCell ⟨q, 4, none⟩ (.bool (true)) = w6 at *
      have p0 := HK6.out.cell 0 _ rfl
      have y0 := HA6.out.some
      have y1 := HA6.out.last
      have z0 := HA6.out.frozen 0
      have z1 := HA6.out.frozen 1
      simp only at y0 y1
      go_region
      all_goals
        go_wp2
        go_ret
        refine ⟨rfl, ?_, ?_⟩
        · rw [HX.out, HE.out]; first | exact (HA6.out.set_some true).set_last b | (have hb6 : b = 6 := (by assumption); have T2 := (HA6.out.set_some true).set_last b; rw [hb6] at T2 ⊢; exact T2)
        · exact ((HB6.out.trans (But.of_below ((Below.refl _ _).drew))).setCell 0 (.bool true)).setCell 1 _
    · have e6 : oddS s b = (false) := by rw [HO.out]; simp [*]
      have HE := Lib.hid e6
      clear e6
      have HA6 := Lib.hid (HA5.out.set_odd (false))
      have HB6 := Lib.hid (HB5.out.setCell 4 (.bool (false)))
      have HK6 := Lib.hid (HK5.out.setCell (q := q) (by omega) 4 (.bool (false)))
      clear HA5 HB5 HK5 p0 s0 s1 s4 z4 HO
      generalize w5.setCell ⟨q, 4, none⟩ (.bool (false)) = w6 at *
      have p0 := HK6.out.cell 0 _ rfl
      have y0 := HA6.out.some
      have y1 := HA6.out.last
      have z0 := HA6.out.frozen 0
      have z1 := HA6.out.frozen 1
      simp only at y0 y1
      go_region
      all_goals
        go_wp2
        go_ret
        refine ⟨rfl, ?_, ?_⟩
        · rw [HX.out, HE.out]; first | exact (HA6.out.set_some true).set_last b | (have hb6 : b = 6 := (by assumption); have T2 := (HA6.out.set_some true).set_last b; rw [hb6] at T2 ⊢; exact T2)
        · exact ((HB6.out.trans (But.of_below ((Below.refl _ _).drew))).setCell 0 (.bool true)).setCell 1 _

theorem step_any (q : Nat) (s : St) (b : Int) (p : Bool) (c e : Int) (w : World) (h : At w q s) :
    Calls Tryz.prog 157 #[.pointer (some ⟨q, 0, none⟩), propV b p c e] w (StepPost q (joinB s b p c) (next s b p c) w) :=
  step_core q s b p c e w h _ _ (Lib.hid rfl) (Lib.hid rfl)

end Go.Proofs.YtjicdcmdgbcdcaaGreatDoor.Seg
end
section
namespace Go.Proofs.YtjicdcmdgbcdcaaGreatDoor.Seg
set_option linter.unusedSimpArgs false
set_option linter.unusedVariables false
open Go.RowKit Mem

theorem But.blk {q : Nat} {w w' : World} (h : But q w w') {g : Nat} {xs : List Value} (hk : Blk w g xs) (hn : g ≠ q) : Blk w' g xs := by
  have hl := hk.lt
  obtain ⟨T, fr, hk⟩ := hk
  exact ⟨T, fr, by rw [h.block g hl hn]; exact hk⟩

theorem But.at {q : Nat} {w w' : World} (h : But q w w') {g : Nat} {s : St} (hk : At w g s) (hn : g ≠ q) : At w' g s := by
  have hl := hk.lt
  obtain ⟨T, hk⟩ := hk
  exact ⟨T, by rw [h.block g hl hn]; exact hk⟩

theorem at_new (w : World) (T : TypeId) : At (w.alloc (.cells #[.bool false, .int .i64 0, .int .i64 0, .int .i64 0, .bool false] T)) w.heap.size zero := ⟨T, by show (w.heap.push _)[w.heap.size]? = _; simp [zero]⟩
theorem At.up {w : World} {q : Nat} {s : St} (h : At w q s) (o : Obj) : At (w.alloc o) q s := h.below ((Below.refl _ _).alloc (Nat.le_refl _) _)
theorem blk_new (w : World) (c : Array Value) (T : TypeId) (k : Nat) (hk : k = w.heap.size) : Blk (w.alloc (.cells c T)) k c.toList := by subst hk; exact Blk.alloc w c T (0, 0) c.toList rfl
theorem _root_.Go.Proofs.YtjicdcmdgbcdcaaGreatDoor.Mem.Blk.up {w : World} {k : Nat} {xs : List Value} (h : Blk w k xs) (o : Obj) : Blk (w.alloc o) k xs := h.below ((Below.refl w.heap.size w).alloc (Nat.le_refl _) _) h.lt

/-- one property -/
structure P4 where
  br : Int
  pi : Bool
  co : Int
  ea : Int

/-- a slice of properties that came in: its cells -/
def IsProps (w : World) (a : Option Addr) (len cap : Nat) (ps : Nat → P4) : Prop :=
  len = 0 ∨
  ∃ b off, a = some ⟨b, off, none⟩ ∧ len ≤ cap ∧ cap ≤ maxLen ∧ b < w.heap.size ∧ ∀ i, i < len → w.cell? ⟨b, off + i * 4, none⟩ = some (.int .i64 (ps i).br) ∧ w.cell? ⟨b, off + i * 4 + 1, none⟩ = some (.bool (ps i).pi) ∧
    w.cell? ⟨b, off + i * 4 + 2, none⟩ = some (.int .i64 (ps i).co) ∧ w.cell? ⟨b, off + i * 4 + 3, none⟩ = some (.int .i64 (ps i).ea)

theorem step_agg (q : Nat) (s : St) (b : Int) (p : Bool) (c e : Int) (w : World) (h : At w q s) :
    Calls Tryz.prog 157 #[.pointer (some ⟨q, 0, none⟩), .agg #[.int .i64 b, .bool p, .int .i64 c, .int .i64 e]] w (StepPost q (joinB s b p c) (next s b p c) w) := step_any q s b p c e w h

/-- the cells of a slice of properties, in some world -/
def Cells (w : World) (b off len : Nat) (ps : Nat → P4) : Prop :=
  ∀ i, i < len → w.cell? ⟨b, off + i * 4, none⟩ = some (.int .i64 (ps i).br) ∧ w.cell? ⟨b, off + i * 4 + 1, none⟩ = some (.bool (ps i).pi) ∧
    w.cell? ⟨b, off + i * 4 + 2, none⟩ = some (.int .i64 (ps i).co) ∧ w.cell? ⟨b, off + i * 4 + 3, none⟩ = some (.int .i64 (ps i).ea)

theorem Cells.below {w w' : World} {b off len : Nat} {ps : Nat → P4} (h : Cells w b off len ps) (hb : Below w.heap.size w w') (hl : b < w.heap.size) : Cells w' b off len ps := by
  intro i hi
  obtain ⟨h1, h2, h3, h4⟩ := h i hi
  exact ⟨(hb.cell (p := ⟨b, _, none⟩) hl).trans h1, (hb.cell (p := ⟨b, _, none⟩) hl).trans h2, (hb.cell (p := ⟨b, _, none⟩) hl).trans h3, (hb.cell (p := ⟨b, _, none⟩) hl).trans h4⟩

end Go.Proofs.YtjicdcmdgbcdcaaGreatDoor.Seg
end

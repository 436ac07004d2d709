/-
  row.put, Wide, kind, Wrap, GoOn.
  cluster.Cluster within a begun cluster, from cell 4 on: Len, Full, Add, Text.
  row.put.
  scalar.Valid, cell.Right.
  cell.Right, cell.Sound, cell.Blanks, row.New.
-/
import Derived.Test.YtjicdcmdgbcdcaaGreatDoorCd10
import Derived.Deep.MidRow
section
namespace Go.Proofs.YtjicdcmdgbcdcaaGreatDoor.Scr
set_option linter.unusedSimpArgs false
set_option linter.unusedVariables false
open Go Go.RowKit Mem Turn Ring

theorem flatC_set {l : List (Int × Value)} {k : Nat} (r : Int × Value) (h : k < l.length) : ((flatC l).set (k * 2) (.int .i64 r.1)).set (k * 2 + 1) r.2 = flatC (l.set k r) := by
  induction l generalizing k with
  | nil => cases h
  | cons x l ih =>
    cases k with
    | zero => simp [flatC]
    | succ k =>
      have := ih (k := k) (by simpa using h)
      rw [show (k + 1) * 2 = k * 2 + 1 + 1 from by omega, show k * 2 + 1 + 1 + 1 = (k * 2 + 1) + 1 + 1 from by omega]
      simp [flatC, this]
theorem flatC_getD {l : List (Int × Value)} {k : Nat} (h : k < l.length) : ∃ r, l[k]? = some r := ⟨_, List.getElem?_eq_getElem h⟩

theorem heap_set1 {w : World} {q : Nat} {cs : List Value} {t : TypeId} {fr : Nat × Nat} (h : w.heap[q]? = some (.cells cs.toArray t fr)) (i : Nat) (v : Value) : (w.setCell ⟨q, i, none⟩ v).heap[q]? = some (.cells (cs.set i v).toArray t fr) := by
  simp only [World.setCell, Array.getElem?_modify]
  rw [if_pos trivial, h]
  simp

/-- the two stores of a cell -/
def putW (w : World) (κ i : Nat) (k : Int) (v : Value) : World := (w.setCell ⟨κ, i * 2, none⟩ (.int .i64 k)).setCell ⟨κ, i * 2 + 1, none⟩ v
theorem putW_turn (w : World) (κ i : Nat) (k : Int) (v : Value) : Turn (fun b => b = κ) w (putW w κ i k v) :=
  (Turn.setCell (T := fun b => b = κ) (p := ⟨κ, i * 2, none⟩) w _ rfl).trans (Turn.setCell (T := fun b => b = κ) (p := ⟨κ, i * 2 + 1, none⟩) _ v rfl)
theorem CellsIn.put {w : World} {κ i : Nat} {cs : List CellC} {k : Int} {v : Value} {t : List Int} (h : CellsIn w κ cs) (hi : i < cs.length) (hv : TxtAt w v t) : CellsIn (putW w κ i k v) κ (cs.set i (k, t)) := by
  have hf : Free (fun b => b = κ) w 21 := fun b e _ => by subst e; exact h.typ.not (by decide)
  have hv' := hv.turn (putW_turn w κ i k v) hf
  obtain ⟨rs, h1, h2⟩ := h
  have h2' := h2.turn (putW_turn w κ i k v) hf
  refine ⟨rs.set i (k, v), ?_, by rw [List.length_set, List.length_set, h2.1], fun j r x hr hx => ?_⟩
  · unfold putW
    rw [heap_set1 (heap_set1 h1 _ _) _ _, flatC_set (k, v) (by rw [h2.1]; exact hi)]
  · by_cases hj : i = j
    · subst hj
      rw [List.getElem?_set_self (by rw [h2.1]; exact hi)] at hr
      rw [List.getElem?_set_self hi] at hx
      injection hr with hr
      injection hx with hx
      subst hr hx
      exact ⟨rfl, hv'⟩
    · rw [List.getElem?_set_ne hj] at hr hx
      exact h2'.2 j r x hr hx
theorem CellsIn.cell {w : World} {κ i : Nat} {cs : List CellC} (h : CellsIn w κ cs) (hi : i < cs.length) : ∃ v, w.cell? ⟨κ, i * 2, none⟩ = some (.int .i64 (cs.getD i blank).1) ∧ w.cell? ⟨κ, i * 2 + 1, none⟩ = some v ∧ TxtAt w v (cs.getD i blank).2 ∧ w.frozen? ⟨κ, i * 2, none⟩ = false ∧ w.frozen? ⟨κ, i * 2 + 1, none⟩ = false := by
  obtain ⟨rs, h1, h2⟩ := h
  obtain ⟨r, hr⟩ := flatC_getD (l := rs) (k := i) (by rw [h2.1]; exact hi)
  have hx : cs[i]? = some (cs.getD i blank) := by rw [List.getD_eq_getElem?_getD, List.getElem?_eq_getElem hi]; rfl
  obtain ⟨e1, e2⟩ := h2.2 i r _ hr hx
  obtain ⟨g1, g2⟩ := flatC_get hr
  refine ⟨r.2, ?_, ?_, e2, by simp [World.frozen?, h1], by simp [World.frozen?, h1]⟩
  · rw [← e1]; simp [World.cell?, h1, g1]
  · simp [World.cell?, h1, g2]
theorem RowAt.hdr0 {w : World} {ρ κ : Nat} {l : LineC} (h : RowAt w ρ κ l) : w.cell? ⟨ρ, 0, none⟩ = some (.slice (some ⟨κ, 0, none⟩) l.1.length l.1.length) ∧ w.cell? ⟨ρ, 1, none⟩ = some (.bool l.2) ∧ w.frozen? ⟨ρ, 1, none⟩ = false := by
  have := h.hdr
  exact ⟨by simp [World.cell?, this], by simp [World.cell?, this], by simp [World.frozen?, this]⟩

theorem wide_any (ρ κ : Nat) (l : LineC) (w : World) (h : RowAt w ρ κ l) : Calls Tryz.prog 77 #[.pointer (some ⟨ρ, 0, none⟩)] w fun e w' => e = .returned (.int .i64 (l.1.length : Int)) ∧ w = w' := by
  obtain ⟨c0, _, _⟩ := h.hdr0
  generalize l.1.length = n at *
  clear h
  go_enter Tryz.func77, Tryz.ntmps77
  go_wp2
  go_ret
  exact ⟨rfl, rfl⟩
theorem wrap_any (ρ κ : Nat) (l : LineC) (w : World) (h : RowAt w ρ κ l) : Calls Tryz.prog 79 #[.pointer (some ⟨ρ, 0, none⟩)] w fun e w' => e = .returned (.bool l.2) ∧ w = w' := by
  obtain ⟨_, c1, _⟩ := h.hdr0
  generalize l.2 = b at *
  clear h
  go_enter Tryz.func79, Tryz.ntmps79
  go_wp2
  go_ret
  exact ⟨rfl, rfl⟩
theorem RowAt.wrap {w : World} {ρ κ : Nat} {l : LineC} (h : RowAt w ρ κ l) (b : Bool) : RowAt (w.setCell ⟨ρ, 1, none⟩ (.bool b)) ρ κ (l.1, b) := by
  have T : Turn (fun j => j = ρ) w (w.setCell ⟨ρ, 1, none⟩ (.bool b)) := Turn.setCell _ _ rfl
  refine ⟨?_, h.cells.turn T (fun j e _ => by subst e; exact h.typ.not (by decide)) (fun e => h.ne e.symm), h.pos, h.le⟩
  have := heap_set1 (cs := [.slice (some ⟨κ, 0, none⟩) l.1.length l.1.length, .bool l.2]) (t := 198) (fr := (0, 0)) h.hdr 1 (.bool b)
  simpa using this
theorem goOn_any (ρ κ : Nat) (l : LineC) (b : Bool) (w : World) (h : RowAt w ρ κ l) : Calls Tryz.prog 189 #[.pointer (some ⟨ρ, 0, none⟩), .bool b] w fun e w' => e = .returned (.tuple #[]) ∧ RowAt w' ρ κ (l.1, b) ∧ Turn (fun j => j = ρ) w w' := by
  obtain ⟨_, c1, f1⟩ := h.hdr0
  have HX : Hid (RowAt (w.setCell ⟨ρ, 1, none⟩ (.bool b)) ρ κ (l.1, b) ∧ Turn (fun j => j = ρ) w (w.setCell ⟨ρ, 1, none⟩ (.bool b))) := Lib.hid ⟨h.wrap b, Turn.setCell _ _ rfl⟩
  clear h
  go_enter Tryz.func189, Tryz.ntmps189
  go_wp2
  go_end0
  exact ⟨rfl, HX.out.1, HX.out.2⟩
theorem goOn_nil (b : Bool) (w : World) : Calls Tryz.prog 189 #[.pointer none, .bool b] w fun e w' => e = .returned (.tuple #[]) ∧ w = w' := by
  go_enter Tryz.func189, Tryz.ntmps189
  go_wp2
  go_end0
  exact ⟨rfl, rfl⟩
theorem kind_in (ρ κ i : Nat) (l : LineC) (w : World) (h : RowAt w ρ κ l) (hi : i < l.1.length) : Calls Tryz.prog 288 #[.pointer (some ⟨ρ, 0, none⟩), .int .i64 (i : Int)] w fun e w' => e = .returned (.int .i64 (kindAt l.1 i)) ∧ w = w' := by
  obtain ⟨c0, _, _⟩ := h.hdr0
  obtain ⟨v, k0, _⟩ := h.cells.cell hi
  have HW := Lib.hid (wide_any ρ κ l w h)
  have hle := h.le
  unfold kindAt
  generalize (l.1.getD i blank).1 = k at *
  generalize l.1.length = n at *
  have d1 : decide ((n : Int) ≤ (i : Int)) = false := decide_eq_false (by omega)
  have d2 : decide (n ≤ i) = false := decide_eq_false (by omega)
  clear h
  go_enter Tryz.func288, Tryz.ntmps288
  go_wp2_with fail
  refine HW.out.mono ?_
  rintro e w1 ⟨rfl, rfl⟩
  go_wp2_with fail
  go_ret
  exact ⟨rfl, rfl⟩
theorem kind_out (ρ κ : Nat) (i : Int) (l : LineC) (w : World) (h : RowAt w ρ κ l) (hi : i < 0 ∨ (l.1.length : Int) ≤ i) : Calls Tryz.prog 288 #[.pointer (some ⟨ρ, 0, none⟩), .int .i64 i] w fun e w' => e = .returned (.int .i64 0) ∧ w = w' := by
  have HW := Lib.hid (wide_any ρ κ l w h)
  generalize l.1.length = n at *
  clear h
  by_cases h0 : i < 0
  · go_enter Tryz.func288, Tryz.ntmps288
    go_wp2_with fail
    go_ret
    exact ⟨rfl, rfl⟩
  · have d1 : decide ((n : Int) ≤ i) = true := decide_eq_true (by omega)
    have h1 : 0 ≤ i := by omega
    go_enter Tryz.func288, Tryz.ntmps288
    go_wp2_with fail
    refine HW.out.mono ?_
    rintro e w1 ⟨rfl, rfl⟩
    go_wp2_with fail
    go_ret
    exact ⟨rfl, rfl⟩
end Go.Proofs.YtjicdcmdgbcdcaaGreatDoor.Scr
end
section
namespace Go.Proofs.YtjicdcmdgbcdcaaGreatDoor.CluO
set_option linter.unusedSimpArgs false
set_option linter.unusedVariables false
open Go Go.RowKit Mem Turn Gra Clu
open Seg (But heap_setCell)

/-- the block's other cells -/
structure Fr where
  a0 : Value
  a1 : Value
  a2 : Value
  a3 : Value
  z0 : Value
  z1 : Value
  z2 : Value
def cells (K : Fr) (l : List Int) : List Value := [K.a0, K.a1, K.a2, K.a3] ++ (cv l ++ [K.z0, K.z1, K.z2])
def CAt (K : Fr) (w : World) (q : Nat) (l : List Int) : Prop := l.length ≤ 16 ∧ ∃ T : Unit, w.heap[q]? = some (.cells (cells K l).toArray 247 (0, 0))
theorem cells_len {K : Fr} {l : List Int} (h : l.length ≤ 16) : (cells K l).length = 24 := by simp [cells, cv_len h]
theorem cells_in {K : Fr} {l : List Int} (h : l.length ≤ 16) {i : Nat} (hi : i < 17) : (cells K l)[4 + i]? = (cv l)[i]? := by
  unfold cells
  rw [List.getElem?_append_right (by simp), List.getElem?_append_left (by rw [cv_len h]; simp; omega)]
  congr 1
  simp
theorem cells_set {K : Fr} {l : List Int} (h : l.length ≤ 16) {i : Nat} (hi : i < 17) (v : Value) : (cells K l).set (4 + i) v = [K.a0, K.a1, K.a2, K.a3] ++ ((cv l).set i v ++ [K.z0, K.z1, K.z2]) := by
  unfold cells
  rw [List.set_append_right _ _ (by simp), List.set_append_left _ _ (by rw [cv_len h]; simp; omega)]
  simp
theorem CAt.lt {K : Fr} {w : World} {q : Nat} {l : List Int} (h : CAt K w q l) : q < w.heap.size := by
  obtain ⟨_, T, h⟩ := h
  exact Blk.lt (xs := _) ⟨_, (0, 0), h⟩
theorem CAt.below {K : Fr} {w w' : World} {q B : Nat} {l : List Int} (h : CAt K w q l) (hb : Below B w w') (hq : q < B) : CAt K w' q l := by
  obtain ⟨h1, T, h⟩ := h
  exact ⟨h1, T, by rw [hb.block q hq, h]⟩
theorem CAt.num {K : Fr} {w : World} {q : Nat} {l : List Int} (h : CAt K w q l) : w.cell? ⟨q, 20, none⟩ = some (.int .i64 l.length) := by
  obtain ⟨h1, T, h⟩ := h
  have := cells_in (K := K) h1 (i := 16) (by omega)
  rw [cv_num h1] at this
  simpa [World.cell?, h] using this
theorem CAt.text {K : Fr} {w : World} {q : Nat} {l : List Int} (h : CAt K w q l) {i : Nat} {x : Int} (hx : l[i]? = some x) : w.cell? ⟨q, 4 + i, none⟩ = some (.int .i32 x) := by
  obtain ⟨h1, T, h⟩ := h
  have hi := (List.getElem?_eq_some_iff.1 hx).1
  have := cells_in (K := K) h1 (i := i) (by omega)
  rw [cv_text hx] at this
  simpa [World.cell?, h] using this
theorem CAt.some {K : Fr} {w : World} {q : Nat} {l : List Int} (h : CAt K w q l) {i : Nat} (hi : i < 24) : ∃ v, w.cell? ⟨q, i, none⟩ = some v := by
  obtain ⟨h1, T, h⟩ := h
  exact ⟨_, by simp only [World.cell?, h]; simpa using List.getElem?_eq_getElem (by rw [cells_len h1]; exact hi)⟩
theorem CAt.frozen {K : Fr} {w : World} {q : Nat} {l : List Int} (h : CAt K w q l) (i : Nat) : w.frozen? ⟨q, i, none⟩ = false := by
  obtain ⟨h1, T, h⟩ := h
  simp [World.frozen?, h]
theorem CAt.add {K : Fr} {w : World} {q : Nat} {l : List Int} (h : CAt K w q l) (hl : l.length < 16) (r : Int) : CAt K ((w.setCell ⟨q, 4 + l.length, none⟩ (.int .i32 r)).setCell ⟨q, 20, none⟩ (.int .i64 (l.length + 1))) q (l ++ [r]) := by
  obtain ⟨h1, T, h⟩ := h
  refine ⟨by simp; omega, T, ?_⟩
  rw [heap_setCell (heap_setCell h)]
  have e1 := cells_set (K := K) h1 (i := l.length) (by omega) (.int .i32 r)
  have e2 : ((cells K l).set (4 + l.length) (.int .i32 r)).set 20 (.int .i64 (l.length + 1)) = cells K (l ++ [r]) := by
    rw [e1, show (20 : Nat) = 4 + 16 from rfl, List.set_append_right _ _ (by simp), List.set_append_left _ _ (by rw [List.length_set, cv_len h1]; simp)]
    unfold cells
    rw [← cv_add hl r]
    simp
  rw [← e2]
  simp

set_option maxHeartbeats 1000000 in
theorem len_any (K : Fr) (q : Nat) (l : List Int) (w : World) (h : CAt K w q l) :
    Calls Tryz.prog 292 #[.pointer (some ⟨q, 4, none⟩)] w fun e w' => e = .returned (.int .i64 l.length) ∧ w = w' := by
  have c16 := h.num
  clear h
  go_enter Tryz.func292, Tryz.ntmps292
  go_wp2
  go_ret
  exact ⟨rfl, rfl⟩

set_option maxHeartbeats 1000000 in
theorem full_any (K : Fr) (q : Nat) (l : List Int) (w : World) (h : CAt K w q l) :
    Calls Tryz.prog 243 #[.pointer (some ⟨q, 4, none⟩)] w fun e w' => e = .returned (.bool ((l.length : Int) == 16)) ∧ w = w' := by
  have H := Lib.hid (len_any K q l w h)
  clear h
  go_enter Tryz.func243, Tryz.ntmps243
  go_wp2_with fail
  refine H.out.mono ?_
  rintro e w1 ⟨rfl, rfl⟩
  go_wp2
  go_ret
  exact ⟨rfl, rfl⟩

set_option maxRecDepth 100000 in
set_option maxHeartbeats 4000000 in
theorem add_any (K : Fr) (q : Nat) (l : List Int) (r : Int) (w : World) (h : CAt K w q l) :
    Calls Tryz.prog 286 #[.pointer (some ⟨q, 4, none⟩), .int .i32 r] w fun e w' => e = .returned (.bool (decide (l.length < 16))) ∧ CAt K w' q (addL l r) ∧ But q w w' := by
  have hl := h.1
  have HF := Lib.hid (full_any K q l w h)
  by_cases h16 : l.length < 16
  · have d0 : ((l.length : Int) == 16) = false := by simp; omega
    have d1 : Hid (decide (l.length < 16) = true) := Lib.hid (by simpa using h16)
    have c16 := h.num
    have f16 := h.frozen 20
    have fl := h.frozen (4 + l.length)
    obtain ⟨v, cl⟩ := h.some (i := 4 + l.length) (by omega)
    have x1 : (l.length : Int) < 16 := by omega
    have HA : Hid (CAt K ((w.setCell ⟨q, 4 + l.length, none⟩ (.int .i32 r)).drew.setCell ⟨q, 20, none⟩ (.int .i64 (l.length + 1))) q (addL l r)) := by
      unfold addL; rw [if_pos h16]; exact Lib.hid (h.add h16 r)
    have HB : Hid (But q w ((w.setCell ⟨q, 4 + l.length, none⟩ (.int .i32 r)).drew.setCell ⟨q, 20, none⟩ (.int .i64 (l.length + 1)))) := Lib.hid ((((But.refl q w).setCell _ _).trans (But.of_below ((Below.refl _ _).drew))).setCell _ _)
    have c16' : (w.setCell ⟨q, 4 + l.length, none⟩ (.int .i32 r)).drew.cell? ⟨q, 20, none⟩ = Option.some (.int .i64 l.length) := by
      obtain ⟨_, T, h⟩ := h
      show (w.setCell ⟨q, 4 + l.length, none⟩ (.int .i32 r)).cell? ⟨q, 20, none⟩ = _
      have := heap_setCell (i := 4 + l.length) (v := .int .i32 r) h
      simp only [World.cell?, this]
      have h9 := cells_in (K := K) hl (i := 16) (by omega)
      rw [cv_num hl] at h9
      simp only [List.setIfInBounds_toArray, List.getElem?_toArray]
      rw [List.getElem?_set_ne (by omega)]
      exact h9
    have f16' : (w.setCell ⟨q, 4 + l.length, none⟩ (.int .i32 r)).drew.frozen? ⟨q, 20, none⟩ = false := by
      obtain ⟨_, T, h⟩ := h
      show (w.setCell ⟨q, 4 + l.length, none⟩ (.int .i32 r)).frozen? ⟨q, 20, none⟩ = _
      have := heap_setCell (i := 4 + l.length) (v := .int .i32 r) h
      simp [World.frozen?, this]
    have x2 : IntKind.i64.wrap ((l.length : Int) + 1) = (l.length : Int) + 1 := IntWalk.i64_in _ (by omega)
    clear h
    generalize l.length = n at *
    go_enter Tryz.func286, Tryz.ntmps286
    go_wp2_with fail
    refine HF.out.mono ?_
    rintro e w1 ⟨rfl, rfl⟩
    go_wp2_with fail
    go_region
    clear c16 f16 fl cl HF
    generalize (w.setCell ⟨q, 4 + n, none⟩ (.int .i32 r)).drew = w1 at *
    go_wp2
    go_ret
    exact ⟨by rw [d1.out]; rfl, HA.out, HB.out⟩
  · have e16 : l.length = 16 := by omega
    have HA : Hid (CAt K w q (addL l r)) := by unfold addL; rw [if_neg h16]; exact Lib.hid h
    have d1 : Hid (decide (l.length < 16) = false) := Lib.hid (by simpa using h16)
    have d0 : ((l.length : Int) == 16) = true := by simp; omega
    clear h h16 e16
    go_enter Tryz.func286, Tryz.ntmps286
    go_wp2_with fail
    refine HF.out.mono ?_
    rintro e w1 ⟨rfl, rfl⟩
    go_wp2
    go_ret
    exact ⟨by rw [d1.out]; rfl, HA.out, But.refl _ _⟩

set_option maxRecDepth 100000 in
set_option maxHeartbeats 4000000 in
theorem text_any (K : Fr) (q : Nat) (l : List Int) (w : World) (h : CAt K w q l) :
    Calls Tryz.prog 178 #[.pointer (some ⟨q, 4, none⟩)] w fun e w' => Fresh w w' 21 1 l.length (l.map (Value.int .i32)) e := by
  have c16 := h.num
  have H := Lib.hid h
  have hl := h.1
  have hlt := h.lt
  have hmx : Tryz.prog.follows .mixedOrders = true := by kernel_rfl
  have hl' : (l.length : Int) ≤ 16 := by omega
  clear h
  go_enter Tryz.func178, Tryz.ntmps178
  go_wp2_with fail
  refine region_begin (fun w' => w'.cell? ⟨q, 20, none⟩ = Option.some (.int .i64 l.length)) (fun j => j == 9) hmx ?_
  refine take_first (i := 0) rfl (by kernel_rfl) (by kernel_rfl) (by kernel_rfl) (by kernel_rfl) (fun _ _ _ h => h) c16 (.inl ⟨by rfl, fun w' hw' => by have hw2 : w'.cell? ⟨q, 20, none⟩ = Option.some (.int .i64 l.length) := hw'; go_simp; try with_reducible rfl⟩) ?_
  refine take_first (i := 3) rfl (by kernel_rfl) (by kernel_rfl) (by kernel_rfl) (by kernel_rfl) (fun _ _ _ h => h) c16 (.inl ⟨by rfl, fun w' hw' => by have hw2 : w'.cell? ⟨q, 20, none⟩ = Option.some (.int .i64 l.length) := hw'; go_simp; try with_reducible rfl⟩) ?_
  refine take_first (i := 1) rfl (by kernel_rfl) (by kernel_rfl) (by kernel_rfl) (by kernel_rfl) (fun _ _ _ h => h) c16 (.inl ⟨by rfl, fun w' hw' => by have hw2 : w'.cell? ⟨q, 20, none⟩ = Option.some (.int .i64 l.length) := hw'; go_simp; try with_reducible rfl⟩) ?_
  refine take_first (i := 4) rfl (by kernel_rfl) (by kernel_rfl) (by kernel_rfl) (by kernel_rfl) (fun _ _ _ h => h) c16 (.inl ⟨by rfl, fun w' hw' => by have hw2 : w'.cell? ⟨q, 20, none⟩ = Option.some (.int .i64 l.length) := hw'; go_simp; try with_reducible rfl⟩) ?_
  refine take_first (i := 2) rfl (by kernel_rfl) (by kernel_rfl) (by kernel_rfl) (by kernel_rfl) (fun _ _ _ h => h) c16 (.inl ⟨by rfl, fun w' hw' => by have hw2 : w'.cell? ⟨q, 20, none⟩ = Option.some (.int .i64 l.length) := hw'; go_simp; try with_reducible rfl⟩) ?_
  refine take_first (i := 5) rfl (by kernel_rfl) (by kernel_rfl) (by kernel_rfl) (by kernel_rfl) (fun _ _ _ h => h) c16 (.inl ⟨by rfl, fun w' hw' => by have hw2 : w'.cell? ⟨q, 20, none⟩ = Option.some (.int .i64 l.length) := hw'; go_simp; try with_reducible rfl⟩) ?_
  refine take_first (i := 6) rfl (by kernel_rfl) (by kernel_rfl) (by kernel_rfl) (by kernel_rfl) (fun _ _ _ h => h) c16 (.inl ⟨by rfl, fun w' hw' => by have hw2 : w'.cell? ⟨q, 20, none⟩ = Option.some (.int .i64 l.length) := hw'; go_simp; try with_reducible rfl⟩) ?_
  refine take_first (i := 7) rfl (by kernel_rfl) (by kernel_rfl) (by kernel_rfl) (by kernel_rfl) (fun _ _ _ h => h) c16 (.inl ⟨by rfl, fun w' hw' => by have hw2 : w'.cell? ⟨q, 20, none⟩ = Option.some (.int .i64 l.length) := hw'; go_simp; try with_reducible rfl⟩) ?_
  refine take_one (i := 8) (by kernel_rfl) rfl rfl fun K hK => ?_
  go_wp2_with fail
  refine (clone_any q 4 l.length 16 l _ rfl ?_ ?_ (by omega)).mono ?_
  · exact hlt
  · intro i x hx
    exact H.out.text hx
  rintro e w1 ⟨v, rfl, ho, hb⟩
  have hb : Below w.heap.size w w1 := ((Below.refl w.heap.size w).drew).trans hb
  have HO := Lib.hid ho
  have HB := Lib.hid hb
  clear ho hb
  refine hK _ _ (.inr ((HB.out.cell (p := ⟨q, 20, none⟩) hlt).trans c16)) ?_
  clear hK
  refine take_one (i := 9) (by kernel_rfl) rfl rfl fun K hK => ?_
  go_wp2
  refine hK _ _ (.inl rfl) ?_
  clear hK
  refine take_done (by kernel_rfl) ?_ _
  go_wp2
  go_ret
  exact ⟨v, rfl, HO.out, HB.out⟩
end Go.Proofs.YtjicdcmdgbcdcaaGreatDoor.CluO
end
section
namespace Go.Proofs.YtjicdcmdgbcdcaaGreatDoor.Scr
set_option linter.unusedSimpArgs false
set_option linter.unusedVariables false
open Go Go.RowKit Mem Turn Ring

set_option maxRecDepth 100000 in
set_option maxHeartbeats 8000000 in
theorem put_any (D : Nat → Prop) (ρ κ i : Nat) (l : LineC) (k : Int) (v : Value) (t : List Int) (w : World) (h : RowAt w ρ κ l) (hi : i < l.1.length) (hv : TextAt D False w v t) :
    Calls Tryz.prog 289 #[.pointer (some ⟨ρ, 0, none⟩), .int .i64 (i : Int), .agg #[.int .i64 k, v]] w fun e w' => e = .returned (.tuple #[]) ∧ RowAt w' ρ κ (putC l i (k, t)) ∧ Turn (fun b => b = ρ ∨ b = κ) w w' := by
  have hmx : Tryz.prog.follows .mixedOrders = true := by kernel_rfl
  obtain ⟨a, c, rfl, _⟩ := id hv
  generalize hn0 : t.length = tn at *
  have T1 : Turn (fun _ => False) w (w.alloc (.cells #[.int .i64 k, .slice a tn c] 80)) := Turn.alloc _ _ _
  have e1 := heap_alloc_new w (.cells #[.int .i64 k, .slice a tn c] 80)
  have HR1 := Lib.hid (h.turn T1 (Free.no _ _) id id)
  have HV1 := Lib.hid (TextAt.turn hv T1 (fun _ _ _ => id))
  have HT1 := Lib.hid T1
  have hsz : (w.alloc (.cells #[.int .i64 k, .slice a tn c] 80)).heap.size = w.heap.size + 1 := by simp
  clear T1 hv
  have hρ := h.typ.lt
  have hκ := h.cells.typ.lt
  have hle := h.le
  have HPC := Lib.hid (show putC l i (k, t) = (l.1.set i (k, t), if i + 1 = l.1.length then false else l.2) from rfl)
  generalize hn : l.1.length = n at *
  have HN := Lib.hid hn
  have HTN := Lib.hid hn0
  clear h hn hn0
  go_enter Tryz.func289, Tryz.ntmps289
  go_upto_region 1 with fail
  generalize (w.alloc (.cells #[.int .i64 k, .slice a tn c] 80)) = w1 at *
  obtain ⟨c0, _, _⟩ := HR1.out.hdr0
  rw [HN.out] at c0
  have q0 : w1.cell? ⟨w.heap.size, 0, none⟩ = some (.int .i64 k) := by simp [World.cell?, e1]
  have q1 : w1.cell? ⟨w.heap.size, 1, none⟩ = some (.slice a tn c) := by simp [World.cell?, e1]
  have HE := Lib.hid e1
  have HSZ := Lib.hid hsz
  have HOW := Lib.hid (own_any D False k (.slice a tn c) t w1.drew (TextAt.turn HV1.out (Turn.drew (fun _ => False) w1) (fun _ _ _ => id)))
  clear e1 hsz
  refine region_begin3 (fun w' => w'.cell? ⟨ρ, 0, none⟩ = some (.slice (some ⟨κ, 0, none⟩) n n) ∧ w'.cell? ⟨w.heap.size, 0, none⟩ = some (.int .i64 k) ∧ w'.cell? ⟨w.heap.size, 1, none⟩ = some (.slice a tn c)) (fun j => j == 8) 9 rfl hmx (by intro _ _ d _ _ h; cases d <;> exact h) fun hQP => ?_
  have hS : w1.drew.cell? ⟨ρ, 0, none⟩ = some (.slice (some ⟨κ, 0, none⟩) n n) ∧ w1.drew.cell? ⟨w.heap.size, 0, none⟩ = some (.int .i64 k) ∧ w1.drew.cell? ⟨w.heap.size, 1, none⟩ = some (.slice a tn c) := ⟨c0, q0, q1⟩
  refine take_f 0 6 rfl rfl (by kernel_rfl) (by kernel_rfl) (by kernel_rfl) (by kernel_rfl) hQP hS (.inl ⟨by kernel_rfl, fun w' hw' => by obtain ⟨e0, e1, e2⟩ := hw'; go_simp; try with_reducible rfl⟩) ?_
  refine take_f 1 7 rfl rfl (by kernel_rfl) (by kernel_rfl) (by kernel_rfl) (by kernel_rfl) hQP hS (.inl ⟨by kernel_rfl, fun w' hw' => by obtain ⟨e0, e1, e2⟩ := hw'; go_simp; try with_reducible rfl⟩) ?_
  refine take_f 2 8 rfl rfl (by kernel_rfl) (by kernel_rfl) (by kernel_rfl) (by kernel_rfl) hQP hS (.inl ⟨by kernel_rfl, fun w' hw' => by obtain ⟨e0, e1, e2⟩ := hw'; go_simp; try with_reducible rfl⟩) ?_
  refine take_f 3 9 rfl rfl (by kernel_rfl) (by kernel_rfl) (by kernel_rfl) (by kernel_rfl) hQP hS (.inl ⟨by kernel_rfl, fun w' hw' => by obtain ⟨e0, e1, e2⟩ := hw'; go_simp; try with_reducible rfl⟩) ?_
  refine take_f 4 10 rfl rfl (by kernel_rfl) (by kernel_rfl) (by kernel_rfl) (by kernel_rfl) hQP hS (.inl ⟨by kernel_rfl, fun w' hw' => by obtain ⟨e0, e1, e2⟩ := hw'; go_simp; try with_reducible rfl⟩) ?_
  refine take_f 5 11 rfl rfl (by kernel_rfl) (by kernel_rfl) (by kernel_rfl) (by kernel_rfl) hQP hS (.inl ⟨by kernel_rfl, fun w' hw' => by obtain ⟨e0, e1, e2⟩ := hw'; go_simp; try with_reducible rfl⟩) ?_
  refine take_one (i := 6) (by kernel_rfl) rfl rfl fun KQ hK => ?_
  go_wp2_with fail
  refine HOW.out.mono ?_
  rintro e w2 ⟨v', rfl, ho, hb⟩
  have hb0 : Below w1.heap.size w1 w2 := (Below.refl _ _).drew.trans hb
  have hS : w2.cell? ⟨ρ, 0, none⟩ = some (.slice (some ⟨κ, 0, none⟩) n n) ∧ w2.cell? ⟨w.heap.size, 0, none⟩ = some (.int .i64 k) ∧ w2.cell? ⟨w.heap.size, 1, none⟩ = some (.slice a tn c) := ⟨(hb0.cell (p := ⟨ρ, 0, none⟩) (by have := HSZ.out; show ρ < w1.heap.size; omega)).trans c0, (hb0.cell (p := ⟨w.heap.size, 0, none⟩) (by have := HSZ.out; show w.heap.size < w1.heap.size; omega)).trans q0, (hb0.cell (p := ⟨w.heap.size, 1, none⟩) (by have := HSZ.out; show w.heap.size < w1.heap.size; omega)).trans q1⟩
  refine hK _ _ (.inr hS) ?_
  clear hK c0 q0 q1
  refine take_f 7 13 rfl rfl (by kernel_rfl) (by kernel_rfl) (by kernel_rfl) (by kernel_rfl) hQP hS (.inl ⟨by kernel_rfl, fun w' hw' => by obtain ⟨e0, e1, e2⟩ := hw'; go_simp; try with_reducible rfl⟩) ?_
  have HR2 := Lib.hid (HR1.out.turn (Turn.of_new hb0 : Turn (fun _ => False) w1 w2) (Free.no _ _) id id)
  obtain ⟨u0, x0, x1, _, y0, y1⟩ := HR2.out.cells.cell (i := i) (by rw [HN.out]; exact hi)
  obtain ⟨a', c', rfl⟩ := Turn.own_slice ho.1
  have HO := Lib.hid ho.txt
  have HT2 := Lib.hid (HT1.out.trans (Turn.of_new hb0))
  clear ho hb hb0
  refine take_one (i := 8) (by kernel_rfl) rfl rfl fun KQ hK => ?_
  go_wp2_with fail
  refine hK _ _ (.inl rfl) ?_
  clear hK hS x0 x1 y0 y1
  refine take_done (by kernel_rfl) ?_ _
  have HC3 := Lib.hid (HR2.out.cells.put (i := i) (k := k) (by rw [HN.out]; exact hi) HO.out)
  have HT3 : Hid (Turn (fun b => b = κ) w2 (putW w2 κ i k (.slice a' t.length c'))) := Lib.hid (putW_turn _ _ _ _ _)
  have hw3 : (w2.setCell ⟨κ, i * 2, none⟩ (.int .i64 k)).setCell ⟨κ, i * 2 + 1, none⟩ (.slice a' t.length c') = putW w2 κ i k (.slice a' t.length c') := rfl
  rw [hw3]
  clear hw3
  generalize (putW w2 κ i k (.slice a' t.length c')) = w3 at *
  have HR3 : Hid (RowAt w3 ρ κ (l.1.set i (k, t), l.2)) := Lib.hid (by
    refine ⟨?_, HC3.out, by rw [List.length_set]; exact HR2.out.pos, by rw [List.length_set]; exact HR2.out.le⟩
    rw [List.length_set]
    exact HT3.out.heap HR2.out.hdr (fun e => HR2.out.ne e))
  obtain ⟨c0, c1, f1⟩ := HR3.out.hdr0
  simp only [List.length_set, HN.out] at c0
  have HT4 := Lib.hid ((HT2.out.mono (fun _ _ h => h.elim) : Turn (fun b => b = ρ ∨ b = κ) w w2).trans (HT3.out.mono (fun _ _ e => .inr e)))
  clear HR2 HT2 HC3 HT3 HO HR1 HV1 HT1 HOW
  by_cases hl : i + 1 = n
  · have d1 : ((i : Int) == (n : Int) - 1) = true := beq_iff_eq.2 (by omega)
    have HF : Hid (RowAt (w3.setCell ⟨ρ, 1, none⟩ (.bool false)) ρ κ (putC l i (k, t)) ∧ Turn (fun b => b = ρ ∨ b = κ) w (w3.setCell ⟨ρ, 1, none⟩ (.bool false))) := Lib.hid (by
      refine ⟨?_, HT4.out.trans (Turn.setCell _ _ (.inl rfl))⟩
      rw [HPC.out, if_pos hl]
      exact HR3.out.wrap false)
    go_wp2_with fail
    go_end0
    exact ⟨rfl, HF.out.1, HF.out.2⟩
  · have d1 : ((i : Int) == (n : Int) - 1) = false := beq_eq_false_iff_ne.2 (by omega)
    have HF : Hid (RowAt w3 ρ κ (putC l i (k, t)) ∧ Turn (fun b => b = ρ ∨ b = κ) w w3) := Lib.hid (by
      refine ⟨?_, HT4.out⟩
      rw [HPC.out, if_neg hl]
      exact HR3.out)
    go_wp2_with fail
    go_end0
    exact ⟨rfl, HF.out.1, HF.out.2⟩
end Go.Proofs.YtjicdcmdgbcdcaaGreatDoor.Scr
end
section
namespace Go.Proofs.YtjicdcmdgbcdcaaGreatDoor.Scr
set_option linter.unusedSimpArgs false
set_option linter.unusedVariables false
open Go Go.RowKit Mem Turn Ring

theorem valid_cases (r : Int) :
    (decide (0 ≤ r) = true ∧ decide (r < 55296) = true ∧ validB r = true) ∨
    (decide (0 ≤ r) = true ∧ decide (r < 55296) = false ∧ decide (57343 < r) = true ∧ decide (r ≤ 1114111) = true ∧ validB r = true) ∨
    (decide (0 ≤ r) = true ∧ decide (r < 55296) = false ∧ decide (57343 < r) = true ∧ decide (r ≤ 1114111) = false ∧ validB r = false) ∨
    (decide (0 ≤ r) = true ∧ decide (r < 55296) = false ∧ decide (57343 < r) = false ∧ True ∧ validB r = false) ∨
    (decide (0 ≤ r) = false ∧ decide (r < 55296) = true ∧ decide (57343 < r) = false ∧ True ∧ validB r = false) := by
  unfold validB
  by_cases h1 : 0 ≤ r <;> by_cases h2 : r < 55296 <;> by_cases h3 : 57343 < r <;> by_cases h4 : r ≤ 1114111 <;> simp [h1, h2, h3, h4] <;> omega
theorem ret_bool {a b : Bool} (h : a = b) : Ending.returned (.bool a) = .returned (.bool b) := by rw [h]
theorem valid_any (r : Int) (w : World) : Calls Tryz.prog 293 #[.int .i32 r] w fun e w' => e = .returned (.bool (validB r)) ∧ w = w' := by
  rcases valid_cases r with ⟨d1, d2, h⟩ | ⟨d1, d2, d3, d4, h⟩ | ⟨d1, d2, d3, d4, h⟩ | ⟨d1, d2, d3, d4, h⟩ | ⟨d1, d2, d3, d4, h⟩
  all_goals
    rw [h]
    clear h
    go_enter Tryz.func293, Tryz.ntmps293
    go_wp2
    go_ret
    exact ⟨rfl, rfl⟩
theorem notvalid_any (r : Int) (w : World) : Calls Tryz.prog 333 #[.int .i32 r] w fun e w' => e = .returned (.bool (!validB r)) ∧ w = w' := by
  have H := Lib.hid (valid_any r w)
  generalize validB r = b at *
  go_enter Tryz.func333, Tryz.ntmps333
  go_wp2_with fail
  refine H.out.mono ?_
  rintro e w1 ⟨rfl, rfl⟩
  go_wp2_with fail
  go_ret
  exact ⟨rfl, rfl⟩

/-- a text's cells, one by one -/
def Rd (w : World) (a : Option Addr) (t : List Int) : Prop := ∀ (j : Nat), j < t.length → ∃ b off, a = some ⟨b, off, none⟩ ∧ w.cell? ⟨b, off + j, none⟩ = some (.int .i32 (t.getD j 0))
theorem rd_of {D : Nat → Prop} {fz : Prop} {w : World} {a : Option Addr} {n c : Nat} {t : List Int} (h : TextAt D fz w (.slice a n c) t) : Rd w a t := by
  intro j hj
  obtain ⟨a', c', e, _, _, h4⟩ := h
  injection e with e1 _ _
  subst e1
  obtain ⟨b, off, e, _, _, hc⟩ := h4.resolve_left (by omega)
  exact ⟨b, off, e, (hc j _ (by rw [List.getElem?_eq_getElem hj, List.getD_eq_getElem?_getD, List.getElem?_eq_getElem hj]; rfl)).1⟩

/-- the place of the first that is no scalar value -/
def badAt (t : List Int) : Int := if t.all validB then -1 else (t.findIdx fun r => !validB r : Nat)
theorem badAt_none {t : List Int} (h : ∀ j, j < t.length → validB (t.getD j 0) = true) : badAt t = -1 := by
  unfold badAt
  rw [if_pos]
  rw [List.all_eq_true]
  intro x hx
  obtain ⟨i, hi, rfl⟩ := List.getElem_of_mem hx
  have := h i hi
  rwa [List.getD_eq_getElem?_getD, List.getElem?_eq_getElem hi] at this
theorem badAt_at {t : List Int} {k : Nat} (hk : k < t.length) (h1 : ∀ j, j < k → validB (t.getD j 0) = true) (h2 : validB (t.getD k 0) = false) : badAt t = k := by
  unfold badAt
  rw [if_neg]
  · congr 1
    rw [List.findIdx_eq hk]
    refine ⟨?_, fun j hj => ?_⟩
    · rw [List.getD_eq_getElem?_getD, List.getElem?_eq_getElem hk] at h2
      simpa using h2
    · have := h1 j hj
      rw [List.getD_eq_getElem?_getD, List.getElem?_eq_getElem (by omega)] at this
      simpa using this
  · rw [List.all_eq_true]
    intro h
    have := h t[k] (List.getElem_mem hk)
    rw [List.getD_eq_getElem?_getD, List.getElem?_eq_getElem hk] at h2
    simp [this] at h2

set_option maxRecDepth 100000 in
set_option maxHeartbeats 4000000 in
theorem index_any (a : Option Addr) (n c : Nat) (t : List Int) (w : World) (hn : t.length = n) (h : Rd w a t) (hm : n ≤ 9223372036854775807) :
    Calls Tryz.prog 343 #[.slice a n c, .func (.func 333) #[] #[]] w fun e w' => e = .returned (.int .i64 (badAt t)) ∧ w = w' := by
  have HR := Lib.hid h
  have HN := Lib.hid hn
  have HV := Lib.hid (fun r => notvalid_any r w)
  clear h hn
  go_enter Tryz.func343, Tryz.ntmps343
  go_wp2_with fail
  go_loopg [5, 8] n (fun gg v5 i wx => ∃ k : Nat, n - k = gg ∧ k ≤ n ∧ i = .int .i64 k ∧ w = wx ∧ Hid (∀ j, j < k → validB (t.getD j 0) = true))
  case atStart => exact ⟨0, rfl, Nat.zero_le _, rfl, rfl, Lib.hid (fun j hj => absurd hj (by omega))⟩
  case round =>
    obtain ⟨k, rfl, hk, rfl, rfl, H⟩ := hrel
    by_cases hlt : k < n
    · obtain ⟨b, off, rfl, hc⟩ := HR.out k (by rw [HN.out]; exact hlt)
      have hlt' : (k : Int) < (n : Int) := by omega
      generalize hr : t.getD k 0 = r at *
      have HRR := Lib.hid hr
      clear hr
      by_cases hb : validB r = true
      · go_wp2_with fail
        refine (HV.out r).mono ?_
        rintro e w1 ⟨rfl, rfl⟩
        rw [hb]
        go_wp2_with fail
        go_roundg (n - (k + 1))
        case measure => omega
        case rel => exact ⟨k + 1, rfl, by omega, by go_num, rfl, Lib.hid (fun j hj => by
          rcases Nat.lt_or_ge j k with h1 | h1
          · exact H.out j h1
          · obtain rfl : j = k := by omega
            rw [HRR.out]; exact hb)⟩
      · have hb' : validB r = false := by simpa using hb
        go_wp2_with fail
        refine (HV.out r).mono ?_
        rintro e w1 ⟨rfl, rfl⟩
        rw [hb']
        go_wp2_with fail
        go_ret
        rw [badAt_at (by rw [HN.out]; exact hlt) H.out (by rw [HRR.out]; exact hb')]
        exact ⟨rfl, rfl⟩
    · obtain rfl : k = n := by omega
      go_wp2_with fail
      go_ret
      rw [badAt_none (fun j hj => H.out j (by rw [← HN.out]; exact hj))]
      exact ⟨rfl, rfl⟩
end Go.Proofs.YtjicdcmdgbcdcaaGreatDoor.Scr
end
section
namespace Go.Proofs.YtjicdcmdgbcdcaaGreatDoor.Scr
set_option linter.unusedSimpArgs false
set_option linter.unusedVariables false
open Go Go.RowKit Mem Turn Ring

theorem badAt_neg (t : List Int) : decide (0 ≤ badAt t) = !t.all validB := by
  unfold badAt
  split
  · rename_i h; rw [h]; rfl
  · rename_i h
    rw [decide_eq_true (by omega)]
    simp only [Bool.not_eq_true] at h
    rw [h]; rfl
theorem beq0 (n : Nat) : ((n : Int) == 0) = decide (n = 0) := by
  rw [Bool.eq_iff_iff]
  simp
theorem contains_any (a : Option Addr) (n c : Nat) (t : List Int) (w : World) (hn : t.length = n) (h : Rd w a t) (hm : n ≤ 9223372036854775807) :
    Calls Tryz.prog 332 #[.slice a n c, .func (.func 333) #[] #[]] w fun e w' => e = .returned (.bool (!t.all validB)) ∧ w = w' := by
  have H := Lib.hid (index_any a n c t w hn h hm)
  have hb := badAt_neg t
  generalize badAt t = z at *
  generalize (!t.all validB) = b at *
  clear h hn
  go_enter Tryz.func332, Tryz.ntmps332
  go_wp2_with fail
  refine H.out.mono ?_
  rintro e w1 ⟨rfl, rfl⟩
  go_wp2_with fail
  go_ret
  exact ⟨rfl, rfl⟩

set_option maxRecDepth 100000 in
set_option maxHeartbeats 4000000 in
theorem right_any (D : Nat → Prop) (fz : Prop) (k : Int) (v : Value) (t : List Int) (w : World) (h : TextAt D fz w v t) :
    Calls Tryz.prog 295 #[.agg #[.int .i64 k, v]] w fun e w' => e = .returned (.bool (rightB (k, t))) ∧ Below w.heap.size w w' := by
  obtain ⟨a, c, rfl, _, hm, _⟩ := id h
  have HC := Lib.hid (contains_any a t.length c t (w.alloc (.cells #[.int .i64 k, .slice a t.length c] 80)) rfl (rd_of (TextAt.turn h (Turn.alloc (fun _ => False) _ _) (fun _ _ _ => id))) (by omega))
  have HB : Hid (Below w.heap.size w (w.alloc (.cells #[.int .i64 k, .slice a t.length c] 80))) := Lib.hid ((Below.refl _ _).alloc (Nat.le_refl _) _)
  have he : t.isEmpty = decide (t.length = 0) := by cases t <;> simp
  have HRB := Lib.hid (show rightB (k, t) = (if k = 0 ∨ k = 3 then decide (t.length = 0) else if k = 1 ∨ k = 2 then !decide (t.length = 0) && decide (t.length ≤ 16) && t.all validB else false) from by unfold rightB; rw [he])
  rw [HRB.out]
  generalize (t.all validB) = b at *
  generalize t.length = n at *
  clear h he HRB
  by_cases h0 : k = 0
  · subst h0
    rw [if_pos (.inl rfl)]
    go_enter Tryz.func295, Tryz.ntmps295
    go_wp2_with fail
    all_goals
      go_ret
      exact ⟨ret_bool (beq0 n), HB.out⟩
  · by_cases h3 : k = 3
    · subst h3
      rw [if_pos (.inr rfl)]
      go_enter Tryz.func295, Tryz.ntmps295
      go_wp2_with fail
      all_goals
        go_ret
        exact ⟨ret_bool (beq0 n), HB.out⟩
    · rw [if_neg (by omega)]
      by_cases h12 : k = 1 ∨ k = 2
      · rw [if_pos h12]
        by_cases hn0 : n = 0
        · subst hn0
          rcases h12 with rfl | rfl
          all_goals
            go_enter Tryz.func295, Tryz.ntmps295
            go_wp2_with fail
            all_goals
              go_ret
              exact ⟨ret_bool (by simp), HB.out⟩
        · have p1 : 0 < n := by omega
          have p1' : (0 : Int) < (n : Int) := by omega
          rw [decide_eq_false hn0]
          by_cases hn16 : n ≤ 16
          · have p2 : decide ((n : Int) ≤ 16) = true := decide_eq_true (by omega)
            have p3 : decide (n ≤ 16) = true := decide_eq_true (by omega)
            rcases h12 with rfl | rfl
            all_goals
              clear hn0 h0 h3
              go_enter Tryz.func295, Tryz.ntmps295
              go_wp2_with fail
              refine HC.out.mono ?_
              rintro e w1 ⟨rfl, rfl⟩
              go_wp2_with fail
              all_goals
                go_ret
                exact ⟨ret_bool (by simp [hn16]), HB.out⟩
          · have p2 : decide ((n : Int) ≤ 16) = false := decide_eq_false (by omega)
            have p3 : decide (n ≤ 16) = false := decide_eq_false (by omega)
            rcases h12 with rfl | rfl
            all_goals
              clear hn0 h0 h3
              go_enter Tryz.func295, Tryz.ntmps295
              go_wp2_with fail
              all_goals
                go_ret
                exact ⟨ret_bool (by simp [hn16]), HB.out⟩
      · rw [if_neg h12]
        have z0 : (k == 0) = false := by simpa using h0
        have z3 : (k == 3) = false := by simpa using h3
        have z1 : (k == 1) = false := beq_eq_false_iff_ne.2 (by omega)
        have z2 : (k == 2) = false := beq_eq_false_iff_ne.2 (by omega)
        clear h0 h3 h12
        go_enter Tryz.func295, Tryz.ntmps295
        go_wp2_with fail
        all_goals
          go_ret
          exact ⟨rfl, HB.out⟩

/-- behind k cells -/
theorem soundGo_drop {cs : List CellC} {k : Nat} (hk : k < cs.length) (lead : Bool) : soundGo lead (cs.drop k) = (rightB (cs.getD k blank) && (lead == ((cs.getD k blank).1 == 3)) && soundGo ((cs.getD k blank).1 == 2) (cs.drop (k + 1))) := by
  rw [List.drop_eq_getElem_cons hk, soundGo, List.getD_eq_getElem?_getD, List.getElem?_eq_getElem hk]
  rfl

set_option maxRecDepth 100000 in
set_option maxHeartbeats 8000000 in
theorem sound_any (D : Nat → Prop) (fz : Prop) (v : Value) (cs : List CellC) (w : World) (h : CellsAt D fz w v cs) :
    Calls Tryz.prog 246 #[v] w fun e w' => e = .returned (.bool (soundB cs)) ∧ Below w.heap.size w w' := by
  obtain ⟨a, c, rfl, hc, h32, h1⟩ := id h
  obtain ⟨n, hn⟩ : ∃ n, cs.length = n := ⟨_, rfl⟩
  have H1 := Lib.hid h1
  have HN := Lib.hid hn
  rw [hn] at hc h32 ⊢
  have hm : n ≤ 4398046511104 := by omega
  have HS0 := Lib.hid (show soundB cs = soundGo false (cs.drop 0) from rfl)
  clear h h1 hn h32
  go_enter Tryz.func246, Tryz.ntmps246
  go_wp2_with fail
  go_loopg [3, 5, 8] n (fun gg v3 v5 i wx => ∃ k : Nat, ∃ ld : Bool, n - k = gg ∧ k ≤ n ∧ i = .int .i64 k ∧ v3 = .bool ld ∧ Below w.heap.size w wx ∧ Hid (soundB cs = soundGo ld (cs.drop k)))
  case atStart => exact ⟨0, false, rfl, Nat.zero_le _, rfl, rfl, Below.refl _ _, HS0⟩
  case round =>
    obtain ⟨k, ld, rfl, hk, rfl, rfl, hb, H⟩ := hrel
    by_cases hlt : k < n
    · obtain ⟨b, off, rfl, hbs, _, hcell⟩ := H1.out.resolve_left (by rw [HN.out]; omega)
      obtain ⟨x, hx⟩ : ∃ x, cs[k]? = some x := ⟨_, List.getElem?_eq_getElem (by rw [HN.out]; exact hlt)⟩
      obtain ⟨y0, _, tv, y1, hty⟩ := hcell k x hx
      have x0 := (hb.cell (p := ⟨b, off + k * 2, none⟩) hbs).trans y0
      have x1 := (hb.cell (p := ⟨b, off + k * 2 + 1, none⟩) hbs).trans y1
      have hlt' : (k : Int) < n := by omega
      have hgd : cs.getD k blank = x := by rw [List.getD_eq_getElem?_getD, hx]; rfl
      obtain ⟨kd, tx⟩ := x
      simp only at x0 hty
      have HSD := Lib.hid (soundGo_drop (cs := cs) (k := k) (by rw [HN.out]; exact hlt))
      have HGD := Lib.hid hgd
      have hty1 : TextAt D fz wr tv tx := hty.below hb
      obtain ⟨at1, ct1, rfl, _⟩ := id hty
      generalize htn : tx.length = tn at *
      have HB := Lib.hid hb
      have HT := Lib.hid (hty1.below ((Below.refl _ _).alloc (Nat.le_refl _) (.cells #[.int .i64 kd, .slice at1 tn ct1] 80)))
      have hnew : (wr.alloc (.cells #[.int .i64 0, .slice none 0 0] 80)).heap[wr.heap.size]? = some (.cells #[.int .i64 0, .slice none 0 0] 80 (0, 0)) := heap_alloc_new wr _
      have hrow : (wr.alloc (.cells #[.int .i64 0, .slice none 0 0] 80)).setRow wr.heap.size #[.int .i64 kd, .slice at1 tn ct1] = wr.alloc (.cells #[.int .i64 kd, .slice at1 tn ct1] 80) := World.setRow_alloc_new wr _ _ _
      have e2 := heap_alloc_new wr (.cells #[.int .i64 kd, .slice at1 tn ct1] 80)
      have HRG := Lib.hid (right_any D fz kd _ tx _ HT.out)
      have HHS := Lib.hid hb.size
      clear hx hcell y0 y1 hgd hty hty1 hb htn
      go_upto_region 5 with (refine wpList_store_row rfl 80 _ _ rfl wr.heap.size #[.int .i64 kd, .slice at1 tn ct1] rfl rfl _ _ hnew (size_cell _ _) rfl (one_cellR _ _ _ _) ?_)
      rw [hrow]
      have HB2 := Lib.hid (HB.out.alloc HB.out.size (.cells #[.int .i64 kd, .slice at1 tn ct1] 80))
      generalize (wr.alloc (.cells #[.int .i64 kd, .slice at1 tn ct1] 80)) = w2 at *
      have q0 : w2.cell? ⟨wr.heap.size, 0, none⟩ = some (.int .i64 kd) := by simp [World.cell?, e2]
      have q1 : w2.cell? ⟨wr.heap.size, 1, none⟩ = some (.slice at1 tn ct1) := by simp [World.cell?, e2]
      have hlt2 : wr.heap.size < w2.heap.size := (Array.getElem?_eq_some_iff.1 e2).1
      have HL2 := Lib.hid hlt2
      have HSN : Hid (soundB cs = (rightB (kd, tx) && (ld == (kd == 3)) && soundGo (kd == 2) (cs.drop (k + 1)))) := Lib.hid (by
        rw [H.out, HSD.out, HGD.out])
      clear e2 hnew hrow hlt2 HSD HGD H HT
      generalize hk3 : (kd == 3) = k3 at *
      have HK3 := Lib.hid hk3
      generalize rightB (kd, tx) = rb at *
      go_wp2_with fail
      refine HRG.out.mono ?_
      rintro e w3 ⟨rfl, hb3⟩
      have q0' : w3.cell? ⟨wr.heap.size, 0, none⟩ = some (.int .i64 kd) := (hb3.cell (p := ⟨wr.heap.size, 0, none⟩) HL2.out).trans q0
      have HB3 := Lib.hid (HB2.out.trans (hb3.mono HB2.out.size))
      clear hb3 q0 q1 HRG HB2
      cases hrb : rb with
      | false =>
        subst hrb
        have HF : Hid (soundB cs = false) := Lib.hid (by rw [HSN.out]; rfl)
        clear HSN
        go_wp2_with fail
        go_ret
        rw [HF.out]
        exact ⟨rfl, HB3.out⟩
      | true =>
        subst hrb
        by_cases hne : ld = k3
        · subst hne
          have HF : Hid (soundB cs = soundGo (kd == 2) (cs.drop (k + 1))) := Lib.hid (by rw [HSN.out]; simp)
          clear HSN
          have z : (ld != ld) = false := by simp
          go_wp2_with fail
          go_roundg (n - (k + 1))
          case measure => omega
          case rel => exact ⟨k + 1, _, rfl, by omega, by go_num, rfl, HB3.out, HF⟩
        · have HF : Hid (soundB cs = false) := Lib.hid (by
            rw [HSN.out, show (ld == k3) = false from by simpa using hne]; rfl)
          have z : (ld == k3) = false := by simpa using hne
          clear HSN hne
          go_wp2_with fail
          go_ret
          rw [HF.out]
          exact ⟨rfl, HB3.out⟩
    · obtain rfl : k = n := by omega
      have HF : Hid (soundB cs = !ld) := Lib.hid (by rw [H.out, List.drop_of_length_le (by rw [HN.out]; omega)]; rfl)
      have HB := Lib.hid hb
      clear hb
      go_wp2_with fail
      go_ret
      rw [HF.out]
      exact ⟨rfl, HB.out⟩
end Go.Proofs.YtjicdcmdgbcdcaaGreatDoor.Scr
end

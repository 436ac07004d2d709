/-
  cell.Blanks, row.New.
  scalar.Replace, cell.Of.
  row.Paint.
-/
import Derived.Test.YtjicdcmdgbcdcaaGreatDoorCd11
import Derived.Deep.CutBlock
import Derived.Deep.DeepCutAuto
section
namespace Go.Proofs.YtjicdcmdgbcdcaaGreatDoor.Scr
set_option linter.unusedSimpArgs false
set_option linter.unusedVariables false
open Go Go.RowKit Mem Turn Ring

theorem made_cells (k : Nat) : madeCells (Value.agg #[.int .i64 0, .slice none 0 0]).cells (k * 2) = (flatC (List.replicate k (0, .slice none 0 0))).toArray := by
  apply Array.ext
  · rw [size_madeCells, List.size_toArray, flatC_len, List.length_replicate]
  · intro i h1 h2
    have h3 : i < k * 2 := by rw [size_madeCells] at h1; exact h1
    have hg : (flatC (List.replicate k ((0 : Int), Value.slice none 0 0)))[i]? = some (if i % 2 = 0 then .int .i64 0 else .slice none 0 0) := by
      have := flatC_get (l := List.replicate k ((0 : Int), Value.slice none 0 0)) (k := i / 2) (r := (0, .slice none 0 0)) (by rw [List.getElem?_replicate, if_pos (by omega)])
      by_cases he : i % 2 = 0
      · rw [if_pos he, show i = i / 2 * 2 from by omega]
        exact this.1
      · rw [if_neg he]
        have h4 := this.2
        rw [show i / 2 * 2 + 1 = i from by omega] at h4
        exact h4
    have : (flatC (List.replicate k ((0 : Int), Value.slice none 0 0))).toArray[i] = (if i % 2 = 0 then .int .i64 0 else .slice none 0 0) := by
      rw [List.getElem_toArray]
      rw [List.getElem?_eq_getElem (by simpa using h2)] at hg
      injection hg
    rw [this]
    unfold madeCells
    by_cases he : i % 2 = 0
    · rw [if_pos he]
      simp [Value.cells, he]
    · rw [if_neg he]
      have he' : i % 2 = 1 := by omega
      simp [Value.cells, he']
theorem make_blanks (z : Int) (k : Nat) (hz : z = (k : Int)) (hk : k ≤ 1024) (W : World) : (Instr.makeSlice 43 (.int .i64 z) (.int .i64 z)).run Tryz.prog W = .ok (.slice (some ⟨W.heap.size, 0, none⟩) k k) (W.alloc (.cells (flatC (List.replicate k (0, .slice none 0 0))).toArray 80)) := by
  obtain ⟨i0, hi, hz0, hz1, hz2⟩ := info_parts info_cell
  subst hz
  have := run_makeSlice (P := Tryz.prog) W 43 80 i0 _ Tryz.underlying43 hi hz0 .i64 .i64 (k : Int) (k : Int) (by omega) (Int.le_refl _) (by rw [hz1]; simp; omega) (by rw [hz2]; omega) (by omega)
  rw [hz1] at this
  simp only [Int.toNat_natCast] at this
  rw [made_cells] at this
  exact this

set_option maxRecDepth 100000 in
set_option maxHeartbeats 4000000 in
theorem blanks_any (n : Int) (m : Nat) (hm : (m : Int) = max 0 (min n 1024)) (w : World) :
    Calls Tryz.prog 124 #[.int .i64 n] w fun e w' => e = .returned (.slice (some ⟨w.heap.size, 0, none⟩) m m) ∧ w' = w.alloc (.cells (flatC (List.replicate m (0, .slice none 0 0))).toArray 80) := by
  have HK := Lib.hid (fun z hz => make_blanks z m hz (by omega))
  generalize (flatC (List.replicate m ((0 : Int), Value.slice none 0 0))).toArray = Z at *
  by_cases h0 : n ≤ 0
  · have q := HK.out 0 (by omega)
    have h1 : n < 1024 := by omega
    clear hm
    go_enter Tryz.func124, Tryz.ntmps124
    go_wp2_with fail
    go_ret
    exact ⟨rfl, rfl⟩
  · by_cases h1 : n ≤ 1024
    · have q := HK.out n (by omega)
      have h2 : 0 ≤ n := by omega
      clear hm
      go_enter Tryz.func124, Tryz.ntmps124
      go_wp2_with fail
      go_ret
      exact ⟨rfl, rfl⟩
    · have q := HK.out 1024 (by omega)
      have h2 : 1024 ≤ n := by omega
      clear hm
      go_enter Tryz.func124, Tryz.ntmps124
      go_wp2_with fail
      go_ret
      exact ⟨rfl, rfl⟩

theorem txts_blanks (w : World) (m : Nat) : Txts w (List.replicate m (0, .slice none 0 0)) (blanks m) := by
  refine ⟨by simp [blanks], fun j r x hr hx => ?_⟩
  unfold blanks at hx
  rw [List.getElem?_replicate] at hr hx
  split at hr
  · rename_i h
    rw [if_pos h] at hx
    injection hr with hr
    injection hx with hx
    subst hr hx
    exact ⟨rfl, TxtAt.nil _⟩
  · cases hr
theorem blanks_in (w : World) (m : Nat) : CellsIn (w.alloc (.cells (flatC (List.replicate m (0, .slice none 0 0))).toArray 80)) w.heap.size (blanks m) :=
  ⟨_, heap_alloc_new w _, txts_blanks _ _⟩
/-- a block of blanks as a slice that is read -/
theorem blanks_at (w : World) (m : Nat) (hm : m ≤ 1024) : CellsAt (fun b => b = w.heap.size) False (w.alloc (.cells (flatC (List.replicate m (0, .slice none 0 0))).toArray 80)) (.slice (some ⟨w.heap.size, 0, none⟩) m m) (blanks m) := by
  have hl : (blanks m).length = m := by simp [blanks]
  refine ⟨_, m, by rw [hl], by rw [hl]; exact Nat.le_refl _, by rw [hl]; omega, ?_⟩
  refine .inr ⟨w.heap.size, 0, rfl, by simp, rfl, fun j x hx => ?_⟩
  have hj : j < m := by have := (List.getElem?_eq_some_iff.1 hx).1; rw [hl] at this; exact this
  obtain ⟨v, g1, g2, g3, _⟩ := (blanks_in w m).cell (i := j) (by rw [hl]; exact hj)
  have hb : (blanks m).getD j blank = blank := by simp [blanks, List.getD_eq_getElem?_getD, List.getElem?_replicate, hj]
  have hx2 : x = blank := by
    unfold blanks at hx
    rw [List.getElem?_replicate, if_pos hj] at hx
    injection hx with hx
    exact hx.symm
  rw [hb] at g1 g3
  subst hx2
  rw [Nat.zero_add]
  obtain ⟨r1, r2⟩ := flatC_get (l := List.replicate m ((0 : Int), Value.slice none 0 0)) (k := j) (r := (0, .slice none 0 0)) (by rw [List.getElem?_replicate, if_pos hj])
  refine ⟨g1, fun f => f.elim, .slice none 0 0, ?_, TextAt.nil _ _ _⟩
  have h9 := heap_alloc_new w (.cells (flatC (List.replicate m ((0 : Int), Value.slice none 0 0))).toArray 80)
  simp only [World.cell?, h9]
  simpa using r2

theorem row_new (w : World) (m : Nat) (h1 : 1 ≤ m) (h2 : m ≤ 1024) : RowAt ((w.alloc (.cells (flatC (List.replicate m (0, .slice none 0 0))).toArray 80)).alloc (.cells #[.slice (some ⟨w.heap.size, 0, none⟩) m m, .bool false] 198)) (w.heap.size + 1) w.heap.size (blanks m, false) := by
  have hl : (blanks m).length = m := by simp [blanks]
  have h9 := heap_alloc_new (w.alloc (.cells (flatC (List.replicate m ((0 : Int), Value.slice none 0 0))).toArray 80)) (.cells #[.slice (some ⟨w.heap.size, 0, none⟩) m m, .bool false] 198)
  rw [World.size_alloc] at h9
  exact ⟨by rw [hl]; exact h9, (blanks_in w m).turn (Turn.alloc (fun _ => False) _ _) (Free.no _ _) id, by rw [hl]; exact h1, by rw [hl]; exact h2⟩

set_option maxRecDepth 100000 in
set_option maxHeartbeats 4000000 in
theorem new_any (n : Int) (m : Nat) (hm : (m : Int) = max 1 (min n 1024)) (w : World) :
    Calls Tryz.prog 119 #[.int .i64 n] w fun e w' => e = .returned (.pointer (some ⟨w.heap.size + 1, 0, none⟩)) ∧ RowAt w' (w.heap.size + 1) w.heap.size (blanks m, false) ∧ Below w.heap.size w w' ∧ w'.heap.size = w.heap.size + 2 := by
  have HF : Hid (∀ W, W = w.alloc (.cells (flatC (List.replicate m (0, .slice none 0 0))).toArray 80) → RowAt (W.alloc (.cells #[.slice (some ⟨w.heap.size, 0, none⟩) m m, .bool false] 198)) (w.heap.size + 1) w.heap.size (blanks m, false) ∧ Below w.heap.size w (W.alloc (.cells #[.slice (some ⟨w.heap.size, 0, none⟩) m m, .bool false] 198)) ∧ (W.alloc (.cells #[.slice (some ⟨w.heap.size, 0, none⟩) m m, .bool false] 198)).heap.size = w.heap.size + 2 ∧ W.heap.size = w.heap.size + 1) := Lib.hid fun W hW => by
    subst hW
    exact ⟨row_new w m (by omega) (by omega), ((Below.refl _ _).alloc (Nat.le_refl _) _).alloc (by simp) _, by simp, by simp⟩
  have HB := Lib.hid (fun (z : Int) (hz : max 1 (min n 1024) = max 0 (min z 1024)) => blanks_any z m (by omega) w)
  go_enter Tryz.func119, Tryz.ntmps119
  go_wp2_with fail
  all_goals
    refine (HB.out _ (by omega)).mono ?_
    rintro e w1 ⟨rfl, h⟩
    obtain ⟨g1, g2, g3, g4⟩ := HF.out w1 h
    have HG := Lib.hid (And.intro g1 (And.intro g2 g3))
    clear g1 g2 g3 h
    go_wp2_with fail
    go_ret
    exact ⟨rfl, HG.out⟩
end Go.Proofs.YtjicdcmdgbcdcaaGreatDoor.Scr
end
section
namespace Go.Proofs.YtjicdcmdgbcdcaaGreatDoor.Scr
set_option linter.unusedSimpArgs false
set_option linter.unusedVariables false
open Go Go.RowKit Mem Turn Ring

theorem take_map_snoc {t : List Int} {k : Nat} (hk : k < t.length) (f : Int → Int) : ((t.take (k + 1)).map f) = (t.take k).map f ++ [f (t.getD k 0)] := by
  rw [List.take_add_one, List.map_append, List.getElem?_eq_getElem hk, List.getD_eq_getElem?_getD, List.getElem?_eq_getElem hk]
  rfl

set_option maxRecDepth 100000 in
set_option maxHeartbeats 8000000 in
theorem replace_any (D : Nat → Prop) (fz : Prop) (a : Option Addr) (n c : Nat) (t : List Int) (w : World) (h : TextAt D fz w (.slice a n c) t) :
    Calls Tryz.prog 290 #[.slice a n c] w fun e w' => ∃ v', e = .returned v' ∧ OwnTxt w w' v' (t.map fixR) ∧ Below w.heap.size w w' := by
  obtain ⟨i0, hi, hz0, hz1, hz2⟩ := info_parts info_rune
  have hln : t.length = n := by obtain ⟨a', c', e, _⟩ := h; injection e with _ e _; exact e.symm
  have H4 : Hid (t.length * 4 ≤ 140737488355328) := Lib.hid (by obtain ⟨_, _, _, _, e, _⟩ := h; exact e)
  have HN := Lib.hid hln
  have hm : n ≤ 35184372088832 := by have := H4.out; omega
  have HRD : Hid (∀ W, Below w.heap.size w W → Rd W a t) := Lib.hid fun W hb => rd_of (h.below hb)
  obtain ⟨w1, q, ho, hg⟩ := run_make_own (P := Tryz.prog) w w.heap.size 55 21 i0 _ 1 Tryz.underlying55 hi hz0 hz1 .i64 .i64 n (by rw [hz2]; omega) (by unfold maxLen; omega) (Nat.le_refl _)
  have HO := Lib.hid ho
  have HB1 : Hid (Below w.heap.size w w1) := Lib.hid ((Below.refl _ _).grown hg (Nat.le_refl _) (fun k e => by cases e))
  clear h hln ho hg
  go_enter Tryz.func290, Tryz.ntmps290
  go_wp2_with fail
  go_loopg [3, 5, 11] n (fun gg v3 v5 i wx => ∃ k : Nat, n - k = gg ∧ k ≤ n ∧ i = .int .i64 k ∧ Hid (wx.ownsRow w.heap.size 21 1 v3 k (((t.take k).map fixR).map (Value.int .i32)) ∧ Below w.heap.size w wx))
  case atStart => exact ⟨0, rfl, Nat.zero_le _, rfl, Lib.hid ⟨by simpa using HO.out, HB1.out⟩⟩
  case round =>
    obtain ⟨k, rfl, hk, rfl, H⟩ := hrel
    obtain ⟨av, cv, hav⟩ := Turn.own_slice H.out.1
    subst hav
    by_cases hlt : k < n
    · obtain ⟨b, off, rfl, hc⟩ := HRD.out wr H.out.2 k (by rw [HN.out]; exact hlt)
      have hlt' : (k : Int) < (n : Int) := by omega
      have HTK := Lib.hid (take_map_snoc (t := t) (k := k) (by rw [HN.out]; exact hlt) fixR)
      generalize hr : t.getD k 0 = r at *
      have HV := Lib.hid (valid_any r wr)
      have HFX := Lib.hid (show fixR r = if validB r then r else 65533 from rfl)
      clear hr
      cases hb : validB r
      all_goals
        rw [hb] at HV HFX
        clear hb
        go_wp2_with fail
        refine HV.out.mono ?_
        rintro e w2 ⟨rfl, rfl⟩
        go_wp2_with (at_builtin; (refine wpList_append_own _ rfl _ _ 55 rfl w.heap.size 21 i0 _ 1 4 Tryz.underlying55 hi hz0 hz1 hz2 rfl (by decide) (.slice av k cv) k _ rfl (H.out.1.alloc _) ⟨wr.heap.size, 0, none⟩ 1 1 [_] rfl rfl (cell_new1 _ _ _) (by simp [Value.oneCell']) (by unfold maxLen; omega) (by omega) (by have := H.out.2.size; simp; omega) ?_; intro v5 w5 hown5 hgrow5 _))
        have HR : Hid (w5.ownsRow w.heap.size 21 1 v5 (k + 1) (((t.take (k + 1)).map fixR).map (Value.int .i32)) ∧ Below w.heap.size w w5) := Lib.hid (by
          refine ⟨?_, Below.grown (H.out.2.alloc H.out.2.size _) hgrow5 (by have := H.out.2.size; simp; omega) (fun g e => (H.out.1.lt g e).1)⟩
          rw [HTK.out, HFX.out]
          simpa using hown5)
        clear hown5 hgrow5
        go_roundg (n - (k + 1))
        case measure => omega
        case rel => exact ⟨k + 1, rfl, by omega, by go_num, HR⟩
    · obtain rfl : k = n := by omega
      have HF : Hid (OwnTxt w wr (.slice av k cv) (t.map fixR) ∧ Below w.heap.size w wr) := Lib.hid (by
        have h1 := H.out.1
        rw [List.take_of_length_le (by rw [HN.out]; exact Nat.le_refl _)] at h1
        refine ⟨⟨by rw [List.length_map, HN.out]; exact h1, by rw [List.length_map]; exact H4.out⟩, H.out.2⟩)
      go_wp2_with fail
      go_ret
      exact ⟨_, rfl, HF.out.1, HF.out.2⟩

theorem text_take {D : Nat → Prop} {fz : Prop} {w : World} {a : Option Addr} {n c : Nat} {t : List Int} (h : TextAt D fz w (.slice a n c) t) (m : Nat) (hm : m ≤ n) : TextAt D fz w (.slice a m c) (t.take m) := by
  obtain ⟨a', c', e, h2, h3, h4⟩ := h
  injection e with e1 e2 e3
  subst e1 e2 e3
  have hl : (t.take m).length = m := by rw [List.length_take]; omega
  refine ⟨a, c, by rw [hl], by rw [hl]; omega, by rw [hl]; omega, ?_⟩
  rcases h4 with h4 | ⟨b, off, e, hb, hd, hc⟩
  · exact .inl (by rw [hl]; omega)
  · refine .inr ⟨b, off, e, hb, hd, fun j x hx => hc j x ?_⟩
    rw [List.getElem?_take] at hx
    split at hx
    · exact hx
    · cases hx

set_option maxRecDepth 100000 in
set_option maxHeartbeats 8000000 in
theorem of_one (D : Nat → Prop) (fz : Prop) (w : World) (wide : Int) (h : wide < 2) (a : Option Addr) (n c : Nat) (t : List Int) (hn : 0 < n) (ht : TextAt D fz w (.slice a n c) t) :
    Calls Tryz.prog 235 #[.int .i64 wide, .slice a n c] w fun e w' => ∃ v, e = .returned v ∧ CellsAt (fun b => w.heap.size ≤ b) False w' v [(1, (t.take 16).map fixR)] ∧ Below w.heap.size w w' := by
  obtain ⟨m, hm⟩ : ∃ m, m = min n 16 := ⟨_, rfl⟩
  have hnc : n ≤ c := by obtain ⟨a', c', e, h2, _⟩ := id ht; injection e with _ e1 e2; subst e1 e2; exact h2
  have hln : t.length = n := by obtain ⟨a', c', e, _⟩ := id ht; injection e with _ e _; exact e.symm
  have h64 : n ≤ 35184372088832 := by obtain ⟨_, _, _, _, e, _⟩ := id ht; omega
  have et : t.take m = t.take 16 := by
    subst hm
    by_cases h16 : n ≤ 16
    · rw [Nat.min_eq_left h16, List.take_of_length_le (by omega), List.take_of_length_le (by omega)]
    · rw [Nat.min_eq_right (by omega)]
  have e1 := heap_alloc_new w (.cells #[.int .i64 0, .slice none 0 0] 80)
  have hb1 : Below w.heap.size w (w.alloc (.cells #[.int .i64 0, .slice none 0 0] 80)) := (Below.refl _ _).alloc (Nat.le_refl _) _
  have hsz : (w.alloc (.cells #[.int .i64 0, .slice none 0 0] 80)).heap.size = w.heap.size + 1 := by simp
  have hmn : m ≤ n := by omega
  have HR := Lib.hid (replace_any D fz a m c (t.take 16) (w.alloc (.cells #[.int .i64 0, .slice none 0 0] 80)) (by rw [← et]; exact (text_take ht m hmn).below hb1))
  have hn' : ¬ n = 0 := by omega
  have hmi : (m : Int) = min (n : Int) 16 := by omega
  have HM := Lib.hid hmi
  have z0 : ((n : Int) == 0) = false := beq_eq_false_iff_ne.2 (by omega)
  have HT16 : Hid (((t.take 16).map fixR).length ≤ 16) := Lib.hid (by rw [List.length_map, List.length_take]; omega)
  generalize hT : (t.take 16).map fixR = T at *
  have hmc : (m : Int) ≤ (c : Int) := by omega
  clear hm hmi et ht hT hn'
  go_enter Tryz.func235, Tryz.ntmps235
  go_upto_region 6 with fail
  generalize (w.alloc (.cells #[.int .i64 0, .slice none 0 0] 80)) = w1 at *
  have q0 : w1.cell? ⟨w.heap.size, 0, none⟩ = some (.int .i64 0) := by simp [World.cell?, e1]
  have q1 : w1.cell? ⟨w.heap.size, 1, none⟩ = some (.slice none 0 0) := by simp [World.cell?, e1]
  have HE := Lib.hid e1
  have HB1 := Lib.hid hb1
  have HSZ := Lib.hid hsz
  clear e1 hb1 hsz
  have FIN : Hid (∀ w2 v', Below w1.heap.size w1 w2 → OwnTxt w1 w2 v' T → (w2.cell? ⟨w.heap.size, 0, none⟩ = some (.int .i64 0) ∧ w2.cell? ⟨w.heap.size, 1, none⟩ = some (.slice none 0 0) ∧ w2.frozen? ⟨w.heap.size, 0, none⟩ = false ∧ w2.frozen? ⟨w.heap.size, 1, none⟩ = false) ∧
      CellsAt (fun b => w.heap.size ≤ b) False ((w2.setCell ⟨w.heap.size, 0, none⟩ (.int .i64 1)).setCell ⟨w.heap.size, 1, none⟩ v') (.slice (some ⟨w.heap.size, 0, none⟩) 1 1) [(1, T)] ∧ Below w.heap.size w ((w2.setCell ⟨w.heap.size, 0, none⟩ (.int .i64 1)).setCell ⟨w.heap.size, 1, none⟩ v')) := Lib.hid fun w2 v' hb ho => by
    have h2 : w2.heap[w.heap.size]? = some (.cells #[.int .i64 0, .slice none 0 0] 80 (0, 0)) := (hb.block _ (by have := HSZ.out; omega)).trans HE.out
    refine ⟨⟨by simp [World.cell?, h2], by simp [World.cell?, h2], by simp [World.frozen?, h2], by simp [World.frozen?, h2]⟩, ?_⟩
    have T2 := putW_turn w2 w.heap.size 0 1 v'
    have hw : (w2.setCell ⟨w.heap.size, 0, none⟩ (.int .i64 1)).setCell ⟨w.heap.size, 1, none⟩ v' = putW w2 w.heap.size 0 1 v' := by simp [putW]
    rw [hw]
    have hi : CellsIn w2 w.heap.size [blank] := ⟨[(0, .slice none 0 0)], h2, txts_blanks w2 1⟩
    have hc := hi.put (i := 0) (k := 1) (by simp) ho.txt
    refine ⟨?_, (HB1.out.trans (hb.mono HB1.out.size)).trans (T2.below (by have := hb.size; have := HSZ.out; omega) (fun j e => by omega))⟩
    obtain ⟨u, g1, g2, g3, _⟩ := hc.cell (i := 0) (by simp)
    have hh := heap_set1 (cs := [.int .i64 0, .slice none 0 0]) h2 0 (.int .i64 1)
    have hh := heap_set1 hh 1 v'
    rw [hw] at hh
    refine ⟨_, 1, rfl, by simp, by simp, .inr ⟨w.heap.size, 0, rfl, hc.typ.lt, Nat.le_refl _, fun j x hx => ?_⟩⟩
    have hj : j = 0 := by have := (List.getElem?_eq_some_iff.1 hx).1; simp at this; exact this
    subst hj
    simp at hx
    subst hx
    refine ⟨by simp [World.cell?, hh], fun f => f.elim, v', by simp [World.cell?, hh], ?_⟩
    have ht2 : TextAt (fun b => w1.heap.size ≤ b) False (putW w2 w.heap.size 0 1 v') v' T := by
      have h9 : TextAt (fun b => w1.heap.size ≤ b) True w2 v' T := text_of_own ho.1 (fun g hg => (ho.1.lt g hg).1) ho.2
      exact TextAt.turn h9.soft T2 (fun b hb2 _ e => by have := HSZ.out; omega)
    exact ht2.mono (fun b hb2 _ => by have := HSZ.out; omega)
  rcases Nat.lt_or_ge 16 n with h16 | h16
  · obtain rfl : m = 16 := by have := HM.out; omega
    have y1 : (16 : Int) < (n : Int) := by omega
    go_wp2_with fail
    refine HR.out.mono ?_
    rintro e w2 ⟨v', rfl, ho, hb⟩
    obtain ⟨⟨x0, x1, y0, y1⟩, hf⟩ := FIN.out w2 v' hb ho
    obtain ⟨a', c', rfl⟩ := Turn.own_slice ho.1
    have HF := Lib.hid hf
    clear hf ho hb q0 q1
    go_wp2_with fail
    go_ret
    exact ⟨_, rfl, HF.out.1, HF.out.2⟩
  · obtain rfl : m = n := by have := HM.out; omega
    have y1 : (m : Int) ≤ 16 := by omega
    go_wp2_with fail
    refine HR.out.mono ?_
    rintro e w2 ⟨v', rfl, ho, hb⟩
    obtain ⟨⟨x0, x1, y0, y1⟩, hf⟩ := FIN.out w2 v' hb ho
    obtain ⟨a', c', rfl⟩ := Turn.own_slice ho.1
    have HF := Lib.hid hf
    clear hf ho hb q0 q1
    go_wp2_with fail
    go_ret
    exact ⟨_, rfl, HF.out.1, HF.out.2⟩

set_option maxRecDepth 100000 in
set_option maxHeartbeats 8000000 in
theorem of_two (D : Nat → Prop) (fz : Prop) (w : World) (wide : Int) (h : 2 ≤ wide) (a : Option Addr) (n c : Nat) (t : List Int) (hn : 0 < n) (ht : TextAt D fz w (.slice a n c) t) :
    Calls Tryz.prog 235 #[.int .i64 wide, .slice a n c] w fun e w' => ∃ v, e = .returned v ∧ CellsAt (fun b => w.heap.size ≤ b) False w' v [(2, (t.take 16).map fixR), (3, [])] ∧ Below w.heap.size w w' := by
  obtain ⟨ic, hic, hc0, hc1, hc2⟩ := info_parts info_cell
  obtain ⟨m, hm⟩ : ∃ m, m = min n 16 := ⟨_, rfl⟩
  have hnc : n ≤ c := by obtain ⟨a', c', e, h2, _⟩ := id ht; injection e with _ e1 e2; subst e1 e2; exact h2
  have hln : t.length = n := by obtain ⟨a', c', e, _⟩ := id ht; injection e with _ e _; exact e.symm
  have h64 : n ≤ 35184372088832 := by obtain ⟨_, _, _, _, e, _⟩ := id ht; omega
  have et : t.take m = t.take 16 := by
    subst hm
    by_cases h16 : n ≤ 16
    · rw [Nat.min_eq_left h16, List.take_of_length_le (by omega), List.take_of_length_le (by omega)]
    · rw [Nat.min_eq_right (by omega)]
  have hmn : m ≤ n := by omega
  have HR : Hid (∀ W, Below w.heap.size w W → Calls Tryz.prog 290 #[.slice a m c] W fun e w' => ∃ v', e = .returned v' ∧ OwnTxt W w' v' ((t.take 16).map fixR) ∧ Below W.heap.size W w') := Lib.hid fun W hb => replace_any D fz a m c (t.take 16) W (by rw [← et]; exact (text_take ht m hmn).below hb)
  have hmi : (m : Int) = min (n : Int) 16 := by omega
  have HM := Lib.hid hmi
  have z0 : ((n : Int) == 0) = false := beq_eq_false_iff_ne.2 (by omega)
  generalize hT : (t.take 16).map fixR = T at *
  have hmc : (m : Int) ≤ (c : Int) := by omega
  have ho1 : (w.alloc (.cells #[.int .i64 0, .slice none 0 0] 80)).ownsRow w.heap.size 80 2 (.slice (some ⟨w.heap.size, 0, none⟩) 1 1) 1 [.int .i64 0, .slice none 0 0] := World.ownsRow_lit w _ 1 (Nat.le_refl _) (by unfold maxLen; omega) rfl
  have HO1 := Lib.hid ho1
  clear hm hmi et ht hT ho1
  go_enter Tryz.func235, Tryz.ntmps235
  go_upto_region 3 with fail
  have HS1 : Hid ((w.alloc (.cells #[.int .i64 0, .slice none 0 0] 80)).heap.size = w.heap.size + 1) := Lib.hid (by simp)
  have HB1 : Hid (Below w.heap.size w (w.alloc (.cells #[.int .i64 0, .slice none 0 0] 80))) := Lib.hid ((Below.refl _ _).alloc (Nat.le_refl _) _)
  generalize (w.alloc (.cells #[.int .i64 0, .slice none 0 0] 80)) = w1 at *
  go_upto_region 6 with (at_builtin; (refine wpList_append_own _ rfl _ _ 43 rfl w.heap.size 80 ic _ 2 32 Tryz.underlying43 hic hc0 hc1 hc2 rfl (by decide) (.slice (some ⟨w.heap.size, 0, none⟩) 1 1) 1 _ rfl (HO1.out.alloc _) ⟨w1.heap.size, 0, none⟩ 1 1 [.int .i64 0, .slice none 0 0] rfl rfl (cell_new2 _ _ _ _) (by intro u hu; simp at hu; rcases hu with rfl | rfl <;> rfl) (by unfold maxLen; omega) (by omega) (by have := HS1.out; simp; omega) ?_; intro v5 w5 hown5 hgrow5 _))
  have hb5 : Below w.heap.size w w5 := Below.grown (HB1.out.alloc HB1.out.size _) hgrow5 (by have := HS1.out; simp; omega) (fun k e => by injection (show some w.heap.size = some k from e) with e; omega)
  obtain ⟨g, cap, cur, rfl, hgb, hg, hnc2, -, -, htk⟩ := hown5.2.resolve_left (fun e => by cases e.2)
  obtain ⟨rest, hrest⟩ : ∃ rest, cur.toList = [Value.int .i64 0, .slice none 0 0, .int .i64 0, .slice none 0 0] ++ rest := ⟨cur.toList.drop 4, by
    have h4 := (List.take_append_drop 4 cur.toList).symm
    rw [show List.take 4 cur.toList = [Value.int .i64 0, .slice none 0 0, .int .i64 0, .slice none 0 0] from htk] at h4
    exact h4⟩
  have hg' : w5.heap[g]? = some (.cells ([Value.int .i64 0, .slice none 0 0, .int .i64 0, .slice none 0 0] ++ rest).toArray 80 (0, 0)) := by rw [hg, ← hrest]
  have hgl : g < w5.heap.size := (Array.getElem?_eq_some_iff.1 hg).1
  have HB5 := Lib.hid hb5
  have HGB := Lib.hid hgb
  have FIN : Hid (∀ w6 v', Below w5.heap.size w5 w6 → OwnTxt w5 w6 v' T → (w6.cell? ⟨g, 0, none⟩ = some (.int .i64 0) ∧ w6.cell? ⟨g, 1, none⟩ = some (.slice none 0 0) ∧ w6.cell? ⟨g, 2, none⟩ = some (.int .i64 0) ∧ w6.frozen? ⟨g, 0, none⟩ = false ∧ w6.frozen? ⟨g, 1, none⟩ = false ∧ w6.frozen? ⟨g, 2, none⟩ = false) ∧
      ∀ W, W = (((w6.setCell ⟨g, 0, none⟩ (.int .i64 1)).setCell ⟨g, 1, none⟩ v').setCell ⟨g, 0, none⟩ (.int .i64 2)).setCell ⟨g, 2, none⟩ (.int .i64 3) →
      CellsAt (fun b => w.heap.size ≤ b) False W (.slice (some ⟨g, 0, none⟩) 2 cap) [(2, T), (3, [])] ∧ Below w.heap.size w W) := Lib.hid fun w6 v' hb ho => by
    have h6 := (hb.block _ hgl).trans hg'
    refine ⟨⟨by simp [World.cell?, h6], by simp [World.cell?, h6], by simp [World.cell?, h6], by simp [World.frozen?, h6], by simp [World.frozen?, h6], by simp [World.frozen?, h6]⟩, ?_⟩
    rintro W rfl
    have hh := heap_set1 (heap_set1 (heap_set1 (heap_set1 h6 0 (.int .i64 1)) 1 v') 0 (.int .i64 2)) 2 (.int .i64 3)
    have TW : Turn (fun b => b = g) w6 ((((w6.setCell ⟨g, 0, none⟩ (.int .i64 1)).setCell ⟨g, 1, none⟩ v').setCell ⟨g, 0, none⟩ (.int .i64 2)).setCell ⟨g, 2, none⟩ (.int .i64 3)) :=
      (((Turn.setCell (T := fun b => b = g) (p := ⟨g, 0, none⟩) w6 _ rfl).trans (Turn.setCell (T := fun b => b = g) (p := ⟨g, 1, none⟩) _ v' rfl)).trans (Turn.setCell (T := fun b => b = g) (p := ⟨g, 0, none⟩) _ _ rfl)).trans (Turn.setCell (T := fun b => b = g) (p := ⟨g, 2, none⟩) _ _ rfl)
    generalize ((((w6.setCell ⟨g, 0, none⟩ (.int .i64 1)).setCell ⟨g, 1, none⟩ v').setCell ⟨g, 0, none⟩ (.int .i64 2)).setCell ⟨g, 2, none⟩ (.int .i64 3)) = W at *
    have ht2 : TextAt (fun b => w5.heap.size ≤ b) False W v' T := TextAt.turn (text_of_own ho.1 (fun g hg => (ho.1.lt g hg).1) ho.2).soft TW (fun b hb2 _ e => by omega)
    refine ⟨⟨_, cap, rfl, by simpa using hnc2, by simp, .inr ⟨g, 0, rfl, (Array.getElem?_eq_some_iff.1 hh).1, HGB.out, fun j x hx => ?_⟩⟩, (HB5.out.trans (hb.mono HB5.out.size)).trans (TW.below (by have := HB5.out.size; have := hb.size; omega) (fun j e => by have := HGB.out; omega))⟩
    match j, hx with
    | 0, hx =>
      simp at hx
      subst hx
      exact ⟨by simp [World.cell?, hh], fun f => f.elim, v', by simp [World.cell?, hh], ht2.mono (fun b hb2 _ => by have := HB5.out.size; omega)⟩
    | 1, hx =>
      simp at hx
      subst hx
      exact ⟨by simp [World.cell?, hh], fun f => f.elim, .slice none 0 0, by simp [World.cell?, hh], TextAt.nil _ _ _⟩
  clear hown5 hgrow5 hb5 hgb hg hnc2 htk hrest hg' hgl HO1 HS1 HB1
  have HRW := Lib.hid (HR.out w5 HB5.out)
  clear HR
  rcases Nat.lt_or_ge 16 n with h16 | h16
  · obtain rfl : m = 16 := by have := HM.out; omega
    have y1 : (16 : Int) < (n : Int) := by omega
    go_wp2_with fail
    refine HRW.out.mono ?_
    rintro e w6 ⟨v', rfl, ho, hb⟩
    obtain ⟨⟨x0, x1, x2, y0, y1, y2⟩, hf⟩ := FIN.out w6 v' hb ho
    obtain ⟨a', c', rfl⟩ := Turn.own_slice ho.1
    have HF := Lib.hid hf
    clear hf ho hb
    go_wp2_with fail
    go_ret
    exact ⟨_, rfl, (HF.out _ rfl).1, (HF.out _ rfl).2⟩
  · obtain rfl : m = n := by have := HM.out; omega
    have y1 : (m : Int) ≤ 16 := by omega
    go_wp2_with fail
    refine HRW.out.mono ?_
    rintro e w6 ⟨v', rfl, ho, hb⟩
    obtain ⟨⟨x0, x1, x2, y0, y1, y2⟩, hf⟩ := FIN.out w6 v' hb ho
    obtain ⟨a', c', rfl⟩ := Turn.own_slice ho.1
    have HF := Lib.hid hf
    clear hf ho hb
    go_wp2_with fail
    go_ret
    exact ⟨_, rfl, (HF.out _ rfl).1, (HF.out _ rfl).2⟩
end Go.Proofs.YtjicdcmdgbcdcaaGreatDoor.Scr
end
section
namespace Go.Proofs.YtjicdcmdgbcdcaaGreatDoor.Scr
set_option linter.unusedSimpArgs false
set_option linter.unusedVariables false
open Go Go.RowKit Mem Turn Ring

/-- the package's errors are there -/
def Vars (w : World) : Prop := (∃ t v, w.cell? ⟨3, 0, none⟩ = some (.iface t v)) ∧ ∃ t v, w.cell? ⟨4, 0, none⟩ = some (.iface t v)
theorem Vars.turn {w w' : World} {T : Nat → Prop} (h : Vars w) (ht : Turn T w w') (h1 : ¬ T 3) (h2 : ¬ T 4) : Vars w' := by
  obtain ⟨⟨t, v, h3⟩, ⟨t', v', h4⟩⟩ := h
  exact ⟨⟨t, v, ht.cell h3 h1⟩, ⟨t', v', ht.cell h4 h2⟩⟩
/-- no error, or one -/
def ErrV (v : Value) : Prop := v = .nilIface ∨ ∃ t x, v = .iface t x

theorem putL_snoc (l : LineC) (a : Nat) (p : List CellC) (c : CellC) : putL l a (p ++ [c]) = putC (putL l a p) (a + p.length) c := by
  induction p generalizing l a with
  | nil => rfl
  | cons x p ih =>
    simp only [List.cons_append, putL, List.length_cons]
    rw [ih, show a + 1 + p.length = a + (p.length + 1) from by omega]

/-- what a painting finds and leaves -/
structure RowW (w : World) (ρ κ : Nat) (l : LineC) (wx : World) : Prop where
  row : RowAt wx ρ κ l
  turn : Turn (fun b => b = ρ ∨ b = κ) w wx

set_option maxRecDepth 100000 in
set_option maxHeartbeats 8000000 in
theorem paint_ok (ρ κ k : Nat) (l : LineC) (v : Value) (p : List CellC) (w : World) (h : RowAt w ρ κ l) (h0 : kindAt l.1 0 ≠ 3) (hp : CellsAt (fun b => b ≠ ρ ∧ b ≠ κ) False w v p) (hk : k + p.length ≤ l.1.length) (hpl : 0 < p.length) (hs : soundB p = true) :
    Calls Tryz.prog 234 #[.pointer (some ⟨ρ, 0, none⟩), .int .i64 (k : Int), v] w fun e w' => e = .returned .nilIface ∧ RowAt w' ρ κ (paintN l k p) ∧ Turn (fun b => b = ρ ∨ b = κ) w w' := by
  obtain ⟨a, c, rfl, hpc, h32, _⟩ := id hp
  have HSO := Lib.hid (sound_any _ _ _ p w hp)
  have HP := Lib.hid hp
  have HPN := Lib.hid (show paintN l k p = putL (tearR (tearL l k) (k + p.length)) k p from rfl)
  have hle := h.le
  obtain ⟨c0, _, _⟩ := h.hdr0
  have HH := Lib.hid h
  generalize hn : l.1.length = n at *
  generalize hm : p.length = m at *
  have HN := Lib.hid hn
  have HM := Lib.hid hm
  have H0 := Lib.hid h0
  have HS := Lib.hid hs
  rw [hs] at HSO
  have d1 : decide ((n : Int) < (k : Int)) = false := decide_eq_false (by omega)
  have d2 : decide (n < k) = false := decide_eq_false (by omega)
  have d3 : decide ((n : Int) - (k : Int) < (m : Int)) = false := decide_eq_false (by omega)
  have d4 : ((m : Int) == 0) = false := beq_eq_false_iff_ne.2 (by omega)
  clear h hp hn hm h0 hs
  go_enter Tryz.func234, Tryz.ntmps234
  go_wp2_with fail
  refine HSO.out.mono ?_
  rintro e w1 ⟨rfl, hb⟩
  have HW1 : Hid (RowW w ρ κ l w1) := Lib.hid ⟨HH.out.turn (Turn.of_new hb : Turn (fun _ => False) w w1) (Free.no _ _) id id, (Turn.of_new hb : Turn (fun _ => False) w w1).mono (fun _ _ h => h.elim)⟩
  clear hb HSO c0
  have HK := Lib.hid (kind_in ρ κ k l w1 HW1.out.row (by rw [HN.out]; omega))
  go_wp2_with fail
  refine HK.out.mono ?_
  rintro e w2 ⟨rfl, rfl⟩
  clear HK
  obtain ⟨kk, hkk⟩ : ∃ kk, kk = kindAt l.1 k := ⟨_, rfl⟩
  rw [← hkk]
  have HKK := Lib.hid hkk
  clear hkk
  go_upto_if 51 with fail
  go_cut [56] (fun s wx => Hid (RowW w ρ κ (tearL l k) wx))
  case first =>
    by_cases h3 : kk = 3
    · have HT := Lib.hid (show tearL l k = putC l (k - 1) blank from if_pos (by rw [← HKK.out]; exact h3))
      have hk0 : 1 ≤ k := by
        rcases Nat.eq_zero_or_pos k with e | e
        · exact absurd (by rw [← e, ← HKK.out]; exact h3) H0.out
        · exact e
      have HPU := Lib.hid (put_any (fun _ => True) ρ κ (k - 1) l 0 (.slice none 0 0) [] w1 HW1.out.row (by rw [HN.out]; omega) (TextAt.nil _ _ _))
      rw [show ((k - 1 : Nat) : Int) = (k : Int) - 1 from by omega] at HPU
      have z : (kk == 3) = true := by simpa using h3
      clear h3
      go_wp2_with fail
      refine HPU.out.mono ?_
      rintro e w2 ⟨rfl, hr2, ht2⟩
      have HR2 : Hid (RowW w ρ κ (tearL l k) w2) := Lib.hid ⟨by rw [HT.out]; exact hr2, HW1.out.turn.trans ht2⟩
      clear hr2 ht2
      go_wp2_with fail
      go_meet
      exact HR2
    · have HT := Lib.hid (show tearL l k = l from if_neg (by rw [← HKK.out]; exact h3))
      have z : (kk == 3) = false := by simpa using h3
      clear h3
      go_wp2_with fail
      go_meet
      exact Lib.hid (by rw [HT.out]; exact HW1.out)
  case rest =>
    have HW2 := hcut
    clear hcut HW1
    have HK : Hid (Calls Tryz.prog 288 #[.pointer (some ⟨ρ, 0, none⟩), .int .i64 ((k : Int) + (m : Int))] wc fun e w' => e = .returned (.int .i64 (kindAt (tearL l k).1 (k + m))) ∧ wc = w') := Lib.hid (by
      by_cases hend : k + m < n
      · have := kind_in ρ κ (k + m) (tearL l k) _ HW2.out.row (by rw [tearL_len, HN.out]; exact hend)
        rw [show ((k + m : Nat) : Int) = (k : Int) + (m : Int) from by omega] at this
        exact this
      · have h3 : kindAt (tearL l k).1 (k + m) = 0 := by
          unfold kindAt
          rw [List.getD_eq_getElem?_getD, List.getElem?_eq_none (by rw [tearL_len, HN.out]; omega)]
          rfl
        rw [h3]
        exact kind_out ρ κ ((k : Int) + (m : Int)) (tearL l k) _ HW2.out.row (.inr (by rw [tearL_len, HN.out]; omega)))
    go_wp2_with fail
    refine HK.out.mono ?_
    rintro e w2 ⟨rfl, rfl⟩
    clear HK
    obtain ⟨ke, hke⟩ : ∃ ke, ke = kindAt (tearL l k).1 (k + m) := ⟨_, rfl⟩
    rw [← hke]
    have HKE := Lib.hid hke
    clear hke
    go_upto_if 64 with fail
    go_cut [68] (fun s wx => Hid (RowW w ρ κ (tearR (tearL l k) (k + m)) wx))
    case first =>
      by_cases h3 : ke = 3
      · have HT := Lib.hid (show tearR (tearL l k) (k + m) = putC (tearL l k) (k + m) blank from if_pos (by rw [← HKE.out]; exact h3))
        have hend : k + m < n := by
          rcases Nat.lt_or_ge (k + m) n with e | e
          · exact e
          · exfalso
            have h4 : kindAt (tearL l k).1 (k + m) = 0 := by
              unfold kindAt
              rw [List.getD_eq_getElem?_getD, List.getElem?_eq_none (by rw [tearL_len, HN.out]; omega)]
              rfl
            have := HKE.out
            omega
        have HPU := Lib.hid (put_any (fun _ => True) ρ κ (k + m) (tearL l k) 0 (.slice none 0 0) [] _ HW2.out.row (by rw [tearL_len, HN.out]; omega) (TextAt.nil _ _ _))
        rw [show ((k + m : Nat) : Int) = (k : Int) + (m : Int) from by omega] at HPU
        have z : (ke == 3) = true := by simpa using h3
        clear h3
        go_wp2_with fail
        refine HPU.out.mono ?_
        rintro e w2 ⟨rfl, hr2, ht2⟩
        have HR2 : Hid (RowW w ρ κ (tearR (tearL l k) (k + m)) w2) := Lib.hid ⟨by rw [HT.out]; exact hr2, HW2.out.turn.trans ht2⟩
        clear hr2 ht2
        go_wp2_with fail
        go_meet
        exact HR2
      · have HT := Lib.hid (show tearR (tearL l k) (k + m) = tearL l k from if_neg (by rw [← HKE.out]; exact h3))
        have z : (ke == 3) = false := by simpa using h3
        clear h3
        go_wp2_with fail
        go_meet
        exact Lib.hid (by rw [HT.out]; exact HW2.out)
    case rest =>
      have HW3 := hcut
      clear hcut HW2
      generalize hL : tearR (tearL l k) (k + m) = L at *
      have HLL : Hid (L.1.length = n) := Lib.hid (by rw [← hL, tearR_len, tearL_len, HN.out])
      have HL := Lib.hid hL
      clear hL
      go_wp2_with fail
      go_loopg [8, 9, 71] m (fun gg v8 v9 i wx => ∃ j : Nat, m - j = gg ∧ j ≤ m ∧ i = .int .i64 j ∧ Hid (RowW w ρ κ (putL L k (p.take j)) wx))
      case atStart => exact ⟨0, rfl, Nat.zero_le _, rfl, HW3⟩
      case round =>
        obtain ⟨j, rfl, hj, rfl, H⟩ := hrel
        by_cases hlt : j < m
        · have hp2 := TextAt.mono (D' := fun _ => True) (TextAt.nil (fun _ => True) False w) (fun _ _ _ => trivial)
          obtain ⟨b, off, rfl, hbs, hbD, hcell⟩ : ∃ b off, a = some ⟨b, off, none⟩ ∧ b < w.heap.size ∧ (b ≠ ρ ∧ b ≠ κ) ∧ ∀ (j : Nat) (x : CellC), p[j]? = some x → w.cell? ⟨b, off + j * 2, none⟩ = some (.int .i64 x.1) ∧ (False → w.frozen? ⟨b, off + j * 2, none⟩ = false) ∧ ∃ tv, w.cell? ⟨b, off + j * 2 + 1, none⟩ = some tv ∧ TextAt (fun b => b ≠ ρ ∧ b ≠ κ) False w tv x.2 := by
            obtain ⟨a', c', e, _, _, h4⟩ := HP.out
            injection e with e1 _ _
            subst e1
            exact h4.resolve_left (by rw [HM.out]; omega)
          obtain ⟨x, hx⟩ : ∃ x, p[j]? = some x := ⟨_, List.getElem?_eq_getElem (by rw [HM.out]; exact hlt)⟩
          obtain ⟨y0, _, tv, y1, hty⟩ := hcell j x hx
          have hT := H.out.turn
          have x0 := hT.cell y0 (fun e => e.elim hbD.1 hbD.2)
          have x1 := hT.cell y1 (fun e => e.elim hbD.1 hbD.2)
          have hty1 : TextAt (fun b => b ≠ ρ ∧ b ≠ κ) False wr tv x.2 := TextAt.turn hty hT (fun b hb _ e => e.elim hb.1 hb.2)
          have hlt' : (j : Int) < (m : Int) := by omega
          have hpt : p.take (j + 1) = p.take j ++ [x] := by rw [List.take_add_one, hx]; rfl
          have hlen : (p.take j).length = j := by rw [List.length_take, HM.out]; omega
          have HPS : Hid (putL L k (p.take (j + 1)) = putC (putL L k (p.take j)) (k + j) x) := Lib.hid (by rw [hpt, putL_snoc, hlen])
          obtain ⟨kd, tx⟩ := x
          simp only at x0 hty1
          obtain ⟨at1, ct1, rfl, _⟩ := id hty1
          generalize htn : tx.length = tn at *
          have T2 : Turn (fun _ => False) wr (wr.alloc (.cells #[.int .i64 kd, .slice at1 tn ct1] 80)) := Turn.alloc _ _ _
          have HR2 : Hid (RowAt (wr.alloc (.cells #[.int .i64 kd, .slice at1 tn ct1] 80)) ρ κ (putL L k (p.take j))) := Lib.hid (H.out.row.turn T2 (Free.no _ _) id id)
          have HT2 := Lib.hid (H.out.turn.trans (T2.mono (fun _ _ h => h.elim)))
          have HPU := Lib.hid (put_any (fun b => b ≠ ρ ∧ b ≠ κ) ρ κ (k + j) (putL L k (p.take j)) kd (.slice at1 tn ct1) tx _ HR2.out (by rw [putL_len, HLL.out]; omega) (TextAt.turn hty1 T2 (fun _ _ _ => id)))
          rw [show ((k + j : Nat) : Int) = (k : Int) + (j : Int) from by omega] at HPU
          have hnew : (wr.alloc (.cells #[.int .i64 0, .slice none 0 0] 80)).heap[wr.heap.size]? = some (.cells #[.int .i64 0, .slice none 0 0] 80 (0, 0)) := heap_alloc_new wr _
          have hrow : (wr.alloc (.cells #[.int .i64 0, .slice none 0 0] 80)).setRow wr.heap.size #[.int .i64 kd, .slice at1 tn ct1] = wr.alloc (.cells #[.int .i64 kd, .slice at1 tn ct1] 80) := World.setRow_alloc_new wr _ _ _
          have e2 := heap_alloc_new wr (.cells #[.int .i64 kd, .slice at1 tn ct1] 80)
          clear hx hcell y0 y1 hty hty1 T2 hT hpt hlen htn hp2 hbD hbs
          go_upto_region 15 with (refine wpList_store_row rfl 80 _ _ rfl wr.heap.size #[.int .i64 kd, .slice at1 tn ct1] rfl rfl _ _ hnew (size_cell _ _) rfl (one_cellR _ _ _ _) ?_)
          rw [hrow]
          generalize (wr.alloc (.cells #[.int .i64 kd, .slice at1 tn ct1] 80)) = w2 at *
          have q0 : w2.cell? ⟨wr.heap.size, 0, none⟩ = some (.int .i64 kd) := by simp [World.cell?, e2]
          have q1 : w2.cell? ⟨wr.heap.size, 1, none⟩ = some (.slice at1 tn ct1) := by simp [World.cell?, e2]
          clear e2 hnew hrow
          go_wp2_with fail
          refine HPU.out.mono ?_
          rintro e w3 ⟨rfl, hr3, ht3⟩
          have HR3 : Hid (RowW w ρ κ (putL L k (p.take (j + 1))) w3) := Lib.hid ⟨by rw [HPS.out]; exact hr3, HT2.out.trans ht3⟩
          clear hr3 ht3 q0 q1
          go_wp2_with fail
          go_roundg (m - (j + 1))
          case measure => omega
          case rel => exact ⟨j + 1, rfl, by omega, by go_num, HR3⟩
        · obtain rfl : j = m := by omega
          have HF : Hid (RowW w ρ κ (paintN l k p) wr) := Lib.hid (by
            have := H.out
            rw [List.take_of_length_le (by rw [HM.out]; exact Nat.le_refl _)] at this
            rw [HPN.out]
            exact this)
          go_wp2_with fail
          go_ret
          exact ⟨rfl, HF.out.row, HF.out.turn⟩

set_option maxRecDepth 100000 in
set_option maxHeartbeats 4000000 in
/-- what cannot be painted -/
theorem paint_no (ρ κ : Nat) (at_ : Int) (l : LineC) (v : Value) (p : List CellC) (D : Nat → Prop) (w : World) (h : RowAt w ρ κ l) (hv : Vars w) (hp : CellsAt D False w v p) (hg1 : 3 < w.heap.size) (ha1 : -9223372036854775808 ≤ at_) (ha2 : at_ ≤ 9223372036854775807)
    (hno : (at_ < 0 ∨ (l.1.length : Int) < at_ ∨ (l.1.length : Int) - at_ < p.length) ∨ soundB p = false ∨ p = []) :
    Calls Tryz.prog 234 #[.pointer (some ⟨ρ, 0, none⟩), .int .i64 at_, v] w fun e w' => (∃ v, ErrV v ∧ e = .returned v) ∧ Below w.heap.size w w' := by
  obtain ⟨a, c, rfl, hpc, h32, _⟩ := id hp
  have HSO := Lib.hid (sound_any _ _ _ p w hp)
  obtain ⟨⟨t3, v3, e3⟩, ⟨t4, v4, e4⟩⟩ := hv
  have hle := h.le
  obtain ⟨c0, _, _⟩ := h.hdr0
  have hlen : p = [] ↔ p.length = 0 := by simp
  rw [hlen] at hno
  have HV3 : Hid (ErrV (.iface t3 v3)) := Lib.hid (.inr ⟨_, _, rfl⟩)
  have HV4 : Hid (ErrV (.iface t4 v4)) := Lib.hid (.inr ⟨_, _, rfl⟩)
  have HV0 : Hid (ErrV .nilIface) := Lib.hid (.inl rfl)
  generalize l.1.length = n at *
  generalize p.length = m at *
  generalize hso : soundB p = so at *
  have hm : m ≤ 4398046511104 := by omega
  clear h hp hlen
  by_cases h1 : at_ < 0
  · clear hno
    go_enter Tryz.func234, Tryz.ntmps234
    go_wp2_with fail
    go_ret
    exact ⟨⟨_, HV4.out, rfl⟩, Below.refl _ _⟩
  · have h1' : 0 ≤ at_ := by omega
    by_cases h2 : (n : Int) < at_
    · clear hno
      go_enter Tryz.func234, Tryz.ntmps234
      go_wp2_with fail
      go_ret
      exact ⟨⟨_, HV4.out, rfl⟩, Below.refl _ _⟩
    · have h2' : at_ ≤ (n : Int) := by omega
      by_cases h3 : (n : Int) - at_ < (m : Int)
      · clear hno
        go_enter Tryz.func234, Tryz.ntmps234
        go_wp2_with fail
        go_ret
        exact ⟨⟨_, HV4.out, rfl⟩, Below.refl _ _⟩
      · have d3 : decide ((n : Int) - at_ < (m : Int)) = false := decide_eq_false h3
        cases hs : so with
        | false =>
          subst hs
          clear hno h3 h1 h2
          go_enter Tryz.func234, Tryz.ntmps234
          go_wp2_with fail
          refine HSO.out.mono ?_
          rintro e w1 ⟨rfl, hb⟩
          have e3' := (hb.cell (p := ⟨3, 0, none⟩) hg1).trans e3
          have HB := Lib.hid hb
          clear hb
          go_wp2_with fail
          go_ret
          exact ⟨⟨_, HV3.out, rfl⟩, HB.out⟩
        | true =>
          subst hs
          have hm0 : m = 0 := by
            rcases hno with hno | hno | hno
            · omega
            · cases hno
            · exact hno
          subst hm0
          clear hno h3 h1 h2
          go_enter Tryz.func234, Tryz.ntmps234
          go_wp2_with fail
          refine HSO.out.mono ?_
          rintro e w1 ⟨rfl, hb⟩
          have HB := Lib.hid hb
          clear hb
          go_wp2_with fail
          go_ret
          exact ⟨⟨_, HV0.out, rfl⟩, HB.out⟩

/-- PAINT -/
theorem paint_any (ρ κ : Nat) (at_ : Int) (l : LineC) (v : Value) (p : List CellC) (w : World) (h : RowAt w ρ κ l) (h0 : kindAt l.1 0 ≠ 3) (hv : Vars w) (hp : CellsAt (fun b => b ≠ ρ ∧ b ≠ κ) False w v p) (hg1 : 3 < w.heap.size) (ha1 : -9223372036854775808 ≤ at_) (ha2 : at_ ≤ 9223372036854775807) :
    Calls Tryz.prog 234 #[.pointer (some ⟨ρ, 0, none⟩), .int .i64 at_, v] w fun e w' => (∃ v, ErrV v ∧ e = .returned v) ∧ RowAt w' ρ κ (paint l at_ p) ∧ Turn (fun b => b = ρ ∨ b = κ) w w' := by
  by_cases hno : (at_ < 0 ∨ (l.1.length : Int) < at_ ∨ (l.1.length : Int) - at_ < p.length) ∨ soundB p = false ∨ p = []
  · have e : paint l at_ p = l := by
      unfold paint
      split
      · rfl
      · rename_i h1
        split
        · rfl
        · rename_i h2
          rw [if_pos ((hno.resolve_left h1).resolve_left h2)]
    refine (paint_no ρ κ at_ l v p _ w h hv hp hg1 ha1 ha2 hno).mono ?_
    rintro x w' ⟨h1, h2⟩
    rw [e]
    have T : Turn (fun _ => False) w w' := Turn.of_new h2
    exact ⟨h1, h.turn T (Free.no _ _) id id, T.mono (fun _ _ h => h.elim)⟩
  · have h1 : ¬ (at_ < 0 ∨ (l.1.length : Int) < at_ ∨ (l.1.length : Int) - at_ < p.length) := fun x => hno (.inl x)
    have h2 : ¬ soundB p = false := fun x => hno (.inr (.inl x))
    have h3 : ¬ p = [] := fun x => hno (.inr (.inr x))
    obtain ⟨k, rfl⟩ : ∃ k : Nat, at_ = (k : Int) := ⟨at_.toNat, by omega⟩
    have e : paint l (k : Int) p = paintN l k p := by
      unfold paint
      rw [if_neg h1, if_neg h2, if_neg h3]
      rfl
    rw [e]
    refine (paint_ok ρ κ k l v p w h h0 hp (by omega) (List.length_pos_iff.2 h3) (by simpa using h2)).mono ?_
    rintro x w' ⟨rfl, h4, h5⟩
    exact ⟨⟨_, .inl rfl, rfl⟩, h4, h5⟩
end Go.Proofs.YtjicdcmdgbcdcaaGreatDoor.Scr
end

/-
  slices.Clone at texts of any length; ring.own.
  slices.Clone at texts; row.own: what they hand out is their own.
  slices.Clone at runes, for seats without package grapheme.
-/
import Derived.Test.YtjicdcmdgbcdcaaGreatDoorSd4
import Derived.Test.YtjicdcmdgbcdcaaGreatDoorSd10
import Derived.Test.YtjicdcmdgbcdcaaGreatDoorSd11
import Derived.Maps.AppendAt
import Derived.Deep.WholeRow
import Derived.Shelf.Abstract
import Derived.Deep.CutBlock
import Derived.Deep.DeepCutAuto
import Derived.Deep.AppendLies
section
namespace Go.Proofs.YtjicdcmdgbcdcaaGreatDoor.Ring
set_option linter.unusedSimpArgs false
set_option linter.unusedVariables false
open Go Go.RowKit Mem Turn

theorem info_rune : (Tryz.prog.info? 21).map (fun i => (i.zero, i.size, i.bytes)) = some (some (.int .i32 0), 1, 4) := by kernel_rfl
theorem info_cell : (Tryz.prog.info? 80).map (fun i => (i.zero, i.size, i.bytes)) = some (some (.agg #[.int .i64 0, .slice none 0 0]), 2, 32) := by kernel_rfl
theorem info_line : (Tryz.prog.info? 45).map (fun i => (i.zero, i.size, i.bytes)) = some (some (.agg #[.slice none 0 0, .bool false]), 2, 32) := by kernel_rfl

theorem size_line (x y : Value) : (Tryz.prog.info? 45).map (·.size) = some (#[x, y] : Array Value).size := by kernel_rfl
theorem size_cell (x y : Value) : (Tryz.prog.info? 80).map (·.size) = some (#[x, y] : Array Value).size := by kernel_rfl
theorem one_line (a : Option Addr) (n c : Nat) (b : Bool) : (#[.slice a n c, .bool b] : Array Value).all (·.oneCell') = true := by simp [Value.oneCell']
theorem one_cell (k : Int) (a : Option Addr) (n c : Nat) : (#[.int .i64 k, .slice a n c] : Array Value).all (·.oneCell') = true := by simp [Value.oneCell']

theorem text_of_own {D : Nat → Prop} {w : World} {base n : Nat} {v : Value} {t : List Int} (h : w.ownsRow base 21 1 v n (t.map (Value.int .i32))) (hD : ∀ g, v.ownBlock = some g → D g) (hs : t.length * 4 ≤ 140737488355328) : TextAt D True w v t := by
  have hl : t.length = n := by have := h.1; simp at this; omega
  obtain ⟨a, c, rfl, h2, h3⟩ := own_form h
  subst hl
  exact ⟨a, c, rfl, h2, hs, h3.imp id fun ⟨g, e, e2, hb, hg, hf, hc⟩ => ⟨g, 0, e, hg, hD g e2, fun j x hx => ⟨by rw [Nat.zero_add]; exact hc j _ (by rw [List.getElem?_map, hx]; rfl), fun _ => hf _⟩⟩⟩
theorem src_text {D : Nat → Prop} {fz : Prop} {w : World} {a : Option Addr} {n c : Nat} {t : List Int} (h : TextAt D fz w (.slice a n c) t) : Turn.Src w a n 1 (t.map (Value.int .i32)) := by
  obtain ⟨a', c', e, _, _, h4⟩ := h
  injection e with e1 e2 e3
  subst e1 e2 e3
  rcases h4 with h0 | ⟨b, off, rfl, _, _, hc⟩
  · have : t = [] := List.eq_nil_of_length_eq_zero h0
    subst this
    rcases a with _ | ad
    · exact .inl ⟨rfl, rfl, rfl⟩
    · exact .inr ⟨ad, rfl, by simp, fun j u hj => by simp at hj⟩
  · refine .inr ⟨_, rfl, by simp, fun j u hj => ?_⟩
    rw [List.getElem?_map, Option.map_eq_some_iff] at hj
    obtain ⟨x, hx, rfl⟩ := hj
    have e : (⟨b, off, none⟩ : Addr).add j = ⟨b, off + j, none⟩ := by
      unfold Addr.add
      split
      · rename_i h; rw [h, Nat.add_zero]
      · rfl
    rw [e]
    exact (hc j x hx).1
theorem one_cells (xs : List Int) : ∀ u ∈ xs.map (Value.int .i32), u.oneCell' = true := by
  intro u hu
  obtain ⟨x, _, rfl⟩ := List.mem_map.1 hu
  rfl

set_option maxHeartbeats 2000000 in
set_option maxRecDepth 100000 in
theorem clone_any (D : Nat → Prop) (fz : Prop) (v : Value) (t : List Int) (w : World) (h : TextAt D fz w v t) :
    Calls Tryz.prog 201 #[v] w fun e w' => ∃ v', e = .returned v' ∧ TextAt (fun b => w.heap.size ≤ b) True w' v' t ∧ Below w.heap.size w w' := by
  obtain ⟨i0, hi, hz0, hz1, hz2⟩ := info_parts info_rune
  have q22 : ∀ (w : World) (a : Option Addr) (n c n' c' : Nat), (binOp .eql 55 (.slice a n c) (.slice none n' c')).run Tryz.prog w = .ok (.bool a.isNone) w := fun w a n c n' c' => Lib.run_eql_slice_nil w _ _ a n c n' c' Tryz.underlying55
  obtain ⟨a, n, c, rfl⟩ : ∃ a n c, v = .slice a n c := by obtain ⟨a, c, e, _⟩ := h; exact ⟨_, _, _, e⟩
  have hs := src_text h
  have hln : t.length = n := by obtain ⟨a', c', e, _⟩ := h; injection e with _ e _; exact e.symm
  have h4 : Hid (t.length * 4 ≤ 140737488355328) := Lib.hid (by obtain ⟨_, _, _, _, e, _⟩ := h; exact e)
  rcases a with _ | ad
  · have h0 : t = [] := by
      rcases hs with ⟨_, h0, _⟩ | ⟨_, h0, _⟩
      · exact List.eq_nil_of_length_eq_zero (by omega)
      · cases h0
    subst h0
    simp at hln
    subst hln
    clear h hs h4
    go_enter Tryz.func201, Tryz.ntmps201
    go_wp2
    go_ret
    exact ⟨_, rfl, TextAt.nil _ _ _, Below.refl _ _⟩
  · have HS := Lib.hid (hs.keep ((Below.refl _ _).alloc (Nat.le_refl _) (.cells #[] 21)))
    have H3 : Hid ((w.alloc (.cells #[] 21)).ownsRow w.heap.size 21 1 (.slice (some ⟨w.heap.size, 0, none⟩) 0 0) 0 []) := World.ownsRow_made w #[] 0 (Nat.le_refl _) (by unfold maxLen; omega) rfl
    have HLN := Lib.hid hln
    have hm : n ≤ 35184372088832 := by have := h4.out; omega
    clear h hs hln
    go_enter Tryz.func201, Tryz.ntmps201
    go_wp2_with (at_builtin; (refine wpList_append_src _ rfl _ _ 55 rfl w.heap.size 21 i0 _ 1 4 Tryz.underlying55 hi hz0 hz1 hz2 rfl (by decide) _ 0 _ rfl H3.out (some ad) n c (t.map (Value.int .i32)) rfl HS.out (one_cells _) (by unfold maxLen; omega) (by omega) (by simp) ?_; intro v' w3 hown' hgrow))
    go_ret
    rw [Nat.zero_add, List.nil_append] at hown'
    exact ⟨v', rfl, text_of_own hown' (fun g hg => (hown'.lt g hg).1) h4.out, ((Below.refl _ _).alloc (Nat.le_refl _) _).grown hgrow (by simp) (fun k e => by injection (show some w.heap.size = some k from e) with e; omega)⟩

theorem turn_setRow (w : World) (g : Nat) (cs : Array Value) : Turn (fun j => j = g) w (w.setRow g cs) :=
  ⟨rfl, rfl, rfl, by simp [World.setRow], fun k _ hn => setRow_other w g k _ hn⟩

theorem cell_new2 (w : World) (v0 v1 : Value) (t : TypeId) : ∀ j u, [v0, v1][j]? = some u → (w.alloc (.cells #[v0, v1] t)).cell? ((⟨w.heap.size, 0, none⟩ : Addr).add j) = some u := by
  intro j u hj
  match j, hj with
  | 0, hj => simp at hj; subst hj; simp [Addr.add]
  | 1, hj => simp at hj; subst hj; simp [Addr.add]

/-- own's line so far: its box, the cells behind k rounds -/
def OwnR (w : World) (wr : Bool) (cs : List CellC) (k : Nat) (wx : World) : Prop :=
  ∃ v rs, wx.heap[w.heap.size + 1 + 1]? = some (.cells #[v, .bool wr] 45 (0, 0)) ∧ wx.heap[w.heap.size + 1]? = some (.cells #[.slice none 0 0, .bool false] 45 (0, 0)) ∧
    wx.ownsRow (w.heap.size + 3) 80 2 v k (flatC rs) ∧ TextsOf (fun b => w.heap.size + 3 ≤ b ∧ v.ownBlock ≠ some b) wx rs (cs.take k) ∧ Below w.heap.size w wx

/-- one element more onto a row of the call's own, and where it lies -/
theorem texts_grow {D D' : Nat → Prop} {w w' : World} {T : Nat → Prop} {rs : List (Int × Value)} {cs : List CellC} (h : TextsOf D w rs cs) (ht : Turn T w w') (hT : ∀ b, D b → b < w.heap.size → ¬ T b) (hD : ∀ b, D b → b < w.heap.size → D' b) : TextsOf D' w' rs cs :=
  ⟨h.1, fun j r x hr hx => ⟨(h.2 j r x hr hx).1, by
    have := (h.2 j r x hr hx).2
    have h2 : TextAt (fun b => D b ∧ b < w.heap.size) True w r.2 x.2 := by
      obtain ⟨a, c, e1, e2, e3, e4⟩ := this
      exact ⟨a, c, e1, e2, e3, e4.imp id fun ⟨b, off, g1, g2, g3, g4⟩ => ⟨b, off, g1, g2, ⟨g3, g2⟩, g4⟩⟩
    exact (h2.turn ht (fun b hb hlt => hT b hb.1 hlt)).mono (fun b hb _ => hD b hb.1 hb.2)⟩⟩
theorem texts_snoc {D : Nat → Prop} {w : World} {rs : List (Int × Value)} {cs : List CellC} {k : Nat} {x : CellC} {tv : Value} (h : TextsOf D w rs (cs.take k)) (hx : cs[k]? = some x) (ht : TextAt D True w tv x.2) : TextsOf D w (rs ++ [(x.1, tv)]) (cs.take (k + 1)) := by
  have hl : rs.length = k := by rw [h.1, List.length_take]; have := (List.getElem?_eq_some_iff.1 hx).1; omega
  refine ⟨by rw [List.length_append, h.1, List.take_add_one, hx]; simp, fun j r y hr hy => ?_⟩
  rcases Nat.lt_or_ge j k with h1 | h1
  · rw [List.getElem?_append_left (by omega)] at hr
    rw [List.getElem?_take, if_pos (by omega)] at hy
    exact h.2 j r y hr (by rw [List.getElem?_take, if_pos h1]; exact hy)
  · have hj : j = k := by
      have := (List.getElem?_eq_some_iff.1 hr).1
      simp at this
      omega
    subst hj
    rw [List.getElem?_append_right (by omega), hl, Nat.sub_self] at hr
    simp at hr
    subst hr
    rw [List.getElem?_take, if_pos (by omega), hx] at hy
    injection hy with hy
    subst hy
    exact ⟨rfl, ht⟩

end Go.Proofs.YtjicdcmdgbcdcaaGreatDoor.Ring
end
section
namespace Go.Proofs.YtjicdcmdgbcdcaaGreatDoor.Scr
set_option linter.unusedSimpArgs false
set_option linter.unusedVariables false
open Go Go.RowKit Mem Turn Ring

/-- a text of the call's own -/
def OwnTxt (w w' : World) (v : Value) (t : List Int) : Prop := w'.ownsRow w.heap.size 21 1 v t.length (t.map (Value.int .i32)) ∧ t.length * 4 ≤ 140737488355328
theorem owns_base {w : World} {b b' : Nat} {e : TypeId} {s n : Nat} {v : Value} {xs : List Value} (h : w.ownsRow b e s v n xs) (hb : b' ≤ b) : w.ownsRow b' e s v n xs := by
  refine ⟨h.1, h.2.imp id ?_⟩
  rintro ⟨g, cap, cur, h1, h2, h3⟩
  exact ⟨g, cap, cur, h1, Nat.le_trans hb h2, h3⟩
theorem OwnTxt.txt {w w' : World} {v : Value} {t : List Int} (h : OwnTxt w w' v t) : TxtAt w' v t := TxtAt.own h.1 h.2

set_option maxHeartbeats 2000000 in
set_option maxRecDepth 100000 in
theorem clone_own (D : Nat → Prop) (fz : Prop) (v : Value) (t : List Int) (w : World) (h : TextAt D fz w v t) :
    Calls Tryz.prog 201 #[v] w fun e w' => ∃ v', e = .returned v' ∧ OwnTxt w w' v' t ∧ Below w.heap.size w w' := by
  obtain ⟨i0, hi, hz0, hz1, hz2⟩ := info_parts info_rune
  have q22 : ∀ (w : World) (a : Option Addr) (n c n' c' : Nat), (binOp .eql 55 (.slice a n c) (.slice none n' c')).run Tryz.prog w = .ok (.bool a.isNone) w := fun w a n c n' c' => Lib.run_eql_slice_nil w _ _ a n c n' c' Tryz.underlying55
  obtain ⟨a, n, c, rfl⟩ : ∃ a n c, v = .slice a n c := by obtain ⟨a, c, e, _⟩ := h; exact ⟨_, _, _, e⟩
  have hs := src_text h
  have hln : t.length = n := by obtain ⟨a', c', e, _⟩ := h; injection e with _ e _; exact e.symm
  have h4 : Hid (t.length * 4 ≤ 140737488355328) := Lib.hid (by obtain ⟨_, _, _, _, e, _⟩ := h; exact e)
  rcases a with _ | ad
  · have h0 : t = [] := by
      rcases hs with ⟨_, h0, _⟩ | ⟨_, h0, _⟩
      · exact List.eq_nil_of_length_eq_zero (by omega)
      · cases h0
    subst h0
    simp at hln
    subst hln
    clear h hs h4
    go_enter Tryz.func201, Tryz.ntmps201
    go_wp2
    go_ret
    exact ⟨_, rfl, ⟨World.ownsRow_nil _ _ _ _, by simp⟩, Below.refl _ _⟩
  · have HS := Lib.hid (hs.keep ((Below.refl _ _).alloc (Nat.le_refl _) (.cells #[] 21)))
    have H3 : Hid ((w.alloc (.cells #[] 21)).ownsRow w.heap.size 21 1 (.slice (some ⟨w.heap.size, 0, none⟩) 0 0) 0 []) := World.ownsRow_made w #[] 0 (Nat.le_refl _) (by unfold maxLen; omega) rfl
    have HLN := Lib.hid hln
    have hm : n ≤ 35184372088832 := by have := h4.out; omega
    clear h hs hln
    go_enter Tryz.func201, Tryz.ntmps201
    go_wp2_with (at_builtin; (refine wpList_append_src _ rfl _ _ 55 rfl w.heap.size 21 i0 _ 1 4 Tryz.underlying55 hi hz0 hz1 hz2 rfl (by decide) _ 0 _ rfl H3.out (some ad) n c (t.map (Value.int .i32)) rfl HS.out (one_cells _) (by unfold maxLen; omega) (by omega) (by simp) ?_; intro v' w3 hown' hgrow))
    go_ret
    rw [Nat.zero_add, List.nil_append, ← HLN.out] at hown'
    exact ⟨v', rfl, ⟨hown', h4.out⟩, ((Below.refl _ _).alloc (Nat.le_refl _) _).grown hgrow (by simp) (fun k e => by injection (show some w.heap.size = some k from e) with e; omega)⟩

set_option maxHeartbeats 8000000 in
set_option maxRecDepth 100000 in
theorem own_any (D : Nat → Prop) (fz : Prop) (k : Int) (v : Value) (t : List Int) (w : World) (h : TextAt D fz w v t) :
    Calls Tryz.prog 133 #[.agg #[.int .i64 k, v]] w fun e w' => ∃ v', e = .returned (.agg #[.int .i64 k, v']) ∧ OwnTxt w w' v' t ∧ Below w.heap.size w w' := by
  have hmx : Tryz.prog.follows .mixedOrders = true := by kernel_rfl
  obtain ⟨a, c, rfl, _⟩ := id h
  generalize hn : t.length = n at *
  have T1 : Turn (fun _ => False) w ((w.alloc (.cells #[.int .i64 k, .slice a n c] 80)).alloc (.cells #[.int .i64 0, .slice none 0 0] 80)) := (Turn.alloc _ _ _).trans (Turn.alloc _ _ _)
  have e1 := heap_alloc_new w (.cells #[.int .i64 k, .slice a n c] 80)
  have e2 := hp_old (w.alloc (.cells #[.int .i64 k, .slice a n c] 80)) (.cells #[.int .i64 0, .slice none 0 0] 80) w.heap.size (by simp)
  rw [e1] at e2
  have e3 := heap_alloc_new (w.alloc (.cells #[.int .i64 k, .slice a n c] 80)) (.cells #[.int .i64 0, .slice none 0 0] 80)
  rw [World.size_alloc] at e3
  have hsz : ((w.alloc (.cells #[.int .i64 k, .slice a n c] 80)).alloc (.cells #[.int .i64 0, .slice none 0 0] 80)).heap.size = w.heap.size + 1 + 1 := by simp
  have HCL := Lib.hid (clone_own D fz (.slice a n c) t ((w.alloc (.cells #[.int .i64 k, .slice a n c] 80)).alloc (.cells #[.int .i64 0, .slice none 0 0] 80)).drew (TextAt.turn h (T1.trans (Turn.drew _ _)) (fun _ _ _ => id)))
  have HT1 := Lib.hid T1
  clear h T1 e1 hn
  go_enter Tryz.func133, Tryz.ntmps133
  go_upto_region 1 with fail
  generalize ((w.alloc (.cells #[.int .i64 k, .slice a n c] 80)).alloc (.cells #[.int .i64 0, .slice none 0 0] 80)) = w1 at *
  have q0 : w1.cell? ⟨w.heap.size, 0, none⟩ = some (.int .i64 k) := by simp [World.cell?, e2]
  have q1 : w1.cell? ⟨w.heap.size, 1, none⟩ = some (.slice a n c) := by simp [World.cell?, e2]
  have HS := Lib.hid hsz
  have HE3 := Lib.hid e3
  clear e2 e3 hsz
  refine region_begin3 (fun w' => w'.cell? ⟨w.heap.size, 0, none⟩ = some (.int .i64 k) ∧ w'.cell? ⟨w.heap.size, 1, none⟩ = some (.slice a n c)) (fun j => j == 6) 7 rfl hmx (by intro _ _ d _ _ h; cases d <;> exact h) fun hQP => ?_
  have hS : w1.drew.cell? ⟨w.heap.size, 0, none⟩ = some (.int .i64 k) ∧ w1.drew.cell? ⟨w.heap.size, 1, none⟩ = some (.slice a n c) := ⟨q0, q1⟩
  refine take_f 0 3 rfl rfl (by kernel_rfl) (by kernel_rfl) (by kernel_rfl) (by kernel_rfl) hQP hS (.inl ⟨by kernel_rfl, fun w' hw' => by obtain ⟨e0, e1⟩ := hw'; go_simp; try with_reducible rfl⟩) ?_
  refine take_f 1 4 rfl rfl (by kernel_rfl) (by kernel_rfl) (by kernel_rfl) (by kernel_rfl) hQP hS (.inl ⟨by kernel_rfl, fun w' hw' => by obtain ⟨e0, e1⟩ := hw'; go_simp; try with_reducible rfl⟩) ?_
  refine take_f 2 5 rfl rfl (by kernel_rfl) (by kernel_rfl) (by kernel_rfl) (by kernel_rfl) hQP hS (.inl ⟨by kernel_rfl, fun w' hw' => by obtain ⟨e0, e1⟩ := hw'; go_simp; try with_reducible rfl⟩) ?_
  refine take_f 3 6 rfl rfl (by kernel_rfl) (by kernel_rfl) (by kernel_rfl) (by kernel_rfl) hQP hS (.inl ⟨by kernel_rfl, fun w' hw' => by obtain ⟨e0, e1⟩ := hw'; go_simp; try with_reducible rfl⟩) ?_
  refine take_one (i := 4) (by kernel_rfl) rfl rfl fun KQ hK => ?_
  go_wp2_with fail
  refine HCL.out.mono ?_
  rintro e w2 ⟨v', rfl, ho, hb⟩
  have hS : w2.cell? ⟨w.heap.size, 0, none⟩ = some (.int .i64 k) ∧ w2.cell? ⟨w.heap.size, 1, none⟩ = some (.slice a n c) := ⟨(hb.cell (p := ⟨w.heap.size, 0, none⟩) (by have := HS.out; show w.heap.size < w1.heap.size; omega)).trans q0, (hb.cell (p := ⟨w.heap.size, 1, none⟩) (by have := HS.out; show w.heap.size < w1.heap.size; omega)).trans q1⟩
  refine hK _ _ (.inr hS) ?_
  clear hK q0 q1
  obtain ⟨a', c', rfl⟩ := Turn.own_slice ho.1
  have h2 : w2.heap[w.heap.size + 1]? = some (.cells #[.int .i64 0, .slice none 0 0] 80 (0, 0)) := (hb.block _ (by have := HS.out; show _ < w1.heap.size; omega)).trans HE3.out
  have HO := Lib.hid ho
  have HB := Lib.hid hb
  clear ho hb
  refine take_one (i := 5) (by kernel_rfl) rfl rfl fun KQ hK => ?_
  go_wp2_with fail
  refine hK _ _ (.inr hS) ?_
  clear hK
  refine take_store_row 6 (by kernel_rfl) rfl rfl rfl 80 (.tmp 2) (.tmp 8) rfl (w.heap.size + 1) #[.int .i64 k, .slice a' t.length c'] (by rfl) (by rfl) 80 #[.int .i64 0, .slice none 0 0] h2 (size_cell _ _) rfl (one_cell _ _ _ _) (.inl rfl) ?_
  refine take_done (by kernel_rfl) ?_ _
  have TR := turn_setRow w2 (w.heap.size + 1) #[.int .i64 k, .slice a' t.length c']
  have HF := Lib.hid (setRow_heap w2 (w.heap.size + 1) _ #[.int .i64 k, .slice a' t.length c'] 80 (0, 0) h2)
  have HP : Hid (OwnTxt w (w2.setRow (w.heap.size + 1) #[.int .i64 k, .slice a' t.length c']) (.slice a' t.length c') t ∧ Below w.heap.size w (w2.setRow (w.heap.size + 1) #[.int .i64 k, .slice a' t.length c'])) := Lib.hid (by
    have hs := HS.out
    have h1 : OwnTxt w w2 (.slice a' t.length c') t := ⟨owns_base HO.out.1 (by show w.heap.size ≤ w1.heap.size; omega), HO.out.2⟩
    have hb0 : Below w1.heap.size w1 w2 := (Below.refl _ _).drew.trans HB.out
    refine ⟨⟨TR.kept h1.1 (fun g hg e => ?_), h1.2⟩, (HT1.out.below (Nat.le_refl _) (fun _ h => h.elim)).trans (Below.trans (hb0.mono (by omega)) (TR.below (by have := hb0.size; omega) (fun j e => by omega)))⟩
    have := (HO.out.1.lt g hg).1
    have h9 : w1.drew.heap.size = w1.heap.size := rfl
    omega)
  clear h2 TR
  generalize (w2.setRow (w.heap.size + 1) #[.int .i64 k, .slice a' t.length c']) = w3 at *
  go_wp2_with fail
  refine bodyPost_ret (results_cell_row rfl _ _ (w.heap.size + 1) 80 _ (0, 0) _ rfl HF.out Tryz.underlying80 rfl (size_cell _ _)) rfl ?_
  exact ⟨_, rfl, HP.out.1, HP.out.2⟩
end Go.Proofs.YtjicdcmdgbcdcaaGreatDoor.Scr
end
section
namespace Go.Proofs.YtjicdcmdgbcdcaaGreatDoor.Gra
set_option linter.unusedSimpArgs false
set_option linter.unusedVariables false
open Go Go.RowKit Go.Shelf Mem Turn Same

theorem info_i32 : (Tryz.prog.info? 21).map (fun i => (i.zero, i.size, i.bytes)) = some (some (.int .i32 0), 1, 4) := by kernel_rfl

theorem one_cells (xs : List Int) (k : IntKind) : ∀ u ∈ xs.map (Value.int k), u.oneCell' = true := by
  intro u hu
  obtain ⟨x, _, rfl⟩ := List.mem_map.1 hu
  rfl

set_option maxHeartbeats 1000000 in
set_option maxRecDepth 100000 in
theorem clone_any (b off n c : Nat) (xs : List Int) (w : World) (hl : xs.length = n) (hb : b < w.heap.size) (hc : ∀ i x, xs[i]? = some x → w.cell? ⟨b, off + i, none⟩ = some (.int .i32 x)) (hn : n ≤ 100000) :
    Calls Tryz.prog 201 #[.slice (some ⟨b, off, none⟩) n c] w fun e w' => Fresh w w' 21 1 n (xs.map (Value.int .i32)) e := by
  obtain ⟨i0, hi, hz0, hz1, hz2⟩ := info_parts info_i32
  have H1 : Hid (∀ j u, (xs.map (Value.int .i32))[j]? = some u → (w.alloc (.cells #[] 21)).cell? ((⟨b, off, none⟩ : Addr).add j) = some u) := by
    intro j u hj
    rw [List.getElem?_map, Option.map_eq_some_iff] at hj
    obtain ⟨x, hx, rfl⟩ := hj
    rw [add_none, World.cell?_alloc_lt _ _ _ (by exact hb)]
    exact hc j x hx
  have H2 : Hid ((xs.map (Value.int .i32)).length = n * 1) := by rw [List.length_map, hl]; exact Lib.hid (by omega)
  have H3 : Hid ((w.alloc (.cells #[] 21)).ownsRow w.heap.size 21 1 (.slice (some ⟨w.heap.size, 0, none⟩) 0 0) 0 []) := World.ownsRow_made w #[] 0 (Nat.le_refl _) (by unfold maxLen; omega) rfl
  have q22 : ∀ (w : World) (a : Option Addr) (n c n' c' : Nat), (binOp .eql 55 (.slice a n c) (.slice none n' c')).run Tryz.prog w = .ok (.bool a.isNone) w := fun w a n c n' c' => Lib.run_eql_slice_nil w _ _ a n c n' c' Tryz.underlying55
  clear hc hl
  go_enter Tryz.func201, Tryz.ntmps201
  go_wp2_with (at_builtin; refine wpList_append_own _ rfl _ _ 55 rfl w.heap.size 21 i0 _ 1 4 Tryz.underlying55 hi hz0 hz1 hz2 rfl (by decide) _ 0 _ rfl H3.out ⟨b, off, none⟩ n c (xs.map (Value.int .i32)) rfl H2.out H1.out (one_cells _ _) (by unfold maxLen; omega) (by omega) (by simp) ?_; intro v' w3 hown' hgrow _)
  go_ret
  refine ⟨v', rfl, ?_, ((Below.refl _ _).alloc (Nat.le_refl _) _).grown hgrow (by simp) (fun k e => by injection (show some w.heap.size = some k from e) with e; omega)⟩
  rw [Nat.zero_add, List.nil_append] at hown'
  exact hown'


end Go.Proofs.YtjicdcmdgbcdcaaGreatDoor.Gra
end

/-
  slices.Clone at texts of any length; ring.own.
  slices.Clone at texts; row.own: what they hand out is their own.
  slices.Clone at runes, for seats without package grapheme.
  Package cluster: a block of seventeen cells.
-/
import Derived.Test.YtjicdcmdgbcdcaaGreatDoorCd2
import Derived.Test.YtjicdcmdgbcdcaaGreatDoorCd8
import Derived.Test.YtjicdcmdgbcdcaaGreatDoorCd9
import Derived.Maps.AppendAt
import Derived.Deep.WholeRow
import Derived.Shelf.Abstract
import Derived.Deep.CutBlock
import Derived.Deep.DeepCutAuto
import Derived.Deep.AppendLies
import Derived.Laws.CopyOwn
import Derived.RegionTactic
import Derived.IntWalk
section
namespace Go.Proofs.YtjicdcmdgbcdcaaGreatDoor.Ring
set_option linter.unusedSimpArgs false
set_option linter.unusedVariables false
open Go Go.RowKit Mem Turn

theorem info_rune : (Tryz.prog.info? 21).map (fun i => (i.zero, i.size, i.bytes)) = some (some (.int .i32 0), 1, 4) := by kernel_rfl
theorem info_cell : (Tryz.prog.info? 80).map (fun i => (i.zero, i.size, i.bytes)) = some (some (.agg #[.int .i64 0, .slice none 0 0]), 2, 32) := by kernel_rfl
theorem info_line : (Tryz.prog.info? 45).map (fun i => (i.zero, i.size, i.bytes)) = some (some (.agg #[.slice none 0 0, .bool false]), 2, 32) := by kernel_rfl

theorem size_cell (x y : Value) : (Tryz.prog.info? 80).map (·.size) = some (#[x, y] : Array Value).size := by kernel_rfl
theorem one_cellR (k : Int) (a : Option Addr) (n c : Nat) : (#[.int .i64 k, .slice a n c] : Array Value).all (·.oneCell') = true := by simp [Value.oneCell']

theorem text_of_own {D : Nat → Prop} {w : World} {base n : Nat} {v : Value} {t : List Int} (h : w.ownsRow base 21 1 v n (t.map (Value.int .i32))) (hD : ∀ g, v.ownBlock = some g → D g) (hs : t.length * 4 ≤ 140737488355328) : TextAt D True w v t := by
  have hl : t.length = n := by have := h.1; simp at this; omega
  obtain ⟨a, c, rfl, h2, h3⟩ := own_form h
  subst hl
  exact ⟨a, c, rfl, h2, hs, h3.imp id fun ⟨g, e, e2, hb, hg, hf, hc⟩ => ⟨g, 0, e, hg, hD g e2, fun j x hx => ⟨by rw [Nat.zero_add]; exact hc j _ (by rw [List.getElem?_map, hx]; rfl), fun _ => hf _⟩⟩⟩
theorem src_text {D : Nat → Prop} {fz : Prop} {w : World} {a : Option Addr} {n c : Nat} {t : List Int} (h : TextAt D fz w (.slice a n c) t) : Turn.Src w a n 1 (t.map (Value.int .i32)) := by
  obtain ⟨a', c', e, _, _, h4⟩ := h
  injection e with e1 e2 e3
  subst e1 e2 e3
  rcases h4 with h0 | ⟨b, off, rfl, _, _, hc⟩
  · have : t = [] := List.eq_nil_of_length_eq_zero h0
    subst this
    rcases a with _ | ad
    · exact .inl ⟨rfl, rfl, rfl⟩
    · exact .inr ⟨ad, rfl, by simp, fun j u hj => by simp at hj⟩
  · refine .inr ⟨_, rfl, by simp, fun j u hj => ?_⟩
    rw [List.getElem?_map, Option.map_eq_some_iff] at hj
    obtain ⟨x, hx, rfl⟩ := hj
    have e : (⟨b, off, none⟩ : Addr).add j = ⟨b, off + j, none⟩ := by
      unfold Addr.add
      split
      · rename_i h; rw [h, Nat.add_zero]
      · rfl
    rw [e]
    exact (hc j x hx).1
theorem one_cells (xs : List Int) : ∀ u ∈ xs.map (Value.int .i32), u.oneCell' = true := by
  intro u hu
  obtain ⟨x, _, rfl⟩ := List.mem_map.1 hu
  rfl

set_option maxHeartbeats 2000000 in
set_option maxRecDepth 100000 in
theorem clone_any (D : Nat → Prop) (fz : Prop) (v : Value) (t : List Int) (w : World) (h : TextAt D fz w v t) :
    Calls Tryz.prog 201 #[v] w fun e w' => ∃ v', e = .returned v' ∧ TextAt (fun b => w.heap.size ≤ b) True w' v' t ∧ Below w.heap.size w w' := by
  obtain ⟨i0, hi, hz0, hz1, hz2⟩ := info_parts info_rune
  have q22 : ∀ (w : World) (a : Option Addr) (n c n' c' : Nat), (binOp .eql 55 (.slice a n c) (.slice none n' c')).run Tryz.prog w = .ok (.bool a.isNone) w := fun w a n c n' c' => Lib.run_eql_slice_nil w _ _ a n c n' c' Tryz.underlying55
  obtain ⟨a, n, c, rfl⟩ : ∃ a n c, v = .slice a n c := by obtain ⟨a, c, e, _⟩ := h; exact ⟨_, _, _, e⟩
  have hs := src_text h
  have hln : t.length = n := by obtain ⟨a', c', e, _⟩ := h; injection e with _ e _; exact e.symm
  have h4 : Hid (t.length * 4 ≤ 140737488355328) := Lib.hid (by obtain ⟨_, _, _, _, e, _⟩ := h; exact e)
  rcases a with _ | ad
  · have h0 : t = [] := by
      rcases hs with ⟨_, h0, _⟩ | ⟨_, h0, _⟩
      · exact List.eq_nil_of_length_eq_zero (by omega)
      · cases h0
    subst h0
    simp at hln
    subst hln
    clear h hs h4
    go_enter Tryz.func201, Tryz.ntmps201
    go_wp2
    go_ret
    exact ⟨_, rfl, TextAt.nil _ _ _, Below.refl _ _⟩
  · have HS := Lib.hid (hs.keep ((Below.refl _ _).alloc (Nat.le_refl _) (.cells #[] 21)))
    have H3 : Hid ((w.alloc (.cells #[] 21)).ownsRow w.heap.size 21 1 (.slice (some ⟨w.heap.size, 0, none⟩) 0 0) 0 []) := World.ownsRow_made w #[] 0 (Nat.le_refl _) (by unfold maxLen; omega) rfl
    have HLN := Lib.hid hln
    have hm : n ≤ 35184372088832 := by have := h4.out; omega
    clear h hs hln
    go_enter Tryz.func201, Tryz.ntmps201
    go_wp2_with (at_builtin; (refine wpList_append_src _ rfl _ _ 55 rfl w.heap.size 21 i0 _ 1 4 Tryz.underlying55 hi hz0 hz1 hz2 rfl (by decide) _ 0 _ rfl H3.out (some ad) n c (t.map (Value.int .i32)) rfl HS.out (one_cells _) (by unfold maxLen; omega) (by omega) (by simp) ?_; intro v' w3 hown' hgrow))
    go_ret
    rw [Nat.zero_add, List.nil_append] at hown'
    exact ⟨v', rfl, text_of_own hown' (fun g hg => (hown'.lt g hg).1) h4.out, ((Below.refl _ _).alloc (Nat.le_refl _) _).grown hgrow (by simp) (fun k e => by injection (show some w.heap.size = some k from e) with e; omega)⟩

theorem turn_setRow (w : World) (g : Nat) (cs : Array Value) : Turn (fun j => j = g) w (w.setRow g cs) :=
  ⟨rfl, rfl, rfl, by simp [World.setRow], fun k _ hn => setRow_other w g k _ hn⟩

theorem cell_new2 (w : World) (v0 v1 : Value) (t : TypeId) : ∀ j u, [v0, v1][j]? = some u → (w.alloc (.cells #[v0, v1] t)).cell? ((⟨w.heap.size, 0, none⟩ : Addr).add j) = some u := by
  intro j u hj
  match j, hj with
  | 0, hj => simp at hj; subst hj; simp [Addr.add]
  | 1, hj => simp at hj; subst hj; simp [Addr.add]

/-- own's line so far: its box, the cells behind k rounds -/
def OwnR (w : World) (wr : Bool) (cs : List CellC) (k : Nat) (wx : World) : Prop :=
  ∃ v rs, wx.heap[w.heap.size + 1 + 1]? = some (.cells #[v, .bool wr] 45 (0, 0)) ∧ wx.heap[w.heap.size + 1]? = some (.cells #[.slice none 0 0, .bool false] 45 (0, 0)) ∧
    wx.ownsRow (w.heap.size + 3) 80 2 v k (flatC rs) ∧ TextsOf (fun b => w.heap.size + 3 ≤ b ∧ v.ownBlock ≠ some b) wx rs (cs.take k) ∧ Below w.heap.size w wx

end Go.Proofs.YtjicdcmdgbcdcaaGreatDoor.Ring
end
section
namespace Go.Proofs.YtjicdcmdgbcdcaaGreatDoor.Scr
set_option linter.unusedSimpArgs false
set_option linter.unusedVariables false
open Go Go.RowKit Mem Turn Ring

/-- a text of the call's own -/
def OwnTxt (w w' : World) (v : Value) (t : List Int) : Prop := w'.ownsRow w.heap.size 21 1 v t.length (t.map (Value.int .i32)) ∧ t.length * 4 ≤ 140737488355328
theorem owns_base {w : World} {b b' : Nat} {e : TypeId} {s n : Nat} {v : Value} {xs : List Value} (h : w.ownsRow b e s v n xs) (hb : b' ≤ b) : w.ownsRow b' e s v n xs := by
  refine ⟨h.1, h.2.imp id ?_⟩
  rintro ⟨g, cap, cur, h1, h2, h3⟩
  exact ⟨g, cap, cur, h1, Nat.le_trans hb h2, h3⟩
theorem OwnTxt.txt {w w' : World} {v : Value} {t : List Int} (h : OwnTxt w w' v t) : TxtAt w' v t := TxtAt.own h.1 h.2

set_option maxHeartbeats 2000000 in
set_option maxRecDepth 100000 in
theorem clone_own (D : Nat → Prop) (fz : Prop) (v : Value) (t : List Int) (w : World) (h : TextAt D fz w v t) :
    Calls Tryz.prog 201 #[v] w fun e w' => ∃ v', e = .returned v' ∧ OwnTxt w w' v' t ∧ Below w.heap.size w w' := by
  obtain ⟨i0, hi, hz0, hz1, hz2⟩ := info_parts info_rune
  have q22 : ∀ (w : World) (a : Option Addr) (n c n' c' : Nat), (binOp .eql 55 (.slice a n c) (.slice none n' c')).run Tryz.prog w = .ok (.bool a.isNone) w := fun w a n c n' c' => Lib.run_eql_slice_nil w _ _ a n c n' c' Tryz.underlying55
  obtain ⟨a, n, c, rfl⟩ : ∃ a n c, v = .slice a n c := by obtain ⟨a, c, e, _⟩ := h; exact ⟨_, _, _, e⟩
  have hs := src_text h
  have hln : t.length = n := by obtain ⟨a', c', e, _⟩ := h; injection e with _ e _; exact e.symm
  have h4 : Hid (t.length * 4 ≤ 140737488355328) := Lib.hid (by obtain ⟨_, _, _, _, e, _⟩ := h; exact e)
  rcases a with _ | ad
  · have h0 : t = [] := by
      rcases hs with ⟨_, h0, _⟩ | ⟨_, h0, _⟩
      · exact List.eq_nil_of_length_eq_zero (by omega)
      · cases h0
    subst h0
    simp at hln
    subst hln
    clear h hs h4
    go_enter Tryz.func201, Tryz.ntmps201
    go_wp2
    go_ret
    exact ⟨_, rfl, ⟨World.ownsRow_nil _ _ _ _, by simp⟩, Below.refl _ _⟩
  · have HS := Lib.hid (hs.keep ((Below.refl _ _).alloc (Nat.le_refl _) (.cells #[] 21)))
    have H3 : Hid ((w.alloc (.cells #[] 21)).ownsRow w.heap.size 21 1 (.slice (some ⟨w.heap.size, 0, none⟩) 0 0) 0 []) := World.ownsRow_made w #[] 0 (Nat.le_refl _) (by unfold maxLen; omega) rfl
    have HLN := Lib.hid hln
    have hm : n ≤ 35184372088832 := by have := h4.out; omega
    clear h hs hln
    go_enter Tryz.func201, Tryz.ntmps201
    go_wp2_with (at_builtin; (refine wpList_append_src _ rfl _ _ 55 rfl w.heap.size 21 i0 _ 1 4 Tryz.underlying55 hi hz0 hz1 hz2 rfl (by decide) _ 0 _ rfl H3.out (some ad) n c (t.map (Value.int .i32)) rfl HS.out (one_cells _) (by unfold maxLen; omega) (by omega) (by simp) ?_; intro v' w3 hown' hgrow))
    go_ret
    rw [Nat.zero_add, List.nil_append, ← HLN.out] at hown'
    exact ⟨v', rfl, ⟨hown', h4.out⟩, ((Below.refl _ _).alloc (Nat.le_refl _) _).grown hgrow (by simp) (fun k e => by injection (show some w.heap.size = some k from e) with e; omega)⟩

set_option maxHeartbeats 8000000 in
set_option maxRecDepth 100000 in
theorem own_any (D : Nat → Prop) (fz : Prop) (k : Int) (v : Value) (t : List Int) (w : World) (h : TextAt D fz w v t) :
    Calls Tryz.prog 133 #[.agg #[.int .i64 k, v]] w fun e w' => ∃ v', e = .returned (.agg #[.int .i64 k, v']) ∧ OwnTxt w w' v' t ∧ Below w.heap.size w w' := by
  have hmx : Tryz.prog.follows .mixedOrders = true := by kernel_rfl
  obtain ⟨a, c, rfl, _⟩ := id h
  generalize hn : t.length = n at *
  have T1 : Turn (fun _ => False) w ((w.alloc (.cells #[.int .i64 k, .slice a n c] 80)).alloc (.cells #[.int .i64 0, .slice none 0 0] 80)) := (Turn.alloc _ _ _).trans (Turn.alloc _ _ _)
  have e1 := heap_alloc_new w (.cells #[.int .i64 k, .slice a n c] 80)
  have e2 := hp_old (w.alloc (.cells #[.int .i64 k, .slice a n c] 80)) (.cells #[.int .i64 0, .slice none 0 0] 80) w.heap.size (by simp)
  rw [e1] at e2
  have e3 := heap_alloc_new (w.alloc (.cells #[.int .i64 k, .slice a n c] 80)) (.cells #[.int .i64 0, .slice none 0 0] 80)
  rw [World.size_alloc] at e3
  have hsz : ((w.alloc (.cells #[.int .i64 k, .slice a n c] 80)).alloc (.cells #[.int .i64 0, .slice none 0 0] 80)).heap.size = w.heap.size + 1 + 1 := by simp
  have HCL := Lib.hid (clone_own D fz (.slice a n c) t ((w.alloc (.cells #[.int .i64 k, .slice a n c] 80)).alloc (.cells #[.int .i64 0, .slice none 0 0] 80)).drew (TextAt.turn h (T1.trans (Turn.drew _ _)) (fun _ _ _ => id)))
  have HT1 := Lib.hid T1
  clear h T1 e1 hn
  go_enter Tryz.func133, Tryz.ntmps133
  go_upto_region 1 with fail
  generalize ((w.alloc (.cells #[.int .i64 k, .slice a n c] 80)).alloc (.cells #[.int .i64 0, .slice none 0 0] 80)) = w1 at *
  have q0 : w1.cell? ⟨w.heap.size, 0, none⟩ = some (.int .i64 k) := by simp [World.cell?, e2]
  have q1 : w1.cell? ⟨w.heap.size, 1, none⟩ = some (.slice a n c) := by simp [World.cell?, e2]
  have HS := Lib.hid hsz
  have HE3 := Lib.hid e3
  clear e2 e3 hsz
  refine region_begin3 (fun w' => w'.cell? ⟨w.heap.size, 0, none⟩ = some (.int .i64 k) ∧ w'.cell? ⟨w.heap.size, 1, none⟩ = some (.slice a n c)) (fun j => j == 6) 7 rfl hmx (by intro _ _ d _ _ h; cases d <;> exact h) fun hQP => ?_
  have hS : w1.drew.cell? ⟨w.heap.size, 0, none⟩ = some (.int .i64 k) ∧ w1.drew.cell? ⟨w.heap.size, 1, none⟩ = some (.slice a n c) := ⟨q0, q1⟩
  refine take_f 0 3 rfl rfl (by kernel_rfl) (by kernel_rfl) (by kernel_rfl) (by kernel_rfl) hQP hS (.inl ⟨by kernel_rfl, fun w' hw' => by obtain ⟨e0, e1⟩ := hw'; go_simp; try with_reducible rfl⟩) ?_
  refine take_f 1 4 rfl rfl (by kernel_rfl) (by kernel_rfl) (by kernel_rfl) (by kernel_rfl) hQP hS (.inl ⟨by kernel_rfl, fun w' hw' => by obtain ⟨e0, e1⟩ := hw'; go_simp; try with_reducible rfl⟩) ?_
  refine take_f 2 5 rfl rfl (by kernel_rfl) (by kernel_rfl) (by kernel_rfl) (by kernel_rfl) hQP hS (.inl ⟨by kernel_rfl, fun w' hw' => by obtain ⟨e0, e1⟩ := hw'; go_simp; try with_reducible rfl⟩) ?_
  refine take_f 3 6 rfl rfl (by kernel_rfl) (by kernel_rfl) (by kernel_rfl) (by kernel_rfl) hQP hS (.inl ⟨by kernel_rfl, fun w' hw' => by obtain ⟨e0, e1⟩ := hw'; go_simp; try with_reducible rfl⟩) ?_
  refine take_one (i := 4) (by kernel_rfl) rfl rfl fun KQ hK => ?_
  go_wp2_with fail
  refine HCL.out.mono ?_
  rintro e w2 ⟨v', rfl, ho, hb⟩
  have hS : w2.cell? ⟨w.heap.size, 0, none⟩ = some (.int .i64 k) ∧ w2.cell? ⟨w.heap.size, 1, none⟩ = some (.slice a n c) := ⟨(hb.cell (p := ⟨w.heap.size, 0, none⟩) (by have := HS.out; show w.heap.size < w1.heap.size; omega)).trans q0, (hb.cell (p := ⟨w.heap.size, 1, none⟩) (by have := HS.out; show w.heap.size < w1.heap.size; omega)).trans q1⟩
  refine hK _ _ (.inr hS) ?_
  clear hK q0 q1
  obtain ⟨a', c', rfl⟩ := Turn.own_slice ho.1
  have h2 : w2.heap[w.heap.size + 1]? = some (.cells #[.int .i64 0, .slice none 0 0] 80 (0, 0)) := (hb.block _ (by have := HS.out; show _ < w1.heap.size; omega)).trans HE3.out
  have HO := Lib.hid ho
  have HB := Lib.hid hb
  clear ho hb
  refine take_one (i := 5) (by kernel_rfl) rfl rfl fun KQ hK => ?_
  go_wp2_with fail
  refine hK _ _ (.inr hS) ?_
  clear hK
  refine take_store_row 6 (by kernel_rfl) rfl rfl rfl 80 (.tmp 2) (.tmp 8) rfl (w.heap.size + 1) #[.int .i64 k, .slice a' t.length c'] (by rfl) (by rfl) 80 #[.int .i64 0, .slice none 0 0] h2 (size_cell _ _) rfl (one_cellR _ _ _ _) (.inl rfl) ?_
  refine take_done (by kernel_rfl) ?_ _
  have TR := turn_setRow w2 (w.heap.size + 1) #[.int .i64 k, .slice a' t.length c']
  have HF := Lib.hid (setRow_heap w2 (w.heap.size + 1) _ #[.int .i64 k, .slice a' t.length c'] 80 (0, 0) h2)
  have HP : Hid (OwnTxt w (w2.setRow (w.heap.size + 1) #[.int .i64 k, .slice a' t.length c']) (.slice a' t.length c') t ∧ Below w.heap.size w (w2.setRow (w.heap.size + 1) #[.int .i64 k, .slice a' t.length c'])) := Lib.hid (by
    have hs := HS.out
    have h1 : OwnTxt w w2 (.slice a' t.length c') t := ⟨owns_base HO.out.1 (by show w.heap.size ≤ w1.heap.size; omega), HO.out.2⟩
    have hb0 : Below w1.heap.size w1 w2 := (Below.refl _ _).drew.trans HB.out
    refine ⟨⟨TR.kept h1.1 (fun g hg e => ?_), h1.2⟩, (HT1.out.below (Nat.le_refl _) (fun _ h => h.elim)).trans (Below.trans (hb0.mono (by omega)) (TR.below (by have := hb0.size; omega) (fun j e => by omega)))⟩
    have := (HO.out.1.lt g hg).1
    have h9 : w1.drew.heap.size = w1.heap.size := rfl
    omega)
  clear h2 TR
  generalize (w2.setRow (w.heap.size + 1) #[.int .i64 k, .slice a' t.length c']) = w3 at *
  go_wp2_with fail
  refine bodyPost_ret (results_cell_row rfl _ _ (w.heap.size + 1) 80 _ (0, 0) _ rfl HF.out Tryz.underlying80 rfl (size_cell _ _)) rfl ?_
  exact ⟨_, rfl, HP.out.1, HP.out.2⟩
end Go.Proofs.YtjicdcmdgbcdcaaGreatDoor.Scr
end
section
namespace Go.Proofs.YtjicdcmdgbcdcaaGreatDoor.Gra
set_option linter.unusedSimpArgs false
set_option linter.unusedVariables false
open Go Go.RowKit Go.Shelf Mem Turn Same

theorem info_i32 : (Tryz.prog.info? 21).map (fun i => (i.zero, i.size, i.bytes)) = some (some (.int .i32 0), 1, 4) := by kernel_rfl

theorem one_cells (xs : List Int) (k : IntKind) : ∀ u ∈ xs.map (Value.int k), u.oneCell' = true := by
  intro u hu
  obtain ⟨x, _, rfl⟩ := List.mem_map.1 hu
  rfl

set_option maxHeartbeats 1000000 in
set_option maxRecDepth 100000 in
theorem clone_any (b off n c : Nat) (xs : List Int) (w : World) (hl : xs.length = n) (hb : b < w.heap.size) (hc : ∀ i x, xs[i]? = some x → w.cell? ⟨b, off + i, none⟩ = some (.int .i32 x)) (hn : n ≤ 100000) :
    Calls Tryz.prog 201 #[.slice (some ⟨b, off, none⟩) n c] w fun e w' => Fresh w w' 21 1 n (xs.map (Value.int .i32)) e := by
  obtain ⟨i0, hi, hz0, hz1, hz2⟩ := info_parts info_i32
  have H1 : Hid (∀ j u, (xs.map (Value.int .i32))[j]? = some u → (w.alloc (.cells #[] 21)).cell? ((⟨b, off, none⟩ : Addr).add j) = some u) := by
    intro j u hj
    rw [List.getElem?_map, Option.map_eq_some_iff] at hj
    obtain ⟨x, hx, rfl⟩ := hj
    rw [add_none, World.cell?_alloc_lt _ _ _ (by exact hb)]
    exact hc j x hx
  have H2 : Hid ((xs.map (Value.int .i32)).length = n * 1) := by rw [List.length_map, hl]; exact Lib.hid (by omega)
  have H3 : Hid ((w.alloc (.cells #[] 21)).ownsRow w.heap.size 21 1 (.slice (some ⟨w.heap.size, 0, none⟩) 0 0) 0 []) := World.ownsRow_made w #[] 0 (Nat.le_refl _) (by unfold maxLen; omega) rfl
  have q22 : ∀ (w : World) (a : Option Addr) (n c n' c' : Nat), (binOp .eql 55 (.slice a n c) (.slice none n' c')).run Tryz.prog w = .ok (.bool a.isNone) w := fun w a n c n' c' => Lib.run_eql_slice_nil w _ _ a n c n' c' Tryz.underlying55
  clear hc hl
  go_enter Tryz.func201, Tryz.ntmps201
  go_wp2_with (at_builtin; refine wpList_append_own _ rfl _ _ 55 rfl w.heap.size 21 i0 _ 1 4 Tryz.underlying55 hi hz0 hz1 hz2 rfl (by decide) _ 0 _ rfl H3.out ⟨b, off, none⟩ n c (xs.map (Value.int .i32)) rfl H2.out H1.out (one_cells _ _) (by unfold maxLen; omega) (by omega) (by simp) ?_; intro v' w3 hown' hgrow _)
  go_ret
  refine ⟨v', rfl, ?_, ((Below.refl _ _).alloc (Nat.le_refl _) _).grown hgrow (by simp) (fun k e => by injection (show some w.heap.size = some k from e) with e; omega)⟩
  rw [Nat.zero_add, List.nil_append] at hown'
  exact hown'


end Go.Proofs.YtjicdcmdgbcdcaaGreatDoor.Gra
end
section
namespace Go.Proofs.YtjicdcmdgbcdcaaGreatDoor.Clu
set_option linter.unusedSimpArgs false
set_option linter.unusedVariables false
open Go Go.RowKit Mem Seg Turn Gra

/-- the cells of the cluster of these numbers (sixteen at most) -/
def cv (l : List Int) : List Value := l.map (Value.int .i32) ++ (List.replicate (16 - l.length) (.int .i32 0) ++ [.int .i64 l.length])
theorem cv_len {l : List Int} (h : l.length ≤ 16) : (cv l).length = 17 := by simp [cv]; omega
theorem cv_num {l : List Int} (h : l.length ≤ 16) : (cv l)[16]? = some (.int .i64 l.length) := by
  unfold cv
  rw [List.getElem?_append_right (by simpa using h), List.getElem?_append_right (by simp)]
  simp
theorem cv_text {l : List Int} {i : Nat} {x : Int} (h : l[i]? = some x) : (cv l)[i]? = some (.int .i32 x) := by
  unfold cv
  rw [List.getElem?_append_left (by simpa using (List.getElem?_eq_some_iff.1 h).1)]
  simp [h]
theorem cv_add {l : List Int} (h : l.length < 16) (r : Int) : ((cv l).set l.length (.int .i32 r)).set 16 (.int .i64 (l.length + 1)) = cv (l ++ [r]) := by
  obtain ⟨m, hm⟩ : ∃ m, 16 - l.length = m + 1 := ⟨15 - l.length, by omega⟩
  have hm' : 16 - (l.length + 1) = m := by omega
  unfold cv
  rw [hm, List.replicate_succ, List.set_append_right _ _ (by simp), List.length_map, Nat.sub_self]
  simp only [List.cons_append, List.set_cons_zero]
  rw [List.set_append_right _ _ (by simp; omega), List.length_map, hm]
  simp only [List.set_cons_succ]
  rw [List.set_append_right _ _ (by simp)]
  simp [hm']

def addL (l : List Int) (r : Int) : List Int := if l.length < 16 then l ++ [r] else l
theorem addL_take (l : List Int) (k : Nat) {x : Int} (h : l[k]? = some x) : addL ((l.take k).take 16) x = (l.take (k + 1)).take 16 := by
  have hk := (List.getElem?_eq_some_iff.1 h).1
  unfold addL
  rw [List.take_take, List.take_take]
  split
  · rename_i h1
    rw [List.length_take] at h1
    have e1 : min 16 k = k := by omega
    have e2 : min 16 (k + 1) = k + 1 := by omega
    rw [e1, e2, List.take_add_one, h]
    rfl
  · rename_i h1
    rw [List.length_take] at h1
    have e1 : min 16 k = 16 := by omega
    have e2 : min 16 (k + 1) = 16 := by omega
    rw [e1, e2]

/-- block q holds the cluster of these numbers -/
def CAt (w : World) (q : Nat) (l : List Int) : Prop := l.length ≤ 16 ∧ ∃ T, w.heap[q]? = some (.cells (cv l).toArray T (0, 0))
theorem CAt.lt {w : World} {q : Nat} {l : List Int} (h : CAt w q l) : q < w.heap.size := by
  obtain ⟨_, T, h⟩ := h
  exact Blk.lt (xs := _) ⟨T, (0, 0), h⟩
theorem CAt.below {w w' : World} {q B : Nat} {l : List Int} (h : CAt w q l) (hb : Below B w w') (hq : q < B) : CAt w' q l := by
  obtain ⟨h1, T, h⟩ := h
  exact ⟨h1, T, by rw [hb.block q hq, h]⟩
theorem CAt.num {w : World} {q : Nat} {l : List Int} (h : CAt w q l) : w.cell? ⟨q, 16, none⟩ = some (.int .i64 l.length) := by
  obtain ⟨h1, T, h⟩ := h
  simp [World.cell?, h, cv_num h1]
theorem CAt.text {w : World} {q : Nat} {l : List Int} (h : CAt w q l) {i : Nat} {x : Int} (hx : l[i]? = some x) : w.cell? ⟨q, i, none⟩ = some (.int .i32 x) := by
  obtain ⟨h1, T, h⟩ := h
  simp [World.cell?, h, cv_text hx]
theorem CAt.some {w : World} {q : Nat} {l : List Int} (h : CAt w q l) {i : Nat} (hi : i < 17) : ∃ v, w.cell? ⟨q, i, none⟩ = some v := by
  obtain ⟨h1, T, h⟩ := h
  exact ⟨_, by simp only [World.cell?, h]; simpa using List.getElem?_eq_getElem (by rw [cv_len h1]; exact hi)⟩
theorem CAt.frozen {w : World} {q : Nat} {l : List Int} (h : CAt w q l) (i : Nat) : w.frozen? ⟨q, i, none⟩ = false := by
  obtain ⟨h1, T, h⟩ := h
  simp [World.frozen?, h]
theorem CAt.add {w : World} {q : Nat} {l : List Int} (h : CAt w q l) (hl : l.length < 16) (r : Int) : CAt ((w.setCell ⟨q, l.length, none⟩ (.int .i32 r)).setCell ⟨q, 16, none⟩ (.int .i64 (l.length + 1))) q (l ++ [r]) := by
  obtain ⟨h1, T, h⟩ := h
  refine ⟨by simp; omega, T, ?_⟩
  rw [heap_setCell (heap_setCell h)]
  rw [← cv_add hl r]
  simp
theorem cat_new (w : World) (T : TypeId) (cs : Array Value) (h : cs = (cv []).toArray) : CAt (w.alloc (.cells cs T)) w.heap.size [] := ⟨by simp, T, by subst h; show (w.heap.push _)[w.heap.size]? = _; simp⟩

set_option maxHeartbeats 1000000 in
theorem len_any (q : Nat) (l : List Int) (w : World) (h : CAt w q l) :
    Calls Tryz.prog 292 #[.pointer (some ⟨q, 0, none⟩)] w fun e w' => e = .returned (.int .i64 l.length) ∧ w = w' := by
  have c16 := h.num
  clear h
  go_enter Tryz.func292, Tryz.ntmps292
  go_wp2
  go_ret
  exact ⟨rfl, rfl⟩

set_option maxHeartbeats 1000000 in
theorem full_any (q : Nat) (l : List Int) (w : World) (h : CAt w q l) :
    Calls Tryz.prog 243 #[.pointer (some ⟨q, 0, none⟩)] w fun e w' => e = .returned (.bool ((l.length : Int) == 16)) ∧ w = w' := by
  have H := Lib.hid h
  clear h
  go_enter Tryz.func243, Tryz.ntmps243
  go_wp2_with fail
  refine (len_any q l w H.out).mono ?_
  rintro e w1 ⟨rfl, rfl⟩
  go_wp2
  go_ret
  exact ⟨rfl, rfl⟩

set_option maxRecDepth 100000 in
set_option maxHeartbeats 4000000 in
theorem add_any (q : Nat) (l : List Int) (r : Int) (w : World) (h : CAt w q l) :
    Calls Tryz.prog 286 #[.pointer (some ⟨q, 0, none⟩), .int .i32 r] w fun e w' => e = .returned (.bool (decide (l.length < 16))) ∧ CAt w' q (addL l r) ∧ But q w w' := by
  have hl := h.1
  have H := Lib.hid h
  have HF := Lib.hid (full_any q l w h)
  by_cases h16 : l.length < 16
  · have d0 : ((l.length : Int) == 16) = false := by simp; omega
    have d1 : Hid (decide (l.length < 16) = true) := Lib.hid (by simpa using h16)
    have c16 := h.num
    have f16 := h.frozen 16
    have fl := h.frozen l.length
    obtain ⟨v, cl⟩ := h.some (i := l.length) (by omega)
    have x1 : (l.length : Int) < 16 := by omega
    have HA : Hid (CAt ((w.setCell ⟨q, l.length, none⟩ (.int .i32 r)).drew.setCell ⟨q, 16, none⟩ (.int .i64 (l.length + 1))) q (addL l r)) := by
      unfold addL; rw [if_pos h16]; exact Lib.hid (h.add h16 r)
    have HB : Hid (But q w ((w.setCell ⟨q, l.length, none⟩ (.int .i32 r)).drew.setCell ⟨q, 16, none⟩ (.int .i64 (l.length + 1)))) := (((But.refl q w).setCell _ _).trans (But.of_below ((Below.refl _ _).drew))).setCell _ _
    have c16' : (w.setCell ⟨q, l.length, none⟩ (.int .i32 r)).drew.cell? ⟨q, 16, none⟩ = Option.some (.int .i64 l.length) := by
      obtain ⟨_, T, h⟩ := h
      show (w.setCell ⟨q, l.length, none⟩ (.int .i32 r)).cell? ⟨q, 16, none⟩ = _
      have := heap_setCell (i := l.length) (v := .int .i32 r) h
      simp only [World.cell?, this]
      have h9 := cv_num hl
      simp only [List.setIfInBounds_toArray, List.getElem?_toArray]
      rw [List.getElem?_set_ne (by omega)]
      exact h9
    have f16' : (w.setCell ⟨q, l.length, none⟩ (.int .i32 r)).drew.frozen? ⟨q, 16, none⟩ = false := by
      obtain ⟨_, T, h⟩ := h
      show (w.setCell ⟨q, l.length, none⟩ (.int .i32 r)).frozen? ⟨q, 16, none⟩ = _
      have := heap_setCell (i := l.length) (v := .int .i32 r) h
      simp [World.frozen?, this]
    have x2 : IntKind.i64.wrap ((l.length : Int) + 1) = (l.length : Int) + 1 := IntWalk.i64_in _ (by omega)
    clear h
    generalize l.length = n at *
    go_enter Tryz.func286, Tryz.ntmps286
    go_wp2_with fail
    refine HF.out.mono ?_
    rintro e w1 ⟨rfl, rfl⟩
    go_wp2_with fail
    go_region
    clear c16 f16 fl cl H HF
    generalize (w.setCell ⟨q, n, none⟩ (.int .i32 r)).drew = w1 at *
    go_wp2
    go_ret
    exact ⟨by rw [d1.out]; rfl, HA.out, HB.out⟩
  · have e16 : l.length = 16 := by omega
    have HA : Hid (CAt w q (addL l r)) := by unfold addL; rw [if_neg h16]; exact Lib.hid h
    have d1 : Hid (decide (l.length < 16) = false) := Lib.hid (by simpa using h16)
    have d0 : ((l.length : Int) == 16) = true := by simp; omega
    clear h h16 e16
    go_enter Tryz.func286, Tryz.ntmps286
    go_wp2_with fail
    refine HF.out.mono ?_
    rintro e w1 ⟨rfl, rfl⟩
    go_wp2
    go_ret
    exact ⟨by rw [d1.out]; rfl, HA.out, But.refl _ _⟩

set_option maxRecDepth 100000 in
set_option maxHeartbeats 4000000 in
theorem text_any (q : Nat) (l : List Int) (w : World) (h : CAt w q l) :
    Calls Tryz.prog 178 #[.pointer (some ⟨q, 0, none⟩)] w fun e w' => Fresh w w' 21 1 l.length (l.map (Value.int .i32)) e := by
  have c16 := h.num
  have H := Lib.hid h
  have hl := h.1
  have hlt := h.lt
  have hmx : Tryz.prog.follows .mixedOrders = true := by kernel_rfl
  have hl' : (l.length : Int) ≤ 16 := by omega
  clear h
  go_enter Tryz.func178, Tryz.ntmps178
  go_wp2_with fail
  refine region_begin (fun w' => w'.cell? ⟨q, 16, none⟩ = Option.some (.int .i64 l.length)) (fun j => j == 9) hmx ?_
  refine take_first (i := 0) rfl (by kernel_rfl) (by kernel_rfl) (by kernel_rfl) (by kernel_rfl) (fun _ _ _ h => h) c16 (.inl ⟨by rfl, fun w' hw' => by have hw2 : w'.cell? ⟨q, 16, none⟩ = Option.some (.int .i64 l.length) := hw'; go_simp; try with_reducible rfl⟩) ?_
  refine take_first (i := 3) rfl (by kernel_rfl) (by kernel_rfl) (by kernel_rfl) (by kernel_rfl) (fun _ _ _ h => h) c16 (.inl ⟨by rfl, fun w' hw' => by have hw2 : w'.cell? ⟨q, 16, none⟩ = Option.some (.int .i64 l.length) := hw'; go_simp; try with_reducible rfl⟩) ?_
  refine take_first (i := 1) rfl (by kernel_rfl) (by kernel_rfl) (by kernel_rfl) (by kernel_rfl) (fun _ _ _ h => h) c16 (.inl ⟨by rfl, fun w' hw' => by have hw2 : w'.cell? ⟨q, 16, none⟩ = Option.some (.int .i64 l.length) := hw'; go_simp; try with_reducible rfl⟩) ?_
  refine take_first (i := 4) rfl (by kernel_rfl) (by kernel_rfl) (by kernel_rfl) (by kernel_rfl) (fun _ _ _ h => h) c16 (.inl ⟨by rfl, fun w' hw' => by have hw2 : w'.cell? ⟨q, 16, none⟩ = Option.some (.int .i64 l.length) := hw'; go_simp; try with_reducible rfl⟩) ?_
  refine take_first (i := 2) rfl (by kernel_rfl) (by kernel_rfl) (by kernel_rfl) (by kernel_rfl) (fun _ _ _ h => h) c16 (.inl ⟨by rfl, fun w' hw' => by have hw2 : w'.cell? ⟨q, 16, none⟩ = Option.some (.int .i64 l.length) := hw'; go_simp; try with_reducible rfl⟩) ?_
  refine take_first (i := 5) rfl (by kernel_rfl) (by kernel_rfl) (by kernel_rfl) (by kernel_rfl) (fun _ _ _ h => h) c16 (.inl ⟨by rfl, fun w' hw' => by have hw2 : w'.cell? ⟨q, 16, none⟩ = Option.some (.int .i64 l.length) := hw'; go_simp; try with_reducible rfl⟩) ?_
  refine take_first (i := 6) rfl (by kernel_rfl) (by kernel_rfl) (by kernel_rfl) (by kernel_rfl) (fun _ _ _ h => h) c16 (.inl ⟨by rfl, fun w' hw' => by have hw2 : w'.cell? ⟨q, 16, none⟩ = Option.some (.int .i64 l.length) := hw'; go_simp; try with_reducible rfl⟩) ?_
  refine take_first (i := 7) rfl (by kernel_rfl) (by kernel_rfl) (by kernel_rfl) (by kernel_rfl) (fun _ _ _ h => h) c16 (.inl ⟨by rfl, fun w' hw' => by have hw2 : w'.cell? ⟨q, 16, none⟩ = Option.some (.int .i64 l.length) := hw'; go_simp; try with_reducible rfl⟩) ?_
  refine take_one (i := 8) (by kernel_rfl) rfl rfl fun K hK => ?_
  go_wp2_with fail
  refine (clone_any q 0 l.length 16 l _ rfl ?_ ?_ (by omega)).mono ?_
  · exact hlt
  · intro i x hx
    have := H.out.text hx
    rw [Nat.zero_add]
    exact this
  rintro e w1 ⟨v, rfl, ho, hb⟩
  have hb : Below w.heap.size w w1 := ((Below.refl w.heap.size w).drew).trans hb
  have HO := Lib.hid ho
  have HB := Lib.hid hb
  clear ho hb
  refine hK _ _ (.inr ((HB.out.cell (p := ⟨q, 16, none⟩) hlt).trans c16)) ?_
  clear hK
  refine take_one (i := 9) (by kernel_rfl) rfl rfl fun K hK => ?_
  go_wp2
  refine hK _ _ (.inl rfl) ?_
  clear hK
  refine take_done (by kernel_rfl) ?_ _
  go_wp2
  go_ret
  exact ⟨v, rfl, HO.out, HB.out⟩

theorem size_clu {l : List Int} (h : l.length ≤ 16) : (Tryz.prog.info? 243).map (·.size) = Option.some (cv l).toArray.size := by
  rw [List.size_toArray, cv_len h]; kernel_rfl
theorem cv_one (l : List Int) : (cv l).toArray.all (·.oneCell') = true := by
  simp only [List.all_toArray, List.all_eq_true]
  intro u hu
  unfold cv at hu
  rcases List.mem_append.1 hu with hu | hu
  · obtain ⟨x, _, rfl⟩ := List.mem_map.1 hu; rfl
  · rcases List.mem_append.1 hu with hu | hu
    · rw [List.eq_of_mem_replicate hu]; rfl
    · simp at hu; subst hu; rfl
theorem CAt.but {w w' : World} {q g : Nat} {l : List Int} (h : CAt w g l) (hb : But q w w') (hn : g ≠ q) : CAt w' g l := by
  have hlt := h.lt
  obtain ⟨h1, T, h⟩ := h
  exact ⟨h1, T, by rw [hb.block g hlt hn, h]⟩

set_option maxRecDepth 100000 in
set_option maxHeartbeats 4000000 in
theorem of_any (a : Option Addr) (n c : Nat) (xs : List Int) (w : World) (h : Same.Ints .i32 w a n xs) (hn : n ≤ 9223372036854775807) :
    Calls Tryz.prog 231 #[.slice a n c] w fun e w' => e = .returned (.agg (cv (xs.take 16)).toArray) ∧ Below w.heap.size w w' := by
  have HI := Lib.hid h
  have HL := Lib.hid h.1
  clear h
  go_enter Tryz.func231, Tryz.ntmps231
  go_wp2
  have R0 := cat_new w 243 #[.int .i32 0, .int .i32 0, .int .i32 0, .int .i32 0, .int .i32 0, .int .i32 0, .int .i32 0, .int .i32 0, .int .i32 0, .int .i32 0, .int .i32 0, .int .i32 0, .int .i32 0, .int .i32 0, .int .i32 0, .int .i32 0, .int .i64 0] (by rfl)
  have B0 : Below w.heap.size w (w.alloc (.cells #[.int .i32 0, .int .i32 0, .int .i32 0, .int .i32 0, .int .i32 0, .int .i32 0, .int .i32 0, .int .i32 0, .int .i32 0, .int .i32 0, .int .i32 0, .int .i32 0, .int .i32 0, .int .i32 0, .int .i32 0, .int .i32 0, .int .i64 0] 243)) := (Below.refl _ _).alloc (Nat.le_refl _) _
  have z0 : (w.alloc (.cells #[.int .i32 0, .int .i32 0, .int .i32 0, .int .i32 0, .int .i32 0, .int .i32 0, .int .i32 0, .int .i32 0, .int .i32 0, .int .i32 0, .int .i32 0, .int .i32 0, .int .i32 0, .int .i32 0, .int .i32 0, .int .i32 0, .int .i64 0] 243)).heap.size = w.heap.size + 1 := by simp
  generalize (w.alloc (.cells #[.int .i32 0, .int .i32 0, .int .i32 0, .int .i32 0, .int .i32 0, .int .i32 0, .int .i32 0, .int .i32 0, .int .i32 0, .int .i32 0, .int .i32 0, .int .i32 0, .int .i32 0, .int .i32 0, .int .i32 0, .int .i32 0, .int .i64 0] 243)) = w1 at *
  have C0 := cat_new w1 243 #[.int .i32 0, .int .i32 0, .int .i32 0, .int .i32 0, .int .i32 0, .int .i32 0, .int .i32 0, .int .i32 0, .int .i32 0, .int .i32 0, .int .i32 0, .int .i32 0, .int .i32 0, .int .i32 0, .int .i32 0, .int .i32 0, .int .i64 0] (by rfl)
  rw [z0] at C0
  have R0 := R0.below (B := w1.heap.size) ((Below.refl _ _).alloc (Nat.le_refl _) (.cells #[.int .i32 0, .int .i32 0, .int .i32 0, .int .i32 0, .int .i32 0, .int .i32 0, .int .i32 0, .int .i32 0, .int .i32 0, .int .i32 0, .int .i32 0, .int .i32 0, .int .i32 0, .int .i32 0, .int .i32 0, .int .i32 0, .int .i64 0] 243)) (by omega)
  have B0 := B0.alloc B0.size (.cells #[.int .i32 0, .int .i32 0, .int .i32 0, .int .i32 0, .int .i32 0, .int .i32 0, .int .i32 0, .int .i32 0, .int .i32 0, .int .i32 0, .int .i32 0, .int .i32 0, .int .i32 0, .int .i32 0, .int .i32 0, .int .i32 0, .int .i64 0] 243)
  generalize (w1.alloc (.cells #[.int .i32 0, .int .i32 0, .int .i32 0, .int .i32 0, .int .i32 0, .int .i32 0, .int .i32 0, .int .i32 0, .int .i32 0, .int .i32 0, .int .i32 0, .int .i32 0, .int .i32 0, .int .i32 0, .int .i32 0, .int .i32 0, .int .i64 0] 243)) = w0 at *
  have R0 := Lib.hid R0
  have C0 := Lib.hid C0
  have B0 := Lib.hid B0
  clear z0
  go_loopw [8] (fun i wr => ∃ k : Nat, k ≤ n ∧ i = .int .i64 k ∧ Hid (CAt wr (w.heap.size + 1) ((xs.take k).take 16) ∧ CAt wr w.heap.size [] ∧ Below w.heap.size w wr)) (fun i _ => n - (intOf i).toNat)
  case atStart => exact ⟨0, Nat.zero_le _, rfl, C0.out, R0.out, B0.out⟩
  case round =>
    obtain ⟨k, hk, rfl, H⟩ := hrel
    by_cases hlt : k < n
    · obtain ⟨x, hx⟩ : ∃ x, xs[k]? = Option.some x := ⟨_, List.getElem?_eq_getElem (by rw [HL.out]; exact hlt)⟩
      obtain ⟨hl, h0 | ⟨b, off, rfl, hb, hc⟩⟩ := HI.out
      · omega
      have hcx := (H.out.2.2.cell (p := ⟨b, off + k, none⟩) hb).trans (hc k x hx)
      have hlt' : (k : Int) < n := by omega
      have hne : (k : Int) + 1 < 9223372036854775808 := by omega
      have HAX := Lib.hid (addL_take xs k hx)
      clear hc hl hx
      go_wp2_with fail
      refine (add_any (w.heap.size + 1) ((xs.take k).take 16) x wr H.out.1).mono ?_
      rintro e w3 ⟨rfl, hA, hB⟩
      rw [HAX.out] at hA
      have HC := Lib.hid hA
      have HR := Lib.hid (H.out.2.1.but hB (by omega))
      have HB := Lib.hid (H.out.2.2.trans (hB.below (by omega) H.out.2.2.size))
      clear hA hB hcx HAX
      by_cases h16 : ((xs.take k).take 16).length < 16
      · have d1 : decide (((xs.take k).take 16).length < 16) = true := by simpa using h16
        rw [d1]
        clear d1 h16
        go_wp2
        go_roundw
        case rel => exact ⟨k + 1, by omega, by go_num, HC.out, HR.out, HB.out⟩
        case measure => simp [intOf]; omega
      · have d1 : decide (((xs.take k).take 16).length < 16) = false := by simpa using h16
        have e16 : (xs.take (k + 1)).take 16 = xs.take 16 := by
          rw [List.length_take, List.length_take] at h16
          rw [List.take_take]; congr 1; omega
        rw [e16] at HC
        rw [d1]
        clear d1 h16 e16 H
        obtain ⟨hz1, T1, hT1⟩ := HC.out
        obtain ⟨hz2, T2, hT2⟩ := HR.out
        have hsz := size_clu hz1
        have hold : (cv []).toArray.size = (cv (xs.take 16)).toArray.size := by rw [List.size_toArray, List.size_toArray, cv_len hz1, cv_len (by simp)]
        have hone := cv_one (xs.take 16)
        generalize hcs : (cv (xs.take 16)).toArray = cs at *
        generalize hco : (cv []).toArray = co at *
        go_wp2_with (first | (refine wpList_load_row rfl 243 _ rfl (w.heap.size + 1) rfl T1 cs (0, 0) _ hT1 Tryz.underlying243 rfl hsz ?_) | (refine wpList_store_row rfl 243 _ _ rfl w.heap.size cs rfl rfl T2 co hT2 hsz hold hone ?_))
        have HF := setRow_heap _ w.heap.size co cs T2 (0, 0) hT2
        refine bodyPost_ret (results_cell_row rfl _ _ w.heap.size T2 cs (0, 0) _ rfl HF Tryz.underlying243 rfl hsz) rfl ?_
        exact ⟨by rw [hcs], below_setRow HB.out (Nat.le_refl _) cs⟩
    · obtain rfl : k = n := by omega
      have HC := Lib.hid H.out.1
      have HR := Lib.hid H.out.2.1
      have HB := Lib.hid H.out.2.2
      have e16 : (xs.take k).take 16 = xs.take 16 := by rw [← HL.out, List.take_length]
      rw [e16] at HC
      clear H e16 hlt
      obtain ⟨hz1, T1, hT1⟩ := HC.out
      obtain ⟨hz2, T2, hT2⟩ := HR.out
      have hsz := size_clu hz1
      have hold : (cv []).toArray.size = (cv (xs.take 16)).toArray.size := by rw [List.size_toArray, List.size_toArray, cv_len hz1, cv_len (by simp)]
      have hone := cv_one (xs.take 16)
      generalize hcs : (cv (xs.take 16)).toArray = cs at *
      generalize hco : (cv []).toArray = co at *
      go_wp2_with (first | (refine wpList_load_row rfl 243 _ rfl (w.heap.size + 1) rfl T1 cs (0, 0) _ hT1 Tryz.underlying243 rfl hsz ?_) | (refine wpList_store_row rfl 243 _ _ rfl w.heap.size cs rfl rfl T2 co hT2 hsz hold hone ?_))
      have HF := setRow_heap _ w.heap.size co cs T2 (0, 0) hT2
      refine bodyPost_ret (results_cell_row rfl _ _ w.heap.size T2 cs (0, 0) _ rfl HF Tryz.underlying243 rfl hsz) rfl ?_
      exact ⟨by rw [hcs], below_setRow HB.out (Nat.le_refl _) cs⟩

end Go.Proofs.YtjicdcmdgbcdcaaGreatDoor.Clu
end

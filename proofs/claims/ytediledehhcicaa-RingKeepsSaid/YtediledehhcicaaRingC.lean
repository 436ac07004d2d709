/-
  slices.Clone at texts of any length; ring.own.
-/
import Derived.Test.YtediledehhcicaaRingD
import Derived.Test.YtediledehhcicaaTake2
import Derived.Maps.AppendAt
import Derived.Deep.WholeRow
import Derived.Shelf.Abstract
import Derived.Deep.CutBlock
import Derived.Deep.DeepCutAuto
namespace Go.Proofs.Ytediledehhcicaa.Ring
set_option linter.unusedSimpArgs false
set_option linter.unusedVariables false
open Go Go.RowKit Mem Turn

theorem info_rune : (Try.prog.info? 21).map (fun i => (i.zero, i.size, i.bytes)) = some (some (.int .i32 0), 1, 4) := by kernel_rfl
theorem info_cell : (Try.prog.info? 31).map (fun i => (i.zero, i.size, i.bytes)) = some (some (.agg #[.int .i64 0, .slice none 0 0]), 2, 32) := by kernel_rfl
theorem info_line : (Try.prog.info? 28).map (fun i => (i.zero, i.size, i.bytes)) = some (some (.agg #[.slice none 0 0, .bool false]), 2, 32) := by kernel_rfl

theorem size_line (x y : Value) : (Try.prog.info? 28).map (·.size) = some (#[x, y] : Array Value).size := by kernel_rfl
theorem size_cell (x y : Value) : (Try.prog.info? 31).map (·.size) = some (#[x, y] : Array Value).size := by kernel_rfl
theorem one_line (a : Option Addr) (n c : Nat) (b : Bool) : (#[.slice a n c, .bool b] : Array Value).all (·.oneCell') = true := by simp [Value.oneCell']
theorem one_cell (k : Int) (a : Option Addr) (n c : Nat) : (#[.int .i64 k, .slice a n c] : Array Value).all (·.oneCell') = true := by simp [Value.oneCell']

theorem text_of_own {D : Nat → Prop} {w : World} {base n : Nat} {v : Value} {t : List Int} (h : w.ownsRow base 21 1 v n (t.map (Value.int .i32))) (hD : ∀ g, v.ownBlock = some g → D g) (hs : t.length * 4 ≤ 140737488355328) : TextAt D True w v t := by
  have hl : t.length = n := by have := h.1; simp at this; omega
  obtain ⟨a, c, rfl, h2, h3⟩ := own_form h
  subst hl
  exact ⟨a, c, rfl, h2, hs, h3.imp id fun ⟨g, e, e2, hb, hg, hf, hc⟩ => ⟨g, 0, e, hg, hD g e2, fun j x hx => ⟨by rw [Nat.zero_add]; exact hc j _ (by rw [List.getElem?_map, hx]; rfl), fun _ => hf _⟩⟩⟩
theorem src_text {D : Nat → Prop} {fz : Prop} {w : World} {a : Option Addr} {n c : Nat} {t : List Int} (h : TextAt D fz w (.slice a n c) t) : Turn.Src w a n 1 (t.map (Value.int .i32)) := by
  obtain ⟨a', c', e, _, _, h4⟩ := h
  injection e with e1 e2 e3
  subst e1 e2 e3
  rcases h4 with h0 | ⟨b, off, rfl, _, _, hc⟩
  · have : t = [] := List.eq_nil_of_length_eq_zero h0
    subst this
    rcases a with _ | ad
    · exact .inl ⟨rfl, rfl, rfl⟩
    · exact .inr ⟨ad, rfl, by simp, fun j u hj => by simp at hj⟩
  · refine .inr ⟨_, rfl, by simp, fun j u hj => ?_⟩
    rw [List.getElem?_map, Option.map_eq_some_iff] at hj
    obtain ⟨x, hx, rfl⟩ := hj
    have e : (⟨b, off, none⟩ : Addr).add j = ⟨b, off + j, none⟩ := by
      unfold Addr.add
      split
      · rename_i h; rw [h, Nat.add_zero]
      · rfl
    rw [e]
    exact (hc j x hx).1
theorem one_cells (xs : List Int) : ∀ u ∈ xs.map (Value.int .i32), u.oneCell' = true := by
  intro u hu
  obtain ⟨x, _, rfl⟩ := List.mem_map.1 hu
  rfl

set_option maxHeartbeats 2000000 in
set_option maxRecDepth 100000 in
theorem clone_any (D : Nat → Prop) (fz : Prop) (v : Value) (t : List Int) (w : World) (h : TextAt D fz w v t) :
    Calls Try.prog 19 #[v] w fun e w' => ∃ v', e = .returned v' ∧ TextAt (fun b => w.heap.size ≤ b) True w' v' t ∧ Below w.heap.size w w' := by
  obtain ⟨i0, hi, hz0, hz1, hz2⟩ := info_parts info_rune
  have q22 : ∀ (w : World) (a : Option Addr) (n c n' c' : Nat), (binOp .eql 29 (.slice a n c) (.slice none n' c')).run Try.prog w = .ok (.bool a.isNone) w := fun w a n c n' c' => Lib.run_eql_slice_nil w _ _ a n c n' c' Try.underlying29
  obtain ⟨a, n, c, rfl⟩ : ∃ a n c, v = .slice a n c := by obtain ⟨a, c, e, _⟩ := h; exact ⟨_, _, _, e⟩
  have hs := src_text h
  have hln : t.length = n := by obtain ⟨a', c', e, _⟩ := h; injection e with _ e _; exact e.symm
  have h4 : Hid (t.length * 4 ≤ 140737488355328) := Lib.hid (by obtain ⟨_, _, _, _, e, _⟩ := h; exact e)
  rcases a with _ | ad
  · have h0 : t = [] := by
      rcases hs with ⟨_, h0, _⟩ | ⟨_, h0, _⟩
      · exact List.eq_nil_of_length_eq_zero (by omega)
      · cases h0
    subst h0
    simp at hln
    subst hln
    clear h hs h4
    go_enter Try.func19, Try.ntmps19
    go_wp2
    go_ret
    exact ⟨_, rfl, TextAt.nil _ _ _, Below.refl _ _⟩
  · have HS := Lib.hid (hs.keep ((Below.refl _ _).alloc (Nat.le_refl _) (.cells #[] 21)))
    have H3 : Hid ((w.alloc (.cells #[] 21)).ownsRow w.heap.size 21 1 (.slice (some ⟨w.heap.size, 0, none⟩) 0 0) 0 []) := World.ownsRow_made w #[] 0 (Nat.le_refl _) (by unfold maxLen; omega) rfl
    have HLN := Lib.hid hln
    have hm : n ≤ 35184372088832 := by have := h4.out; omega
    clear h hs hln
    go_enter Try.func19, Try.ntmps19
    go_wp2_with (at_builtin; (refine wpList_append_src _ rfl _ _ 29 rfl w.heap.size 21 i0 _ 1 4 Try.underlying29 hi hz0 hz1 hz2 rfl (by decide) _ 0 _ rfl H3.out (some ad) n c (t.map (Value.int .i32)) rfl HS.out (one_cells _) (by unfold maxLen; omega) (by omega) (by simp) ?_; intro v' w3 hown' hgrow))
    go_ret
    rw [Nat.zero_add, List.nil_append] at hown'
    exact ⟨v', rfl, text_of_own hown' (fun g hg => (hown'.lt g hg).1) h4.out, ((Below.refl _ _).alloc (Nat.le_refl _) _).grown hgrow (by simp) (fun k e => by injection (show some w.heap.size = some k from e) with e; omega)⟩

theorem turn_setRow (w : World) (g : Nat) (cs : Array Value) : Turn (fun j => j = g) w (w.setRow g cs) :=
  ⟨rfl, rfl, rfl, by simp [World.setRow], fun k _ hn => setRow_other w g k _ hn⟩

theorem cell_new2 (w : World) (v0 v1 : Value) (t : TypeId) : ∀ j u, [v0, v1][j]? = some u → (w.alloc (.cells #[v0, v1] t)).cell? ((⟨w.heap.size, 0, none⟩ : Addr).add j) = some u := by
  intro j u hj
  match j, hj with
  | 0, hj => simp at hj; subst hj; simp [Addr.add]
  | 1, hj => simp at hj; subst hj; simp [Addr.add]

/-- own's line so far: its box, the cells behind k rounds -/
def OwnR (w : World) (wr : Bool) (cs : List CellC) (k : Nat) (wx : World) : Prop :=
  ∃ v rs, wx.heap[w.heap.size + 1 + 1]? = some (.cells #[v, .bool wr] 28 (0, 0)) ∧ wx.heap[w.heap.size + 1]? = some (.cells #[.slice none 0 0, .bool false] 28 (0, 0)) ∧
    wx.ownsRow (w.heap.size + 3) 31 2 v k (flatC rs) ∧ TextsOf (fun b => w.heap.size + 3 ≤ b ∧ v.ownBlock ≠ some b) wx rs (cs.take k) ∧ Below w.heap.size w wx

/-- one element more onto a row of the call's own, and where it lies -/
theorem texts_grow {D D' : Nat → Prop} {w w' : World} {T : Nat → Prop} {rs : List (Int × Value)} {cs : List CellC} (h : TextsOf D w rs cs) (ht : Turn T w w') (hT : ∀ b, D b → b < w.heap.size → ¬ T b) (hD : ∀ b, D b → b < w.heap.size → D' b) : TextsOf D' w' rs cs :=
  ⟨h.1, fun j r x hr hx => ⟨(h.2 j r x hr hx).1, by
    have := (h.2 j r x hr hx).2
    have h2 : TextAt (fun b => D b ∧ b < w.heap.size) True w r.2 x.2 := by
      obtain ⟨a, c, e1, e2, e3, e4⟩ := this
      exact ⟨a, c, e1, e2, e3, e4.imp id fun ⟨b, off, g1, g2, g3, g4⟩ => ⟨b, off, g1, g2, ⟨g3, g2⟩, g4⟩⟩
    exact (h2.turn ht (fun b hb hlt => hT b hb.1 hlt)).mono (fun b hb _ => hD b hb.1 hb.2)⟩⟩
theorem texts_snoc {D : Nat → Prop} {w : World} {rs : List (Int × Value)} {cs : List CellC} {k : Nat} {x : CellC} {tv : Value} (h : TextsOf D w rs (cs.take k)) (hx : cs[k]? = some x) (ht : TextAt D True w tv x.2) : TextsOf D w (rs ++ [(x.1, tv)]) (cs.take (k + 1)) := by
  have hl : rs.length = k := by rw [h.1, List.length_take]; have := (List.getElem?_eq_some_iff.1 hx).1; omega
  refine ⟨by rw [List.length_append, h.1, List.take_add_one, hx]; simp, fun j r y hr hy => ?_⟩
  rcases Nat.lt_or_ge j k with h1 | h1
  · rw [List.getElem?_append_left (by omega)] at hr
    rw [List.getElem?_take, if_pos (by omega)] at hy
    exact h.2 j r y hr (by rw [List.getElem?_take, if_pos h1]; exact hy)
  · have hj : j = k := by
      have := (List.getElem?_eq_some_iff.1 hr).1
      simp at this
      omega
    subst hj
    rw [List.getElem?_append_right (by omega), hl, Nat.sub_self] at hr
    simp at hr
    subst hr
    rw [List.getElem?_take, if_pos (by omega), hx] at hy
    injection hy with hy
    subst hy
    exact ⟨rfl, ht⟩

set_option maxRecDepth 100000 in
set_option maxHeartbeats 8000000 in
theorem own_any (D : Nat → Prop) (fz : Prop) (v : Value) (wb : Bool) (cs : List CellC) (w : World) (h : CellsAt D fz w v cs) :
    Calls Try.prog 15 #[.agg #[v, .bool wb]] w fun e w' => ∃ v', e = .returned (.agg #[v', .bool wb]) ∧ CellsAt (fun b => w.heap.size ≤ b) True w' v' cs ∧ Below w.heap.size w w' := by
  obtain ⟨i0, hi, hz0, hz1, hz2⟩ := info_parts info_cell
  have hmx : Try.prog.follows .mixedOrders = true := by kernel_rfl
  obtain ⟨a, c, rfl, hc, h32, h1⟩ := h
  have H1 := Lib.hid h1
  obtain ⟨n, hn⟩ : ∃ n, cs.length = n := ⟨_, rfl⟩
  have HN := Lib.hid hn
  rw [hn] at hc h32 ⊢
  have hn2 : n ≤ 4398046511104 := by omega
  have H32 := Lib.hid h32
  clear h1 hn h32
  have HS : Hid (OwnR w wb cs 0 (((w.alloc (Obj.cells #[Value.slice a n c, Value.bool wb] 28)).alloc (Obj.cells #[Value.slice none 0 0, Value.bool false] 28)).alloc (Obj.cells #[Value.slice none 0 0, Value.bool wb] 28))) := Lib.hid (by
    have e1 := heap_alloc_new ((w.alloc (Obj.cells #[Value.slice a n c, Value.bool wb] 28)).alloc (Obj.cells #[Value.slice none 0 0, Value.bool false] 28)) (Obj.cells #[Value.slice none 0 0, Value.bool wb] 28)
    have e2 := heap_alloc_new (w.alloc (Obj.cells #[Value.slice a n c, Value.bool wb] 28)) (Obj.cells #[Value.slice none 0 0, Value.bool false] 28)
    simp only [World.size_alloc] at e1 e2
    refine ⟨_, [], e1, (heap_alloc_old _ _ _ (by simp)).trans e2, World.ownsRow_nil _ _ _ _, ⟨by simp, fun j r x h => by cases h⟩, (((Below.refl _ _).alloc (Nat.le_refl _) _).alloc (by simp) _).alloc (by simp; omega) _⟩)
  go_enter Try.func15, Try.ntmps15
  go_upto_block 0 with fail
  generalize (((w.alloc (Obj.cells #[Value.slice a n c, Value.bool wb] 28)).alloc (Obj.cells #[Value.slice none 0 0, Value.bool false] 28)).alloc (Obj.cells #[Value.slice none 0 0, Value.bool wb] 28)) = w3 at *
  go_wp2_with fail
  go_loopg [12] n (fun gg i wx => ∃ k : Nat, n - k = gg ∧ k ≤ n ∧ i = .int .i64 k ∧ Hid (OwnR w wb cs k wx))
  case atStart => exact ⟨0, rfl, Nat.zero_le _, rfl, HS⟩
  case round =>
    obtain ⟨k, rfl, hk, rfl, H⟩ := hrel
    by_cases hlt : k < n
    · obtain ⟨v, rs, hb1, hb2, ho, htx, hbel⟩ := H.out
      obtain ⟨av, cv, rfl⟩ := Turn.own_slice ho
      obtain ⟨b, off, rfl, hbs, hbD, hcell⟩ := H1.out.resolve_left (by rw [HN.out]; omega)
      obtain ⟨x, hx⟩ : ∃ x, cs[k]? = some x := ⟨_, List.getElem?_eq_getElem (by rw [HN.out]; exact hlt)⟩
      obtain ⟨y0, _, tv, y1, hty⟩ := hcell k x hx
      have x0 := (hbel.cell (p := ⟨b, off + k * 2, none⟩) hbs).trans y0
      have x1 := (hbel.cell (p := ⟨b, off + k * 2 + 1, none⟩) hbs).trans y1
      have hlt' : (k : Int) < n := by omega
      have HX := Lib.hid hx
      obtain ⟨kd, tx⟩ := x
      simp only at x0 hty
      obtain ⟨at1, ct1, rfl, _⟩ := id hty
      obtain ⟨W2, hW2⟩ : ∃ W2, W2 = wr.alloc (.cells #[.int .i64 kd, .slice at1 tx.length ct1] 31) := ⟨_, rfl⟩
      have hnew : (wr.alloc (.cells #[.int .i64 0, .slice none 0 0] 31)).heap[wr.heap.size]? = some (.cells #[.int .i64 0, .slice none 0 0] 31 (0, 0)) := heap_alloc_new wr _
      have hrow : (wr.alloc (.cells #[.int .i64 0, .slice none 0 0] 31)).setRow wr.heap.size #[.int .i64 kd, .slice at1 tx.length ct1] = W2 := by rw [hW2]; exact World.setRow_alloc_new wr _ _ _
      have hh2 : W2.heap[wr.heap.size]? = some (.cells #[.int .i64 kd, .slice at1 tx.length ct1] 31 (0, 0)) := by rw [hW2]; exact heap_alloc_new wr _
      have TW2 : Turn (fun _ => False) wr W2 := by rw [hW2]; exact Turn.alloc _ _ _
      have HTW := Lib.hid TW2
      have HSZ : Hid (wr.heap.size < W2.heap.size) := Lib.hid (by rw [hW2]; simp)
      have q1 : W2.cell? ⟨wr.heap.size, 0, none⟩ = some (.int .i64 kd) := by simp [World.cell?, hh2]
      have q2 : W2.cell? ⟨wr.heap.size, 1, none⟩ = some (.slice at1 tx.length ct1) := by simp [World.cell?, hh2]
      have q0 : W2.cell? ⟨w.heap.size + 1 + 1, 0, none⟩ = some (.slice av k cv) := by have := TW2.heap hb1 id; simp [World.cell?, this]
      have HCL := Lib.hid (clone_any D fz (.slice at1 tx.length ct1) tx W2.drew ((hty.below (hbel.mono (by omega) |>.trans ((Below.refl _ _)))).below ((Turn.below TW2 (Nat.le_refl _) (fun _ h => h.elim)).trans (Below.refl _ _).drew)))
      have HW1 := Lib.hid hb1
      have HW2 := Lib.hid hb2
      have HO := Lib.hid ho
      have HTX := Lib.hid htx
      have HBL := Lib.hid hbel
      have hHS := hbel.size
      have hH3 : w.heap.size + 3 ≤ wr.heap.size := (Array.getElem?_eq_some_iff.1 hb1).1
      clear hx hcell y0 y1 hty hW2 hh2 TW2 hb1 hb2 ho htx hbel H
      go_upto_region 5 with (refine wpList_store_row rfl 31 _ _ rfl wr.heap.size #[.int .i64 kd, .slice at1 tx.length ct1] rfl rfl _ _ hnew (size_cell _ _) rfl (one_cell _ _ _ _) ?_)
      rw [hrow]
      refine region_begin3 (fun w' => w'.cell? ⟨w.heap.size + 1 + 1, 0, none⟩ = some (.slice av k cv) ∧ w'.cell? ⟨wr.heap.size, 0, none⟩ = some (.int .i64 kd) ∧ w'.cell? ⟨wr.heap.size, 1, none⟩ = some (.slice at1 tx.length ct1)) (fun j => j == 11) 12 rfl hmx (by intro _ _ d _ _ h; cases d <;> exact h) fun hQP => ?_
      have hS : W2.drew.cell? ⟨w.heap.size + 1 + 1, 0, none⟩ = some (.slice av k cv) ∧ W2.drew.cell? ⟨wr.heap.size, 0, none⟩ = some (.int .i64 kd) ∧ W2.drew.cell? ⟨wr.heap.size, 1, none⟩ = some (.slice at1 tx.length ct1) := ⟨q0, q1, q2⟩
      refine take_first2 0 (some 16) rfl rfl (by kernel_rfl) (by kernel_rfl) (by kernel_rfl) (by kernel_rfl) hQP hS (.inl ⟨by rfl, fun w' hw' => by obtain ⟨e0, e1, e2⟩ := hw'; go_simp; try with_reducible rfl⟩) ?_
      refine take_first2 1 (some 17) rfl rfl (by kernel_rfl) (by kernel_rfl) (by kernel_rfl) (by kernel_rfl) hQP hS (.inl ⟨by rfl, fun w' hw' => by obtain ⟨e0, e1, e2⟩ := hw'; go_simp; try with_reducible rfl⟩) ?_
      refine take_first2 2 (some 18) rfl rfl (by kernel_rfl) (by kernel_rfl) (by kernel_rfl) (by kernel_rfl) hQP hS (.inl ⟨by rfl, fun w' hw' => by obtain ⟨e0, e1, e2⟩ := hw'; go_simp; try with_reducible rfl⟩) ?_
      refine take_first2 3 (some 19) rfl rfl (by kernel_rfl) (by kernel_rfl) (by kernel_rfl) (by kernel_rfl) hQP hS (.inl ⟨by rfl, fun w' hw' => by obtain ⟨e0, e1, e2⟩ := hw'; go_simp; try with_reducible rfl⟩) ?_
      refine take_first2 4 (some 20) rfl rfl (by kernel_rfl) (by kernel_rfl) (by kernel_rfl) (by kernel_rfl) hQP hS (.inl ⟨by rfl, fun w' hw' => by obtain ⟨e0, e1, e2⟩ := hw'; go_simp; try with_reducible rfl⟩) ?_
      refine take_first2 5 (some 21) rfl rfl (by kernel_rfl) (by kernel_rfl) (by kernel_rfl) (by kernel_rfl) hQP hS (.inl ⟨by rfl, fun w' hw' => by obtain ⟨e0, e1, e2⟩ := hw'; go_simp; try with_reducible rfl⟩) ?_
      refine take_one (i := 6) (by kernel_rfl) rfl rfl fun K hK => ?_
      go_wp2_with fail
      refine HCL.out.mono ?_
      rintro e w4 ⟨tv', rfl, htv, hb4⟩
      obtain ⟨at2, ct2, rfl, _⟩ := id htv
      have T4 : Turn (fun _ => False) W2 w4 := (Turn.drew _ W2).trans (Turn.of_new hb4)
      have HT4 := Lib.hid T4
      have HTV := Lib.hid htv
      have hS : w4.cell? ⟨w.heap.size + 1 + 1, 0, none⟩ = some (.slice av k cv) ∧ w4.cell? ⟨wr.heap.size, 0, none⟩ = some (.int .i64 kd) ∧ w4.cell? ⟨wr.heap.size, 1, none⟩ = some (.slice at1 tx.length ct1) := ⟨T4.cell q0 id, T4.cell q1 id, T4.cell q2 id⟩
      refine hK _ _ (.inr hS) ?_
      clear hK T4 htv hb4 HCL
      refine take_one (i := 7) (by kernel_rfl) rfl rfl fun K hK => ?_
      go_wp2_with fail
      refine hK _ _ (.inr hS) ?_
      clear hK
      refine take_one (i := 8) (by kernel_rfl) rfl rfl fun K hK => ?_
      go_wp2_with fail
      have T5 : Turn (fun _ => False) w4 (w4.alloc (.cells #[.int .i64 kd, .slice at2 tx.length ct2] 31)) := Turn.alloc _ _ _
      have hnews : ∀ j u, [Value.int .i64 kd, .slice at2 tx.length ct2][j]? = some u → (w4.alloc (.cells #[.int .i64 kd, .slice at2 tx.length ct2] 31)).cell? ((⟨w4.heap.size, 0, none⟩ : Addr).add j) = some u := cell_new2 _ _ _ _
      have hS : (w4.alloc (.cells #[.int .i64 kd, .slice at2 tx.length ct2] 31)).cell? ⟨w.heap.size + 1 + 1, 0, none⟩ = some (.slice av k cv) ∧ (w4.alloc (.cells #[.int .i64 kd, .slice at2 tx.length ct2] 31)).cell? ⟨wr.heap.size, 0, none⟩ = some (.int .i64 kd) ∧ (w4.alloc (.cells #[.int .i64 kd, .slice at2 tx.length ct2] 31)).cell? ⟨wr.heap.size, 1, none⟩ = some (.slice at1 tx.length ct1) := ⟨T5.cell hS.1 id, T5.cell hS.2.1 id, T5.cell hS.2.2 id⟩
      have hsz5 : (w4.alloc (.cells #[.int .i64 kd, .slice at2 tx.length ct2] 31)).heap.size = w4.heap.size + 1 := by simp
      refine hK _ _ (.inr hS) ?_
      clear hK
      generalize (w4.alloc (.cells #[.int .i64 kd, .slice at2 tx.length ct2] 31)) = w5 at *
      have HT5 := Lib.hid ((HTW.out.trans HT4.out).trans T5)
      have HT45 := Lib.hid T5
      have HO5 := Lib.hid (HT5.out.kept HO.out (fun _ _ => id))
      have hs5 := HT5.out.size
      have hs4 := HT4.out.size
      clear T5
      refine take_append_at 9 25 (by kernel_rfl) rfl rfl rfl (.tmp 17) (.tmp 24) 26 rfl (w.heap.size + 3) 31 i0 _ 2 32 Try.underlying26 hi hz0 hz1 hz2 rfl (by decide) (.slice av k cv) k (flatC rs) (by rfl) HO5.out ⟨w4.heap.size, 0, none⟩ 1 1 [.int .i64 kd, .slice at2 tx.length ct2] (by rfl) rfl hnews (by intro u hu; simp at hu; rcases hu with rfl | rfl <;> rfl) (by unfold maxLen; omega) (by have := H32.out; omega) (by have := HSZ.out; omega) ?_
      intro v9 w9 hown9 hgrow9 hat9
      obtain ⟨a9, cap9, rfl⟩ := Turn.own_slice hown9
      have hrow9 : ∀ g, (Value.slice av k cv).ownBlock = some g → w.heap.size + 3 ≤ g ∧ g < wr.heap.size := fun g hg => HO.out.lt g hg
      have T9 : Turn (fun j => (Value.slice av k cv).ownBlock = some j) w5 w9 := Turn.of_grown hgrow9 (fun g e => e)
      have hS9 : w9.cell? ⟨w.heap.size + 1 + 1, 0, none⟩ = some (.slice av k cv) ∧ w9.cell? ⟨wr.heap.size, 0, none⟩ = some (.int .i64 kd) ∧ w9.cell? ⟨wr.heap.size, 1, none⟩ = some (.slice at1 tx.length ct1) := ⟨T9.cell hS.1 (fun e => by have := (hrow9 _ e).1; simp only at this; omega), T9.cell hS.2.1 (fun e => by have := (hrow9 _ e).2; simp only at this; omega), T9.cell hS.2.2 (fun e => by have := (hrow9 _ e).2; simp only at this; omega)⟩
      refine ⟨.inr hS9, ?_⟩
      have hw9 : w9.heap[w.heap.size + 1 + 1]? = some (.cells #[.slice av k cv, .bool wb] 28 (0, 0)) := T9.heap (HT5.out.heap HW1.out id) (fun e => by have := (hrow9 _ e).1; omega)
      have hf9 : w9.frozen? ⟨w.heap.size + 1 + 1, 0, none⟩ = false := by simp [World.frozen?, hw9]
      have HR : Hid (OwnR w wb cs (k + 1) (w9.setCell ⟨w.heap.size + 1 + 1, 0, none⟩ (.slice a9 (k + 1) cap9))) := Lib.hid (by
        have T10 : Turn (fun j => j = w.heap.size + 1 + 1) w9 (w9.setCell ⟨w.heap.size + 1 + 1, 0, none⟩ (.slice a9 (k + 1) cap9)) := Turn.setCell _ _ rfl
        have hlt9 := fun g hg => hown9.lt g hg
        have hset : (w9.setCell ⟨w.heap.size + 1 + 1, 0, none⟩ (.slice a9 (k + 1) cap9)).heap[w.heap.size + 1 + 1]? = some (.cells #[.slice a9 (k + 1) cap9, .bool wb] 28 (0, 0)) := by
          simp only [World.setCell, Array.getElem?_modify]
          rw [if_pos trivial, hw9]
          simp
        have TA : Turn (fun j => (Value.slice av k cv).ownBlock = some j ∨ j = w.heap.size + 1 + 1) wr (w9.setCell ⟨w.heap.size + 1 + 1, 0, none⟩ (.slice a9 (k + 1) cap9)) :=
          ((HT5.out.mono (fun _ _ h => h.elim)).trans (T9.mono (fun _ _ h => .inl h))).trans (T10.mono (fun _ _ h => .inr h))
        refine ⟨_, rs ++ [(kd, .slice at2 tx.length ct2)], hset, ?_, ?_, texts_snoc ?_ HX.out ?_, ?_⟩
        · exact T10.heap (T9.heap (HT5.out.heap HW2.out id) (fun e => by have := (hrow9 _ e).1; omega)) (fun e => by omega)
        · rw [flatC_app]
          exact T10.kept hown9 (fun g hg e => by have := (hlt9 g hg).1; omega)
        · refine texts_grow HTX.out TA (fun b hb hlt e => ?_) (fun b hb hlt => ⟨hb.1, fun e => ?_⟩)
          · rcases e with e | e
            · exact hb.2 e
            · have := hb.1; omega
          · rcases hat9 with h9 | h9
            · rw [h9] at e; exact hb.2 e
            · rw [h9] at e; injection e with e; omega
        · have h2 : TextAt (fun b => W2.heap.size ≤ b ∧ b < w4.heap.size) True w4 (.slice at2 tx.length ct2) tx := by
            obtain ⟨a, c, e1, e2, e3, e4⟩ := HTV.out
            exact ⟨a, c, e1, e2, e3, e4.imp id fun ⟨b, off, g1, g2, g3, g4⟩ => ⟨b, off, g1, g2, ⟨g3, g2⟩, g4⟩⟩
          have TB : Turn (fun j => (Value.slice av k cv).ownBlock = some j ∨ j = w.heap.size + 1 + 1) w4 (w9.setCell ⟨w.heap.size + 1 + 1, 0, none⟩ (.slice a9 (k + 1) cap9)) := by
            refine (Turn.trans ?_ (T9.mono (fun _ _ h => .inl h))).trans (T10.mono (fun _ _ h => .inr h))
            exact HT45.out.mono (fun _ _ h => h.elim)
          have hsw := HSZ.out
          refine (h2.turn TB (fun b hb _ e => ?_)).mono (fun b hb _ => ⟨by omega, fun e => ?_⟩)
          · rcases e with e | e
            · have := (hrow9 _ e).2; omega
            · omega
          · rcases hat9 with h9 | h9
            · rw [h9] at e; have := (hrow9 _ e).2; omega
            · rw [h9] at e; injection e with e; omega
        · refine HBL.out.trans ((TA.below hHS (fun j e => ?_)))
          rcases e with e | e
          · have := (hrow9 _ e).1; omega
          · omega)
      have c9 := hS9.1
      have HS9 : Hid (w9.cell? ⟨w.heap.size + 1 + 1, 0, none⟩ = some (.slice av k cv) ∧ w9.cell? ⟨wr.heap.size, 0, none⟩ = some (.int .i64 kd) ∧ w9.cell? ⟨wr.heap.size, 1, none⟩ = some (.slice at1 tx.length ct1)) := Lib.hid hS9
      clear hS hS9 T9 hown9 hgrow9 hat9 hw9
      refine take_one (i := 10) (by kernel_rfl) rfl rfl fun K hK => ?_
      go_wp2_with fail
      refine hK _ _ (.inr HS9.out) ?_
      clear hK
      refine take_one (i := 11) (by kernel_rfl) rfl rfl fun K hK => ?_
      go_wp2_with fail
      refine hK _ _ (.inl rfl) ?_
      clear hK c9 hf9
      refine take_done (by kernel_rfl) ?_ _
      go_wp2_with fail
      go_roundg (n - (k + 1))
      case measure => omega
      case rel => exact ⟨k + 1, rfl, by omega, by go_num, HR⟩
    · obtain rfl : k = n := by omega
      obtain ⟨v, rs, hb1, hb2, ho, htx, hbel⟩ := H.out
      obtain ⟨av, cv, rfl⟩ := Turn.own_slice ho
      have q0 : wr.cell? ⟨w.heap.size + 1 + 1, 0, none⟩ = some (.slice av k cv) := by simp [World.cell?, hb1]
      have q1 : wr.cell? ⟨w.heap.size + 1 + 1, 1, none⟩ = some (.bool wb) := by simp [World.cell?, hb1]
      have HO := Lib.hid ho
      have HTX := Lib.hid htx
      have HBL := Lib.hid hbel
      have HB2 := Lib.hid hb2
      clear ho htx hbel hb1 hb2 H
      go_wp2_with (refine wpList_store_row rfl 28 _ _ rfl (w.heap.size + 1) #[.slice av k cv, .bool wb] rfl rfl _ _ HB2.out (size_line _ _) rfl (one_line _ _ _ _) ?_)
      refine bodyPost_ret (results_cell_row rfl _ _ (w.heap.size + 1) _ _ (0, 0) _ rfl (setRow_heap _ (w.heap.size + 1) _ _ _ (0, 0) HB2.out) Try.underlying28 rfl (size_line _ _)) rfl ?_
      have T : Turn (fun j => j = w.heap.size + 1) wr (wr.setRow (w.heap.size + 1) #[.slice av k cv, .bool wb]) := turn_setRow _ _ _
      have hk2 : cs.take k = cs := List.take_of_length_le (by rw [HN.out]; exact Nat.le_refl _)
      have htx := HTX.out
      rw [hk2] at htx
      refine ⟨_, rfl, ?_, HBL.out.trans (T.below HBL.out.size (fun k e => by omega))⟩
      refine cells_of_own (rs := rs) (base := w.heap.size + 3) (n := k) (T.kept HO.out (fun g hg e => by have := (HO.out.lt g hg).1; omega)) ⟨htx.1, fun j r x hr hx => ⟨(htx.2 j r x hr hx).1, ((htx.2 j r x hr hx).2.turn T (fun b hb _ e => by have := hb.1; omega)).mono (fun b hb _ => by have := hb.1; omega)⟩⟩ (fun g hg => by have := (HO.out.lt g hg).1; omega) (by rw [HN.out]; exact H32.out)
end Go.Proofs.Ytediledehhcicaa.Ring

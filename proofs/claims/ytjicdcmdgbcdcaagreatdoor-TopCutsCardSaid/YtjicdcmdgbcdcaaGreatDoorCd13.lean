/-
  row.Cells, row.Cell.
  row.Cell, mark.At.
  mark.At.
  mark.Put, mark.Add.
-/
import Derived.Test.YtjicdcmdgbcdcaaGreatDoorCd12

section
namespace Go.Proofs.YtjicdcmdgbcdcaaGreatDoor.Scr
set_option linter.unusedSimpArgs false
set_option linter.unusedVariables false
open Go Go.RowKit Mem Turn Ring

/-- a slice of cells of the call's own (what lies behind B) -/
def OwnCells (B : Nat) (w' : World) (v : Value) (cs : List CellC) : Prop := ∃ rs, w'.ownsRow B 80 2 v cs.length (flatC rs) ∧ Txts w' rs cs
theorem Txts.nil (w : World) : Txts w [] [] := ⟨rfl, fun j r x h => by cases h⟩
theorem Txts.snoc {w : World} {rs : List (Int × Value)} {cs : List CellC} {k : Int} {v : Value} {t : List Int} (h : Txts w rs cs) (hv : TxtAt w v t) : Txts w (rs ++ [(k, v)]) (cs ++ [(k, t)]) := by
  refine ⟨by simp [h.1], fun j r x hr hx => ?_⟩
  rcases Nat.lt_or_ge j rs.length with hj | hj
  · rw [List.getElem?_append_left hj] at hr
    rw [List.getElem?_append_left (by rw [← h.1]; exact hj)] at hx
    exact h.2 j r x hr hx
  · have hj2 : j = rs.length := by
      have := (List.getElem?_eq_some_iff.1 hr).1
      simp at this
      omega
    subst hj2
    rw [List.getElem?_append_right (Nat.le_refl _), Nat.sub_self] at hr
    rw [h.1, List.getElem?_append_right (Nat.le_refl _), Nat.sub_self] at hx
    simp at hr hx
    subst hr hx
    exact ⟨rfl, hv⟩
theorem owns_typ {w : World} {B : Nat} {e : TypeId} {s n : Nat} {v : Value} {xs : List Value} (h : w.ownsRow B e s v n xs) {g : Nat} (hg : v.ownBlock = some g) : Typ w e g := by
  rcases h.2 with ⟨h1, _⟩ | ⟨g', cap, cur, h1, _, h6, _⟩
  · rw [h1] at hg; cases hg
  · rw [h1] at hg
    injection (show some g' = some g from hg) with e
    subst e
    exact ⟨_, _, h6⟩
theorem TxtAt.on {w : World} {v : Value} {t : List Int} (h : TxtAt w v t) {ρ κ : Nat} {l : LineC} (hr : RowAt w ρ κ l) : TextAt (fun b => b ≠ ρ ∧ b ≠ κ) False w v t :=
  TextAt.mono h fun b hb _ => ⟨hb.ne hr.typ (by decide), hb.ne hr.cells.typ (by decide)⟩
theorem OwnCells.at_ {B : Nat} {w : World} {v : Value} {cs : List CellC} (h : OwnCells B w v cs) (D : Nat → Prop) (hD : ∀ b, B ≤ b → D b) (hT : ∀ b, Typ w 21 b → D b) (hs : cs.length ≤ 100000) : CellsAt D False w v cs := by
  obtain ⟨rs, h1, h2⟩ := h
  obtain ⟨a, c, rfl, h3, h4⟩ := own_form h1
  refine ⟨a, c, rfl, h3, by omega, h4.imp id fun ⟨g, e, e2, hb, hg, hf, hc⟩ => ⟨g, 0, e, hg, hD g hb, fun j x hx => ?_⟩⟩
  obtain ⟨r, hr⟩ : ∃ r, rs[j]? = some r := ⟨_, List.getElem?_eq_getElem (by rw [h2.1]; exact (List.getElem?_eq_some_iff.1 hx).1)⟩
  obtain ⟨e1, e3⟩ := h2.2 j r x hr hx
  obtain ⟨g1, g2⟩ := flatC_get hr
  rw [Nat.zero_add]
  exact ⟨by rw [← e1]; exact hc _ _ g1, fun f => f.elim, r.2, hc _ _ g2, TextAt.mono e3 (fun b hb _ => hT b hb)⟩
/-- such a slice is read beside a row -/
theorem OwnCells.on {B : Nat} {w : World} {v : Value} {cs : List CellC} (h : OwnCells B w v cs) {ρ κ : Nat} {l : LineC} (hr : RowAt w ρ κ l) (h1 : ρ < B) (h2 : κ < B) (hs : cs.length ≤ 100000) : CellsAt (fun b => b ≠ ρ ∧ b ≠ κ) False w v cs :=
  h.at_ _ (fun b hb => ⟨by omega, by omega⟩) (fun b hb => ⟨hb.ne hr.typ (by decide), hb.ne hr.cells.typ (by decide)⟩) hs

set_option maxRecDepth 100000 in
set_option maxHeartbeats 8000000 in
theorem cells_any (ρ κ : Nat) (l : LineC) (w : World) (h : RowAt w ρ κ l) :
    Calls Tryz.prog 78 #[.pointer (some ⟨ρ, 0, none⟩)] w fun e w' => ∃ v, e = .returned v ∧ OwnCells w.heap.size w' v l.1 ∧ Below w.heap.size w w' := by
  obtain ⟨i0, hi, hz0, hz1, hz2⟩ := info_parts info_cell
  have HH := Lib.hid h
  have HW := Lib.hid (wide_any ρ κ l w h)
  have hle := h.le
  have hρ := h.typ.lt
  have hκ := h.cells.typ.lt
  obtain ⟨c0, _, _⟩ := h.hdr0
  generalize hn : l.1.length = n at *
  have HN := Lib.hid hn
  clear h hn
  go_enter Tryz.func78, Tryz.ntmps78
  go_wp2_with fail
  refine HW.out.mono ?_
  rintro e w1 ⟨rfl, rfl⟩
  go_wp2_with fail
  clear c0
  go_loopg [3, 4, 7] n (fun gg v3 v4 i wx => ∃ k : Nat, n - k = gg ∧ k ≤ n ∧ i = .int .i64 k ∧ Hid (OwnCells w.heap.size wx v3 (l.1.take k) ∧ Below w.heap.size w wx))
  case atStart => exact ⟨0, rfl, Nat.zero_le _, rfl, Lib.hid ⟨⟨[], World.ownsRow_nil _ _ _ _, Txts.nil _⟩, Below.refl _ _⟩⟩
  case round =>
    obtain ⟨k, rfl, hk, rfl, H⟩ := hrel
    obtain ⟨⟨rs, ho, ht⟩, hb⟩ := H.out
    have hlk : (l.1.take k).length = k := by rw [List.length_take, HN.out]; omega
    rw [hlk] at ho
    obtain ⟨av, cv, hav⟩ := Turn.own_slice ho
    subst hav
    by_cases hlt : k < n
    · have hr := HH.out.turn (Turn.of_new hb : Turn (fun _ => False) w wr) (Free.no _ _) id id
      obtain ⟨tv, x0, x1, x2, _, _⟩ := hr.cells.cell (i := k) (by rw [HN.out]; exact hlt)
      obtain ⟨c0, _, _⟩ := hr.hdr0
      rw [HN.out] at c0
      have hlt' : (k : Int) < (n : Int) := by omega
      have htk : l.1.take (k + 1) = l.1.take k ++ [l.1.getD k blank] := by rw [List.take_add_one, List.getD_eq_getElem?_getD, List.getElem?_eq_getElem (by rw [HN.out]; exact hlt)]; rfl
      have HTK := Lib.hid htk
      have HOWN := Lib.hid (own_any _ False (l.1.getD k blank).1 tv (l.1.getD k blank).2 wr x2)
      obtain ⟨at1, ct1, htv, _⟩ := id x2
      generalize l.1.getD k blank = x at *
      obtain ⟨kd, tx⟩ := x
      simp only at x0 htv HOWN
      subst htv
      generalize tx.length = tn at *
      have HO := Lib.hid ho
      have HT := Lib.hid ht
      have HB := Lib.hid hb
      clear ho ht hb hr x2 htk H hlk
      go_wp2_with fail
      refine HOWN.out.mono ?_
      rintro e w2 ⟨v', rfl, ho', hb'⟩
      obtain ⟨a', c', rfl⟩ := Turn.own_slice ho'.1
      have HO' := Lib.hid ho'
      have T2 : Turn (fun _ => False) wr (w2.alloc (.cells #[.int .i64 kd, .slice a' tx.length c'] 80)) := (Turn.of_new hb').trans (Turn.alloc _ _ _)
      have HO2 := Lib.hid (T2.kept HO.out (fun _ _ => id))
      have HT2 := Lib.hid (HT.out.turn T2 (Free.no _ _))
      have HX2 := Lib.hid (ho'.txt.turn (Turn.alloc (fun _ => False) w2 (.cells #[.int .i64 kd, .slice a' tx.length c'] 80)) (Free.no _ _))
      have HB2 := Lib.hid (HB.out.trans (T2.below HB.out.size (fun _ h => h.elim)))
      have hsz : w.heap.size ≤ w2.heap.size := by have := HB.out.size; have := hb'.size; omega
      clear ho' hb' T2 x0 x1 c0
      go_wp2_with (at_builtin; (refine wpList_append_own _ rfl _ _ 43 rfl w.heap.size 80 i0 _ 2 32 Tryz.underlying43 hi hz0 hz1 hz2 rfl (by decide) (.slice av k cv) k _ rfl HO2.out ⟨w2.heap.size, 0, none⟩ 1 1 [.int .i64 kd, .slice a' tx.length c'] rfl rfl (cell_new2 _ _ _ _) (by intro u hu; simp at hu; rcases hu with rfl | rfl <;> rfl) (by unfold maxLen; omega) (by omega) (by simp; omega) ?_; intro v5 w5 hown5 hgrow5 _))
      have HR : Hid (OwnCells w.heap.size w5 v5 (l.1.take (k + 1)) ∧ Below w.heap.size w w5) := Lib.hid (by
        have T5 : Turn (fun j => (Value.slice av k cv).ownBlock = some j) (w2.alloc (.cells #[.int .i64 kd, .slice a' tx.length c'] 80)) w5 := Turn.of_grown hgrow5 (fun g e => e)
        have hf : Free (fun j => (Value.slice av k cv).ownBlock = some j) (w2.alloc (.cells #[.int .i64 kd, .slice a' tx.length c'] 80)) 21 := fun b hb _ => (owns_typ HO2.out hb).not (by decide)
        refine ⟨⟨rs ++ [(kd, .slice a' tx.length c')], ?_, ?_⟩, HB2.out.trans (T5.below HB2.out.size (fun j e => (HO2.out.lt j e).1))⟩
        · rw [HTK.out, flatC_app, List.length_append, List.length_take, HN.out, Nat.min_eq_left (by omega)]
          exact hown5
        · rw [HTK.out]
          exact (HT2.out.turn T5 hf).snoc (HX2.out.turn T5 hf))
      clear hown5 hgrow5
      go_roundg (n - (k + 1))
      case measure => omega
      case rel => exact ⟨k + 1, rfl, by omega, by go_num, HR⟩
    · obtain rfl : k = n := by omega
      have HF : Hid (OwnCells w.heap.size wr (.slice av k cv) l.1 ∧ Below w.heap.size w wr) := Lib.hid (by
        have h1 := H.out
        rw [List.take_of_length_le (by rw [HN.out]; exact Nat.le_refl _)] at h1
        exact h1)
      clear ho ht hb
      go_wp2_with fail
      go_ret
      exact ⟨_, rfl, HF.out.1, HF.out.2⟩
end Go.Proofs.YtjicdcmdgbcdcaaGreatDoor.Scr
end
section
namespace Go.Proofs.YtjicdcmdgbcdcaaGreatDoor.Scr
set_option linter.unusedSimpArgs false
set_option linter.unusedVariables false
open Go Go.RowKit Mem Turn Ring

theorem results_ct {P : Program} {fn : Func} {p q : Tmp} {ty : TypeId} (h : fn.results = #[.cell p ty, .tmp q]) (tmps : Array Value) (w : World) (g : Nat) (t : TypeId) (cs : Array Value) (fr : Nat × Nat) (d : TypeDesc)
    (hp : tmps.getD p undef = .pointer (some ⟨g, 0, none⟩)) (hg : w.heap[g]? = some (.cells cs t fr))
    (hu : P.underlying ty = some d) (hd : (match d with | .struct _ | .array _ _ => true | _ => false) = true) (hi : (P.info? ty).map (·.size) = some cs.size) :
    (results fn tmps).run P w = .ok (.tuple #[.agg cs, tmps.getD q undef]) w := by
  have hp' : tmps[p]?.getD undef = .pointer (some ⟨g, 0, none⟩) := by simpa using hp
  simp [results, h, hp', asAddr, run_loadVar_row w g t ty cs fr d hg hu hd hi]
theorem results_tct {P : Program} {fn : Func} {o p q : Tmp} {ty : TypeId} (h : fn.results = #[.tmp o, .cell p ty, .tmp q]) (tmps : Array Value) (w : World) (g : Nat) (t : TypeId) (cs : Array Value) (fr : Nat × Nat) (d : TypeDesc)
    (hp : tmps.getD p undef = .pointer (some ⟨g, 0, none⟩)) (hg : w.heap[g]? = some (.cells cs t fr))
    (hu : P.underlying ty = some d) (hd : (match d with | .struct _ | .array _ _ => true | _ => false) = true) (hi : (P.info? ty).map (·.size) = some cs.size) :
    (results fn tmps).run P w = .ok (.tuple #[tmps.getD o undef, .agg cs, tmps.getD q undef]) w := by
  have hp' : tmps[p]?.getD undef = .pointer (some ⟨g, 0, none⟩) := by simpa using hp
  simp [results, h, hp', asAddr, run_loadVar_row w g t ty cs fr d hg hu hd hi]

set_option maxRecDepth 100000 in
set_option maxHeartbeats 4000000 in
theorem cell_in (ρ κ i : Nat) (l : LineC) (w : World) (h : RowAt w ρ κ l) (hi : i < l.1.length) :
    Calls Tryz.prog 331 #[.pointer (some ⟨ρ, 0, none⟩), .int .i64 (i : Int)] w fun e w' => ∃ v, e = .returned (.tuple #[.agg #[.int .i64 (l.1.getD i blank).1, v], .bool true]) ∧ OwnTxt w w' v (l.1.getD i blank).2 ∧ Below w.heap.size w w' := by
  have e2 := heap_alloc_new w (.cells #[.int .i64 0, .slice none 0 0] 80)
  have T : Turn (fun _ => False) w (w.alloc (.cells #[.int .i64 0, .slice none 0 0] 80)) := Turn.alloc _ _ _
  have hr := h.turn T (Free.no _ _) id id
  have HW := Lib.hid (wide_any ρ κ l _ hr)
  obtain ⟨c0, _, _⟩ := hr.hdr0
  obtain ⟨tv, x0, x1, x2, _, _⟩ := hr.cells.cell hi
  have HB : Hid (Below w.heap.size w (w.alloc (.cells #[.int .i64 0, .slice none 0 0] 80))) := Lib.hid ((Below.refl _ _).alloc (Nat.le_refl _) _)
  have HOWN := Lib.hid (own_any _ False (l.1.getD i blank).1 tv (l.1.getD i blank).2 _ x2)
  obtain ⟨at1, ct1, htv, _⟩ := id x2
  have hle := h.le
  generalize l.1.getD i blank = x at *
  obtain ⟨kd, tx⟩ := x
  simp only at x0 htv HOWN
  subst htv
  generalize l.1.length = n at *
  generalize htn : tx.length = tn at *
  have hsz : (w.alloc (.cells #[.int .i64 0, .slice none 0 0] 80)).heap.size = w.heap.size + 1 := by simp
  have d1 : decide ((n : Int) ≤ (i : Int)) = false := decide_eq_false (by omega)
  have d2 : decide (n ≤ i) = false := decide_eq_false (by omega)
  have HE := Lib.hid e2
  have HSZ := Lib.hid hsz
  clear h T hr x2 e2 hsz htn
  go_enter Tryz.func331, Tryz.ntmps331
  go_upto_region 1 with fail
  generalize (w.alloc (.cells #[.int .i64 0, .slice none 0 0] 80)) = w1 at *
  go_wp2_with fail
  refine HW.out.mono ?_
  rintro e w2 ⟨rfl, rfl⟩
  go_wp2_with fail
  refine HOWN.out.mono ?_
  rintro e w2 ⟨v', rfl, ho, hb⟩
  obtain ⟨a', c', rfl⟩ := Turn.own_slice ho.1
  have e3 := (hb.block _ (by have := HSZ.out; omega)).trans HE.out
  have HP : Hid (OwnTxt w (w2.setRow w.heap.size #[.int .i64 kd, .slice a' tx.length c']) (.slice a' tx.length c') tx ∧ Below w.heap.size w (w2.setRow w.heap.size #[.int .i64 kd, .slice a' tx.length c'])) := Lib.hid (by
    have TR := turn_setRow w2 w.heap.size #[.int .i64 kd, .slice a' tx.length c']
    have hs := HSZ.out
    refine ⟨⟨TR.kept (owns_base ho.1 (by omega)) (fun g hg e => by have := (ho.1.lt g hg).1; omega), ho.2⟩, HB.out.trans (Below.trans (hb.mono (by omega)) (TR.below (by have := hb.size; omega) (fun j e => by omega)))⟩)
  have HF := Lib.hid (setRow_heap w2 w.heap.size _ #[.int .i64 kd, .slice a' tx.length c'] 80 (0, 0) e3)
  clear ho hb c0 x0 x1
  go_wp2_with (refine wpList_store_row rfl 80 _ _ rfl w.heap.size #[.int .i64 kd, .slice a' tx.length c'] rfl rfl _ _ e3 (size_cell _ _) rfl (one_cellR _ _ _ _) ?_)
  refine bodyPost_ret (results_ct rfl _ _ w.heap.size _ _ (0, 0) _ rfl HF.out Tryz.underlying80 rfl (size_cell _ _)) rfl ?_
  exact ⟨_, rfl, HP.out.1, HP.out.2⟩
end Go.Proofs.YtjicdcmdgbcdcaaGreatDoor.Scr
end
section
namespace Go.Proofs.YtjicdcmdgbcdcaaGreatDoor.Scr
set_option linter.unusedSimpArgs false
set_option linter.unusedVariables false
open Go Go.RowKit Mem Turn Ring

/-- the cluster at a column: where it begins, its width, its numbers -/
def atC (cs : List CellC) (col : Int) : Option (Nat × Int × List Int) :=
  if col < 0 ∨ (cs.length : Int) ≤ col then none
  else if kindAt cs col.toNat = 1 then some (col.toNat, 1, (cs.getD col.toNat blank).2)
  else if kindAt cs col.toNat = 2 then some (col.toNat, 2, (cs.getD col.toNat blank).2)
  else if kindAt cs col.toNat = 3 then some (col.toNat - 1, 2, (cs.getD (col.toNat - 1) blank).2)
  else none

theorem size_item (x y : Value) : (Tryz.prog.info? 183).map (·.size) = some (#[x, y] : Array Value).size := by kernel_rfl

/-- what 'At' hands out of a cluster -/
def AtP (w : World) (from_ : Nat) (wide : Int) (t : List Int) (e : Ending) (w' : World) : Prop :=
  ∃ v, e = .returned (.tuple #[.int .i64 (from_ : Int), .agg #[.int .i64 wide, v], .bool true]) ∧ OwnTxt w w' v t ∧ Below w.heap.size w w'

set_option maxRecDepth 100000 in
set_option maxHeartbeats 8000000 in
theorem at_some (ρ κ c : Nat) (l : LineC) (w : World) (h : RowAt w ρ κ l) (hc : c < l.1.length) (hk : kindAt l.1 c = 1 ∨ kindAt l.1 c = 2) :
    Calls Tryz.prog 294 #[.pointer (some ⟨ρ, 0, none⟩), .int .i64 (c : Int)] w (AtP w c (kindAt l.1 c) (l.1.getD c blank).2) := by
  have hmx : Tryz.prog.follows .mixedOrders = true := by kernel_rfl
  have e5 := heap_alloc_new w (.cells #[.int .i64 0, .slice none 0 0] 183)
  have T : Turn (fun _ => False) w (w.alloc (.cells #[.int .i64 0, .slice none 0 0] 183)) := Turn.alloc _ _ _
  have hr := h.turn T (Free.no _ _) id id
  have HC := Lib.hid (cell_in ρ κ c l _ hr hc)
  have HB : Hid (Below w.heap.size w (w.alloc (.cells #[.int .i64 0, .slice none 0 0] 183))) := Lib.hid ((Below.refl _ _).alloc (Nat.le_refl _) _)
  unfold kindAt at hk ⊢
  generalize l.1.getD c blank = x at *
  obtain ⟨kd, tx⟩ := x
  simp only at hk HC ⊢
  have hsz : (w.alloc (.cells #[.int .i64 0, .slice none 0 0] 183)).heap.size = w.heap.size + 1 := by simp
  have HE5 := Lib.hid e5
  have HSZ := Lib.hid hsz
  clear h T hr e5 hsz hc
  rcases hk with rfl | rfl
  · go_enter Tryz.func294, Tryz.ntmps294
    go_upto_region 1 with fail
    generalize (w.alloc (.cells #[.int .i64 0, .slice none 0 0] 183)) = w1 at *
    go_wp2_with fail
    refine HC.out.mono ?_
    rintro e w2 ⟨v', rfl, ho, hb⟩
    obtain ⟨a', c', rfl⟩ := Turn.own_slice ho.1
    have HO := Lib.hid ho
    have HB2 := Lib.hid hb
    have hlt2 : w.heap.size < w2.heap.size := by have := HSZ.out; have := hb.size; omega
    clear ho hb HC
    generalize htn : tx.length = tn at *
    have HTN := Lib.hid htn
    clear htn
    have hnew : (w2.alloc (.cells #[.int .i64 0, .slice none 0 0] 80)).heap[w2.heap.size]? = some (.cells #[.int .i64 0, .slice none 0 0] 80 (0, 0)) := heap_alloc_new w2 _
    have hrow : ∀ k : Int, (w2.alloc (.cells #[.int .i64 0, .slice none 0 0] 80)).setRow w2.heap.size #[.int .i64 k, .slice a' tn c'] = w2.alloc (.cells #[.int .i64 k, .slice a' tn c'] 80) := fun k => World.setRow_alloc_new w2 _ _ _
    go_upto_region 2 with (refine wpList_store_row rfl 80 _ _ rfl w2.heap.size #[.int .i64 _, .slice a' tn c'] rfl rfl _ _ hnew (size_cell _ _) rfl (one_cellR _ _ _ _) ?_)
    have hle3 := World.size_alloc w2 (.cells #[.int .i64 1, .slice a' tn c'] 80)
    have e7 := heap_alloc_new w2 (.cells #[.int .i64 1, .slice a' tn c'] 80)
    have T3 : Turn (fun _ => False) w2 (w2.alloc (.cells #[.int .i64 1, .slice a' tn c'] 80)) := Turn.alloc _ _ _
    have HE53 := Lib.hid (T3.heap ((HB2.out.block _ (by have := HSZ.out; omega)).trans HE5.out) id)
    have HT3 := Lib.hid T3
    clear hnew hrow T3
    generalize (w2.alloc (.cells #[.int .i64 1, .slice a' tn c'] 80)) = w3 at *
    have q0 : w3.cell? ⟨w2.heap.size, 0, none⟩ = some (.int .i64 1) := by simp [World.cell?, e7]
    have q1 : w3.cell? ⟨w2.heap.size, 1, none⟩ = some (.slice a' tn c') := by simp [World.cell?, e7]
    have HS3 := Lib.hid hle3
    clear e7 hle3
    go_upto_region 6 with fail
    refine region_begin3 (fun w' => w'.cell? ⟨w2.heap.size, 1, none⟩ = some (.slice a' tn c')) (fun _ => false) 7 rfl hmx (by intro _ _ d _ _ h; cases d <;> exact h) fun hQP => ?_
    have hS : w3.drew.cell? ⟨w2.heap.size, 1, none⟩ = some (.slice a' tn c') := q1
    have q1 : w3.drew.cell? ⟨w2.heap.size, 1, none⟩ = some (.slice a' tn c') := q1
    have HE53 : Hid (w3.drew.heap[w.heap.size]? = some (.cells #[.int .i64 0, .slice none 0 0] 183 (0, 0))) := Lib.hid HE53.out
    have HT3 := Lib.hid (HT3.out.trans (Turn.drew (fun _ => False) w3))
    have HS3 : Hid (w3.drew.heap.size = w2.heap.size + 1) := Lib.hid HS3.out
    generalize w3.drew = w3d at *
    refine take_f 0 35 rfl rfl (by kernel_rfl) (by kernel_rfl) (by kernel_rfl) (by kernel_rfl) hQP hS (.inl ⟨by kernel_rfl, fun w' hw' => by go_simp; try with_reducible rfl⟩) ?_
    refine take_f 1 36 rfl rfl (by kernel_rfl) (by kernel_rfl) (by kernel_rfl) (by kernel_rfl) hQP hS (.inl ⟨by kernel_rfl, fun w' hw' => by go_simp; try with_reducible rfl⟩) ?_
    refine take_f 2 37 rfl rfl (by kernel_rfl) (by kernel_rfl) (by kernel_rfl) (by kernel_rfl) hQP hS (.inl ⟨by kernel_rfl, fun w' hw' => by go_simp; try with_reducible rfl⟩) ?_
    refine take_f 3 38 rfl rfl (by kernel_rfl) (by kernel_rfl) (by kernel_rfl) (by kernel_rfl) hQP hS (.inl ⟨by kernel_rfl, fun w' hw' => by go_simp; try with_reducible rfl⟩) ?_
    refine take_f 4 4 rfl rfl (by kernel_rfl) (by kernel_rfl) (by kernel_rfl) (by kernel_rfl) hQP hS (.inl ⟨by kernel_rfl, fun w' hw' => by go_simp; try with_reducible rfl⟩) ?_
    have TR := turn_setRow w3d w.heap.size #[.int .i64 1, .slice a' tn c']
    have hSn : (w3d.setRow w.heap.size #[.int .i64 1, .slice a' tn c']).cell? ⟨w2.heap.size, 1, none⟩ = some (.slice a' tn c') := TR.cell q1 (fun e => by simp only at e; omega)
    try simp only [List.setIfInBounds_toArray, List.set_cons_succ, List.set_cons_zero]
    refine take_store_row 5 (by kernel_rfl) rfl rfl rfl 183 (.tmp 5) (.tmp 38) rfl w.heap.size #[.int .i64 1, .slice a' tn c'] (by rfl) (by rfl) 183 #[.int .i64 0, .slice none 0 0] HE53.out (size_item _ _) rfl (one_cellR _ _ _ _) (.inr hSn) ?_
    have HF := Lib.hid (setRow_heap w3d w.heap.size _ #[.int .i64 1, .slice a' tn c'] 183 (0, 0) HE53.out)
    have HP : Hid (OwnTxt w (w3d.setRow w.heap.size #[.int .i64 1, .slice a' tn c']) (.slice a' tn c') tx ∧ Below w.heap.size w (w3d.setRow w.heap.size #[.int .i64 1, .slice a' tn c'])) := Lib.hid (by
      have hs := HSZ.out
      have T9 : Turn (fun j => j = w.heap.size) w2 (w3d.setRow w.heap.size #[.int .i64 1, .slice a' tn c']) := (HT3.out.mono (fun _ _ h => h.elim)).trans TR
      obtain ⟨ho1, ho2⟩ := HO.out
      rw [HTN.out] at ho1
      refine ⟨⟨by rw [HTN.out]; exact T9.kept (owns_base ho1 (by omega)) (fun g hg e => by have := (ho1.lt g hg).1; omega), ho2⟩, HB.out.trans (Below.trans (HB2.out.mono (by omega)) (T9.below (by omega) (fun j e => by omega)))⟩)
    have hS : (w3d.setRow w.heap.size #[.int .i64 1, .slice a' tn c']).cell? ⟨w2.heap.size, 1, none⟩ = some (.slice a' tn c') := TR.cell q1 (fun e => by simp only at e; omega)
    clear TR
    generalize (w3d.setRow w.heap.size #[.int .i64 1, .slice a' tn c']) = w4 at *
    refine take_f 6 6 rfl rfl (by kernel_rfl) (by kernel_rfl) (by kernel_rfl) (by kernel_rfl) hQP hS (.inl ⟨by kernel_rfl, fun w' hw' => by go_simp; try with_reducible rfl⟩) ?_
    refine take_done (by kernel_rfl) ?_ _
    go_wp2_with fail
    refine bodyPost_ret (results_tct rfl _ _ w.heap.size _ _ (0, 0) _ rfl HF.out Tryz.underlying183 rfl (size_item _ _)) rfl ?_
    exact ⟨_, rfl, HP.out.1, HP.out.2⟩
  · go_enter Tryz.func294, Tryz.ntmps294
    go_upto_region 1 with fail
    generalize (w.alloc (.cells #[.int .i64 0, .slice none 0 0] 183)) = w1 at *
    go_wp2_with fail
    refine HC.out.mono ?_
    rintro e w2 ⟨v', rfl, ho, hb⟩
    obtain ⟨a', c', rfl⟩ := Turn.own_slice ho.1
    have HO := Lib.hid ho
    have HB2 := Lib.hid hb
    have hlt2 : w.heap.size < w2.heap.size := by have := HSZ.out; have := hb.size; omega
    clear ho hb HC
    generalize htn : tx.length = tn at *
    have HTN := Lib.hid htn
    clear htn
    have hnew : (w2.alloc (.cells #[.int .i64 0, .slice none 0 0] 80)).heap[w2.heap.size]? = some (.cells #[.int .i64 0, .slice none 0 0] 80 (0, 0)) := heap_alloc_new w2 _
    have hrow : ∀ k : Int, (w2.alloc (.cells #[.int .i64 0, .slice none 0 0] 80)).setRow w2.heap.size #[.int .i64 k, .slice a' tn c'] = w2.alloc (.cells #[.int .i64 k, .slice a' tn c'] 80) := fun k => World.setRow_alloc_new w2 _ _ _
    go_upto_region 2 with (refine wpList_store_row rfl 80 _ _ rfl w2.heap.size #[.int .i64 _, .slice a' tn c'] rfl rfl _ _ hnew (size_cell _ _) rfl (one_cellR _ _ _ _) ?_)
    have hle3 := World.size_alloc w2 (.cells #[.int .i64 2, .slice a' tn c'] 80)
    have e7 := heap_alloc_new w2 (.cells #[.int .i64 2, .slice a' tn c'] 80)
    have T3 : Turn (fun _ => False) w2 (w2.alloc (.cells #[.int .i64 2, .slice a' tn c'] 80)) := Turn.alloc _ _ _
    have HE53 := Lib.hid (T3.heap ((HB2.out.block _ (by have := HSZ.out; omega)).trans HE5.out) id)
    have HT3 := Lib.hid T3
    clear hnew hrow T3
    generalize (w2.alloc (.cells #[.int .i64 2, .slice a' tn c'] 80)) = w3 at *
    have q0 : w3.cell? ⟨w2.heap.size, 0, none⟩ = some (.int .i64 2) := by simp [World.cell?, e7]
    have q1 : w3.cell? ⟨w2.heap.size, 1, none⟩ = some (.slice a' tn c') := by simp [World.cell?, e7]
    have HS3 := Lib.hid hle3
    clear e7 hle3
    go_upto_region 8 with fail
    refine region_begin3 (fun w' => w'.cell? ⟨w2.heap.size, 1, none⟩ = some (.slice a' tn c')) (fun _ => false) 7 rfl hmx (by intro _ _ d _ _ h; cases d <;> exact h) fun hQP => ?_
    have hS : w3.drew.cell? ⟨w2.heap.size, 1, none⟩ = some (.slice a' tn c') := q1
    have q1 : w3.drew.cell? ⟨w2.heap.size, 1, none⟩ = some (.slice a' tn c') := q1
    have HE53 : Hid (w3.drew.heap[w.heap.size]? = some (.cells #[.int .i64 0, .slice none 0 0] 183 (0, 0))) := Lib.hid HE53.out
    have HT3 := Lib.hid (HT3.out.trans (Turn.drew (fun _ => False) w3))
    have HS3 : Hid (w3.drew.heap.size = w2.heap.size + 1) := Lib.hid HS3.out
    generalize w3.drew = w3d at *
    refine take_f 0 46 rfl rfl (by kernel_rfl) (by kernel_rfl) (by kernel_rfl) (by kernel_rfl) hQP hS (.inl ⟨by kernel_rfl, fun w' hw' => by go_simp; try with_reducible rfl⟩) ?_
    refine take_f 1 47 rfl rfl (by kernel_rfl) (by kernel_rfl) (by kernel_rfl) (by kernel_rfl) hQP hS (.inl ⟨by kernel_rfl, fun w' hw' => by go_simp; try with_reducible rfl⟩) ?_
    refine take_f 2 48 rfl rfl (by kernel_rfl) (by kernel_rfl) (by kernel_rfl) (by kernel_rfl) hQP hS (.inl ⟨by kernel_rfl, fun w' hw' => by go_simp; try with_reducible rfl⟩) ?_
    refine take_f 3 49 rfl rfl (by kernel_rfl) (by kernel_rfl) (by kernel_rfl) (by kernel_rfl) hQP hS (.inl ⟨by kernel_rfl, fun w' hw' => by go_simp; try with_reducible rfl⟩) ?_
    refine take_f 4 4 rfl rfl (by kernel_rfl) (by kernel_rfl) (by kernel_rfl) (by kernel_rfl) hQP hS (.inl ⟨by kernel_rfl, fun w' hw' => by go_simp; try with_reducible rfl⟩) ?_
    have TR := turn_setRow w3d w.heap.size #[.int .i64 2, .slice a' tn c']
    have hSn : (w3d.setRow w.heap.size #[.int .i64 2, .slice a' tn c']).cell? ⟨w2.heap.size, 1, none⟩ = some (.slice a' tn c') := TR.cell q1 (fun e => by simp only at e; omega)
    try simp only [List.setIfInBounds_toArray, List.set_cons_succ, List.set_cons_zero]
    refine take_store_row 5 (by kernel_rfl) rfl rfl rfl 183 (.tmp 5) (.tmp 49) rfl w.heap.size #[.int .i64 2, .slice a' tn c'] (by rfl) (by rfl) 183 #[.int .i64 0, .slice none 0 0] HE53.out (size_item _ _) rfl (one_cellR _ _ _ _) (.inr hSn) ?_
    have HF := Lib.hid (setRow_heap w3d w.heap.size _ #[.int .i64 2, .slice a' tn c'] 183 (0, 0) HE53.out)
    have HP : Hid (OwnTxt w (w3d.setRow w.heap.size #[.int .i64 2, .slice a' tn c']) (.slice a' tn c') tx ∧ Below w.heap.size w (w3d.setRow w.heap.size #[.int .i64 2, .slice a' tn c'])) := Lib.hid (by
      have hs := HSZ.out
      have T9 : Turn (fun j => j = w.heap.size) w2 (w3d.setRow w.heap.size #[.int .i64 2, .slice a' tn c']) := (HT3.out.mono (fun _ _ h => h.elim)).trans TR
      obtain ⟨ho1, ho2⟩ := HO.out
      rw [HTN.out] at ho1
      refine ⟨⟨by rw [HTN.out]; exact T9.kept (owns_base ho1 (by omega)) (fun g hg e => by have := (ho1.lt g hg).1; omega), ho2⟩, HB.out.trans (Below.trans (HB2.out.mono (by omega)) (T9.below (by omega) (fun j e => by omega)))⟩)
    have hS : (w3d.setRow w.heap.size #[.int .i64 2, .slice a' tn c']).cell? ⟨w2.heap.size, 1, none⟩ = some (.slice a' tn c') := TR.cell q1 (fun e => by simp only at e; omega)
    clear TR
    generalize (w3d.setRow w.heap.size #[.int .i64 2, .slice a' tn c']) = w4 at *
    refine take_f 6 6 rfl rfl (by kernel_rfl) (by kernel_rfl) (by kernel_rfl) (by kernel_rfl) hQP hS (.inl ⟨by kernel_rfl, fun w' hw' => by go_simp; try with_reducible rfl⟩) ?_
    refine take_done (by kernel_rfl) ?_ _
    go_wp2_with fail
    refine bodyPost_ret (results_tct rfl _ _ w.heap.size _ _ (0, 0) _ rfl HF.out Tryz.underlying183 rfl (size_item _ _)) rfl ?_
    exact ⟨_, rfl, HP.out.1, HP.out.2⟩
end Go.Proofs.YtjicdcmdgbcdcaaGreatDoor.Scr
end
section
namespace Go.Proofs.YtjicdcmdgbcdcaaGreatDoor.Scr
set_option linter.unusedSimpArgs false
set_option linter.unusedVariables false
open Go Go.RowKit Mem Turn Ring

theorem fixR_valid (r : Int) : validB (fixR r) = true := by
  unfold fixR
  split
  · assumption
  · rfl
theorem fixR_id {r : Int} (h : validB r = true) : fixR r = r := if_pos h
theorem ofC_sound (wide : Int) (t : List Int) (h : t ≠ []) : soundB (ofC wide t) = true := by
  have hr : ∀ k : Int, k = 1 ∨ k = 2 → rightB (k, (t.take 16).map fixR) = true := by
    intro k hk
    unfold rightB
    have e1 : ((t.take 16).map fixR).isEmpty = false := by
      cases t with
      | nil => exact absurd rfl h
      | cons x t => rfl
    have e2 : ((t.take 16).map fixR).length ≤ 16 := by rw [List.length_map, List.length_take]; omega
    have e3 : ((t.take 16).map fixR).all validB = true := by
      rw [List.all_eq_true]
      intro x hx
      obtain ⟨y, _, rfl⟩ := List.mem_map.1 hx
      exact fixR_valid y
    simp only [e1, e2, e3]
    rcases hk with rfl | rfl <;> simp
  unfold ofC
  rw [if_neg h]
  split
  · unfold soundB
    simp only [soundGo, hr 2 (.inr rfl)]
    simp [rightB]
  · unfold soundB
    simp only [soundGo, hr 1 (.inl rfl)]
    simp
theorem ofC_len (wide : Int) (t : List Int) : (ofC wide t).length = if 2 ≤ wide then 2 else 1 := by
  unfold ofC
  by_cases h : t = [] <;> by_cases h2 : 2 ≤ wide <;> simp [h, h2]

/-- mark.Put, where there is room -/
theorem mput_ok (D : Nat → Prop) (fz : Prop) (ρ κ k : Nat) (l : LineC) (wide : Int) (v : Value) (t : List Int) (w : World) (h : RowAt w ρ κ l) (h0 : kindAt l.1 0 ≠ 3) (ht : TextAt D fz w v t) (hne : t ≠ []) (hk : k + (if 2 ≤ wide then 2 else 1) ≤ l.1.length) :
    Calls Tryz.prog 162 #[.pointer (some ⟨ρ, 0, none⟩), .int .i64 (k : Int), .int .i64 wide, v] w fun e w' => e = .returned .nilIface ∧ RowAt w' ρ κ (paintN l k (ofC wide t)) ∧ Turn (fun b => b = ρ ∨ b = κ) w w' := by
  obtain ⟨a, c, rfl, _⟩ := id ht
  have hn : 0 < t.length := List.length_pos_iff.2 hne
  have hρ := h.typ.lt
  have hκ := h.cells.typ.lt
  have HO : Hid (Calls Tryz.prog 235 #[.int .i64 wide, .slice a t.length c] w fun e w' => ∃ v, e = .returned v ∧ CellsAt (fun b => w.heap.size ≤ b) False w' v (ofC wide t) ∧ Below w.heap.size w w') := Lib.hid (by
    by_cases h2 : 2 ≤ wide
    · have e : ofC wide t = [(2, (t.take 16).map fixR), (3, [])] := by unfold ofC; rw [if_neg hne, if_pos h2]
      rw [e]
      exact of_two D fz w wide h2 a _ c t hn ht
    · have e : ofC wide t = [(1, (t.take 16).map fixR)] := by unfold ofC; rw [if_neg hne, if_neg h2]
      rw [e]
      exact of_one D fz w wide (by omega) a _ c t hn ht)
  have HP : Hid (∀ w1 v1, Below w.heap.size w w1 → CellsAt (fun b => w.heap.size ≤ b) False w1 v1 (ofC wide t) → Calls Tryz.prog 234 #[.pointer (some ⟨ρ, 0, none⟩), .int .i64 (k : Int), v1] w1 fun e w' => e = .returned .nilIface ∧ RowAt w' ρ κ (paintN l k (ofC wide t)) ∧ Turn (fun b => b = ρ ∨ b = κ) w w') := Lib.hid fun w1 v1 hb hc => by
    have T : Turn (fun _ => False) w w1 := Turn.of_new hb
    refine (paint_ok ρ κ k l v1 (ofC wide t) w1 (h.turn T (Free.no _ _) id id) h0 (hc.mono (fun b hb2 _ => ⟨by omega, by omega⟩)) (by rw [ofC_len]; exact hk) (by rw [ofC_len]; split <;> omega) (ofC_sound wide t hne)).mono ?_
    rintro e w' ⟨h1, h2, h3⟩
    exact ⟨h1, h2, (T.mono (fun _ _ h => h.elim)).trans h3⟩
  clear h h0 ht hk
  generalize ofC wide t = p at *
  go_enter Tryz.func162, Tryz.ntmps162
  go_wp2_with fail
  refine HO.out.mono ?_
  rintro e w1 ⟨v1, rfl, hc, hb⟩
  have HP1 := Lib.hid (HP.out w1 v1 hb hc)
  clear hc hb HO HP
  go_wp2_with fail
  refine HP1.out.mono ?_
  rintro e w2 ⟨rfl, hr, ht⟩
  have HR := Lib.hid (And.intro hr ht)
  clear hr ht HP1
  go_wp2_with fail
  go_ret
  exact ⟨rfl, HR.out⟩

/-- a cluster's cell with one number more -/
def addC (l : LineC) (c : Nat) (x : Int) : LineC := if 16 ≤ (l.1.getD c blank).2.length then l else paintN l c (ofC (kindAt l.1 c) ((l.1.getD c blank).2 ++ [x]))

set_option maxRecDepth 100000 in
set_option maxHeartbeats 8000000 in
theorem add_any (ρ κ c : Nat) (l : LineC) (x : Int) (w : World) (h : RowAt w ρ κ l) (hs : soundB l.1 = true) (hc : c < l.1.length) (hk : kindAt l.1 c = 1 ∨ kindAt l.1 c = 2) :
    Calls Tryz.prog 245 #[.pointer (some ⟨ρ, 0, none⟩), .int .i64 (c : Int), .int .i32 x] w fun e w' => (∃ b, e = .returned (.bool b)) ∧ RowAt w' ρ κ (addC l c x) ∧ Turn (fun b => b = ρ ∨ b = κ) w w' := by
  obtain ⟨i0, hi, hz0, hz1, hz2⟩ := info_parts info_rune
  have hmx : Tryz.prog.follows .mixedOrders = true := by kernel_rfl
  have h0 := sound_first hs
  have hroom : c + (if 2 ≤ kindAt l.1 c then 2 else 1) ≤ l.1.length := by
    rcases hk with e | e
    · rw [e]; simp; omega
    · rw [e]
      have h3 := (((sound_iff _).1 hs).2.2 c).1 e
      have : c + 1 < l.1.length := by
        rcases Nat.lt_or_ge (c + 1) l.1.length with h4 | h4
        · exact h4
        · exfalso
          unfold kindAt at h3
          rw [List.getD_eq_getElem?_getD, List.getElem?_eq_none h4] at h3
          cases h3
      simp; omega
  have HAT := Lib.hid (at_some ρ κ c l w h hc hk)
  have HADD := Lib.hid (show addC l c x = if 16 ≤ (l.1.getD c blank).2.length then l else paintN l c (ofC (kindAt l.1 c) ((l.1.getD c blank).2 ++ [x])) from rfl)
  have HPUT : Hid (∀ (w1 : World) v1 (D : Nat → Prop), Below w.heap.size w w1 → TextAt D False w1 v1 ((l.1.getD c blank).2 ++ [x]) → Calls Tryz.prog 162 #[.pointer (some ⟨ρ, 0, none⟩), .int .i64 (c : Int), .int .i64 (kindAt l.1 c), v1] w1 fun e w' => e = .returned .nilIface ∧ RowAt w' ρ κ (paintN l c (ofC (kindAt l.1 c) ((l.1.getD c blank).2 ++ [x]))) ∧ Turn (fun b => b = ρ ∨ b = κ) w1 w') := Lib.hid fun w1 v1 D hb ht => by
    have T : Turn (fun _ => False) w w1 := Turn.of_new hb
    exact mput_ok D False ρ κ c l (kindAt l.1 c) v1 _ w1 (h.turn T (Free.no _ _) id id) h0 ht (by simp) hroom
  have HROW : Hid (∀ w1, Below w.heap.size w w1 → RowAt w1 ρ κ l ∧ Turn (fun b => b = ρ ∨ b = κ) w w1) := Lib.hid fun w1 hb => by
    have T : Turn (fun _ => False) w w1 := Turn.of_new hb
    exact ⟨h.turn T (Free.no _ _) id id, T.mono (fun _ _ h => h.elim)⟩
  generalize (l.1.getD c blank).2 = t at *
  generalize kindAt l.1 c = kd at *
  unfold AtP at HAT
  clear h hs hc h0 hroom
  go_enter Tryz.func245, Tryz.ntmps245
  go_wp2_with fail
  refine HAT.out.mono ?_
  rintro e w2 ⟨v', rfl, ho, hb⟩
  obtain ⟨a', c', rfl⟩ := Turn.own_slice ho.1
  have HO := Lib.hid ho
  have HB2 := Lib.hid hb
  clear ho hb HAT
  generalize htn : t.length = tn at *
  have HTN := Lib.hid htn
  clear htn
  have hnew : (w2.alloc (.cells #[.int .i64 0, .slice none 0 0] 183)).heap[w2.heap.size]? = some (.cells #[.int .i64 0, .slice none 0 0] 183 (0, 0)) := heap_alloc_new w2 _
  have hrow : (w2.alloc (.cells #[.int .i64 0, .slice none 0 0] 183)).setRow w2.heap.size #[.int .i64 kd, .slice a' tn c'] = w2.alloc (.cells #[.int .i64 kd, .slice a' tn c'] 183) := World.setRow_alloc_new w2 _ _ _
  go_upto_region 2 with (refine wpList_store_row rfl 183 _ _ rfl w2.heap.size #[.int .i64 kd, .slice a' tn c'] rfl rfl _ _ hnew (size_item _ _) rfl (one_cellR _ _ _ _) ?_)
  have e7 := heap_alloc_new w2 (.cells #[.int .i64 kd, .slice a' tn c'] 183)
  have HS3 : Hid ((w2.alloc (.cells #[.int .i64 kd, .slice a' tn c'] 183)).heap.size = w2.heap.size + 1) := Lib.hid (World.size_alloc w2 _)
  have HT3 : Hid (Turn (fun _ => False) w2 (w2.alloc (.cells #[.int .i64 kd, .slice a' tn c'] 183))) := Lib.hid (Turn.alloc _ _ _)
  try rw [hrow]
  clear hnew hrow
  generalize (w2.alloc (.cells #[.int .i64 kd, .slice a' tn c'] 183)) = w3 at *
  have q0 : w3.cell? ⟨w2.heap.size, 0, none⟩ = some (.int .i64 kd) := by simp [World.cell?, e7]
  have q1 : w3.cell? ⟨w2.heap.size, 1, none⟩ = some (.slice a' tn c') := by simp [World.cell?, e7]
  clear e7
  by_cases h16 : 16 ≤ tn
  · have d1 : decide (16 ≤ tn) = true := decide_eq_true h16
    have d2 : decide ((16 : Int) ≤ (tn : Int)) = true := decide_eq_true (by omega)
    have HF : Hid (RowAt w3 ρ κ (addC l c x) ∧ Turn (fun b => b = ρ ∨ b = κ) w w3) := Lib.hid (by
      rw [HADD.out, if_pos h16]
      exact HROW.out w3 (HB2.out.trans (HT3.out.below HB2.out.size (fun _ h => h.elim))))
    go_wp2_with fail
    go_ret
    exact ⟨⟨_, rfl⟩, HF.out⟩
  · have d1 : decide (16 ≤ tn) = false := decide_eq_false h16
    have d2 : decide ((16 : Int) ≤ (tn : Int)) = false := decide_eq_false (by omega)
    go_upto_region 4 with fail
    refine region_begin3 (fun w' => w'.cell? ⟨w2.heap.size, 0, none⟩ = some (.int .i64 kd) ∧ w'.cell? ⟨w2.heap.size, 1, none⟩ = some (.slice a' tn c')) (fun _ => false) 12 rfl hmx (by intro _ _ d _ _ h; cases d <;> exact h) fun hQP => ?_
    have hS : w3.drew.cell? ⟨w2.heap.size, 0, none⟩ = some (.int .i64 kd) ∧ w3.drew.cell? ⟨w2.heap.size, 1, none⟩ = some (.slice a' tn c') := ⟨q0, q1⟩
    have HT3d : Hid (Turn (fun _ => False) w2 w3.drew) := Lib.hid (HT3.out.trans (Turn.drew _ _))
    have HS3d : Hid (w3.drew.heap.size = w2.heap.size + 1) := Lib.hid HS3.out
    clear q0 q1 HT3 HS3
    generalize w3.drew = w4 at *
    refine take_f 0 25 rfl rfl (by kernel_rfl) (by kernel_rfl) (by kernel_rfl) (by kernel_rfl) hQP hS (.inl ⟨by kernel_rfl, fun w' hw' => by obtain ⟨e0, e1⟩ := hw'; go_simp; try with_reducible rfl⟩) ?_
    refine take_f 1 26 rfl rfl (by kernel_rfl) (by kernel_rfl) (by kernel_rfl) (by kernel_rfl) hQP hS (.inl ⟨by kernel_rfl, fun w' hw' => by obtain ⟨e0, e1⟩ := hw'; go_simp; try with_reducible rfl⟩) ?_
    refine take_f 2 27 rfl rfl (by kernel_rfl) (by kernel_rfl) (by kernel_rfl) (by kernel_rfl) hQP hS (.inl ⟨by kernel_rfl, fun w' hw' => by obtain ⟨e0, e1⟩ := hw'; go_simp; try with_reducible rfl⟩) ?_
    refine take_f 3 28 rfl rfl (by kernel_rfl) (by kernel_rfl) (by kernel_rfl) (by kernel_rfl) hQP hS (.inl ⟨by kernel_rfl, fun w' hw' => by obtain ⟨e0, e1⟩ := hw'; go_simp; try with_reducible rfl⟩) ?_
    refine take_f 4 29 rfl rfl (by kernel_rfl) (by kernel_rfl) (by kernel_rfl) (by kernel_rfl) hQP hS (.inl ⟨by kernel_rfl, fun w' hw' => by obtain ⟨e0, e1⟩ := hw'; go_simp; try with_reducible rfl⟩) ?_
    refine take_f 5 30 rfl rfl (by kernel_rfl) (by kernel_rfl) (by kernel_rfl) (by kernel_rfl) hQP hS (.inl ⟨by kernel_rfl, fun w' hw' => by obtain ⟨e0, e1⟩ := hw'; go_simp; try with_reducible rfl⟩) ?_
    refine take_f 6 31 rfl rfl (by kernel_rfl) (by kernel_rfl) (by kernel_rfl) (by kernel_rfl) hQP hS (.inl ⟨by kernel_rfl, fun w' hw' => by obtain ⟨e0, e1⟩ := hw'; go_simp; try with_reducible rfl⟩) ?_
    try simp only [List.setIfInBounds_toArray, List.set_cons_succ, List.set_cons_zero]
    refine take_one (i := 7) (by kernel_rfl) rfl rfl fun KQ hK => ?_
    go_wp2_with fail
    have T5 : Turn (fun _ => False) w4 (w4.alloc (.cells #[.int .i32 x] 21)) := Turn.alloc _ _ _
    have hS : (w4.alloc (.cells #[.int .i32 x] 21)).cell? ⟨w2.heap.size, 0, none⟩ = some (.int .i64 kd) ∧ (w4.alloc (.cells #[.int .i32 x] 21)).cell? ⟨w2.heap.size, 1, none⟩ = some (.slice a' tn c') := ⟨T5.cell hS.1 id, T5.cell hS.2 id⟩
    have hnews : ∀ j u, [Value.int .i32 x][j]? = some u → (w4.alloc (.cells #[.int .i32 x] 21)).cell? ((⟨w4.heap.size, 0, none⟩ : Addr).add j) = some u := cell_new1 _ _ _
    refine hK _ _ (.inr hS) ?_
    clear hK
    obtain ⟨ho1, ho2⟩ := HO.out
    rw [HTN.out] at ho1 ho2
    have hown5 := (HT3d.out.trans T5).kept ho1 (fun _ _ => id)
    have hs5 : w4.heap.size ≤ (w4.alloc (.cells #[.int .i32 x] 21)).heap.size := T5.size
    have HT5 := Lib.hid (HT3d.out.trans T5)
    clear T5
    generalize (w4.alloc (.cells #[.int .i32 x] 21)) = w5 at *
    refine take_append_at 8 33 (by kernel_rfl) rfl rfl rfl (.tmp 30) (.tmp 32) 55 rfl w.heap.size 21 i0 _ 1 4 Tryz.underlying55 hi hz0 hz1 hz2 rfl (by decide) (.slice a' tn c') tn (t.map (Value.int .i32)) (by rfl) hown5 ⟨w4.heap.size, 0, none⟩ 1 1 [.int .i32 x] (by rfl) rfl hnews (by intro u hu; simp at hu; subst hu; rfl) (by unfold maxLen; omega) (by omega) (by have := HB2.out.size; have := HS3d.out; omega) ?_
    intro v6 w6 hown6 hgrow6 _
    have T6 : Turn (fun j => (Value.slice a' tn c').ownBlock = some j) w5 w6 := Turn.of_grown hgrow6 (fun g e => e)
    have hgl : ∀ g, (Value.slice a' tn c').ownBlock = some g → w.heap.size ≤ g ∧ g < w2.heap.size := fun g hg => ho1.lt g hg
    have hS : w6.cell? ⟨w2.heap.size, 0, none⟩ = some (.int .i64 kd) ∧ w6.cell? ⟨w2.heap.size, 1, none⟩ = some (.slice a' tn c') := ⟨T6.cell hS.1 (fun e => by have := (hgl _ e).2; simp only at this; omega), T6.cell hS.2 (fun e => by have := (hgl _ e).2; simp only at this; omega)⟩
    refine ⟨.inr hS, ?_⟩
    have HB6 : Hid (Below w.heap.size w w6) := Lib.hid ((HB2.out.trans (HT5.out.below HB2.out.size (fun _ h => h.elim))).trans (T6.below (by have := HB2.out.size; have := HS3d.out; omega) (fun j e => (hgl j e).1)))
    have htx : TextAt (fun _ => True) False w6 v6 (t ++ [x]) := by
      have h9 : w6.ownsRow w.heap.size 21 1 v6 (tn + 1) ((t ++ [x]).map (Value.int .i32)) := by simpa using hown6
      exact (text_of_own h9 (fun _ _ => trivial) (by rw [List.length_append, HTN.out]; simp; omega)).soft
    have HPU := Lib.hid (HPUT.out w6 v6 _ HB6.out htx)
    obtain ⟨a6, c6, rfl⟩ := Turn.own_slice hown6
    have HRK : Hid (w.heap.size ≤ w2.heap.size) := Lib.hid HB2.out.size
    clear hown6 hgrow6 T6 hgl hnews hown5 ho1 htx HPUT
    refine take_one (i := 9) (by kernel_rfl) rfl rfl fun KQ hK => ?_
    go_wp2_with fail
    refine HPU.out.mono ?_
    rintro e w7 ⟨rfl, hr7, ht7⟩
    have hρκ : ρ < w.heap.size ∧ κ < w.heap.size := by
      have := (HROW.out w (Below.refl _ _)).1
      exact ⟨this.typ.lt, this.cells.typ.lt⟩
    have hS : w7.cell? ⟨w2.heap.size, 0, none⟩ = some (.int .i64 kd) ∧ w7.cell? ⟨w2.heap.size, 1, none⟩ = some (.slice a' tn c') := by
      have hk2 := HRK.out
      exact ⟨ht7.cell hS.1 (fun e => by rcases e with e | e <;> simp only at e <;> omega), ht7.cell hS.2 (fun e => by rcases e with e | e <;> simp only at e <;> omega)⟩
    have HF : Hid (RowAt w7 ρ κ (addC l c x) ∧ Turn (fun b => b = ρ ∨ b = κ) w w7) := Lib.hid (by
      rw [HADD.out, if_neg h16]
      exact ⟨hr7, (HROW.out _ HB6.out).2.trans ht7⟩)
    refine hK _ _ (.inr hS) ?_
    clear hK hr7 ht7 HPU
    refine take_f 10 35 rfl rfl (by kernel_rfl) (by kernel_rfl) (by kernel_rfl) (by kernel_rfl) hQP hS (.inl ⟨by kernel_rfl, fun w' hw' => by obtain ⟨e0, e1⟩ := hw'; go_simp; try with_reducible rfl⟩) ?_
    refine take_f 11 6 rfl rfl (by kernel_rfl) (by kernel_rfl) (by kernel_rfl) (by kernel_rfl) hQP hS (.inl ⟨by kernel_rfl, fun w' hw' => by obtain ⟨e0, e1⟩ := hw'; go_simp; try with_reducible rfl⟩) ?_
    refine take_done (by kernel_rfl) ?_ _
    go_wp2_with fail
    go_ret
    exact ⟨⟨_, rfl⟩, HF.out⟩
end Go.Proofs.YtjicdcmdgbcdcaaGreatDoor.Scr
end

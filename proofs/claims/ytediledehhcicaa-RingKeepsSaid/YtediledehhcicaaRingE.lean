/-
  Ring.At, Ring.Last.
-/
import Derived.Test.YtediledehhcicaaRingB
namespace Go.Proofs.Ytediledehhcicaa.Ring
set_option linter.unusedSimpArgs false
set_option linter.unusedVariables false
open Go Go.RowKit Mem Turn

theorem results_cell_tmp {P : Program} {fn : Func} {p q : Tmp} {ty : TypeId} (h : fn.results = #[.cell p ty, .tmp q]) (tmps : Array Value) (w : World) (g : Nat) (t : TypeId) (cs : Array Value) (fr : Nat × Nat) (d : TypeDesc)
    (hp : tmps.getD p undef = .pointer (some ⟨g, 0, none⟩)) (hg : w.heap[g]? = some (.cells cs t fr))
    (hu : P.underlying ty = some d) (hd : (match d with | .struct _ | .array _ _ => true | _ => false) = true) (hi : (P.info? ty).map (·.size) = some cs.size) :
    (results fn tmps).run P w = .ok (.tuple #[.agg cs, tmps.getD q undef]) w := by
  have hp' : tmps[p]?.getD undef = .pointer (some ⟨g, 0, none⟩) := by simpa using hp
  simp [results, h, hp', asAddr, run_loadVar_row w g t ty cs fr d hg hu hd hi]

/-- a line that is there -/
theorem row_of {w : World} {qr lo most gone i : Nat} {ls : List LineC} {x : LineC} (h : RingIs w qr lo most gone ls) (hx : ls[i]? = some x) :
    ∃ f v R P p r, Wheel w qr lo most f gone v R P ∧ i < P.length ∧ f ≤ 100000 ∧ P.length ≤ 100000 ∧ p = (f + i) % P.length ∧ R[p]? = some r ∧ P[p]? = some x ∧ r.2 = x.2 ∧ CellsAt (fun b => lo ≤ b ∧ v.ownBlock ≠ some b) True w r.1 x.1 := by
  obtain ⟨f, v, R, P, hw, hl, h1, h2, _, _, h3, _⟩ := h
  have hi : i < P.length := by rw [← hl.1]; exact (List.getElem?_eq_some_iff.1 hx).1
  have hP := hl.2 i hi
  rw [hx] at hP
  have hp : (f + i) % P.length < P.length := Nat.mod_lt _ (by omega)
  obtain ⟨r, hr⟩ : ∃ r, R[(f + i) % P.length]? = some r := ⟨_, List.getElem?_eq_getElem (by rw [hw.2.2.1.1]; exact hp)⟩
  obtain ⟨e1, e2⟩ := hw.2.2.1.2 _ r x hr hP
  exact ⟨f, v, R, P, _, r, hw, hi, by omega, by omega, rfl, hr, hP, e1, e2⟩

set_option maxRecDepth 100000 in
set_option maxHeartbeats 4000000 in
theorem at_in (qr lo most gone i : Nat) (ls : List LineC) (x : LineC) (w : World) (h : RingIs w qr lo most gone ls) (hx : ls[i]? = some x) :
    Calls Try.prog 13 #[.pointer (some ⟨qr, 0, none⟩), .int .i64 (i : Int)] w fun e w' => ∃ v', e = .returned (.tuple #[.agg #[v', .bool x.2], .bool true]) ∧ CellsAt (fun b => w.heap.size ≤ b) True w' v' x.1 ∧ Below w.heap.size w w' := by
  have hll : ls.length ≤ 65536 := by obtain ⟨f, v, R, P, hw, hl, h1, _, _, _, h3, _⟩ := h; have := hl.1; omega
  have hil : i < ls.length := (List.getElem?_eq_some_iff.1 hx).1
  have HH := Lib.hid h
  have HX := Lib.hid hx
  have d1 : decide ((i : Int) < 0) = false := decide_eq_false (by omega)
  have d2 : decide ((ls.length : Int) ≤ (i : Int)) = false := decide_eq_false (by omega)
  have d3 : decide (ls.length ≤ i) = false := decide_eq_false (by omega)
  have HLEN : Hid (∀ X, RingIs X qr lo most gone ls → Calls Try.prog 11 #[.pointer (some ⟨qr, 0, none⟩)] X fun e w' => e = .returned (.int .i64 (ls.length : Int)) ∧ X = w') := Lib.hid fun X hX => len_any qr lo most gone ls X hX
  generalize ls.length = n at *
  have T1 : Turn (fun _ => False) w (w.alloc (.cells #[.slice none 0 0, .bool false] 28)) := Turn.alloc _ _ _
  have HR1 := Lib.hid (HH.out.turn T1 id (fun _ _ _ => id))
  have HB1 : Hid (Below w.heap.size w (w.alloc (.cells #[.slice none 0 0, .bool false] 28))) := Lib.hid ((Below.refl _ _).alloc (Nat.le_refl _) _)
  have HN1 : Hid ((w.alloc (.cells #[.slice none 0 0, .bool false] 28)).heap[w.heap.size]? = some (.cells #[.slice none 0 0, .bool false] 28 (0, 0))) := Lib.hid (heap_alloc_new w _)
  clear T1 h hx
  go_enter Try.func13, Try.ntmps13
  go_upto_region 1 with fail
  generalize (w.alloc (.cells #[.slice none 0 0, .bool false] 28)) = w1 at *
  go_wp2_with fail
  refine (HLEN.out _ HR1.out).mono ?_
  rintro e w2 ⟨rfl, rfl⟩
  obtain ⟨f, v, R, P, p, r, hw, hi, hf, hP, hp, hr, hpx, hr2, hca⟩ := row_of HR1.out HX.out
  have HAT := Lib.hid (at_row qr lo most f gone i p v R P r x w1 hw hi hf hP hp hr hpx)
  have HCA := Lib.hid hca
  have HR2 := Lib.hid hr2
  clear hw hi hf hP hp hr hpx hr2 hca
  go_wp2_with fail
  refine HAT.out.mono ?_
  rintro e w2 ⟨rfl, hb2⟩
  have HB2 := Lib.hid (HB1.out.trans (hb2.mono HB1.out.size))
  have HN2 := Lib.hid ((Turn.of_new hb2 : Turn (fun _ => False) _ _).heap HN1.out id)
  have HOW := Lib.hid (own_any _ True r.1 r.2 x.1 w2 (HCA.out.below hb2))
  have hs2 := HB2.out.size
  clear hb2 HAT
  go_wp2_with fail
  refine HOW.out.mono ?_
  rintro e w3 ⟨v', rfl, hcv, hb3⟩
  obtain ⟨a', c', rfl, _⟩ := id hcv
  have HB3 := Lib.hid (HB2.out.trans (hb3.mono HB2.out.size))
  have HN3 := Lib.hid ((Turn.of_new hb3 : Turn (fun _ => False) _ _).heap HN2.out id)
  have HCV := Lib.hid hcv
  have hs1 := (Array.getElem?_eq_some_iff.1 HN2.out).1
  clear hcv hb3 HOW
  generalize hxl : x.1.length = xl at *
  clear hxl
  go_wp2_with (refine wpList_store_row rfl 28 _ _ rfl w.heap.size #[.slice a' xl c', .bool r.2] rfl rfl _ _ HN3.out (size_line _ _) rfl (one_line _ _ _ _) ?_)
  refine bodyPost_ret (results_cell_tmp rfl _ _ w.heap.size _ _ (0, 0) _ rfl (setRow_heap _ w.heap.size _ _ _ (0, 0) HN3.out) Try.underlying28 rfl (size_line _ _)) rfl ?_
  have T : Turn (fun j => j = w.heap.size) w3 (w3.setRow w.heap.size #[.slice a' xl c', .bool r.2]) := turn_setRow _ _ _
  refine ⟨_, by rw [HR2.out]; rfl, (HCV.out.turn T (fun b hb _ e => by omega)).mono (fun b hb _ => by omega), HB3.out.trans (T.below HB3.out.size (fun k e => by omega))⟩

set_option maxRecDepth 100000 in
set_option maxHeartbeats 4000000 in
theorem at_out (qv : Value) (n : Nat) (i : Int) (hi : i < 0 ∨ (n : Int) ≤ i) (w : World) (hn : n ≤ 65536) (HL : ∀ X, Below w.heap.size w X → Calls Try.prog 11 #[qv] X fun e w' => e = .returned (.int .i64 (n : Int)) ∧ X = w') :
    Calls Try.prog 13 #[qv, .int .i64 i] w fun e w' => e = .returned (.tuple #[.agg #[.slice none 0 0, .bool false], .bool false]) ∧ Below w.heap.size w w' := by
  have HB1 : Hid (Below w.heap.size w (w.alloc (.cells #[.slice none 0 0, .bool false] 28))) := Lib.hid ((Below.refl _ _).alloc (Nat.le_refl _) _)
  have HN1 : Hid ((w.alloc (.cells #[.slice none 0 0, .bool false] 28)).heap[w.heap.size]? = some (.cells #[.slice none 0 0, .bool false] 28 (0, 0))) := Lib.hid (heap_alloc_new w _)
  have HLN := Lib.hid (HL _ HB1.out)
  clear HL
  by_cases h0 : i < 0
  · have d1 : decide (i < 0) = true := decide_eq_true h0
    clear hi
    go_enter Try.func13, Try.ntmps13
    go_upto_region 1 with fail
    generalize (w.alloc (.cells #[.slice none 0 0, .bool false] 28)) = w1 at *
    go_wp2_with (refine wpList_store_row rfl 28 _ _ rfl w.heap.size #[.slice none 0 0, .bool false] rfl rfl _ _ HN1.out (size_line _ _) rfl (one_line _ _ _ _) ?_)
    refine bodyPost_ret (results_cell_tmp rfl _ _ w.heap.size _ _ (0, 0) _ rfl (setRow_heap _ w.heap.size _ _ _ (0, 0) HN1.out) Try.underlying28 rfl (size_line _ _)) rfl ?_
    have T : Turn (fun j => j = w.heap.size) w1 (w1.setRow w.heap.size #[.slice none 0 0, .bool false]) := turn_setRow _ _ _
    exact ⟨rfl, HB1.out.trans (T.below HB1.out.size (fun k e => by omega))⟩
  · have d1 : decide (i < 0) = false := decide_eq_false h0
    have d2 : decide ((n : Int) ≤ i) = true := decide_eq_true (by omega)
    clear hi h0
    go_enter Try.func13, Try.ntmps13
    go_upto_region 1 with fail
    generalize (w.alloc (.cells #[.slice none 0 0, .bool false] 28)) = w1 at *
    go_wp2_with fail
    refine HLN.out.mono ?_
    rintro e w2 ⟨rfl, rfl⟩
    go_wp2_with (refine wpList_store_row rfl 28 _ _ rfl w.heap.size #[.slice none 0 0, .bool false] rfl rfl _ _ HN1.out (size_line _ _) rfl (one_line _ _ _ _) ?_)
    refine bodyPost_ret (results_cell_tmp rfl _ _ w.heap.size _ _ (0, 0) _ rfl (setRow_heap _ w.heap.size _ _ _ (0, 0) HN1.out) Try.underlying28 rfl (size_line _ _)) rfl ?_
    have T : Turn (fun j => j = w.heap.size) w1 (w1.setRow w.heap.size #[.slice none 0 0, .bool false]) := turn_setRow _ _ _
    exact ⟨rfl, HB1.out.trans (T.below HB1.out.size (fun k e => by omega))⟩

theorem lines_grow {D D' : Nat → Prop} {fz : Prop} {w w' : World} {T : Nat → Prop} {rs : List (Value × Bool)} {ls : List LineC} (h : CellsOf D fz w rs ls) (ht : Turn T w w') (hT : ∀ b, D b → b < w.heap.size → ¬ T b) (hD : ∀ b, D b → b < w.heap.size → D' b) : CellsOf D' fz w' rs ls :=
  ⟨h.1, fun j r x hr hx => ⟨(h.2 j r x hr hx).1, by
    have h2 : CellsAt (fun b => D b ∧ b < w.heap.size) fz w r.1 x.1 := (h.2 j r x hr hx).2.mono (fun b hb hlt => ⟨hb, hlt⟩)
    exact (h2.turn ht (fun b hb hlt => hT b hb.1 hlt)).mono (fun b hb _ => hD b hb.1 hb.2)⟩⟩
theorem lines_snoc {D : Nat → Prop} {fz : Prop} {w : World} {rs : List (Value × Bool)} {ls : List LineC} {k : Nat} {x : LineC} {cv : Value} (h : CellsOf D fz w rs (ls.take k)) (hx : ls[k]? = some x) (ht : CellsAt D fz w cv x.1) : CellsOf D fz w (rs ++ [(cv, x.2)]) (ls.take (k + 1)) := by
  have hl : rs.length = k := by rw [h.1, List.length_take]; have := (List.getElem?_eq_some_iff.1 hx).1; omega
  refine ⟨by rw [List.length_append, h.1, List.take_add_one, hx]; simp, fun j r y hr hy => ?_⟩
  rcases Nat.lt_or_ge j k with h1 | h1
  · rw [List.getElem?_append_left (by omega)] at hr
    rw [List.getElem?_take, if_pos (by omega)] at hy
    exact h.2 j r y hr (by rw [List.getElem?_take, if_pos h1]; exact hy)
  · have hj : j = k := by
      have := (List.getElem?_eq_some_iff.1 hr).1
      simp at this
      omega
    subst hj
    rw [List.getElem?_append_right (by omega), hl, Nat.sub_self] at hr
    simp at hr
    subst hr
    rw [List.getElem?_take, if_pos (by omega), hx] at hy
    injection hy with hy
    subst hy
    exact ⟨rfl, ht⟩

/-- a list of lines of the call's own, of blocks from B on -/
def OwnLr (w : World) (B : Nat) (ls : List LineC) (k : Nat) (v : Value) (rs : List (Value × Bool)) (wx : World) : Prop :=
  wx.ownsRow B 28 2 v k (flatL rs) ∧ CellsOf (fun b => B ≤ b ∧ v.ownBlock ≠ some b) True wx rs (ls.take k) ∧ Below B w wx ∧ B ≤ wx.heap.size
def OwnL (w : World) (B : Nat) (ls : List LineC) (k : Nat) (v : Value) (wx : World) : Prop := ∃ rs, OwnLr w B ls k v rs wx
/-- one line more, laid in a block of its own ahead of the append -/
theorem ownL_next {w w1 w2 w3 : World} {B k : Nat} {ls : List LineC} {v v3 : Value} {x : LineC} {cv : Value} {rs : List (Value × Bool)} (h : OwnLr w B ls k v rs w1) (hx : ls[k]? = some x) (hb : Below w1.heap.size w1 w2) (hc : CellsAt (fun b => w1.heap.size ≤ b) True w2 cv x.1)
    (hown : w3.ownsRow B 28 2 v3 (k + 1) (flatL rs ++ [cv, .bool x.2])) (hg : w2.grownBy w3 v.ownBlock) (hat : v3.ownBlock = v.ownBlock ∨ v3.ownBlock = some w2.heap.size) : OwnL w B ls (k + 1) v3 w3 := by
  obtain ⟨h1, h2, h3, h4⟩ := h
  have hsz := hb.size
  have T3 : Turn (fun j => v.ownBlock = some j) w2 w3 := Turn.of_grown hg (fun g e => e)
  have TA : Turn (fun j => v.ownBlock = some j) w1 w3 := (Turn.of_new hb).trans T3
  refine ⟨rs ++ [(cv, x.2)], by rw [flatL_app]; exact hown, lines_snoc ?_ hx ?_, h3.trans (TA.below h4 (fun j e => (h1.lt j e).1)), Nat.le_trans h4 TA.size⟩
  · refine lines_grow h2 TA (fun b hb2 _ e => hb2.2 e) (fun b hb2 hlt => ⟨hb2.1, fun e => ?_⟩)
    rcases hat with h9 | h9
    · rw [h9] at e; exact hb2.2 e
    · rw [h9] at e; injection e with e; omega
  · have hc2 : CellsAt (fun b => w1.heap.size ≤ b ∧ b < w2.heap.size) True w2 cv x.1 := hc.mono (fun b hb2 hlt => ⟨hb2, hlt⟩)
    refine (hc2.turn T3 (fun b hb2 _ e => by have := (h1.lt b e).2; omega)).mono (fun b hb2 _ => ⟨by omega, fun e => ?_⟩)
    rcases hat with h9 | h9
    · rw [h9] at e; have := (h1.lt b e).2; omega
    · rw [h9] at e; injection e with e; omega
theorem OwnL.lines {w wx : World} {B k : Nat} {ls : List LineC} {v : Value} (h : OwnL w B ls k v wx) (hk : ls.length ≤ k) : LinesAt (fun b => B ≤ b) True wx v ls := by
  obtain ⟨rs, h1, h2, h3, h4⟩ := h
  rw [List.take_of_length_le hk] at h2
  exact lines_of_own h1 (h2.mono (fun b hb _ => hb.1)) (fun g hg => (h1.lt g hg).1)
theorem OwnL.nil (w : World) (B : Nat) (ls : List LineC) (wx : World) (hb : Below B w wx) (hB : B ≤ wx.heap.size) : OwnL w B ls 0 (.slice none 0 0) wx := ⟨[], World.ownsRow_nil _ _ _ _, ⟨by simp, fun j r x h => by cases h⟩, hb, hB⟩

set_option maxRecDepth 100000 in
set_option maxHeartbeats 8000000 in
theorem last_any (qr lo most gone : Nat) (ls : List LineC) (n : Int) (hn1 : -9223372036854775808 ≤ n) (hn2 : n ≤ 9223372036854775807) (k0 : Nat) (hk0 : (k0 : Int) = max 0 ((ls.length : Int) - max 0 n)) (w : World) (h : RingIs w qr lo most gone ls) :
    Calls Try.prog 8 #[.pointer (some ⟨qr, 0, none⟩), .int .i64 n] w fun e w' => ∃ v, e = .returned v ∧ LinesAt (fun b => w.heap.size ≤ b) True w' v (ls.drop k0) ∧ Below w.heap.size w w' := by
  obtain ⟨i0, hi, hz0, hz1, hz2⟩ := info_parts info_line
  have hll : ls.length ≤ 65536 := by obtain ⟨f, v, R, P, hw, hl, h1, _, _, _, h3, _⟩ := h; have := hl.1; omega
  have hkl : k0 ≤ ls.length := by omega
  have HH := Lib.hid h
  have HLEN : Hid (∀ X, RingIs X qr lo most gone ls → Calls Try.prog 11 #[.pointer (some ⟨qr, 0, none⟩)] X fun e w' => e = .returned (.int .i64 (ls.length : Int)) ∧ X = w') := Lib.hid fun X hX => len_any qr lo most gone ls X hX
  obtain ⟨N, hN⟩ : ∃ N, N = ls.length := ⟨_, rfl⟩
  have HN := Lib.hid hN
  rw [← hN] at hll hkl hk0 HLEN
  have HK0 := Lib.hid hk0
  clear h hN hk0
  go_enter Try.func8, Try.ntmps8
  go_upto_region 2 with fail
  go_cut [6] (fun s wx => s = .int .i64 (k0 : Int) ∧ w = wx)
  case first =>
    go_wp2_with (refine (HLEN.out _ HH.out).mono ?_; rintro e w2 ⟨rfl, rfl⟩)
    all_goals
      go_meet
      exact ⟨by congr 1; have := HK0.out; omega, rfl⟩
  case rest =>
    obtain ⟨rfl, rfl⟩ := hcut
    have HSTART : Hid (OwnL w w.heap.size (ls.drop k0) 0 (.slice none 0 0) w) := Lib.hid (OwnL.nil _ _ _ _ (Below.refl _ _) (Nat.le_refl _))
    go_wp2_with fail
    go_loopg [5, 6] (N - k0) (fun gg v i wx => ∃ m : Nat, N - m = gg ∧ k0 ≤ m ∧ m ≤ N ∧ i = .int .i64 (m : Int) ∧ Hid (∃ j, k0 + j = m ∧ OwnL w w.heap.size (ls.drop k0) j v wx))
    case atStart => exact ⟨k0, rfl, Nat.le_refl _, hkl, rfl, Lib.hid ⟨0, rfl, HSTART.out⟩⟩
    case round =>
      obtain ⟨m, rfl, hm0, hm, rfl, H⟩ := hrel
      obtain ⟨j, hjm, rs, hOL⟩ := H.out
      obtain ⟨av, cv, rfl⟩ := Turn.own_slice hOL.1
      have HOL := Lib.hid hOL
      have HR := Lib.hid (HH.out.below hOL.2.2.1)
      have HJM := Lib.hid hjm
      have hj65 : j ≤ 65536 := by omega
      clear hOL H hjm
      by_cases hlt : m < N
      · obtain ⟨x, hx⟩ : ∃ x, ls[m]? = some x := ⟨_, List.getElem?_eq_getElem (by rw [← HN.out]; exact hlt)⟩
        have HX : Hid ((ls.drop k0)[j]? = some x) := Lib.hid (by rw [List.getElem?_drop, HJM.out]; exact hx)
        have HAT := Lib.hid (at_in qr lo most gone m ls x wr HR.out hx)
        clear hx
        go_wp2_with fail
        refine (HLEN.out _ HR.out).mono ?_
        rintro e w2 ⟨rfl, rfl⟩
        go_wp2_with fail
        refine HAT.out.mono ?_
        rintro e w2 ⟨v2, rfl, hc2, hb2⟩
        obtain ⟨a2, c2, rfl, _⟩ := id hc2
        have HC2 := Lib.hid hc2
        have HB2 := Lib.hid hb2
        clear hc2 hb2 HAT
        obtain ⟨xc, xw⟩ := x
        obtain ⟨xl, hxl⟩ : ∃ xl, xl = xc.length := ⟨_, rfl⟩
        have HXL := Lib.hid hxl
        simp only
        rw [← hxl]
        clear hxl
        obtain ⟨W2, hW2⟩ : ∃ W2, W2 = w2.alloc (.cells #[.slice a2 xl c2, .bool xw] 28) := ⟨_, rfl⟩
        have hnew : (w2.alloc (.cells #[.slice none 0 0, .bool false] 28)).heap[w2.heap.size]? = some (.cells #[.slice none 0 0, .bool false] 28 (0, 0)) := heap_alloc_new w2 _
        have hrow : (w2.alloc (.cells #[.slice none 0 0, .bool false] 28)).setRow w2.heap.size #[.slice a2 xl c2, .bool xw] = W2 := by rw [hW2]; exact World.setRow_alloc_new w2 _ _ _
        have hh2 : W2.heap[w2.heap.size]? = some (.cells #[.slice a2 xl c2, .bool xw] 28 (0, 0)) := by rw [hW2]; exact heap_alloc_new w2 _
        have HBW : Hid (Below w2.heap.size w2 W2) := by rw [hW2]; exact Lib.hid ((Below.refl _ _).alloc (Nat.le_refl _) _)
        have q1 : W2.cell? ⟨w2.heap.size, 0, none⟩ = some (.slice a2 xl c2) := by simp [World.cell?, hh2]
        have q2 : W2.cell? ⟨w2.heap.size, 1, none⟩ = some (.bool xw) := by simp [World.cell?, hh2]
        have HBA : Hid (Below wr.heap.size wr (W2.alloc (.cells #[.slice a2 xl c2, .bool xw] 28))) := Lib.hid ((HB2.out.trans (HBW.out.mono HB2.out.size)).alloc (Nat.le_trans HB2.out.size HBW.out.size) _)
        have HOA := Lib.hid ((Turn.of_new HBA.out : Turn (fun _ => False) _ _).kept HOL.out.1 (fun _ _ => id))
        have HSB := Lib.hid (Nat.le_trans HOL.out.2.2.2 HBA.out.size)
        have HCA := Lib.hid ((HC2.out.below HBW.out).below ((Below.refl _ _).alloc (Nat.le_refl _) (.cells #[.slice a2 xl c2, .bool xw] 28)))
        have hnews : ∀ j u, [Value.slice a2 xl c2, .bool xw][j]? = some u → (W2.alloc (.cells #[.slice a2 xl c2, .bool xw] 28)).cell? ((⟨W2.heap.size, 0, none⟩ : Addr).add j) = some u := cell_new2 _ _ _ _
        have HNW := Lib.hid hnews
        clear hW2 hh2 hnews
        go_wp2_with (first
          | (refine wpList_store_row rfl 28 _ _ rfl w2.heap.size #[.slice a2 xl c2, .bool xw] rfl rfl _ _ hnew (size_line _ _) rfl (one_line _ _ _ _) ?_; rw [hrow])
          | (at_builtin; refine wpList_append_own_at _ rfl (.tmp 27) (.tmp 29) 22 rfl w.heap.size 28 i0 _ 2 32 Try.underlying22 hi hz0 hz1 hz2 rfl (by decide) (.slice av j cv) j (flatL rs) rfl HOA.out ⟨W2.heap.size, 0, none⟩ 1 1 [.slice a2 xl c2, .bool xw] rfl rfl HNW.out (by intro u hu; simp at hu; rcases hu with rfl | rfl <;> rfl) (by unfold maxLen; omega) (by omega) HSB.out ?_; intro v3 w3 hown3 hgrow3 _ hat3))
        have HNX := Lib.hid (ownL_next (x := (xc, xw)) HOL.out HX.out HBA.out (by have h9 := HCA.out; rw [← HXL.out] at h9; exact h9) hown3 hgrow3 hat3)
        clear hown3 hgrow3 hat3
        go_roundg (N - (m + 1))
        case measure => omega
        case rel => exact ⟨m + 1, rfl, by omega, by omega, by go_num, Lib.hid ⟨j + 1, by have := HJM.out; omega, HNX.out⟩⟩
      · obtain rfl : m = N := by omega
        go_wp2_with fail
        refine (HLEN.out _ HR.out).mono ?_
        rintro e w2 ⟨rfl, rfl⟩
        go_wp2_with fail
        go_ret
        exact ⟨_, rfl, OwnL.lines ⟨rs, HOL.out⟩ (by rw [List.length_drop]; have := HJM.out; have := HN.out; omega), HOL.out.2.2.1⟩
end Go.Proofs.Ytediledehhcicaa.Ring

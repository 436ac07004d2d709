/-
  A begun cluster in memory; widen: add.
  utfdec within a feeder, from cell 1 on: Held, Flush, begin, Step.
-/
import Derived.Test.YtjicdcmdgbcdcaaGreatDoorSd12
import Derived.Test.YtjicdcmdgbcdcaaGreatDoorSd15
import Derived.Test.YtjicdcmdgbcdcaaGreatDoorSd28
import Derived.Test.YtjicdcmdgbcdcaaGreatDoorSd29
import Derived.Test.YtjicdcmdgbcdcaaGreatDoorSd30

section
namespace Go.Proofs.YtjicdcmdgbcdcaaGreatDoor.Scr
set_option linter.unusedSimpArgs false
set_option linter.unusedVariables false
open Go Go.RowKit Mem Turn Ring
open Seg (P4 St)

/-- block q holds a begun cluster -/
def CluIs (w : World) (q : Nat) (c : CluC) : Prop :=
  c.text.length ≤ 16 ∧ w.heap[q]? = some (.cells ([Value.int .i64 c.at_.row, .int .i64 c.at_.col, .bool c.at_.pend, .int .i64 c.wide] ++ (Clu.cv c.text ++ [Value.bool c.ga.some, .bool c.ga.pict, .bool c.ga.wide])).toArray 247 (0, 0))
def kClu (c : CluC) : CluO.Fr := ⟨.int .i64 c.at_.row, .int .i64 c.at_.col, .bool c.at_.pend, .int .i64 c.wide, .bool c.ga.some, .bool c.ga.pict, .bool c.ga.wide⟩
theorem CluIs.clu {w : World} {q : Nat} {c : CluC} (h : CluIs w q c) : CluO.CAt (kClu c) w q c.text := ⟨h.1, (), h.2⟩
theorem CluIs.of_clu {w : World} {q : Nat} {c : CluC} {t : List Int} (h : CluO.CAt (kClu c) w q t) : CluIs w q { c with text := t } := by
  obtain ⟨h1, _, h2⟩ := h
  exact ⟨h1, h2⟩
def kGa (c : CluC) : GaO.Fr :=
  let g : Nat → Value := fun i => (Clu.cv c.text).getD i undef
  ⟨.int .i64 c.at_.row, .int .i64 c.at_.col, .bool c.at_.pend, .int .i64 c.wide, g 0, g 1, g 2, g 3, g 4, g 5, g 6, g 7, g 8, g 9, g 10, g 11, g 12, g 13, g 14, g 15, g 16⟩
theorem list17 (l : List Value) (h : l.length = 17) : l = [l.getD 0 undef, l.getD 1 undef, l.getD 2 undef, l.getD 3 undef, l.getD 4 undef, l.getD 5 undef, l.getD 6 undef, l.getD 7 undef, l.getD 8 undef, l.getD 9 undef, l.getD 10 undef, l.getD 11 undef, l.getD 12 undef, l.getD 13 undef, l.getD 14 undef, l.getD 15 undef, l.getD 16 undef] := by
  refine List.ext_getElem (by simp [h]) fun i h1 h2 => ?_
  have hi : i < 17 := by omega
  have : ∀ j, j < 17 → l.getD j undef = l.getD j undef := fun _ _ => rfl
  rcases i with _ | _ | _ | _ | _ | _ | _ | _ | _ | _ | _ | _ | _ | _ | _ | _ | _ | i
  all_goals first | (exfalso; omega) | (simp [List.getD_eq_getElem?_getD, List.getElem?_eq_getElem h1])
theorem cells_ga (c : CluC) (h : c.text.length ≤ 16) (s : Cw.Ga) :
    ([Value.int .i64 c.at_.row, .int .i64 c.at_.col, .bool c.at_.pend, .int .i64 c.wide] ++ (Clu.cv c.text ++ [Value.bool s.some, .bool s.pict, .bool s.wide])).toArray = (#[(kGa c).a0, (kGa c).a1, (kGa c).a2, (kGa c).a3, (kGa c).a4, (kGa c).a5, (kGa c).a6, (kGa c).a7, (kGa c).a8, (kGa c).a9, (kGa c).a10, (kGa c).a11, (kGa c).a12, (kGa c).a13, (kGa c).a14, (kGa c).a15, (kGa c).a16, (kGa c).a17, (kGa c).a18, (kGa c).a19, (kGa c).a20, Value.bool s.some, Value.bool s.pict, Value.bool s.wide] : Array Value) := by
  have := list17 (Clu.cv c.text) (Clu.cv_len h)
  unfold kGa
  simp only
  generalize Clu.cv c.text = l at *
  rw [this]
  rfl
theorem CluIs.gauge {w : World} {q : Nat} {c : CluC} (h : CluIs w q c) : GaO.At (kGa c) w q c.ga := ⟨(), by rw [h.2, cells_ga c h.1]⟩
theorem CluIs.of_ga {w : World} {q : Nat} {c : CluC} {s : Cw.Ga} (h : GaO.At (kGa c) w q s) (hl : c.text.length ≤ 16) : CluIs w q { c with ga := s } := by
  obtain ⟨_, h2⟩ := h
  exact ⟨hl, by rw [h2, cells_ga c hl]⟩
theorem CluIs.typ {w : World} {q : Nat} {c : CluC} (h : CluIs w q c) : Typ w 247 q := ⟨_, _, h.2⟩
theorem CluIs.turn {w w' : World} {T : Nat → Prop} {q : Nat} {c : CluC} (h : CluIs w q c) (ht : Turn T w w') (hT : ¬ T q) : CluIs w' q c := ⟨h.1, ht.heap h.2 hT⟩
theorem turn_but {q : Nat} {w w' : World} (h : Seg.But q w w') : Turn (fun b => b = q) w w' := ⟨h.os, h.tape, h.output, h.size, fun k hk hn => h.block k hk hn⟩
theorem size_prop (a b c d : Value) : (Tryz.prog.info? 224).map (·.size) = some (#[a, b, c, d] : Array Value).size := by kernel_rfl
abbrev prA (x : P4) : Array Value := #[.int .i64 x.br, .bool x.pi, .int .i64 x.co, .int .i64 x.ea]
abbrev prV (x : P4) : Value := .agg (prA x)

set_option maxRecDepth 100000 in
set_option maxHeartbeats 8000000 in
theorem wadd_any (q : Nat) (c : CluC) (r : Int) (x : P4) (w : World) (h : CluIs w q c) :
    Calls Tryz.prog 244 #[ptr q, .int .i32 r, prV x] w fun e w' => e = .returned (.int .i64 (Cw.wid (gaN c.ga r x).wide)) ∧ CluIs w' q { c with text := Clu.addL c.text (fixR r), ga := gaN c.ga r x } ∧ Turn (fun b => b = q) w w' := by
  have hmx : Tryz.prog.follows .mixedOrders = true := by kernel_rfl
  have e1 := heap_alloc_new w (.cells (prA x) 224)
  have T1 : Turn (fun _ => False) w (w.alloc (.cells (prA x) 224)) := Turn.alloc _ _ _
  have HQ : Hid (q < w.heap.size ∧ q ≠ w.heap.size) := Lib.hid ⟨h.typ.lt, by have := h.typ.lt; omega⟩
  have hc1 := h.turn T1 id
  have HV := Lib.hid (valid_any r (w.alloc (.cells (prA x) 224)))
  have HAD : Hid (∀ W, CluIs W q c → Calls Tryz.prog 286 #[.pointer (some ⟨q, 4, none⟩), .int .i32 (fixR r)] W fun e w' => e = .returned (.bool (decide (c.text.length < 16))) ∧ CluO.CAt (kClu c) w' q (Clu.addL c.text (fixR r)) ∧ Seg.But q W w') := Lib.hid fun W hW => CluO.add_any (kClu c) q c.text (fixR r) W hW.clu
  have HST : Hid (∀ W, CluIs W q { c with text := Clu.addL c.text (fixR r) } → Calls Tryz.prog 287 #[.pointer (some ⟨q, 21, none⟩), .int .i32 (fixR r), prV x] W fun e w' => e = .returned (.int .i64 (Cw.wid (gaN c.ga r x).wide)) ∧ CluIs w' q { c with text := Clu.addL c.text (fixR r), ga := gaN c.ga r x } ∧ Turn (fun b => b = q) W w') := Lib.hid fun W hW => by
    refine (GaO.step_any (kGa { c with text := Clu.addL c.text (fixR r) }) q c.ga (fixR r) x.br x.pi x.co x.ea W hW.gauge).mono ?_
    rintro e w' ⟨h1, h2, h3⟩
    exact ⟨h1, CluIs.of_ga (c := { c with text := Clu.addL c.text (fixR r) }) h2 hW.1, turn_but h3⟩
  have HFX := Lib.hid (show fixR r = if validB r then r else 65533 from rfl)
  have HC1 := Lib.hid hc1
  have HT1 := Lib.hid T1
  have HE1 := Lib.hid e1
  generalize fixR r = fr at *
  clear h hc1 T1 e1
  go_enter Tryz.func244, Tryz.ntmps244
  go_upto_region 1 with fail
  generalize (w.alloc (.cells #[.int .i64 x.br, .bool x.pi, .int .i64 x.co, .int .i64 x.ea] 224)) = w1 at *
  go_wp2_with fail
  refine HV.out.mono ?_
  rintro e wx ⟨rfl, rfl⟩
  cases hvb : validB r
  all_goals
    have hfx := HFX.out.symm
    rw [hvb] at hfx
    simp only [if_true, if_false, Bool.false_eq_true] at hfx
    subst hfx
    go_upto_region 3 with fail
    go_wp2_with fail
    refine (HAD.out _ HC1.out).mono ?_
    rintro e w2 ⟨rfl, hc2, hb2⟩
    have HC2 := Lib.hid (CluIs.of_clu hc2)
    have ht2 := turn_but hb2
    have HT2 := Lib.hid (HT1.out.mono (T' := fun b => b = q) (fun _ _ h => h.elim) |>.trans ht2)
    have hE2 := ht2.heap HE1.out (fun e => HQ.out.2 e.symm)
    have HST2 := Lib.hid (HST.out w2.drew (HC2.out.turn (Turn.drew (fun _ => False) w2) id))
    have HT3 : Hid (Turn (fun b => b = q) w w2.drew) := Lib.hid (HT2.out.trans (Turn.drew _ _))
    clear hc2 hb2 ht2 HC1 HT1 HE1 HV HAD HST
    go_upto_region 4 with fail
    refine region_begin3 (fun w' => w'.heap[w.heap.size]? = some (.cells (prA x) 224 (0, 0))) (fun _ => false) 7 rfl hmx (by intro _ _ d _ _ h; cases d <;> exact h) fun hQP => ?_
    have hS : w2.drew.heap[w.heap.size]? = some (.cells (prA x) 224 (0, 0)) := hE2
    clear hE2
    generalize w2.drew = w3 at *
    refine take_f 0 15 rfl rfl (by kernel_rfl) (by kernel_rfl) (by kernel_rfl) (by kernel_rfl) hQP hS (.inl ⟨by kernel_rfl, fun w' hw' => by go_simp; try with_reducible rfl⟩) ?_
    refine take_f 1 16 rfl rfl (by kernel_rfl) (by kernel_rfl) (by kernel_rfl) (by kernel_rfl) hQP hS (.inl ⟨by kernel_rfl, fun w' hw' => by go_simp; try with_reducible rfl⟩) ?_
    refine take_f 2 17 rfl rfl (by kernel_rfl) (by kernel_rfl) (by kernel_rfl) (by kernel_rfl) hQP hS (.inl ⟨by kernel_rfl, fun w' hw' => by go_simp; try with_reducible rfl⟩) ?_
    refine take_f 3 18 rfl rfl (by kernel_rfl) (by kernel_rfl) (by kernel_rfl) (by kernel_rfl) hQP hS (.inl ⟨by kernel_rfl, fun w' hw' => by go_simp; try with_reducible rfl⟩) ?_
    refine take_f 4 19 rfl rfl (by kernel_rfl) (by kernel_rfl) (by kernel_rfl) (by kernel_rfl) hQP hS (yields_load_row 224 (.tmp 5) rfl (by kernel_rfl) w.heap.size (by rfl) _ (prA x) _ _ (fun w' hw' => hw') Tryz.underlying224 rfl (size_prop _ _ _ _)) ?_
    try simp only [List.setIfInBounds_toArray, List.set_cons_succ, List.set_cons_zero]
    refine take_g (i := 5) (by kernel_rfl) rfl (by kernel_rfl) fun KQ hK => ?_
    go_wp2_with fail
    refine HST2.out.mono ?_
    rintro e w4 ⟨rfl, hc4, ht4⟩
    have HF : Hid (CluIs w4 q { c with text := Clu.addL c.text _, ga := gaN c.ga r x } ∧ Turn (fun b => b = q) w w4) := Lib.hid ⟨hc4, HT3.out.trans ht4⟩
    have hS := ht4.heap hS (fun e => HQ.out.2 e.symm)
    refine hK _ _ (.inr hS) ?_
    clear hK hc4 ht4 HST2
    refine take_f 6 6 rfl rfl (by kernel_rfl) (by kernel_rfl) (by kernel_rfl) (by kernel_rfl) hQP hS (.inl ⟨by kernel_rfl, fun w' hw' => by go_simp; try with_reducible rfl⟩) ?_
    refine take_done (by kernel_rfl) ?_ _
    try simp only [List.setIfInBounds_toArray, List.set_cons_succ, List.set_cons_zero]
    go_wp2_with fail
    go_ret
    exact ⟨rfl, HF.out⟩
end Go.Proofs.YtjicdcmdgbcdcaaGreatDoor.Scr
end
section
namespace Go.Proofs.YtjicdcmdgbcdcaaGreatDoor.Scr
set_option linter.unusedSimpArgs false
set_option linter.unusedVariables false
open Go Go.RowKit Mem Turn Ring

/-- the block's other cells -/
structure DFr where
  a0 : Value
  z0 : Value
  z1 : Value
  z2 : Value
  z3 : Value
  z4 : Value
  z5 : Value
def decL (K : DFr) (d : DecC) : List Value := [K.a0, .int .i64 d.held, .int .i64 d.needs, .int .u8 d.lo, .int .u8 d.hi, .int .i64 d.bits, K.z0, K.z1, K.z2, K.z3, K.z4, K.z5]
def DecAt (K : DFr) (w : World) (q : Nat) (d : DecC) : Prop := w.heap[q]? = some (.cells (decL K d).toArray 125 (0, 0))
theorem DecAt.turn {K : DFr} {w w' : World} {T : Nat → Prop} {q : Nat} {d : DecC} (h : DecAt K w q d) (ht : Turn T w w') (hT : ¬ T q) : DecAt K w' q d := ht.heap h hT
theorem DecAt.cells {K : DFr} {w : World} {q : Nat} {d : DecC} (h : DecAt K w q d) : w.cell? ⟨q, 1, none⟩ = some (.int .i64 d.held) ∧ w.cell? ⟨q, 2, none⟩ = some (.int .i64 d.needs) ∧ w.cell? ⟨q, 3, none⟩ = some (.int .u8 d.lo) ∧ w.cell? ⟨q, 4, none⟩ = some (.int .u8 d.hi) ∧ w.cell? ⟨q, 5, none⟩ = some (.int .i64 d.bits) ∧ ∀ j, w.frozen? ⟨q, j, none⟩ = false := by
  have h' : w.heap[q]? = _ := h
  exact ⟨by simp [World.cell?, h', decL], by simp [World.cell?, h', decL], by simp [World.cell?, h', decL], by simp [World.cell?, h', decL], by simp [World.cell?, h', decL], fun j => by simp [World.frozen?, h']⟩
theorem DecAt.typ {K : DFr} {w : World} {q : Nat} {d : DecC} (h : DecAt K w q d) : Typ w 125 q := ⟨_, _, h⟩
theorem DecAt.setHeld {K : DFr} {w : World} {q : Nat} {d : DecC} (h : DecAt K w q d) (x : Int) : DecAt K (w.setCell ⟨q, 1, none⟩ (.int .i64 x)) q { d with held := x } := by
  have := heap_set1 (cs := decL K d) h 1 (.int .i64 x)
  exact this
theorem DecAt.setNeeds {K : DFr} {w : World} {q : Nat} {d : DecC} (h : DecAt K w q d) (x : Int) : DecAt K (w.setCell ⟨q, 2, none⟩ (.int .i64 x)) q { d with needs := x } := by
  have := heap_set1 (cs := decL K d) h 2 (.int .i64 x)
  exact this
theorem DecAt.setLo {K : DFr} {w : World} {q : Nat} {d : DecC} (h : DecAt K w q d) (x : Int) : DecAt K (w.setCell ⟨q, 3, none⟩ (.int .u8 x)) q { d with lo := x } := by
  have := heap_set1 (cs := decL K d) h 3 (.int .u8 x)
  exact this
theorem DecAt.setHi {K : DFr} {w : World} {q : Nat} {d : DecC} (h : DecAt K w q d) (x : Int) : DecAt K (w.setCell ⟨q, 4, none⟩ (.int .u8 x)) q { d with hi := x } := by
  have := heap_set1 (cs := decL K d) h 4 (.int .u8 x)
  exact this
theorem DecAt.setBits {K : DFr} {w : World} {q : Nat} {d : DecC} (h : DecAt K w q d) (x : Int) : DecAt K (w.setCell ⟨q, 5, none⟩ (.int .i64 x)) q { d with bits := x } := by
  have := heap_set1 (cs := decL K d) h 5 (.int .i64 x)
  exact this
/-- what a call on a decoder leaves -/
def DecTo (K : DFr) (w : World) (q : Nat) (d : DecC) (w' : World) : Prop := DecAt K w' q d ∧ Turn (fun b => b = q) w w'

def DecRes (K : DFr) (w : World) (q : Nat) (t : List Int) (d : DecC) (e : Ending) (w' : World) : Prop := ∃ v, e = .returned v ∧ OwnTxt w w' v t ∧ DecTo K w q d w'

theorem OwnTxt.nil (w w' : World) : OwnTxt w w' (.slice none 0 0) [] := ⟨World.ownsRow_nil _ _ _ _, by simp⟩
theorem OwnTxt.lit (w w1 : World) (x : Int) (h : w.heap.size ≤ w1.heap.size) : OwnTxt w (w1.alloc (.cells #[.int .i32 x] 21)) (.slice (some ⟨w1.heap.size, 0, none⟩) 1 1) [x] :=
  ⟨⟨rfl, .inr ⟨w1.heap.size, 1, #[.int .i32 x], rfl, h, heap_alloc_new w1 _, Nat.le_refl _, by unfold maxLen; omega, rfl, rfl⟩⟩, by simp⟩

theorem dheld_any (K : DFr) (q : Nat) (d : DecC) (w : World) (h : DecAt K w q d) : Calls Tryz.prog 117 #[.pointer (some ⟨q, 1, none⟩)] w fun e w' => e = .returned (.int .i64 d.held) ∧ w = w' := by
  obtain ⟨c1, _⟩ := h.cells
  clear h
  go_enter Tryz.func117, Tryz.ntmps117
  go_wp2
  go_ret
  exact ⟨rfl, rfl⟩
/-- all set to nothing -/
def zeroW (w : World) (q : Nat) : World := ((((w.setCell ⟨q, 1, none⟩ (.int .i64 0)).setCell ⟨q, 2, none⟩ (.int .i64 0)).setCell ⟨q, 3, none⟩ (.int .u8 0)).setCell ⟨q, 4, none⟩ (.int .u8 0)).setCell ⟨q, 5, none⟩ (.int .i64 0)
theorem DecAt.zeroed {K : DFr} {w : World} {q : Nat} {d : DecC} (h : DecAt K w q d) : DecAt K (zeroW w q) q .zero := ((((h.setHeld 0).setNeeds 0).setLo 0).setHi 0).setBits 0
theorem turn_set5 (w : World) (q i : Nat) (v : Value) : Turn (fun b => b = q) w (w.setCell ⟨q, i, none⟩ v) := Turn.setCell _ _ rfl
theorem zeroW_turn (w : World) (q : Nat) : Turn (fun b => b = q) w (zeroW w q) := ((((turn_set5 _ _ _ _).trans (turn_set5 _ _ _ _)).trans (turn_set5 _ _ _ _)).trans (turn_set5 _ _ _ _)).trans (turn_set5 _ _ _ _)
set_option maxRecDepth 100000 in
set_option maxHeartbeats 4000000 in
theorem dflush_any (K : DFr) (q : Nat) (d : DecC) (w : World) (h : DecAt K w q d) (hd : DecOK d) : Calls Tryz.prog 68 #[.pointer (some ⟨q, 1, none⟩)] w (DecRes K w q (flushD d) .zero) := by
  have HH := Lib.hid (dheld_any K q d w h)
  obtain ⟨c1, c2, c3, c4, c5, f⟩ := h.cells
  have f1 := f 1
  have f2 := f 2
  have f3 := f 3
  have f4 := f 4
  have f5 := f 5
  by_cases h0 : d.held = 0
  · have HF : Hid (OwnTxt w w (.slice none 0 0) (flushD d) ∧ DecTo K w q .zero w) := Lib.hid (by
      have hz : d = .zero := by
        rcases hd with e | e
        · exact e
        · omega
      unfold flushD
      rw [if_pos h0, ← hz]
      exact ⟨OwnTxt.nil w w, h, Turn.refl _ _⟩)
    rw [h0] at HH
    clear h hd f c1 c2 c3 c4 c5 f1 f2 f3 f4 f5 h0
    go_enter Tryz.func68, Tryz.ntmps68
    go_wp2_with fail
    refine HH.out.mono ?_
    rintro e wx ⟨rfl, rfl⟩
    go_wp2_with fail
    go_ret
    exact ⟨_, rfl, HF.out⟩
  · have z : (d.held == 0) = false := by simpa using h0
    have HF : Hid (OwnTxt w ((zeroW w q).alloc (.cells #[.int .i32 65533] 21)) (.slice (some ⟨(zeroW w q).heap.size, 0, none⟩) 1 1) (flushD d) ∧ DecTo K w q .zero ((zeroW w q).alloc (.cells #[.int .i32 65533] 21))) := Lib.hid (by
      unfold flushD
      rw [if_neg h0]
      have T : Turn (fun _ => False) (zeroW w q) ((zeroW w q).alloc (.cells #[.int .i32 65533] 21)) := Turn.alloc _ _ _
      exact ⟨OwnTxt.lit w _ 65533 (zeroW_turn w q).size, h.zeroed.turn T id, (zeroW_turn w q).trans (T.mono (fun _ _ h => h.elim))⟩)
    clear hd
    generalize d.held = hd at *
    clear h f h0
    go_enter Tryz.func68, Tryz.ntmps68
    go_wp2_with fail
    refine HH.out.mono ?_
    rintro e wx ⟨rfl, rfl⟩
    go_upto_region 4 with fail
    have hw : ((((w.setCell ⟨q, 1, none⟩ (.int .i64 0)).setCell ⟨q, 2, none⟩ (.int .i64 0)).setCell ⟨q, 3, none⟩ (.int .u8 0)).setCell ⟨q, 4, none⟩ (.int .u8 0)).setCell ⟨q, 5, none⟩ (.int .i64 0) = zeroW w q := rfl
    first | rw [hw] | skip
    clear hw
    generalize zeroW w q = w2 at *
    clear c1 c2 c3 c4 c5 f1 f2 f3 f4 f5
    go_wp2_with fail
    go_ret
    exact ⟨_, rfl, HF.out⟩

theorem and_nat (m : Nat) (hm : m = 31 ∨ m = 15 ∨ m = 7 ∨ m = 63) (k : IntKind) (hk : k = .i64 ∨ k = .u8) (b : Int) (h1 : 0 ≤ b) (h2 : b ≤ 255) : bits .and k b m = b % (m + 1) := by
  obtain ⟨n, rfl⟩ : ∃ n : Nat, b = n := ⟨b.toNat, by omega⟩
  have hn : n < 256 := by omega
  have c : ∀ m ∈ [31, 15, 7, 63], ∀ k ∈ [IntKind.i64, IntKind.u8], ∀ n : Nat, n < 256 → bits .and k (n : Int) ((m : Nat) : Int) = (n : Int) % ((m : Nat) + 1) := by decide +kernel
  exact c m (by rcases hm with e | e | e | e <;> subst e <;> simp) k (by rcases hk with e | e <;> subst e <;> simp) n hn

set_option maxRecDepth 100000 in
set_option maxHeartbeats 4000000 in
theorem bits_any (b : Int) (w : World) (h1 : 0 ≤ b) (h2 : b ≤ 255) : Calls Tryz.prog 182 #[.int .u8 b] w fun e w' => e = .returned (.int .i64 (bitsN b)) ∧ w = w' := by
  have HL := Lib.hid (lead_any b w h1 h2)
  have HB := Lib.hid (show bitsN b = if leadN b = 0 then 0 else if leadN b = 1 then b else b % (if leadN b = 2 then 32 else if leadN b = 3 then 16 else 8) from rfl)
  have hr := lead_rng b
  have hc : leadN b = 0 ∨ leadN b = 1 ∨ leadN b = 2 ∨ leadN b = 3 ∨ leadN b = 4 := by omega
  rcases hc with e | e | e | e | e
  all_goals
    rw [e] at HL HB
    simp at HB
    clear hr e
    go_enter Tryz.func182, Tryz.ntmps182
    go_wp2_with fail
    refine HL.out.mono ?_
    rintro e wx ⟨rfl, rfl⟩
    go_wp2_with fail
    go_ret
    refine ⟨ret_num (by first | (rw [HB.out]; done) | (rw [HB.out]; rfl) | (rw [HB.out]; exact (and_nat 31 (by simp) .i64 (by simp) b h1 h2)) | (rw [HB.out]; exact (and_nat 15 (by simp) .i64 (by simp) b h1 h2)) | (rw [HB.out]; exact (and_nat 7 (by simp) .i64 (by simp) b h1 h2))), rfl⟩

set_option maxRecDepth 100000 in
set_option maxHeartbeats 8000000 in
theorem dbegin_any (K : DFr) (q : Nat) (d : DecC) (b : Int) (w : World) (h : DecAt K w q d) (h1 : 0 ≤ b) (h2 : b ≤ 255) :
    Calls Tryz.prog 121 #[.pointer (some ⟨q, 1, none⟩), .int .u8 b] w (DecRes K w q (beginD d b).2 (beginD d b).1) := by
  have HL := Lib.hid (lead_any b w h1 h2)
  have HBD := Lib.hid (show beginD d b = if leadN b = 0 then (d, [65533]) else if leadN b = 1 then (d, [b]) else (⟨1, leadN b - 1, (secondN b).1, (secondN b).2, bitsN b⟩, []) from rfl)
  have hr := lead_rng b
  obtain ⟨bd1, hb1⟩ : ∃ z, z = (beginD d b).1 := ⟨_, rfl⟩
  obtain ⟨bd2, hb2⟩ : ∃ z, z = (beginD d b).2 := ⟨_, rfl⟩
  rw [← hb1, ← hb2]
  by_cases e0 : leadN b = 0
  · have HF : Hid (OwnTxt w (w.alloc (.cells #[.int .i32 65533] 21)) (.slice (some ⟨w.heap.size, 0, none⟩) 1 1) bd2 ∧ DecTo K w q bd1 (w.alloc (.cells #[.int .i32 65533] 21))) := Lib.hid (by
      have T : Turn (fun _ => False) w (w.alloc (.cells #[.int .i32 65533] 21)) := Turn.alloc _ _ _
      rw [hb1, hb2, HBD.out, if_pos e0]
      exact ⟨OwnTxt.lit w w 65533 (Nat.le_refl _), h.turn T id, T.mono (fun _ _ h => h.elim)⟩)
    rw [e0] at HL
    clear h hr e0 hb1 hb2
    go_enter Tryz.func121, Tryz.ntmps121
    go_wp2_with fail
    refine HL.out.mono ?_
    rintro e wx ⟨rfl, rfl⟩
    go_wp2_with fail
    go_ret
    exact ⟨_, rfl, HF.out⟩
  · by_cases e1 : leadN b = 1
    · have hw : IntKind.i32.wrap b = b := by rw [IntKind.wrap_i32]; omega
      have HF : Hid (OwnTxt w (w.alloc (.cells #[.int .i32 b] 21)) (.slice (some ⟨w.heap.size, 0, none⟩) 1 1) bd2 ∧ DecTo K w q bd1 (w.alloc (.cells #[.int .i32 b] 21))) := Lib.hid (by
        have T : Turn (fun _ => False) w (w.alloc (.cells #[.int .i32 b] 21)) := Turn.alloc _ _ _
        rw [hb1, hb2, HBD.out, if_neg e0, if_pos e1]
        exact ⟨OwnTxt.lit w w b (Nat.le_refl _), h.turn T id, T.mono (fun _ _ h => h.elim)⟩)
      rw [e1] at HL
      clear h hr e0 e1 hb1 hb2
      go_enter Tryz.func121, Tryz.ntmps121
      go_wp2_with fail
      refine HL.out.mono ?_
      rintro e wx ⟨rfl, rfl⟩
      go_wp2_with fail
      go_ret
      exact ⟨_, rfl, HF.out⟩
    · have z0 : (leadN b == 0) = false := by simpa using e0
      have z1 : (leadN b == 1) = false := by simpa using e1
      have HBI := Lib.hid (bits_any b w h1 h2)
      have HSE : Hid (∀ w, Calls Tryz.prog 183 #[.int .u8 b] w fun e w' => e = .returned (.tuple #[.int .u8 (secondN b).1, .int .u8 (secondN b).2]) ∧ w = w') := Lib.hid fun w => second_any b w h1 h2
      have HF : Hid (OwnTxt w (((((w.setCell ⟨q, 1, none⟩ (.int .i64 1)).setCell ⟨q, 2, none⟩ (.int .i64 (leadN b - 1))).setCell ⟨q, 5, none⟩ (.int .i64 (bitsN b))).setCell ⟨q, 3, none⟩ (.int .u8 (secondN b).1)).setCell ⟨q, 4, none⟩ (.int .u8 (secondN b).2)) (.slice none 0 0) bd2 ∧ DecTo K w q bd1 (((((w.setCell ⟨q, 1, none⟩ (.int .i64 1)).setCell ⟨q, 2, none⟩ (.int .i64 (leadN b - 1))).setCell ⟨q, 5, none⟩ (.int .i64 (bitsN b))).setCell ⟨q, 3, none⟩ (.int .u8 (secondN b).1)).setCell ⟨q, 4, none⟩ (.int .u8 (secondN b).2))) := Lib.hid (by
        rw [hb1, hb2, HBD.out, if_neg e0, if_neg e1]
        exact ⟨OwnTxt.nil _ _, ((((h.setHeld 1).setNeeds _).setBits _).setLo _).setHi _, ((((turn_set5 _ _ _ _).trans (turn_set5 _ _ _ _)).trans (turn_set5 _ _ _ _)).trans (turn_set5 _ _ _ _)).trans (turn_set5 _ _ _ _)⟩)
      obtain ⟨c1, c2, c3, c4, c5, f⟩ := h.cells
      have f1 := f 1
      have f2 := f 2
      have f3 := f 3
      have f4 := f 4
      have f5 := f 5
      generalize leadN b = n at *
      generalize bitsN b = bt at *
      generalize secondN b = se at *
      obtain ⟨s1, s2⟩ := se
      have n1 : 2 ≤ n := by omega
      have n2 : n ≤ 4 := by omega
      have HFR : Hid (∀ i v j, (w.setCell ⟨q, i, none⟩ v).frozen? ⟨q, j, none⟩ = false) := Lib.hid fun i v j => by
        have := heap_set1 (cs := decL K d) h i v
        simp [World.frozen?, this]
      clear h f hr e0 e1 hb1 hb2 HBD
      go_enter Tryz.func121, Tryz.ntmps121
      go_wp2_with fail
      refine HL.out.mono ?_
      rintro e wx ⟨rfl, rfl⟩
      go_wp2_with fail
      refine HBI.out.mono ?_
      rintro e wx ⟨rfl, rfl⟩
      go_wp2_with fail
      refine (HSE.out _).mono ?_
      rintro e wx ⟨rfl, rfl⟩
      go_wp2_with fail
      go_ret
      exact ⟨_, rfl, HF.out⟩
end Go.Proofs.YtjicdcmdgbcdcaaGreatDoor.Scr
end

/-
  widen: Begin.
  utfdec within a feeder: Step.
-/
import Derived.Test.YtjicdcmdgbcdcaaGreatDoorSd25
import Derived.Test.YtjicdcmdgbcdcaaGreatDoorSd31
import Derived.Laws.BitsLemmas
section
namespace Go.Proofs.YtjicdcmdgbcdcaaGreatDoor.Scr
set_option linter.unusedSimpArgs false
set_option linter.unusedVariables false
open Go Go.RowKit Mem Turn Ring
open Seg (P4 St)

def cluL (c : CluC) : List Value := [Value.int .i64 c.at_.row, .int .i64 c.at_.col, .bool c.at_.pend, .int .i64 c.wide] ++ (Clu.cv c.text ++ [Value.bool c.ga.some, .bool c.ga.pict, .bool c.ga.wide])
theorem CluIs.cell {w : World} {q : Nat} {c : CluC} (h : CluIs w q c) {i : Nat} {v : Value} (hv : (cluL c)[i]? = some v) : w.cell? ⟨q, i, none⟩ = some v := by
  have h2 := h.2
  unfold cluL at hv
  simp only [World.cell?, h2]
  simpa using hv
theorem CluIs.cells {w : World} {q : Nat} {c : CluC} (h : CluIs w q c) : w.cell? ⟨q, 0, none⟩ = some (.int .i64 c.at_.row) ∧ w.cell? ⟨q, 1, none⟩ = some (.int .i64 c.at_.col) ∧ w.cell? ⟨q, 2, none⟩ = some (.bool c.at_.pend) ∧ w.cell? ⟨q, 3, none⟩ = some (.int .i64 c.wide) ∧ ∀ j, w.frozen? ⟨q, j, none⟩ = false :=
  ⟨h.cell rfl, h.cell rfl, h.cell rfl, h.cell rfl, fun j => by have := h.2; simp [World.frozen?, this]⟩
theorem CluIs.setWide {w : World} {q : Nat} {c : CluC} (h : CluIs w q c) (x : Int) : CluIs (w.setCell ⟨q, 3, none⟩ (.int .i64 x)) q { c with wide := x } := by
  refine ⟨h.1, ?_⟩
  have := heap_set1 (cs := cluL c) h.2 3 (.int .i64 x)
  rw [this]
  rfl
/-- where it stands, stored -/
def atW (w : World) (q : Nat) (r c : Int) (b : Bool) : World := ((w.setCell ⟨q, 0, none⟩ (.int .i64 r)).setCell ⟨q, 1, none⟩ (.int .i64 c)).setCell ⟨q, 2, none⟩ (.bool b)
theorem CluIs.setAt {w : World} {q : Nat} {c : CluC} (h : CluIs w q c) (x : Cur) : CluIs (atW w q x.row x.col x.pend) q { c with at_ := x } := by
  refine ⟨h.1, ?_⟩
  have h1 := heap_set1 (cs := cluL c) h.2 0 (.int .i64 x.row)
  have h2 := heap_set1 h1 1 (.int .i64 x.col)
  have h3 := heap_set1 h2 2 (.bool x.pend)
  unfold atW
  rw [h3]
  rfl
theorem atW_turn (w : World) (q : Nat) (r c : Int) (b : Bool) : Turn (fun j => j = q) w (atW w q r c b) :=
  ((Turn.setCell (T := fun j => j = q) (p := ⟨q, 0, none⟩) w _ rfl).trans (Turn.setCell (T := fun j => j = q) (p := ⟨q, 1, none⟩) _ _ rfl)).trans (Turn.setCell (T := fun j => j = q) (p := ⟨q, 2, none⟩) _ _ rfl)
theorem CluIs.free {w : World} {q : Nat} {c : CluC} (h : CluIs w q c) {t : TypeId} (ht : 247 ≠ t) : Free (fun b => b = q) w t := fun b e _ => by
  subst e
  exact h.typ.not ht
/-- its numbers told -/
theorem CluIs.tell {w : World} {q : Nat} {c : CluC} (h : CluIs w q c) :
    Calls Tryz.prog 178 #[.pointer (some ⟨q, 4, none⟩)] w fun e w' => ∃ v, e = .returned v ∧ TxtAt w' v c.text ∧ Below w.heap.size w w' := by
  refine (CluO.text_any (kClu c) q c.text w h.clu).mono ?_
  rintro e w' ⟨v, h1, h2, h3⟩
  exact ⟨v, h1, TxtAt.own h2 (by have := h.1; omega), h3⟩
/-- a begun cluster put: what the pen's call leaves -/
theorem clu_put {w : World} {X : Nat → Prop} {π q W : Nat} {p : PenC} {c : CluC} (hc : CluIs w q c) (hp : PenAt w X π p W) (hX : ∀ b, X b → PenTyp w b) (hok : PenOK p W) (hv : VarsX w X) (hw : c.wide = 1 ∨ c.wide = 2) (hne : c.text ≠ []) (W' : World) (v : Value) (hb : Below w.heap.size w W') (ht : TxtAt W' v c.text) :
    Calls Tryz.prog 113 #[ptr π, .int .i64 c.wide, v] W' fun e w' => e = .returned (curV (putA p c.wide W)) ∧ CluIs w' q c ∧ PenTo w X π (putP p c.wide c.text W) W w' := by
  refine (put_pen X π W c.wide p v c.text W' (hp.below hb) hok hw ht hne (hv.below hb)).mono ?_
  rintro e w' ⟨h1, h2⟩
  have hq : ¬ X q := fun e => (hX q e).not (by decide) hc.typ
  obtain ⟨X', k1, k2, k3⟩ := h2
  have T : Turn (fun _ => False) w W' := Turn.of_new hb
  refine ⟨h1, (hc.turn T id).turn k3 hq, X', k1, fun b hb' => (k2 b hb').imp id (fun e => Nat.le_trans hb.size e), (T.mono (fun _ _ h => h.elim)).trans k3⟩
theorem PenTo.cluAt {w w' : World} {X : Nat → Prop} {π q W : Nat} {p : PenC} {c : CluC} (h : PenTo w X π p W w') (hc : CluIs w' q c) (r cc : Int) (b : Bool) (hq : w.heap.size ≤ q ∨ X q ∨ True) : ∃ X', PenAt (atW w' q r cc b) X' π p W ∧ (∀ b, X' b → X b ∨ w.heap.size ≤ b) ∧ Turn (fun j => X j ∨ j = q) w (atW w' q r cc b) := by
  obtain ⟨X1, h1, h2, h3⟩ := h
  obtain ⟨X2, h4, h5, h6⟩ := h1.exact
  exact ⟨X2, h4.turn (atW_turn _ _ _ _ _) (hc.free (by decide)) (fun b hb e => by subst e; exact (h6 _ hb).not (by decide) hc.typ), fun b hb => h2 b (h5 b hb), (h3.mono (fun b _ e => .inl e)).trans ((atW_turn _ _ _ _ _).mono (fun b _ e => .inr e))⟩

set_option maxRecDepth 100000 in
set_option maxHeartbeats 16000000 in
theorem begin_exact (X : Nat → Prop) (π W : Nat) (p : PenC) (r : Int) (x : P4) (w : World) (h : PenAt w X π p W) (hX : ∀ b, X b → PenTyp w b) (hok : PenOK p W) (hv : VarsX w X) :
    Calls Tryz.prog 180 #[ptr π, .int .i32 r, prV x] w fun e w' => ∃ q, e = .returned (ptr q) ∧ w.heap.size ≤ q ∧ CluIs w' q (beginC p r x W).2 ∧ PenTo w X π (beginC p r x W).1 W w' := by
  have hmx : Tryz.prog.follows .mixedOrders = true := by kernel_rfl
  have HBC := Lib.hid (show beginC p r x W = (putP p (Cw.wid (gaN Cw.zero r x).wide) [fixR r] W, ⟨putA p (Cw.wid (gaN Cw.zero r x).wide) W, Cw.wid (gaN Cw.zero r x).wide, [fixR r], gaN Cw.zero r x⟩) from rfl)
  have HW2 := Lib.hid (wid_two (gaN Cw.zero r x).wide)
  have e1 := heap_alloc_new w (.cells (prA x) 224)
  have T1 : Turn (fun _ => False) w (w.alloc (.cells (prA x) 224)) := Turn.alloc _ _ _
  have hb1 : Below w.heap.size w (w.alloc (.cells (prA x) 224)) := (Below.refl _ _).alloc (Nat.le_refl _) _
  have hs1 : (w.alloc (.cells (prA x) 224)).heap.size = w.heap.size + 1 := by simp
  have HP := Lib.hid h
  have HX := Lib.hid hX
  have HOK := Lib.hid hok
  have HV := Lib.hid hv
  have HE1 := Lib.hid e1
  have HB1 := Lib.hid hb1
  have HS1 := Lib.hid hs1
  obtain ⟨γ, hc0⟩ : ∃ γ, (w.alloc (.cells (prA x) 224)).cell? ⟨π, 0, none⟩ = some (ptr γ) := by
    obtain ⟨γ, β, Q, hp⟩ := h
    exact ⟨γ, T1.cell hp.cells.1 id⟩
  have hπ := h.typ.lt
  clear h hX hok hv e1 T1 hb1 hs1
  go_enter Tryz.func180, Tryz.ntmps180
  go_upto_region 1 with fail
  generalize (w.alloc (.cells #[.int .i64 x.br, .bool x.pi, .int .i64 x.co, .int .i64 x.ea] 224)) = w1 at *
  go_upto_region 4 with fail
  have hc2 : CluIs (w1.alloc (.cells #[.int .i64 0, .int .i64 0, .bool false, .int .i64 0, .int .i32 0, .int .i32 0, .int .i32 0, .int .i32 0, .int .i32 0, .int .i32 0, .int .i32 0, .int .i32 0, .int .i32 0, .int .i32 0, .int .i32 0, .int .i32 0, .int .i32 0, .int .i32 0, .int .i32 0, .int .i32 0, .int .i64 0, .bool false, .bool false, .bool false] 247)) w1.heap.size ⟨⟨0, 0, false⟩, 0, [], Cw.zero⟩ := ⟨by simp, heap_alloc_new w1 _⟩
  have hb2 : Below w.heap.size w (w1.alloc (.cells #[.int .i64 0, .int .i64 0, .bool false, .int .i64 0, .int .i32 0, .int .i32 0, .int .i32 0, .int .i32 0, .int .i32 0, .int .i32 0, .int .i32 0, .int .i32 0, .int .i32 0, .int .i32 0, .int .i32 0, .int .i32 0, .int .i32 0, .int .i32 0, .int .i32 0, .int .i32 0, .int .i64 0, .bool false, .bool false, .bool false] 247)) := HB1.out.alloc HB1.out.size _
  have T2 : Turn (fun _ => False) w1 (w1.alloc (.cells #[.int .i64 0, .int .i64 0, .bool false, .int .i64 0, .int .i32 0, .int .i32 0, .int .i32 0, .int .i32 0, .int .i32 0, .int .i32 0, .int .i32 0, .int .i32 0, .int .i32 0, .int .i32 0, .int .i32 0, .int .i32 0, .int .i32 0, .int .i32 0, .int .i32 0, .int .i32 0, .int .i64 0, .bool false, .bool false, .bool false] 247)) := Turn.alloc _ _ _
  have hE2 := T2.heap HE1.out id
  have HQ : Hid (w.heap.size < w1.heap.size) := Lib.hid (by rw [HS1.out]; omega)
  generalize (w1.alloc (.cells #[.int .i64 0, .int .i64 0, .bool false, .int .i64 0, .int .i32 0, .int .i32 0, .int .i32 0, .int .i32 0, .int .i32 0, .int .i32 0, .int .i32 0, .int .i32 0, .int .i32 0, .int .i32 0, .int .i32 0, .int .i32 0, .int .i32 0, .int .i32 0, .int .i32 0, .int .i32 0, .int .i64 0, .bool false, .bool false, .bool false] 247)) = w2 at *
  generalize w1.heap.size = q at *
  have HAD := Lib.hid (wadd_any q _ r x w2 hc2)
  have HB2 := Lib.hid hb2
  have HE2 := Lib.hid hE2
  have HQ2 : Hid (q < w2.heap.size ∧ w.heap.size < w2.heap.size) := Lib.hid ⟨hc2.typ.lt, by have := hc2.typ.lt; have := HQ.out; omega⟩
  clear hc2 hb2 T2 hE2 HE1 HB1 HS1
  go_wp2_with (first
    | (refine wpList_load_row rfl 224 _ rfl w.heap.size rfl _ (prA x) (0, 0) _ HE2.out Tryz.underlying224 rfl (size_prop _ _ _ _) ?_))
  refine HAD.out.mono ?_
  rintro e w3 ⟨rfl, hc3, ht3⟩
  obtain ⟨_, _, _, y3, yf⟩ := hc3.cells
  have y3f := yf 3
  have HC4 : Hid (CluIs (w3.setCell ⟨q, 3, none⟩ (.int .i64 (Cw.wid (gaN Cw.zero r x).wide))) q ⟨⟨0, 0, false⟩, Cw.wid (gaN Cw.zero r x).wide, [fixR r], gaN Cw.zero r x⟩) := Lib.hid (hc3.setWide (Cw.wid (gaN Cw.zero r x).wide))
  have HB4 : Hid (Below w.heap.size w (w3.setCell ⟨q, 3, none⟩ (.int .i64 (Cw.wid (gaN Cw.zero r x).wide)))) := Lib.hid ((HB2.out.trans (ht3.below HB2.out.size (fun j e => by have := HQ.out; omega))).trans ((Turn.setCell (T := fun j => j = q) (p := ⟨q, 3, none⟩) w3 _ rfl).below (by have := ht3.size; have := HB2.out.size; omega) (fun j e => by have := HQ.out; omega)))
  clear hc3 ht3 yf HAD HB2 HE2
  go_upto_region 5 with fail
  clear y3 y3f
  generalize gaN Cw.zero r x = g1 at *
  generalize Cw.wid g1.wide = wd at *
  generalize (w3.setCell ⟨q, 3, none⟩ (.int .i64 wd)) = w4 at *
  have HP4 : Hid (PenAt w4 X π p W ∧ (∀ b, X b → PenTyp w4 b) ∧ VarsX w4 X ∧ ¬ X q) := Lib.hid (by
    have T : Turn (fun _ => False) w w4 := Turn.of_new HB4.out
    refine ⟨HP.out.below HB4.out, fun b hb => ?_, HV.out.below HB4.out, fun e => by have := (HX.out q e).lt; have := HQ.out; omega⟩
    rcases HX.out b hb with e | e | e | e | e
    · exact .inl (e.turn T id)
    · exact .inr (.inl (e.turn T id))
    · exact .inr (.inr (.inl (e.turn T id)))
    · exact .inr (.inr (.inr (.inl (e.turn T id))))
    · exact .inr (.inr (.inr (.inr (e.turn T id)))))
  have HTL := Lib.hid (HC4.out.turn (Turn.drew (fun _ => False) w4) id).tell
  have HPU : Hid (∀ W' v, Below w4.heap.size w4 W' → TxtAt W' v [fixR r] → Calls Tryz.prog 113 #[ptr π, .int .i64 wd, v] W' fun e w' => e = .returned (curV (putA p wd W)) ∧ CluIs w' q ⟨⟨0, 0, false⟩, wd, [fixR r], g1⟩ ∧ PenTo w4 X π (putP p wd [fixR r] W) W w') := Lib.hid fun W' v hb ht => clu_put (c := ⟨⟨0, 0, false⟩, wd, [fixR r], g1⟩) HC4.out HP4.out.1 HP4.out.2.1 HOK.out HP4.out.2.2.1 HW2.out (by simp) W' v hb ht
  obtain ⟨_, _, _, x3, _⟩ := HC4.out.cells
  obtain ⟨za, hza⟩ : ∃ z, z = putA p wd W := ⟨_, rfl⟩
  rw [← hza] at HPU HBC
  obtain ⟨zr, zc, zb⟩ := za
  clear hza
  refine region_begin3 (fun w' => w'.cell? ⟨q, 3, none⟩ = some (.int .i64 wd)) (fun j => j == 13) 14 rfl hmx (by intro _ _ d _ _ h; cases d <;> exact h) fun hQP => ?_
  have hS : w4.drew.cell? ⟨q, 3, none⟩ = some (.int .i64 wd) := x3
  have HD : Hid (Below w4.heap.size w4 w4.drew) := Lib.hid (Below.refl _ _).drew
  clear x3
  generalize w4.drew = w5 at *
  refine take_f 0 26 rfl rfl (by kernel_rfl) (by kernel_rfl) (by kernel_rfl) (by kernel_rfl) hQP hS (.inl ⟨by kernel_rfl, fun w' hw' => by go_simp; try with_reducible rfl⟩) ?_
  refine take_f 1 27 rfl rfl (by kernel_rfl) (by kernel_rfl) (by kernel_rfl) (by kernel_rfl) hQP hS (.inl ⟨by kernel_rfl, fun w' hw' => by go_simp; try with_reducible rfl⟩) ?_
  refine take_f 2 28 rfl rfl (by kernel_rfl) (by kernel_rfl) (by kernel_rfl) (by kernel_rfl) hQP hS (.inl ⟨by kernel_rfl, fun w' hw' => by go_simp; try with_reducible rfl⟩) ?_
  refine take_f 3 29 rfl rfl (by kernel_rfl) (by kernel_rfl) (by kernel_rfl) (by kernel_rfl) hQP hS (.inl ⟨by kernel_rfl, fun w' hw' => by go_simp; try with_reducible rfl⟩) ?_
  refine take_f 4 30 rfl rfl (by kernel_rfl) (by kernel_rfl) (by kernel_rfl) (by kernel_rfl) hQP hS (.inl ⟨by kernel_rfl, fun w' hw' => by go_simp; try with_reducible rfl⟩) ?_
  refine take_f 5 31 rfl rfl (by kernel_rfl) (by kernel_rfl) (by kernel_rfl) (by kernel_rfl) hQP hS (.inl ⟨by kernel_rfl, fun w' hw' => by go_simp; try with_reducible rfl⟩) ?_
  refine take_f 6 32 rfl rfl (by kernel_rfl) (by kernel_rfl) (by kernel_rfl) (by kernel_rfl) hQP hS (.inl ⟨by kernel_rfl, fun w' hw' => by go_simp; try with_reducible rfl⟩) ?_
  refine take_f 7 33 rfl rfl (by kernel_rfl) (by kernel_rfl) (by kernel_rfl) (by kernel_rfl) hQP hS (.inl ⟨by kernel_rfl, fun w' hw' => by go_simp; try with_reducible rfl⟩) ?_
  refine take_f 8 34 rfl rfl (by kernel_rfl) (by kernel_rfl) (by kernel_rfl) (by kernel_rfl) hQP hS (.inl ⟨by kernel_rfl, fun w' hw' => by go_simp; try with_reducible rfl⟩) ?_
  try simp only [List.setIfInBounds_toArray, List.set_cons_succ, List.set_cons_zero]
  refine take_g (i := 9) (by kernel_rfl) rfl (by kernel_rfl) fun KQ hK => ?_
  go_wp2_with fail
  refine HTL.out.mono ?_
  rintro e w6 ⟨v, rfl, hv6, hb6⟩
  have T6 : Turn (fun _ => False) w5 w6 := Turn.of_new hb6
  have hS := T6.cell hS id
  have HPU6 := Lib.hid (HPU.out w6 v (HD.out.trans (hb6.mono HD.out.size)) hv6)
  refine hK _ _ (.inr hS) ?_
  clear hK HTL HPU T6 hb6 hv6
  try simp only [List.setIfInBounds_toArray, List.set_cons_succ, List.set_cons_zero]
  refine take_g (i := 10) (by kernel_rfl) rfl (by kernel_rfl) fun KQ hK => ?_
  go_wp2_with fail
  refine HPU6.out.mono ?_
  rintro e w7 ⟨rfl, hc7, hto⟩
  obtain ⟨x0, x1, x2, hS, xf⟩ := hc7.cells
  refine hK _ _ (.inr hS) ?_
  have y0 := xf 0
  have y1 := xf 1
  have y2 := xf 2
  have HF : Hid (CluIs (atW w7 q zr zc zb) q (beginC p r x W).2 ∧ PenTo w X π (beginC p r x W).1 W (atW w7 q zr zc zb)) := Lib.hid (by
    rw [HBC.out]
    refine ⟨hc7.setAt ⟨zr, zc, zb⟩, ?_⟩
    obtain ⟨X', k1, k2, k3⟩ := hto.cluAt hc7 zr zc zb (.inr (.inr trivial))
    refine ⟨X', k1, fun b hb => (k2 b hb).imp id (fun e => Nat.le_trans HB4.out.size e), ?_⟩
    have a : Turn (fun b => X b ∨ w.heap.size ≤ b) w w4 := (Turn.of_new HB4.out : Turn (fun _ => False) w w4).mono (fun _ _ h => h.elim)
    have hq := HQ.out
    exact (a.trans (k3.mono (fun b _ e => e.imp id (fun e => by omega)))).mono (fun b hb e => e.elim id (fun e => by omega)))
  clear hK hc7 hto xf HPU6
  try simp only [List.setIfInBounds_toArray, List.set_cons_succ, List.set_cons_zero]
  refine take_g (i := 11) (by kernel_rfl) rfl (by kernel_rfl) fun KQ hK => ?_
  go_wp2_with fail
  refine hK _ _ (.inr hS) ?_
  clear hK
  refine take_f 12 38 rfl rfl (by kernel_rfl) (by kernel_rfl) (by kernel_rfl) (by kernel_rfl) hQP hS (.inl ⟨by kernel_rfl, fun w' hw' => by go_simp; try with_reducible rfl⟩) ?_
  refine take_g (i := 13) (by kernel_rfl) rfl (by kernel_rfl) fun KQ hK => ?_
  go_wp2_with fail
  refine hK _ _ (.inl rfl) ?_
  clear hK hS x0 x1 x2 y0 y1 y2
  have hw : ((w7.setCell ⟨q, 0, none⟩ (.int .i64 zr)).setCell ⟨q, 1, none⟩ (.int .i64 zc)).setCell ⟨q, 2, none⟩ (.bool zb) = atW w7 q zr zc zb := rfl
  first | rw [hw] | skip
  clear hw
  generalize atW w7 q zr zc zb = w8 at *
  refine take_done (by kernel_rfl) ?_ _
  try simp only [List.setIfInBounds_toArray, List.set_cons_succ, List.set_cons_zero]
  go_wp2_with fail
  go_ret
  exact ⟨q, rfl, Nat.le_of_lt HQ.out, HF.out⟩
theorem begin_any (X : Nat → Prop) (π W : Nat) (p : PenC) (r : Int) (x : P4) (w : World) (h : PenAt w X π p W) (hok : PenOK p W) (hv : VarsX w X) :
    Calls Tryz.prog 180 #[ptr π, .int .i32 r, prV x] w fun e w' => ∃ q, e = .returned (ptr q) ∧ w.heap.size ≤ q ∧ CluIs w' q (beginC p r x W).2 ∧ PenTo w X π (beginC p r x W).1 W w' := by
  obtain ⟨X0, h0, h1, h2⟩ := h.exact
  exact (begin_exact X0 π W p r x w h0 h2 hok (hv.sub h1)).mono fun e w' ⟨q, a, b, c, d⟩ => ⟨q, a, b, c, d.wide h1⟩
end Go.Proofs.YtjicdcmdgbcdcaaGreatDoor.Scr
end
section
namespace Go.Proofs.YtjicdcmdgbcdcaaGreatDoor.Scr
set_option linter.unusedSimpArgs false
set_option linter.unusedVariables false
open Go Go.RowKit Mem Turn Ring

set_option maxRecDepth 100000 in
set_option maxHeartbeats 8000000 in
theorem dstep_any (K : DFr) (q : Nat) (d : DecC) (b : Int) (w : World) (h : DecAt K w q d) (hd : DecOK d) (h1 : 0 ≤ b) (h2 : b ≤ 255) :
    Calls Tryz.prog 67 #[.pointer (some ⟨q, 1, none⟩), .int .u8 b] w (DecRes K w q (stepD d b).2 (stepD d b).1) := by
  obtain ⟨i0, hi, hz0, hz1, hz2⟩ := info_parts info_rune
  have HS := Lib.hid (show stepD d b = if d.held = 0 then beginD d b else if b < d.lo ∨ d.hi < b then ((beginD .zero b).1, 65533 :: (beginD .zero b).2)
    else if 1 < d.needs then (⟨d.held + 1, d.needs - 1, 128, 191, d.bits * 64 + b % 64⟩, []) else (.zero, [d.bits * 64 + b % 64]) from rfl)
  obtain ⟨sd1, hs1⟩ : ∃ z, z = (stepD d b).1 := ⟨_, rfl⟩
  obtain ⟨sd2, hs2⟩ : ∃ z, z = (stepD d b).2 := ⟨_, rfl⟩
  rw [← hs1, ← hs2]
  obtain ⟨c1, c2, c3, c4, c5, f⟩ := h.cells
  by_cases e0 : d.held = 0
  · have HB : Hid (Calls Tryz.prog 121 #[.pointer (some ⟨q, 1, none⟩), .int .u8 b] w (DecRes K w q sd2 sd1)) := Lib.hid (by
      rw [hs1, hs2, HS.out, if_pos e0]
      exact dbegin_any K q d b w h h1 h2)
    rw [e0] at c1
    clear h f c2 c3 c4 c5 e0 hs1 hs2 HS hd
    go_enter Tryz.func67, Tryz.ntmps67
    go_wp2_with fail
    refine HB.out.mono ?_
    rintro e w2 ⟨v, rfl, h⟩
    have HF := Lib.hid h
    clear h
    go_wp2_with fail
    go_ret
    exact ⟨_, rfl, HF.out⟩
  · have z0 : (d.held == 0) = false := by simpa using e0
    by_cases e1 : b < d.lo ∨ d.hi < b
    · have HFL := Lib.hid (dflush_any K q d w h hd)
      have HBE : Hid (∀ W, DecAt K W q .zero → Calls Tryz.prog 121 #[.pointer (some ⟨q, 1, none⟩), .int .u8 b] W (DecRes K W q (beginD .zero b).2 (beginD .zero b).1)) := Lib.hid fun W hW => dbegin_any K q .zero b W hW h1 h2
      have hfd : flushD d = [65533] := by unfold flushD; rw [if_neg e0]
      rw [hfd] at HFL
      have HQ : Hid (sd1 = (beginD .zero b).1 ∧ sd2 = 65533 :: (beginD .zero b).2) := Lib.hid (by rw [hs1, hs2, HS.out, if_neg e0, if_pos e1]; exact ⟨rfl, rfl⟩)
      have hlo : b < d.lo ∨ (¬ b < d.lo ∧ d.hi < b) := by omega
      have HT := Lib.hid h.typ
      have hbl : (beginD .zero b).2.length ≤ 1 := by
        unfold beginD
        split
        · simp
        · split <;> simp
      generalize d.held = hh at *
      generalize d.lo = lo_ at *
      generalize d.hi = hi_ at *
      generalize (beginD .zero b).1 = bd1 at *
      generalize (beginD .zero b).2 = bd2 at *
      clear h f c2 c5 e0 hs1 hs2 HS hd e1 hfd
      rcases hlo with hl | ⟨hl, hl'⟩
      all_goals
        go_enter Tryz.func67, Tryz.ntmps67
        go_wp2_with fail
        refine HFL.out.mono ?_
        rintro e w2 ⟨v1, rfl, ho1, hd1, ht1⟩
        have HBE2 := Lib.hid (HBE.out w2 hd1)
        have HT1 := Lib.hid ht1
        have HT2 := Lib.hid hd1.typ
        have HO1 := Lib.hid ho1
        clear hd1 ht1 ho1 c1 c3 c4 HFL HBE
        go_wp2_with fail
        refine HBE2.out.mono ?_
        rintro e w3 ⟨v2, rfl, ho2, hd2, ht2⟩
        have hnq : ∀ g, v1.ownBlock = some g → ¬ g = q := fun g hg e => (owns_typ HO1.out.1 hg).not (by decide) (e ▸ HT2.out)
        have hown1 := ht2.kept HO1.out.1 hnq
        obtain ⟨a2, c2', hv2⟩ := Turn.own_slice ho2.1
        subst hv2
        have hsrc := src_own ho2.1
        have HD2 := Lib.hid hd2
        have HTT : Hid (Turn (fun b => b = q) w w3) := Lib.hid (HT1.out.trans ht2)
        have HNQ := Lib.hid hnq
        have hsz : w.heap.size ≤ w3.heap.size := HTT.out.size
        generalize hbn : bd2.length = bn at *
        have HBN := Lib.hid hbn
        clear hd2 ht2 hnq hbn ho2
        go_wp2_with (at_builtin; (refine wpList_append_src _ rfl _ _ 55 rfl w.heap.size 21 i0 _ 1 4 Tryz.underlying55 hi hz0 hz1 hz2 rfl (by decide) v1 1 [.int .i32 65533] rfl hown1 a2 bn c2' (bd2.map (Value.int .i32)) rfl hsrc (one_cells _) (by unfold maxLen; omega) (by omega) hsz ?_; intro v' w4 hown' hgrow))
        have HF : Hid (OwnTxt w w4 v' sd2 ∧ DecTo K w q sd1 w4) := Lib.hid (by
          have T4 : Turn (fun j => v1.ownBlock = some j) w3 w4 := Turn.of_grown hgrow (fun g e => e)
          obtain ⟨q1, q2⟩ := HQ.out
          rw [q1, q2]
          refine ⟨⟨by have h9 := HBN.out; simpa [h9, Nat.add_comm] using hown', by have h9 := HBN.out; simp; omega⟩, HD2.out.turn T4 (fun e => HNQ.out _ e rfl), ?_⟩
          exact ((HTT.out.mono (T' := fun b => b = q ∨ w.heap.size ≤ b) (fun b _ e => .inl e)).trans (T4.mono (fun b _ e => .inr (hown1.lt b e).1))).mono (fun b hb e => e.elim id (fun e => by omega)))
        clear hown' hgrow hown1 hsrc
        go_ret
        exact ⟨_, rfl, HF.out⟩
    · rcases hd with rfl | ⟨a1, a2, a3, a4, a5, a6, a7, a8, a9, a10, a11, a12, a13⟩
      · exact absurd rfl e0
      have f1 := f 1
      have f2 := f 2
      have f3 := f 3
      have f4 := f 4
      have f5 := f 5
      have hl1 : ¬ b < d.lo := fun x => e1 (.inl x)
      have hl2 : ¬ d.hi < b := fun x => e1 (.inr x)
      have hbt : d.bits < 32768 := by
        by_cases x : d.needs = 1
        · exact a13 x
        · by_cases y : d.needs = 2
          · have := a12 y; omega
          · have := a11 (by omega); omega
      have HH := Lib.hid h
      have HS2 : Hid ((sd1, sd2) = if 1 < d.needs then (⟨d.held + 1, d.needs - 1, 128, 191, d.bits * 64 + b % 64⟩, []) else (.zero, [d.bits * 64 + b % 64])) := Lib.hid (by rw [hs1, hs2, HS.out, if_neg e0, if_neg e1])
      have HFR : Hid (∀ i v j, (w.setCell ⟨q, i, none⟩ v).frozen? ⟨q, j, none⟩ = false) := Lib.hid fun i v j => by
        have := heap_set1 (cs := decL K d) h i v
        simp [World.frozen?, this]
      generalize d.held = hh at *
      generalize d.needs = nn at *
      generalize d.lo = lo_ at *
      generalize d.hi = hi_ at *
      generalize d.bits = bt at *
      have hor : bits .or .i64 (bt * 64) (b % 64) = bt * 64 + b % 64 := bits_join .i64 40 (by decide) (fun n h1 h2 => by rw [IntKind.wrap_i64]; omega) 6 (bt * 64) (b % 64) (by omega) (by omega) (by omega) (by omega) (by omega) (by omega)
      have HD5 : Hid (DecAt K (((((w.setCell ⟨q, 5, none⟩ (.int .i64 (bt * 64 + b % 64))).setCell ⟨q, 3, none⟩ (.int .u8 128)).setCell ⟨q, 4, none⟩ (.int .u8 191)).setCell ⟨q, 1, none⟩ (.int .i64 (hh + 1))).setCell ⟨q, 2, none⟩ (.int .i64 (nn - 1))) q ⟨hh + 1, nn - 1, 128, 191, bt * 64 + b % 64⟩ ∧ Turn (fun b => b = q) w (((((w.setCell ⟨q, 5, none⟩ (.int .i64 (bt * 64 + b % 64))).setCell ⟨q, 3, none⟩ (.int .u8 128)).setCell ⟨q, 4, none⟩ (.int .u8 191)).setCell ⟨q, 1, none⟩ (.int .i64 (hh + 1))).setCell ⟨q, 2, none⟩ (.int .i64 (nn - 1)))) := Lib.hid
        ⟨((((HH.out.setBits _).setLo _).setHi _).setHeld _).setNeeds _, ((((turn_set5 _ _ _ _).trans (turn_set5 _ _ _ _)).trans (turn_set5 _ _ _ _)).trans (turn_set5 _ _ _ _)).trans (turn_set5 _ _ _ _)⟩
      clear h f hs1 hs2 HS e0 e1 a11 a12 a13
      go_enter Tryz.func67, Tryz.ntmps67
      go_upto_region 11 with fail
      generalize (((((w.setCell ⟨q, 5, none⟩ (.int .i64 (bt * 64 + b % 64))).setCell ⟨q, 3, none⟩ (.int .u8 128)).setCell ⟨q, 4, none⟩ (.int .u8 191)).setCell ⟨q, 1, none⟩ (.int .i64 (hh + 1))).setCell ⟨q, 2, none⟩ (.int .i64 (nn - 1))) = w5 at *
      clear hor c1 c2 c3 c4 c5 f1 f2 f3 f4 f5 HFR HH z0
      obtain ⟨c1, c2, c3, c4, c5, f⟩ := HD5.out.1.cells
      have f1 := f 1
      have f2 := f 2
      have f3 := f 3
      have f4 := f 4
      have f5 := f 5
      simp only at c1 c2 c3 c4 c5
      have hbb : 0 ≤ bt * 64 + b % 64 := by omega
      have hbb2 : bt * 64 + b % 64 ≤ 2097151 := by omega
      by_cases hn : 1 < nn
      · have hn1 : 0 < nn - 1 := by omega
        have HF : Hid (OwnTxt w w5 (.slice none 0 0) sd2 ∧ DecTo K w q sd1 w5) := Lib.hid (by
          have := HS2.out
          rw [if_pos hn] at this
          injection this with e1 e2
          rw [e1, e2]
          exact ⟨OwnTxt.nil _ _, HD5.out⟩)
        clear f hn
        go_wp2_with fail
        go_ret
        exact ⟨_, rfl, HF.out⟩
      · have hn1 : ¬ 0 < nn - 1 := by omega
        have hw : IntKind.i32.wrap (bt * 64 + b % 64) = bt * 64 + b % 64 := by rw [IntKind.wrap_i32]; omega
        have HF : Hid (OwnTxt w ((zeroW w5 q).alloc (.cells #[.int .i32 (bt * 64 + b % 64)] 21)) (.slice (some ⟨(zeroW w5 q).heap.size, 0, none⟩) 1 1) sd2 ∧ DecTo K w q sd1 ((zeroW w5 q).alloc (.cells #[.int .i32 (bt * 64 + b % 64)] 21))) := Lib.hid (by
          have := HS2.out
          rw [if_neg hn] at this
          injection this with e1 e2
          rw [e1, e2]
          have T : Turn (fun _ => False) (zeroW w5 q) ((zeroW w5 q).alloc (.cells #[.int .i32 (bt * 64 + b % 64)] 21)) := Turn.alloc _ _ _
          exact ⟨OwnTxt.lit w _ _ (HD5.out.2.trans (zeroW_turn w5 q)).size, HD5.out.1.zeroed.turn T id, (HD5.out.2.trans (zeroW_turn w5 q)).trans (T.mono (fun _ _ h => h.elim))⟩)
        clear f hn
        generalize bt * 64 + b % 64 = rr at *
        go_upto_region 15 with fail
        have hz : ((((w5.setCell ⟨q, 1, none⟩ (.int .i64 0)).setCell ⟨q, 2, none⟩ (.int .i64 0)).setCell ⟨q, 3, none⟩ (.int .u8 0)).setCell ⟨q, 4, none⟩ (.int .u8 0)).setCell ⟨q, 5, none⟩ (.int .i64 0) = zeroW w5 q := rfl
        first | rw [hz] | skip
        clear hz
        generalize zeroW w5 q = w6 at *
        clear c1 c2 c3 c4 c5 f1 f2 f3 f4 f5
        go_wp2_with fail
        go_ret
        exact ⟨_, rfl, HF.out⟩
end Go.Proofs.YtjicdcmdgbcdcaaGreatDoor.Scr
end

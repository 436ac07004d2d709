/-
  The pen in memory; ready.
  place: NewLine.
-/
import Derived.Test.YtjicdcmdgbcdcaaGreatDoorCd16

section
namespace Go.Proofs.YtjicdcmdgbcdcaaGreatDoor.Scr
set_option linter.unusedSimpArgs false
set_option linter.unusedVariables false
open Go Go.RowKit Mem Turn Ring

structure PenC where
  rows : List LineC
  at_ : Cur
  auto : Bool

/-- the pen's block π; all that it may turn lies in X; the rows are W wide -/
structure PenIs (w : World) (X : Nat → Prop) (π γ β : Nat) (Q : List (Nat × Nat)) (p : PenC) (W : Nat) : Prop where
  hdr : w.heap[π]? = some (.cells #[ptr γ, .int .i64 p.at_.row, .int .i64 p.at_.col, .bool p.at_.pend, .bool p.auto] 92 (0, 0))
  grid : GridAt w γ β (Q.map (·.1))
  rows : RowsAt w X Q p.rows W
  xπ : X π
  xγ : X γ
  xβ : X β
  w1 : 1 ≤ W
  w2 : W ≤ 1024
def PenAt (w : World) (X : Nat → Prop) (π : Nat) (p : PenC) (W : Nat) : Prop := ∃ γ β Q, PenIs w X π γ β Q p W
/-- what a call leaves of the pen: it turned X alone, and what it laid may belong to the pen now -/
def PenTo (w : World) (X : Nat → Prop) (π : Nat) (p : PenC) (W : Nat) (w' : World) : Prop := ∃ X', PenAt w' X' π p W ∧ (∀ b, X' b → X b ∨ w.heap.size ≤ b) ∧ Turn X w w'
theorem PenIs.typ {w : World} {X : Nat → Prop} {π γ β : Nat} {Q : List (Nat × Nat)} {p : PenC} {W : Nat} (h : PenIs w X π γ β Q p W) : Typ w 92 π := ⟨_, _, h.hdr⟩
theorem PenIs.below {w w' : World} {X : Nat → Prop} {π γ β : Nat} {Q : List (Nat × Nat)} {p : PenC} {W : Nat} (h : PenIs w X π γ β Q p W) (hb : Below w.heap.size w w') : PenIs w' X π γ β Q p W := by
  have T : Turn (fun _ => False) w w' := Turn.of_new hb
  exact ⟨T.heap h.hdr id, h.grid.turn T id id, h.rows.below hb, h.xπ, h.xγ, h.xβ, h.w1, h.w2⟩
theorem PenTo.then {w w1 w2 : World} {X : Nat → Prop} {π : Nat} {p p' : PenC} {W : Nat} (h : PenTo w X π p W w1) (h2 : ∀ X', PenAt w1 X' π p W → PenTo w1 X' π p' W w2) : PenTo w X π p' W w2 := by
  obtain ⟨X1, h3, h4, h5⟩ := h
  obtain ⟨X2, h6, h7, h8⟩ := h2 X1 h3
  refine ⟨X2, h6, fun b hb => ?_, ?_⟩
  · rcases h7 b hb with h9 | h9
    · exact h4 b h9
    · exact .inr (Nat.le_trans h5.size h9)
  · have a : Turn (fun b => X b ∨ w.heap.size ≤ b) w w1 := h5.mono (fun _ _ e => .inl e)
    have b : Turn (fun b => X b ∨ w.heap.size ≤ b) w1 w2 := h8.mono (fun b _ e => h4 b e)
    exact (a.trans b).mono (fun b hb e => e.elim id (fun e => by omega))
theorem PenIs.cells {w : World} {X : Nat → Prop} {π γ β : Nat} {Q : List (Nat × Nat)} {p : PenC} {W : Nat} (h : PenIs w X π γ β Q p W) :
    w.cell? ⟨π, 0, none⟩ = some (ptr γ) ∧ w.cell? ⟨π, 1, none⟩ = some (.int .i64 p.at_.row) ∧ w.cell? ⟨π, 2, none⟩ = some (.int .i64 p.at_.col) ∧ w.cell? ⟨π, 3, none⟩ = some (.bool p.at_.pend) ∧ w.cell? ⟨π, 4, none⟩ = some (.bool p.auto) ∧ ∀ j, w.frozen? ⟨π, j, none⟩ = false := by
  have := h.hdr
  exact ⟨by simp [World.cell?, this], by simp [World.cell?, this], by simp [World.cell?, this], by simp [World.cell?, this], by simp [World.cell?, this], fun j => by simp [World.frozen?, this]⟩
/-- the cursor stored -/
def curW (w : World) (π : Nat) (r c : Int) (b : Bool) : World := ((w.setCell ⟨π, 1, none⟩ (.int .i64 r)).setCell ⟨π, 2, none⟩ (.int .i64 c)).setCell ⟨π, 3, none⟩ (.bool b)
theorem curW_turn (w : World) (π : Nat) (r c : Int) (b : Bool) : Turn (fun j => j = π) w (curW w π r c b) :=
  ((Turn.setCell (T := fun j => j = π) (p := ⟨π, 1, none⟩) w _ rfl).trans (Turn.setCell (T := fun j => j = π) (p := ⟨π, 2, none⟩) _ _ rfl)).trans (Turn.setCell (T := fun j => j = π) (p := ⟨π, 3, none⟩) _ _ rfl)
theorem PenIs.cur {w : World} {X : Nat → Prop} {π γ β : Nat} {Q : List (Nat × Nat)} {p : PenC} {W : Nat} (h : PenIs w X π γ β Q p W) (r c : Int) (b : Bool) : PenIs (curW w π r c b) X π γ β Q { p with at_ := ⟨r, c, b⟩ } W := by
  have T := curW_turn w π r c b
  refine ⟨?_, h.grid.turn T (h.grid.typ1.ne h.typ (by decide)) (h.grid.typ2.ne h.typ (by decide)), h.rows.turn T (fun x e _ => by subst e; exact h.typ.not (by decide)) (fun q hq => ?_), h.xπ, h.xγ, h.xβ, h.w1, h.w2⟩
  · have h0 := h.hdr
    have h1 := heap_set1 (cs := [ptr γ, .int .i64 p.at_.row, .int .i64 p.at_.col, .bool p.at_.pend, .bool p.auto]) h0 1 (.int .i64 r)
    have h2 := heap_set1 h1 2 (.int .i64 c)
    have h3 := heap_set1 h2 3 (.bool b)
    simpa [curW] using h3
  · obtain ⟨i, hi⟩ := List.getElem?_of_mem hq
    obtain ⟨l, _, g1, _⟩ := h.rows.line hi
    exact ⟨g1.typ.ne h.typ (by decide), g1.cells.typ.ne h.typ (by decide)⟩

set_option maxRecDepth 100000 in
set_option maxHeartbeats 8000000 in
theorem ready_is (X : Nat → Prop) (π γ β W : Nat) (Q : List (Nat × Nat)) (p : PenC) (w : World) (h : PenIs w X π γ β Q p W) :
    Calls Tryz.prog 160 #[ptr π] w fun e w' => e = .returned (.bool true) ∧ PenIs w' X π γ β Q { p with at_ := hold p.at_ W p.rows.length } W ∧ Turn (fun b => b = π) w w' := by
  have hmx : Tryz.prog.follows .mixedOrders = true := by kernel_rfl
  have HP := Lib.hid h
  obtain ⟨c0, c1, c2, c3, _, _⟩ := h.cells
  have hlen : (Q.map (·.1)).length = p.rows.length := by rw [List.length_map, h.rows.len]
  have HWD : Hid (∀ W', Below w.heap.size w W' → Calls Tryz.prog 36 #[ptr γ] W' fun e w' => e = .returned (.int .i64 (W : Int)) ∧ W' = w') := Lib.hid fun W' hb => gwide_any γ β W _ W' (h.below hb).grid (h.below hb).rows.all
  have HHI : Hid (∀ W', Below w.heap.size w W' → Calls Tryz.prog 37 #[ptr γ] W' fun e w' => e = .returned (.int .i64 (p.rows.length : Int)) ∧ W' = w') := Lib.hid fun W' hb => by
    have := high_any γ β _ W' (h.below hb).grid
    rw [hlen] at this
    exact this
  have HHO : Hid (∀ W', Calls Tryz.prog 39 #[.agg #[.int .i64 p.at_.row, .int .i64 p.at_.col, .bool p.at_.pend], .int .i64 (W : Int), .int .i64 (p.rows.length : Int)] W' fun e w' => e = .returned (curV (hold p.at_ W p.rows.length)) ∧ Below W'.heap.size W' w') := Lib.hid fun W' => hold_any _ _ _ _ _ W'
  have HFIN : Hid (∀ W' r c b, Below w.heap.size w W' → hold p.at_ W p.rows.length = ⟨r, c, b⟩ → PenIs (curW W' π r c b) X π γ β Q { p with at_ := hold p.at_ W p.rows.length } W ∧ Turn (fun b => b = π) w (curW W' π r c b)) := Lib.hid fun W' r c b hb e => by
    rw [e]
    exact ⟨(h.below hb).cur r c b, ((Turn.of_new hb : Turn (fun _ => False) w W').mono (fun _ _ h => h.elim)).trans (curW_turn _ _ _ _ _)⟩
  have hπ := h.typ.lt
  have HCL : Hid (∀ W', Below w.heap.size w W' → W'.cell? ⟨π, 0, none⟩ = some (ptr γ) ∧ W'.cell? ⟨π, 1, none⟩ = some (.int .i64 p.at_.row) ∧ W'.cell? ⟨π, 2, none⟩ = some (.int .i64 p.at_.col) ∧ W'.cell? ⟨π, 3, none⟩ = some (.bool p.at_.pend) ∧ ∀ j, W'.frozen? ⟨π, j, none⟩ = false) := Lib.hid fun W' hb => by
    obtain ⟨x0, x1, x2, x3, _, x5⟩ := (h.below hb).cells
    exact ⟨x0, x1, x2, x3, x5⟩
  obtain ⟨hd, hhd⟩ : ∃ hd, hd = hold p.at_ W p.rows.length := ⟨_, rfl⟩
  rw [← hhd] at HHO HFIN ⊢
  obtain ⟨zr, zc, zb⟩ := hd
  generalize p.at_.row = r at *
  generalize p.at_.col = cc at *
  generalize p.at_.pend = pb at *
  generalize p.rows.length = Hn at *
  clear h hlen hhd
  go_enter Tryz.func160, Tryz.ntmps160
  go_upto_region 3 with fail
  refine region_begin3 (fun w' => w'.cell? ⟨π, 0, none⟩ = some (ptr γ) ∧ w'.cell? ⟨π, 1, none⟩ = some (.int .i64 r) ∧ w'.cell? ⟨π, 2, none⟩ = some (.int .i64 cc) ∧ w'.cell? ⟨π, 3, none⟩ = some (.bool pb)) (fun j => j == 18) 19 rfl hmx (by intro _ _ d _ _ h; cases d <;> exact h) fun hQP => ?_
  have hS : w.drew.cell? ⟨π, 0, none⟩ = some (ptr γ) ∧ w.drew.cell? ⟨π, 1, none⟩ = some (.int .i64 r) ∧ w.drew.cell? ⟨π, 2, none⟩ = some (.int .i64 cc) ∧ w.drew.cell? ⟨π, 3, none⟩ = some (.bool pb) := ⟨c0, c1, c2, c3⟩
  have HB2 : Hid (Below w.heap.size w w.drew) := Lib.hid ((Below.refl _ _).drew)
  clear c0 c1 c2 c3
  generalize w.drew = w2 at *
  refine take_f 0 12 rfl rfl (by kernel_rfl) (by kernel_rfl) (by kernel_rfl) (by kernel_rfl) hQP hS (.inl ⟨by kernel_rfl, fun w' hw' => by obtain ⟨e0, e1, e2, e3⟩ := hw'; go_simp; try with_reducible rfl⟩) ?_
  refine take_f 1 13 rfl rfl (by kernel_rfl) (by kernel_rfl) (by kernel_rfl) (by kernel_rfl) hQP hS (.inl ⟨by kernel_rfl, fun w' hw' => by obtain ⟨e0, e1, e2, e3⟩ := hw'; go_simp; try with_reducible rfl⟩) ?_
  refine take_f 2 14 rfl rfl (by kernel_rfl) (by kernel_rfl) (by kernel_rfl) (by kernel_rfl) hQP hS (.inl ⟨by kernel_rfl, fun w' hw' => by obtain ⟨e0, e1, e2, e3⟩ := hw'; go_simp; try with_reducible rfl⟩) ?_
  refine take_f 3 15 rfl rfl (by kernel_rfl) (by kernel_rfl) (by kernel_rfl) (by kernel_rfl) hQP hS (.inl ⟨by kernel_rfl, fun w' hw' => by obtain ⟨e0, e1, e2, e3⟩ := hw'; go_simp; try with_reducible rfl⟩) ?_
  refine take_f 4 16 rfl rfl (by kernel_rfl) (by kernel_rfl) (by kernel_rfl) (by kernel_rfl) hQP hS (.inl ⟨by kernel_rfl, fun w' hw' => by obtain ⟨e0, e1, e2, e3⟩ := hw'; go_simp; try with_reducible rfl⟩) ?_
  refine take_f 5 17 rfl rfl (by kernel_rfl) (by kernel_rfl) (by kernel_rfl) (by kernel_rfl) hQP hS (.inl ⟨by kernel_rfl, fun w' hw' => by obtain ⟨e0, e1, e2, e3⟩ := hw'; go_simp; try with_reducible rfl⟩) ?_
  refine take_f 6 18 rfl rfl (by kernel_rfl) (by kernel_rfl) (by kernel_rfl) (by kernel_rfl) hQP hS (.inl ⟨by kernel_rfl, fun w' hw' => by obtain ⟨e0, e1, e2, e3⟩ := hw'; go_simp; try with_reducible rfl⟩) ?_
  refine take_f 7 19 rfl rfl (by kernel_rfl) (by kernel_rfl) (by kernel_rfl) (by kernel_rfl) hQP hS (.inl ⟨by kernel_rfl, fun w' hw' => by obtain ⟨e0, e1, e2, e3⟩ := hw'; go_simp; try with_reducible rfl⟩) ?_
  refine take_f 8 20 rfl rfl (by kernel_rfl) (by kernel_rfl) (by kernel_rfl) (by kernel_rfl) hQP hS (.inl ⟨by kernel_rfl, fun w' hw' => by obtain ⟨e0, e1, e2, e3⟩ := hw'; go_simp; try with_reducible rfl⟩) ?_
  refine take_f 10 22 rfl rfl (by kernel_rfl) (by kernel_rfl) (by kernel_rfl) (by kernel_rfl) hQP hS (.inl ⟨by kernel_rfl, fun w' hw' => by obtain ⟨e0, e1, e2, e3⟩ := hw'; go_simp; try with_reducible rfl⟩) ?_
  refine take_f 11 23 rfl rfl (by kernel_rfl) (by kernel_rfl) (by kernel_rfl) (by kernel_rfl) hQP hS (.inl ⟨by kernel_rfl, fun w' hw' => by obtain ⟨e0, e1, e2, e3⟩ := hw'; go_simp; try with_reducible rfl⟩) ?_
  refine take_f 12 24 rfl rfl (by kernel_rfl) (by kernel_rfl) (by kernel_rfl) (by kernel_rfl) hQP hS (.inl ⟨by kernel_rfl, fun w' hw' => by obtain ⟨e0, e1, e2, e3⟩ := hw'; go_simp; try with_reducible rfl⟩) ?_
  refine take_f 13 25 rfl rfl (by kernel_rfl) (by kernel_rfl) (by kernel_rfl) (by kernel_rfl) hQP hS (.inl ⟨by kernel_rfl, fun w' hw' => by obtain ⟨e0, e1, e2, e3⟩ := hw'; go_simp; try with_reducible rfl⟩) ?_
  try simp only [List.setIfInBounds_toArray, List.set_cons_succ, List.set_cons_zero]
  refine take_g (i := 9) (by kernel_rfl) rfl (by kernel_rfl) fun KQ hK => ?_
  go_wp2_with fail
  refine (HWD.out _ HB2.out).mono ?_
  rintro e wx ⟨rfl, rfl⟩
  refine hK _ _ (.inr hS) ?_
  clear hK HWD
  refine take_g (i := 14) (by kernel_rfl) rfl (by kernel_rfl) fun KQ hK => ?_
  go_wp2_with fail
  refine (HHI.out _ HB2.out).mono ?_
  rintro e wx ⟨rfl, rfl⟩
  refine hK _ _ (.inr hS) ?_
  clear hK HHI
  refine take_g (i := 15) (by kernel_rfl) rfl (by kernel_rfl) fun KQ hK => ?_
  go_wp2_with fail
  refine (HHO.out _).mono ?_
  rintro e w3 ⟨rfl, hb3⟩
  have HB3 := Lib.hid (HB2.out.trans (hb3.mono HB2.out.size))
  obtain ⟨x0, x1, x2, x3, y⟩ := HCL.out _ HB3.out
  refine hK _ _ (.inr ⟨x0, x1, x2, x3⟩) ?_
  clear hK HHO hS hb3
  have hS : w3.cell? ⟨π, 0, none⟩ = some (ptr γ) ∧ w3.cell? ⟨π, 1, none⟩ = some (.int .i64 r) ∧ w3.cell? ⟨π, 2, none⟩ = some (.int .i64 cc) ∧ w3.cell? ⟨π, 3, none⟩ = some (.bool pb) := ⟨x0, x1, x2, x3⟩
  refine take_g (i := 16) (by kernel_rfl) rfl (by kernel_rfl) fun KQ hK => ?_
  go_wp2_with fail
  refine hK _ _ (.inr hS) ?_
  clear hK
  refine take_f 17 29 rfl rfl (by kernel_rfl) (by kernel_rfl) (by kernel_rfl) (by kernel_rfl) hQP hS (.inl ⟨by kernel_rfl, fun w' hw' => by obtain ⟨e0, e1, e2, e3⟩ := hw'; go_simp; try with_reducible rfl⟩) ?_
  clear hS
  have y1 := y 1
  have y2 := y 2
  have y3 := y 3
  have HF := Lib.hid (HFIN.out w3 zr zc zb HB3.out rfl)
  clear y
  refine take_g (i := 18) (by kernel_rfl) rfl (by kernel_rfl) fun KQ hK => ?_
  go_wp2_with fail
  refine hK _ _ (.inl rfl) ?_
  clear hK x0 x1 x2 x3 y1 y2 y3
  refine take_done (by kernel_rfl) ?_ _
  have hw : ((w3.setCell ⟨π, 1, none⟩ (.int .i64 zr)).setCell ⟨π, 2, none⟩ (.int .i64 zc)).setCell ⟨π, 3, none⟩ (.bool zb) = curW w3 π zr zc zb := rfl
  first | rw [hw] | skip
  generalize curW w3 π zr zc zb = w4 at *
  go_wp2_with fail
  go_ret
  exact ⟨rfl, HF.out⟩
end Go.Proofs.YtjicdcmdgbcdcaaGreatDoor.Scr
end
section
namespace Go.Proofs.YtjicdcmdgbcdcaaGreatDoor.Scr
set_option linter.unusedSimpArgs false
set_option linter.unusedVariables false
open Go Go.RowKit Mem Turn Ring

/-- the next row -/
def newLineP (p : PenC) (W : Nat) : PenC :=
  { p with
    at_ := (downC (hold p.at_ W p.rows.length) p.rows.length).1
    rows := if (downC (hold p.at_ W p.rows.length) p.rows.length).2 then upR p.rows 0 1 W else p.rows }

theorem hold_rng (c : Cur) (W H : Int) : 0 ≤ (hold c W H).row ∧ (hold c W H).row ≤ 1023 ∧ 0 ≤ (hold c W H).col ∧ (hold c W H).col ≤ 1023 := by
  have h1 := side_rng W
  have h2 := side_rng H
  unfold hold heldC
  simp only
  omega

theorem RowsAt.exact {w : World} {X : Nat → Prop} {Q : List (Nat × Nat)} {Ls : List LineC} {W : Nat} (h : RowsAt w X Q Ls W) : RowsAt w (fun b => ∃ q ∈ Q, b = q.1 ∨ b = q.2) Q Ls W :=
  ⟨h.len, fun i p l hp hl => by
    obtain ⟨h1, h2, _, _⟩ := h.row i p l hp hl
    exact ⟨h1, h2, ⟨p, List.mem_of_getElem? hp, .inl rfl⟩, ⟨p, List.mem_of_getElem? hp, .inr rfl⟩⟩, h.dis⟩
/-- what scrolling leaves of the pen -/
theorem PenIs.scrolled {w w' : World} {X : Nat → Prop} {π γ β W : Nat} {Q : List (Nat × Nat)} {p : PenC} {L' : List LineC} (h : PenIs w X π γ β Q p W) (hs : Scrolled w (fun b => ∃ q ∈ Q, b = q.1 ∨ b = q.2) γ β W L' w') : PenTo w X π { p with rows := L' } W w' ∧ w'.cell? ⟨π, 0, none⟩ = some (ptr γ) := by
  obtain ⟨Q', hg, hr, ht⟩ := hs
  have hX : ∀ b, (∃ q ∈ Q, b = q.1 ∨ b = q.2) → X b ∧ b < w.heap.size ∧ (Typ w 198 b ∨ Typ w 80 b) := by
    rintro b ⟨q, hq, e⟩
    obtain ⟨i, hi⟩ := List.getElem?_of_mem hq
    obtain ⟨l, _, g1, _, g3, g4⟩ := h.rows.line hi
    rcases e with rfl | rfl
    · exact ⟨g3, g1.typ.lt, .inl g1.typ⟩
    · exact ⟨g4, g1.cells.typ.lt, .inr g1.cells.typ⟩
  have hπ : ¬ (π = β ∨ ∃ q ∈ Q, π = q.1 ∨ π = q.2) := by
    rintro (e | e)
    · exact h.typ.ne h.grid.typ2 (by decide) e
    · rcases (hX π e).2.2 with e | e
      · exact h.typ.not (by decide) e
      · exact h.typ.not (by decide) e
  refine ⟨⟨fun b => X b ∨ w.heap.size ≤ b, ⟨γ, β, Q', ht.heap h.hdr hπ, hg, hr.mono (fun b hb _ => hb.elim (fun e => .inl (hX b e).1) .inr), .inl h.xπ, .inl h.xγ, .inl h.xβ, h.w1, h.w2⟩, fun b hb => hb, ht.mono (fun b _ e => e.elim (fun e => by rw [e]; exact h.xβ) (fun e => (hX b e).1))⟩, ht.cell h.cells.1 hπ⟩

set_option maxRecDepth 100000 in
set_option maxHeartbeats 8000000 in
theorem newLine_any (X : Nat → Prop) (π W : Nat) (p : PenC) (w : World) (h : PenAt w X π p W) :
    Calls Tryz.prog 165 #[ptr π] w fun e w' => e = .returned (.tuple #[]) ∧ PenTo w X π (newLineP p W) W w' := by
  have hmx : Tryz.prog.follows .mixedOrders = true := by kernel_rfl
  obtain ⟨γ, β, Q, hp⟩ := h
  have HRD := Lib.hid (ready_is X π γ β W Q p w hp)
  have HXπ := Lib.hid hp.xπ
  obtain ⟨q1, hq1⟩ : ∃ q : PenC, q = { p with at_ := hold p.at_ W p.rows.length } := ⟨_, rfl⟩
  have hlen := hp.rows.len
  have hpos := hp.grid.pos
  have hle := hp.grid.le
  rw [List.length_map] at hpos hle
  rw [← hq1] at HRD
  have hrows : q1.rows = p.rows := by rw [hq1]
  have HNL : Hid (newLineP p W = { q1 with at_ := (downC q1.at_ q1.rows.length).1, rows := if (downC q1.at_ q1.rows.length).2 then upR q1.rows 0 1 W else q1.rows }) := Lib.hid (by rw [hq1]; rfl)
  have hrg : 0 ≤ q1.at_.row ∧ q1.at_.row ≤ 1023 := by
    have := hold_rng p.at_ W p.rows.length
    rw [hq1]
    exact ⟨this.1, this.2.1⟩
  have HQL : Hid (Q.length = q1.rows.length) := Lib.hid (by rw [hrows]; exact hlen)
  clear hq1 hrows hp hlen
  go_enter Tryz.func165, Tryz.ntmps165
  go_wp2_with fail
  refine HRD.out.mono ?_
  rintro e w1 ⟨rfl, hp1, ht1⟩
  have HP1 := Lib.hid hp1
  have HT1 := Lib.hid ht1
  obtain ⟨c0, c1, c2, c3, _, _⟩ := hp1.cells
  have HHI : Hid (∀ W', Below w1.heap.size w1 W' → Calls Tryz.prog 37 #[ptr γ] W' fun e w' => e = .returned (.int .i64 (q1.rows.length : Int)) ∧ W' = w') := Lib.hid fun W' hb => by
    have := high_any γ β _ W' (hp1.below hb).grid
    rw [List.length_map, HQL.out] at this
    exact this
  have HDN : Hid (∀ W', Calls Tryz.prog 236 #[.agg #[.int .i64 q1.at_.row, .int .i64 q1.at_.col, .bool q1.at_.pend], .int .i64 (q1.rows.length : Int)] W' fun e w' => e = .returned (.tuple #[curV (downC q1.at_ q1.rows.length).1, .bool (downC q1.at_ q1.rows.length).2]) ∧ Below W'.heap.size W' w') := Lib.hid fun W' => down_any _ _ _ _ W' (by omega) (by omega)
  have HUP : Hid (∀ w', PenIs w' X π γ β Q { q1 with at_ := (downC q1.at_ q1.rows.length).1 } W → Calls Tryz.prog 125 #[ptr γ, .int .i64 0, .int .i64 (q1.rows.length : Int), .int .i64 1] w' fun e w2 => e = .returned (.tuple #[]) ∧ PenTo w' X π { q1 with at_ := (downC q1.at_ q1.rows.length).1, rows := upR q1.rows 0 1 W } W w2 ∧ w2.cell? ⟨π, 0, none⟩ = some (ptr γ)) := Lib.hid fun w' hp => by
    have := up_any γ β W 0 1 _ Q q1.rows w' hp.grid hp.rows.exact (by omega) hp.w1 hp.w2
    rw [HQL.out] at this
    refine this.mono ?_
    rintro e w2 ⟨h1, h2⟩
    exact ⟨h1, hp.scrolled h2⟩
  obtain ⟨dn, hdn⟩ : ∃ dn, dn = downC q1.at_ q1.rows.length := ⟨_, rfl⟩
  rw [← hdn] at HDN HNL HUP
  obtain ⟨⟨zr, zc, zb⟩, end_⟩ := dn
  obtain ⟨Hn, hHn⟩ : ∃ Hn, Hn = q1.rows.length := ⟨_, rfl⟩
  rw [← hHn] at HDN HHI HUP
  have HHN := Lib.hid hHn
  generalize hr : q1.at_.row = r at *
  generalize hc : q1.at_.col = cc at *
  generalize hb : q1.at_.pend = pb at *
  clear hp1 ht1 hdn hHn hr hc hb hpos hle HRD
  go_upto_region 1 with fail
--ORD--
  have HPL : Hid (π < w1.heap.size) := Lib.hid HP1.out.typ.lt
  go_cut [2, 3] (fun s2 s3 wx => ∃ nb : Nat, s2 = ptr nb ∧ s3 = .bool end_ ∧ Hid (wx.heap[nb]? = some (.cells (curA zr zc zb) 36 (0, 0)) ∧ w1.heap.size ≤ nb ∧ Below w1.heap.size w1 wx))
  case first =>
    refine region_begin3 (fun w' => w'.cell? ⟨π, 0, none⟩ = some (ptr γ) ∧ w'.cell? ⟨π, 1, none⟩ = some (.int .i64 r) ∧ w'.cell? ⟨π, 2, none⟩ = some (.int .i64 cc) ∧ w'.cell? ⟨π, 3, none⟩ = some (.bool pb)) (fun _ => false) 16 rfl hmx (by intro _ _ d _ _ h; cases d <;> exact h) fun hQP => ?_
    have hS : w1.drew.cell? ⟨π, 0, none⟩ = some (ptr γ) ∧ w1.drew.cell? ⟨π, 1, none⟩ = some (.int .i64 r) ∧ w1.drew.cell? ⟨π, 2, none⟩ = some (.int .i64 cc) ∧ w1.drew.cell? ⟨π, 3, none⟩ = some (.bool pb) := ⟨c0, c1, c2, c3⟩
    have HB2 : Hid (Below w1.heap.size w1 w1.drew) := Lib.hid ((Below.refl _ _).drew)
    clear c0 c1 c2 c3
    generalize w1.drew = w2 at *
    refine take_f 0 8 rfl rfl (by kernel_rfl) (by kernel_rfl) (by kernel_rfl) (by kernel_rfl) hQP hS (.inl ⟨by kernel_rfl, fun w' hw' => by obtain ⟨e0, e1, e2, e3⟩ := hw'; go_simp; try with_reducible rfl⟩) ?_
    refine take_f 1 9 rfl rfl (by kernel_rfl) (by kernel_rfl) (by kernel_rfl) (by kernel_rfl) hQP hS (.inl ⟨by kernel_rfl, fun w' hw' => by obtain ⟨e0, e1, e2, e3⟩ := hw'; go_simp; try with_reducible rfl⟩) ?_
    refine take_f 2 10 rfl rfl (by kernel_rfl) (by kernel_rfl) (by kernel_rfl) (by kernel_rfl) hQP hS (.inl ⟨by kernel_rfl, fun w' hw' => by obtain ⟨e0, e1, e2, e3⟩ := hw'; go_simp; try with_reducible rfl⟩) ?_
    refine take_f 3 11 rfl rfl (by kernel_rfl) (by kernel_rfl) (by kernel_rfl) (by kernel_rfl) hQP hS (.inl ⟨by kernel_rfl, fun w' hw' => by obtain ⟨e0, e1, e2, e3⟩ := hw'; go_simp; try with_reducible rfl⟩) ?_
    refine take_f 4 12 rfl rfl (by kernel_rfl) (by kernel_rfl) (by kernel_rfl) (by kernel_rfl) hQP hS (.inl ⟨by kernel_rfl, fun w' hw' => by obtain ⟨e0, e1, e2, e3⟩ := hw'; go_simp; try with_reducible rfl⟩) ?_
    refine take_f 5 13 rfl rfl (by kernel_rfl) (by kernel_rfl) (by kernel_rfl) (by kernel_rfl) hQP hS (.inl ⟨by kernel_rfl, fun w' hw' => by obtain ⟨e0, e1, e2, e3⟩ := hw'; go_simp; try with_reducible rfl⟩) ?_
    refine take_f 6 14 rfl rfl (by kernel_rfl) (by kernel_rfl) (by kernel_rfl) (by kernel_rfl) hQP hS (.inl ⟨by kernel_rfl, fun w' hw' => by obtain ⟨e0, e1, e2, e3⟩ := hw'; go_simp; try with_reducible rfl⟩) ?_
    refine take_f 7 15 rfl rfl (by kernel_rfl) (by kernel_rfl) (by kernel_rfl) (by kernel_rfl) hQP hS (.inl ⟨by kernel_rfl, fun w' hw' => by obtain ⟨e0, e1, e2, e3⟩ := hw'; go_simp; try with_reducible rfl⟩) ?_
    try simp only [List.setIfInBounds_toArray, List.set_cons_succ, List.set_cons_zero]
    refine take_2 (i := 8) (j := 13) (by kernel_rfl) rfl rfl (by kernel_rfl) (by kernel_rfl) (fun KQ hK => ?_) (fun KQ hK => ?_)
    · go_wp2_with fail
      refine (HHI.out _ HB2.out).mono ?_
      rintro e wx ⟨rfl, rfl⟩
      refine hK _ _ (.inr hS) ?_
      clear hK
      try simp only [List.setIfInBounds_toArray, List.set_cons_succ, List.set_cons_zero]
      refine take_2 (i := 9) (j := 13) (by kernel_rfl) rfl rfl (by kernel_rfl) (by kernel_rfl) (fun KQ hK => ?_) (fun KQ hK => ?_)
      · go_wp2_with fail
        refine (HDN.out _).mono ?_
        rintro e w3 ⟨rfl, hb⟩
        have HB3 := Lib.hid (HB2.out.trans (hb.mono HB2.out.size))
        have T3 : Turn (fun _ => False) w2 w3 := Turn.of_new hb
        have hS : w3.cell? ⟨π, 0, none⟩ = some (ptr γ) ∧ w3.cell? ⟨π, 1, none⟩ = some (.int .i64 r) ∧ w3.cell? ⟨π, 2, none⟩ = some (.int .i64 cc) ∧ w3.cell? ⟨π, 3, none⟩ = some (.bool pb) := ⟨T3.cell hS.1 id, T3.cell hS.2.1 id, T3.cell hS.2.2.1 id, T3.cell hS.2.2.2 id⟩
        refine hK _ _ (.inr hS) ?_
        clear hK T3 hb
        refine take_f 10 7 rfl rfl (by kernel_rfl) (by kernel_rfl) (by kernel_rfl) (by kernel_rfl) hQP hS (.inl ⟨by kernel_rfl, fun w' hw' => by obtain ⟨e0, e1, e2, e3⟩ := hw'; go_simp; try with_reducible rfl⟩) ?_
        refine take_f 11 18 rfl rfl (by kernel_rfl) (by kernel_rfl) (by kernel_rfl) (by kernel_rfl) hQP hS (.inl ⟨by kernel_rfl, fun w' hw' => by obtain ⟨e0, e1, e2, e3⟩ := hw'; go_simp; try with_reducible rfl⟩) ?_
        refine take_f 12 19 rfl rfl (by kernel_rfl) (by kernel_rfl) (by kernel_rfl) (by kernel_rfl) hQP hS (.inl ⟨by kernel_rfl, fun w' hw' => by obtain ⟨e0, e1, e2, e3⟩ := hw'; go_simp; try with_reducible rfl⟩) ?_
        try simp only [List.setIfInBounds_toArray, List.set_cons_succ, List.set_cons_zero]
        refine take_g (i := 13) (by kernel_rfl) rfl (by kernel_rfl) fun KQ hK => ?_
        go_wp2_with fail
        have TA : Turn (fun _ => False) w3 (w3.alloc (.cells (curA 0 0 false) 36)) := Turn.alloc _ _ _
        have HN4 : Hid ((w3.alloc (.cells (curA 0 0 false) 36)).heap[w3.heap.size]? = some (.cells (curA 0 0 false) 36 (0, 0))) := Lib.hid (heap_alloc_new w3 _)
        have HB4 : Hid (Below w1.heap.size w1 (w3.alloc (.cells (curA 0 0 false) 36))) := Lib.hid (HB3.out.alloc HB3.out.size _)
        have hS : (w3.alloc (.cells (curA 0 0 false) 36)).cell? ⟨π, 0, none⟩ = some (ptr γ) ∧ (w3.alloc (.cells (curA 0 0 false) 36)).cell? ⟨π, 1, none⟩ = some (.int .i64 r) ∧ (w3.alloc (.cells (curA 0 0 false) 36)).cell? ⟨π, 2, none⟩ = some (.int .i64 cc) ∧ (w3.alloc (.cells (curA 0 0 false) 36)).cell? ⟨π, 3, none⟩ = some (.bool pb) := ⟨TA.cell hS.1 id, TA.cell hS.2.1 id, TA.cell hS.2.2.1 id, TA.cell hS.2.2.2 id⟩
        refine hK _ _ (.inr hS) ?_
        clear hK TA
        have HNB : Hid (w1.heap.size ≤ w3.heap.size) := Lib.hid HB3.out.size
        generalize hnb : w3.heap.size = nb at *
        generalize (w3.alloc (.cells (curA 0 0 false) 36)) = w4 at *
        have hπn : ¬ π = nb := by have := HNB.out; have := HPL.out; omega
        try simp only [List.setIfInBounds_toArray, List.set_cons_succ, List.set_cons_zero]
        have TR := turn_setRow w4 nb (curA zr zc zb)
        have hSn : (w4.setRow nb (curA zr zc zb)).cell? ⟨π, 0, none⟩ = some (ptr γ) ∧ (w4.setRow nb (curA zr zc zb)).cell? ⟨π, 1, none⟩ = some (.int .i64 r) ∧ (w4.setRow nb (curA zr zc zb)).cell? ⟨π, 2, none⟩ = some (.int .i64 cc) ∧ (w4.setRow nb (curA zr zc zb)).cell? ⟨π, 3, none⟩ = some (.bool pb) := ⟨TR.cell hS.1 hπn, TR.cell hS.2.1 hπn, TR.cell hS.2.2.1 hπn, TR.cell hS.2.2.2 hπn⟩
        refine take_store_row 14 (by kernel_rfl) rfl rfl rfl 36 (.tmp 2) (.tmp 18) rfl nb (curA zr zc zb) (by rfl) (by rfl) 36 (curA 0 0 false) HN4.out (size_cur _ _ _) rfl (one_cur _ _ _) (.inr hSn) ?_
        have HF := Lib.hid (And.intro (setRow_heap w4 nb _ (curA zr zc zb) 36 (0, 0) HN4.out) (And.intro HNB.out (HB4.out.trans (TR.below HB4.out.size (fun j e => by rw [e]; exact HNB.out)))))
        have hS := hSn
        clear hSn TR
        generalize (w4.setRow nb (curA zr zc zb)) = w9 at *
        refine take_f 15 3 rfl rfl (by kernel_rfl) (by kernel_rfl) (by kernel_rfl) (by kernel_rfl) hQP hS (.inl ⟨by kernel_rfl, fun w' hw' => by obtain ⟨e0, e1, e2, e3⟩ := hw'; go_simp; try with_reducible rfl⟩) ?_
        refine take_done (by kernel_rfl) ?_ _
        try simp only [List.setIfInBounds_toArray, List.set_cons_succ, List.set_cons_zero]
        go_wp2_with fail
        go_meet
        exact ⟨nb, rfl, rfl, HF⟩
      · go_wp2_with fail
        have TA : Turn (fun _ => False) w2 (w2.alloc (.cells (curA 0 0 false) 36)) := Turn.alloc _ _ _
        have HN3 : Hid ((w2.alloc (.cells (curA 0 0 false) 36)).heap[w2.heap.size]? = some (.cells (curA 0 0 false) 36 (0, 0))) := Lib.hid (heap_alloc_new w2 _)
        have HB3 : Hid (Below w1.heap.size w1 (w2.alloc (.cells (curA 0 0 false) 36))) := Lib.hid (HB2.out.alloc HB2.out.size _)
        have hS : (w2.alloc (.cells (curA 0 0 false) 36)).cell? ⟨π, 0, none⟩ = some (ptr γ) ∧ (w2.alloc (.cells (curA 0 0 false) 36)).cell? ⟨π, 1, none⟩ = some (.int .i64 r) ∧ (w2.alloc (.cells (curA 0 0 false) 36)).cell? ⟨π, 2, none⟩ = some (.int .i64 cc) ∧ (w2.alloc (.cells (curA 0 0 false) 36)).cell? ⟨π, 3, none⟩ = some (.bool pb) := ⟨TA.cell hS.1 id, TA.cell hS.2.1 id, TA.cell hS.2.2.1 id, TA.cell hS.2.2.2 id⟩
        refine hK _ _ (.inr hS) ?_
        clear hK TA
        have HNB : Hid (w1.heap.size ≤ w2.heap.size) := Lib.hid HB2.out.size
        generalize hnb : w2.heap.size = nb at *
        generalize (w2.alloc (.cells (curA 0 0 false) 36)) = w3 at *
        try simp only [List.setIfInBounds_toArray, List.set_cons_succ, List.set_cons_zero]
        refine take_g (i := 9) (by kernel_rfl) rfl (by kernel_rfl) fun KQ hK => ?_
        go_wp2_with fail
        refine (HDN.out _).mono ?_
        rintro e w4 ⟨rfl, hb⟩
        have HB4 := Lib.hid (HB3.out.trans (hb.mono HB3.out.size))
        have T3 : Turn (fun _ => False) w3 w4 := Turn.of_new hb
        have HN4 := Lib.hid (T3.heap HN3.out id)
        have hS : w4.cell? ⟨π, 0, none⟩ = some (ptr γ) ∧ w4.cell? ⟨π, 1, none⟩ = some (.int .i64 r) ∧ w4.cell? ⟨π, 2, none⟩ = some (.int .i64 cc) ∧ w4.cell? ⟨π, 3, none⟩ = some (.bool pb) := ⟨T3.cell hS.1 id, T3.cell hS.2.1 id, T3.cell hS.2.2.1 id, T3.cell hS.2.2.2 id⟩
        refine hK _ _ (.inr hS) ?_
        clear hK T3 hb
        refine take_f 10 7 rfl rfl (by kernel_rfl) (by kernel_rfl) (by kernel_rfl) (by kernel_rfl) hQP hS (.inl ⟨by kernel_rfl, fun w' hw' => by obtain ⟨e0, e1, e2, e3⟩ := hw'; go_simp; try with_reducible rfl⟩) ?_
        refine take_f 11 18 rfl rfl (by kernel_rfl) (by kernel_rfl) (by kernel_rfl) (by kernel_rfl) hQP hS (.inl ⟨by kernel_rfl, fun w' hw' => by obtain ⟨e0, e1, e2, e3⟩ := hw'; go_simp; try with_reducible rfl⟩) ?_
        refine take_f 12 19 rfl rfl (by kernel_rfl) (by kernel_rfl) (by kernel_rfl) (by kernel_rfl) hQP hS (.inl ⟨by kernel_rfl, fun w' hw' => by obtain ⟨e0, e1, e2, e3⟩ := hw'; go_simp; try with_reducible rfl⟩) ?_
        have hπn : ¬ π = nb := by have := HNB.out; have := HPL.out; omega
        try simp only [List.setIfInBounds_toArray, List.set_cons_succ, List.set_cons_zero]
        have TR := turn_setRow w4 nb (curA zr zc zb)
        have hSn : (w4.setRow nb (curA zr zc zb)).cell? ⟨π, 0, none⟩ = some (ptr γ) ∧ (w4.setRow nb (curA zr zc zb)).cell? ⟨π, 1, none⟩ = some (.int .i64 r) ∧ (w4.setRow nb (curA zr zc zb)).cell? ⟨π, 2, none⟩ = some (.int .i64 cc) ∧ (w4.setRow nb (curA zr zc zb)).cell? ⟨π, 3, none⟩ = some (.bool pb) := ⟨TR.cell hS.1 hπn, TR.cell hS.2.1 hπn, TR.cell hS.2.2.1 hπn, TR.cell hS.2.2.2 hπn⟩
        refine take_store_row 14 (by kernel_rfl) rfl rfl rfl 36 (.tmp 2) (.tmp 18) rfl nb (curA zr zc zb) (by rfl) (by rfl) 36 (curA 0 0 false) HN4.out (size_cur _ _ _) rfl (one_cur _ _ _) (.inr hSn) ?_
        have HF := Lib.hid (And.intro (setRow_heap w4 nb _ (curA zr zc zb) 36 (0, 0) HN4.out) (And.intro HNB.out (HB4.out.trans (TR.below HB4.out.size (fun j e => by rw [e]; exact HNB.out)))))
        have hS := hSn
        clear hSn TR
        generalize (w4.setRow nb (curA zr zc zb)) = w9 at *
        refine take_f 15 3 rfl rfl (by kernel_rfl) (by kernel_rfl) (by kernel_rfl) (by kernel_rfl) hQP hS (.inl ⟨by kernel_rfl, fun w' hw' => by obtain ⟨e0, e1, e2, e3⟩ := hw'; go_simp; try with_reducible rfl⟩) ?_
        refine take_done (by kernel_rfl) ?_ _
        try simp only [List.setIfInBounds_toArray, List.set_cons_succ, List.set_cons_zero]
        go_wp2_with fail
        go_meet
        exact ⟨nb, rfl, rfl, HF⟩
    · go_wp2_with fail
      have TA : Turn (fun _ => False) w2 (w2.alloc (.cells (curA 0 0 false) 36)) := Turn.alloc _ _ _
      have HN3 : Hid ((w2.alloc (.cells (curA 0 0 false) 36)).heap[w2.heap.size]? = some (.cells (curA 0 0 false) 36 (0, 0))) := Lib.hid (heap_alloc_new w2 _)
      have HB3 : Hid (Below w1.heap.size w1 (w2.alloc (.cells (curA 0 0 false) 36))) := Lib.hid (HB2.out.alloc HB2.out.size _)
      have hS : (w2.alloc (.cells (curA 0 0 false) 36)).cell? ⟨π, 0, none⟩ = some (ptr γ) ∧ (w2.alloc (.cells (curA 0 0 false) 36)).cell? ⟨π, 1, none⟩ = some (.int .i64 r) ∧ (w2.alloc (.cells (curA 0 0 false) 36)).cell? ⟨π, 2, none⟩ = some (.int .i64 cc) ∧ (w2.alloc (.cells (curA 0 0 false) 36)).cell? ⟨π, 3, none⟩ = some (.bool pb) := ⟨TA.cell hS.1 id, TA.cell hS.2.1 id, TA.cell hS.2.2.1 id, TA.cell hS.2.2.2 id⟩
      refine hK _ _ (.inr hS) ?_
      clear hK TA
      have HNB : Hid (w1.heap.size ≤ w2.heap.size) := Lib.hid HB2.out.size
      generalize hnb : w2.heap.size = nb at *
      generalize (w2.alloc (.cells (curA 0 0 false) 36)) = w3 at *
      try simp only [List.setIfInBounds_toArray, List.set_cons_succ, List.set_cons_zero]
      refine take_g (i := 8) (by kernel_rfl) rfl (by kernel_rfl) fun KQ hK => ?_
      go_wp2_with fail
      refine (HHI.out _ HB3.out).mono ?_
      rintro e wx ⟨rfl, rfl⟩
      refine hK _ _ (.inr hS) ?_
      clear hK
      try simp only [List.setIfInBounds_toArray, List.set_cons_succ, List.set_cons_zero]
      refine take_g (i := 9) (by kernel_rfl) rfl (by kernel_rfl) fun KQ hK => ?_
      go_wp2_with fail
      refine (HDN.out _).mono ?_
      rintro e w4 ⟨rfl, hb⟩
      have HB4 := Lib.hid (HB3.out.trans (hb.mono HB3.out.size))
      have T3 : Turn (fun _ => False) w3 w4 := Turn.of_new hb
      have HN4 := Lib.hid (T3.heap HN3.out id)
      have hS : w4.cell? ⟨π, 0, none⟩ = some (ptr γ) ∧ w4.cell? ⟨π, 1, none⟩ = some (.int .i64 r) ∧ w4.cell? ⟨π, 2, none⟩ = some (.int .i64 cc) ∧ w4.cell? ⟨π, 3, none⟩ = some (.bool pb) := ⟨T3.cell hS.1 id, T3.cell hS.2.1 id, T3.cell hS.2.2.1 id, T3.cell hS.2.2.2 id⟩
      refine hK _ _ (.inr hS) ?_
      clear hK T3 hb
      refine take_f 10 7 rfl rfl (by kernel_rfl) (by kernel_rfl) (by kernel_rfl) (by kernel_rfl) hQP hS (.inl ⟨by kernel_rfl, fun w' hw' => by obtain ⟨e0, e1, e2, e3⟩ := hw'; go_simp; try with_reducible rfl⟩) ?_
      refine take_f 11 18 rfl rfl (by kernel_rfl) (by kernel_rfl) (by kernel_rfl) (by kernel_rfl) hQP hS (.inl ⟨by kernel_rfl, fun w' hw' => by obtain ⟨e0, e1, e2, e3⟩ := hw'; go_simp; try with_reducible rfl⟩) ?_
      refine take_f 12 19 rfl rfl (by kernel_rfl) (by kernel_rfl) (by kernel_rfl) (by kernel_rfl) hQP hS (.inl ⟨by kernel_rfl, fun w' hw' => by obtain ⟨e0, e1, e2, e3⟩ := hw'; go_simp; try with_reducible rfl⟩) ?_
      have hπn : ¬ π = nb := by have := HNB.out; have := HPL.out; omega
      try simp only [List.setIfInBounds_toArray, List.set_cons_succ, List.set_cons_zero]
      have TR := turn_setRow w4 nb (curA zr zc zb)
      have hSn : (w4.setRow nb (curA zr zc zb)).cell? ⟨π, 0, none⟩ = some (ptr γ) ∧ (w4.setRow nb (curA zr zc zb)).cell? ⟨π, 1, none⟩ = some (.int .i64 r) ∧ (w4.setRow nb (curA zr zc zb)).cell? ⟨π, 2, none⟩ = some (.int .i64 cc) ∧ (w4.setRow nb (curA zr zc zb)).cell? ⟨π, 3, none⟩ = some (.bool pb) := ⟨TR.cell hS.1 hπn, TR.cell hS.2.1 hπn, TR.cell hS.2.2.1 hπn, TR.cell hS.2.2.2 hπn⟩
      refine take_store_row 14 (by kernel_rfl) rfl rfl rfl 36 (.tmp 2) (.tmp 18) rfl nb (curA zr zc zb) (by rfl) (by rfl) 36 (curA 0 0 false) HN4.out (size_cur _ _ _) rfl (one_cur _ _ _) (.inr hSn) ?_
      have HF := Lib.hid (And.intro (setRow_heap w4 nb _ (curA zr zc zb) 36 (0, 0) HN4.out) (And.intro HNB.out (HB4.out.trans (TR.below HB4.out.size (fun j e => by rw [e]; exact HNB.out)))))
      have hS := hSn
      clear hSn TR
      generalize (w4.setRow nb (curA zr zc zb)) = w9 at *
      refine take_f 15 3 rfl rfl (by kernel_rfl) (by kernel_rfl) (by kernel_rfl) (by kernel_rfl) hQP hS (.inl ⟨by kernel_rfl, fun w' hw' => by obtain ⟨e0, e1, e2, e3⟩ := hw'; go_simp; try with_reducible rfl⟩) ?_
      refine take_done (by kernel_rfl) ?_ _
      try simp only [List.setIfInBounds_toArray, List.set_cons_succ, List.set_cons_zero]
      go_wp2_with fail
      go_meet
      exact ⟨nb, rfl, rfl, HF⟩
  case rest =>
    obtain ⟨nb, rfl, rfl, HC⟩ := hcut
    have hpc := HP1.out.below HC.out.2.2
    obtain ⟨x0, x1, x2, x3, _, y⟩ := hpc.cells
    have y1 := y 1
    have y2 := y 2
    have y3 := y 3
    obtain ⟨n0, n1, n2⟩ := cells3 HC.out.1
    have HF : Hid (PenIs (curW wc π zr zc zb) X π γ β Q { q1 with at_ := ⟨zr, zc, zb⟩ } W ∧ Turn X w (curW wc π zr zc zb)) := Lib.hid ⟨hpc.cur zr zc zb, ((HT1.out.mono (fun b _ e => by rw [e]; exact HXπ.out)).trans ((Turn.of_new HC.out.2.2 : Turn (fun _ => False) w1 wc).mono (fun _ _ h => h.elim))).trans ((curW_turn wc π zr zc zb).mono (fun b _ e => by rw [e]; exact HXπ.out))⟩
    clear y
    go_upto_region 3 with fail
    have hw : ((wc.setCell ⟨π, 1, none⟩ (.int .i64 zr)).setCell ⟨π, 2, none⟩ (.int .i64 zc)).setCell ⟨π, 3, none⟩ (.bool zb) = curW wc π zr zc zb := rfl
    first | rw [hw] | skip
    clear hw x0 x1 x2 x3 y1 y2 y3 n0 n1 n2 hpc
    generalize curW wc π zr zc zb = w5 at *
    cases end_ with
    | false =>
      have HR : Hid (PenTo w X π (newLineP p W) W w5) := Lib.hid ⟨X, ⟨γ, β, Q, by rw [HNL.out]; exact HF.out.1⟩, fun b hb => .inl hb, HF.out.2⟩
      go_wp2_with fail
      go_end0
      exact ⟨rfl, HR.out⟩
    | true =>
      have HUP5 := Lib.hid (HUP.out w5 HF.out.1)
      obtain ⟨c0, _⟩ := HF.out.1.cells
      have HHI5 : Hid (Calls Tryz.prog 37 #[ptr γ] w5.drew fun e w' => e = .returned (.int .i64 (Hn : Int)) ∧ w5.drew = w') := Lib.hid (by
        have := high_any γ β _ w5.drew (HF.out.1.below ((Below.refl _ _).drew)).grid
        rw [List.length_map, HQL.out, ← HHN.out] at this
        exact this)
      have HUP6 := Lib.hid (HUP.out w5.drew (HF.out.1.below ((Below.refl _ _).drew)))
      go_upto_region 4 with fail
      refine region_begin3 (fun w' => w'.cell? ⟨π, 0, none⟩ = some (ptr γ)) (fun _ => false) 10 rfl hmx (by intro _ _ d _ _ h; cases d <;> exact h) fun hQP => ?_
      have hS : w5.drew.cell? ⟨π, 0, none⟩ = some (ptr γ) := c0
      have HF6 : Hid (Turn X w w5.drew) := Lib.hid (HF.out.2.trans (Turn.drew _ _))
      clear c0 HUP5
      generalize w5.drew = w6 at *
      refine take_f 0 25 rfl rfl (by kernel_rfl) (by kernel_rfl) (by kernel_rfl) (by kernel_rfl) hQP hS (.inl ⟨by kernel_rfl, fun w' hw' => by go_simp; try with_reducible rfl⟩) ?_
      refine take_f 1 26 rfl rfl (by kernel_rfl) (by kernel_rfl) (by kernel_rfl) (by kernel_rfl) hQP hS (.inl ⟨by kernel_rfl, fun w' hw' => by go_simp; try with_reducible rfl⟩) ?_
      refine take_f 2 27 rfl rfl (by kernel_rfl) (by kernel_rfl) (by kernel_rfl) (by kernel_rfl) hQP hS (.inl ⟨by kernel_rfl, fun w' hw' => by go_simp; try with_reducible rfl⟩) ?_
      refine take_f 3 28 rfl rfl (by kernel_rfl) (by kernel_rfl) (by kernel_rfl) (by kernel_rfl) hQP hS (.inl ⟨by kernel_rfl, fun w' hw' => by go_simp; try with_reducible rfl⟩) ?_
      refine take_f 4 29 rfl rfl (by kernel_rfl) (by kernel_rfl) (by kernel_rfl) (by kernel_rfl) hQP hS (.inl ⟨by kernel_rfl, fun w' hw' => by go_simp; try with_reducible rfl⟩) ?_
      refine take_f 5 30 rfl rfl (by kernel_rfl) (by kernel_rfl) (by kernel_rfl) (by kernel_rfl) hQP hS (.inl ⟨by kernel_rfl, fun w' hw' => by go_simp; try with_reducible rfl⟩) ?_
      refine take_f 6 31 rfl rfl (by kernel_rfl) (by kernel_rfl) (by kernel_rfl) (by kernel_rfl) hQP hS (.inl ⟨by kernel_rfl, fun w' hw' => by go_simp; try with_reducible rfl⟩) ?_
      refine take_f 7 32 rfl rfl (by kernel_rfl) (by kernel_rfl) (by kernel_rfl) (by kernel_rfl) hQP hS (.inl ⟨by kernel_rfl, fun w' hw' => by go_simp; try with_reducible rfl⟩) ?_
      try simp only [List.setIfInBounds_toArray, List.set_cons_succ, List.set_cons_zero]
      refine take_g (i := 8) (by kernel_rfl) rfl (by kernel_rfl) fun KQ hK => ?_
      go_wp2_with fail
      refine HHI5.out.mono ?_
      rintro e wx ⟨rfl, rfl⟩
      refine hK _ _ (.inr hS) ?_
      clear hK HHI5
      refine take_g (i := 9) (by kernel_rfl) rfl (by kernel_rfl) fun KQ hK => ?_
      go_wp2_with fail
      refine HUP6.out.mono ?_
      rintro e w7 ⟨rfl, hto, hS⟩
      have HR : Hid (PenTo w X π (newLineP p W) W w7) := Lib.hid (by
        obtain ⟨X', h1, h2, h3⟩ := hto
        exact ⟨X', by rw [HNL.out]; exact h1, fun b hb => (h2 b hb).imp id (fun e => Nat.le_trans HF6.out.size e), HF6.out.trans h3⟩)
      refine hK _ _ (.inr hS) ?_
      clear hK hto HUP6
      refine take_done (by kernel_rfl) ?_ _
      go_wp2_with fail
      go_end0
      exact ⟨rfl, HR.out⟩
end Go.Proofs.YtjicdcmdgbcdcaaGreatDoor.Scr
end

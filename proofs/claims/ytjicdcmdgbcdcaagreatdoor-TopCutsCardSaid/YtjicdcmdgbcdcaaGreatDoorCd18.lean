/-
  place: goOn.
  Plain law of the pen: what is kept.
  place: room.
  erase: held, Range.
  erase: Left, Right, All, Cells.
  Plain law of the pen: room.
-/
import Derived.Test.YtjicdcmdgbcdcaaGreatDoorCd17

section
namespace Go.Proofs.YtjicdcmdgbcdcaaGreatDoor.Scr
set_option linter.unusedSimpArgs false
set_option linter.unusedVariables false
open Go Go.RowKit Mem Turn Ring

/-- the row goes on in the next one -/
def goOnP (p : PenC) (W : Nat) : PenC := newLineP { p with rows := p.rows.set p.at_.row.toNat ((p.rows.getD p.at_.row.toNat ([], false)).1, true), at_ := returnC p.at_ } W

/-- one row of the pen's turned by its own call -/
theorem PenIs.row {w w' : World} {X : Nat → Prop} {π γ β W i : Nat} {Q : List (Nat × Nat)} {p : PenC} {q : Nat × Nat} {l' : LineC} (h : PenIs w X π γ β Q p W) (hq : Q[i]? = some q) (hr : RowAt w' q.1 q.2 l') (hl : l'.1.length = W) (ht : Turn (fun b => b = q.1 ∨ b = q.2) w w') : PenIs w' X π γ β Q { p with rows := p.rows.set i l' } W ∧ Turn X w w' := by
  obtain ⟨l, _, g1, _, g3, g4⟩ := h.rows.line hq
  have hn : ∀ b, Typ w 92 b ∨ Typ w 137 b ∨ Typ w 128 b → ¬ (b = q.1 ∨ b = q.2) := by
    rintro b hb (e | e)
    · subst e
      rcases hb with hb | hb | hb
      · exact hb.not (by decide) g1.typ
      · exact hb.not (by decide) g1.typ
      · exact hb.not (by decide) g1.typ
    · subst e
      rcases hb with hb | hb | hb
      · exact hb.not (by decide) g1.cells.typ
      · exact hb.not (by decide) g1.cells.typ
      · exact hb.not (by decide) g1.cells.typ
  exact ⟨⟨ht.heap h.hdr (hn _ (.inl h.typ)), h.grid.turn ht (hn _ (.inr (.inl h.grid.typ1))) (hn _ (.inr (.inr h.grid.typ2))), h.rows.set hq hr hl ht, h.xπ, h.xγ, h.xβ, h.w1, h.w2⟩, ht.mono (fun b _ e => e.elim (fun e => by rw [e]; exact g3) (fun e => by rw [e]; exact g4))⟩

set_option maxRecDepth 100000 in
set_option maxHeartbeats 8000000 in
theorem pgoOn_any (X : Nat → Prop) (π W k : Nat) (p : PenC) (w : World) (h : PenAt w X π p W) (hk : p.at_.row = (k : Int)) (hkl : k < p.rows.length) :
    Calls Tryz.prog 233 #[ptr π] w fun e w' => e = .returned (.tuple #[]) ∧ PenTo w X π (goOnP p W) W w' := by
  have hmx : Tryz.prog.follows .mixedOrders = true := by kernel_rfl
  obtain ⟨γ, β, Q, hp⟩ := h
  obtain ⟨q, hq⟩ : ∃ q, Q[k]? = some q := ⟨_, List.getElem?_eq_getElem (by rw [hp.rows.len]; exact hkl)⟩
  obtain ⟨l, hl, g1, g2, _, _⟩ := hp.rows.line hq
  have hpd := hp.below (Below.refl w.heap.size w).drew
  have HRI := Lib.hid (row_in γ β k q.1 _ w.drew hpd.grid (by rw [List.getElem?_map, hq]; rfl))
  have g1d : RowAt w.drew q.1 q.2 l := g1.turn (Turn.drew (fun _ => False) w) (Free.no _ _) id id
  have HGO := Lib.hid (goOn_any q.1 q.2 l true w.drew g1d)
  have HPO : Hid (∀ w', RowAt w' q.1 q.2 (l.1, true) → Turn (fun j => j = q.1) w.drew w' → PenIs w' X π γ β Q { p with rows := p.rows.set k (l.1, true) } W ∧ Turn X w w') := Lib.hid fun w' hr ht => by
    obtain ⟨a, b⟩ := hpd.row hq hr g2 (ht.mono (fun _ _ e => .inl e))
    exact ⟨a, (Turn.drew X w).trans b⟩
  have HG : Hid (goOnP p W = newLineP { p with rows := p.rows.set k (l.1, true), at_ := returnC p.at_ } W) := Lib.hid (by
    unfold goOnP
    rw [hk, Int.toNat_natCast, List.getD_eq_getElem?_getD, hl]
    rfl)
  have HRT : Hid (∀ W', Calls Tryz.prog 127 #[.agg #[.int .i64 p.at_.row, .int .i64 p.at_.col, .bool p.at_.pend]] W' fun e w' => e = .returned (curV (returnC p.at_)) ∧ Below W'.heap.size W' w') := Lib.hid fun W' => return_any _ _ _ W'
  have HXπ := Lib.hid hp.xπ
  have HNL : Hid (∀ w' p', PenIs w' X π γ β Q p' W → Calls Tryz.prog 165 #[ptr π] w' fun e w2 => e = .returned (.tuple #[]) ∧ PenTo w' X π (newLineP p' W) W w2) := Lib.hid fun w' p' hp' => newLine_any X π W p' w' ⟨γ, β, Q, hp'⟩
  obtain ⟨c0, c1, _, _, _, _⟩ := hp.cells
  obtain ⟨rt, hrt⟩ : ∃ rt, rt = returnC p.at_ := ⟨_, rfl⟩
  rw [← hrt] at HRT HG
  obtain ⟨zr, zc, zb⟩ := rt
  obtain ⟨pl, hpl⟩ : ∃ pl, pl = p.rows.set k (l.1, true) := ⟨_, rfl⟩
  rw [← hpl] at HPO HG
  have HK := Lib.hid hk
  rw [hk] at c1
  have hπq : ¬ π = q.1 := hp.typ.ne g1.typ (by decide)
  have HQN := Lib.hid hπq
  clear hp hq hl g1 g2 hpd g1d hrt hpl hk hπq
  go_enter Tryz.func233, Tryz.ntmps233
  go_upto_region 0 with fail
  refine region_begin3 (fun w' => w'.cell? ⟨π, 0, none⟩ = some (ptr γ) ∧ w'.cell? ⟨π, 1, none⟩ = some (.int .i64 (k : Int))) (fun _ => false) 11 rfl hmx (by intro _ _ d _ _ h; cases d <;> exact h) fun hQP => ?_
  have hS : w.drew.cell? ⟨π, 0, none⟩ = some (ptr γ) ∧ w.drew.cell? ⟨π, 1, none⟩ = some (.int .i64 (k : Int)) := ⟨c0, c1⟩
  clear c0 c1
  generalize w.drew = w1 at *
  refine take_f 0 2 rfl rfl (by kernel_rfl) (by kernel_rfl) (by kernel_rfl) (by kernel_rfl) hQP hS (.inl ⟨by kernel_rfl, fun w' hw' => by obtain ⟨e0, e1⟩ := hw'; go_simp; try with_reducible rfl⟩) ?_
  refine take_f 1 3 rfl rfl (by kernel_rfl) (by kernel_rfl) (by kernel_rfl) (by kernel_rfl) hQP hS (.inl ⟨by kernel_rfl, fun w' hw' => by obtain ⟨e0, e1⟩ := hw'; go_simp; try with_reducible rfl⟩) ?_
  refine take_f 2 4 rfl rfl (by kernel_rfl) (by kernel_rfl) (by kernel_rfl) (by kernel_rfl) hQP hS (.inl ⟨by kernel_rfl, fun w' hw' => by obtain ⟨e0, e1⟩ := hw'; go_simp; try with_reducible rfl⟩) ?_
  refine take_f 3 5 rfl rfl (by kernel_rfl) (by kernel_rfl) (by kernel_rfl) (by kernel_rfl) hQP hS (.inl ⟨by kernel_rfl, fun w' hw' => by obtain ⟨e0, e1⟩ := hw'; go_simp; try with_reducible rfl⟩) ?_
  refine take_f 4 6 rfl rfl (by kernel_rfl) (by kernel_rfl) (by kernel_rfl) (by kernel_rfl) hQP hS (.inl ⟨by kernel_rfl, fun w' hw' => by obtain ⟨e0, e1⟩ := hw'; go_simp; try with_reducible rfl⟩) ?_
  refine take_f 5 7 rfl rfl (by kernel_rfl) (by kernel_rfl) (by kernel_rfl) (by kernel_rfl) hQP hS (.inl ⟨by kernel_rfl, fun w' hw' => by obtain ⟨e0, e1⟩ := hw'; go_simp; try with_reducible rfl⟩) ?_
  refine take_f 6 8 rfl rfl (by kernel_rfl) (by kernel_rfl) (by kernel_rfl) (by kernel_rfl) hQP hS (.inl ⟨by kernel_rfl, fun w' hw' => by obtain ⟨e0, e1⟩ := hw'; go_simp; try with_reducible rfl⟩) ?_
  refine take_f 7 9 rfl rfl (by kernel_rfl) (by kernel_rfl) (by kernel_rfl) (by kernel_rfl) hQP hS (.inl ⟨by kernel_rfl, fun w' hw' => by obtain ⟨e0, e1⟩ := hw'; go_simp; try with_reducible rfl⟩) ?_
  refine take_f 8 10 rfl rfl (by kernel_rfl) (by kernel_rfl) (by kernel_rfl) (by kernel_rfl) hQP hS (.inl ⟨by kernel_rfl, fun w' hw' => by obtain ⟨e0, e1⟩ := hw'; go_simp; try with_reducible rfl⟩) ?_
  try simp only [List.setIfInBounds_toArray, List.set_cons_succ, List.set_cons_zero]
  refine take_g (i := 9) (by kernel_rfl) rfl (by kernel_rfl) fun KQ hK => ?_
  go_wp2_with fail
  refine HRI.out.mono ?_
  rintro e wx ⟨rfl, rfl⟩
  refine hK _ _ (.inr hS) ?_
  clear hK HRI
  refine take_g (i := 10) (by kernel_rfl) rfl (by kernel_rfl) fun KQ hK => ?_
  go_wp2_with fail
  refine HGO.out.mono ?_
  rintro e w2 ⟨rfl, hr2, ht2⟩
  have HP2 := Lib.hid (HPO.out w2 hr2 ht2)
  have hS : w2.cell? ⟨π, 0, none⟩ = some (ptr γ) ∧ w2.cell? ⟨π, 1, none⟩ = some (.int .i64 (k : Int)) := ⟨ht2.cell hS.1 HQN.out, ht2.cell hS.2 HQN.out⟩
  refine hK _ _ (.inr hS) ?_
  clear hK hr2 ht2 HGO HPO hS
  refine take_done (by kernel_rfl) ?_ _
  try simp only [List.setIfInBounds_toArray, List.set_cons_succ, List.set_cons_zero]
  obtain ⟨c0, c1, c2, c3, _, _⟩ := HP2.out.1.cells
  go_wp2_with fail
  refine (HRT.out _).mono ?_
  rintro e w3 ⟨rfl, hb3⟩
  have hp3 := HP2.out.1.below hb3
  obtain ⟨x0, x1, x2, x3, _, y⟩ := hp3.cells
  have y1 := y 1
  have y2 := y 2
  have y3 := y 3
  have HP4 := Lib.hid (hp3.cur zr zc zb)
  have HT4 : Hid (Turn X w (curW w3 π zr zc zb)) := Lib.hid ((HP2.out.2.trans ((Turn.of_new hb3 : Turn (fun _ => False) w2 w3).mono (fun _ _ h => h.elim))).trans ((curW_turn w3 π zr zc zb).mono (fun b _ e => by rw [e]; exact HXπ.out)))
  have HN4 := Lib.hid (HNL.out _ _ (hp3.cur zr zc zb))
  clear hb3 hp3 y c0 c1 c2 c3 HRT HNL
  go_upto_region 2 with fail
  have hw : ((w3.setCell ⟨π, 1, none⟩ (.int .i64 zr)).setCell ⟨π, 2, none⟩ (.int .i64 zc)).setCell ⟨π, 3, none⟩ (.bool zb) = curW w3 π zr zc zb := rfl
  first | rw [hw] | skip
  clear hw x0 x1 x2 x3 y1 y2 y3
  generalize curW w3 π zr zc zb = w4 at *
  go_wp2_with fail
  refine HN4.out.mono ?_
  rintro e w5 ⟨rfl, hto⟩
  have HR : Hid (PenTo w X π (goOnP p W) W w5) := Lib.hid (by
    obtain ⟨X', h1, h2, h3⟩ := hto
    exact ⟨X', by rw [HG.out]; exact h1, fun b hb => (h2 b hb).imp id (fun e => Nat.le_trans HT4.out.size e), HT4.out.trans h3⟩)
  clear hto HN4
  go_wp2_with fail
  go_end0
  exact ⟨rfl, HR.out⟩
end Go.Proofs.YtjicdcmdgbcdcaaGreatDoor.Scr
end
section
namespace Go.Proofs.YtjicdcmdgbcdcaaGreatDoor.Scr
set_option linter.unusedSimpArgs false
set_option linter.unusedVariables false

theorem blanks_sound (n : Nat) : soundB (blanks n) = true := by
  unfold soundB
  induction n with
  | zero => rfl
  | succ n ih =>
    unfold blanks at ih ⊢
    rw [List.replicate_succ, soundGo]
    simp only [blank, rightB] at ih ⊢
    simpa using ih
/-- all rows are W wide and sound -/
def RowsOK (L : List LineC) (W : Nat) : Prop := ∀ l ∈ L, l.1.length = W ∧ soundB l.1 = true
theorem RowsOK.set {L : List LineC} {W i : Nat} {l : LineC} (h : RowsOK L W) (hl : l.1.length = W ∧ soundB l.1 = true) : RowsOK (L.set i l) W := by
  intro x hx
  rcases List.mem_or_eq_of_mem_set hx with h1 | rfl
  · exact h x h1
  · exact hl
theorem RowsOK.cut {L : List LineC} {W : Nat} (h : RowsOK L W) (f : Nat) (hf : f ≤ L.length) : RowsOK (cutAt f L) W := by
  unfold cutAt
  split
  · exact h
  · rename_i h0
    refine h.set ?_
    have hm : L.getD (f - 1) ([], false) ∈ L := by
      rw [List.getD_eq_getElem?_getD, List.getElem?_eq_getElem (by omega)]
      exact List.getElem_mem _
    exact h (L.getD (f - 1) ([], false)) hm
theorem cutAt_len (f : Nat) (L : List LineC) : (cutAt f L).length = L.length := by
  unfold cutAt
  split <;> simp
theorem RowsOK.app {L M : List LineC} {W : Nat} (h : RowsOK L W) (h' : RowsOK M W) : RowsOK (L ++ M) W := fun x hx => (List.mem_append.1 hx).elim (h x) (h' x)
theorem RowsOK.blanks (n W : Nat) : RowsOK (List.replicate n (Scr.blanks W, false)) W := by
  intro x hx
  rw [List.eq_of_mem_replicate hx]
  exact ⟨by simp [Scr.blanks], blanks_sound W⟩
theorem RowsOK.sub {L M : List LineC} {W : Nat} (h : RowsOK L W) (hs : ∀ x ∈ M, x ∈ L) : RowsOK M W := fun x hx => h x (hs x hx)
theorem upR_len (L : List LineC) (f : Nat) (n : Int) (W : Nat) (hf : f < L.length) : (upR L f n W).length = L.length := by
  unfold upR
  split
  · rfl
  · rename_i h
    rw [cutAt_len]
    simp only [List.length_append, List.length_take, List.length_drop, List.length_replicate]
    have : (min n ((L.length : Int) - f)).toNat ≤ L.length - f := by omega
    omega
theorem upR_ok (L : List LineC) (f : Nat) (n : Int) (W : Nat) (hf : f < L.length) (h : RowsOK L W) : RowsOK (upR L f n W) W := by
  unfold upR
  split
  · exact h
  · rename_i h0
    refine RowsOK.cut ((h.sub (fun x hx => List.mem_of_mem_take hx)).app ((h.sub (fun x hx => List.mem_of_mem_drop hx)).app (RowsOK.blanks _ _))) f ?_
    simp only [List.length_append, List.length_take]
    omega
theorem downR_len (L : List LineC) (f : Nat) (n : Int) (W : Nat) (hf : f < L.length) : (downR L f n W).length = L.length := by
  unfold downR
  split
  · rfl
  · rename_i h
    rw [cutAt_len, cutAt_len]
    simp only [List.length_append, List.length_take, List.length_drop, List.length_replicate]
    have : (min n ((L.length : Int) - f)).toNat ≤ L.length - f := by omega
    omega
theorem downR_ok (L : List LineC) (f : Nat) (n : Int) (W : Nat) (hf : f < L.length) (h : RowsOK L W) : RowsOK (downR L f n W) W := by
  unfold downR
  split
  · exact h
  · rename_i h0
    have hm : (min n ((L.length : Int) - f)).toNat ≤ L.length - f := by omega
    have h1 : RowsOK (L.take f ++ (List.replicate (min n ((L.length : Int) - f)).toNat (Scr.blanks W, false) ++ (L.drop f).take (L.length - f - (min n ((L.length : Int) - f)).toNat))) W :=
      (h.sub (fun x hx => List.mem_of_mem_take hx)).app ((RowsOK.blanks _ _).app (h.sub (fun x hx => List.mem_of_mem_drop (List.mem_of_mem_take hx))))
    have h2 : (L.take f ++ (List.replicate (min n ((L.length : Int) - f)).toNat (Scr.blanks W, false) ++ (L.drop f).take (L.length - f - (min n ((L.length : Int) - f)).toNat))).length = L.length := by
      simp only [List.length_append, List.length_take, List.length_drop, List.length_replicate]
      omega
    exact (h1.cut f (by rw [h2]; omega)).cut L.length (by rw [cutAt_len, h2]; exact Nat.le_refl _)

/-- a pen in order -/
structure PenOK (p : PenC) (W : Nat) : Prop where
  w1 : 1 ≤ W
  w2 : W ≤ 1024
  h1 : 1 ≤ p.rows.length
  h2 : p.rows.length ≤ 1024
  rows : RowsOK p.rows W
  held : p.at_ = hold p.at_ W p.rows.length
theorem hold_hold (c : Cur) (W H : Int) (hW : 1 ≤ W) (hW2 : W ≤ 1024) (hH : 1 ≤ H) (hH2 : H ≤ 1024) : hold (hold c W H) W H = hold c W H := by
  have e1 : side W = W := by unfold side; omega
  have e2 : side H = H := by unfold side; omega
  unfold hold heldC
  rw [e1, e2]
  simp only [Cur.mk.injEq]
  refine ⟨by omega, by omega, ?_⟩
  by_cases hc : c.col = W - 1
  · have : max 0 (min c.col (W - 1)) = W - 1 := by omega
    simp [hc, this]
    omega
  · simp [hc]
theorem PenOK.rng {p : PenC} {W : Nat} (h : PenOK p W) : 0 ≤ p.at_.row ∧ p.at_.row < p.rows.length ∧ 0 ≤ p.at_.col ∧ p.at_.col < W ∧ (p.at_.pend = true → p.at_.col = (W : Int) - 1) := by
  have h1 := h.w1; have h2 := h.w2; have h3 := h.h1; have h4 := h.h2
  have e1 : side (W : Int) = W := by unfold side; omega
  have e2 : side (p.rows.length : Int) = p.rows.length := by unfold side; omega
  have e := h.held
  have er := congrArg Cur.row e
  have ec := congrArg Cur.col e
  have ep := congrArg Cur.pend e
  unfold hold heldC at er ec ep
  simp only [e1, e2] at er ec ep
  refine ⟨by omega, by omega, by omega, by omega, fun hp => ?_⟩
  rw [hp] at ep
  simpa using ep.symm
theorem held_of {c : Cur} {W H : Int} (hW : 1 ≤ W) (hW2 : W ≤ 1024) (hH : 1 ≤ H) (hH2 : H ≤ 1024) (r0 : 0 ≤ c.row) (r1 : c.row < H) (c0 : 0 ≤ c.col) (c1 : c.col < W) (hp : c.pend = true → c.col = W - 1) : c = hold c W H := by
  have e1 : side W = W := by unfold side; omega
  have e2 : side H = H := by unfold side; omega
  obtain ⟨r, cc, pb⟩ := c
  simp only at r0 r1 c0 c1 hp
  unfold hold heldC
  simp only [e1, e2, Cur.mk.injEq]
  refine ⟨by omega, by omega, ?_⟩
  cases pb with
  | false => rfl
  | true => simp [hp rfl]
theorem PenOK.newLine {p : PenC} {W : Nat} (h : PenOK p W) : PenOK (newLineP p W) W := by
  have h1 := h.w1; have h2 := h.w2; have h3 := h.h1; have h4 := h.h2
  have e2 : side (p.rows.length : Int) = p.rows.length := by unfold side; omega
  obtain ⟨r0, r1, c0, c1, hp⟩ := h.rng
  have hh := h.held.symm
  have hlen : (newLineP p W).rows.length = p.rows.length := by
    unfold newLineP
    simp only
    split
    · exact upR_len _ _ _ _ (by omega)
    · rfl
  refine ⟨h1, h2, by rw [hlen]; exact h3, by rw [hlen]; exact h4, ?_, ?_⟩
  · unfold newLineP
    simp only
    split
    · exact upR_ok _ _ _ _ (by omega) h.rows
    · exact h.rows
  · rw [hlen]
    have ha : (newLineP p W).at_ = (downC p.at_ p.rows.length).1 := by
      unfold newLineP
      simp only [hh]
    rw [ha]
    unfold downC
    rw [e2]
    split
    · exact held_of (by omega) (by omega) (by omega) (by omega) r0 r1 c0 c1 (fun x => by cases x)
    · exact held_of (by omega) (by omega) (by omega) (by omega) (by simp only; omega) (by simp only; omega) c0 c1 (fun x => by cases x)
theorem PenOK.goOn {p : PenC} {W : Nat} (h : PenOK p W) : PenOK (goOnP p W) W := by
  have h1 := h.w1; have h2 := h.w2; have h3 := h.h1; have h4 := h.h2
  obtain ⟨r0, r1, c0, c1, hp⟩ := h.rng
  refine PenOK.newLine ⟨h1, h2, by simp only [List.length_set]; exact h3, by simp only [List.length_set]; exact h4, ?_, ?_⟩
  · refine h.rows.set ?_
    have hm : p.rows.getD p.at_.row.toNat ([], false) ∈ p.rows := by
      rw [List.getD_eq_getElem?_getD, List.getElem?_eq_getElem (by omega)]
      exact List.getElem_mem _
    exact h.rows (p.rows.getD p.at_.row.toNat ([], false)) hm
  · simp only [List.length_set]
    exact held_of (by omega) (by omega) (by omega) (by omega) r0 r1 (by simp [returnC]) (by simp [returnC]; omega) (fun x => by cases x)
end Go.Proofs.YtjicdcmdgbcdcaaGreatDoor.Scr
end
section
namespace Go.Proofs.YtjicdcmdgbcdcaaGreatDoor.Scr
set_option linter.unusedSimpArgs false
set_option linter.unusedVariables false
open Go Go.RowKit Mem Turn Ring

/-- the place's row painted -/
def paintP (p : PenC) (col : Int) (c : List CellC) : PenC := { p with rows := p.rows.set p.at_.row.toNat (paint (p.rows.getD p.at_.row.toNat ([], false)) col c) }
def roomP0 (p : PenC) (W : Nat) : PenC := if p.at_.pend then goOnP p W else p
/-- to where a cluster so wide has room -/
def roomP (p : PenC) (wide : Int) (W : Nat) : PenC :=
  if wide = 1 ∨ (roomP0 p W).at_.col < (W : Int) - 1 then roomP0 p W
  else if (roomP0 p W).auto then goOnP (paintP (roomP0 p W) ((W : Int) - 1) (blanks 1)) W
  else { roomP0 p W with at_ := { (roomP0 p W).at_ with col := (roomP0 p W).at_.col - 1 } }

theorem PenOK.room0 {p : PenC} {W : Nat} (h : PenOK p W) : PenOK (roomP0 p W) W := by
  unfold roomP0
  split
  · exact h.goOn
  · exact h

set_option maxRecDepth 100000 in
set_option maxHeartbeats 8000000 in
theorem room_any (X : Nat → Prop) (π W : Nat) (wide : Int) (p : PenC) (w : World) (h : PenAt w X π p W) (hok : PenOK p W) (hw : wide = 1 ∨ wide = 2 ∧ 2 ≤ W) (hv : ∀ w', Turn X w w' → Vars w' ∧ 3 < w'.heap.size) :
    Calls Tryz.prog 161 #[ptr π, .int .i64 wide] w fun e w' => e = .returned (.tuple #[]) ∧ PenTo w X π (roomP p wide W) W w' := by
  have hmx : Tryz.prog.follows .mixedOrders = true := by kernel_rfl
  have HOK := Lib.hid hok
  have HAT := Lib.hid h
  have HR0 := Lib.hid (show roomP0 p W = if p.at_.pend then goOnP p W else p from rfl)
  have hgo : Hid (Calls Tryz.prog 233 #[ptr π] w fun e w' => e = .returned (.tuple #[]) ∧ PenTo w X π (goOnP p W) W w') := Lib.hid (by
    obtain ⟨r0, r1, _⟩ := hok.rng
    exact pgoOn_any X π W p.at_.row.toNat p w h (by omega) (by omega))
  obtain ⟨γ, β, Q, hp⟩ := h
  obtain ⟨_, _, _, c3, _, _⟩ := hp.cells
  generalize hpb : p.at_.pend = pb at *
  clear hp hok
  go_enter Tryz.func161, Tryz.ntmps161
  go_upto_if 9 with fail
  go_cut [11] (fun s wx => Hid (PenTo w X π (roomP0 p W) W wx))
  case first =>
    cases pb with
    | true =>
      go_wp2_with fail
      refine hgo.out.mono ?_
      rintro e w1 ⟨rfl, hto⟩
      have HX := Lib.hid hto
      clear hto
      go_wp2_with fail
      go_meet
      exact Lib.hid (by rw [HR0.out]; exact HX.out)
    | false =>
      go_wp2_with fail
      go_meet
      exact Lib.hid (by rw [HR0.out]; exact ⟨X, HAT.out, fun b hb => .inl hb, Turn.refl _ _⟩)
  case rest =>
    clear c3 hgo
    obtain ⟨X1, ⟨γ1, β1, Q1, hp1⟩, hX1, ht1⟩ := hcut.out
    have HP1 := Lib.hid hp1
    have HX1 := Lib.hid hX1
    have HT1 := Lib.hid ht1
    have HOK1 := Lib.hid HOK.out.room0
    have HRM := Lib.hid (show roomP p wide W = if wide = 1 ∨ (roomP0 p W).at_.col < (W : Int) - 1 then roomP0 p W else if (roomP0 p W).auto then goOnP (paintP (roomP0 p W) ((W : Int) - 1) (blanks 1)) W else { roomP0 p W with at_ := { (roomP0 p W).at_ with col := (roomP0 p W).at_.col - 1 } } from rfl)
    have HCUT := hcut
    clear hcut hX1 ht1
    generalize roomP0 p W = p1 at *
    obtain ⟨r0, r1, k0, k1, _⟩ := HOK1.out.rng
    have hw2 := HOK1.out.w2
    have HWD := Lib.hid (gwide_any γ1 β1 W _ wc hp1.grid hp1.rows.all)
    obtain ⟨c0, c1, c2, c3, c4, _⟩ := hp1.cells
    have HC2 := Lib.hid c2
    generalize hcol : p1.at_.col = col at *
    generalize hauto : p1.auto = auto at *
    have HCOL := Lib.hid hcol
    have HAU := Lib.hid hauto
    clear hp1 hcol hauto
    go_wp2_with fail
    refine HWD.out.mono ?_
    rintro e wx ⟨rfl, rfl⟩
    by_cases hfit : wide = 1 ∨ col < (W : Int) - 1
    · have HF : Hid (PenTo w X π (roomP p wide W) W wc) := Lib.hid (by
        rw [HRM.out, if_pos hfit]
        exact HCUT.out)
      by_cases h1 : wide = 1
      · subst h1
        go_wp2_with fail
        refine bodyPost_ret (results_none rfl _ _ _) rfl ?_
        exact ⟨rfl, HF.out⟩
      · have z : (wide == 1) = false := by simpa using h1
        have hlt := hfit.resolve_left h1
        have d1 : decide (col < (W : Int) - 1) = true := decide_eq_true hlt
        clear hfit h1 hw
        go_wp2_with fail
        refine bodyPost_ret (results_none rfl _ _ _) rfl ?_
        exact ⟨rfl, HF.out⟩
    · have h1 : ¬ wide = 1 := fun e => hfit (.inl e)
      have hlt : ¬ col < (W : Int) - 1 := fun e => hfit (.inr e)
      have z : (wide == 1) = false := by simpa using h1
      have d1 : decide (col < (W : Int) - 1) = false := decide_eq_false hlt
      have hW2 : 2 ≤ W := by
        rcases hw with e | e
        · exact absurd e h1
        · exact e.2
      cases auto with
      | false =>
        have hrp : roomP p wide W = { p1 with at_ := { p1.at_ with col := col - 1 } } := by
          rw [HRM.out, if_neg hfit, if_neg (by decide)]
        have HRP := Lib.hid hrp
        have y2 := HP1.out.cells.2.2.2.2.2 2
        have HS : Hid (PenTo w X π (roomP p wide W) W (wc.setCell ⟨π, 2, none⟩ (.int .i64 (col - 1)))) := Lib.hid (by
          have T : Turn (fun j => j = π) wc (wc.setCell ⟨π, 2, none⟩ (.int .i64 (col - 1))) := Turn.setCell _ _ rfl
          have hp := HP1.out
          rw [HRP.out]
          refine ⟨X1, ⟨γ1, β1, Q1, ?_⟩, HX1.out, ?_⟩
          · refine ⟨?_, hp.grid.turn T (hp.grid.typ1.ne hp.typ (by decide)) (hp.grid.typ2.ne hp.typ (by decide)), hp.rows.turn T (fun x e _ => by subst e; exact hp.typ.not (by decide)) (fun q hq => ?_), hp.xπ, hp.xγ, hp.xβ, hp.w1, hp.w2⟩
            · have h3 := heap_set1 (cs := [ptr γ1, .int .i64 p1.at_.row, .int .i64 p1.at_.col, .bool p1.at_.pend, .bool p1.auto]) hp.hdr 2 (.int .i64 (col - 1))
              simpa using h3
            · obtain ⟨i, hi⟩ := List.getElem?_of_mem hq
              obtain ⟨l, _, g1, _⟩ := hp.rows.line hi
              exact ⟨g1.typ.ne hp.typ (by decide), g1.cells.typ.ne hp.typ (by decide)⟩
          · have ha : Turn (fun b => X b ∨ w.heap.size ≤ b) w wc := HT1.out.mono (fun _ _ e => .inl e)
            exact (ha.trans (T.mono (fun b _ e => by rw [e]; exact HX1.out _ hp.xπ))).mono (fun b hb e => e.elim id (fun e => by omega)))
        clear hfit h1 hlt hw hrp
        go_wp2_with fail
        go_end0
        exact ⟨rfl, HS.out⟩
      | true =>
        have hrp : roomP p wide W = goOnP (paintP p1 ((W : Int) - 1) (blanks 1)) W := by
          rw [HRM.out, if_neg hfit, if_pos rfl]
        have HRP := Lib.hid hrp
        obtain ⟨k, hk⟩ : ∃ k : Nat, p1.at_.row = (k : Int) := ⟨p1.at_.row.toNat, by omega⟩
        have hkl : k < p1.rows.length := by omega
        obtain ⟨q, hq⟩ : ∃ q, Q1[k]? = some q := ⟨_, List.getElem?_eq_getElem (by rw [HP1.out.rows.len]; exact hkl)⟩
        obtain ⟨l, hl, g1, g2, _, _⟩ := HP1.out.rows.line hq
        have hsl := (HOK1.out.rows l (List.mem_of_getElem? hl)).2
        have hpd := HP1.out.below (Below.refl wc.heap.size wc).drew
        have HRI := Lib.hid (row_in γ1 β1 k q.1 _ wc.drew hpd.grid (by rw [List.getElem?_map, hq]; rfl))
        have HBL := Lib.hid (blanks_any 1 1 (by omega) wc.drew)
        have hgetD : p1.rows.getD k ([], false) = l := by rw [List.getD_eq_getElem?_getD, hl]; rfl
        have HPA : Hid (∀ w' v, w' = wc.drew.alloc (.cells (flatC (List.replicate 1 (0, .slice none 0 0))).toArray 80) → v = .slice (some ⟨wc.drew.heap.size, 0, none⟩) 1 1 → Calls Tryz.prog 234 #[ptr q.1, .int .i64 ((W : Int) - 1), v] w' fun e w2 => (∃ v, ErrV v ∧ e = .returned v) ∧ RowAt w2 q.1 q.2 (paint l ((W : Int) - 1) (blanks 1)) ∧ Turn (fun b => b = q.1 ∨ b = q.2) w' w2) := Lib.hid fun w' v hw' hv' => by
          subst hw' hv'
          have T : Turn (fun _ => False) wc (wc.drew.alloc (.cells (flatC (List.replicate 1 (0, .slice none 0 0))).toArray 80)) := (Turn.drew _ _).trans (Turn.alloc _ _ _)
          have hTX : Turn X w (wc.drew.alloc (.cells (flatC (List.replicate 1 (0, .slice none 0 0))).toArray 80)) := HT1.out.trans (T.mono (fun _ _ h => h.elim))
          have hl1 := g1.typ.lt
          have hl2 := g1.cells.typ.lt
          exact paint_any q.1 q.2 ((W : Int) - 1) l _ (blanks 1) _ (g1.turn T (Free.no _ _) id id) (sound_first hsl) (hv _ hTX).1 ((blanks_at wc.drew 1 (by omega)).mono (fun b hb _ => by have h9 : wc.drew.heap.size = wc.heap.size := rfl; exact ⟨by omega, by omega⟩)) (hv _ hTX).2 (by omega) (by omega)
        have HFI : Hid (∀ w2, RowAt w2 q.1 q.2 (paint l ((W : Int) - 1) (blanks 1)) → Turn (fun b => b = q.1 ∨ b = q.2) (wc.drew.alloc (.cells (flatC (List.replicate 1 (0, .slice none 0 0))).toArray 80)) w2 → PenIs w2 X1 π γ1 β1 Q1 (paintP p1 ((W : Int) - 1) (blanks 1)) W ∧ Turn X1 wc w2) := Lib.hid fun w2 hr ht => by
          have hb : Below wc.heap.size wc (wc.drew.alloc (.cells (flatC (List.replicate 1 (0, .slice none 0 0))).toArray 80)) := (Below.refl _ _).drew.alloc (Nat.le_refl _) _
          obtain ⟨a, c⟩ := (HP1.out.below hb).row hq hr (by rw [paint_len]; exact g2) ht
          refine ⟨?_, ((Turn.of_new hb : Turn (fun _ => False) wc _).mono (fun _ _ h => h.elim)).trans c⟩
          have : paintP p1 ((W : Int) - 1) (blanks 1) = { p1 with rows := p1.rows.set k (paint l ((W : Int) - 1) (blanks 1)) } := by
            unfold paintP
            rw [hk, Int.toNat_natCast, hgetD]
          rw [this]
          exact a
        have HQN : Hid (¬ (π = q.1 ∨ π = q.2)) := Lib.hid (by
          rintro (e | e)
          · exact HP1.out.typ.ne g1.typ (by decide) e
          · exact HP1.out.typ.ne g1.cells.typ (by decide) e)
        have HGO : Hid (∀ w2, PenIs w2 X1 π γ1 β1 Q1 (paintP p1 ((W : Int) - 1) (blanks 1)) W → Calls Tryz.prog 233 #[ptr π] w2 fun e w' => e = .returned (.tuple #[]) ∧ PenTo w2 X1 π (roomP p wide W) W w') := Lib.hid fun w2 hp2 => by
          rw [HRP.out]
          exact pgoOn_any X1 π W k _ w2 ⟨γ1, β1, Q1, hp2⟩ hk (by unfold paintP; rw [List.length_set]; exact hkl)
        rw [hk] at c1
        clear hfit h1 hlt hw hrp hk hkl hq hl g1 g2 hsl hpd hgetD c3 r0 r1
        go_upto_region 6 with fail
        refine region_begin3 (fun w' => w'.cell? ⟨π, 0, none⟩ = some (ptr γ1) ∧ w'.cell? ⟨π, 1, none⟩ = some (.int .i64 (k : Int))) (fun _ => false) 13 rfl hmx (by intro _ _ d _ _ h; cases d <;> exact h) fun hQP => ?_
        have hS : wc.drew.cell? ⟨π, 0, none⟩ = some (ptr γ1) ∧ wc.drew.cell? ⟨π, 1, none⟩ = some (.int .i64 (k : Int)) := ⟨c0, c1⟩
        clear c0 c1
        have hπl : π < wc.drew.heap.size := HP1.out.typ.lt
        generalize wc.drew = w1 at *
        refine take_f 0 44 rfl rfl (by kernel_rfl) (by kernel_rfl) (by kernel_rfl) (by kernel_rfl) hQP hS (.inl ⟨by kernel_rfl, fun w' hw' => by obtain ⟨e0, e1⟩ := hw'; go_simp; try with_reducible rfl⟩) ?_
        refine take_f 1 45 rfl rfl (by kernel_rfl) (by kernel_rfl) (by kernel_rfl) (by kernel_rfl) hQP hS (.inl ⟨by kernel_rfl, fun w' hw' => by obtain ⟨e0, e1⟩ := hw'; go_simp; try with_reducible rfl⟩) ?_
        refine take_f 2 46 rfl rfl (by kernel_rfl) (by kernel_rfl) (by kernel_rfl) (by kernel_rfl) hQP hS (.inl ⟨by kernel_rfl, fun w' hw' => by obtain ⟨e0, e1⟩ := hw'; go_simp; try with_reducible rfl⟩) ?_
        refine take_f 3 47 rfl rfl (by kernel_rfl) (by kernel_rfl) (by kernel_rfl) (by kernel_rfl) hQP hS (.inl ⟨by kernel_rfl, fun w' hw' => by obtain ⟨e0, e1⟩ := hw'; go_simp; try with_reducible rfl⟩) ?_
        refine take_f 4 48 rfl rfl (by kernel_rfl) (by kernel_rfl) (by kernel_rfl) (by kernel_rfl) hQP hS (.inl ⟨by kernel_rfl, fun w' hw' => by obtain ⟨e0, e1⟩ := hw'; go_simp; try with_reducible rfl⟩) ?_
        refine take_f 5 49 rfl rfl (by kernel_rfl) (by kernel_rfl) (by kernel_rfl) (by kernel_rfl) hQP hS (.inl ⟨by kernel_rfl, fun w' hw' => by obtain ⟨e0, e1⟩ := hw'; go_simp; try with_reducible rfl⟩) ?_
        refine take_f 6 50 rfl rfl (by kernel_rfl) (by kernel_rfl) (by kernel_rfl) (by kernel_rfl) hQP hS (.inl ⟨by kernel_rfl, fun w' hw' => by obtain ⟨e0, e1⟩ := hw'; go_simp; try with_reducible rfl⟩) ?_
        refine take_f 7 51 rfl rfl (by kernel_rfl) (by kernel_rfl) (by kernel_rfl) (by kernel_rfl) hQP hS (.inl ⟨by kernel_rfl, fun w' hw' => by obtain ⟨e0, e1⟩ := hw'; go_simp; try with_reducible rfl⟩) ?_
        refine take_f 8 52 rfl rfl (by kernel_rfl) (by kernel_rfl) (by kernel_rfl) (by kernel_rfl) hQP hS (.inl ⟨by kernel_rfl, fun w' hw' => by obtain ⟨e0, e1⟩ := hw'; go_simp; try with_reducible rfl⟩) ?_
        refine take_f 10 54 rfl rfl (by kernel_rfl) (by kernel_rfl) (by kernel_rfl) (by kernel_rfl) hQP hS (.inl ⟨by kernel_rfl, fun w' hw' => by obtain ⟨e0, e1⟩ := hw'; go_simp; try with_reducible rfl⟩) ?_
        try simp only [List.setIfInBounds_toArray, List.set_cons_succ, List.set_cons_zero]
        refine take_g (i := 9) (by kernel_rfl) rfl (by kernel_rfl) fun KQ hK => ?_
        go_wp2_with fail
        refine HRI.out.mono ?_
        rintro e wx ⟨rfl, rfl⟩
        refine hK _ _ (.inr hS) ?_
        clear hK HRI
        refine take_g (i := 11) (by kernel_rfl) rfl (by kernel_rfl) fun KQ hK => ?_
        go_wp2_with fail
        refine HBL.out.mono ?_
        rintro e w2 ⟨rfl, hw2e⟩
        have T2 : Turn (fun _ => False) w1 w2 := by rw [hw2e]; exact Turn.alloc _ _ _
        have HPA2 := Lib.hid (HPA.out w2 _ hw2e rfl)
        have HFI2 := Lib.hid (fun w3 hr ht => HFI.out w3 hr (by rw [← hw2e]; exact ht))
        have hS : w2.cell? ⟨π, 0, none⟩ = some (ptr γ1) ∧ w2.cell? ⟨π, 1, none⟩ = some (.int .i64 (k : Int)) := ⟨T2.cell hS.1 id, T2.cell hS.2 id⟩
        refine hK _ _ (.inr hS) ?_
        clear hK HBL HPA HFI hw2e T2
        refine take_g (i := 12) (by kernel_rfl) rfl (by kernel_rfl) fun KQ hK => ?_
        go_wp2_with fail
        refine HPA2.out.mono ?_
        rintro e w3 ⟨⟨ev, hev, rfl⟩, hr3, ht3⟩
        have hS : w3.cell? ⟨π, 0, none⟩ = some (ptr γ1) ∧ w3.cell? ⟨π, 1, none⟩ = some (.int .i64 (k : Int)) := ⟨ht3.cell hS.1 HQN.out, ht3.cell hS.2 HQN.out⟩
        have HP3 := Lib.hid (HFI2.out w3 hr3 ht3)
        refine hK _ _ (.inr hS) ?_
        clear hK hr3 ht3 hS HPA2 HFI2
        refine take_done (by kernel_rfl) ?_ _
        have HGO3 := Lib.hid (HGO.out w3 HP3.out.1)
        go_wp2_with fail
        refine HGO3.out.mono ?_
        rintro e w4 ⟨rfl, hto⟩
        have HF : Hid (PenTo w X π (roomP p wide W) W w4) := Lib.hid (by
          obtain ⟨X2, j1, j2, j3⟩ := hto
          have ha : Turn (fun b => X b ∨ w.heap.size ≤ b) w wc := HT1.out.mono (fun _ _ e => .inl e)
          have hb : Turn (fun b => X b ∨ w.heap.size ≤ b) wc w4 := (HP3.out.2.mono (fun b _ e => HX1.out b e)).trans (j3.mono (fun b _ e => HX1.out b e))
          refine ⟨X2, j1, fun b hb2 => ?_, (ha.trans hb).mono (fun b hb e => e.elim id (fun e => by omega))⟩
          rcases j2 b hb2 with e | e
          · exact HX1.out b e
          · exact .inr (Nat.le_trans (HT1.out.size) (Nat.le_trans HP3.out.2.size e)))
        clear hto
        go_wp2_with fail
        go_end0
        exact ⟨rfl, HF.out⟩
end Go.Proofs.YtjicdcmdgbcdcaaGreatDoor.Scr
end
section
namespace Go.Proofs.YtjicdcmdgbcdcaaGreatDoor.Scr
set_option linter.unusedSimpArgs false
set_option linter.unusedVariables false
open Go Go.RowKit Mem Turn Ring

theorem ret_num {k : IntKind} {a b : Int} (h : a = b) : Ending.returned (.int k a) = .returned (.int k b) := by rw [h]
theorem eheld_any (n lo hi : Int) (w : World) (h : lo ≤ hi) : Calls Tryz.prog 193 #[.int .i64 n, .int .i64 lo, .int .i64 hi] w fun e w' => e = .returned (.int .i64 (max lo (min n hi))) ∧ w = w' := by
  by_cases h1 : n ≤ hi
  · have d1 : decide (n ≤ hi) = true := decide_eq_true h1
    by_cases h2 : lo ≤ n
    · have d2 : decide (lo ≤ n) = true := decide_eq_true h2
      rw [show max lo (min n hi) = n from by omega]
      go_enter Tryz.func193, Tryz.ntmps193
      go_wp2_with fail
      all_goals
        go_ret
        exact ⟨by first | rfl | (exact ret_num (by omega)), rfl⟩
    · have d2 : decide (lo ≤ n) = false := decide_eq_false h2
      have h3 : n < lo := by omega
      rw [show max lo (min n hi) = lo from by omega]
      go_enter Tryz.func193, Tryz.ntmps193
      go_wp2_with fail
      all_goals
        go_ret
        exact ⟨by first | rfl | (exact ret_num (by omega)), rfl⟩
  · have d1 : decide (n ≤ hi) = false := decide_eq_false h1
    have h2 : hi < n := by omega
    rw [show max lo (min n hi) = hi from by omega]
    go_enter Tryz.func193, Tryz.ntmps193
    go_wp2_with fail
    all_goals
      go_ret
      exact ⟨by first | rfl | (exact ret_num (by omega)), rfl⟩

/-- a stretch made blank -/
def eraseR (l : LineC) (from_ to_ : Int) : LineC :=
  if max 0 (min from_ l.1.length) < max 0 (min to_ l.1.length) then paint l (max 0 (min from_ l.1.length)) (blanks (max 0 (min to_ l.1.length) - max 0 (min from_ l.1.length)).toNat) else l
theorem eraseR_len (l : LineC) (a b : Int) : (eraseR l a b).1.length = l.1.length := by
  unfold eraseR
  split
  · exact paint_len _ _ _
  · rfl
theorem eraseR_sound (l : LineC) (a b : Int) (h : soundB l.1 = true) : soundB (eraseR l a b).1 = true := by
  unfold eraseR
  split
  · exact paint_sound _ _ _ h
  · exact h

set_option maxRecDepth 100000 in
set_option maxHeartbeats 4000000 in
theorem range_any (ρ κ : Nat) (l : LineC) (from_ to_ : Int) (w : World) (h : RowAt w ρ κ l) (hs : soundB l.1 = true) (hv : ∀ w', Below w.heap.size w w' → Vars w' ∧ 3 < w'.heap.size) :
    Calls Tryz.prog 194 #[ptr ρ, .int .i64 from_, .int .i64 to_] w fun e w' => e = .returned (.tuple #[]) ∧ RowAt w' ρ κ (eraseR l from_ to_) ∧ Turn (fun b => b = ρ ∨ b = κ) w w' := by
  have hle := h.le
  have HW := Lib.hid (wide_any ρ κ l w h)
  have HE1 := Lib.hid (eheld_any from_ 0 (l.1.length : Int) w (by omega))
  have HE2 := Lib.hid (eheld_any to_ 0 (l.1.length : Int) w (by omega))
  have hρ := h.typ.lt
  have hκ := h.cells.typ.lt
  have HD := Lib.hid (show eraseR l from_ to_ = if max 0 (min from_ l.1.length) < max 0 (min to_ l.1.length) then paint l (max 0 (min from_ l.1.length)) (blanks (max 0 (min to_ l.1.length) - max 0 (min from_ l.1.length)).toNat) else l from rfl)
  obtain ⟨a, ha⟩ : ∃ a : Int, a = max 0 (min from_ l.1.length) := ⟨_, rfl⟩
  obtain ⟨b, hb⟩ : ∃ b : Int, b = max 0 (min to_ l.1.length) := ⟨_, rfl⟩
  rw [← ha] at HE1 HD
  rw [← hb] at HE2 HD
  have ha0 : 0 ≤ a ∧ a ≤ 1024 := by omega
  have hb0 : 0 ≤ b ∧ b ≤ 1024 := by omega
  have HH := Lib.hid h
  generalize hn : l.1.length = n at *
  clear h ha hb hn
  by_cases hab : a < b
  · obtain ⟨m, hm⟩ : ∃ m : Nat, (m : Int) = b - a := ⟨(b - a).toNat, by omega⟩
    have hD : eraseR l from_ to_ = paint l a (blanks m) := by
      rw [HD.out, if_pos hab, show (b - a).toNat = m from by omega]
    have HD2 := Lib.hid hD
    have HB := Lib.hid (blanks_any (b - a) m (by omega) w)
    have HP : Hid (∀ w' v, w' = w.alloc (.cells (flatC (List.replicate m (0, .slice none 0 0))).toArray 80) → v = .slice (some ⟨w.heap.size, 0, none⟩) m m → Calls Tryz.prog 234 #[ptr ρ, .int .i64 a, v] w' fun e w2 => (∃ v, ErrV v ∧ e = .returned v) ∧ RowAt w2 ρ κ (paint l a (blanks m)) ∧ Turn (fun b => b = ρ ∨ b = κ) w w2) := Lib.hid fun w' v hw' hv' => by
      subst hw' hv'
      have hbl : Below w.heap.size w (w.alloc (.cells (flatC (List.replicate m (0, .slice none 0 0))).toArray 80)) := (Below.refl _ _).alloc (Nat.le_refl _) _
      have T : Turn (fun _ => False) w _ := Turn.of_new hbl
      refine (paint_any ρ κ a l _ (blanks m) _ (HH.out.turn T (Free.no _ _) id id) (sound_first hs) (hv _ hbl).1 ((blanks_at w m (by omega)).mono (fun b hb _ => ⟨by omega, by omega⟩)) (hv _ hbl).2 (by omega) (by omega)).mono ?_
      rintro e w2 ⟨h1, h2, h3⟩
      exact ⟨h1, h2, (T.mono (fun _ _ h => h.elim)).trans h3⟩
    clear hD hm
    go_enter Tryz.func194, Tryz.ntmps194
    go_wp2_with fail
    refine HW.out.mono ?_
    rintro e wx ⟨rfl, rfl⟩
    go_wp2_with fail
    refine HE1.out.mono ?_
    rintro e wx ⟨rfl, rfl⟩
    go_wp2_with fail
    refine HW.out.mono ?_
    rintro e wx ⟨rfl, rfl⟩
    go_wp2_with fail
    refine HE2.out.mono ?_
    rintro e wx ⟨rfl, rfl⟩
    go_wp2_with fail
    refine HB.out.mono ?_
    rintro e w2 ⟨rfl, hw2⟩
    have HP2 := Lib.hid (HP.out w2 _ hw2 rfl)
    clear hw2 HB HP
    go_wp2_with fail
    refine HP2.out.mono ?_
    rintro e w3 ⟨⟨ev, hev, rfl⟩, hr3, ht3⟩
    have HF := Lib.hid (And.intro hr3 ht3)
    clear hr3 ht3 HP2
    go_wp2_with fail
    go_end0
    rw [HD2.out]
    exact ⟨rfl, HF.out⟩
  · have HD2 := Lib.hid (show eraseR l from_ to_ = l by rw [HD.out, if_neg hab])
    have d1 : decide (a < b) = false := decide_eq_false hab
    go_enter Tryz.func194, Tryz.ntmps194
    go_wp2_with fail
    refine HW.out.mono ?_
    rintro e wx ⟨rfl, rfl⟩
    go_wp2_with fail
    refine HE1.out.mono ?_
    rintro e wx ⟨rfl, rfl⟩
    go_wp2_with fail
    refine HW.out.mono ?_
    rintro e wx ⟨rfl, rfl⟩
    go_wp2_with fail
    refine HE2.out.mono ?_
    rintro e wx ⟨rfl, rfl⟩
    go_wp2_with fail
    go_end0
    rw [HD2.out]
    exact ⟨rfl, HH.out, Turn.refl _ _⟩
end Go.Proofs.YtjicdcmdgbcdcaaGreatDoor.Scr
end
section
namespace Go.Proofs.YtjicdcmdgbcdcaaGreatDoor.Scr
set_option linter.unusedSimpArgs false
set_option linter.unusedVariables false
open Go Go.RowKit Mem Turn Ring

def eraseLt (l : LineC) (col : Int) : LineC := eraseR l 0 (max (-1) (min col l.1.length) + 1)
def eraseRt (l : LineC) (col : Int) : LineC := eraseR l col l.1.length
def eraseAll (l : LineC) : LineC := ((eraseR l 0 l.1.length).1, false)
def eraseN (l : LineC) (col n : Int) : LineC := if 0 ≤ col ∧ 0 < n then eraseR l (max 0 (min col l.1.length)) (max 0 (min col l.1.length) + max 0 (min n l.1.length)) else l

/-- what a row's call leaves -/
def RowTo (w : World) (ρ κ : Nat) (l : LineC) (w' : World) : Prop := RowAt w' ρ κ l ∧ Turn (fun b => b = ρ ∨ b = κ) w w'

section
variable (ρ κ : Nat) (l : LineC) (w : World) (h : RowAt w ρ κ l) (hs : soundB l.1 = true) (hv : ∀ w', Below w.heap.size w w' → Vars w' ∧ 3 < w'.heap.size)
include h hs hv

theorem eright_any (col : Int) : Calls Tryz.prog 190 #[ptr ρ, .int .i64 col] w fun e w' => e = .returned (.tuple #[]) ∧ RowTo w ρ κ (eraseRt l col) w' := by
  have HW := Lib.hid (wide_any ρ κ l w h)
  have HR := Lib.hid (range_any ρ κ l col (l.1.length : Int) w h hs hv)
  have HD := Lib.hid (show eraseRt l col = eraseR l col l.1.length from rfl)
  generalize l.1.length = n at *
  clear h hs hv
  go_enter Tryz.func190, Tryz.ntmps190
  go_wp2_with fail
  refine HW.out.mono ?_
  rintro e wx ⟨rfl, rfl⟩
  go_wp2_with fail
  refine HR.out.mono ?_
  rintro e w1 ⟨rfl, hr, ht⟩
  have HF := Lib.hid (And.intro hr ht)
  clear hr ht HR
  go_wp2_with fail
  go_end0
  rw [HD.out]
  exact ⟨rfl, HF.out⟩
theorem eleft_any (col : Int) : Calls Tryz.prog 191 #[ptr ρ, .int .i64 col] w fun e w' => e = .returned (.tuple #[]) ∧ RowTo w ρ κ (eraseLt l col) w' := by
  have hle := h.le
  have HW := Lib.hid (wide_any ρ κ l w h)
  have HE := Lib.hid (eheld_any col (-1) (l.1.length : Int) w (by omega))
  have HR := Lib.hid (fun t => range_any ρ κ l 0 t w h hs hv)
  have HD := Lib.hid (show eraseLt l col = eraseR l 0 (max (-1) (min col l.1.length) + 1) from rfl)
  obtain ⟨z, hz⟩ : ∃ z : Int, z = max (-1) (min col l.1.length) := ⟨_, rfl⟩
  rw [← hz] at HE HD
  have hz1 : -1 ≤ z ∧ z ≤ 1024 := by omega
  clear hz
  generalize l.1.length = n at *
  clear h hs hv
  go_enter Tryz.func191, Tryz.ntmps191
  go_wp2_with fail
  refine HW.out.mono ?_
  rintro e wx ⟨rfl, rfl⟩
  go_wp2_with fail
  refine HE.out.mono ?_
  rintro e wx ⟨rfl, rfl⟩
  go_wp2_with fail
  refine (HR.out _).mono ?_
  rintro e w1 ⟨rfl, hr, ht⟩
  have HF := Lib.hid (And.intro hr ht)
  clear hr ht HR
  go_wp2_with fail
  go_end0
  rw [HD.out]
  exact ⟨rfl, HF.out⟩
theorem eall_any : Calls Tryz.prog 192 #[ptr ρ] w fun e w' => e = .returned (.tuple #[]) ∧ RowTo w ρ κ (eraseAll l) w' := by
  have HW := Lib.hid (wide_any ρ κ l w h)
  have HR := Lib.hid (range_any ρ κ l 0 (l.1.length : Int) w h hs hv)
  have HD := Lib.hid (show eraseAll l = ((eraseR l 0 l.1.length).1, false) from rfl)
  generalize l.1.length = n at *
  clear h hs hv
  go_enter Tryz.func192, Tryz.ntmps192
  go_wp2_with fail
  refine HW.out.mono ?_
  rintro e wx ⟨rfl, rfl⟩
  go_wp2_with fail
  refine HR.out.mono ?_
  rintro e w1 ⟨rfl, hr, ht⟩
  have HG := Lib.hid (goOn_any ρ κ _ false w1 hr)
  have HT := Lib.hid ht
  clear hr ht HR
  go_wp2_with fail
  refine HG.out.mono ?_
  rintro e w2 ⟨rfl, hr, ht⟩
  have HF : Hid (RowTo w ρ κ (eraseAll l) w2) := Lib.hid (by rw [HD.out]; exact ⟨hr, HT.out.trans (ht.mono (fun _ _ e => .inl e))⟩)
  clear hr ht HG
  go_wp2_with fail
  go_end0
  exact ⟨rfl, HF.out⟩
theorem ecells_any (col k : Int) : Calls Tryz.prog 130 #[ptr ρ, .int .i64 col, .int .i64 k] w fun e w' => e = .returned (.tuple #[]) ∧ RowTo w ρ κ (eraseN l col k) w' := by
  have hle := h.le
  have HW := Lib.hid (wide_any ρ κ l w h)
  have HE := Lib.hid (fun z => eheld_any z 0 (l.1.length : Int) w (by omega))
  have HR := Lib.hid (fun s t => range_any ρ κ l s t w h hs hv)
  have HD := Lib.hid (show eraseN l col k = if 0 ≤ col ∧ 0 < k then eraseR l (max 0 (min col l.1.length)) (max 0 (min col l.1.length) + max 0 (min k l.1.length)) else l from rfl)
  have HH := Lib.hid h
  by_cases hc : 0 ≤ col ∧ 0 < k
  · rw [if_pos hc] at HD
    have HE1 := Lib.hid (HE.out col)
    have HE2 := Lib.hid (HE.out k)
    obtain ⟨a, ha⟩ : ∃ a : Int, a = max 0 (min col l.1.length) := ⟨_, rfl⟩
    obtain ⟨b, hb⟩ : ∃ b : Int, b = max 0 (min k l.1.length) := ⟨_, rfl⟩
    rw [← ha] at HE1 HD
    rw [← hb] at HE2 HD
    have hab : 0 ≤ a ∧ a ≤ 1024 ∧ 0 ≤ b ∧ b ≤ 1024 := by omega
    obtain ⟨hc1, hc2⟩ := hc
    clear ha hb HE
    generalize l.1.length = n at *
    clear h hs hv
    go_enter Tryz.func130, Tryz.ntmps130
    go_wp2_with fail
    refine HW.out.mono ?_
    rintro e wx ⟨rfl, rfl⟩
    go_wp2_with fail
    refine HE1.out.mono ?_
    rintro e wx ⟨rfl, rfl⟩
    go_wp2_with fail
    refine HW.out.mono ?_
    rintro e wx ⟨rfl, rfl⟩
    go_wp2_with fail
    refine HE2.out.mono ?_
    rintro e wx ⟨rfl, rfl⟩
    go_wp2_with fail
    refine (HR.out _ _).mono ?_
    rintro e w1 ⟨rfl, hr, ht⟩
    have HF := Lib.hid (And.intro hr ht)
    clear hr ht HR
    go_wp2_with fail
    go_end0
    rw [HD.out]
    exact ⟨rfl, HF.out⟩
  · rw [if_neg hc] at HD
    have HF : Hid (RowTo w ρ κ (eraseN l col k) w) := Lib.hid (by rw [HD.out]; exact ⟨HH.out, Turn.refl _ _⟩)
    clear h hs hv HE HW HR
    by_cases h0 : 0 ≤ col
    · have h1 : ¬ 0 < k := fun e => hc ⟨h0, e⟩
      clear hc
      go_enter Tryz.func130, Tryz.ntmps130
      go_wp2_with fail
      go_end0
      exact ⟨rfl, HF.out⟩
    · clear hc
      go_enter Tryz.func130, Tryz.ntmps130
      go_wp2_with fail
      go_end0
      exact ⟨rfl, HF.out⟩
end
end Go.Proofs.YtjicdcmdgbcdcaaGreatDoor.Scr
end
section
namespace Go.Proofs.YtjicdcmdgbcdcaaGreatDoor.Scr
set_option linter.unusedSimpArgs false
set_option linter.unusedVariables false

theorem PenOK.paint {p : PenC} {W : Nat} (h : PenOK p W) (col : Int) (c : List CellC) : PenOK (paintP p col c) W := by
  obtain ⟨r0, r1, _⟩ := h.rng
  have hm : p.rows.getD p.at_.row.toNat ([], false) ∈ p.rows := by
    rw [List.getD_eq_getElem?_getD, List.getElem?_eq_getElem (by omega)]
    exact List.getElem_mem _
  have hl := h.rows _ hm
  refine ⟨h.w1, h.w2, ?_, ?_, ?_, ?_⟩
  · unfold paintP; simp only [List.length_set]; exact h.h1
  · unfold paintP; simp only [List.length_set]; exact h.h2
  · exact h.rows.set ⟨by rw [paint_len]; exact hl.1, paint_sound _ _ _ hl.2⟩
  · unfold paintP; simp only [List.length_set]; exact h.held
theorem newLine_pend (p : PenC) (W : Nat) : (newLineP p W).at_.pend = false := by
  unfold newLineP downC
  simp only
  split <;> rfl
theorem goOn_col (p : PenC) (W : Nat) : (goOnP p W).at_.col = 0 := by
  unfold goOnP newLineP downC
  simp only
  have h1 := side_rng W
  have : (hold (returnC p.at_) W (p.rows.set p.at_.row.toNat ((p.rows.getD p.at_.row.toNat ([], false)).1, true)).length).col = 0 := by
    unfold hold heldC returnC
    simp only
    omega
  split <;> exact this
theorem goOn_pend (p : PenC) (W : Nat) : (goOnP p W).at_.pend = false := newLine_pend _ _
theorem room0_pend (p : PenC) (W : Nat) : (roomP0 p W).at_.pend = false := by
  unfold roomP0
  split
  · exact goOn_pend _ _
  · rename_i h; simpa using h
theorem PenOK.room {p : PenC} {W : Nat} (h : PenOK p W) (wide : Int) (hw : wide = 1 ∨ wide = 2 ∧ 2 ≤ W) : PenOK (roomP p wide W) W ∧ (roomP p wide W).at_.col + wide ≤ W := by
  have h0 := h.room0
  obtain ⟨r0, r1, c0, c1, _⟩ := h0.rng
  have hp := room0_pend p W
  have w1 := h.w1
  have w2 := h.w2
  unfold roomP
  split
  · rename_i hc
    exact ⟨h0, by rcases hw with e | e <;> omega⟩
  · rename_i hc
    have h1 : wide = 2 ∧ 2 ≤ W := hw.resolve_left (fun e => hc (.inl e))
    have h2 : ¬ (roomP0 p W).at_.col < (W : Int) - 1 := fun e => hc (.inr e)
    split
    · exact ⟨(h0.paint _ _).goOn, by rw [goOn_col]; omega⟩
    · refine ⟨⟨w1, w2, h0.h1, h0.h2, h0.rows, ?_⟩, by simp only; omega⟩
      have a1 := h0.h1
      have a2 := h0.h2
      exact held_of (by omega) (by omega) (by show (1 : Int) ≤ ((roomP0 p W).rows.length : Int); omega) (by show ((roomP0 p W).rows.length : Int) ≤ 1024; omega) r0 r1 (by simp only; omega) (by simp only; omega) (fun x => by simp only at x; rw [hp] at x; cases x)
end Go.Proofs.YtjicdcmdgbcdcaaGreatDoor.Scr
end

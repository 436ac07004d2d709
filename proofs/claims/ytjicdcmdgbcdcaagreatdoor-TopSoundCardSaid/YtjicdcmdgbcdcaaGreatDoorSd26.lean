/-
  place: NewLine.
  place: goOn.
-/
import Derived.Test.YtjicdcmdgbcdcaaGreatDoorSd25

section
namespace Go.Proofs.YtjicdcmdgbcdcaaGreatDoor.Scr
set_option linter.unusedSimpArgs false
set_option linter.unusedVariables false
open Go Go.RowKit Mem Turn Ring

/-- the next row -/
def newLineP (p : PenC) (W : Nat) : PenC :=
  { p with
    at_ := (downC (hold p.at_ W p.rows.length) p.rows.length).1
    rows := if (downC (hold p.at_ W p.rows.length) p.rows.length).2 then upR p.rows 0 1 W else p.rows }

theorem hold_rng (c : Cur) (W H : Int) : 0 ≤ (hold c W H).row ∧ (hold c W H).row ≤ 1023 ∧ 0 ≤ (hold c W H).col ∧ (hold c W H).col ≤ 1023 := by
  have h1 := side_rng W
  have h2 := side_rng H
  unfold hold heldC
  simp only
  omega

theorem RowsAt.exact {w : World} {X : Nat → Prop} {Q : List (Nat × Nat)} {Ls : List LineC} {W : Nat} (h : RowsAt w X Q Ls W) : RowsAt w (fun b => ∃ q ∈ Q, b = q.1 ∨ b = q.2) Q Ls W :=
  ⟨h.len, fun i p l hp hl => by
    obtain ⟨h1, h2, _, _⟩ := h.row i p l hp hl
    exact ⟨h1, h2, ⟨p, List.mem_of_getElem? hp, .inl rfl⟩, ⟨p, List.mem_of_getElem? hp, .inr rfl⟩⟩, h.dis⟩
/-- what scrolling leaves of the pen -/
theorem PenIs.scrolled {w w' : World} {X : Nat → Prop} {π γ β W : Nat} {Q : List (Nat × Nat)} {p : PenC} {L' : List LineC} (h : PenIs w X π γ β Q p W) (hs : Scrolled w (fun b => ∃ q ∈ Q, b = q.1 ∨ b = q.2) γ β W L' w') : PenTo w X π { p with rows := L' } W w' ∧ w'.cell? ⟨π, 0, none⟩ = some (ptr γ) := by
  obtain ⟨Q', hg, hr, ht⟩ := hs
  have hX : ∀ b, (∃ q ∈ Q, b = q.1 ∨ b = q.2) → X b ∧ b < w.heap.size ∧ (Typ w 198 b ∨ Typ w 80 b) := by
    rintro b ⟨q, hq, e⟩
    obtain ⟨i, hi⟩ := List.getElem?_of_mem hq
    obtain ⟨l, _, g1, _, g3, g4⟩ := h.rows.line hi
    rcases e with rfl | rfl
    · exact ⟨g3, g1.typ.lt, .inl g1.typ⟩
    · exact ⟨g4, g1.cells.typ.lt, .inr g1.cells.typ⟩
  have hπ : ¬ (π = β ∨ ∃ q ∈ Q, π = q.1 ∨ π = q.2) := by
    rintro (e | e)
    · exact h.typ.ne h.grid.typ2 (by decide) e
    · rcases (hX π e).2.2 with e | e
      · exact h.typ.not (by decide) e
      · exact h.typ.not (by decide) e
  refine ⟨⟨fun b => X b ∨ w.heap.size ≤ b, ⟨γ, β, Q', ht.heap h.hdr hπ, hg, hr.mono (fun b hb _ => hb.elim (fun e => .inl (hX b e).1) .inr), .inl h.xπ, .inl h.xγ, .inl h.xβ, h.w1, h.w2⟩, fun b hb => hb, ht.mono (fun b _ e => e.elim (fun e => by rw [e]; exact h.xβ) (fun e => (hX b e).1))⟩, ht.cell h.cells.1 hπ⟩

set_option maxRecDepth 100000 in
set_option maxHeartbeats 8000000 in
theorem newLine_any (X : Nat → Prop) (π W : Nat) (p : PenC) (w : World) (h : PenAt w X π p W) :
    Calls Tryz.prog 165 #[ptr π] w fun e w' => e = .returned (.tuple #[]) ∧ PenTo w X π (newLineP p W) W w' := by
  have hmx : Tryz.prog.follows .mixedOrders = true := by kernel_rfl
  obtain ⟨γ, β, Q, hp⟩ := h
  have HRD := Lib.hid (ready_is X π γ β W Q p w hp)
  have HXπ := Lib.hid hp.xπ
  obtain ⟨q1, hq1⟩ : ∃ q : PenC, q = { p with at_ := hold p.at_ W p.rows.length } := ⟨_, rfl⟩
  have hlen := hp.rows.len
  have hpos := hp.grid.pos
  have hle := hp.grid.le
  rw [List.length_map] at hpos hle
  rw [← hq1] at HRD
  have hrows : q1.rows = p.rows := by rw [hq1]
  have HNL : Hid (newLineP p W = { q1 with at_ := (downC q1.at_ q1.rows.length).1, rows := if (downC q1.at_ q1.rows.length).2 then upR q1.rows 0 1 W else q1.rows }) := Lib.hid (by rw [hq1]; rfl)
  have hrg : 0 ≤ q1.at_.row ∧ q1.at_.row ≤ 1023 := by
    have := hold_rng p.at_ W p.rows.length
    rw [hq1]
    exact ⟨this.1, this.2.1⟩
  have HQL : Hid (Q.length = q1.rows.length) := Lib.hid (by rw [hrows]; exact hlen)
  clear hq1 hrows hp hlen
  go_enter Tryz.func165, Tryz.ntmps165
  go_wp2_with fail
  refine HRD.out.mono ?_
  rintro e w1 ⟨rfl, hp1, ht1⟩
  have HP1 := Lib.hid hp1
  have HT1 := Lib.hid ht1
  obtain ⟨c0, c1, c2, c3, _, _⟩ := hp1.cells
  have HHI : Hid (∀ W', Below w1.heap.size w1 W' → Calls Tryz.prog 37 #[ptr γ] W' fun e w' => e = .returned (.int .i64 (q1.rows.length : Int)) ∧ W' = w') := Lib.hid fun W' hb => by
    have := high_any γ β _ W' (hp1.below hb).grid
    rw [List.length_map, HQL.out] at this
    exact this
  have HDN : Hid (∀ W', Calls Tryz.prog 236 #[.agg #[.int .i64 q1.at_.row, .int .i64 q1.at_.col, .bool q1.at_.pend], .int .i64 (q1.rows.length : Int)] W' fun e w' => e = .returned (.tuple #[curV (downC q1.at_ q1.rows.length).1, .bool (downC q1.at_ q1.rows.length).2]) ∧ Below W'.heap.size W' w') := Lib.hid fun W' => down_any _ _ _ _ W' (by omega) (by omega)
  have HUP : Hid (∀ w', PenIs w' X π γ β Q { q1 with at_ := (downC q1.at_ q1.rows.length).1 } W → Calls Tryz.prog 125 #[ptr γ, .int .i64 0, .int .i64 (q1.rows.length : Int), .int .i64 1] w' fun e w2 => e = .returned (.tuple #[]) ∧ PenTo w' X π { q1 with at_ := (downC q1.at_ q1.rows.length).1, rows := upR q1.rows 0 1 W } W w2 ∧ w2.cell? ⟨π, 0, none⟩ = some (ptr γ)) := Lib.hid fun w' hp => by
    have := up_any γ β W 0 1 _ Q q1.rows w' hp.grid hp.rows.exact (by omega) hp.w1 hp.w2
    rw [HQL.out] at this
    refine this.mono ?_
    rintro e w2 ⟨h1, h2⟩
    exact ⟨h1, hp.scrolled h2⟩
  obtain ⟨dn, hdn⟩ : ∃ dn, dn = downC q1.at_ q1.rows.length := ⟨_, rfl⟩
  rw [← hdn] at HDN HNL HUP
  obtain ⟨⟨zr, zc, zb⟩, end_⟩ := dn
  obtain ⟨Hn, hHn⟩ : ∃ Hn, Hn = q1.rows.length := ⟨_, rfl⟩
  rw [← hHn] at HDN HHI HUP
  have HHN := Lib.hid hHn
  generalize hr : q1.at_.row = r at *
  generalize hc : q1.at_.col = cc at *
  generalize hb : q1.at_.pend = pb at *
  clear hp1 ht1 hdn hHn hr hc hb hpos hle HRD
  go_upto_region 1 with fail
--ORD--
  have HPL : Hid (π < w1.heap.size) := Lib.hid HP1.out.typ.lt
  go_cut [2, 3] (fun s2 s3 wx => ∃ nb : Nat, s2 = ptr nb ∧ s3 = .bool end_ ∧ Hid (wx.heap[nb]? = some (.cells (curA zr zc zb) 36 (0, 0)) ∧ w1.heap.size ≤ nb ∧ Below w1.heap.size w1 wx))
  case first =>
    refine region_begin3 (fun w' => w'.cell? ⟨π, 0, none⟩ = some (ptr γ) ∧ w'.cell? ⟨π, 1, none⟩ = some (.int .i64 r) ∧ w'.cell? ⟨π, 2, none⟩ = some (.int .i64 cc) ∧ w'.cell? ⟨π, 3, none⟩ = some (.bool pb)) (fun _ => false) 16 rfl hmx (by intro _ _ d _ _ h; cases d <;> exact h) fun hQP => ?_
    have hS : w1.drew.cell? ⟨π, 0, none⟩ = some (ptr γ) ∧ w1.drew.cell? ⟨π, 1, none⟩ = some (.int .i64 r) ∧ w1.drew.cell? ⟨π, 2, none⟩ = some (.int .i64 cc) ∧ w1.drew.cell? ⟨π, 3, none⟩ = some (.bool pb) := ⟨c0, c1, c2, c3⟩
    have HB2 : Hid (Below w1.heap.size w1 w1.drew) := Lib.hid ((Below.refl _ _).drew)
    clear c0 c1 c2 c3
    generalize w1.drew = w2 at *
    refine take_f 0 8 rfl rfl (by kernel_rfl) (by kernel_rfl) (by kernel_rfl) (by kernel_rfl) hQP hS (.inl ⟨by kernel_rfl, fun w' hw' => by obtain ⟨e0, e1, e2, e3⟩ := hw'; go_simp; try with_reducible rfl⟩) ?_
    refine take_f 1 9 rfl rfl (by kernel_rfl) (by kernel_rfl) (by kernel_rfl) (by kernel_rfl) hQP hS (.inl ⟨by kernel_rfl, fun w' hw' => by obtain ⟨e0, e1, e2, e3⟩ := hw'; go_simp; try with_reducible rfl⟩) ?_
    refine take_f 2 10 rfl rfl (by kernel_rfl) (by kernel_rfl) (by kernel_rfl) (by kernel_rfl) hQP hS (.inl ⟨by kernel_rfl, fun w' hw' => by obtain ⟨e0, e1, e2, e3⟩ := hw'; go_simp; try with_reducible rfl⟩) ?_
    refine take_f 3 11 rfl rfl (by kernel_rfl) (by kernel_rfl) (by kernel_rfl) (by kernel_rfl) hQP hS (.inl ⟨by kernel_rfl, fun w' hw' => by obtain ⟨e0, e1, e2, e3⟩ := hw'; go_simp; try with_reducible rfl⟩) ?_
    refine take_f 4 12 rfl rfl (by kernel_rfl) (by kernel_rfl) (by kernel_rfl) (by kernel_rfl) hQP hS (.inl ⟨by kernel_rfl, fun w' hw' => by obtain ⟨e0, e1, e2, e3⟩ := hw'; go_simp; try with_reducible rfl⟩) ?_
    refine take_f 5 13 rfl rfl (by kernel_rfl) (by kernel_rfl) (by kernel_rfl) (by kernel_rfl) hQP hS (.inl ⟨by kernel_rfl, fun w' hw' => by obtain ⟨e0, e1, e2, e3⟩ := hw'; go_simp; try with_reducible rfl⟩) ?_
    refine take_f 6 14 rfl rfl (by kernel_rfl) (by kernel_rfl) (by kernel_rfl) (by kernel_rfl) hQP hS (.inl ⟨by kernel_rfl, fun w' hw' => by obtain ⟨e0, e1, e2, e3⟩ := hw'; go_simp; try with_reducible rfl⟩) ?_
    refine take_f 7 15 rfl rfl (by kernel_rfl) (by kernel_rfl) (by kernel_rfl) (by kernel_rfl) hQP hS (.inl ⟨by kernel_rfl, fun w' hw' => by obtain ⟨e0, e1, e2, e3⟩ := hw'; go_simp; try with_reducible rfl⟩) ?_
    try simp only [List.setIfInBounds_toArray, List.set_cons_succ, List.set_cons_zero]
    refine take_2 (i := 8) (j := 13) (by kernel_rfl) rfl rfl (by kernel_rfl) (by kernel_rfl) (fun KQ hK => ?_) (fun KQ hK => ?_)
    · go_wp2_with fail
      refine (HHI.out _ HB2.out).mono ?_
      rintro e wx ⟨rfl, rfl⟩
      refine hK _ _ (.inr hS) ?_
      clear hK
      try simp only [List.setIfInBounds_toArray, List.set_cons_succ, List.set_cons_zero]
      refine take_2 (i := 9) (j := 13) (by kernel_rfl) rfl rfl (by kernel_rfl) (by kernel_rfl) (fun KQ hK => ?_) (fun KQ hK => ?_)
      · go_wp2_with fail
        refine (HDN.out _).mono ?_
        rintro e w3 ⟨rfl, hb⟩
        have HB3 := Lib.hid (HB2.out.trans (hb.mono HB2.out.size))
        have T3 : Turn (fun _ => False) w2 w3 := Turn.of_new hb
        have hS : w3.cell? ⟨π, 0, none⟩ = some (ptr γ) ∧ w3.cell? ⟨π, 1, none⟩ = some (.int .i64 r) ∧ w3.cell? ⟨π, 2, none⟩ = some (.int .i64 cc) ∧ w3.cell? ⟨π, 3, none⟩ = some (.bool pb) := ⟨T3.cell hS.1 id, T3.cell hS.2.1 id, T3.cell hS.2.2.1 id, T3.cell hS.2.2.2 id⟩
        refine hK _ _ (.inr hS) ?_
        clear hK T3 hb
        refine take_f 10 7 rfl rfl (by kernel_rfl) (by kernel_rfl) (by kernel_rfl) (by kernel_rfl) hQP hS (.inl ⟨by kernel_rfl, fun w' hw' => by obtain ⟨e0, e1, e2, e3⟩ := hw'; go_simp; try with_reducible rfl⟩) ?_
        refine take_f 11 18 rfl rfl (by kernel_rfl) (by kernel_rfl) (by kernel_rfl) (by kernel_rfl) hQP hS (.inl ⟨by kernel_rfl, fun w' hw' => by obtain ⟨e0, e1, e2, e3⟩ := hw'; go_simp; try with_reducible rfl⟩) ?_
        refine take_f 12 19 rfl rfl (by kernel_rfl) (by kernel_rfl) (by kernel_rfl) (by kernel_rfl) hQP hS (.inl ⟨by kernel_rfl, fun w' hw' => by obtain ⟨e0, e1, e2, e3⟩ := hw'; go_simp; try with_reducible rfl⟩) ?_
        try simp only [List.setIfInBounds_toArray, List.set_cons_succ, List.set_cons_zero]
        refine take_g (i := 13) (by kernel_rfl) rfl (by kernel_rfl) fun KQ hK => ?_
        go_wp2_with fail
        have TA : Turn (fun _ => False) w3 (w3.alloc (.cells (curA 0 0 false) 36)) := Turn.alloc _ _ _
        have HN4 : Hid ((w3.alloc (.cells (curA 0 0 false) 36)).heap[w3.heap.size]? = some (.cells (curA 0 0 false) 36 (0, 0))) := Lib.hid (heap_alloc_new w3 _)
        have HB4 : Hid (Below w1.heap.size w1 (w3.alloc (.cells (curA 0 0 false) 36))) := Lib.hid (HB3.out.alloc HB3.out.size _)
        have hS : (w3.alloc (.cells (curA 0 0 false) 36)).cell? ⟨π, 0, none⟩ = some (ptr γ) ∧ (w3.alloc (.cells (curA 0 0 false) 36)).cell? ⟨π, 1, none⟩ = some (.int .i64 r) ∧ (w3.alloc (.cells (curA 0 0 false) 36)).cell? ⟨π, 2, none⟩ = some (.int .i64 cc) ∧ (w3.alloc (.cells (curA 0 0 false) 36)).cell? ⟨π, 3, none⟩ = some (.bool pb) := ⟨TA.cell hS.1 id, TA.cell hS.2.1 id, TA.cell hS.2.2.1 id, TA.cell hS.2.2.2 id⟩
        refine hK _ _ (.inr hS) ?_
        clear hK TA
        have HNB : Hid (w1.heap.size ≤ w3.heap.size) := Lib.hid HB3.out.size
        generalize hnb : w3.heap.size = nb at *
        generalize (w3.alloc (.cells (curA 0 0 false) 36)) = w4 at *
        have hπn : ¬ π = nb := by have := HNB.out; have := HPL.out; omega
        try simp only [List.setIfInBounds_toArray, List.set_cons_succ, List.set_cons_zero]
        have TR := turn_setRow w4 nb (curA zr zc zb)
        have hSn : (w4.setRow nb (curA zr zc zb)).cell? ⟨π, 0, none⟩ = some (ptr γ) ∧ (w4.setRow nb (curA zr zc zb)).cell? ⟨π, 1, none⟩ = some (.int .i64 r) ∧ (w4.setRow nb (curA zr zc zb)).cell? ⟨π, 2, none⟩ = some (.int .i64 cc) ∧ (w4.setRow nb (curA zr zc zb)).cell? ⟨π, 3, none⟩ = some (.bool pb) := ⟨TR.cell hS.1 hπn, TR.cell hS.2.1 hπn, TR.cell hS.2.2.1 hπn, TR.cell hS.2.2.2 hπn⟩
        refine take_store_row 14 (by kernel_rfl) rfl rfl rfl 36 (.tmp 2) (.tmp 18) rfl nb (curA zr zc zb) (by rfl) (by rfl) 36 (curA 0 0 false) HN4.out (size_cur _ _ _) rfl (one_cur _ _ _) (.inr hSn) ?_
        have HF := Lib.hid (And.intro (setRow_heap w4 nb _ (curA zr zc zb) 36 (0, 0) HN4.out) (And.intro HNB.out (HB4.out.trans (TR.below HB4.out.size (fun j e => by rw [e]; exact HNB.out)))))
        have hS := hSn
        clear hSn TR
        generalize (w4.setRow nb (curA zr zc zb)) = w9 at *
        refine take_f 15 3 rfl rfl (by kernel_rfl) (by kernel_rfl) (by kernel_rfl) (by kernel_rfl) hQP hS (.inl ⟨by kernel_rfl, fun w' hw' => by obtain ⟨e0, e1, e2, e3⟩ := hw'; go_simp; try with_reducible rfl⟩) ?_
        refine take_done (by kernel_rfl) ?_ _
        try simp only [List.setIfInBounds_toArray, List.set_cons_succ, List.set_cons_zero]
        go_wp2_with fail
        go_meet
        exact ⟨nb, rfl, rfl, HF⟩
      · go_wp2_with fail
        have TA : Turn (fun _ => False) w2 (w2.alloc (.cells (curA 0 0 false) 36)) := Turn.alloc _ _ _
        have HN3 : Hid ((w2.alloc (.cells (curA 0 0 false) 36)).heap[w2.heap.size]? = some (.cells (curA 0 0 false) 36 (0, 0))) := Lib.hid (heap_alloc_new w2 _)
        have HB3 : Hid (Below w1.heap.size w1 (w2.alloc (.cells (curA 0 0 false) 36))) := Lib.hid (HB2.out.alloc HB2.out.size _)
        have hS : (w2.alloc (.cells (curA 0 0 false) 36)).cell? ⟨π, 0, none⟩ = some (ptr γ) ∧ (w2.alloc (.cells (curA 0 0 false) 36)).cell? ⟨π, 1, none⟩ = some (.int .i64 r) ∧ (w2.alloc (.cells (curA 0 0 false) 36)).cell? ⟨π, 2, none⟩ = some (.int .i64 cc) ∧ (w2.alloc (.cells (curA 0 0 false) 36)).cell? ⟨π, 3, none⟩ = some (.bool pb) := ⟨TA.cell hS.1 id, TA.cell hS.2.1 id, TA.cell hS.2.2.1 id, TA.cell hS.2.2.2 id⟩
        refine hK _ _ (.inr hS) ?_
        clear hK TA
        have HNB : Hid (w1.heap.size ≤ w2.heap.size) := Lib.hid HB2.out.size
        generalize hnb : w2.heap.size = nb at *
        generalize (w2.alloc (.cells (curA 0 0 false) 36)) = w3 at *
        try simp only [List.setIfInBounds_toArray, List.set_cons_succ, List.set_cons_zero]
        refine take_g (i := 9) (by kernel_rfl) rfl (by kernel_rfl) fun KQ hK => ?_
        go_wp2_with fail
        refine (HDN.out _).mono ?_
        rintro e w4 ⟨rfl, hb⟩
        have HB4 := Lib.hid (HB3.out.trans (hb.mono HB3.out.size))
        have T3 : Turn (fun _ => False) w3 w4 := Turn.of_new hb
        have HN4 := Lib.hid (T3.heap HN3.out id)
        have hS : w4.cell? ⟨π, 0, none⟩ = some (ptr γ) ∧ w4.cell? ⟨π, 1, none⟩ = some (.int .i64 r) ∧ w4.cell? ⟨π, 2, none⟩ = some (.int .i64 cc) ∧ w4.cell? ⟨π, 3, none⟩ = some (.bool pb) := ⟨T3.cell hS.1 id, T3.cell hS.2.1 id, T3.cell hS.2.2.1 id, T3.cell hS.2.2.2 id⟩
        refine hK _ _ (.inr hS) ?_
        clear hK T3 hb
        refine take_f 10 7 rfl rfl (by kernel_rfl) (by kernel_rfl) (by kernel_rfl) (by kernel_rfl) hQP hS (.inl ⟨by kernel_rfl, fun w' hw' => by obtain ⟨e0, e1, e2, e3⟩ := hw'; go_simp; try with_reducible rfl⟩) ?_
        refine take_f 11 18 rfl rfl (by kernel_rfl) (by kernel_rfl) (by kernel_rfl) (by kernel_rfl) hQP hS (.inl ⟨by kernel_rfl, fun w' hw' => by obtain ⟨e0, e1, e2, e3⟩ := hw'; go_simp; try with_reducible rfl⟩) ?_
        refine take_f 12 19 rfl rfl (by kernel_rfl) (by kernel_rfl) (by kernel_rfl) (by kernel_rfl) hQP hS (.inl ⟨by kernel_rfl, fun w' hw' => by obtain ⟨e0, e1, e2, e3⟩ := hw'; go_simp; try with_reducible rfl⟩) ?_
        have hπn : ¬ π = nb := by have := HNB.out; have := HPL.out; omega
        try simp only [List.setIfInBounds_toArray, List.set_cons_succ, List.set_cons_zero]
        have TR := turn_setRow w4 nb (curA zr zc zb)
        have hSn : (w4.setRow nb (curA zr zc zb)).cell? ⟨π, 0, none⟩ = some (ptr γ) ∧ (w4.setRow nb (curA zr zc zb)).cell? ⟨π, 1, none⟩ = some (.int .i64 r) ∧ (w4.setRow nb (curA zr zc zb)).cell? ⟨π, 2, none⟩ = some (.int .i64 cc) ∧ (w4.setRow nb (curA zr zc zb)).cell? ⟨π, 3, none⟩ = some (.bool pb) := ⟨TR.cell hS.1 hπn, TR.cell hS.2.1 hπn, TR.cell hS.2.2.1 hπn, TR.cell hS.2.2.2 hπn⟩
        refine take_store_row 14 (by kernel_rfl) rfl rfl rfl 36 (.tmp 2) (.tmp 18) rfl nb (curA zr zc zb) (by rfl) (by rfl) 36 (curA 0 0 false) HN4.out (size_cur _ _ _) rfl (one_cur _ _ _) (.inr hSn) ?_
        have HF := Lib.hid (And.intro (setRow_heap w4 nb _ (curA zr zc zb) 36 (0, 0) HN4.out) (And.intro HNB.out (HB4.out.trans (TR.below HB4.out.size (fun j e => by rw [e]; exact HNB.out)))))
        have hS := hSn
        clear hSn TR
        generalize (w4.setRow nb (curA zr zc zb)) = w9 at *
        refine take_f 15 3 rfl rfl (by kernel_rfl) (by kernel_rfl) (by kernel_rfl) (by kernel_rfl) hQP hS (.inl ⟨by kernel_rfl, fun w' hw' => by obtain ⟨e0, e1, e2, e3⟩ := hw'; go_simp; try with_reducible rfl⟩) ?_
        refine take_done (by kernel_rfl) ?_ _
        try simp only [List.setIfInBounds_toArray, List.set_cons_succ, List.set_cons_zero]
        go_wp2_with fail
        go_meet
        exact ⟨nb, rfl, rfl, HF⟩
    · go_wp2_with fail
      have TA : Turn (fun _ => False) w2 (w2.alloc (.cells (curA 0 0 false) 36)) := Turn.alloc _ _ _
      have HN3 : Hid ((w2.alloc (.cells (curA 0 0 false) 36)).heap[w2.heap.size]? = some (.cells (curA 0 0 false) 36 (0, 0))) := Lib.hid (heap_alloc_new w2 _)
      have HB3 : Hid (Below w1.heap.size w1 (w2.alloc (.cells (curA 0 0 false) 36))) := Lib.hid (HB2.out.alloc HB2.out.size _)
      have hS : (w2.alloc (.cells (curA 0 0 false) 36)).cell? ⟨π, 0, none⟩ = some (ptr γ) ∧ (w2.alloc (.cells (curA 0 0 false) 36)).cell? ⟨π, 1, none⟩ = some (.int .i64 r) ∧ (w2.alloc (.cells (curA 0 0 false) 36)).cell? ⟨π, 2, none⟩ = some (.int .i64 cc) ∧ (w2.alloc (.cells (curA 0 0 false) 36)).cell? ⟨π, 3, none⟩ = some (.bool pb) := ⟨TA.cell hS.1 id, TA.cell hS.2.1 id, TA.cell hS.2.2.1 id, TA.cell hS.2.2.2 id⟩
      refine hK _ _ (.inr hS) ?_
      clear hK TA
      have HNB : Hid (w1.heap.size ≤ w2.heap.size) := Lib.hid HB2.out.size
      generalize hnb : w2.heap.size = nb at *
      generalize (w2.alloc (.cells (curA 0 0 false) 36)) = w3 at *
      try simp only [List.setIfInBounds_toArray, List.set_cons_succ, List.set_cons_zero]
      refine take_g (i := 8) (by kernel_rfl) rfl (by kernel_rfl) fun KQ hK => ?_
      go_wp2_with fail
      refine (HHI.out _ HB3.out).mono ?_
      rintro e wx ⟨rfl, rfl⟩
      refine hK _ _ (.inr hS) ?_
      clear hK
      try simp only [List.setIfInBounds_toArray, List.set_cons_succ, List.set_cons_zero]
      refine take_g (i := 9) (by kernel_rfl) rfl (by kernel_rfl) fun KQ hK => ?_
      go_wp2_with fail
      refine (HDN.out _).mono ?_
      rintro e w4 ⟨rfl, hb⟩
      have HB4 := Lib.hid (HB3.out.trans (hb.mono HB3.out.size))
      have T3 : Turn (fun _ => False) w3 w4 := Turn.of_new hb
      have HN4 := Lib.hid (T3.heap HN3.out id)
      have hS : w4.cell? ⟨π, 0, none⟩ = some (ptr γ) ∧ w4.cell? ⟨π, 1, none⟩ = some (.int .i64 r) ∧ w4.cell? ⟨π, 2, none⟩ = some (.int .i64 cc) ∧ w4.cell? ⟨π, 3, none⟩ = some (.bool pb) := ⟨T3.cell hS.1 id, T3.cell hS.2.1 id, T3.cell hS.2.2.1 id, T3.cell hS.2.2.2 id⟩
      refine hK _ _ (.inr hS) ?_
      clear hK T3 hb
      refine take_f 10 7 rfl rfl (by kernel_rfl) (by kernel_rfl) (by kernel_rfl) (by kernel_rfl) hQP hS (.inl ⟨by kernel_rfl, fun w' hw' => by obtain ⟨e0, e1, e2, e3⟩ := hw'; go_simp; try with_reducible rfl⟩) ?_
      refine take_f 11 18 rfl rfl (by kernel_rfl) (by kernel_rfl) (by kernel_rfl) (by kernel_rfl) hQP hS (.inl ⟨by kernel_rfl, fun w' hw' => by obtain ⟨e0, e1, e2, e3⟩ := hw'; go_simp; try with_reducible rfl⟩) ?_
      refine take_f 12 19 rfl rfl (by kernel_rfl) (by kernel_rfl) (by kernel_rfl) (by kernel_rfl) hQP hS (.inl ⟨by kernel_rfl, fun w' hw' => by obtain ⟨e0, e1, e2, e3⟩ := hw'; go_simp; try with_reducible rfl⟩) ?_
      have hπn : ¬ π = nb := by have := HNB.out; have := HPL.out; omega
      try simp only [List.setIfInBounds_toArray, List.set_cons_succ, List.set_cons_zero]
      have TR := turn_setRow w4 nb (curA zr zc zb)
      have hSn : (w4.setRow nb (curA zr zc zb)).cell? ⟨π, 0, none⟩ = some (ptr γ) ∧ (w4.setRow nb (curA zr zc zb)).cell? ⟨π, 1, none⟩ = some (.int .i64 r) ∧ (w4.setRow nb (curA zr zc zb)).cell? ⟨π, 2, none⟩ = some (.int .i64 cc) ∧ (w4.setRow nb (curA zr zc zb)).cell? ⟨π, 3, none⟩ = some (.bool pb) := ⟨TR.cell hS.1 hπn, TR.cell hS.2.1 hπn, TR.cell hS.2.2.1 hπn, TR.cell hS.2.2.2 hπn⟩
      refine take_store_row 14 (by kernel_rfl) rfl rfl rfl 36 (.tmp 2) (.tmp 18) rfl nb (curA zr zc zb) (by rfl) (by rfl) 36 (curA 0 0 false) HN4.out (size_cur _ _ _) rfl (one_cur _ _ _) (.inr hSn) ?_
      have HF := Lib.hid (And.intro (setRow_heap w4 nb _ (curA zr zc zb) 36 (0, 0) HN4.out) (And.intro HNB.out (HB4.out.trans (TR.below HB4.out.size (fun j e => by rw [e]; exact HNB.out)))))
      have hS := hSn
      clear hSn TR
      generalize (w4.setRow nb (curA zr zc zb)) = w9 at *
      refine take_f 15 3 rfl rfl (by kernel_rfl) (by kernel_rfl) (by kernel_rfl) (by kernel_rfl) hQP hS (.inl ⟨by kernel_rfl, fun w' hw' => by obtain ⟨e0, e1, e2, e3⟩ := hw'; go_simp; try with_reducible rfl⟩) ?_
      refine take_done (by kernel_rfl) ?_ _
      try simp only [List.setIfInBounds_toArray, List.set_cons_succ, List.set_cons_zero]
      go_wp2_with fail
      go_meet
      exact ⟨nb, rfl, rfl, HF⟩
  case rest =>
    obtain ⟨nb, rfl, rfl, HC⟩ := hcut
    have hpc := HP1.out.below HC.out.2.2
    obtain ⟨x0, x1, x2, x3, _, y⟩ := hpc.cells
    have y1 := y 1
    have y2 := y 2
    have y3 := y 3
    obtain ⟨n0, n1, n2⟩ := cells3 HC.out.1
    have HF : Hid (PenIs (curW wc π zr zc zb) X π γ β Q { q1 with at_ := ⟨zr, zc, zb⟩ } W ∧ Turn X w (curW wc π zr zc zb)) := Lib.hid ⟨hpc.cur zr zc zb, ((HT1.out.mono (fun b _ e => by rw [e]; exact HXπ.out)).trans ((Turn.of_new HC.out.2.2 : Turn (fun _ => False) w1 wc).mono (fun _ _ h => h.elim))).trans ((curW_turn wc π zr zc zb).mono (fun b _ e => by rw [e]; exact HXπ.out))⟩
    clear y
    go_upto_region 3 with fail
    have hw : ((wc.setCell ⟨π, 1, none⟩ (.int .i64 zr)).setCell ⟨π, 2, none⟩ (.int .i64 zc)).setCell ⟨π, 3, none⟩ (.bool zb) = curW wc π zr zc zb := rfl
    first | rw [hw] | skip
    clear hw x0 x1 x2 x3 y1 y2 y3 n0 n1 n2 hpc
    generalize curW wc π zr zc zb = w5 at *
    cases end_ with
    | false =>
      have HR : Hid (PenTo w X π (newLineP p W) W w5) := Lib.hid ⟨X, ⟨γ, β, Q, by rw [HNL.out]; exact HF.out.1⟩, fun b hb => .inl hb, HF.out.2⟩
      go_wp2_with fail
      go_end0
      exact ⟨rfl, HR.out⟩
    | true =>
      have HUP5 := Lib.hid (HUP.out w5 HF.out.1)
      obtain ⟨c0, _⟩ := HF.out.1.cells
      have HHI5 : Hid (Calls Tryz.prog 37 #[ptr γ] w5.drew fun e w' => e = .returned (.int .i64 (Hn : Int)) ∧ w5.drew = w') := Lib.hid (by
        have := high_any γ β _ w5.drew (HF.out.1.below ((Below.refl _ _).drew)).grid
        rw [List.length_map, HQL.out, ← HHN.out] at this
        exact this)
      have HUP6 := Lib.hid (HUP.out w5.drew (HF.out.1.below ((Below.refl _ _).drew)))
      go_upto_region 4 with fail
      refine region_begin3 (fun w' => w'.cell? ⟨π, 0, none⟩ = some (ptr γ)) (fun _ => false) 10 rfl hmx (by intro _ _ d _ _ h; cases d <;> exact h) fun hQP => ?_
      have hS : w5.drew.cell? ⟨π, 0, none⟩ = some (ptr γ) := c0
      have HF6 : Hid (Turn X w w5.drew) := Lib.hid (HF.out.2.trans (Turn.drew _ _))
      clear c0 HUP5
      generalize w5.drew = w6 at *
      refine take_f 0 25 rfl rfl (by kernel_rfl) (by kernel_rfl) (by kernel_rfl) (by kernel_rfl) hQP hS (.inl ⟨by kernel_rfl, fun w' hw' => by go_simp; try with_reducible rfl⟩) ?_
      refine take_f 1 26 rfl rfl (by kernel_rfl) (by kernel_rfl) (by kernel_rfl) (by kernel_rfl) hQP hS (.inl ⟨by kernel_rfl, fun w' hw' => by go_simp; try with_reducible rfl⟩) ?_
      refine take_f 2 27 rfl rfl (by kernel_rfl) (by kernel_rfl) (by kernel_rfl) (by kernel_rfl) hQP hS (.inl ⟨by kernel_rfl, fun w' hw' => by go_simp; try with_reducible rfl⟩) ?_
      refine take_f 3 28 rfl rfl (by kernel_rfl) (by kernel_rfl) (by kernel_rfl) (by kernel_rfl) hQP hS (.inl ⟨by kernel_rfl, fun w' hw' => by go_simp; try with_reducible rfl⟩) ?_
      refine take_f 4 29 rfl rfl (by kernel_rfl) (by kernel_rfl) (by kernel_rfl) (by kernel_rfl) hQP hS (.inl ⟨by kernel_rfl, fun w' hw' => by go_simp; try with_reducible rfl⟩) ?_
      refine take_f 5 30 rfl rfl (by kernel_rfl) (by kernel_rfl) (by kernel_rfl) (by kernel_rfl) hQP hS (.inl ⟨by kernel_rfl, fun w' hw' => by go_simp; try with_reducible rfl⟩) ?_
      refine take_f 6 31 rfl rfl (by kernel_rfl) (by kernel_rfl) (by kernel_rfl) (by kernel_rfl) hQP hS (.inl ⟨by kernel_rfl, fun w' hw' => by go_simp; try with_reducible rfl⟩) ?_
      refine take_f 7 32 rfl rfl (by kernel_rfl) (by kernel_rfl) (by kernel_rfl) (by kernel_rfl) hQP hS (.inl ⟨by kernel_rfl, fun w' hw' => by go_simp; try with_reducible rfl⟩) ?_
      try simp only [List.setIfInBounds_toArray, List.set_cons_succ, List.set_cons_zero]
      refine take_g (i := 8) (by kernel_rfl) rfl (by kernel_rfl) fun KQ hK => ?_
      go_wp2_with fail
      refine HHI5.out.mono ?_
      rintro e wx ⟨rfl, rfl⟩
      refine hK _ _ (.inr hS) ?_
      clear hK HHI5
      refine take_g (i := 9) (by kernel_rfl) rfl (by kernel_rfl) fun KQ hK => ?_
      go_wp2_with fail
      refine HUP6.out.mono ?_
      rintro e w7 ⟨rfl, hto, hS⟩
      have HR : Hid (PenTo w X π (newLineP p W) W w7) := Lib.hid (by
        obtain ⟨X', h1, h2, h3⟩ := hto
        exact ⟨X', by rw [HNL.out]; exact h1, fun b hb => (h2 b hb).imp id (fun e => Nat.le_trans HF6.out.size e), HF6.out.trans h3⟩)
      refine hK _ _ (.inr hS) ?_
      clear hK hto HUP6
      refine take_done (by kernel_rfl) ?_ _
      go_wp2_with fail
      go_end0
      exact ⟨rfl, HR.out⟩
end Go.Proofs.YtjicdcmdgbcdcaaGreatDoor.Scr
end
section
namespace Go.Proofs.YtjicdcmdgbcdcaaGreatDoor.Scr
set_option linter.unusedSimpArgs false
set_option linter.unusedVariables false
open Go Go.RowKit Mem Turn Ring

/-- the row goes on in the next one -/
def goOnP (p : PenC) (W : Nat) : PenC := newLineP { p with rows := p.rows.set p.at_.row.toNat ((p.rows.getD p.at_.row.toNat ([], false)).1, true), at_ := returnC p.at_ } W

/-- one row of the pen's turned by its own call -/
theorem PenIs.row {w w' : World} {X : Nat → Prop} {π γ β W i : Nat} {Q : List (Nat × Nat)} {p : PenC} {q : Nat × Nat} {l' : LineC} (h : PenIs w X π γ β Q p W) (hq : Q[i]? = some q) (hr : RowAt w' q.1 q.2 l') (hl : l'.1.length = W) (ht : Turn (fun b => b = q.1 ∨ b = q.2) w w') : PenIs w' X π γ β Q { p with rows := p.rows.set i l' } W ∧ Turn X w w' := by
  obtain ⟨l, _, g1, _, g3, g4⟩ := h.rows.line hq
  have hn : ∀ b, Typ w 92 b ∨ Typ w 137 b ∨ Typ w 128 b → ¬ (b = q.1 ∨ b = q.2) := by
    rintro b hb (e | e)
    · subst e
      rcases hb with hb | hb | hb
      · exact hb.not (by decide) g1.typ
      · exact hb.not (by decide) g1.typ
      · exact hb.not (by decide) g1.typ
    · subst e
      rcases hb with hb | hb | hb
      · exact hb.not (by decide) g1.cells.typ
      · exact hb.not (by decide) g1.cells.typ
      · exact hb.not (by decide) g1.cells.typ
  exact ⟨⟨ht.heap h.hdr (hn _ (.inl h.typ)), h.grid.turn ht (hn _ (.inr (.inl h.grid.typ1))) (hn _ (.inr (.inr h.grid.typ2))), h.rows.set hq hr hl ht, h.xπ, h.xγ, h.xβ, h.w1, h.w2⟩, ht.mono (fun b _ e => e.elim (fun e => by rw [e]; exact g3) (fun e => by rw [e]; exact g4))⟩

set_option maxRecDepth 100000 in
set_option maxHeartbeats 8000000 in
theorem pgoOn_any (X : Nat → Prop) (π W k : Nat) (p : PenC) (w : World) (h : PenAt w X π p W) (hk : p.at_.row = (k : Int)) (hkl : k < p.rows.length) :
    Calls Tryz.prog 233 #[ptr π] w fun e w' => e = .returned (.tuple #[]) ∧ PenTo w X π (goOnP p W) W w' := by
  have hmx : Tryz.prog.follows .mixedOrders = true := by kernel_rfl
  obtain ⟨γ, β, Q, hp⟩ := h
  obtain ⟨q, hq⟩ : ∃ q, Q[k]? = some q := ⟨_, List.getElem?_eq_getElem (by rw [hp.rows.len]; exact hkl)⟩
  obtain ⟨l, hl, g1, g2, _, _⟩ := hp.rows.line hq
  have hpd := hp.below (Below.refl w.heap.size w).drew
  have HRI := Lib.hid (row_in γ β k q.1 _ w.drew hpd.grid (by rw [List.getElem?_map, hq]; rfl))
  have g1d : RowAt w.drew q.1 q.2 l := g1.turn (Turn.drew (fun _ => False) w) (Free.no _ _) id id
  have HGO := Lib.hid (goOn_any q.1 q.2 l true w.drew g1d)
  have HPO : Hid (∀ w', RowAt w' q.1 q.2 (l.1, true) → Turn (fun j => j = q.1) w.drew w' → PenIs w' X π γ β Q { p with rows := p.rows.set k (l.1, true) } W ∧ Turn X w w') := Lib.hid fun w' hr ht => by
    obtain ⟨a, b⟩ := hpd.row hq hr g2 (ht.mono (fun _ _ e => .inl e))
    exact ⟨a, (Turn.drew X w).trans b⟩
  have HG : Hid (goOnP p W = newLineP { p with rows := p.rows.set k (l.1, true), at_ := returnC p.at_ } W) := Lib.hid (by
    unfold goOnP
    rw [hk, Int.toNat_natCast, List.getD_eq_getElem?_getD, hl]
    rfl)
  have HRT : Hid (∀ W', Calls Tryz.prog 127 #[.agg #[.int .i64 p.at_.row, .int .i64 p.at_.col, .bool p.at_.pend]] W' fun e w' => e = .returned (curV (returnC p.at_)) ∧ Below W'.heap.size W' w') := Lib.hid fun W' => return_any _ _ _ W'
  have HXπ := Lib.hid hp.xπ
  have HNL : Hid (∀ w' p', PenIs w' X π γ β Q p' W → Calls Tryz.prog 165 #[ptr π] w' fun e w2 => e = .returned (.tuple #[]) ∧ PenTo w' X π (newLineP p' W) W w2) := Lib.hid fun w' p' hp' => newLine_any X π W p' w' ⟨γ, β, Q, hp'⟩
  obtain ⟨c0, c1, _, _, _, _⟩ := hp.cells
  obtain ⟨rt, hrt⟩ : ∃ rt, rt = returnC p.at_ := ⟨_, rfl⟩
  rw [← hrt] at HRT HG
  obtain ⟨zr, zc, zb⟩ := rt
  obtain ⟨pl, hpl⟩ : ∃ pl, pl = p.rows.set k (l.1, true) := ⟨_, rfl⟩
  rw [← hpl] at HPO HG
  have HK := Lib.hid hk
  rw [hk] at c1
  have hπq : ¬ π = q.1 := hp.typ.ne g1.typ (by decide)
  have HQN := Lib.hid hπq
  clear hp hq hl g1 g2 hpd g1d hrt hpl hk hπq
  go_enter Tryz.func233, Tryz.ntmps233
  go_upto_region 0 with fail
  refine region_begin3 (fun w' => w'.cell? ⟨π, 0, none⟩ = some (ptr γ) ∧ w'.cell? ⟨π, 1, none⟩ = some (.int .i64 (k : Int))) (fun _ => false) 11 rfl hmx (by intro _ _ d _ _ h; cases d <;> exact h) fun hQP => ?_
  have hS : w.drew.cell? ⟨π, 0, none⟩ = some (ptr γ) ∧ w.drew.cell? ⟨π, 1, none⟩ = some (.int .i64 (k : Int)) := ⟨c0, c1⟩
  clear c0 c1
  generalize w.drew = w1 at *
  refine take_f 0 2 rfl rfl (by kernel_rfl) (by kernel_rfl) (by kernel_rfl) (by kernel_rfl) hQP hS (.inl ⟨by kernel_rfl, fun w' hw' => by obtain ⟨e0, e1⟩ := hw'; go_simp; try with_reducible rfl⟩) ?_
  refine take_f 1 3 rfl rfl (by kernel_rfl) (by kernel_rfl) (by kernel_rfl) (by kernel_rfl) hQP hS (.inl ⟨by kernel_rfl, fun w' hw' => by obtain ⟨e0, e1⟩ := hw'; go_simp; try with_reducible rfl⟩) ?_
  refine take_f 2 4 rfl rfl (by kernel_rfl) (by kernel_rfl) (by kernel_rfl) (by kernel_rfl) hQP hS (.inl ⟨by kernel_rfl, fun w' hw' => by obtain ⟨e0, e1⟩ := hw'; go_simp; try with_reducible rfl⟩) ?_
  refine take_f 3 5 rfl rfl (by kernel_rfl) (by kernel_rfl) (by kernel_rfl) (by kernel_rfl) hQP hS (.inl ⟨by kernel_rfl, fun w' hw' => by obtain ⟨e0, e1⟩ := hw'; go_simp; try with_reducible rfl⟩) ?_
  refine take_f 4 6 rfl rfl (by kernel_rfl) (by kernel_rfl) (by kernel_rfl) (by kernel_rfl) hQP hS (.inl ⟨by kernel_rfl, fun w' hw' => by obtain ⟨e0, e1⟩ := hw'; go_simp; try with_reducible rfl⟩) ?_
  refine take_f 5 7 rfl rfl (by kernel_rfl) (by kernel_rfl) (by kernel_rfl) (by kernel_rfl) hQP hS (.inl ⟨by kernel_rfl, fun w' hw' => by obtain ⟨e0, e1⟩ := hw'; go_simp; try with_reducible rfl⟩) ?_
  refine take_f 6 8 rfl rfl (by kernel_rfl) (by kernel_rfl) (by kernel_rfl) (by kernel_rfl) hQP hS (.inl ⟨by kernel_rfl, fun w' hw' => by obtain ⟨e0, e1⟩ := hw'; go_simp; try with_reducible rfl⟩) ?_
  refine take_f 7 9 rfl rfl (by kernel_rfl) (by kernel_rfl) (by kernel_rfl) (by kernel_rfl) hQP hS (.inl ⟨by kernel_rfl, fun w' hw' => by obtain ⟨e0, e1⟩ := hw'; go_simp; try with_reducible rfl⟩) ?_
  refine take_f 8 10 rfl rfl (by kernel_rfl) (by kernel_rfl) (by kernel_rfl) (by kernel_rfl) hQP hS (.inl ⟨by kernel_rfl, fun w' hw' => by obtain ⟨e0, e1⟩ := hw'; go_simp; try with_reducible rfl⟩) ?_
  try simp only [List.setIfInBounds_toArray, List.set_cons_succ, List.set_cons_zero]
  refine take_g (i := 9) (by kernel_rfl) rfl (by kernel_rfl) fun KQ hK => ?_
  go_wp2_with fail
  refine HRI.out.mono ?_
  rintro e wx ⟨rfl, rfl⟩
  refine hK _ _ (.inr hS) ?_
  clear hK HRI
  refine take_g (i := 10) (by kernel_rfl) rfl (by kernel_rfl) fun KQ hK => ?_
  go_wp2_with fail
  refine HGO.out.mono ?_
  rintro e w2 ⟨rfl, hr2, ht2⟩
  have HP2 := Lib.hid (HPO.out w2 hr2 ht2)
  have hS : w2.cell? ⟨π, 0, none⟩ = some (ptr γ) ∧ w2.cell? ⟨π, 1, none⟩ = some (.int .i64 (k : Int)) := ⟨ht2.cell hS.1 HQN.out, ht2.cell hS.2 HQN.out⟩
  refine hK _ _ (.inr hS) ?_
  clear hK hr2 ht2 HGO HPO hS
  refine take_done (by kernel_rfl) ?_ _
  try simp only [List.setIfInBounds_toArray, List.set_cons_succ, List.set_cons_zero]
  obtain ⟨c0, c1, c2, c3, _, _⟩ := HP2.out.1.cells
  go_wp2_with fail
  refine (HRT.out _).mono ?_
  rintro e w3 ⟨rfl, hb3⟩
  have hp3 := HP2.out.1.below hb3
  obtain ⟨x0, x1, x2, x3, _, y⟩ := hp3.cells
  have y1 := y 1
  have y2 := y 2
  have y3 := y 3
  have HP4 := Lib.hid (hp3.cur zr zc zb)
  have HT4 : Hid (Turn X w (curW w3 π zr zc zb)) := Lib.hid ((HP2.out.2.trans ((Turn.of_new hb3 : Turn (fun _ => False) w2 w3).mono (fun _ _ h => h.elim))).trans ((curW_turn w3 π zr zc zb).mono (fun b _ e => by rw [e]; exact HXπ.out)))
  have HN4 := Lib.hid (HNL.out _ _ (hp3.cur zr zc zb))
  clear hb3 hp3 y c0 c1 c2 c3 HRT HNL
  go_upto_region 2 with fail
  have hw : ((w3.setCell ⟨π, 1, none⟩ (.int .i64 zr)).setCell ⟨π, 2, none⟩ (.int .i64 zc)).setCell ⟨π, 3, none⟩ (.bool zb) = curW w3 π zr zc zb := rfl
  first | rw [hw] | skip
  clear hw x0 x1 x2 x3 y1 y2 y3
  generalize curW w3 π zr zc zb = w4 at *
  go_wp2_with fail
  refine HN4.out.mono ?_
  rintro e w5 ⟨rfl, hto⟩
  have HR : Hid (PenTo w X π (goOnP p W) W w5) := Lib.hid (by
    obtain ⟨X', h1, h2, h3⟩ := hto
    exact ⟨X', by rw [HG.out]; exact h1, fun b hb => (h2 b hb).imp id (fun e => Nat.le_trans HT4.out.size e), HT4.out.trans h3⟩)
  clear hto HN4
  go_wp2_with fail
  go_end0
  exact ⟨rfl, HR.out⟩
end Go.Proofs.YtjicdcmdgbcdcaaGreatDoor.Scr
end

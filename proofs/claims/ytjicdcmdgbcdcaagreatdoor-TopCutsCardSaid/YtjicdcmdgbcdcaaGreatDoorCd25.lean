/-
  ctrl.Do (its drawn region printed by gen_ctl.py).
-/
import Derived.Test.YtjicdcmdgbcdcaaGreatDoorCd17
import Derived.Test.YtjicdcmdgbcdcaaGreatDoorCd24

section
namespace Go.Proofs.YtjicdcmdgbcdcaaGreatDoor.Scr
set_option linter.unusedSimpArgs false
set_option linter.unusedVariables false
open Go Go.RowKit Mem Turn Ring

set_option maxRecDepth 100000 in
set_option maxHeartbeats 16000000 in
theorem ctrl_any (X : Nat → Prop) (π W : Nat) (p : PenC) (r : Int) (w : World) (h : PenAt w X π p W) (hok : PenOK p W) (hs : Basew.silentB r = true) :
    Calls Tryz.prog 114 #[ptr π, .int .i32 r] w fun e w' => RetB e ∧ PenTo w X π (ctrlP p r W) W w' := by
  have hmx : Tryz.prog.follows .mixedOrders = true := by kernel_rfl
  have HSI := Lib.hid (Basew.silent_any r w)
  rw [hs] at HSI
  have HNL := Lib.hid (fun w1 (h1 : PenAt w1 X π p W) => newLine_any X π W p w1 h1)
  have HCP := Lib.hid (show ctrlP p r W = if r = 13 then { p with at_ := returnC p.at_ } else if r = 10 then newLineP p W else if r = 8 then { p with at_ := backC p.at_ } else p from rfl)
  obtain ⟨r0', r1', k0', k1', _⟩ := hok.rng
  have hw2 := hok.w2
  have hheld := hok.held
  obtain ⟨γ, β, Q, hp1⟩ := h
  have HP1 := Lib.hid hp1
  have HPL : Hid (π < w.heap.size) := Lib.hid hp1.typ.lt
  obtain ⟨c0, c1, c2, c3, _, _⟩ := hp1.cells
  have hlen : (Q.map (·.1)).length = p.rows.length := by rw [List.length_map, hp1.rows.len]
  have HWD : Hid (∀ W', Below w.heap.size w W' → Calls Tryz.prog 36 #[ptr γ] W' fun e w' => e = .returned (.int .i64 (W : Int)) ∧ W' = w') := Lib.hid fun W' hb => gwide_any γ β W _ W' (hp1.below hb).grid (hp1.below hb).rows.all
  have HHI : Hid (∀ W', Below w.heap.size w W' → Calls Tryz.prog 37 #[ptr γ] W' fun e w' => e = .returned (.int .i64 (p.rows.length : Int)) ∧ W' = w') := Lib.hid fun W' hb => by
    have := high_any γ β _ W' (hp1.below hb).grid
    rw [hlen] at this
    exact this
  have HHO : Hid (∀ W', Calls Tryz.prog 39 #[.agg #[.int .i64 p.at_.row, .int .i64 p.at_.col, .bool p.at_.pend], .int .i64 (W : Int), .int .i64 (p.rows.length : Int)] W' fun e w' => e = .returned (curV p.at_) ∧ Below W'.heap.size W' w') := Lib.hid fun W' => by
    have := hold_any p.at_.row p.at_.col p.at_.pend W p.rows.length W'
    rw [show hold ⟨p.at_.row, p.at_.col, p.at_.pend⟩ (W : Int) (p.rows.length : Int) = p.at_ from hheld.symm] at this
    exact this
  have HRET : Hid (∀ W', Calls Tryz.prog 127 #[.agg #[.int .i64 p.at_.row, .int .i64 p.at_.col, .bool p.at_.pend]] W' fun e w' => e = .returned (curV (returnC p.at_)) ∧ Below W'.heap.size W' w') := Lib.hid fun W' => return_any _ _ _ W'
  have HBK : Hid (∀ W', Calls Tryz.prog 166 #[.agg #[.int .i64 p.at_.row, .int .i64 p.at_.col, .bool p.at_.pend]] W' fun e w' => e = .returned (curV (backC p.at_)) ∧ Below W'.heap.size W' w') := Lib.hid fun W' => back_any _ _ _ W' (by omega) (by omega)
  have HSET : Hid (∀ (w' : World) (a : Cur), PenIs w' X π γ β Q p W → PenIs (curW w' π a.row a.col a.pend) X π γ β Q { p with at_ := a } W) := Lib.hid fun w' a hp => hp.cur a.row a.col a.pend
  obtain ⟨za, hza⟩ : ∃ z, z = returnC p.at_ := ⟨_, rfl⟩
  rw [← hza] at HRET HCP
  obtain ⟨zk, hzk⟩ : ∃ z, z = backC p.at_ := ⟨_, rfl⟩
  rw [← hzk] at HBK HCP
  clear hza hzk
  generalize ctrlP p r W = cp at *
  generalize hat : p.at_ = at0 at *
  obtain ⟨r0, cc, pb⟩ := at0
  simp only at c1 c2 c3 HHO HRET HBK
  generalize hrl : p.rows.length = Hn at *
  clear hp1 hlen hheld hok hs r0' r1' k0' k1' hw2 hat hrl
  go_enter Tryz.func114, Tryz.ntmps114
  go_wp2_with fail
  refine HSI.out.mono ?_
  rintro e w1 ⟨rfl, rfl⟩
  go_upto_region 5 with fail
  have HB0 : Hid (Below w.heap.size w w) := Lib.hid (Below.refl _ _)
  go_cut [5] (fun s5 wx => ∃ nb : Nat, s5 = ptr nb ∧ Hid (wx.heap[nb]? = some (.cells (curA r0 cc pb) 36 (0, 0)) ∧ w.heap.size ≤ nb ∧ Below w.heap.size w wx))
  case first =>
    refine region_begin3 (fun w' => w'.cell? ⟨π, 0, none⟩ = some (ptr γ) ∧ w'.cell? ⟨π, 1, none⟩ = some (.int .i64 r0) ∧ w'.cell? ⟨π, 2, none⟩ = some (.int .i64 cc) ∧ w'.cell? ⟨π, 3, none⟩ = some (.bool pb)) (fun j => j == 16) 17 rfl hmx (by intro _ _ d _ _ h; cases d <;> exact h) fun hQP => ?_
    have hS : w.drew.cell? ⟨π, 0, none⟩ = some (ptr γ) ∧ w.drew.cell? ⟨π, 1, none⟩ = some (.int .i64 r0) ∧ w.drew.cell? ⟨π, 2, none⟩ = some (.int .i64 cc) ∧ w.drew.cell? ⟨π, 3, none⟩ = some (.bool pb) := ⟨c0, c1, c2, c3⟩
    have HB2 : Hid (Below w.heap.size w w.drew) := Lib.hid ((Below.refl _ _).drew)
    clear c0 c1 c2 c3
    generalize w.drew = w2 at *
    refine take_f 0 18 rfl rfl (by kernel_rfl) (by kernel_rfl) (by kernel_rfl) (by kernel_rfl) hQP hS (.inl ⟨by kernel_rfl, fun w' hw' => by obtain ⟨e0, e1, e2, e3⟩ := hw'; go_simp; try with_reducible rfl⟩) ?_
    refine take_f 1 19 rfl rfl (by kernel_rfl) (by kernel_rfl) (by kernel_rfl) (by kernel_rfl) hQP hS (.inl ⟨by kernel_rfl, fun w' hw' => by obtain ⟨e0, e1, e2, e3⟩ := hw'; go_simp; try with_reducible rfl⟩) ?_
    refine take_f 2 20 rfl rfl (by kernel_rfl) (by kernel_rfl) (by kernel_rfl) (by kernel_rfl) hQP hS (.inl ⟨by kernel_rfl, fun w' hw' => by obtain ⟨e0, e1, e2, e3⟩ := hw'; go_simp; try with_reducible rfl⟩) ?_
    refine take_f 3 21 rfl rfl (by kernel_rfl) (by kernel_rfl) (by kernel_rfl) (by kernel_rfl) hQP hS (.inl ⟨by kernel_rfl, fun w' hw' => by obtain ⟨e0, e1, e2, e3⟩ := hw'; go_simp; try with_reducible rfl⟩) ?_
    refine take_f 4 22 rfl rfl (by kernel_rfl) (by kernel_rfl) (by kernel_rfl) (by kernel_rfl) hQP hS (.inl ⟨by kernel_rfl, fun w' hw' => by obtain ⟨e0, e1, e2, e3⟩ := hw'; go_simp; try with_reducible rfl⟩) ?_
    refine take_f 5 23 rfl rfl (by kernel_rfl) (by kernel_rfl) (by kernel_rfl) (by kernel_rfl) hQP hS (.inl ⟨by kernel_rfl, fun w' hw' => by obtain ⟨e0, e1, e2, e3⟩ := hw'; go_simp; try with_reducible rfl⟩) ?_
    refine take_f 6 24 rfl rfl (by kernel_rfl) (by kernel_rfl) (by kernel_rfl) (by kernel_rfl) hQP hS (.inl ⟨by kernel_rfl, fun w' hw' => by obtain ⟨e0, e1, e2, e3⟩ := hw'; go_simp; try with_reducible rfl⟩) ?_
    refine take_f 7 25 rfl rfl (by kernel_rfl) (by kernel_rfl) (by kernel_rfl) (by kernel_rfl) hQP hS (.inl ⟨by kernel_rfl, fun w' hw' => by obtain ⟨e0, e1, e2, e3⟩ := hw'; go_simp; try with_reducible rfl⟩) ?_
    refine take_f 9 27 rfl rfl (by kernel_rfl) (by kernel_rfl) (by kernel_rfl) (by kernel_rfl) hQP hS (.inl ⟨by kernel_rfl, fun w' hw' => by obtain ⟨e0, e1, e2, e3⟩ := hw'; go_simp; try with_reducible rfl⟩) ?_
    refine take_f 10 28 rfl rfl (by kernel_rfl) (by kernel_rfl) (by kernel_rfl) (by kernel_rfl) hQP hS (.inl ⟨by kernel_rfl, fun w' hw' => by obtain ⟨e0, e1, e2, e3⟩ := hw'; go_simp; try with_reducible rfl⟩) ?_
    refine take_f 11 29 rfl rfl (by kernel_rfl) (by kernel_rfl) (by kernel_rfl) (by kernel_rfl) hQP hS (.inl ⟨by kernel_rfl, fun w' hw' => by obtain ⟨e0, e1, e2, e3⟩ := hw'; go_simp; try with_reducible rfl⟩) ?_
    refine take_f 12 30 rfl rfl (by kernel_rfl) (by kernel_rfl) (by kernel_rfl) (by kernel_rfl) hQP hS (.inl ⟨by kernel_rfl, fun w' hw' => by obtain ⟨e0, e1, e2, e3⟩ := hw'; go_simp; try with_reducible rfl⟩) ?_
    try simp only [List.setIfInBounds_toArray, List.set_cons_succ, List.set_cons_zero]
    refine take_2 (i := 8) (j := 15) (by kernel_rfl) rfl rfl (by kernel_rfl) (by kernel_rfl) (fun KQ hK => ?_) (fun KQ hK => ?_)
    · go_wp2_with fail
      refine (HWD.out _ HB2.out).mono ?_
      rintro e wx ⟨rfl, rfl⟩
      refine hK _ _ (.inr hS) ?_
      clear hK
      try simp only [List.setIfInBounds_toArray, List.set_cons_succ, List.set_cons_zero]
      refine take_2 (i := 13) (j := 15) (by kernel_rfl) rfl rfl (by kernel_rfl) (by kernel_rfl) (fun KQ hK => ?_) (fun KQ hK => ?_)
      · go_wp2_with fail
        refine (HHI.out _ HB2.out).mono ?_
        rintro e wx ⟨rfl, rfl⟩
        refine hK _ _ (.inr hS) ?_
        clear hK
        try simp only [List.setIfInBounds_toArray, List.set_cons_succ, List.set_cons_zero]
        refine take_2 (i := 14) (j := 15) (by kernel_rfl) rfl rfl (by kernel_rfl) (by kernel_rfl) (fun KQ hK => ?_) (fun KQ hK => ?_)
        · go_wp2_with fail
          refine (HHO.out _).mono ?_
          rintro e w3 ⟨rfl, hb⟩
          have HB3 := Lib.hid (HB2.out.trans (hb.mono HB2.out.size))
          have T3 : Turn (fun _ => False) w2 w3 := Turn.of_new hb
          have hS : w3.cell? ⟨π, 0, none⟩ = some (ptr γ) ∧ w3.cell? ⟨π, 1, none⟩ = some (.int .i64 r0) ∧ w3.cell? ⟨π, 2, none⟩ = some (.int .i64 cc) ∧ w3.cell? ⟨π, 3, none⟩ = some (.bool pb) := ⟨T3.cell hS.1 id, T3.cell hS.2.1 id, T3.cell hS.2.2.1 id, T3.cell hS.2.2.2 id⟩
          refine hK _ _ (.inr hS) ?_
          clear hK T3 hb
          try simp only [List.setIfInBounds_toArray, List.set_cons_succ, List.set_cons_zero]
          refine take_g (i := 15) (by kernel_rfl) rfl (by kernel_rfl) fun KQ hK => ?_
          go_wp2_with fail
          have TA : Turn (fun _ => False) w3 (w3.alloc (.cells (curA 0 0 false) 36)) := Turn.alloc _ _ _
          have HN4 : Hid ((w3.alloc (.cells (curA 0 0 false) 36)).heap[w3.heap.size]? = some (.cells (curA 0 0 false) 36 (0, 0))) := Lib.hid (heap_alloc_new w3 _)
          have HB4 : Hid (Below w.heap.size w (w3.alloc (.cells (curA 0 0 false) 36))) := Lib.hid (HB3.out.alloc HB3.out.size _)
          have hS : (w3.alloc (.cells (curA 0 0 false) 36)).cell? ⟨π, 0, none⟩ = some (ptr γ) ∧ (w3.alloc (.cells (curA 0 0 false) 36)).cell? ⟨π, 1, none⟩ = some (.int .i64 r0) ∧ (w3.alloc (.cells (curA 0 0 false) 36)).cell? ⟨π, 2, none⟩ = some (.int .i64 cc) ∧ (w3.alloc (.cells (curA 0 0 false) 36)).cell? ⟨π, 3, none⟩ = some (.bool pb) := ⟨TA.cell hS.1 id, TA.cell hS.2.1 id, TA.cell hS.2.2.1 id, TA.cell hS.2.2.2 id⟩
          refine hK _ _ (.inr hS) ?_
          clear hK TA
          have HNB : Hid (w.heap.size ≤ w3.heap.size) := Lib.hid HB3.out.size
          generalize hnb : w3.heap.size = nb at *
          generalize (w3.alloc (.cells (curA 0 0 false) 36)) = w4 at *
          try simp only [List.setIfInBounds_toArray, List.set_cons_succ, List.set_cons_zero]
          have hπn : ¬ π = nb := by have := HNB.out; have := HPL.out; omega
          have TR := turn_setRow w4 nb (curA r0 cc pb)
          have HF := Lib.hid (And.intro (setRow_heap w4 nb _ (curA r0 cc pb) 36 (0, 0) HN4.out) (And.intro HNB.out (HB4.out.trans (TR.below HB4.out.size (fun j e => by rw [e]; exact HNB.out)))))
          refine take_store_row 16 (by kernel_rfl) rfl rfl rfl 36 (.tmp 5) (.tmp 32) rfl nb (curA r0 cc pb) (by rfl) (by rfl) 36 (curA 0 0 false) HN4.out (size_cur _ _ _) rfl (one_cur _ _ _) (.inl rfl) ?_
          clear TR hS
          generalize (w4.setRow nb (curA r0 cc pb)) = w9 at *
          refine take_done (by kernel_rfl) ?_ _
          try simp only [List.setIfInBounds_toArray, List.set_cons_succ, List.set_cons_zero]
          go_wp2_with fail
          go_meet
          exact ⟨nb, rfl, HF⟩
        · go_wp2_with fail
          have TA : Turn (fun _ => False) w2 (w2.alloc (.cells (curA 0 0 false) 36)) := Turn.alloc _ _ _
          have HN5 : Hid ((w2.alloc (.cells (curA 0 0 false) 36)).heap[w2.heap.size]? = some (.cells (curA 0 0 false) 36 (0, 0))) := Lib.hid (heap_alloc_new w2 _)
          have HB5 : Hid (Below w.heap.size w (w2.alloc (.cells (curA 0 0 false) 36))) := Lib.hid (HB2.out.alloc HB2.out.size _)
          have hS : (w2.alloc (.cells (curA 0 0 false) 36)).cell? ⟨π, 0, none⟩ = some (ptr γ) ∧ (w2.alloc (.cells (curA 0 0 false) 36)).cell? ⟨π, 1, none⟩ = some (.int .i64 r0) ∧ (w2.alloc (.cells (curA 0 0 false) 36)).cell? ⟨π, 2, none⟩ = some (.int .i64 cc) ∧ (w2.alloc (.cells (curA 0 0 false) 36)).cell? ⟨π, 3, none⟩ = some (.bool pb) := ⟨TA.cell hS.1 id, TA.cell hS.2.1 id, TA.cell hS.2.2.1 id, TA.cell hS.2.2.2 id⟩
          refine hK _ _ (.inr hS) ?_
          clear hK TA
          have HNB : Hid (w.heap.size ≤ w2.heap.size) := Lib.hid HB2.out.size
          generalize hnb : w2.heap.size = nb at *
          generalize (w2.alloc (.cells (curA 0 0 false) 36)) = w5 at *
          try simp only [List.setIfInBounds_toArray, List.set_cons_succ, List.set_cons_zero]
          refine take_g (i := 14) (by kernel_rfl) rfl (by kernel_rfl) fun KQ hK => ?_
          go_wp2_with fail
          refine (HHO.out _).mono ?_
          rintro e w6 ⟨rfl, hb⟩
          have HB6 := Lib.hid (HB5.out.trans (hb.mono HB5.out.size))
          have T3 : Turn (fun _ => False) w5 w6 := Turn.of_new hb
          have HN6 := Lib.hid (T3.heap HN5.out id)
          have hS : w6.cell? ⟨π, 0, none⟩ = some (ptr γ) ∧ w6.cell? ⟨π, 1, none⟩ = some (.int .i64 r0) ∧ w6.cell? ⟨π, 2, none⟩ = some (.int .i64 cc) ∧ w6.cell? ⟨π, 3, none⟩ = some (.bool pb) := ⟨T3.cell hS.1 id, T3.cell hS.2.1 id, T3.cell hS.2.2.1 id, T3.cell hS.2.2.2 id⟩
          refine hK _ _ (.inr hS) ?_
          clear hK T3 hb
          try simp only [List.setIfInBounds_toArray, List.set_cons_succ, List.set_cons_zero]
          have hπn : ¬ π = nb := by have := HNB.out; have := HPL.out; omega
          have TR := turn_setRow w6 nb (curA r0 cc pb)
          have HF := Lib.hid (And.intro (setRow_heap w6 nb _ (curA r0 cc pb) 36 (0, 0) HN6.out) (And.intro HNB.out (HB6.out.trans (TR.below HB6.out.size (fun j e => by rw [e]; exact HNB.out)))))
          refine take_store_row 16 (by kernel_rfl) rfl rfl rfl 36 (.tmp 5) (.tmp 32) rfl nb (curA r0 cc pb) (by rfl) (by rfl) 36 (curA 0 0 false) HN6.out (size_cur _ _ _) rfl (one_cur _ _ _) (.inl rfl) ?_
          clear TR hS
          generalize (w6.setRow nb (curA r0 cc pb)) = w9 at *
          refine take_done (by kernel_rfl) ?_ _
          try simp only [List.setIfInBounds_toArray, List.set_cons_succ, List.set_cons_zero]
          go_wp2_with fail
          go_meet
          exact ⟨nb, rfl, HF⟩
      · go_wp2_with fail
        have TA : Turn (fun _ => False) w2 (w2.alloc (.cells (curA 0 0 false) 36)) := Turn.alloc _ _ _
        have HN7 : Hid ((w2.alloc (.cells (curA 0 0 false) 36)).heap[w2.heap.size]? = some (.cells (curA 0 0 false) 36 (0, 0))) := Lib.hid (heap_alloc_new w2 _)
        have HB7 : Hid (Below w.heap.size w (w2.alloc (.cells (curA 0 0 false) 36))) := Lib.hid (HB2.out.alloc HB2.out.size _)
        have hS : (w2.alloc (.cells (curA 0 0 false) 36)).cell? ⟨π, 0, none⟩ = some (ptr γ) ∧ (w2.alloc (.cells (curA 0 0 false) 36)).cell? ⟨π, 1, none⟩ = some (.int .i64 r0) ∧ (w2.alloc (.cells (curA 0 0 false) 36)).cell? ⟨π, 2, none⟩ = some (.int .i64 cc) ∧ (w2.alloc (.cells (curA 0 0 false) 36)).cell? ⟨π, 3, none⟩ = some (.bool pb) := ⟨TA.cell hS.1 id, TA.cell hS.2.1 id, TA.cell hS.2.2.1 id, TA.cell hS.2.2.2 id⟩
        refine hK _ _ (.inr hS) ?_
        clear hK TA
        have HNB : Hid (w.heap.size ≤ w2.heap.size) := Lib.hid HB2.out.size
        generalize hnb : w2.heap.size = nb at *
        generalize (w2.alloc (.cells (curA 0 0 false) 36)) = w7 at *
        try simp only [List.setIfInBounds_toArray, List.set_cons_succ, List.set_cons_zero]
        refine take_g (i := 13) (by kernel_rfl) rfl (by kernel_rfl) fun KQ hK => ?_
        go_wp2_with fail
        refine (HHI.out _ HB7.out).mono ?_
        rintro e wx ⟨rfl, rfl⟩
        refine hK _ _ (.inr hS) ?_
        clear hK
        try simp only [List.setIfInBounds_toArray, List.set_cons_succ, List.set_cons_zero]
        refine take_g (i := 14) (by kernel_rfl) rfl (by kernel_rfl) fun KQ hK => ?_
        go_wp2_with fail
        refine (HHO.out _).mono ?_
        rintro e w8 ⟨rfl, hb⟩
        have HB8 := Lib.hid (HB7.out.trans (hb.mono HB7.out.size))
        have T3 : Turn (fun _ => False) w7 w8 := Turn.of_new hb
        have HN8 := Lib.hid (T3.heap HN7.out id)
        have hS : w8.cell? ⟨π, 0, none⟩ = some (ptr γ) ∧ w8.cell? ⟨π, 1, none⟩ = some (.int .i64 r0) ∧ w8.cell? ⟨π, 2, none⟩ = some (.int .i64 cc) ∧ w8.cell? ⟨π, 3, none⟩ = some (.bool pb) := ⟨T3.cell hS.1 id, T3.cell hS.2.1 id, T3.cell hS.2.2.1 id, T3.cell hS.2.2.2 id⟩
        refine hK _ _ (.inr hS) ?_
        clear hK T3 hb
        try simp only [List.setIfInBounds_toArray, List.set_cons_succ, List.set_cons_zero]
        have hπn : ¬ π = nb := by have := HNB.out; have := HPL.out; omega
        have TR := turn_setRow w8 nb (curA r0 cc pb)
        have HF := Lib.hid (And.intro (setRow_heap w8 nb _ (curA r0 cc pb) 36 (0, 0) HN8.out) (And.intro HNB.out (HB8.out.trans (TR.below HB8.out.size (fun j e => by rw [e]; exact HNB.out)))))
        refine take_store_row 16 (by kernel_rfl) rfl rfl rfl 36 (.tmp 5) (.tmp 32) rfl nb (curA r0 cc pb) (by rfl) (by rfl) 36 (curA 0 0 false) HN8.out (size_cur _ _ _) rfl (one_cur _ _ _) (.inl rfl) ?_
        clear TR hS
        generalize (w8.setRow nb (curA r0 cc pb)) = w9 at *
        refine take_done (by kernel_rfl) ?_ _
        try simp only [List.setIfInBounds_toArray, List.set_cons_succ, List.set_cons_zero]
        go_wp2_with fail
        go_meet
        exact ⟨nb, rfl, HF⟩
    · go_wp2_with fail
      have TA : Turn (fun _ => False) w2 (w2.alloc (.cells (curA 0 0 false) 36)) := Turn.alloc _ _ _
      have HN9 : Hid ((w2.alloc (.cells (curA 0 0 false) 36)).heap[w2.heap.size]? = some (.cells (curA 0 0 false) 36 (0, 0))) := Lib.hid (heap_alloc_new w2 _)
      have HB9 : Hid (Below w.heap.size w (w2.alloc (.cells (curA 0 0 false) 36))) := Lib.hid (HB2.out.alloc HB2.out.size _)
      have hS : (w2.alloc (.cells (curA 0 0 false) 36)).cell? ⟨π, 0, none⟩ = some (ptr γ) ∧ (w2.alloc (.cells (curA 0 0 false) 36)).cell? ⟨π, 1, none⟩ = some (.int .i64 r0) ∧ (w2.alloc (.cells (curA 0 0 false) 36)).cell? ⟨π, 2, none⟩ = some (.int .i64 cc) ∧ (w2.alloc (.cells (curA 0 0 false) 36)).cell? ⟨π, 3, none⟩ = some (.bool pb) := ⟨TA.cell hS.1 id, TA.cell hS.2.1 id, TA.cell hS.2.2.1 id, TA.cell hS.2.2.2 id⟩
      refine hK _ _ (.inr hS) ?_
      clear hK TA
      have HNB : Hid (w.heap.size ≤ w2.heap.size) := Lib.hid HB2.out.size
      generalize hnb : w2.heap.size = nb at *
      generalize (w2.alloc (.cells (curA 0 0 false) 36)) = w9 at *
      try simp only [List.setIfInBounds_toArray, List.set_cons_succ, List.set_cons_zero]
      refine take_g (i := 8) (by kernel_rfl) rfl (by kernel_rfl) fun KQ hK => ?_
      go_wp2_with fail
      refine (HWD.out _ HB9.out).mono ?_
      rintro e wx ⟨rfl, rfl⟩
      refine hK _ _ (.inr hS) ?_
      clear hK
      try simp only [List.setIfInBounds_toArray, List.set_cons_succ, List.set_cons_zero]
      refine take_g (i := 13) (by kernel_rfl) rfl (by kernel_rfl) fun KQ hK => ?_
      go_wp2_with fail
      refine (HHI.out _ HB9.out).mono ?_
      rintro e wx ⟨rfl, rfl⟩
      refine hK _ _ (.inr hS) ?_
      clear hK
      try simp only [List.setIfInBounds_toArray, List.set_cons_succ, List.set_cons_zero]
      refine take_g (i := 14) (by kernel_rfl) rfl (by kernel_rfl) fun KQ hK => ?_
      go_wp2_with fail
      refine (HHO.out _).mono ?_
      rintro e w10 ⟨rfl, hb⟩
      have HB10 := Lib.hid (HB9.out.trans (hb.mono HB9.out.size))
      have T3 : Turn (fun _ => False) w9 w10 := Turn.of_new hb
      have HN10 := Lib.hid (T3.heap HN9.out id)
      have hS : w10.cell? ⟨π, 0, none⟩ = some (ptr γ) ∧ w10.cell? ⟨π, 1, none⟩ = some (.int .i64 r0) ∧ w10.cell? ⟨π, 2, none⟩ = some (.int .i64 cc) ∧ w10.cell? ⟨π, 3, none⟩ = some (.bool pb) := ⟨T3.cell hS.1 id, T3.cell hS.2.1 id, T3.cell hS.2.2.1 id, T3.cell hS.2.2.2 id⟩
      refine hK _ _ (.inr hS) ?_
      clear hK T3 hb
      try simp only [List.setIfInBounds_toArray, List.set_cons_succ, List.set_cons_zero]
      have hπn : ¬ π = nb := by have := HNB.out; have := HPL.out; omega
      have TR := turn_setRow w10 nb (curA r0 cc pb)
      have HF := Lib.hid (And.intro (setRow_heap w10 nb _ (curA r0 cc pb) 36 (0, 0) HN10.out) (And.intro HNB.out (HB10.out.trans (TR.below HB10.out.size (fun j e => by rw [e]; exact HNB.out)))))
      refine take_store_row 16 (by kernel_rfl) rfl rfl rfl 36 (.tmp 5) (.tmp 32) rfl nb (curA r0 cc pb) (by rfl) (by rfl) 36 (curA 0 0 false) HN10.out (size_cur _ _ _) rfl (one_cur _ _ _) (.inl rfl) ?_
      clear TR hS
      generalize (w10.setRow nb (curA r0 cc pb)) = w9 at *
      refine take_done (by kernel_rfl) ?_ _
      try simp only [List.setIfInBounds_toArray, List.set_cons_succ, List.set_cons_zero]
      go_wp2_with fail
      go_meet
      exact ⟨nb, rfl, HF⟩
  case rest =>
    obtain ⟨nb, rfl, HC⟩ := hcut
    have hpc := HP1.out.below HC.out.2.2
    have HN := Lib.hid HC.out.1
    have HBC := Lib.hid HC.out.2.2
    have HPC := Lib.hid hpc
    have HTO : Hid (∀ w' a, Below wc.heap.size wc w' → (cp = { p with at_ := a }) → PenTo w X π cp W (curW w' π a.row a.col a.pend)) := Lib.hid fun w' a hb e => by
      have hp2 := HPC.out.below hb
      rw [e]
      refine ⟨X, ⟨γ, β, Q, HSET.out w' a hp2⟩, fun b hb => .inl hb, ?_⟩
      exact ((Turn.of_new HBC.out : Turn (fun _ => False) w wc).mono (fun _ _ h => h.elim)).trans (((Turn.of_new hb : Turn (fun _ => False) wc w').mono (fun _ _ h => h.elim)).trans ((curW_turn _ _ _ _ _).mono (fun b _ e => by rw [e]; exact hp2.xπ)))
    have HCL : Hid (∀ w', Below wc.heap.size wc w' → (∃ v, w'.cell? ⟨π, 1, none⟩ = some v) ∧ (∃ v, w'.cell? ⟨π, 2, none⟩ = some v) ∧ (∃ v, w'.cell? ⟨π, 3, none⟩ = some v) ∧ ∀ j, w'.frozen? ⟨π, j, none⟩ = false) := Lib.hid fun w' hb => by
      obtain ⟨_, a1, a2, a3, _, a5⟩ := (HPC.out.below hb).cells
      exact ⟨⟨_, a1⟩, ⟨_, a2⟩, ⟨_, a3⟩, a5⟩
    clear hpc HC c0 c1 c2 c3 HWD HHI HHO HSI HB0
    by_cases h13 : r = 13
    · subst h13
      have he := HCP.out.trans (if_pos rfl)
      obtain ⟨zr, zc, zb⟩ := za
      have HE := Lib.hid he
      clear he
      go_wp2_with (refine wpList_load_row rfl 36 _ rfl nb rfl _ (curA r0 cc pb) (0, 0) _ HN.out Tryz.underlying36 rfl (size_cur _ _ _) ?_)
      refine (HRET.out _).mono ?_
      rintro e w2 ⟨rfl, hb2⟩
      have HF := Lib.hid (HTO.out w2 _ hb2 HE.out)
      obtain ⟨⟨_, a1⟩, ⟨_, a2⟩, ⟨_, a3⟩, a5⟩ := HCL.out w2 hb2
      have f1 := a5 1
      have f2 := a5 2
      have f3 := a5 3
      simp only at HF
      clear a5 hb2
      go_upto_region 13 with fail
      have hw : ((w2.setCell ⟨π, 1, none⟩ (.int .i64 zr)).setCell ⟨π, 2, none⟩ (.int .i64 zc)).setCell ⟨π, 3, none⟩ (.bool zb) = curW w2 π zr zc zb := rfl
      first | rw [hw] | skip
      clear hw a1 a2 a3 f1 f2 f3
      generalize curW w2 π zr zc zb = w3 at *
      go_wp2_with fail
      go_ret
      exact ⟨⟨_, rfl⟩, HF.out⟩
    · have z13 : (r == 13) = false := by simpa using h13
      have HCP2 := Lib.hid (HCP.out.trans (if_neg h13))
      by_cases h10 : r = 10
      · subst h10
        have HE := Lib.hid (HCP2.out.trans (if_pos rfl))
        clear h13
        go_wp2_with fail
        refine (HNL.out wc ⟨γ, β, Q, HPC.out⟩).mono ?_
        rintro e w2 ⟨rfl, hto⟩
        have HF : Hid (PenTo w X π cp W w2) := Lib.hid (by rw [HE.out]; exact PenTo.pre HBC.out hto)
        clear hto
        go_wp2_with fail
        go_ret
        exact ⟨⟨_, rfl⟩, HF.out⟩
      · have z10 : (r == 10) = false := by simpa using h10
        have HCP3 := Lib.hid (HCP2.out.trans (if_neg h10))
        by_cases h8 : r = 8
        · subst h8
          have he := HCP3.out.trans (if_pos rfl)
          obtain ⟨zr, zc, zb⟩ := zk
          have HE := Lib.hid he
          clear he h13 h10
          go_wp2_with (refine wpList_load_row rfl 36 _ rfl nb rfl _ (curA r0 cc pb) (0, 0) _ HN.out Tryz.underlying36 rfl (size_cur _ _ _) ?_)
          refine (HBK.out _).mono ?_
          rintro e w2 ⟨rfl, hb2⟩
          have HF := Lib.hid (HTO.out w2 _ hb2 HE.out)
          obtain ⟨⟨_, a1⟩, ⟨_, a2⟩, ⟨_, a3⟩, a5⟩ := HCL.out w2 hb2
          have f1 := a5 1
          have f2 := a5 2
          have f3 := a5 3
          simp only at HF
          clear a5 hb2
          go_upto_region 13 with fail
          have hw : ((w2.setCell ⟨π, 1, none⟩ (.int .i64 zr)).setCell ⟨π, 2, none⟩ (.int .i64 zc)).setCell ⟨π, 3, none⟩ (.bool zb) = curW w2 π zr zc zb := rfl
          first | rw [hw] | skip
          clear hw a1 a2 a3 f1 f2 f3
          generalize curW w2 π zr zc zb = w3 at *
          go_wp2_with fail
          go_ret
          exact ⟨⟨_, rfl⟩, HF.out⟩
        · have z8 : (r == 8) = false := by simpa using h8
          have HE := Lib.hid (HCP3.out.trans (if_neg h8))
          have HF : Hid (PenTo w X π cp W wc) := Lib.hid (by rw [HE.out]; exact ⟨X, ⟨γ, β, Q, HPC.out⟩, fun b hb => .inl hb, (Turn.of_new HBC.out : Turn (fun _ => False) w wc).mono (fun _ _ h => h.elim)⟩)
          clear h13 h10 h8
          go_wp2_with fail
          go_ret
          exact ⟨⟨_, rfl⟩, HF.out⟩
end Go.Proofs.YtjicdcmdgbcdcaaGreatDoor.Scr
end

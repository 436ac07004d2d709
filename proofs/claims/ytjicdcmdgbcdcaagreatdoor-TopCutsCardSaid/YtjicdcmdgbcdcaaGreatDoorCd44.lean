/-
  size.Resize (printed by gen_size.py).
-/
import Derived.Test.YtjicdcmdgbcdcaaGreatDoorCd23
import Derived.Test.YtjicdcmdgbcdcaaGreatDoorCd43

section
namespace Go.Proofs.YtjicdcmdgbcdcaaGreatDoor.Scr
set_option linter.unusedSimpArgs false
set_option linter.unusedVariables false
open Go Go.RowKit Mem Turn Ring

theorem fill_gen {α : Type _} (S : List α) (z x : α) (h i : Nat) (hS : S.length = h) (hi : i < h) (hx : S[i]? = some x) : (S.take i ++ List.replicate (h - i) z).set i x = S.take (i + 1) ++ List.replicate (h - (i + 1)) z := by
  have e1 : (S.take i).length = i := by rw [List.length_take]; omega
  rw [List.set_append_right _ _ (by rw [e1]; exact Nat.le_refl _), e1, Nat.sub_self, show h - i = (h - (i + 1)) + 1 from by omega, List.replicate_succ, List.set_cons_zero, List.take_add_one, hx, List.append_assoc]
  rfl
theorem fill_same {α : Type _} (S : List α) (z : α) (h i : Nat) (hS : S.length = h) (hi : i < h) (hx : S[i]? = some z) : S.take i ++ List.replicate (h - i) z = S.take (i + 1) ++ List.replicate (h - (i + 1)) z := by
  rw [List.take_add_one, hx, List.append_assoc, show h - i = (h - (i + 1)) + 1 from by omega, List.replicate_succ]
  rfl
theorem sizeL_get (L : List LineC) (top w h i : Nat) (hi : i < h) : (sizeL L top w h)[i]? = some (if top + i < L.length then (fitC (L.getD (top + i) ([], false)).1 w, false) else (blanks w, false)) := by
  unfold sizeL
  rw [List.getElem?_map, List.getElem?_range hi]
  rfl
/-- another row in a row's place -/
theorem RowsAt.put {w : World} {X : Nat → Prop} {Q : List (Nat × Nat)} {Ls : List LineC} {W i : Nat} {q : Nat × Nat} {l' : LineC} (h : RowsAt w X Q Ls W) (hr : RowAt w q.1 q.2 l') (hl : l'.1.length = W) (h1 : X q.1) (h2 : X q.2) (hd : ∀ p ∈ Q, p.1 ≠ q.1 ∧ p.2 ≠ q.2) : RowsAt w X (Q.set i q) (Ls.set i l') W := by
  refine ⟨by simp [h.len], fun j p x hp hx => ?_, fun j k p p' hp hp' hne => ?_⟩
  · by_cases hj : i = j
    · subst hj
      have hlt := (List.getElem?_eq_some_iff.1 hp).1
      have hlt' := (List.getElem?_eq_some_iff.1 hx).1
      rw [List.length_set] at hlt hlt'
      rw [List.getElem?_set_self hlt] at hp
      rw [List.getElem?_set_self hlt'] at hx
      injection hp with hp
      injection hx with hx
      subst hp hx
      exact ⟨hr, hl, h1, h2⟩
    · rw [List.getElem?_set_ne hj] at hp hx
      exact h.row j p x hp hx
  · by_cases hj : i = j
    · subst hj
      have hlt := (List.getElem?_eq_some_iff.1 hp).1
      rw [List.length_set] at hlt
      rw [List.getElem?_set_self hlt] at hp
      rw [List.getElem?_set_ne hne] at hp'
      injection hp with hp
      subst hp
      obtain ⟨a, b⟩ := hd p' (List.mem_of_getElem? hp')
      exact ⟨fun e => a e.symm, fun e => b e.symm⟩
    · rw [List.getElem?_set_ne hj] at hp
      by_cases hk : i = k
      · subst hk
        have hlt := (List.getElem?_eq_some_iff.1 hp').1
        rw [List.length_set] at hlt
        rw [List.getElem?_set_self hlt] at hp'
        injection hp' with hp'
        subst hp'
        exact hd p (List.mem_of_getElem? hp)
      · rw [List.getElem?_set_ne hk] at hp'
        exact h.dis j k p p' hp hp' hne

theorem PenIs.regrid {w : World} {X Y : Nat → Prop} {π γ β γ2 β2 : Nat} {Q Q2 : List (Nat × Nat)} {p : PenC} {W W2 : Nat} {L2 : List LineC} (h : PenIs w X π γ β Q p W) (hg : GridAt w γ2 β2 (Q2.map (·.1))) (hr : RowsAt w Y Q2 L2 W2) (h1 : Y γ2) (h2 : Y β2) (h3 : 1 ≤ W2) (h4 : W2 ≤ 1024) :
    PenIs (w.setCell ⟨π, 0, none⟩ (ptr γ2)) (fun b => X b ∨ Y b) π γ2 β2 Q2 { p with rows := L2 } W2 := by
  have T : Turn (fun j => j = π) w (w.setCell ⟨π, 0, none⟩ (ptr γ2)) := Turn.setCell _ _ rfl
  refine ⟨?_, hg.turn T (hg.typ1.ne h.typ (by decide)) (hg.typ2.ne h.typ (by decide)), (hr.turn T (fun x e _ => by subst e; exact h.typ.not (by decide)) (fun q hq => ?_)).mono (fun b hb _ => .inr hb), .inl h.xπ, .inr h1, .inr h2, h3, h4⟩
  · have h0 := h.hdr
    have h1 := heap_set1 (cs := [ptr γ, .int .i64 p.at_.row, .int .i64 p.at_.col, .bool p.at_.pend, .bool p.auto]) h0 0 (ptr γ2)
    simpa using h1
  · obtain ⟨i, hi⟩ := List.getElem?_of_mem hq
    obtain ⟨l, _, g1, _⟩ := hr.line hi
    exact ⟨g1.typ.ne h.typ (by decide), g1.cells.typ.ne h.typ (by decide)⟩
/-- the new grid behind k rows -/
def SizeInv (B γ : Nat) (L : List LineC) (top w h k : Nat) (W : World) : Prop :=
  ∃ β Q, GridAt W γ β (Q.map (·.1)) ∧ RowsAt W (fun b => B ≤ b) Q ((sizeL L top w h).take k ++ List.replicate (h - k) (blanks w, false)) w ∧ B ≤ β

set_option maxRecDepth 100000 in
set_option maxHeartbeats 16000000 in
theorem size_is (X : Nat → Prop) (π γ β W : Nat) (Q : List (Nat × Nat)) (p : PenC) (wd ht : Int) (w : World) (h : PenIs w X π γ β Q p W) (hok : PenOK p W) :
    Calls Tryz.prog 33 #[ptr π, .int .i64 wd, .int .i64 ht] w fun e w' => e = .returned (.tuple #[]) ∧ PenTo w X π (sizeP p wd ht) (sizeW wd) w' := by
  have hmx : Tryz.prog.follows .mixedOrders = true := by kernel_rfl
  obtain ⟨r0', r1', k0', k1', _⟩ := hok.rng
  have hl1 := hok.h1
  have hl2 := hok.h2
  have hw2 := hok.w2
  have hheld := hok.held
  have hp1 := h
  have HP1 := Lib.hid hp1
  have HOK := Lib.hid hok
  have HPL : Hid (π < w.heap.size) := Lib.hid hp1.typ.lt
  obtain ⟨c0, c1, c2, c3, _, _⟩ := hp1.cells
  have hlen : (Q.map (·.1)).length = p.rows.length := by rw [List.length_map, hp1.rows.len]
  have HWD : Hid (∀ W', Below w.heap.size w W' → Calls Tryz.prog 36 #[ptr γ] W' fun e w' => e = .returned (.int .i64 (W : Int)) ∧ W' = w') := Lib.hid fun W' hb => gwide_any γ β W _ W' (hp1.below hb).grid (hp1.below hb).rows.all
  have HHI : Hid (∀ W', Below w.heap.size w W' → Calls Tryz.prog 37 #[ptr γ] W' fun e w' => e = .returned (.int .i64 (p.rows.length : Int)) ∧ W' = w') := Lib.hid fun W' hb => by
    have := high_any γ β _ W' (hp1.below hb).grid
    rw [hlen] at this
    exact this
  have HHO : Hid (∀ W', Calls Tryz.prog 39 #[.agg #[.int .i64 p.at_.row, .int .i64 p.at_.col, .bool p.at_.pend], .int .i64 (W : Int), .int .i64 (p.rows.length : Int)] W' fun e w' => e = .returned (curV p.at_) ∧ Below W'.heap.size W' w') := Lib.hid fun W' => by
    have := hold_any p.at_.row p.at_.col p.at_.pend W p.rows.length W'
    rw [show hold ⟨p.at_.row, p.at_.col, p.at_.pend⟩ (W : Int) (p.rows.length : Int) = p.at_ from hheld.symm] at this
    exact this
  -- the new size
  obtain ⟨W2, hW2⟩ : ∃ W2, W2 = sizeW wd := ⟨_, rfl⟩
  obtain ⟨H2, hH2⟩ : ∃ H2, H2 = sizeW ht := ⟨_, rfl⟩
  have hW2r := sizeW_rng wd
  have hH2r := sizeW_rng ht
  rw [← hW2] at hW2r
  rw [← hH2] at hH2r
  have hmW : max 1 (min wd 1024) = (W2 : Int) := by rw [hW2]; unfold sizeW; omega
  have hmH : max 1 (min ht 1024) = (H2 : Int) := by rw [hH2]; unfold sizeW; omega
  obtain ⟨top, htop⟩ : ∃ top, top = topOf p ht := ⟨_, rfl⟩
  have htp : max 0 (p.at_.row - (H2 : Int) + 1) = (top : Int) := by rw [htop, hH2]; unfold topOf; omega
  have htr : (top : Int) ≤ p.at_.row ∨ top = 0 := by omega
  have hw1 : IntKind.i64.wrap (p.at_.row - (H2 : Int)) = p.at_.row - (H2 : Int) := by rw [IntKind.wrap_i64]; omega
  have hw3 : IntKind.i64.wrap (p.at_.row - (H2 : Int) + 1) = p.at_.row - (H2 : Int) + 1 := by rw [IntKind.wrap_i64]; omega
  have hw4 : IntKind.i64.wrap (p.at_.row - (top : Int)) = p.at_.row - (top : Int) := by rw [IntKind.wrap_i64]; omega
  have htopb : top ≤ 1024 := by omega
  have HSP := Lib.hid (show sizeP p wd ht = { p with rows := sizeL p.rows top W2 H2, at_ := moveC (p.at_.row - top) p.at_.col W2 H2 } from by rw [htop, hW2, hH2]; rfl)
  have HMV : Hid (∀ W', Calls Tryz.prog 73 #[.int .i64 (p.at_.row - (top : Int)), .int .i64 p.at_.col, .int .i64 (W2 : Int), .int .i64 (H2 : Int)] W' fun e w' => e = .returned (curV (moveC (p.at_.row - top) p.at_.col W2 H2)) ∧ Below W'.heap.size W' w') := Lib.hid fun W' => move_any _ _ _ _ W'
  have HGN : Hid (∀ W', Calls Tryz.prog 65 #[.int .i64 (W2 : Int), .int .i64 (H2 : Int)] W' fun e w' => e = .returned (ptr W'.heap.size) ∧ GNew W' W'.heap.size W2 H2 w') := Lib.hid fun W' => by
    have := gnew_any (W2 : Int) (H2 : Int) W'
    rw [show sizeW (W2 : Int) = W2 from by unfold sizeW; omega, show sizeW (H2 : Int) = H2 from by unfold sizeW; omega] at this
    exact this
  rw [← hW2]
  replace hW2 := Lib.hid hW2
  replace hH2 := Lib.hid hH2
  replace htop := Lib.hid htop
  replace htp := Lib.hid htp
  replace hw1 := Lib.hid hw1
  replace hw3 := Lib.hid hw3
  replace hw4 := Lib.hid hw4
  generalize sizeP p wd ht = SP at *
  obtain ⟨zm, hzm⟩ : ∃ z, z = moveC (p.at_.row - top) p.at_.col W2 H2 := ⟨_, rfl⟩
  rw [← hzm] at HMV HSP
  clear hzm
  obtain ⟨mr, mc, mb⟩ := zm
  generalize hat : p.at_ = at0 at *
  obtain ⟨r0, cc, pb⟩ := at0
  simp only at c1 c2 c3 HHO HMV htp hw1 hw3 hw4 r0' r1' k0' k1'
  generalize hrl : p.rows.length = Hn at *
  replace hrl := Lib.hid hrl
  replace hat := Lib.hid hat
  clear hp1 hlen hheld hok h r0' r1' k0' k1' hw2 htr
  go_enter Tryz.func33, Tryz.ntmps33
  go_upto_region 2 with fail
  have HB0 : Hid (Below w.heap.size w w) := Lib.hid (Below.refl _ _)
  go_cut [6] (fun s5 wx => ∃ nb : Nat, s5 = ptr nb ∧ Hid (wx.heap[nb]? = some (.cells (curA r0 cc pb) 36 (0, 0)) ∧ w.heap.size ≤ nb ∧ Below w.heap.size w wx))
  case first =>
    refine region_begin3 (fun w' => w'.cell? ⟨π, 0, none⟩ = some (ptr γ) ∧ w'.cell? ⟨π, 1, none⟩ = some (.int .i64 r0) ∧ w'.cell? ⟨π, 2, none⟩ = some (.int .i64 cc) ∧ w'.cell? ⟨π, 3, none⟩ = some (.bool pb)) (fun j => j == 16) 17 rfl hmx (by intro _ _ d _ _ h; cases d <;> exact h) fun hQP => ?_
    have hS : w.drew.cell? ⟨π, 0, none⟩ = some (ptr γ) ∧ w.drew.cell? ⟨π, 1, none⟩ = some (.int .i64 r0) ∧ w.drew.cell? ⟨π, 2, none⟩ = some (.int .i64 cc) ∧ w.drew.cell? ⟨π, 3, none⟩ = some (.bool pb) := ⟨c0, c1, c2, c3⟩
    have HB2 : Hid (Below w.heap.size w w.drew) := Lib.hid ((Below.refl _ _).drew)
    clear c0 c1 c2 c3 HGN HMV HSP
    generalize w.drew = w2 at *
    refine take_f 0 26 rfl rfl (by kernel_rfl) (by kernel_rfl) (by kernel_rfl) (by kernel_rfl) hQP hS (.inl ⟨by kernel_rfl, fun w' hw' => by obtain ⟨e0, e1, e2, e3⟩ := hw'; go_simp; try with_reducible rfl⟩) ?_
    refine take_f 1 27 rfl rfl (by kernel_rfl) (by kernel_rfl) (by kernel_rfl) (by kernel_rfl) hQP hS (.inl ⟨by kernel_rfl, fun w' hw' => by obtain ⟨e0, e1, e2, e3⟩ := hw'; go_simp; try with_reducible rfl⟩) ?_
    refine take_f 2 28 rfl rfl (by kernel_rfl) (by kernel_rfl) (by kernel_rfl) (by kernel_rfl) hQP hS (.inl ⟨by kernel_rfl, fun w' hw' => by obtain ⟨e0, e1, e2, e3⟩ := hw'; go_simp; try with_reducible rfl⟩) ?_
    refine take_f 3 29 rfl rfl (by kernel_rfl) (by kernel_rfl) (by kernel_rfl) (by kernel_rfl) hQP hS (.inl ⟨by kernel_rfl, fun w' hw' => by obtain ⟨e0, e1, e2, e3⟩ := hw'; go_simp; try with_reducible rfl⟩) ?_
    refine take_f 4 30 rfl rfl (by kernel_rfl) (by kernel_rfl) (by kernel_rfl) (by kernel_rfl) hQP hS (.inl ⟨by kernel_rfl, fun w' hw' => by obtain ⟨e0, e1, e2, e3⟩ := hw'; go_simp; try with_reducible rfl⟩) ?_
    refine take_f 5 31 rfl rfl (by kernel_rfl) (by kernel_rfl) (by kernel_rfl) (by kernel_rfl) hQP hS (.inl ⟨by kernel_rfl, fun w' hw' => by obtain ⟨e0, e1, e2, e3⟩ := hw'; go_simp; try with_reducible rfl⟩) ?_
    refine take_f 6 32 rfl rfl (by kernel_rfl) (by kernel_rfl) (by kernel_rfl) (by kernel_rfl) hQP hS (.inl ⟨by kernel_rfl, fun w' hw' => by obtain ⟨e0, e1, e2, e3⟩ := hw'; go_simp; try with_reducible rfl⟩) ?_
    refine take_f 7 33 rfl rfl (by kernel_rfl) (by kernel_rfl) (by kernel_rfl) (by kernel_rfl) hQP hS (.inl ⟨by kernel_rfl, fun w' hw' => by obtain ⟨e0, e1, e2, e3⟩ := hw'; go_simp; try with_reducible rfl⟩) ?_
    refine take_f 9 35 rfl rfl (by kernel_rfl) (by kernel_rfl) (by kernel_rfl) (by kernel_rfl) hQP hS (.inl ⟨by kernel_rfl, fun w' hw' => by obtain ⟨e0, e1, e2, e3⟩ := hw'; go_simp; try with_reducible rfl⟩) ?_
    refine take_f 10 36 rfl rfl (by kernel_rfl) (by kernel_rfl) (by kernel_rfl) (by kernel_rfl) hQP hS (.inl ⟨by kernel_rfl, fun w' hw' => by obtain ⟨e0, e1, e2, e3⟩ := hw'; go_simp; try with_reducible rfl⟩) ?_
    refine take_f 11 37 rfl rfl (by kernel_rfl) (by kernel_rfl) (by kernel_rfl) (by kernel_rfl) hQP hS (.inl ⟨by kernel_rfl, fun w' hw' => by obtain ⟨e0, e1, e2, e3⟩ := hw'; go_simp; try with_reducible rfl⟩) ?_
    refine take_f 12 38 rfl rfl (by kernel_rfl) (by kernel_rfl) (by kernel_rfl) (by kernel_rfl) hQP hS (.inl ⟨by kernel_rfl, fun w' hw' => by obtain ⟨e0, e1, e2, e3⟩ := hw'; go_simp; try with_reducible rfl⟩) ?_
    try simp only [List.setIfInBounds_toArray, List.set_cons_succ, List.set_cons_zero]
    refine take_2 (i := 8) (j := 15) (by kernel_rfl) rfl rfl (by kernel_rfl) (by kernel_rfl) (fun KQ hK => ?_) (fun KQ hK => ?_)
    · go_wp2_with fail
      refine (HWD.out _ HB2.out).mono ?_
      rintro e wx ⟨rfl, rfl⟩
      refine hK _ _ (.inr hS) ?_
      clear hK
      try simp only [List.setIfInBounds_toArray, List.set_cons_succ, List.set_cons_zero]
      refine take_2 (i := 13) (j := 15) (by kernel_rfl) rfl rfl (by kernel_rfl) (by kernel_rfl) (fun KQ hK => ?_) (fun KQ hK => ?_)
      · go_wp2_with fail
        refine (HHI.out _ HB2.out).mono ?_
        rintro e wx ⟨rfl, rfl⟩
        refine hK _ _ (.inr hS) ?_
        clear hK
        try simp only [List.setIfInBounds_toArray, List.set_cons_succ, List.set_cons_zero]
        refine take_2 (i := 14) (j := 15) (by kernel_rfl) rfl rfl (by kernel_rfl) (by kernel_rfl) (fun KQ hK => ?_) (fun KQ hK => ?_)
        · go_wp2_with fail
          refine (HHO.out _).mono ?_
          rintro e w3 ⟨rfl, hb⟩
          have HB3 := Lib.hid (HB2.out.trans (hb.mono HB2.out.size))
          have T3 : Turn (fun _ => False) w2 w3 := Turn.of_new hb
          have hS : w3.cell? ⟨π, 0, none⟩ = some (ptr γ) ∧ w3.cell? ⟨π, 1, none⟩ = some (.int .i64 r0) ∧ w3.cell? ⟨π, 2, none⟩ = some (.int .i64 cc) ∧ w3.cell? ⟨π, 3, none⟩ = some (.bool pb) := ⟨T3.cell hS.1 id, T3.cell hS.2.1 id, T3.cell hS.2.2.1 id, T3.cell hS.2.2.2 id⟩
          refine hK _ _ (.inr hS) ?_
          clear hK T3 hb
          try simp only [List.setIfInBounds_toArray, List.set_cons_succ, List.set_cons_zero]
          refine take_g (i := 15) (by kernel_rfl) rfl (by kernel_rfl) fun KQ hK => ?_
          go_wp2_with fail
          have TA : Turn (fun _ => False) w3 (w3.alloc (.cells (curA 0 0 false) 36)) := Turn.alloc _ _ _
          have HN4 : Hid ((w3.alloc (.cells (curA 0 0 false) 36)).heap[w3.heap.size]? = some (.cells (curA 0 0 false) 36 (0, 0))) := Lib.hid (heap_alloc_new w3 _)
          have HB4 : Hid (Below w.heap.size w (w3.alloc (.cells (curA 0 0 false) 36))) := Lib.hid (HB3.out.alloc HB3.out.size _)
          have hS : (w3.alloc (.cells (curA 0 0 false) 36)).cell? ⟨π, 0, none⟩ = some (ptr γ) ∧ (w3.alloc (.cells (curA 0 0 false) 36)).cell? ⟨π, 1, none⟩ = some (.int .i64 r0) ∧ (w3.alloc (.cells (curA 0 0 false) 36)).cell? ⟨π, 2, none⟩ = some (.int .i64 cc) ∧ (w3.alloc (.cells (curA 0 0 false) 36)).cell? ⟨π, 3, none⟩ = some (.bool pb) := ⟨TA.cell hS.1 id, TA.cell hS.2.1 id, TA.cell hS.2.2.1 id, TA.cell hS.2.2.2 id⟩
          refine hK _ _ (.inr hS) ?_
          clear hK TA
          have HNB : Hid (w.heap.size ≤ w3.heap.size) := Lib.hid HB3.out.size
          generalize hnb : w3.heap.size = nb at *
          generalize (w3.alloc (.cells (curA 0 0 false) 36)) = w4 at *
          try simp only [List.setIfInBounds_toArray, List.set_cons_succ, List.set_cons_zero]
          have hπn : ¬ π = nb := by have := HNB.out; have := HPL.out; omega
          have TR := turn_setRow w4 nb (curA r0 cc pb)
          have HF := Lib.hid (And.intro (setRow_heap w4 nb _ (curA r0 cc pb) 36 (0, 0) HN4.out) (And.intro HNB.out (HB4.out.trans (TR.below HB4.out.size (fun j e => by rw [e]; exact HNB.out)))))
          refine take_store_row 16 (by kernel_rfl) rfl rfl rfl 36 (.tmp 6) (.tmp 40) rfl nb (curA r0 cc pb) (by rfl) (by rfl) 36 (curA 0 0 false) HN4.out (size_cur _ _ _) rfl (one_cur _ _ _) (.inl rfl) ?_
          clear TR hS
          generalize (w4.setRow nb (curA r0 cc pb)) = w9 at *
          refine take_done (by kernel_rfl) ?_ _
          try simp only [List.setIfInBounds_toArray, List.set_cons_succ, List.set_cons_zero]
          go_wp2_with fail
          go_meet
          exact ⟨nb, rfl, HF⟩
        · go_wp2_with fail
          have TA : Turn (fun _ => False) w2 (w2.alloc (.cells (curA 0 0 false) 36)) := Turn.alloc _ _ _
          have HN5 : Hid ((w2.alloc (.cells (curA 0 0 false) 36)).heap[w2.heap.size]? = some (.cells (curA 0 0 false) 36 (0, 0))) := Lib.hid (heap_alloc_new w2 _)
          have HB5 : Hid (Below w.heap.size w (w2.alloc (.cells (curA 0 0 false) 36))) := Lib.hid (HB2.out.alloc HB2.out.size _)
          have hS : (w2.alloc (.cells (curA 0 0 false) 36)).cell? ⟨π, 0, none⟩ = some (ptr γ) ∧ (w2.alloc (.cells (curA 0 0 false) 36)).cell? ⟨π, 1, none⟩ = some (.int .i64 r0) ∧ (w2.alloc (.cells (curA 0 0 false) 36)).cell? ⟨π, 2, none⟩ = some (.int .i64 cc) ∧ (w2.alloc (.cells (curA 0 0 false) 36)).cell? ⟨π, 3, none⟩ = some (.bool pb) := ⟨TA.cell hS.1 id, TA.cell hS.2.1 id, TA.cell hS.2.2.1 id, TA.cell hS.2.2.2 id⟩
          refine hK _ _ (.inr hS) ?_
          clear hK TA
          have HNB : Hid (w.heap.size ≤ w2.heap.size) := Lib.hid HB2.out.size
          generalize hnb : w2.heap.size = nb at *
          generalize (w2.alloc (.cells (curA 0 0 false) 36)) = w5 at *
          try simp only [List.setIfInBounds_toArray, List.set_cons_succ, List.set_cons_zero]
          refine take_g (i := 14) (by kernel_rfl) rfl (by kernel_rfl) fun KQ hK => ?_
          go_wp2_with fail
          refine (HHO.out _).mono ?_
          rintro e w6 ⟨rfl, hb⟩
          have HB6 := Lib.hid (HB5.out.trans (hb.mono HB5.out.size))
          have T3 : Turn (fun _ => False) w5 w6 := Turn.of_new hb
          have HN6 := Lib.hid (T3.heap HN5.out id)
          have hS : w6.cell? ⟨π, 0, none⟩ = some (ptr γ) ∧ w6.cell? ⟨π, 1, none⟩ = some (.int .i64 r0) ∧ w6.cell? ⟨π, 2, none⟩ = some (.int .i64 cc) ∧ w6.cell? ⟨π, 3, none⟩ = some (.bool pb) := ⟨T3.cell hS.1 id, T3.cell hS.2.1 id, T3.cell hS.2.2.1 id, T3.cell hS.2.2.2 id⟩
          refine hK _ _ (.inr hS) ?_
          clear hK T3 hb
          try simp only [List.setIfInBounds_toArray, List.set_cons_succ, List.set_cons_zero]
          have hπn : ¬ π = nb := by have := HNB.out; have := HPL.out; omega
          have TR := turn_setRow w6 nb (curA r0 cc pb)
          have HF := Lib.hid (And.intro (setRow_heap w6 nb _ (curA r0 cc pb) 36 (0, 0) HN6.out) (And.intro HNB.out (HB6.out.trans (TR.below HB6.out.size (fun j e => by rw [e]; exact HNB.out)))))
          refine take_store_row 16 (by kernel_rfl) rfl rfl rfl 36 (.tmp 6) (.tmp 40) rfl nb (curA r0 cc pb) (by rfl) (by rfl) 36 (curA 0 0 false) HN6.out (size_cur _ _ _) rfl (one_cur _ _ _) (.inl rfl) ?_
          clear TR hS
          generalize (w6.setRow nb (curA r0 cc pb)) = w9 at *
          refine take_done (by kernel_rfl) ?_ _
          try simp only [List.setIfInBounds_toArray, List.set_cons_succ, List.set_cons_zero]
          go_wp2_with fail
          go_meet
          exact ⟨nb, rfl, HF⟩
      · go_wp2_with fail
        have TA : Turn (fun _ => False) w2 (w2.alloc (.cells (curA 0 0 false) 36)) := Turn.alloc _ _ _
        have HN7 : Hid ((w2.alloc (.cells (curA 0 0 false) 36)).heap[w2.heap.size]? = some (.cells (curA 0 0 false) 36 (0, 0))) := Lib.hid (heap_alloc_new w2 _)
        have HB7 : Hid (Below w.heap.size w (w2.alloc (.cells (curA 0 0 false) 36))) := Lib.hid (HB2.out.alloc HB2.out.size _)
        have hS : (w2.alloc (.cells (curA 0 0 false) 36)).cell? ⟨π, 0, none⟩ = some (ptr γ) ∧ (w2.alloc (.cells (curA 0 0 false) 36)).cell? ⟨π, 1, none⟩ = some (.int .i64 r0) ∧ (w2.alloc (.cells (curA 0 0 false) 36)).cell? ⟨π, 2, none⟩ = some (.int .i64 cc) ∧ (w2.alloc (.cells (curA 0 0 false) 36)).cell? ⟨π, 3, none⟩ = some (.bool pb) := ⟨TA.cell hS.1 id, TA.cell hS.2.1 id, TA.cell hS.2.2.1 id, TA.cell hS.2.2.2 id⟩
        refine hK _ _ (.inr hS) ?_
        clear hK TA
        have HNB : Hid (w.heap.size ≤ w2.heap.size) := Lib.hid HB2.out.size
        generalize hnb : w2.heap.size = nb at *
        generalize (w2.alloc (.cells (curA 0 0 false) 36)) = w7 at *
        try simp only [List.setIfInBounds_toArray, List.set_cons_succ, List.set_cons_zero]
        refine take_g (i := 13) (by kernel_rfl) rfl (by kernel_rfl) fun KQ hK => ?_
        go_wp2_with fail
        refine (HHI.out _ HB7.out).mono ?_
        rintro e wx ⟨rfl, rfl⟩
        refine hK _ _ (.inr hS) ?_
        clear hK
        try simp only [List.setIfInBounds_toArray, List.set_cons_succ, List.set_cons_zero]
        refine take_g (i := 14) (by kernel_rfl) rfl (by kernel_rfl) fun KQ hK => ?_
        go_wp2_with fail
        refine (HHO.out _).mono ?_
        rintro e w8 ⟨rfl, hb⟩
        have HB8 := Lib.hid (HB7.out.trans (hb.mono HB7.out.size))
        have T3 : Turn (fun _ => False) w7 w8 := Turn.of_new hb
        have HN8 := Lib.hid (T3.heap HN7.out id)
        have hS : w8.cell? ⟨π, 0, none⟩ = some (ptr γ) ∧ w8.cell? ⟨π, 1, none⟩ = some (.int .i64 r0) ∧ w8.cell? ⟨π, 2, none⟩ = some (.int .i64 cc) ∧ w8.cell? ⟨π, 3, none⟩ = some (.bool pb) := ⟨T3.cell hS.1 id, T3.cell hS.2.1 id, T3.cell hS.2.2.1 id, T3.cell hS.2.2.2 id⟩
        refine hK _ _ (.inr hS) ?_
        clear hK T3 hb
        try simp only [List.setIfInBounds_toArray, List.set_cons_succ, List.set_cons_zero]
        have hπn : ¬ π = nb := by have := HNB.out; have := HPL.out; omega
        have TR := turn_setRow w8 nb (curA r0 cc pb)
        have HF := Lib.hid (And.intro (setRow_heap w8 nb _ (curA r0 cc pb) 36 (0, 0) HN8.out) (And.intro HNB.out (HB8.out.trans (TR.below HB8.out.size (fun j e => by rw [e]; exact HNB.out)))))
        refine take_store_row 16 (by kernel_rfl) rfl rfl rfl 36 (.tmp 6) (.tmp 40) rfl nb (curA r0 cc pb) (by rfl) (by rfl) 36 (curA 0 0 false) HN8.out (size_cur _ _ _) rfl (one_cur _ _ _) (.inl rfl) ?_
        clear TR hS
        generalize (w8.setRow nb (curA r0 cc pb)) = w9 at *
        refine take_done (by kernel_rfl) ?_ _
        try simp only [List.setIfInBounds_toArray, List.set_cons_succ, List.set_cons_zero]
        go_wp2_with fail
        go_meet
        exact ⟨nb, rfl, HF⟩
    · go_wp2_with fail
      have TA : Turn (fun _ => False) w2 (w2.alloc (.cells (curA 0 0 false) 36)) := Turn.alloc _ _ _
      have HN9 : Hid ((w2.alloc (.cells (curA 0 0 false) 36)).heap[w2.heap.size]? = some (.cells (curA 0 0 false) 36 (0, 0))) := Lib.hid (heap_alloc_new w2 _)
      have HB9 : Hid (Below w.heap.size w (w2.alloc (.cells (curA 0 0 false) 36))) := Lib.hid (HB2.out.alloc HB2.out.size _)
      have hS : (w2.alloc (.cells (curA 0 0 false) 36)).cell? ⟨π, 0, none⟩ = some (ptr γ) ∧ (w2.alloc (.cells (curA 0 0 false) 36)).cell? ⟨π, 1, none⟩ = some (.int .i64 r0) ∧ (w2.alloc (.cells (curA 0 0 false) 36)).cell? ⟨π, 2, none⟩ = some (.int .i64 cc) ∧ (w2.alloc (.cells (curA 0 0 false) 36)).cell? ⟨π, 3, none⟩ = some (.bool pb) := ⟨TA.cell hS.1 id, TA.cell hS.2.1 id, TA.cell hS.2.2.1 id, TA.cell hS.2.2.2 id⟩
      refine hK _ _ (.inr hS) ?_
      clear hK TA
      have HNB : Hid (w.heap.size ≤ w2.heap.size) := Lib.hid HB2.out.size
      generalize hnb : w2.heap.size = nb at *
      generalize (w2.alloc (.cells (curA 0 0 false) 36)) = w9 at *
      try simp only [List.setIfInBounds_toArray, List.set_cons_succ, List.set_cons_zero]
      refine take_g (i := 8) (by kernel_rfl) rfl (by kernel_rfl) fun KQ hK => ?_
      go_wp2_with fail
      refine (HWD.out _ HB9.out).mono ?_
      rintro e wx ⟨rfl, rfl⟩
      refine hK _ _ (.inr hS) ?_
      clear hK
      try simp only [List.setIfInBounds_toArray, List.set_cons_succ, List.set_cons_zero]
      refine take_g (i := 13) (by kernel_rfl) rfl (by kernel_rfl) fun KQ hK => ?_
      go_wp2_with fail
      refine (HHI.out _ HB9.out).mono ?_
      rintro e wx ⟨rfl, rfl⟩
      refine hK _ _ (.inr hS) ?_
      clear hK
      try simp only [List.setIfInBounds_toArray, List.set_cons_succ, List.set_cons_zero]
      refine take_g (i := 14) (by kernel_rfl) rfl (by kernel_rfl) fun KQ hK => ?_
      go_wp2_with fail
      refine (HHO.out _).mono ?_
      rintro e w10 ⟨rfl, hb⟩
      have HB10 := Lib.hid (HB9.out.trans (hb.mono HB9.out.size))
      have T3 : Turn (fun _ => False) w9 w10 := Turn.of_new hb
      have HN10 := Lib.hid (T3.heap HN9.out id)
      have hS : w10.cell? ⟨π, 0, none⟩ = some (ptr γ) ∧ w10.cell? ⟨π, 1, none⟩ = some (.int .i64 r0) ∧ w10.cell? ⟨π, 2, none⟩ = some (.int .i64 cc) ∧ w10.cell? ⟨π, 3, none⟩ = some (.bool pb) := ⟨T3.cell hS.1 id, T3.cell hS.2.1 id, T3.cell hS.2.2.1 id, T3.cell hS.2.2.2 id⟩
      refine hK _ _ (.inr hS) ?_
      clear hK T3 hb
      try simp only [List.setIfInBounds_toArray, List.set_cons_succ, List.set_cons_zero]
      have hπn : ¬ π = nb := by have := HNB.out; have := HPL.out; omega
      have TR := turn_setRow w10 nb (curA r0 cc pb)
      have HF := Lib.hid (And.intro (setRow_heap w10 nb _ (curA r0 cc pb) 36 (0, 0) HN10.out) (And.intro HNB.out (HB10.out.trans (TR.below HB10.out.size (fun j e => by rw [e]; exact HNB.out)))))
      refine take_store_row 16 (by kernel_rfl) rfl rfl rfl 36 (.tmp 6) (.tmp 40) rfl nb (curA r0 cc pb) (by rfl) (by rfl) 36 (curA 0 0 false) HN10.out (size_cur _ _ _) rfl (one_cur _ _ _) (.inl rfl) ?_
      clear TR hS
      generalize (w10.setRow nb (curA r0 cc pb)) = w9 at *
      refine take_done (by kernel_rfl) ?_ _
      try simp only [List.setIfInBounds_toArray, List.set_cons_succ, List.set_cons_zero]
      go_wp2_with fail
      go_meet
      exact ⟨nb, rfl, HF⟩
  case rest =>
    obtain ⟨nb, rfl, HC⟩ := hcut
    have HN := Lib.hid HC.out.1
    have HBC := Lib.hid HC.out.2.2
    have HNB := Lib.hid HC.out.2.1
    obtain ⟨n0, n1, _⟩ := cells3 HN.out
    clear HC c0 c1 c2 c3 HWD HHI HHO HB0
    have hw1' := hw1.out
    have hw3' := hw3.out
    have htp' := htp.out
    go_wp2_with fail
    refine (HGN.out _).mono ?_
    rintro e w3 ⟨rfl, hgn⟩
    obtain ⟨γ2, hγ2⟩ : ∃ g, g = wc.heap.size := ⟨_, rfl⟩
    obtain ⟨β2, Q2, hg2, hr2, hβ2, hb3⟩ := hgn.grid hH2r.1 hH2r.2
    have hsz := HBC.out.size
    have hnbl : nb < wc.heap.size := (Array.getElem?_eq_some_iff.1 HN.out).1
    have HI : Hid (SizeInv w.heap.size γ2 p.rows top W2 H2 0 w3 ∧ Below w.heap.size w w3 ∧ w3.heap[nb]? = some (.cells (curA r0 cc pb) 36 (0, 0)) ∧ w.heap.size ≤ γ2) := Lib.hid (by
      refine ⟨⟨β2, Q2, by rw [hγ2]; exact hg2, ?_, by omega⟩, HBC.out.trans (hb3.mono hsz), (Turn.of_new hb3 : Turn (fun _ => False) wc w3).heap HN.out id, by omega⟩
      have := hr2.mono (X' := fun b => w.heap.size ≤ b) (fun b hb _ => by have hb : wc.heap.size ≤ b := hb; omega)
      simpa using this)
    rw [← hγ2]
    have hπγ : π ≠ γ2 := by have := HPL.out; omega
    clear hgn hg2 hr2 hβ2 hb3 HGN HN n0 n1 hγ2
    go_wp2_with fail
    go_loopg [9, 10, 51] H2 (fun gg v9 v10 i wx => ∃ k : Nat, H2 - k = gg ∧ k ≤ H2 ∧ i = .int .i64 k ∧ Hid (SizeInv w.heap.size γ2 p.rows top W2 H2 k wx ∧ Below w.heap.size w wx ∧ wx.heap[nb]? = some (.cells (curA r0 cc pb) 36 (0, 0)) ∧ w.heap.size ≤ γ2))
    case atStart => exact ⟨0, rfl, Nat.zero_le _, rfl, HI⟩
    case round =>
      obtain ⟨k, rfl, hk, rfl, H⟩ := hrel
      by_cases hlt : k < H2
      · have hlt' : (k : Int) < (H2 : Int) := by omega
        obtain ⟨x0, _⟩ := (HP1.out.below H.out.2.1).cells
        obtain ⟨j, hj⟩ : ∃ j, j = top + k := ⟨_, rfl⟩
        have hwj : IntKind.i64.wrap ((top : Int) + (k : Int)) = (j : Int) := by rw [IntKind.wrap_i64]; omega
        have HPR := Lib.hid (HP1.out.below H.out.2.1)
        have HLL := Lib.hid (hrl.out)
        have HSG := Lib.hid (sizeL_get p.rows top W2 H2 k hlt)
        rw [← hj] at HSG
        replace hj := Lib.hid hj
        obtain ⟨⟨β2, Q2, hg2, hr2, hβ2⟩, hbr, hnr, hγr⟩ := H.out
        have HG2 := Lib.hid hg2
        have HR2 := Lib.hid hr2
        have HBR := Lib.hid hbr
        have HNR := Lib.hid hnr
        have hS2 : ((sizeL p.rows top W2 H2).take k ++ List.replicate (H2 - k) (blanks W2, false)).length = H2 := by rw [List.length_append, List.length_take, sizeL_len, List.length_replicate]; omega
        have hQl : (Q2.map (·.1)).length = H2 := by rw [List.length_map, hr2.len, hS2]
        replace hQl := Lib.hid hQl
        by_cases hjl : j < Hn
        · obtain ⟨ρ, κ, l, t1, t2, t3, t4, t5, _⟩ := HPR.out.there HOK.out.rows j (by rw [hrl.out]; exact hjl)
          have HRI := Lib.hid (row_in γ β j ρ _ wr HPR.out.grid t1)
          have HFR := Lib.hid (fitres_any ρ κ l W2 wr t3 t5 hW2r.1 hW2r.2)
          have hsx : (sizeL p.rows top W2 H2)[k]? = some (fitC l.1 W2, false) := by
            rw [HSG.out, if_pos (by rw [hrl.out]; exact hjl), List.getD_eq_getElem?_getD, t2]
            rfl
          have HSX := Lib.hid (fill_gen _ (blanks W2, false) _ H2 k (sizeL_len _ _ _ _) hlt hsx)
          have HST : Hid (∀ (w5 : World) ρ' κ', Below wr.heap.size wr w5 → RowAt w5 ρ' κ' (fitC l.1 W2, false) → Calls Tryz.prog 71 #[ptr γ2, .int .i64 (k : Int), ptr ρ'] w5 fun e w' => e = .returned (.bool true) ∧ GridAt w' γ2 β2 ((Q2.map (·.1)).set k ρ') ∧ Turn (fun b => b = β2) w5 w') := Lib.hid fun w5 ρ' κ' hb hr => by
            have T : Turn (fun _ => False) wr w5 := Turn.of_new hb
            exact set_any γ2 β2 k ρ' κ' W2 _ _ w5 (HG2.out.turn T id id) ((HR2.out.below hb).all) (by rw [hQl.out]; exact hlt) hr (fitC_len _ _)
          clear hg2 hr2 hbr hnr hS2 t1 t2 t3 t4 t5 hsx HSG HLL H HI
          go_wp2_with fail
          refine HRI.out.mono ?_
          rintro e wx ⟨rfl, rfl⟩
          clear HRI
          go_wp2_with fail
          refine HFR.out.mono ?_
          rintro e w5 ⟨ρ', κ', rfl, hr5, h5a, h5b, hb5⟩
          have HR5 := Lib.hid hr5
          have HB5 := Lib.hid hb5
          have HSC := Lib.hid (HST.out w5 ρ' κ' hb5 hr5)
          clear hr5 hb5 HFR HST
          go_wp2_with fail
          refine HSC.out.mono ?_
          rintro e w6 ⟨rfl, hg6, ht6⟩
          have HF : Hid (SizeInv w.heap.size γ2 p.rows top W2 H2 (k + 1) w6 ∧ Below w.heap.size w w6 ∧ w6.heap[nb]? = some (.cells (curA r0 cc pb) 36 (0, 0)) ∧ w.heap.size ≤ γ2) := Lib.hid (by
            have T5 : Turn (fun _ => False) wr w5 := Turn.of_new HB5.out
            have hr5 := HR2.out.below HB5.out
            have hsz := HBR.out.size
            have hty : Typ w5 128 β2 := (HG2.out.turn T5 id id).typ2
            have hput := hr5.put (i := k) (q := (ρ', κ')) HR5.out (fitC_len _ _) (show w.heap.size ≤ ρ' by omega) (show w.heap.size ≤ κ' by omega) (fun q hq => by
              obtain ⟨i, hi⟩ := List.getElem?_of_mem hq
              obtain ⟨_, _, g1, _⟩ := HR2.out.line hi
              have := g1.typ.lt
              have := g1.cells.typ.lt
              exact ⟨by simp only; omega, by simp only; omega⟩)
            rw [HSX.out] at hput
            refine ⟨⟨β2, Q2.set k (ρ', κ'), by rw [List.map_set]; exact hg6, hput.turn ht6 (fun b e _ => by subst e; exact hty.not (by decide)) (fun q hq => ?_), hβ2⟩, ?_, ?_, hγr⟩
            · obtain ⟨i, hi⟩ := List.getElem?_of_mem hq
              obtain ⟨_, _, g1, _⟩ := hput.line hi
              exact ⟨g1.typ.ne hty (by decide), g1.cells.typ.ne hty (by decide)⟩
            · exact HBR.out.trans ((HB5.out.mono hsz).trans (ht6.below (Nat.le_trans hsz HB5.out.size) (fun b e => by rw [e]; exact hβ2)))
            · have hn5 := T5.heap HNR.out id
              exact ht6.heap hn5 (fun e => (show Typ w5 36 nb from ⟨_, _, hn5⟩).ne hty (by decide) e))
          clear hg6 ht6 HSC HB5 HR5 HSX HR2 HG2 HBR HNR
          go_wp2_with fail
          go_roundg (H2 - (k + 1))
          case measure => omega
          case rel => exact ⟨k + 1, rfl, by omega, by go_num, HF⟩
        · have HRO := Lib.hid (row_out γ β (j : Int) _ wr HPR.out.grid (.inr (by rw [List.length_map, HPR.out.rows.len, hrl.out]; omega)))
          have hsx : (sizeL p.rows top W2 H2)[k]? = some (blanks W2, false) := by
            rw [HSG.out, if_neg (by rw [hrl.out]; exact hjl)]
          have HSX := Lib.hid (fill_same _ _ H2 k (sizeL_len _ _ _ _) hlt hsx)
          have HF : Hid (SizeInv w.heap.size γ2 p.rows top W2 H2 (k + 1) wr ∧ Below w.heap.size w wr ∧ wr.heap[nb]? = some (.cells (curA r0 cc pb) 36 (0, 0)) ∧ w.heap.size ≤ γ2) := Lib.hid ⟨⟨β2, Q2, HG2.out, by rw [← HSX.out]; exact HR2.out, hβ2⟩, HBR.out, HNR.out, hγr⟩
          clear hg2 hr2 hbr hnr hS2 hsx HSG HLL H HI HG2 HR2 HBR HNR HSX
          go_wp2_with fail
          refine HRO.out.mono ?_
          rintro e wx ⟨rfl, rfl⟩
          clear HRO
          go_wp2_with fail
          go_roundg (H2 - (k + 1))
          case measure => omega
          case rel => exact ⟨k + 1, rfl, by omega, by go_num, HF⟩
      · obtain rfl : k = H2 := by omega
        clear HI
        obtain ⟨⟨β2, Q2, hg2, hr2, hβ2⟩, hbr, hnr, hγr⟩ := H.out
        have hpw := HP1.out.below hbr
        obtain ⟨x0, _, _, _, _, xf⟩ := hpw.cells
        have xf0 := xf 0
        obtain ⟨n0, n1, _⟩ := cells3 hnr
        rw [Nat.sub_self, List.replicate_zero, List.append_nil, List.take_of_length_le (by rw [sizeL_len]; exact Nat.le_refl _)] at hr2
        have HP8 := Lib.hid (hpw.regrid hg2 hr2 hγr hβ2 hW2r.1 hW2r.2)
        have HT8 : Hid (Turn (fun b => b = π) wr (wr.setCell ⟨π, 0, none⟩ (ptr γ2)) ∧ Below w.heap.size w wr) := Lib.hid ⟨Turn.setCell _ _ rfl, hbr⟩
        have hnπ : nb ≠ π := by have := HPL.out; have := HNB.out; omega
        have hw4' := hw4.out
        clear hg2 hr2 hβ2 hbr hnr hpw xf H
        go_upto_region 13 with fail
        generalize (wr.setCell ⟨π, 0, none⟩ (ptr γ2)) = w8 at *
        replace n0 := HT8.out.1.cell n0 hnπ
        replace n1 := HT8.out.1.cell n1 hnπ
        go_wp2_with fail
        refine (HMV.out _).mono ?_
        rintro e w9 ⟨rfl, hb9⟩
        have hp9 := HP8.out.below hb9
        obtain ⟨_, y1, y2, y3, _, yf⟩ := hp9.cells
        have f1 := yf 1
        have f2 := yf 2
        have f3 := yf 3
        have HF : Hid (PenTo w X π SP W2 (curW w9 π mr mc mb)) := Lib.hid (by
          rw [HSP.out]
          refine ⟨_, ⟨γ2, β2, Q2, hp9.cur mr mc mb⟩, fun b e => e, ?_⟩
          have hxπ : X π := HP1.out.xπ
          have a1 : Turn X w wr := (Turn.of_new HT8.out.2 : Turn (fun _ => False) w wr).mono (fun _ _ h => h.elim)
          have a2 : Turn X wr w8 := HT8.out.1.mono (fun b _ e => by rw [e]; exact hxπ)
          have a3 : Turn X w8 w9 := (Turn.of_new hb9 : Turn (fun _ => False) w8 w9).mono (fun _ _ h => h.elim)
          exact ((a1.trans a2).trans a3).trans ((curW_turn w9 π mr mc mb).mono (fun b _ e => by rw [e]; exact hxπ)))
        clear hp9 yf hb9 n0 n1
        go_wp2_with fail
        go_end0
        exact ⟨rfl, HF.out⟩
end Go.Proofs.YtjicdcmdgbcdcaaGreatDoor.Scr
end

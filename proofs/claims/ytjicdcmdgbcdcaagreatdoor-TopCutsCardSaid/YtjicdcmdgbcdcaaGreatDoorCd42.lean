/-
  edit.Do at an edit that is not wrong (printed by gen_do.py).
  row.Of at sound cells; fit.of.
-/
import Derived.Test.YtjicdcmdgbcdcaaGreatDoorCd41

section
namespace Go.Proofs.YtjicdcmdgbcdcaaGreatDoor.Scr
set_option linter.unusedSimpArgs false
set_option linter.unusedVariables false
open Go Go.RowKit Mem Turn Ring

theorem PenIs.pend_ {w : World} {X : Nat → Prop} {π γ β : Nat} {Q : List (Nat × Nat)} {p : PenC} {W : Nat} (h : PenIs w X π γ β Q p W) (b : Bool) : PenIs (w.setCell ⟨π, 3, none⟩ (.bool b)) X π γ β Q { p with at_ := { p.at_ with pend := b } } W := by
  have T : Turn (fun j => j = π) w (w.setCell ⟨π, 3, none⟩ (.bool b)) := Turn.setCell _ _ rfl
  refine ⟨?_, h.grid.turn T (h.grid.typ1.ne h.typ (by decide)) (h.grid.typ2.ne h.typ (by decide)), h.rows.turn T (fun x e _ => by subst e; exact h.typ.not (by decide)) (fun q hq => ?_), h.xπ, h.xγ, h.xβ, h.w1, h.w2⟩
  · have h0 := h.hdr
    have h1 := heap_set1 (cs := [ptr γ, .int .i64 p.at_.row, .int .i64 p.at_.col, .bool p.at_.pend, .bool p.auto]) h0 3 (.bool b)
    simpa using h1
  · obtain ⟨i, hi⟩ := List.getElem?_of_mem hq
    obtain ⟨l, _, g1, _⟩ := h.rows.line hi
    exact ⟨g1.typ.ne h.typ (by decide), g1.cells.typ.ne h.typ (by decide)⟩

set_option maxRecDepth 100000 in
set_option maxHeartbeats 16000000 in
theorem edo_is (X : Nat → Prop) (π γ β W : Nat) (Q : List (Nat × Nat)) (p : PenC) (kd a b : Int) (ba : Option Addr) (bn bc : Nat) (w : World) (h : PenIs w X π γ β Q p W) (hX : ∀ b, X b → PenTyp w b) (hok : PenOK p W) (hv : VarsX w X)
    (hwr : wrongE kd a = 0) (ha1 : -9223372036854775808 ≤ a) (ha2 : a ≤ 9223372036854775807) :
    Calls Tryz.prog 35 #[ptr π, opV kd a b (.slice ba bn bc)] w fun e w' => e = .returned .nilIface ∧ PenTo w X π (editP p kd a b W) W w' := by
  have hmx : Tryz.prog.follows .mixedOrders = true := by kernel_rfl
  have hkr : 2 ≤ kd ∧ kd ≤ 12 ∧ (kd = 4 → a = 0 ∨ a = 1 ∨ a = 2) := by
    unfold wrongE at hwr
    split at hwr
    · cases hwr
    · split at hwr
      · cases hwr
      · exact ⟨by omega, by omega, by omega⟩
  have e1 := heap_alloc_new w (.cells (opA kd a b (.slice ba bn bc)) 30)
  have hb1 : Below w.heap.size w (w.alloc (.cells (opA kd a b (.slice ba bn bc)) 30)) := (Below.refl _ _).alloc (Nat.le_refl _) _
  have hp1 := h.below hb1
  have hnX : ¬ X w.heap.size := fun e => by have := (hX _ e).lt; omega
  have HNX := Lib.hid hnX
  have hv1 := hv.below hb1
  have HX : Hid (∀ b, X b → PenTyp w b) := Lib.hid hX
  have HWR : Hid (∀ W', VarsX W' X → Calls Tryz.prog 34 #[opV kd a b (.slice ba bn bc)] W' fun e w' => e = .returned .nilIface ∧ Below W'.heap.size W' w') := Lib.hid fun W' hv => (wrong_any kd a b ba bn bc W' hv.vars hv.l1 hv.l2).mono fun e w' h => by
    rcases h.1 with ⟨_, h1⟩ | ⟨h1, _⟩
    · exact ⟨h1, h.2⟩
    · exact absurd hwr h1
  have HP1 := Lib.hid hp1
  have HB1 := Lib.hid hb1
  have HE1 := Lib.hid e1
  have HV1 := Lib.hid hv1
  have HOK := Lib.hid hok
  have hs1 : (w.alloc (.cells (opA kd a b (.slice ba bn bc)) 30)).heap.size = w.heap.size + 1 := by simp
  clear h hX hv hp1 hb1 e1 hv1 hnX
  go_enter Tryz.func35, Tryz.ntmps35
  go_upto_region 1 with fail
  generalize (w.alloc (.cells (opA kd a b (.slice ba bn bc)) 30)) = w1 at *
  go_wp2_with (refine wpList_load_row rfl 30 _ rfl w.heap.size rfl _ (opA kd a b (.slice ba bn bc)) (0, 0) _ HE1.out Tryz.underlying30 rfl (size_op _ _ _ _) ?_)
  refine (HWR.out _ HV1.out).mono ?_
  rintro e w2 ⟨rfl, hb2⟩
  have hb2' : Below w1.heap.size w1 w2 := hb2
  have HE2 := Lib.hid ((Turn.of_new hb2' : Turn (fun _ => False) w1 w2).heap HE1.out id)
  have HP2 := Lib.hid (HP1.out.below hb2')
  have HV2 := Lib.hid (HV1.out.below hb2')
  have HB2 := Lib.hid (HB1.out.trans (hb2'.mono (by omega)))
  have HT2 : Hid (Turn (fun _ => False) w1 w2) := Lib.hid (Turn.of_new hb2')
  clear hb2 hb2' HP1 HB1 HWR
  obtain ⟨c0, c1, c2, c3, c4, cf⟩ := HP2.out.cells
  clear c4 cf
  have HHI : Hid (∀ W', Below w2.heap.size w2 W' → Calls Tryz.prog 37 #[ptr γ] W' fun e w' => e = .returned (.int .i64 (p.rows.length : Int)) ∧ W' = w') := Lib.hid fun W' hb => by
    have := high_any γ β _ W' (HP2.out.below hb).grid
    rw [List.length_map, HP2.out.rows.len] at this
    exact this
  have HWI : Hid (∀ W', Below w2.heap.size w2 W' → Calls Tryz.prog 36 #[ptr γ] W' fun e w' => e = .returned (.int .i64 (W : Int)) ∧ W' = w') := Lib.hid fun W' hb => gwide_any γ β W _ W' (HP2.out.below hb).grid (HP2.out.below hb).rows.all
  have HHO : Hid (∀ W', Calls Tryz.prog 39 #[.agg #[.int .i64 p.at_.row, .int .i64 p.at_.col, .bool p.at_.pend], .int .i64 (W : Int), .int .i64 (p.rows.length : Int)] W' fun e w' => e = .returned (.agg #[.int .i64 p.at_.row, .int .i64 p.at_.col, .bool p.at_.pend]) ∧ Below W'.heap.size W' w') := Lib.hid fun W' => by
    have h1 := hold_any p.at_.row p.at_.col p.at_.pend W p.rows.length W'
    have h2 : hold ⟨p.at_.row, p.at_.col, p.at_.pend⟩ W p.rows.length = p.at_ := HOK.out.held.symm
    rw [h2] at h1
    exact h1
  generalize hH : p.rows.length = H at *
  generalize hr : p.at_.row = r at *
  generalize hc : p.at_.col = cc at *
  generalize hpb : p.at_.pend = pb at *
  have HR := Lib.hid hr
  have HCC := Lib.hid hc
  have HPB := Lib.hid hpb
  clear hr hc hpb hH
  go_upto_region 6 with fail
  refine region_begin3 (fun w' => w'.cell? ⟨π, 0, none⟩ = some (ptr γ) ∧ w'.cell? ⟨π, 1, none⟩ = some (.int .i64 r) ∧ w'.cell? ⟨π, 2, none⟩ = some (.int .i64 cc) ∧ w'.cell? ⟨π, 3, none⟩ = some (.bool pb)) (fun _ => false) 19 rfl hmx (by intro _ _ d _ _ h; cases d <;> exact h) fun hQP => ?_
  have hS : w2.drew.cell? ⟨π, 0, none⟩ = some (ptr γ) ∧ w2.drew.cell? ⟨π, 1, none⟩ = some (.int .i64 r) ∧ w2.drew.cell? ⟨π, 2, none⟩ = some (.int .i64 cc) ∧ w2.drew.cell? ⟨π, 3, none⟩ = some (.bool pb) := ⟨c0, c1, c2, c3⟩
  have HD : Hid (Below w2.heap.size w2 w2.drew) := Lib.hid (Below.refl _ _).drew
  clear c0 c1 c2 c3
  generalize w2.drew = w3 at *
  refine take_f 0 20 rfl rfl (by kernel_rfl) (by kernel_rfl) (by kernel_rfl) (by kernel_rfl) hQP hS (.inl ⟨by kernel_rfl, fun w' hw' => by obtain ⟨e0, e1, e2, e3⟩ := hw'; go_simp; try with_reducible rfl⟩) ?_
  refine take_f 1 21 rfl rfl (by kernel_rfl) (by kernel_rfl) (by kernel_rfl) (by kernel_rfl) hQP hS (.inl ⟨by kernel_rfl, fun w' hw' => by obtain ⟨e0, e1, e2, e3⟩ := hw'; go_simp; try with_reducible rfl⟩) ?_
  refine take_f 2 22 rfl rfl (by kernel_rfl) (by kernel_rfl) (by kernel_rfl) (by kernel_rfl) hQP hS (.inl ⟨by kernel_rfl, fun w' hw' => by obtain ⟨e0, e1, e2, e3⟩ := hw'; go_simp; try with_reducible rfl⟩) ?_
  refine take_f 3 23 rfl rfl (by kernel_rfl) (by kernel_rfl) (by kernel_rfl) (by kernel_rfl) hQP hS (.inl ⟨by kernel_rfl, fun w' hw' => by obtain ⟨e0, e1, e2, e3⟩ := hw'; go_simp; try with_reducible rfl⟩) ?_
  refine take_f 4 24 rfl rfl (by kernel_rfl) (by kernel_rfl) (by kernel_rfl) (by kernel_rfl) hQP hS (.inl ⟨by kernel_rfl, fun w' hw' => by obtain ⟨e0, e1, e2, e3⟩ := hw'; go_simp; try with_reducible rfl⟩) ?_
  refine take_f 5 25 rfl rfl (by kernel_rfl) (by kernel_rfl) (by kernel_rfl) (by kernel_rfl) hQP hS (.inl ⟨by kernel_rfl, fun w' hw' => by obtain ⟨e0, e1, e2, e3⟩ := hw'; go_simp; try with_reducible rfl⟩) ?_
  refine take_f 6 26 rfl rfl (by kernel_rfl) (by kernel_rfl) (by kernel_rfl) (by kernel_rfl) hQP hS (.inl ⟨by kernel_rfl, fun w' hw' => by obtain ⟨e0, e1, e2, e3⟩ := hw'; go_simp; try with_reducible rfl⟩) ?_
  refine take_f 7 27 rfl rfl (by kernel_rfl) (by kernel_rfl) (by kernel_rfl) (by kernel_rfl) hQP hS (.inl ⟨by kernel_rfl, fun w' hw' => by obtain ⟨e0, e1, e2, e3⟩ := hw'; go_simp; try with_reducible rfl⟩) ?_
  refine take_f 8 28 rfl rfl (by kernel_rfl) (by kernel_rfl) (by kernel_rfl) (by kernel_rfl) hQP hS (.inl ⟨by kernel_rfl, fun w' hw' => by obtain ⟨e0, e1, e2, e3⟩ := hw'; go_simp; try with_reducible rfl⟩) ?_
  refine take_f 10 30 rfl rfl (by kernel_rfl) (by kernel_rfl) (by kernel_rfl) (by kernel_rfl) hQP hS (.inl ⟨by kernel_rfl, fun w' hw' => by obtain ⟨e0, e1, e2, e3⟩ := hw'; go_simp; try with_reducible rfl⟩) ?_
  refine take_f 11 31 rfl rfl (by kernel_rfl) (by kernel_rfl) (by kernel_rfl) (by kernel_rfl) hQP hS (.inl ⟨by kernel_rfl, fun w' hw' => by obtain ⟨e0, e1, e2, e3⟩ := hw'; go_simp; try with_reducible rfl⟩) ?_
  refine take_f 12 32 rfl rfl (by kernel_rfl) (by kernel_rfl) (by kernel_rfl) (by kernel_rfl) hQP hS (.inl ⟨by kernel_rfl, fun w' hw' => by obtain ⟨e0, e1, e2, e3⟩ := hw'; go_simp; try with_reducible rfl⟩) ?_
  refine take_f 13 33 rfl rfl (by kernel_rfl) (by kernel_rfl) (by kernel_rfl) (by kernel_rfl) hQP hS (.inl ⟨by kernel_rfl, fun w' hw' => by obtain ⟨e0, e1, e2, e3⟩ := hw'; go_simp; try with_reducible rfl⟩) ?_
  try simp only [List.setIfInBounds_toArray, List.set_cons_succ, List.set_cons_zero]
  refine take_g (i := 9) (by kernel_rfl) rfl (by kernel_rfl) fun KQ hK => ?_
  go_wp2_with fail
  refine (HWI.out _ HD.out).mono ?_
  rintro e wx ⟨rfl, rfl⟩
  refine hK _ _ (.inr hS) ?_
  clear hK HWI
  try simp only [List.setIfInBounds_toArray, List.set_cons_succ, List.set_cons_zero]
  refine take_g (i := 14) (by kernel_rfl) rfl (by kernel_rfl) fun KQ hK => ?_
  go_wp2_with fail
  refine (HHI.out _ HD.out).mono ?_
  rintro e wx ⟨rfl, rfl⟩
  refine hK _ _ (.inr hS) ?_
  clear hK HHI
  try simp only [List.setIfInBounds_toArray, List.set_cons_succ, List.set_cons_zero]
  refine take_g (i := 15) (by kernel_rfl) rfl (by kernel_rfl) fun KQ hK => ?_
  go_wp2_with fail
  refine (HHO.out _).mono ?_
  rintro e w4 ⟨rfl, hb4⟩
  have hb5 := HD.out.trans (hb4.mono HD.out.size)
  have T4 : Turn (fun _ => False) w3 w4 := Turn.of_new hb4
  have hS4 := And.intro (T4.cell hS.1 id) (And.intro (T4.cell hS.2.1 id) (And.intro (T4.cell hS.2.2.1 id) (T4.cell hS.2.2.2 id)))
  refine hK _ _ (.inr hS4) ?_
  clear hK HHO hS T4
  have hS := hS4
  refine take_f 16 36 rfl rfl (by kernel_rfl) (by kernel_rfl) (by kernel_rfl) (by kernel_rfl) hQP hS (.inl ⟨by kernel_rfl, fun w' hw' => by obtain ⟨e0, e1, e2, e3⟩ := hw'; go_simp; try with_reducible rfl⟩) ?_
  refine take_f 17 37 rfl rfl (by kernel_rfl) (by kernel_rfl) (by kernel_rfl) (by kernel_rfl) hQP hS (.inl ⟨by kernel_rfl, fun w' hw' => by obtain ⟨e0, e1, e2, e3⟩ := hw'; go_simp; try with_reducible rfl⟩) ?_
  try simp only [List.setIfInBounds_toArray, List.set_cons_succ, List.set_cons_zero]
  have hp4 := HP2.out.below hb5
  obtain ⟨_, y1, y2, y3, _, yf⟩ := hp4.cells
  rw [HR.out] at y1
  rw [HCC.out] at y2
  rw [HPB.out] at y3
  have f1 := yf 1
  have f2 := yf 2
  have f3 := yf 3
  have HB5 := Lib.hid hb5
  have HSf := (hp4.cur r cc pb).cells
  simp only at HSf
  have hSf := And.intro HSf.1 (And.intro HSf.2.1 (And.intro HSf.2.2.1 HSf.2.2.2.1))
  have HP5 : Hid (PenIs (curW w4 π r cc pb) X π γ β Q p W) := Lib.hid (by
    have := hp4.cur r cc pb
    have e : ({ p with at_ := ⟨r, cc, pb⟩ } : PenC) = p := by
      rw [← HR.out, ← HCC.out, ← HPB.out]
    rw [e] at this
    exact this)
  have HT5 : Hid (Turn X w1 (curW w4 π r cc pb) ∧ Turn X w (curW w4 π r cc pb)) := Lib.hid (by
    have t1 := (curW_turn w4 π r cc pb).mono (T' := X) (fun b _ e => by rw [e]; exact hp4.xπ)
    have t2 : Turn X w2 w4 := (Turn.of_new hb5 : Turn (fun _ => False) w2 w4).mono (fun _ _ h => h.elim)
    have t3 : Turn X w1 w2 := HT2.out.mono (fun _ _ h => h.elim)
    exact ⟨(t3.trans t2).trans t1, (((Turn.of_new HB2.out : Turn (fun _ => False) w w2).mono (fun _ _ h => h.elim)).trans t2).trans t1⟩)
  have HE5 := Lib.hid (HT5.out.1.heap HE1.out HNX.out)
  clear hp4 yf hb4 hb5 hS4
  refine take_one (i := 18) (by kernel_rfl) rfl rfl fun KQ hK => ?_
  go_wp2_with fail
  refine hK _ _ (.inr hSf) ?_
  clear hK hS hSf HSf y1 y2 y3 f1 f2 f3
  refine take_done (by kernel_rfl) ?_ _
  try simp only [List.setIfInBounds_toArray, List.set_cons_succ, List.set_cons_zero]
  rw [show ((w4.setCell ⟨π, 1, none⟩ (.int .i64 r)).setCell ⟨π, 2, none⟩ (.int .i64 cc)).setCell ⟨π, 3, none⟩ (.bool pb) = curW w4 π r cc pb from rfl]
  generalize (curW w4 π r cc pb) = w5 at *
  obtain ⟨_, _, _, y3, _, yf⟩ := HP5.out.cells
  have f3 := yf 3
  go_upto_region 8 with fail
  clear y3 f3 yf
  have hp6 := HP5.out.pend_ false
  have HT6 := Lib.hid (HT5.out.2.trans (Turn.setCell (p := ⟨π, 3, none⟩) w5 (.bool false) HP5.out.xπ))
  have ht6 : Turn X w5 (w5.setCell ⟨π, 3, none⟩ (.bool false)) := Turn.setCell _ _ HP5.out.xπ
  have he6 := ht6.heap HE5.out HNX.out
  have HV6 : Hid (VarsX (w5.setCell ⟨π, 3, none⟩ (.bool false)) X) := Lib.hid (HV1.out.to (HT5.out.1.trans ht6) (fun b e => .inl e))
  have HOK6 := Lib.hid HOK.out.unpend
  obtain ⟨o0, _⟩ := cells4 he6
  have HE6 := Lib.hid he6
  obtain ⟨X0, hp7, hx0, hy0⟩ := hp6.exact
  have HPR := Lib.hid (fun hk => (erows_is X0 π γ β W Q _ kd a b ba bn bc _ hp7 hy0 HOK6.out hk).mono fun e w' h => And.intro h.1 (h.2.wide hx0))
  have HPS := Lib.hid (fun hk => (ecells_is X0 π γ β W Q _ kd a b ba bn bc _ hp7 hy0 HOK6.out (HV6.out.sub hx0) hk hkr.2.2 ha1 ha2).mono fun e w' h => And.intro h.1 (h.2.wide hx0))
  have HED := Lib.hid (show editP p kd a b W = if kd = 8 ∨ kd = 9 ∨ kd = 10 ∨ kd = 11 then rowsP { p with at_ := { p.at_ with pend := false } } kd a W else cellsP { p with at_ := { p.at_ with pend := false } } kd a b W from rfl)
  generalize ({ p with at_ := { p.at_ with pend := false } } : PenC) = p6 at *
  clear HP5 HT5 HE5 HE1 HX HP2 HV2 HB2 HE2 HV1 HOK hp6 hp7 hy0 hx0 ht6 he6 HB5
  generalize (w5.setCell ⟨π, 3, none⟩ (.bool false)) = w6 at *
  have HHX := Lib.hid hkr
  clear hkr
  obtain ⟨hk2, hk12, _⟩ := HHX.out
  have hzz : kd = 2 ∨ kd = 3 ∨ kd = 4 ∨ kd = 5 ∨ kd = 6 ∨ kd = 7 ∨ kd = 8 ∨ kd = 9 ∨ kd = 10 ∨ kd = 11 ∨ kd = 12 := by omega
  clear hwr
  rcases hzz with rfl | rfl | rfl | rfl | rfl | rfl | rfl | rfl | rfl | rfl | rfl
  · have HC := Lib.hid (HPS.out (by decide))
    have HE := Lib.hid (HED.out.trans (if_neg (by decide)))
    clear HPR HPS HED
    go_wp2_with (refine wpList_load_row rfl 30 _ rfl w.heap.size rfl _ (opA 2 a b (.slice ba bn bc)) (0, 0) _ HE6.out Tryz.underlying30 rfl (size_op _ _ _ _) ?_)
    refine HC.out.mono ?_
    rintro e w7 ⟨rfl, hto⟩
    have HF : Hid (PenTo w X π (editP p 2 a b W) W w7) := Lib.hid (by
      rw [HE.out]
      obtain ⟨X1, h1, h2, h3⟩ := hto
      exact ⟨X1, h1, fun b hb => (h2 b hb).imp id (fun e => Nat.le_trans HT6.out.size e), HT6.out.trans h3⟩)
    clear hto HC
    go_wp2_with fail
    go_ret
    exact ⟨rfl, HF.out⟩
  · have HC := Lib.hid (HPS.out (by decide))
    have HE := Lib.hid (HED.out.trans (if_neg (by decide)))
    clear HPR HPS HED
    go_wp2_with (refine wpList_load_row rfl 30 _ rfl w.heap.size rfl _ (opA 3 a b (.slice ba bn bc)) (0, 0) _ HE6.out Tryz.underlying30 rfl (size_op _ _ _ _) ?_)
    refine HC.out.mono ?_
    rintro e w7 ⟨rfl, hto⟩
    have HF : Hid (PenTo w X π (editP p 3 a b W) W w7) := Lib.hid (by
      rw [HE.out]
      obtain ⟨X1, h1, h2, h3⟩ := hto
      exact ⟨X1, h1, fun b hb => (h2 b hb).imp id (fun e => Nat.le_trans HT6.out.size e), HT6.out.trans h3⟩)
    clear hto HC
    go_wp2_with fail
    go_ret
    exact ⟨rfl, HF.out⟩
  · have HC := Lib.hid (HPS.out (by decide))
    have HE := Lib.hid (HED.out.trans (if_neg (by decide)))
    clear HPR HPS HED
    go_wp2_with (refine wpList_load_row rfl 30 _ rfl w.heap.size rfl _ (opA 4 a b (.slice ba bn bc)) (0, 0) _ HE6.out Tryz.underlying30 rfl (size_op _ _ _ _) ?_)
    refine HC.out.mono ?_
    rintro e w7 ⟨rfl, hto⟩
    have HF : Hid (PenTo w X π (editP p 4 a b W) W w7) := Lib.hid (by
      rw [HE.out]
      obtain ⟨X1, h1, h2, h3⟩ := hto
      exact ⟨X1, h1, fun b hb => (h2 b hb).imp id (fun e => Nat.le_trans HT6.out.size e), HT6.out.trans h3⟩)
    clear hto HC
    go_wp2_with fail
    go_ret
    exact ⟨rfl, HF.out⟩
  · have HC := Lib.hid (HPS.out (by decide))
    have HE := Lib.hid (HED.out.trans (if_neg (by decide)))
    clear HPR HPS HED
    go_wp2_with (refine wpList_load_row rfl 30 _ rfl w.heap.size rfl _ (opA 5 a b (.slice ba bn bc)) (0, 0) _ HE6.out Tryz.underlying30 rfl (size_op _ _ _ _) ?_)
    refine HC.out.mono ?_
    rintro e w7 ⟨rfl, hto⟩
    have HF : Hid (PenTo w X π (editP p 5 a b W) W w7) := Lib.hid (by
      rw [HE.out]
      obtain ⟨X1, h1, h2, h3⟩ := hto
      exact ⟨X1, h1, fun b hb => (h2 b hb).imp id (fun e => Nat.le_trans HT6.out.size e), HT6.out.trans h3⟩)
    clear hto HC
    go_wp2_with fail
    go_ret
    exact ⟨rfl, HF.out⟩
  · have HC := Lib.hid (HPS.out (by decide))
    have HE := Lib.hid (HED.out.trans (if_neg (by decide)))
    clear HPR HPS HED
    go_wp2_with (refine wpList_load_row rfl 30 _ rfl w.heap.size rfl _ (opA 6 a b (.slice ba bn bc)) (0, 0) _ HE6.out Tryz.underlying30 rfl (size_op _ _ _ _) ?_)
    refine HC.out.mono ?_
    rintro e w7 ⟨rfl, hto⟩
    have HF : Hid (PenTo w X π (editP p 6 a b W) W w7) := Lib.hid (by
      rw [HE.out]
      obtain ⟨X1, h1, h2, h3⟩ := hto
      exact ⟨X1, h1, fun b hb => (h2 b hb).imp id (fun e => Nat.le_trans HT6.out.size e), HT6.out.trans h3⟩)
    clear hto HC
    go_wp2_with fail
    go_ret
    exact ⟨rfl, HF.out⟩
  · have HC := Lib.hid (HPS.out (by decide))
    have HE := Lib.hid (HED.out.trans (if_neg (by decide)))
    clear HPR HPS HED
    go_wp2_with (refine wpList_load_row rfl 30 _ rfl w.heap.size rfl _ (opA 7 a b (.slice ba bn bc)) (0, 0) _ HE6.out Tryz.underlying30 rfl (size_op _ _ _ _) ?_)
    refine HC.out.mono ?_
    rintro e w7 ⟨rfl, hto⟩
    have HF : Hid (PenTo w X π (editP p 7 a b W) W w7) := Lib.hid (by
      rw [HE.out]
      obtain ⟨X1, h1, h2, h3⟩ := hto
      exact ⟨X1, h1, fun b hb => (h2 b hb).imp id (fun e => Nat.le_trans HT6.out.size e), HT6.out.trans h3⟩)
    clear hto HC
    go_wp2_with fail
    go_ret
    exact ⟨rfl, HF.out⟩
  · have HC := Lib.hid (HPR.out (by decide))
    have HE := Lib.hid (HED.out.trans (if_pos (by decide)))
    clear HPR HPS HED
    go_wp2_with (refine wpList_load_row rfl 30 _ rfl w.heap.size rfl _ (opA 8 a b (.slice ba bn bc)) (0, 0) _ HE6.out Tryz.underlying30 rfl (size_op _ _ _ _) ?_)
    refine HC.out.mono ?_
    rintro e w7 ⟨rfl, hto⟩
    have HF : Hid (PenTo w X π (editP p 8 a b W) W w7) := Lib.hid (by
      rw [HE.out]
      obtain ⟨X1, h1, h2, h3⟩ := hto
      exact ⟨X1, h1, fun b hb => (h2 b hb).imp id (fun e => Nat.le_trans HT6.out.size e), HT6.out.trans h3⟩)
    clear hto HC
    go_wp2_with fail
    go_ret
    exact ⟨rfl, HF.out⟩
  · have HC := Lib.hid (HPR.out (by decide))
    have HE := Lib.hid (HED.out.trans (if_pos (by decide)))
    clear HPR HPS HED
    go_wp2_with (refine wpList_load_row rfl 30 _ rfl w.heap.size rfl _ (opA 9 a b (.slice ba bn bc)) (0, 0) _ HE6.out Tryz.underlying30 rfl (size_op _ _ _ _) ?_)
    refine HC.out.mono ?_
    rintro e w7 ⟨rfl, hto⟩
    have HF : Hid (PenTo w X π (editP p 9 a b W) W w7) := Lib.hid (by
      rw [HE.out]
      obtain ⟨X1, h1, h2, h3⟩ := hto
      exact ⟨X1, h1, fun b hb => (h2 b hb).imp id (fun e => Nat.le_trans HT6.out.size e), HT6.out.trans h3⟩)
    clear hto HC
    go_wp2_with fail
    go_ret
    exact ⟨rfl, HF.out⟩
  · have HC := Lib.hid (HPR.out (by decide))
    have HE := Lib.hid (HED.out.trans (if_pos (by decide)))
    clear HPR HPS HED
    go_wp2_with (refine wpList_load_row rfl 30 _ rfl w.heap.size rfl _ (opA 10 a b (.slice ba bn bc)) (0, 0) _ HE6.out Tryz.underlying30 rfl (size_op _ _ _ _) ?_)
    refine HC.out.mono ?_
    rintro e w7 ⟨rfl, hto⟩
    have HF : Hid (PenTo w X π (editP p 10 a b W) W w7) := Lib.hid (by
      rw [HE.out]
      obtain ⟨X1, h1, h2, h3⟩ := hto
      exact ⟨X1, h1, fun b hb => (h2 b hb).imp id (fun e => Nat.le_trans HT6.out.size e), HT6.out.trans h3⟩)
    clear hto HC
    go_wp2_with fail
    go_ret
    exact ⟨rfl, HF.out⟩
  · have HC := Lib.hid (HPR.out (by decide))
    have HE := Lib.hid (HED.out.trans (if_pos (by decide)))
    clear HPR HPS HED
    go_wp2_with (refine wpList_load_row rfl 30 _ rfl w.heap.size rfl _ (opA 11 a b (.slice ba bn bc)) (0, 0) _ HE6.out Tryz.underlying30 rfl (size_op _ _ _ _) ?_)
    refine HC.out.mono ?_
    rintro e w7 ⟨rfl, hto⟩
    have HF : Hid (PenTo w X π (editP p 11 a b W) W w7) := Lib.hid (by
      rw [HE.out]
      obtain ⟨X1, h1, h2, h3⟩ := hto
      exact ⟨X1, h1, fun b hb => (h2 b hb).imp id (fun e => Nat.le_trans HT6.out.size e), HT6.out.trans h3⟩)
    clear hto HC
    go_wp2_with fail
    go_ret
    exact ⟨rfl, HF.out⟩
  · have HC := Lib.hid (HPS.out (by decide))
    have HE := Lib.hid (HED.out.trans (if_neg (by decide)))
    clear HPR HPS HED
    go_wp2_with (refine wpList_load_row rfl 30 _ rfl w.heap.size rfl _ (opA 12 a b (.slice ba bn bc)) (0, 0) _ HE6.out Tryz.underlying30 rfl (size_op _ _ _ _) ?_)
    refine HC.out.mono ?_
    rintro e w7 ⟨rfl, hto⟩
    have HF : Hid (PenTo w X π (editP p 12 a b W) W w7) := Lib.hid (by
      rw [HE.out]
      obtain ⟨X1, h1, h2, h3⟩ := hto
      exact ⟨X1, h1, fun b hb => (h2 b hb).imp id (fun e => Nat.le_trans HT6.out.size e), HT6.out.trans h3⟩)
    clear hto HC
    go_wp2_with fail
    go_ret
    exact ⟨rfl, HF.out⟩
end Go.Proofs.YtjicdcmdgbcdcaaGreatDoor.Scr
end
section
namespace Go.Proofs.YtjicdcmdgbcdcaaGreatDoor.Scr
set_option linter.unusedSimpArgs false
set_option linter.unusedVariables false
open Go Go.RowKit Mem Turn Ring

theorem fill_set (cs : List CellC) (k : Nat) (hk : k < cs.length) : (cs.take k ++ blanks (cs.length - k)).set k (cs.getD k blank) = cs.take (k + 1) ++ blanks (cs.length - (k + 1)) := by
  refine List.ext_getElem? fun i => ?_
  have e : (cs.take k).length = k := by rw [List.length_take]; omega
  have e2 : (cs.take (k + 1)).length = k + 1 := by rw [List.length_take]; omega
  rw [List.getElem?_set]
  by_cases h : k = i
  · subst h
    rw [if_pos rfl, if_pos (by rw [List.length_append, e, blanks_len]; omega), List.getElem?_append_left (by rw [e2]; omega), List.getElem?_take, if_pos (by omega), List.getD_eq_getElem?_getD, List.getElem?_eq_getElem hk]
    rfl
  · rw [if_neg h]
    rcases Nat.lt_or_ge i k with h1 | h1
    · rw [List.getElem?_append_left (by rw [e]; exact h1), List.getElem?_append_left (by rw [e2]; omega), List.getElem?_take, List.getElem?_take, if_pos h1, if_pos (by omega)]
    · rw [List.getElem?_append_right (by rw [e]; exact h1), List.getElem?_append_right (by rw [e2]; omega), e, e2]
      unfold blanks
      rw [List.getElem?_replicate, List.getElem?_replicate]
      by_cases h2 : i < cs.length
      · rw [if_pos (by omega), if_pos (by omega)]
      · rw [if_neg (by omega), if_neg (by omega)]

set_option maxRecDepth 100000 in
set_option maxHeartbeats 16000000 in
theorem rowof_any (D : Nat → Prop) (v : Value) (cs : List CellC) (w : World) (h : CellsAt D False w v cs) (h1 : 1 ≤ cs.length) (h2 : cs.length ≤ 1024) (hs : soundB cs = true) :
    Calls Tryz.prog 184 #[v] w fun e w' => ∃ ρ κ, e = .returned (.tuple #[ptr ρ, .nilIface]) ∧ RowAt w' ρ κ (cs, false) ∧ w.heap.size ≤ ρ ∧ w.heap.size ≤ κ ∧ Below w.heap.size w w' := by
  have hmx : Tryz.prog.follows .mixedOrders = true := by kernel_rfl
  obtain ⟨a, c, rfl, hc, h32, _⟩ := id h
  have HSO := Lib.hid (sound_any _ _ _ cs w h)
  rw [hs] at HSO
  obtain ⟨n, hn⟩ : ∃ n, cs.length = n := ⟨_, rfl⟩
  have HN := Lib.hid hn
  have HH := Lib.hid h
  rw [hn] at HSO h1 h2 hc h32 ⊢
  have HNEW := Lib.hid (fun w => new_any (n : Int) n (by omega) w)
  have hi1 : ¬ ((n : Int) = 0) := by omega
  have hi2 : ((n : Int) == 0) = false := by simpa using hi1
  have hi3 : ¬ ((1024 : Int) < (n : Int)) := by omega
  have hi4 : (n : Int) ≤ 1024 := by omega
  clear h hs hn
  go_enter Tryz.func184, Tryz.ntmps184
  go_wp2_with fail
  refine HSO.out.mono ?_
  rintro e w1 ⟨rfl, hb1⟩
  have HB1 := Lib.hid hb1
  clear hb1 HSO
  go_wp2_with fail
  refine (HNEW.out _).mono ?_
  rintro e w2 ⟨rfl, hr, hb2, _⟩
  have hsz := HB1.out.size
  obtain ⟨ρ, hρ⟩ : ∃ ρ, ρ = w1.heap.size + 1 := ⟨_, rfl⟩
  obtain ⟨κ, hκ⟩ : ∃ κ, κ = w1.heap.size := ⟨_, rfl⟩
  rw [← hρ, ← hκ] at hr
  rw [← hρ]
  have hρ1 : w.heap.size ≤ ρ := by omega
  have hκ1 : w.heap.size ≤ κ := by omega
  have HB2 := Lib.hid (HB1.out.trans (hb2.mono hsz))
  have HI : Hid (RowAt w2 ρ κ (cs.take 0 ++ blanks (n - 0), false) ∧ Below w.heap.size w w2) := Lib.hid ⟨by simpa using hr, HB2.out⟩
  clear hr hb2 hρ hκ HB1 HB2 HNEW hsz
  go_wp2_with fail
  go_loopg [5, 6, 27] n (fun gg v5 v6 i wx => ∃ k : Nat, n - k = gg ∧ k ≤ n ∧ i = .int .i64 k ∧ Hid (RowAt wx ρ κ (cs.take k ++ blanks (n - k), false) ∧ Below w.heap.size w wx))
  case atStart => exact ⟨0, rfl, Nat.zero_le _, rfl, HI⟩
  case round =>
    obtain ⟨k, rfl, hk, rfl, H⟩ := hrel
    by_cases hlt : k < n
    · obtain ⟨b, off, rfl, hbs, hbD, hcell⟩ : ∃ b off, a = some ⟨b, off, none⟩ ∧ b < w.heap.size ∧ D b ∧ ∀ (j : Nat) (x : CellC), cs[j]? = some x → w.cell? ⟨b, off + j * 2, none⟩ = some (.int .i64 x.1) ∧ (False → w.frozen? ⟨b, off + j * 2, none⟩ = false) ∧ ∃ tv, w.cell? ⟨b, off + j * 2 + 1, none⟩ = some tv ∧ TextAt D False w tv x.2 := by
        obtain ⟨a', c', e, _, _, h4⟩ := HH.out
        injection e with e1 _ _
        subst e1
        exact h4.resolve_left (by rw [HN.out]; omega)
      obtain ⟨x, hx⟩ : ∃ x, cs[k]? = some x := ⟨_, List.getElem?_eq_getElem (by rw [HN.out]; exact hlt)⟩
      obtain ⟨y0, _, tv, y1, hty⟩ := hcell k x hx
      have T : Turn (fun _ => False) w wr := Turn.of_new H.out.2
      have x0 := T.cell y0 id
      have x1 := T.cell y1 id
      have hty1 : TextAt D False wr tv x.2 := TextAt.turn hty T (fun b hb _ e => e)
      have hlt' : (k : Int) < (n : Int) := by omega
      have hxd : cs.getD k blank = x := by rw [List.getD_eq_getElem?_getD, hx]; rfl
      have HST := Lib.hid (fill_set cs k (by rw [HN.out]; exact hlt))
      rw [hxd, HN.out] at HST
      obtain ⟨kd, tx⟩ := x
      simp only at x0 hty1
      obtain ⟨at1, ct1, rfl, _⟩ := id hty1
      have T2 : Turn (fun _ => False) wr (wr.alloc (.cells #[.int .i64 kd, .slice at1 tx.length ct1] 80)) := Turn.alloc _ _ _
      have HR2 : Hid (RowAt (wr.alloc (.cells #[.int .i64 kd, .slice at1 tx.length ct1] 80)) ρ κ (cs.take k ++ blanks (n - k), false)) := Lib.hid (H.out.1.turn T2 (Free.no _ _) id id)
      have HB2 : Hid (Below w.heap.size w (wr.alloc (.cells #[.int .i64 kd, .slice at1 tx.length ct1] 80))) := Lib.hid (H.out.2.alloc H.out.2.size _)
      have HV2 := Lib.hid (TextAt.turn hty1 T2 (fun _ _ _ => id))
      have hnew : (wr.alloc (.cells #[.int .i64 0, .slice none 0 0] 80)).heap[wr.heap.size]? = some (.cells #[.int .i64 0, .slice none 0 0] 80 (0, 0)) := heap_alloc_new wr _
      have hrow : (wr.alloc (.cells #[.int .i64 0, .slice none 0 0] 80)).setRow wr.heap.size #[.int .i64 kd, .slice at1 tx.length ct1] = wr.alloc (.cells #[.int .i64 kd, .slice at1 tx.length ct1] 80) := World.setRow_alloc_new wr _ _ _
      have e2 := heap_alloc_new wr (.cells #[.int .i64 kd, .slice at1 tx.length ct1] 80)
      have hnρ : ρ ≠ wr.heap.size := by have := H.out.1.typ.lt; omega
      have hln : (cs.take k ++ blanks (n - k)).length = n := by rw [List.length_append, List.length_take, HN.out, blanks_len]; omega
      have HLN := Lib.hid hln
      generalize htn : tx.length = tn at *
      replace htn := Lib.hid htn
      clear hx hcell y0 y1 hty hty1 T2 T hbD hbs hln hxd H
      go_upto_region 9 with (refine wpList_store_row rfl 80 _ _ rfl wr.heap.size #[.int .i64 kd, .slice at1 tn ct1] rfl rfl _ _ hnew (size_cell _ _) rfl (one_cellR _ _ _ _) ?_)
      rw [hrow]
      generalize hw2 : (wr.alloc (.cells #[.int .i64 kd, .slice at1 tn ct1] 80)) = w4 at *
      have hs4 : w4.heap.size = wr.heap.size + 1 := by rw [← hw2]; simp
      clear hw2
      generalize wr.heap.size = nb at *
      have q0 : w4.cell? ⟨nb, 0, none⟩ = some (.int .i64 kd) := by simp [World.cell?, e2]
      have q1 : w4.cell? ⟨nb, 1, none⟩ = some (.slice at1 tn ct1) := by simp [World.cell?, e2]
      obtain ⟨c0, _, _⟩ := HR2.out.hdr0
      simp only [HLN.out] at c0
      have HOW := Lib.hid (own_any D False kd (.slice at1 tn ct1) tx w4.drew (TextAt.turn HV2.out (Turn.drew (fun _ => False) w4) (fun _ _ _ => id)))
      clear e2 hnew hrow x0 x1
      try simp only [List.setIfInBounds_toArray, List.set_cons_succ, List.set_cons_zero]
      refine region_begin3 (fun w' => w'.cell? ⟨ρ, 0, none⟩ = some (.slice (some ⟨κ, 0, none⟩) n n) ∧ w'.cell? ⟨nb, 0, none⟩ = some (.int .i64 kd) ∧ w'.cell? ⟨nb, 1, none⟩ = some (.slice at1 tn ct1)) (fun j => j == 8) 9 rfl hmx (by intro _ _ d _ _ h; cases d <;> exact h) fun hQP => ?_
      have hS : w4.drew.cell? ⟨ρ, 0, none⟩ = some (.slice (some ⟨κ, 0, none⟩) n n) ∧ w4.drew.cell? ⟨nb, 0, none⟩ = some (.int .i64 kd) ∧ w4.drew.cell? ⟨nb, 1, none⟩ = some (.slice at1 tn ct1) := ⟨c0, q0, q1⟩
      have HD : Hid (Below w4.heap.size w4 w4.drew) := Lib.hid (Below.refl _ _).drew
      clear c0 q0 q1
      generalize w4.drew = w5 at *
      refine take_f 0 32 rfl rfl (by kernel_rfl) (by kernel_rfl) (by kernel_rfl) (by kernel_rfl) hQP hS (.inl ⟨by kernel_rfl, fun w' hw' => by obtain ⟨e0, e1, e2⟩ := hw'; go_simp; try with_reducible rfl⟩) ?_
      refine take_f 1 33 rfl rfl (by kernel_rfl) (by kernel_rfl) (by kernel_rfl) (by kernel_rfl) hQP hS (.inl ⟨by kernel_rfl, fun w' hw' => by obtain ⟨e0, e1, e2⟩ := hw'; go_simp; try with_reducible rfl⟩) ?_
      refine take_f 2 34 rfl rfl (by kernel_rfl) (by kernel_rfl) (by kernel_rfl) (by kernel_rfl) hQP hS (.inl ⟨by kernel_rfl, fun w' hw' => by obtain ⟨e0, e1, e2⟩ := hw'; go_simp; try with_reducible rfl⟩) ?_
      refine take_f 3 35 rfl rfl (by kernel_rfl) (by kernel_rfl) (by kernel_rfl) (by kernel_rfl) hQP hS (.inl ⟨by kernel_rfl, fun w' hw' => by obtain ⟨e0, e1, e2⟩ := hw'; go_simp; try with_reducible rfl⟩) ?_
      refine take_f 4 36 rfl rfl (by kernel_rfl) (by kernel_rfl) (by kernel_rfl) (by kernel_rfl) hQP hS (.inl ⟨by kernel_rfl, fun w' hw' => by obtain ⟨e0, e1, e2⟩ := hw'; go_simp; try with_reducible rfl⟩) ?_
      refine take_f 5 37 rfl rfl (by kernel_rfl) (by kernel_rfl) (by kernel_rfl) (by kernel_rfl) hQP hS (.inl ⟨by kernel_rfl, fun w' hw' => by obtain ⟨e0, e1, e2⟩ := hw'; go_simp; try with_reducible rfl⟩) ?_
      try simp only [List.setIfInBounds_toArray, List.set_cons_succ, List.set_cons_zero]
      refine take_g (i := 6) (by kernel_rfl) rfl (by kernel_rfl) fun KQ hK => ?_
      go_wp2_with fail
      refine HOW.out.mono ?_
      rintro e w6 ⟨v', rfl, ho, hb6⟩
      have hb0 : Below w4.heap.size w4 w6 := HD.out.trans (hb6.mono HD.out.size)
      have T6 : Turn (fun _ => False) w5 w6 := Turn.of_new hb6
      have hS6 := And.intro (T6.cell hS.1 id) (And.intro (T6.cell hS.2.1 id) (T6.cell hS.2.2 id))
      refine hK _ _ (.inr hS6) ?_
      clear hK hS T6
      have hS := hS6
      refine take_f 7 39 rfl rfl (by kernel_rfl) (by kernel_rfl) (by kernel_rfl) (by kernel_rfl) hQP hS (.inl ⟨by kernel_rfl, fun w' hw' => by obtain ⟨e0, e1, e2⟩ := hw'; go_simp; try with_reducible rfl⟩) ?_
      try simp only [List.setIfInBounds_toArray, List.set_cons_succ, List.set_cons_zero]
      have HR6 := Lib.hid (HR2.out.turn (Turn.of_new hb0 : Turn (fun _ => False) w4 w6) (Free.no _ _) id id)
      obtain ⟨u0, x0, x1, _, f0, f1⟩ := HR6.out.cells.cell (i := k) (by rw [HLN.out]; exact hlt)
      obtain ⟨a', c', rfl⟩ := Turn.own_slice ho.1
      have HO := Lib.hid ho.txt
      have HB6 := Lib.hid (HB2.out.trans (hb0.mono HB2.out.size))
      clear ho hb0 hb6 HR2 HB2 HD HOW
      refine take_one (i := 8) (by kernel_rfl) rfl rfl fun KQ hK => ?_
      go_wp2_with fail
      refine hK _ _ (.inl rfl) ?_
      clear hK hS hS6 x0 x1 f0 f1
      refine take_done (by kernel_rfl) ?_ _
      try simp only [List.setIfInBounds_toArray, List.set_cons_succ, List.set_cons_zero]
      have hw3 : (w6.setCell ⟨κ, k * 2, none⟩ (.int .i64 kd)).setCell ⟨κ, k * 2 + 1, none⟩ (.slice a' tx.length c') = putW w6 κ k kd (.slice a' tx.length c') := rfl
      rw [hw3]
      clear hw3
      have HF : Hid (RowAt (putW w6 κ k kd (.slice a' tx.length c')) ρ κ (cs.take (k + 1) ++ blanks (n - (k + 1)), false) ∧ Below w.heap.size w (putW w6 κ k kd (.slice a' tx.length c'))) := Lib.hid (by
        have hcp := HR6.out.cells.put (i := k) (k := kd) (by rw [HLN.out]; exact hlt) HO.out
        have ht := putW_turn w6 κ k kd (.slice a' tx.length c')
        refine ⟨?_, HB6.out.trans (ht.below HB6.out.size (fun j e => by rw [e]; exact hκ1))⟩
        rw [← HST.out]
        refine ⟨?_, hcp, by rw [List.length_set]; exact HR6.out.pos, by rw [List.length_set]; exact HR6.out.le⟩
        rw [List.length_set]
        exact ht.heap HR6.out.hdr (fun e => HR6.out.ne e))
      generalize (putW w6 κ k kd (.slice a' tx.length c')) = w7 at *
      clear HR6 HO HB6 HST HV2
      go_wp2_with fail
      go_roundg (n - (k + 1))
      case measure => omega
      case rel => exact ⟨k + 1, rfl, by omega, by go_num, HF⟩
    · obtain rfl : k = n := by omega
      have HF : Hid (RowAt wr ρ κ (cs, false) ∧ Below w.heap.size w wr) := Lib.hid (by
        have := H.out
        rw [List.take_of_length_le (by rw [HN.out]; exact Nat.le_refl _), Nat.sub_self] at this
        simpa [blanks] using this)
      clear H
      go_wp2_with fail
      go_ret2
      exact ⟨ρ, κ, rfl, HF.out.1, hρ1, hκ1, HF.out.2⟩

theorem fitof_any (D : Nat → Prop) (v : Value) (cs : List CellC) (w : World) (h : CellsAt D False w v cs) (h1 : 1 ≤ cs.length) (h2 : cs.length ≤ 1024) (hs : soundB cs = true) :
    Calls Tryz.prog 123 #[v] w fun e w' => ∃ ρ κ, e = .returned (ptr ρ) ∧ RowAt w' ρ κ (cs, false) ∧ w.heap.size ≤ ρ ∧ w.heap.size ≤ κ ∧ Below w.heap.size w w' := by
  have HR := Lib.hid (rowof_any D v cs w h h1 h2 hs)
  obtain ⟨a, c, rfl, _⟩ := id h
  generalize hn : cs.length = n at *
  clear h h1 h2 hs hn
  go_enter Tryz.func123, Tryz.ntmps123
  go_wp2_with fail
  refine HR.out.mono ?_
  rintro e w1 ⟨ρ, κ, rfl, h1, h2, h3, h4⟩
  have HF := Lib.hid (And.intro h1 (And.intro h2 (And.intro h3 h4)))
  clear h1 h2 h3 h4 HR
  go_wp2_with fail
  go_ret
  exact ⟨ρ, κ, rfl, HF.out⟩
end Go.Proofs.YtjicdcmdgbcdcaaGreatDoor.Scr
end

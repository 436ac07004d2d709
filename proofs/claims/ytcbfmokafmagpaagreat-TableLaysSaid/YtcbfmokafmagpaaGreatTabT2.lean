/-
  The document's answers At, Width, Line of layer 60. Printed by gen_tabr.py.
  The walk of the statement TableLays.
-/
import Derived.Test.YtcbfmokafmagpaaGreatTabB
import Derived.Test.YtcbfmokafmagpaaGreatJustS
namespace Go.Proofs.YtcbfmokafmagpaaGreat.Tbl
set_option linter.unusedSimpArgs false
set_option linter.unusedVariables false
open Go Go.RowKit Go.Shelf Mem Turn Gra Same GraLaw Mea Rep Just

set_option maxHeartbeats 1000000 in
theorem at_ref (a : Option Addr) (n c : Nat) (R : List (List (List Int))) (w : World) (h : Rows3 w a n c R) (r k : Nat) (hr : r < n) (hk : k ≤ 1000) :
    Calls Tryz.prog 36 #[.slice a n c, .int .i64 r, .int .i64 k] w fun e w' => (∃ a' n' c', e = .returned (.slice a' n' c') ∧ Txt w a' n' c' ((R.getD r []).getD k [])) ∧ w = w' := by
  obtain ⟨hl, hnc, hcm, h0 | ⟨b, off, rfl, hb, hc⟩⟩ := h
  · omega
  obtain ⟨row, hrow⟩ : ∃ row, R[r]? = some row := ⟨_, List.getElem?_eq_getElem (by rw [hl]; exact hr)⟩
  obtain ⟨a1, n1, c1, hcell, hl1, hnc1, hcm1, h1⟩ := hc r row hrow
  have HG := Lib.hid (getD_some (d := ([] : List (List Int))) hrow)
  have hr1 : (r : Int) < n := by omega
  have HH := Lib.hid h1
  have HL := Lib.hid hl1
  clear hc hrow h1 hl1
  by_cases hlt : k < n1
  · rcases HH.out with h0 | ⟨b1, off1, rfl, hb1, hc1⟩
    · omega
    obtain ⟨xs, hxs⟩ : ∃ xs, row[k]? = some xs := ⟨_, List.getElem?_eq_getElem (by rw [HL.out]; exact hlt)⟩
    obtain ⟨a', n', c', hcell1, ht⟩ := hc1 k xs hxs
    have HT := Lib.hid ht
    have HX := Lib.hid (getD_some (d := ([] : List Int)) hxs)
    have hlt' : (k : Int) < n1 := by omega
    clear hc1 ht hxs HH
    go_enter Tryz.func36, Tryz.ntmps36
    go_wp2
    go_ret
    exact ⟨⟨_, _, _, rfl, by rw [HG.out, HX.out]; exact HT.out⟩, rfl⟩
  · have hge : (n1 : Int) ≤ k := by omega
    have HX := Lib.hid (getD_none (d := ([] : List Int)) (l := row) (k := k) (by rw [HL.out]; omega))
    clear HH HL
    go_enter Tryz.func36, Tryz.ntmps36
    go_wp2
    go_ret
    exact ⟨⟨_, _, _, rfl, by rw [HG.out, HX.out]; exact txt_nil w⟩, rfl⟩

theorem text_len {R : List (List (List Int))} {n : Nat} (hs : SmallTo R n) (hl : R.length = n) (r k : Nat) : ((R.getD r []).getD k []).length ≤ 300 := by
  rcases Nat.lt_or_ge r n with hr | hr
  · obtain ⟨row, hrow⟩ : ∃ row, R[r]? = some row := ⟨_, List.getElem?_eq_getElem (by omega)⟩
    rw [getD_some hrow]
    exact small_text hs hr hrow
  · rw [getD_none (l := R) (by omega)]; simp

theorem ret_i64 {a b : Int} (h : a = b) : Ending.returned (.int .i64 a) = .returned (.int .i64 b) := by rw [h]

set_option maxHeartbeats 4000000 in
theorem width_ref (a : Option Addr) (n c : Nat) (R : List (List (List Int))) (w : World) (h : Rows3 w a n c R) (hs : SmallTo R n) (hn : n ≤ 20) (k : Nat) (hk : k ≤ 1000) (most : Int) :
    Calls Tryz.prog 18 #[.slice a n c, .int .i64 k, .int .i64 most] w fun e w' => e = .returned (.int .i64 (lim (mx R k n) most)) ∧ Below w.heap.size w w' := by
  have HH := Lib.hid h
  have HLR := Lib.hid h.1
  have HS := Lib.hid hs
  have HMB := Lib.hid (mx_bd hs h.1 k)
  clear h hs
  go_enter Tryz.func18, Tryz.ntmps18
  go_wp2
  go_loopw [7, 8] (fun s i wr => ∃ r : Nat, r ≤ n ∧ s = .int .i64 (mx R k r) ∧ i = .int .i64 r ∧ Hid (Below w.heap.size w wr)) (fun _ i _ => n - (intOf i).toNat)
  case atStart => exact ⟨0, Nat.zero_le _, rfl, rfl, Below.refl _ _⟩
  case round =>
    obtain ⟨r, hr, rfl, rfl, H⟩ := hrel
    by_cases hlt : r < n
    · have hlt1 : (r : Int) < n := by omega
      have HNX : Hid (mx R k (r + 1) = max (mx R k r) (wsum (itms ((R.getD r []).getD k [])))) := Lib.hid rfl
      have htl := text_len HS.out HLR.out r k
      have HAT := Lib.hid (at_ref a n c R wr (HH.out.below H.out) r k hlt hk)
      generalize mx R k r = v0 at *
      generalize (R.getD r []).getD k [] = tx at *
      go_wp2_with fail
      refine HAT.out.mono ?_
      rintro e w1 ⟨⟨a2, n2, c2, rfl, hT2⟩, rfl⟩
      have hn2 : n2 ≤ 300 := by have := hT2.1.ints.1; omega
      have HCOL := Lib.hid (cols_ref a2 n2 c2 tx wr hT2.1 (by omega))
      clear hT2 HAT
      generalize wsum (itms tx) = S at *
      go_wp2_with fail
      refine HCOL.out.mono ?_
      rintro e w2 ⟨rfl, hb2⟩
      have HB2 := Lib.hid (H.out.trans (hb2.mono H.out.size))
      clear hb2 H HCOL
      go_wp2
      go_roundw
      case rel => exact ⟨r + 1, by omega, by rw [HNX.out], by go_num, HB2.out⟩
      case measure => simp [intOf]; omega
    · obtain rfl : r = n := by omega
      have HB := Lib.hid H.out
      clear H
      generalize hv : mx R k r = v0 at *
      have HV := Lib.hid hv
      clear hv
      by_cases hm0 : 0 < most
      · have d1 : decide ((0 : Int) < most) = true := by simp; omega
        by_cases hm1 : most < v0
        · have d2 : decide (most < v0) = true := by simp; omega
          go_wp2
          go_ret
          exact ⟨ret_i64 (by rw [HV.out]; unfold lim; rw [if_pos (by omega)]; omega), HB.out⟩
        · have d2 : decide (most < v0) = false := by simp; omega
          go_wp2
          go_ret
          exact ⟨ret_i64 (by rw [HV.out]; unfold lim; rw [if_pos (by omega)]; omega), HB.out⟩
      · have d1 : decide ((0 : Int) < most) = false := by simp; omega
        go_wp2
        go_ret
        exact ⟨ret_i64 (by rw [HV.out]; unfold lim; rw [if_neg (by omega)]), HB.out⟩

theorem ints_cell {k : IntKind} {w : World} {a : Option Addr} {n : Nat} {xs : List Int} (h : Ints k w a n xs) {i : Nat} {x : Int} (hx : xs[i]? = some x) : ∃ b off, a = some ⟨b, off, none⟩ ∧ b < w.heap.size ∧ w.cell? ⟨b, off + i, none⟩ = some (.int k x) := by
  obtain ⟨hl, h0 | ⟨b, off, rfl, hb, hc⟩⟩ := h
  · have := (List.getElem?_eq_some_iff.1 hx).1; omega
  · exact ⟨b, off, rfl, hb, hc i x hx⟩

set_option maxRecDepth 100000 in
set_option maxHeartbeats 16000000 in
theorem line_ref (a : Option Addr) (n c : Nat) (R : List (List (List Int))) (w : World) (h : Rows3 w a n c R) (hs : SmallTo R n) (hn : n ≤ 20) (r : Nat) (hr : r < n) (gap : Int) (G : Nat) (hG : max 0 (min gap 1024) = (G : Int)) (am : Option Addr) (m cm : Nat) (asd : Option Addr) (ms cs : Nat) (hms : ms = m) (ps : Nat → Int × Int) (hm : m ≤ 10) (hmo : Ints .i64 w am m (tab m fun k => (ps k).1)) (hsi : Ints .i64 w asd m (tab m fun k => (ps k).2)) :
    Calls Tryz.prog 19 #[.slice a n c, .int .i64 r, .int .i64 gap, .slice am m cm, .slice asd m cs] w fun e w' => Fresh w w' 21 1 (lineL R n ps G m r).length ((lineL R n ps G m r).map (Value.int .i32)) e := by
  obtain ⟨i1, hi1, hy0, hy1, hy2⟩ := info_parts info_i32
  have hmx : Tryz.prog.follows .mixedOrders = true := by kernel_rfl
  have hG1 : G ≤ 1024 := by omega
  have HH := Lib.hid h
  have HLR := Lib.hid h.1
  have HS := Lib.hid hs
  have HMO := Lib.hid hmo
  have HSI := Lib.hid hsi
  have HMB := Lib.hid (fun k => mx_bd hs h.1 k n)
  have HTL := Lib.hid (fun k => text_len hs h.1 r k)
  have HLN : Hid (∀ k, lnF R n ps r k = fitV ((R.getD r []).getD k []) (lim (mx R k n) (ps k).1) (ps k).2) := Lib.hid fun k => rfl
  have HLL : Hid (lineL R n ps G m r = ln (lnF R n ps r) G m) := Lib.hid rfl
  clear h hs hmo hsi
  generalize lnF R n ps r = f at *
  generalize lineL R n ps G m r = LL at *
  go_enter Tryz.func19, Tryz.ntmps19
  go_wp2
  go_loopw [11, 12] (fun v i wr => ∃ k t : Nat, k ≤ m ∧ t ≤ k * 3000 ∧ i = .int .i64 k ∧ Hid (t = (ln f G k).length) ∧ Hid (wr.ownsRow w.heap.size 21 1 v t ((ln f G k).map (Value.int .i32)) ∧ Below w.heap.size w wr)) (fun _ i _ => m - (intOf i).toNat)
  case atStart => exact ⟨0, 0, Nat.zero_le _, Nat.zero_le _, rfl, rfl, World.ownsRow_nil _ _ _ _, Below.refl _ _⟩
  case round =>
    obtain ⟨k, t, hk, ht, rfl, HT, HI⟩ := hrel
    by_cases hkt : k < m
    · have hkt1 : (k : Int) < m := by omega
      obtain ⟨bm, om, rfl, hbm, cm0⟩ := ints_cell HMO.out (tab_get hkt _)
      obtain ⟨bs, os, rfl, hbs, cs0⟩ := ints_cell HSI.out (tab_get hkt _)
      have HFK := Lib.hid (HLN.out k)
      have hst := HTL.out k
      have HXB := Lib.hid (lim_bd (HMB.out k).1 (ps k).1)
      have hx1 := HXB.out.1
      have hx2 := HXB.out.2
      have HNL := Lib.hid (ln_next f G k)
      have HXE := Lib.hid (rfl : lim (mx R k n) (ps k).1 = lim (mx R k n) (ps k).1)
      obtain ⟨x, hx⟩ : ∃ x, lim (mx R k n) (ps k).1 = x := ⟨_, rfl⟩
      have HX := Lib.hid hx
      rw [hx] at HFK hx1 hx2
      clear hx HXE
      obtain ⟨m0, hm0⟩ : ∃ m0, (ps k).1 = m0 := ⟨_, rfl⟩
      have HM0 := Lib.hid hm0
      rw [hm0] at cm0
      obtain ⟨sd, hsd⟩ : ∃ sd, (ps k).2 = sd := ⟨_, rfl⟩
      rw [hsd] at cs0 HFK
      clear hm0 hsd
      obtain ⟨tx, htx⟩ : ∃ tx, (R.getD r []).getD k [] = tx := ⟨_, rfl⟩
      rw [htx] at hst HFK
      have HTX := Lib.hid htx
      clear htx
      generalize f k = fk at *
      obtain ⟨J, hJ⟩ : ∃ J, J = if k = 0 then 0 else G := ⟨_, rfl⟩
      rw [← hJ] at HNL
      have HJ := Lib.hid hJ
      have hJ1 : J ≤ 1024 := by rw [hJ]; split <;> omega
      have HLK := Lib.hid (rfl : (ln f G k) = ln f G k)
      clear hJ
      generalize wr = wq at *
      go_wp2
      go_loopw [11, 13] (fun v i wr => ∃ j : Nat, j ≤ J ∧ i = .int .i64 j ∧ Hid (wr.ownsRow w.heap.size 21 1 v (t + j) ((ln f G k ++ List.replicate j 32).map (Value.int .i32)) ∧ Below w.heap.size w wr)) (fun _ i _ => J - (intOf i).toNat)
      case atStart => exact ⟨0, Nat.zero_le _, rfl, by simpa using HI.out.1, HI.out.2⟩
      case round =>
        clear HI
        obtain ⟨j, hj, rfl, HI⟩ := hrel
        obtain ⟨al, cl, rfl⟩ := own_slice HI.out.1
        by_cases hjt : j < J
        · have hkp : 0 < k := by
            rcases Nat.eq_zero_or_pos k with h0 | h0
            · have := HJ.out; rw [if_pos h0] at this; omega
            · exact h0
          have hJG : J = G := by have := HJ.out; rw [if_neg (by omega)] at this; exact this
          have d1 : decide ((j : Int) < gap) = true := by simp; omega
          have d2 : decide ((j : Int) < 1024) = true := by simp; omega
          have d3 : decide ((0 : Int) < (k : Int)) = true := by simp; omega
          have HO := Lib.hid HI.out.1
          have HB := Lib.hid HI.out.2
          have hsz := HB.out.size
          clear HI
          go_wp2_with (at_builtin; (refine wpList_append_own _ rfl _ _ 22 rfl w.heap.size 21 i1 _ 1 4 Tryz.underlying22 hi1 hy0 hy1 hy2 rfl (by decide) (.slice al (t + j) cl) (t + j) _ rfl (HO.out.alloc _) ⟨wr.heap.size, 0, none⟩ 1 1 [.int .i32 32] rfl rfl (cell_new1 _ _ _) (by simp [Value.oneCell']) (by unfold maxLen; omega) (by omega) (by simp; omega) ?_; intro v5 w5 hown5 hgrow5 _; have HB5 : Hid (Below w.heap.size w w5) := Lib.hid ((HB.out.alloc hsz _).grown hgrow5 (by simp; omega) (fun j e => (HO.out.lt j e).1)); have HO5 : Hid (w5.ownsRow w.heap.size 21 1 v5 (t + (j + 1)) ((ln f G k ++ List.replicate (j + 1) 32).map (Value.int .i32))) := (by rw [List.replicate_succ', ← List.append_assoc, List.map_append, ← Nat.add_assoc]; exact Lib.hid hown5); clear hown5 hgrow5))
          go_roundw
          case rel => exact ⟨j + 1, by omega, by go_num, HO5.out, HB5.out⟩
          case measure => simp [intOf]; omega
        · obtain rfl : j = J := by omega
          have HO := Lib.hid HI.out.1
          have HB := Lib.hid HI.out.2
          have hsz := HB.out.size
          have HCM : Hid (∀ w', Below w.heap.size w w' → w'.cell? ⟨bm, om + k, none⟩ = some (.int .i64 m0) ∧ w'.cell? ⟨bs, os + k, none⟩ = some (.int .i64 sd)) := Lib.hid fun w' hb => ⟨(hb.cell (p := ⟨bm, om + k, none⟩) hbm).trans cm0, (hb.cell (p := ⟨bs, os + k, none⟩) hbs).trans cs0⟩
          clear HI cm0 cs0
          have hcase : (k = 0 ∧ gap ≤ 0) ∨ (k = 0 ∧ 0 < gap) ∨ (0 < k ∧ gap ≤ j) ∨ (0 < k ∧ (j : Int) < gap ∧ j = 1024) := by
            have := HJ.out
            rcases Nat.eq_zero_or_pos k with h0 | h0
            · rcases Int.lt_or_le 0 gap with h | h
              · exact .inr (.inl ⟨h0, h⟩)
              · exact .inl ⟨h0, h⟩
            · rw [if_neg (by omega)] at this
              rcases Int.lt_or_le (j : Int) gap with h | h
              · exact .inr (.inr (.inr ⟨h0, h, by omega⟩))
              · exact .inr (.inr (.inl ⟨h0, h⟩))
          have hj0 : k = 0 → j = 0 := fun h0 => by have := HJ.out; rw [if_pos h0] at this; exact this
          clear hjt hG
          rcases hcase with ⟨hk0, hg0⟩ | ⟨hk0, hg0⟩ | ⟨hk0, hg0⟩ | ⟨hk0, hg0, hj1⟩
          · have d1 : decide ((j : Int) < gap) = false := by simp; omega
            clear hk0 hg0 hj0
            have HAT := Lib.hid (at_ref a n c R wr.drew (HH.out.below HB.out.drew) r k hr (by omega))
            go_wp2
            refine region_begin (fun w' => w'.cell? ⟨bm, om + k, none⟩ = some (.int .i64 m0) ∧ w'.cell? ⟨bs, os + k, none⟩ = some (.int .i64 sd)) (fun j => j == 18) hmx ?_
            have hS : wr.drew.cell? ⟨bm, om + k, none⟩ = some (.int .i64 m0) ∧ wr.drew.cell? ⟨bs, os + k, none⟩ = some (.int .i64 sd) := HCM.out _ HB.out.drew
            refine take_first (i := 0) rfl (by kernel_rfl) (by kernel_rfl) (by kernel_rfl) (by kernel_rfl) (fun _ _ _ h => h) hS (.inl ⟨by rfl, fun w' hw' => by obtain ⟨e0, e1⟩ := hw'; go_simp; try with_reducible rfl⟩) ?_
            refine take_first (i := 1) rfl (by kernel_rfl) (by kernel_rfl) (by kernel_rfl) (by kernel_rfl) (fun _ _ _ h => h) hS (.inl ⟨by rfl, fun w' hw' => by obtain ⟨e0, e1⟩ := hw'; go_simp; try with_reducible rfl⟩) ?_
            refine take_first (i := 2) rfl (by kernel_rfl) (by kernel_rfl) (by kernel_rfl) (by kernel_rfl) (fun _ _ _ h => h) hS (.inl ⟨by rfl, fun w' hw' => by obtain ⟨e0, e1⟩ := hw'; go_simp; try with_reducible rfl⟩) ?_
            refine take_first (i := 3) rfl (by kernel_rfl) (by kernel_rfl) (by kernel_rfl) (by kernel_rfl) (fun _ _ _ h => h) hS (.inl ⟨by rfl, fun w' hw' => by obtain ⟨e0, e1⟩ := hw'; go_simp; try with_reducible rfl⟩) ?_
            refine take_first (i := 5) rfl (by kernel_rfl) (by kernel_rfl) (by kernel_rfl) (by kernel_rfl) (fun _ _ _ h => h) hS (.inl ⟨by rfl, fun w' hw' => by obtain ⟨e0, e1⟩ := hw'; go_simp; try with_reducible rfl⟩) ?_
            refine take_first (i := 6) rfl (by kernel_rfl) (by kernel_rfl) (by kernel_rfl) (by kernel_rfl) (fun _ _ _ h => h) hS (.inl ⟨by rfl, fun w' hw' => by obtain ⟨e0, e1⟩ := hw'; go_simp; try with_reducible rfl⟩) ?_
            refine take_first (i := 7) rfl (by kernel_rfl) (by kernel_rfl) (by kernel_rfl) (by kernel_rfl) (fun _ _ _ h => h) hS (.inl ⟨by rfl, fun w' hw' => by obtain ⟨e0, e1⟩ := hw'; go_simp; try with_reducible rfl⟩) ?_
            refine take_first (i := 8) rfl (by kernel_rfl) (by kernel_rfl) (by kernel_rfl) (by kernel_rfl) (fun _ _ _ h => h) hS (.inl ⟨by rfl, fun w' hw' => by obtain ⟨e0, e1⟩ := hw'; go_simp; try with_reducible rfl⟩) ?_
            refine take_first (i := 9) rfl (by kernel_rfl) (by kernel_rfl) (by kernel_rfl) (by kernel_rfl) (fun _ _ _ h => h) hS (.inl ⟨by rfl, fun w' hw' => by obtain ⟨e0, e1⟩ := hw'; go_simp; try with_reducible rfl⟩) ?_
            refine take_first (i := 10) rfl (by kernel_rfl) (by kernel_rfl) (by kernel_rfl) (by kernel_rfl) (fun _ _ _ h => h) hS (.inl ⟨by rfl, fun w' hw' => by obtain ⟨e0, e1⟩ := hw'; go_simp; try with_reducible rfl⟩) ?_
            refine take_first (i := 12) rfl (by kernel_rfl) (by kernel_rfl) (by kernel_rfl) (by kernel_rfl) (fun _ _ _ h => h) hS (.inl ⟨by rfl, fun w' hw' => by obtain ⟨e0, e1⟩ := hw'; go_simp; try with_reducible rfl⟩) ?_
            refine take_first (i := 13) rfl (by kernel_rfl) (by kernel_rfl) (by kernel_rfl) (by kernel_rfl) (fun _ _ _ h => h) hS (.inl ⟨by rfl, fun w' hw' => by obtain ⟨e0, e1⟩ := hw'; go_simp; try with_reducible rfl⟩) ?_
            refine take_first (i := 14) rfl (by kernel_rfl) (by kernel_rfl) (by kernel_rfl) (by kernel_rfl) (fun _ _ _ h => h) hS (.inl ⟨by rfl, fun w' hw' => by obtain ⟨e0, e1⟩ := hw'; go_simp; try with_reducible rfl⟩) ?_
            refine take_first (i := 15) rfl (by kernel_rfl) (by kernel_rfl) (by kernel_rfl) (by kernel_rfl) (fun _ _ _ h => h) hS (.inl ⟨by rfl, fun w' hw' => by obtain ⟨e0, e1⟩ := hw'; go_simp; try with_reducible rfl⟩) ?_
            refine take_g (i := 4) (by kernel_rfl) rfl rfl fun K hK => ?_
            go_wp2_with fail
            refine HAT.out.mono ?_
            rintro e w5 ⟨⟨a2, n2, c2, rfl, hT2⟩, rfl⟩
            rw [HTX.out] at hT2
            have hn2 : n2 ≤ 300 := by have := hT2.1.ints.1; omega
            have HT2 := Lib.hid hT2
            have HWD := Lib.hid (width_ref a n c R wr.drew (HH.out.below HB.out.drew) HS.out hn k (by omega) m0)
            refine hK _ _ (.inr hS) ?_
            clear hK HAT hT2
            refine take_g (i := 11) (by kernel_rfl) rfl rfl fun K hK => ?_
            go_wp2_with fail
            refine HWD.out.mono ?_
            rintro e w6 ⟨rfl, hb6⟩
            have hxe : lim (mx R k n) m0 = x := by rw [← HM0.out]; exact HX.out
            rw [hxe]
            have HB6 := Lib.hid (HB.out.drew.trans (hb6.mono hsz))
            have HT6 := Lib.hid (HT2.out.below hb6)
            have HO6 := Lib.hid ((Turn.of_new hb6 : Turn (fun _ => False) _ _).kept (show wr.drew.ownsRow _ _ _ _ _ _ from HO.out.drew) (fun _ _ => id))
            have HFIT := Lib.hid (fit_ref a2 n2 c2 tx none 0 0 [] w6 HT6.out.1 (runes_nil _) (by omega) (by omega) x sd (by omega) (by omega))
            have hS6 := HCM.out _ HB6.out
            refine hK _ _ (.inr hS6) ?_
            clear hK hb6 HT2 HT6 HWD hS hxe
            refine take_g (i := 16) (by kernel_rfl) rfl rfl fun K hK => ?_
            go_wp2_with fail
            refine HFIT.out.mono ?_
            rintro e w7 ⟨out, hF, v7, rfl, ho7, hb7⟩
            have hfl := fit_len hF
            have HFE : Hid (out = fk) := by rw [HFK.out]; exact Lib.hid (fitV_eq hF)
            obtain ⟨ol, hoo⟩ : ∃ ol, out.length = ol := ⟨_, rfl⟩
            have HOL := Lib.hid hoo
            rw [hoo] at ho7 hfl
            obtain ⟨a7, c7, rfl⟩ := own_slice ho7
            have hol : ol ≤ 1400 := by simp only [List.length_nil] at hfl; omega
            have HB7 := Lib.hid (HB6.out.trans (hb7.mono HB6.out.size))
            have HO7 := Lib.hid ((Turn.of_new hb7 : Turn (fun _ => False) _ _).kept HO6.out (fun _ _ => id))
            have HSR := Lib.hid (src_ints (ints_of_own ho7))
            refine hK _ _ (.inr (HCM.out _ HB7.out)) ?_
            clear hK hF hb7 ho7 hfl hoo HFIT HO6 hS6
            refine take_g (i := 17) (by kernel_rfl) rfl rfl fun K hK => ?_
            refine wp_append_src _ _ _ 22 rfl w.heap.size 21 i1 _ 1 4 Tryz.underlying22 hi1 hy0 hy1 hy2 rfl (by decide) (.slice al (t + j) cl) (t + j) _ rfl HO7.out a7 ol c7 (out.map (Value.int .i32)) rfl HSR.out (one_cells _ _) (by unfold maxLen; omega) (by omega) HB7.out.size ?_
            intro v8 w8 hown8 hgrow8
            rw [← List.map_append] at hown8
            have HB8 := Lib.hid (HB7.out.grown hgrow8 HB7.out.size (fun j e => (HO7.out.lt j e).1))
            have HO8 := Lib.hid hown8
            refine hK _ _ (.inr (HCM.out _ HB8.out)) ?_
            clear hK hown8 hgrow8 HO7 HSR
            refine take_g (i := 18) (by kernel_rfl) rfl rfl fun K hK => ?_
            go_wp2
            refine hK _ _ (.inl rfl) ?_
            clear hK
            refine take_done (by kernel_rfl) ?_ _
            have HN1 : Hid (ln f G k ++ List.replicate j 32 ++ out = ln f G (k + 1)) := by rw [HNL.out, HFE.out]; exact Lib.hid (by simp)
            have HN2 : Hid (t + j + ol = (ln f G (k + 1)).length) := by rw [← HN1.out]; simp only [List.length_append, List.length_replicate]; rw [← HT.out, HOL.out]; exact Lib.hid rfl
            rw [HN1.out] at HO8
            go_wp2
            go_roundw
            case rel => exact ⟨k + 1, t + j + ol, by omega, by omega, by go_num, HN2, ⟨HO8.out, HB8.out⟩⟩
            case measure => simp [intOf]; omega
          · have hjj := hj0 hk0
            have d1 : decide ((j : Int) < gap) = true := by simp; omega
            have d2 : decide ((j : Int) < 1024) = true := by simp; omega
            have d3 : decide ((0 : Int) < (k : Int)) = false := by simp; omega
            have d4 : decide (0 < k) = false := by simp; omega
            clear hk0 hg0 hj0 hjj
            have HAT := Lib.hid (at_ref a n c R wr.drew (HH.out.below HB.out.drew) r k hr (by omega))
            go_wp2
            refine region_begin (fun w' => w'.cell? ⟨bm, om + k, none⟩ = some (.int .i64 m0) ∧ w'.cell? ⟨bs, os + k, none⟩ = some (.int .i64 sd)) (fun j => j == 18) hmx ?_
            have hS : wr.drew.cell? ⟨bm, om + k, none⟩ = some (.int .i64 m0) ∧ wr.drew.cell? ⟨bs, os + k, none⟩ = some (.int .i64 sd) := HCM.out _ HB.out.drew
            refine take_first (i := 0) rfl (by kernel_rfl) (by kernel_rfl) (by kernel_rfl) (by kernel_rfl) (fun _ _ _ h => h) hS (.inl ⟨by rfl, fun w' hw' => by obtain ⟨e0, e1⟩ := hw'; go_simp; try with_reducible rfl⟩) ?_
            refine take_first (i := 1) rfl (by kernel_rfl) (by kernel_rfl) (by kernel_rfl) (by kernel_rfl) (fun _ _ _ h => h) hS (.inl ⟨by rfl, fun w' hw' => by obtain ⟨e0, e1⟩ := hw'; go_simp; try with_reducible rfl⟩) ?_
            refine take_first (i := 2) rfl (by kernel_rfl) (by kernel_rfl) (by kernel_rfl) (by kernel_rfl) (fun _ _ _ h => h) hS (.inl ⟨by rfl, fun w' hw' => by obtain ⟨e0, e1⟩ := hw'; go_simp; try with_reducible rfl⟩) ?_
            refine take_first (i := 3) rfl (by kernel_rfl) (by kernel_rfl) (by kernel_rfl) (by kernel_rfl) (fun _ _ _ h => h) hS (.inl ⟨by rfl, fun w' hw' => by obtain ⟨e0, e1⟩ := hw'; go_simp; try with_reducible rfl⟩) ?_
            refine take_first (i := 5) rfl (by kernel_rfl) (by kernel_rfl) (by kernel_rfl) (by kernel_rfl) (fun _ _ _ h => h) hS (.inl ⟨by rfl, fun w' hw' => by obtain ⟨e0, e1⟩ := hw'; go_simp; try with_reducible rfl⟩) ?_
            refine take_first (i := 6) rfl (by kernel_rfl) (by kernel_rfl) (by kernel_rfl) (by kernel_rfl) (fun _ _ _ h => h) hS (.inl ⟨by rfl, fun w' hw' => by obtain ⟨e0, e1⟩ := hw'; go_simp; try with_reducible rfl⟩) ?_
            refine take_first (i := 7) rfl (by kernel_rfl) (by kernel_rfl) (by kernel_rfl) (by kernel_rfl) (fun _ _ _ h => h) hS (.inl ⟨by rfl, fun w' hw' => by obtain ⟨e0, e1⟩ := hw'; go_simp; try with_reducible rfl⟩) ?_
            refine take_first (i := 8) rfl (by kernel_rfl) (by kernel_rfl) (by kernel_rfl) (by kernel_rfl) (fun _ _ _ h => h) hS (.inl ⟨by rfl, fun w' hw' => by obtain ⟨e0, e1⟩ := hw'; go_simp; try with_reducible rfl⟩) ?_
            refine take_first (i := 9) rfl (by kernel_rfl) (by kernel_rfl) (by kernel_rfl) (by kernel_rfl) (fun _ _ _ h => h) hS (.inl ⟨by rfl, fun w' hw' => by obtain ⟨e0, e1⟩ := hw'; go_simp; try with_reducible rfl⟩) ?_
            refine take_first (i := 10) rfl (by kernel_rfl) (by kernel_rfl) (by kernel_rfl) (by kernel_rfl) (fun _ _ _ h => h) hS (.inl ⟨by rfl, fun w' hw' => by obtain ⟨e0, e1⟩ := hw'; go_simp; try with_reducible rfl⟩) ?_
            refine take_first (i := 12) rfl (by kernel_rfl) (by kernel_rfl) (by kernel_rfl) (by kernel_rfl) (fun _ _ _ h => h) hS (.inl ⟨by rfl, fun w' hw' => by obtain ⟨e0, e1⟩ := hw'; go_simp; try with_reducible rfl⟩) ?_
            refine take_first (i := 13) rfl (by kernel_rfl) (by kernel_rfl) (by kernel_rfl) (by kernel_rfl) (fun _ _ _ h => h) hS (.inl ⟨by rfl, fun w' hw' => by obtain ⟨e0, e1⟩ := hw'; go_simp; try with_reducible rfl⟩) ?_
            refine take_first (i := 14) rfl (by kernel_rfl) (by kernel_rfl) (by kernel_rfl) (by kernel_rfl) (fun _ _ _ h => h) hS (.inl ⟨by rfl, fun w' hw' => by obtain ⟨e0, e1⟩ := hw'; go_simp; try with_reducible rfl⟩) ?_
            refine take_first (i := 15) rfl (by kernel_rfl) (by kernel_rfl) (by kernel_rfl) (by kernel_rfl) (fun _ _ _ h => h) hS (.inl ⟨by rfl, fun w' hw' => by obtain ⟨e0, e1⟩ := hw'; go_simp; try with_reducible rfl⟩) ?_
            refine take_g (i := 4) (by kernel_rfl) rfl rfl fun K hK => ?_
            go_wp2_with fail
            refine HAT.out.mono ?_
            rintro e w5 ⟨⟨a2, n2, c2, rfl, hT2⟩, rfl⟩
            rw [HTX.out] at hT2
            have hn2 : n2 ≤ 300 := by have := hT2.1.ints.1; omega
            have HT2 := Lib.hid hT2
            have HWD := Lib.hid (width_ref a n c R wr.drew (HH.out.below HB.out.drew) HS.out hn k (by omega) m0)
            refine hK _ _ (.inr hS) ?_
            clear hK HAT hT2
            refine take_g (i := 11) (by kernel_rfl) rfl rfl fun K hK => ?_
            go_wp2_with fail
            refine HWD.out.mono ?_
            rintro e w6 ⟨rfl, hb6⟩
            have hxe : lim (mx R k n) m0 = x := by rw [← HM0.out]; exact HX.out
            rw [hxe]
            have HB6 := Lib.hid (HB.out.drew.trans (hb6.mono hsz))
            have HT6 := Lib.hid (HT2.out.below hb6)
            have HO6 := Lib.hid ((Turn.of_new hb6 : Turn (fun _ => False) _ _).kept (show wr.drew.ownsRow _ _ _ _ _ _ from HO.out.drew) (fun _ _ => id))
            have HFIT := Lib.hid (fit_ref a2 n2 c2 tx none 0 0 [] w6 HT6.out.1 (runes_nil _) (by omega) (by omega) x sd (by omega) (by omega))
            have hS6 := HCM.out _ HB6.out
            refine hK _ _ (.inr hS6) ?_
            clear hK hb6 HT2 HT6 HWD hS hxe
            refine take_g (i := 16) (by kernel_rfl) rfl rfl fun K hK => ?_
            go_wp2_with fail
            refine HFIT.out.mono ?_
            rintro e w7 ⟨out, hF, v7, rfl, ho7, hb7⟩
            have hfl := fit_len hF
            have HFE : Hid (out = fk) := by rw [HFK.out]; exact Lib.hid (fitV_eq hF)
            obtain ⟨ol, hoo⟩ : ∃ ol, out.length = ol := ⟨_, rfl⟩
            have HOL := Lib.hid hoo
            rw [hoo] at ho7 hfl
            obtain ⟨a7, c7, rfl⟩ := own_slice ho7
            have hol : ol ≤ 1400 := by simp only [List.length_nil] at hfl; omega
            have HB7 := Lib.hid (HB6.out.trans (hb7.mono HB6.out.size))
            have HO7 := Lib.hid ((Turn.of_new hb7 : Turn (fun _ => False) _ _).kept HO6.out (fun _ _ => id))
            have HSR := Lib.hid (src_ints (ints_of_own ho7))
            refine hK _ _ (.inr (HCM.out _ HB7.out)) ?_
            clear hK hF hb7 ho7 hfl hoo HFIT HO6 hS6
            refine take_g (i := 17) (by kernel_rfl) rfl rfl fun K hK => ?_
            refine wp_append_src _ _ _ 22 rfl w.heap.size 21 i1 _ 1 4 Tryz.underlying22 hi1 hy0 hy1 hy2 rfl (by decide) (.slice al (t + j) cl) (t + j) _ rfl HO7.out a7 ol c7 (out.map (Value.int .i32)) rfl HSR.out (one_cells _ _) (by unfold maxLen; omega) (by omega) HB7.out.size ?_
            intro v8 w8 hown8 hgrow8
            rw [← List.map_append] at hown8
            have HB8 := Lib.hid (HB7.out.grown hgrow8 HB7.out.size (fun j e => (HO7.out.lt j e).1))
            have HO8 := Lib.hid hown8
            refine hK _ _ (.inr (HCM.out _ HB8.out)) ?_
            clear hK hown8 hgrow8 HO7 HSR
            refine take_g (i := 18) (by kernel_rfl) rfl rfl fun K hK => ?_
            go_wp2
            refine hK _ _ (.inl rfl) ?_
            clear hK
            refine take_done (by kernel_rfl) ?_ _
            have HN1 : Hid (ln f G k ++ List.replicate j 32 ++ out = ln f G (k + 1)) := by rw [HNL.out, HFE.out]; exact Lib.hid (by simp)
            have HN2 : Hid (t + j + ol = (ln f G (k + 1)).length) := by rw [← HN1.out]; simp only [List.length_append, List.length_replicate]; rw [← HT.out, HOL.out]; exact Lib.hid rfl
            rw [HN1.out] at HO8
            go_wp2
            go_roundw
            case rel => exact ⟨k + 1, t + j + ol, by omega, by omega, by go_num, HN2, ⟨HO8.out, HB8.out⟩⟩
            case measure => simp [intOf]; omega
          · have d1 : decide ((j : Int) < gap) = false := by simp; omega
            clear hk0 hg0 hj0
            have HAT := Lib.hid (at_ref a n c R wr.drew (HH.out.below HB.out.drew) r k hr (by omega))
            go_wp2
            refine region_begin (fun w' => w'.cell? ⟨bm, om + k, none⟩ = some (.int .i64 m0) ∧ w'.cell? ⟨bs, os + k, none⟩ = some (.int .i64 sd)) (fun j => j == 18) hmx ?_
            have hS : wr.drew.cell? ⟨bm, om + k, none⟩ = some (.int .i64 m0) ∧ wr.drew.cell? ⟨bs, os + k, none⟩ = some (.int .i64 sd) := HCM.out _ HB.out.drew
            refine take_first (i := 0) rfl (by kernel_rfl) (by kernel_rfl) (by kernel_rfl) (by kernel_rfl) (fun _ _ _ h => h) hS (.inl ⟨by rfl, fun w' hw' => by obtain ⟨e0, e1⟩ := hw'; go_simp; try with_reducible rfl⟩) ?_
            refine take_first (i := 1) rfl (by kernel_rfl) (by kernel_rfl) (by kernel_rfl) (by kernel_rfl) (fun _ _ _ h => h) hS (.inl ⟨by rfl, fun w' hw' => by obtain ⟨e0, e1⟩ := hw'; go_simp; try with_reducible rfl⟩) ?_
            refine take_first (i := 2) rfl (by kernel_rfl) (by kernel_rfl) (by kernel_rfl) (by kernel_rfl) (fun _ _ _ h => h) hS (.inl ⟨by rfl, fun w' hw' => by obtain ⟨e0, e1⟩ := hw'; go_simp; try with_reducible rfl⟩) ?_
            refine take_first (i := 3) rfl (by kernel_rfl) (by kernel_rfl) (by kernel_rfl) (by kernel_rfl) (fun _ _ _ h => h) hS (.inl ⟨by rfl, fun w' hw' => by obtain ⟨e0, e1⟩ := hw'; go_simp; try with_reducible rfl⟩) ?_
            refine take_first (i := 5) rfl (by kernel_rfl) (by kernel_rfl) (by kernel_rfl) (by kernel_rfl) (fun _ _ _ h => h) hS (.inl ⟨by rfl, fun w' hw' => by obtain ⟨e0, e1⟩ := hw'; go_simp; try with_reducible rfl⟩) ?_
            refine take_first (i := 6) rfl (by kernel_rfl) (by kernel_rfl) (by kernel_rfl) (by kernel_rfl) (fun _ _ _ h => h) hS (.inl ⟨by rfl, fun w' hw' => by obtain ⟨e0, e1⟩ := hw'; go_simp; try with_reducible rfl⟩) ?_
            refine take_first (i := 7) rfl (by kernel_rfl) (by kernel_rfl) (by kernel_rfl) (by kernel_rfl) (fun _ _ _ h => h) hS (.inl ⟨by rfl, fun w' hw' => by obtain ⟨e0, e1⟩ := hw'; go_simp; try with_reducible rfl⟩) ?_
            refine take_first (i := 8) rfl (by kernel_rfl) (by kernel_rfl) (by kernel_rfl) (by kernel_rfl) (fun _ _ _ h => h) hS (.inl ⟨by rfl, fun w' hw' => by obtain ⟨e0, e1⟩ := hw'; go_simp; try with_reducible rfl⟩) ?_
            refine take_first (i := 9) rfl (by kernel_rfl) (by kernel_rfl) (by kernel_rfl) (by kernel_rfl) (fun _ _ _ h => h) hS (.inl ⟨by rfl, fun w' hw' => by obtain ⟨e0, e1⟩ := hw'; go_simp; try with_reducible rfl⟩) ?_
            refine take_first (i := 10) rfl (by kernel_rfl) (by kernel_rfl) (by kernel_rfl) (by kernel_rfl) (fun _ _ _ h => h) hS (.inl ⟨by rfl, fun w' hw' => by obtain ⟨e0, e1⟩ := hw'; go_simp; try with_reducible rfl⟩) ?_
            refine take_first (i := 12) rfl (by kernel_rfl) (by kernel_rfl) (by kernel_rfl) (by kernel_rfl) (fun _ _ _ h => h) hS (.inl ⟨by rfl, fun w' hw' => by obtain ⟨e0, e1⟩ := hw'; go_simp; try with_reducible rfl⟩) ?_
            refine take_first (i := 13) rfl (by kernel_rfl) (by kernel_rfl) (by kernel_rfl) (by kernel_rfl) (fun _ _ _ h => h) hS (.inl ⟨by rfl, fun w' hw' => by obtain ⟨e0, e1⟩ := hw'; go_simp; try with_reducible rfl⟩) ?_
            refine take_first (i := 14) rfl (by kernel_rfl) (by kernel_rfl) (by kernel_rfl) (by kernel_rfl) (fun _ _ _ h => h) hS (.inl ⟨by rfl, fun w' hw' => by obtain ⟨e0, e1⟩ := hw'; go_simp; try with_reducible rfl⟩) ?_
            refine take_first (i := 15) rfl (by kernel_rfl) (by kernel_rfl) (by kernel_rfl) (by kernel_rfl) (fun _ _ _ h => h) hS (.inl ⟨by rfl, fun w' hw' => by obtain ⟨e0, e1⟩ := hw'; go_simp; try with_reducible rfl⟩) ?_
            refine take_g (i := 4) (by kernel_rfl) rfl rfl fun K hK => ?_
            go_wp2_with fail
            refine HAT.out.mono ?_
            rintro e w5 ⟨⟨a2, n2, c2, rfl, hT2⟩, rfl⟩
            rw [HTX.out] at hT2
            have hn2 : n2 ≤ 300 := by have := hT2.1.ints.1; omega
            have HT2 := Lib.hid hT2
            have HWD := Lib.hid (width_ref a n c R wr.drew (HH.out.below HB.out.drew) HS.out hn k (by omega) m0)
            refine hK _ _ (.inr hS) ?_
            clear hK HAT hT2
            refine take_g (i := 11) (by kernel_rfl) rfl rfl fun K hK => ?_
            go_wp2_with fail
            refine HWD.out.mono ?_
            rintro e w6 ⟨rfl, hb6⟩
            have hxe : lim (mx R k n) m0 = x := by rw [← HM0.out]; exact HX.out
            rw [hxe]
            have HB6 := Lib.hid (HB.out.drew.trans (hb6.mono hsz))
            have HT6 := Lib.hid (HT2.out.below hb6)
            have HO6 := Lib.hid ((Turn.of_new hb6 : Turn (fun _ => False) _ _).kept (show wr.drew.ownsRow _ _ _ _ _ _ from HO.out.drew) (fun _ _ => id))
            have HFIT := Lib.hid (fit_ref a2 n2 c2 tx none 0 0 [] w6 HT6.out.1 (runes_nil _) (by omega) (by omega) x sd (by omega) (by omega))
            have hS6 := HCM.out _ HB6.out
            refine hK _ _ (.inr hS6) ?_
            clear hK hb6 HT2 HT6 HWD hS hxe
            refine take_g (i := 16) (by kernel_rfl) rfl rfl fun K hK => ?_
            go_wp2_with fail
            refine HFIT.out.mono ?_
            rintro e w7 ⟨out, hF, v7, rfl, ho7, hb7⟩
            have hfl := fit_len hF
            have HFE : Hid (out = fk) := by rw [HFK.out]; exact Lib.hid (fitV_eq hF)
            obtain ⟨ol, hoo⟩ : ∃ ol, out.length = ol := ⟨_, rfl⟩
            have HOL := Lib.hid hoo
            rw [hoo] at ho7 hfl
            obtain ⟨a7, c7, rfl⟩ := own_slice ho7
            have hol : ol ≤ 1400 := by simp only [List.length_nil] at hfl; omega
            have HB7 := Lib.hid (HB6.out.trans (hb7.mono HB6.out.size))
            have HO7 := Lib.hid ((Turn.of_new hb7 : Turn (fun _ => False) _ _).kept HO6.out (fun _ _ => id))
            have HSR := Lib.hid (src_ints (ints_of_own ho7))
            refine hK _ _ (.inr (HCM.out _ HB7.out)) ?_
            clear hK hF hb7 ho7 hfl hoo HFIT HO6 hS6
            refine take_g (i := 17) (by kernel_rfl) rfl rfl fun K hK => ?_
            refine wp_append_src _ _ _ 22 rfl w.heap.size 21 i1 _ 1 4 Tryz.underlying22 hi1 hy0 hy1 hy2 rfl (by decide) (.slice al (t + j) cl) (t + j) _ rfl HO7.out a7 ol c7 (out.map (Value.int .i32)) rfl HSR.out (one_cells _ _) (by unfold maxLen; omega) (by omega) HB7.out.size ?_
            intro v8 w8 hown8 hgrow8
            rw [← List.map_append] at hown8
            have HB8 := Lib.hid (HB7.out.grown hgrow8 HB7.out.size (fun j e => (HO7.out.lt j e).1))
            have HO8 := Lib.hid hown8
            refine hK _ _ (.inr (HCM.out _ HB8.out)) ?_
            clear hK hown8 hgrow8 HO7 HSR
            refine take_g (i := 18) (by kernel_rfl) rfl rfl fun K hK => ?_
            go_wp2
            refine hK _ _ (.inl rfl) ?_
            clear hK
            refine take_done (by kernel_rfl) ?_ _
            have HN1 : Hid (ln f G k ++ List.replicate j 32 ++ out = ln f G (k + 1)) := by rw [HNL.out, HFE.out]; exact Lib.hid (by simp)
            have HN2 : Hid (t + j + ol = (ln f G (k + 1)).length) := by rw [← HN1.out]; simp only [List.length_append, List.length_replicate]; rw [← HT.out, HOL.out]; exact Lib.hid rfl
            rw [HN1.out] at HO8
            go_wp2
            go_roundw
            case rel => exact ⟨k + 1, t + j + ol, by omega, by omega, by go_num, HN2, ⟨HO8.out, HB8.out⟩⟩
            case measure => simp [intOf]; omega
          · have d1 : decide ((j : Int) < gap) = true := by simp; omega
            have d2 : decide ((j : Int) < 1024) = false := by simp; omega
            clear hk0 hg0 hj0 hj1
            have HAT := Lib.hid (at_ref a n c R wr.drew (HH.out.below HB.out.drew) r k hr (by omega))
            go_wp2
            refine region_begin (fun w' => w'.cell? ⟨bm, om + k, none⟩ = some (.int .i64 m0) ∧ w'.cell? ⟨bs, os + k, none⟩ = some (.int .i64 sd)) (fun j => j == 18) hmx ?_
            have hS : wr.drew.cell? ⟨bm, om + k, none⟩ = some (.int .i64 m0) ∧ wr.drew.cell? ⟨bs, os + k, none⟩ = some (.int .i64 sd) := HCM.out _ HB.out.drew
            refine take_first (i := 0) rfl (by kernel_rfl) (by kernel_rfl) (by kernel_rfl) (by kernel_rfl) (fun _ _ _ h => h) hS (.inl ⟨by rfl, fun w' hw' => by obtain ⟨e0, e1⟩ := hw'; go_simp; try with_reducible rfl⟩) ?_
            refine take_first (i := 1) rfl (by kernel_rfl) (by kernel_rfl) (by kernel_rfl) (by kernel_rfl) (fun _ _ _ h => h) hS (.inl ⟨by rfl, fun w' hw' => by obtain ⟨e0, e1⟩ := hw'; go_simp; try with_reducible rfl⟩) ?_
            refine take_first (i := 2) rfl (by kernel_rfl) (by kernel_rfl) (by kernel_rfl) (by kernel_rfl) (fun _ _ _ h => h) hS (.inl ⟨by rfl, fun w' hw' => by obtain ⟨e0, e1⟩ := hw'; go_simp; try with_reducible rfl⟩) ?_
            refine take_first (i := 3) rfl (by kernel_rfl) (by kernel_rfl) (by kernel_rfl) (by kernel_rfl) (fun _ _ _ h => h) hS (.inl ⟨by rfl, fun w' hw' => by obtain ⟨e0, e1⟩ := hw'; go_simp; try with_reducible rfl⟩) ?_
            refine take_first (i := 5) rfl (by kernel_rfl) (by kernel_rfl) (by kernel_rfl) (by kernel_rfl) (fun _ _ _ h => h) hS (.inl ⟨by rfl, fun w' hw' => by obtain ⟨e0, e1⟩ := hw'; go_simp; try with_reducible rfl⟩) ?_
            refine take_first (i := 6) rfl (by kernel_rfl) (by kernel_rfl) (by kernel_rfl) (by kernel_rfl) (fun _ _ _ h => h) hS (.inl ⟨by rfl, fun w' hw' => by obtain ⟨e0, e1⟩ := hw'; go_simp; try with_reducible rfl⟩) ?_
            refine take_first (i := 7) rfl (by kernel_rfl) (by kernel_rfl) (by kernel_rfl) (by kernel_rfl) (fun _ _ _ h => h) hS (.inl ⟨by rfl, fun w' hw' => by obtain ⟨e0, e1⟩ := hw'; go_simp; try with_reducible rfl⟩) ?_
            refine take_first (i := 8) rfl (by kernel_rfl) (by kernel_rfl) (by kernel_rfl) (by kernel_rfl) (fun _ _ _ h => h) hS (.inl ⟨by rfl, fun w' hw' => by obtain ⟨e0, e1⟩ := hw'; go_simp; try with_reducible rfl⟩) ?_
            refine take_first (i := 9) rfl (by kernel_rfl) (by kernel_rfl) (by kernel_rfl) (by kernel_rfl) (fun _ _ _ h => h) hS (.inl ⟨by rfl, fun w' hw' => by obtain ⟨e0, e1⟩ := hw'; go_simp; try with_reducible rfl⟩) ?_
            refine take_first (i := 10) rfl (by kernel_rfl) (by kernel_rfl) (by kernel_rfl) (by kernel_rfl) (fun _ _ _ h => h) hS (.inl ⟨by rfl, fun w' hw' => by obtain ⟨e0, e1⟩ := hw'; go_simp; try with_reducible rfl⟩) ?_
            refine take_first (i := 12) rfl (by kernel_rfl) (by kernel_rfl) (by kernel_rfl) (by kernel_rfl) (fun _ _ _ h => h) hS (.inl ⟨by rfl, fun w' hw' => by obtain ⟨e0, e1⟩ := hw'; go_simp; try with_reducible rfl⟩) ?_
            refine take_first (i := 13) rfl (by kernel_rfl) (by kernel_rfl) (by kernel_rfl) (by kernel_rfl) (fun _ _ _ h => h) hS (.inl ⟨by rfl, fun w' hw' => by obtain ⟨e0, e1⟩ := hw'; go_simp; try with_reducible rfl⟩) ?_
            refine take_first (i := 14) rfl (by kernel_rfl) (by kernel_rfl) (by kernel_rfl) (by kernel_rfl) (fun _ _ _ h => h) hS (.inl ⟨by rfl, fun w' hw' => by obtain ⟨e0, e1⟩ := hw'; go_simp; try with_reducible rfl⟩) ?_
            refine take_first (i := 15) rfl (by kernel_rfl) (by kernel_rfl) (by kernel_rfl) (by kernel_rfl) (fun _ _ _ h => h) hS (.inl ⟨by rfl, fun w' hw' => by obtain ⟨e0, e1⟩ := hw'; go_simp; try with_reducible rfl⟩) ?_
            refine take_g (i := 4) (by kernel_rfl) rfl rfl fun K hK => ?_
            go_wp2_with fail
            refine HAT.out.mono ?_
            rintro e w5 ⟨⟨a2, n2, c2, rfl, hT2⟩, rfl⟩
            rw [HTX.out] at hT2
            have hn2 : n2 ≤ 300 := by have := hT2.1.ints.1; omega
            have HT2 := Lib.hid hT2
            have HWD := Lib.hid (width_ref a n c R wr.drew (HH.out.below HB.out.drew) HS.out hn k (by omega) m0)
            refine hK _ _ (.inr hS) ?_
            clear hK HAT hT2
            refine take_g (i := 11) (by kernel_rfl) rfl rfl fun K hK => ?_
            go_wp2_with fail
            refine HWD.out.mono ?_
            rintro e w6 ⟨rfl, hb6⟩
            have hxe : lim (mx R k n) m0 = x := by rw [← HM0.out]; exact HX.out
            rw [hxe]
            have HB6 := Lib.hid (HB.out.drew.trans (hb6.mono hsz))
            have HT6 := Lib.hid (HT2.out.below hb6)
            have HO6 := Lib.hid ((Turn.of_new hb6 : Turn (fun _ => False) _ _).kept (show wr.drew.ownsRow _ _ _ _ _ _ from HO.out.drew) (fun _ _ => id))
            have HFIT := Lib.hid (fit_ref a2 n2 c2 tx none 0 0 [] w6 HT6.out.1 (runes_nil _) (by omega) (by omega) x sd (by omega) (by omega))
            have hS6 := HCM.out _ HB6.out
            refine hK _ _ (.inr hS6) ?_
            clear hK hb6 HT2 HT6 HWD hS hxe
            refine take_g (i := 16) (by kernel_rfl) rfl rfl fun K hK => ?_
            go_wp2_with fail
            refine HFIT.out.mono ?_
            rintro e w7 ⟨out, hF, v7, rfl, ho7, hb7⟩
            have hfl := fit_len hF
            have HFE : Hid (out = fk) := by rw [HFK.out]; exact Lib.hid (fitV_eq hF)
            obtain ⟨ol, hoo⟩ : ∃ ol, out.length = ol := ⟨_, rfl⟩
            have HOL := Lib.hid hoo
            rw [hoo] at ho7 hfl
            obtain ⟨a7, c7, rfl⟩ := own_slice ho7
            have hol : ol ≤ 1400 := by simp only [List.length_nil] at hfl; omega
            have HB7 := Lib.hid (HB6.out.trans (hb7.mono HB6.out.size))
            have HO7 := Lib.hid ((Turn.of_new hb7 : Turn (fun _ => False) _ _).kept HO6.out (fun _ _ => id))
            have HSR := Lib.hid (src_ints (ints_of_own ho7))
            refine hK _ _ (.inr (HCM.out _ HB7.out)) ?_
            clear hK hF hb7 ho7 hfl hoo HFIT HO6 hS6
            refine take_g (i := 17) (by kernel_rfl) rfl rfl fun K hK => ?_
            refine wp_append_src _ _ _ 22 rfl w.heap.size 21 i1 _ 1 4 Tryz.underlying22 hi1 hy0 hy1 hy2 rfl (by decide) (.slice al (t + j) cl) (t + j) _ rfl HO7.out a7 ol c7 (out.map (Value.int .i32)) rfl HSR.out (one_cells _ _) (by unfold maxLen; omega) (by omega) HB7.out.size ?_
            intro v8 w8 hown8 hgrow8
            rw [← List.map_append] at hown8
            have HB8 := Lib.hid (HB7.out.grown hgrow8 HB7.out.size (fun j e => (HO7.out.lt j e).1))
            have HO8 := Lib.hid hown8
            refine hK _ _ (.inr (HCM.out _ HB8.out)) ?_
            clear hK hown8 hgrow8 HO7 HSR
            refine take_g (i := 18) (by kernel_rfl) rfl rfl fun K hK => ?_
            go_wp2
            refine hK _ _ (.inl rfl) ?_
            clear hK
            refine take_done (by kernel_rfl) ?_ _
            have HN1 : Hid (ln f G k ++ List.replicate j 32 ++ out = ln f G (k + 1)) := by rw [HNL.out, HFE.out]; exact Lib.hid (by simp)
            have HN2 : Hid (t + j + ol = (ln f G (k + 1)).length) := by rw [← HN1.out]; simp only [List.length_append, List.length_replicate]; rw [← HT.out, HOL.out]; exact Lib.hid rfl
            rw [HN1.out] at HO8
            go_wp2
            go_roundw
            case rel => exact ⟨k + 1, t + j + ol, by omega, by omega, by go_num, HN2, ⟨HO8.out, HB8.out⟩⟩
            case measure => simp [intOf]; omega
    · obtain rfl : k = m := by omega
      have HN : Hid (t = LL.length ∧ LL = ln f G k) := by rw [HLL.out]; exact Lib.hid ⟨HT.out, rfl⟩
      have HO := Lib.hid HI.out.1
      have HB := Lib.hid HI.out.2
      clear HI
      go_wp2
      go_ret
      refine ⟨_, rfl, ?_, HB.out⟩
      rw [← HN.out.1, HN.out.2]
      exact HO.out

end Go.Proofs.YtcbfmokafmagpaaGreat.Tbl

namespace Go.Proofs.YtcbfmokafmagpaaGreat.Tbl
set_option linter.unusedSimpArgs false
set_option linter.unusedVariables false
open Go Go.RowKit Go.Shelf Mem Turn Gra Same GraLaw Mea Rep Just

section
variable {P : Program} (w : World)
/-- 'append' onto a row of the call's own: the row lies where it lay, or in a new block -/
theorem run_block (base : Nat) (t ty e : TypeId) (i : TypeInfo) (z : Value) (size bytes : Nat) (ht : P.underlying t = some (.slice e)) (hi : P.info? e = some i) (hz : i.zero = some z)
    (hsize : i.size = size) (hby : i.bytes = bytes) (hzs : z.cells.size = size) (hsz : 0 < size) (v : Value) (n : Nat) (xs : List Value) (hown : w.ownsRow base e size v n xs)
    (a : Addr) (m c : Nat) (news : List Value) (hm : 0 < m) (hl : news.length = m * size) (hnews : ∀ j u, news[j]? = some u → w.cell? (a.add j) = some u) (h1 : ∀ u ∈ news, u.oneCell' = true)
    (h63 : n + m ≤ maxLen) (hbytes : (n + m) * bytes ≤ 140737488355328) (hbase : base ≤ w.heap.size) :
    ∃ v' w', (Builtin.append_ #[t, t] ty #[v, .slice (some a) m c]).run P w = .ok v' w' ∧ w'.ownsRow base e size v' (n + m) (xs ++ news) ∧ w.grownBy w' v.ownBlock ∧ (∀ g, v'.ownBlock = some g → v.ownBlock = some g ∨ w.heap.size ≤ g) := by
  obtain ⟨v', w', hrun, r1, r2, _⟩ := run_append_own (P := P) w base t ty e i z size bytes ht hi hz hsize hby hzs hsz v n xs hown a m c news hl hnews h1 h63 hbytes hbase
  refine ⟨v', w', hrun, r1, r2, ?_⟩
  subst hsize
  subst hby
  have hsmall : n + m ≤ 9223372036854775807 := by simp only [maxLen] at h63; omega
  rcases hown.2 with ⟨rfl, rfl⟩ | ⟨g, cap, cur, rfl, hbg, hg, hnc, hcm, hcs, htake⟩
  · have hr := run_append_nil (P := P) w t ty e i z ht hi hz a m c news hl hnews (by omega) (by omega) (by have hb := hbytes; simp only [Nat.zero_add] at hb; omega)
    rw [hr] at hrun
    injection hrun with e1 e2
    subst e1
    intro g hg
    injection (show some w.heap.size = some g from hg) with hg
    exact .inr (by omega)
  · by_cases hroom : n + m ≤ cap
    · have hfit : n * i.size + news.length ≤ cur.size := by rw [hl, hcs, ← Nat.add_mul]; exact Nat.mul_le_mul_right _ hroom
      have hr := run_append_room (P := P) w t ty e i ht hi g n cap cur hg a m c news hl hnews h1 hroom hfit
      rw [hr] at hrun
      injection hrun with e1 e2
      subst e1
      intro g' hg'
      exact .inl hg'
    · have holds : ∀ j u, xs[j]? = some u → w.cell? ((⟨g, 0, none⟩ : Addr).add j) = some u := hown.cells (g := g) rfl
      have hr := run_append_grow (P := P) w t ty e i z ht hi hz ⟨g, 0, none⟩ n cap xs hown.1 holds a m c news hl hnews (by omega) (by omega) (growslice_fits (by omega) hbytes)
      rw [hr] at hrun
      injection hrun with e1 e2
      subst e1
      intro g' hg'
      injection (show some w.heap.size = some g' from hg') with hg'
      exact .inr (by omega)

theorem wpList_append_at {ops : Array Oper} {rest : List Oper} {o : Oper} {a : Act} {Q : Exit → Act → World → Prop} (hg : o.guard = none)
    (s x : Operand) (t : TypeId) (hop : o.op = Op.call { callee := Callee.builtin Builtin.append, args := #[s, x], argTypes := #[t, t] })
    (base : Nat) (e : TypeId) (i : TypeInfo) (z : Value) (size bytes : Nat) (h1 : P.underlying t = some (.slice e)) (h2 : P.info? e = some i) (h3 : i.zero = some z) (h4 : i.size = size) (h5 : i.bytes = bytes) (h6 : z.cells.size = size) (h7 : 0 < size)
    (v : Value) (k : Nat) (xs : List Value) (hs : a.eval s = v) (hown : w.ownsRow base e size v k xs) (ad : Addr) (m c : Nat) (news : List Value) (hx : a.eval x = .slice (some ad) m c) (hm : 0 < m) (hn : news.length = m * size)
    (hc : ∀ j u, news[j]? = some u → w.cell? (ad.add j) = some u) (h1c : ∀ u ∈ news, u.oneCell' = true) (b1 : k + m ≤ maxLen) (b2 : (k + m) * bytes ≤ 140737488355328) (b3 : base ≤ w.heap.size)
    (hK : ∀ v' w', w'.ownsRow base e size v' (k + m) (xs ++ news) → w.grownBy w' v.ownBlock → (∀ g, v'.ownBlock = some g → v.ownBlock = some g ∨ w.heap.size ≤ g) → wpList P ops Q rest (a.put o.dst v') w') : wpList P ops Q (o :: rest) a w :=
  wpList_plain hg fun K hK' => by
    obtain ⟨v', w', hrun, r1, r2, r3⟩ := run_block (P := P) w base t o.type e i z size bytes h1 h2 h3 h4 h5 h6 h7 v k xs hown ad m c news hm hn hc h1c b1 b2 b3
    unfold Oper.wp execOp
    simp only [hop, resolve, invoke, builtin, Sem.run_bind, Sem.run_pure, Result.andThen_ok, List.map_toArray, List.map_cons, List.map_nil, hs, hx, hrun]
    exact hK' _ _ (hK v' w' r1 r2 r3)
end

/-- two rows of the call's own, which lie apart -/
def MS (w : World) (B : Nat) (v u : Value) (k : Nat) (ps : Nat → Int × Int) : Prop :=
  w.ownsRow B 3 1 v k ((tab k fun j => (ps j).1).map (Value.int .i64)) ∧ w.ownsRow B 3 1 u k ((tab k fun j => (ps j).2).map (Value.int .i64)) ∧ ∀ g, v.ownBlock = some g → u.ownBlock ≠ some g
theorem tab_next (k : Nat) (f : Nat → Int) : tab (k + 1) f = tab k f ++ [f k] := by unfold tab; rw [List.range_succ]; simp
theorem MS.below {w w' : World} {B k : Nat} {v u : Value} {ps : Nat → Int × Int} (h : MS w B v u k ps) (hb : Below w.heap.size w w') : MS w' B v u k ps :=
  ⟨(Turn.of_new hb : Turn (fun _ => False) _ _).kept h.1 (fun _ _ => id), (Turn.of_new hb : Turn (fun _ => False) _ _).kept h.2.1 (fun _ _ => id), h.2.2⟩

theorem ln_len {f : Nat → List Int} {g B : Nat} : ∀ k, (∀ i, i < k → (f i).length ≤ B) → (ln f g k).length ≤ k * (g + B)
  | 0, _ => by simp [ln]
  | k + 1, h => by
    have h1 := ln_len (f := f) (g := g) (B := B) k (fun i hi => h i (by omega))
    have h2 := h k (by omega)
    rw [ln_next, Nat.succ_mul]
    simp only [List.length_append, List.length_replicate]
    split <;> omega
theorem line_len {R : List (List (List Int))} {n : Nat} (hs : SmallTo R n) (hl : R.length = n) (ps : Nat → Int × Int) (g m r : Nat) (hg : g ≤ 1024) (hm : m ≤ 10) : (lineL R n ps g m r).length ≤ 100000 := by
  have h1 := ln_len (f := lnF R n ps r) (g := g) (B := 1400) m fun i _ => by
    have h2 := fit_len (fit_ex ((R.getD r []).getD i []) (lim (mx R i n) (ps i).1) (ps i).2)
    have h3 : ((R.getD r []).getD i []).length ≤ 300 := by
      rcases Nat.lt_or_ge r n with hr | hr
      · obtain ⟨row, hrow⟩ : ∃ row, R[r]? = some row := ⟨_, List.getElem?_eq_getElem (by omega)⟩
        rw [getD_some hrow]
        exact small_text hs hr hrow
      · rw [getD_none (l := R) (by omega)]; simp
    simp only [List.length_nil] at h2
    show (fitV _ _ _).length ≤ 1400
    omega
  have h4 : m * (g + 1400) ≤ 10 * 2424 := Nat.mul_le_mul hm (by omega)
  unfold lineL
  omega

set_option maxRecDepth 100000 in
set_option maxHeartbeats 8000000 in
theorem lays_any (w : World) (a : Option Addr) (n c : Nat) (R : List (List (List Int))) (h : Rows3 w a n c R) (gap : Int) (hg1 : -9223372036854775808 ≤ gap) (hg2 : gap ≤ 9223372036854775807) (b : Option Addr) (m cm : Nat) (ps : Nat → Int × Int) (hc : IsCols w b m cm ps) :
    Calls Tryz.prog 4 #[.slice a n c, .int .i64 gap, .slice b m cm] w fun e w' => e = .returned (.bool true) ∧ Below w.heap.size w w' := by
  have HH := Lib.hid h
  have HC := Lib.hid hc
  have HLR := Lib.hid h.1
  have hmm : m ≤ 9223372036854775807 := Nat.le_trans hc.1 hc.2.1
  obtain ⟨i0, hi, hz0, hz1, hz2⟩ := info_parts info_int
  have hmx : Tryz.prog.follows .mixedOrders = true := by kernel_rfl
  clear h hc
  go_enter Tryz.func4, Tryz.ntmps4
  go_wp2_with fail
  refine (works_any _).mono ?_; rintro e w1 ⟨rfl, hb1⟩
  go_wp2_with fail
  refine (great_any a n c R w1 (HH.out.below hb1)).mono ?_
  rintro e w2 ⟨⟨bb, rfl, hgr⟩, rfl⟩
  cases bb
  · obtain ⟨hn, hs⟩ := hgr rfl
    have HS := Lib.hid hs
    clear hgr hs
    by_cases h10 : 10 < m
    · have d1 : decide ((10 : Int) < m) = true := by simp; omega
      go_wp2_with fail
      refine (works_any _).mono ?_; rintro e w3 ⟨rfl, hb3⟩
      have hb3 := hb1.trans (hb3.mono hb1.size)
      go_wp2
      go_ret
      exact ⟨rfl, hb3⟩
    · have d1 : decide ((10 : Int) < m) = false := by simp; omega
      have HB1 := Lib.hid hb1
      clear hb1
      obtain ⟨G, hG⟩ : ∃ G : Nat, max 0 (min gap 1024) = (G : Int) := ⟨(max 0 (min gap 1024)).toNat, by omega⟩
      have HG := Lib.hid hG
      clear hG
      have HWA := Lib.hid (widths_any a n c R w1 (HH.out.below HB1.out) HS.out hn b m cm ps (HC.out.below HB1.out) (by omega))
      go_wp2_with fail
      refine HWA.out.mono ?_
      rintro e w3 ⟨g1, rfl, hgw, hrow, hb3⟩
      have HROW := Lib.hid hrow
      have hgl := hrow.lt
      have HB3 := Lib.hid (HB1.out.trans (hb3.mono HB1.out.size))
      clear hrow hb3 HWA
      have HLA := Lib.hid (lines_any a n c R w3 (HH.out.below HB3.out) HS.out hn gap G HG.out b m cm ps (HC.out.below HB3.out) (by omega))
      go_wp2_with fail
      refine HLA.out.mono ?_
      rintro e w4 ⟨v, b', rfl, hO, hb4⟩
      have hL := hO.lists
      obtain ⟨A, C, rfl⟩ := lists_slice hL
      have hlen := linesL_len R n ps G m n
      rw [hlen] at hL ⊢
      have HL4 := Lib.hid hL
      have HROW4 := Lib.hid (HROW.out.below hb4 hgl)
      have hgl4 := Nat.lt_of_lt_of_le hgl hb4.size
      have HB4 := Lib.hid (HB3.out.trans (hb4.mono HB3.out.size))
      have hs4 := HB4.out.size
      clear hO hL hb4 HLA HROW
      go_wp2
      go_loopw [9, 10, 11] (fun v u i wr => ∃ k : Nat, k ≤ m ∧ i = .int .i64 k ∧ Hid (MS wr w4.heap.size v u k ps ∧ Below w4.heap.size w4 wr)) (fun _ _ i _ => m - (intOf i).toNat)
      case atStart => exact ⟨0, Nat.zero_le _, rfl, ⟨World.ownsRow_nil _ _ _ _, World.ownsRow_nil _ _ _ _, fun g h => by cases h⟩, Below.refl _ _⟩
      case round =>
        obtain ⟨k, hk, rfl, H⟩ := hrel
        by_cases hkt : k < m
        · have hkt1 : (k : Int) < m := by omega
          have HBW := Lib.hid (HB4.out.trans (H.out.2.mono hs4))
          obtain ⟨hcm, _, h0 | ⟨b4, off4, rfl, hbl4, hc4⟩⟩ := HC.out
          · omega
          obtain ⟨p0, p1⟩ := hc4 k hkt
          have HP0 : Hid (∀ w', Below w.heap.size w w' → w'.cell? ⟨b4, off4 + k * 2, none⟩ = some (.int .i64 (ps k).1)) := Lib.hid fun w' hb => (hb.cell (p := ⟨b4, off4 + k * 2, none⟩) hbl4).trans p0
          have HP1 : Hid (∀ w', Below w.heap.size w w' → w'.cell? ⟨b4, off4 + k * 2 + 1, none⟩ = some (.int .i64 (ps k).2)) := Lib.hid fun w' hb => (hb.cell (p := ⟨b4, off4 + k * 2 + 1, none⟩) hbl4).trans p1
          have hwc := (H.out.2.cell (p := ⟨g1, k, none⟩) hgl4).trans (HROW4.out.cell (k := k) (by unfold wl; exact tab_get hkt _))
          have HT1 := Lib.hid (tab_next k fun j => (ps j).1)
          have HT2 := Lib.hid (tab_next k fun j => (ps j).2)
          have HWR := Lib.hid (width_ref a n c R wr.drew (HH.out.below HBW.out.drew) HS.out hn k (by omega) (ps k).1)
          generalize lim (mx R k n) (ps k).1 = x at *
          obtain ⟨m0, hm0⟩ : ∃ m0, (ps k).1 = m0 := ⟨_, rfl⟩
          rw [hm0] at HP0 HWR
          have HM0 := Lib.hid hm0
          obtain ⟨sd, hsd⟩ : ∃ sd, (ps k).2 = sd := ⟨_, rfl⟩
          rw [hsd] at HP1
          have HSD := Lib.hid hsd
          obtain ⟨av, cv, rfl⟩ := own_slice H.out.1.1
          obtain ⟨au, cu, rfl⟩ := own_slice H.out.1.2.1
          clear hc4 p0 p1 hm0 hsd
          go_wp2
          refine region_begin (fun w' => w'.cell? ⟨g1, k, none⟩ = some (.int .i64 x) ∧ w'.cell? ⟨b4, off4 + k * 2, none⟩ = some (.int .i64 m0)) (fun _ => false) hmx ?_
          have hS : wr.drew.cell? ⟨g1, k, none⟩ = some (.int .i64 x) ∧ wr.drew.cell? ⟨b4, off4 + k * 2, none⟩ = some (.int .i64 m0) := ⟨hwc, HP0.out _ HBW.out.drew⟩
          refine take_first (i := 0) rfl (by kernel_rfl) (by kernel_rfl) (by kernel_rfl) (by kernel_rfl) (fun _ _ _ h => h) hS (.inl ⟨by rfl, fun w' hw' => by obtain ⟨e0, e1⟩ := hw'; go_simp; try with_reducible rfl⟩) ?_
          refine take_first (i := 1) rfl (by kernel_rfl) (by kernel_rfl) (by kernel_rfl) (by kernel_rfl) (fun _ _ _ h => h) hS (.inl ⟨by rfl, fun w' hw' => by obtain ⟨e0, e1⟩ := hw'; go_simp; try with_reducible rfl⟩) ?_
          refine take_first (i := 2) rfl (by kernel_rfl) (by kernel_rfl) (by kernel_rfl) (by kernel_rfl) (fun _ _ _ h => h) hS (.inl ⟨by rfl, fun w' hw' => by obtain ⟨e0, e1⟩ := hw'; go_simp; try with_reducible rfl⟩) ?_
          refine take_first (i := 3) rfl (by kernel_rfl) (by kernel_rfl) (by kernel_rfl) (by kernel_rfl) (fun _ _ _ h => h) hS (.inl ⟨by rfl, fun w' hw' => by obtain ⟨e0, e1⟩ := hw'; go_simp; try with_reducible rfl⟩) ?_
          refine take_first (i := 4) rfl (by kernel_rfl) (by kernel_rfl) (by kernel_rfl) (by kernel_rfl) (fun _ _ _ h => h) hS (.inl ⟨by rfl, fun w' hw' => by obtain ⟨e0, e1⟩ := hw'; go_simp; try with_reducible rfl⟩) ?_
          refine take_first (i := 5) rfl (by kernel_rfl) (by kernel_rfl) (by kernel_rfl) (by kernel_rfl) (fun _ _ _ h => h) hS (.inl ⟨by rfl, fun w' hw' => by obtain ⟨e0, e1⟩ := hw'; go_simp; try with_reducible rfl⟩) ?_
          refine take_first (i := 6) rfl (by kernel_rfl) (by kernel_rfl) (by kernel_rfl) (by kernel_rfl) (fun _ _ _ h => h) hS (.inl ⟨by rfl, fun w' hw' => by obtain ⟨e0, e1⟩ := hw'; go_simp; try with_reducible rfl⟩) ?_
          refine take_first (i := 7) rfl (by kernel_rfl) (by kernel_rfl) (by kernel_rfl) (by kernel_rfl) (fun _ _ _ h => h) hS (.inl ⟨by rfl, fun w' hw' => by obtain ⟨e0, e1⟩ := hw'; go_simp; try with_reducible rfl⟩) ?_
          refine take_first (i := 8) rfl (by kernel_rfl) (by kernel_rfl) (by kernel_rfl) (by kernel_rfl) (fun _ _ _ h => h) hS (.inl ⟨by rfl, fun w' hw' => by obtain ⟨e0, e1⟩ := hw'; go_simp; try with_reducible rfl⟩) ?_
          refine take_first (i := 9) rfl (by kernel_rfl) (by kernel_rfl) (by kernel_rfl) (by kernel_rfl) (fun _ _ _ h => h) hS (.inl ⟨by rfl, fun w' hw' => by obtain ⟨e0, e1⟩ := hw'; go_simp; try with_reducible rfl⟩) ?_
          refine take_first (i := 10) rfl (by kernel_rfl) (by kernel_rfl) (by kernel_rfl) (by kernel_rfl) (fun _ _ _ h => h) hS (.inl ⟨by rfl, fun w' hw' => by obtain ⟨e0, e1⟩ := hw'; go_simp; try with_reducible rfl⟩) ?_
          refine take_g (i := 11) (by kernel_rfl) rfl rfl fun K hK => ?_
          go_wp2_with fail
          refine HWR.out.mono ?_
          rintro e w5 ⟨rfl, hb5⟩
          have B5 : Below wr.heap.size wr w5 := (Below.refl wr.heap.size wr).drew.trans hb5
          have HMS5 := Lib.hid (H.out.1.below B5)
          have HB5 := Lib.hid (H.out.2.trans (B5.mono H.out.2.size))
          have HBW5 := Lib.hid (HB4.out.trans (HB5.out.mono hs4))
          have hwc5 : w5.cell? ⟨g1, k, none⟩ = some (.int .i64 x) := (HB5.out.cell (p := ⟨g1, k, none⟩) hgl4).trans ((H.out.2.cell (p := ⟨g1, k, none⟩) hgl4).symm.trans hwc)
          refine hK _ _ (.inr ⟨hwc5, HP0.out _ HBW5.out⟩) ?_
          clear hK HWR hb5 B5 H hS hwc
          refine take_g (i := 12) (by kernel_rfl) rfl rfl fun K hK => ?_
          go_wp2
          refine hK _ _ (.inr ⟨hwc5, HP0.out _ HBW5.out⟩) ?_
          clear hK hwc5
          refine take_done (by kernel_rfl) ?_ _
          have q0 := HP0.out _ HBW5.out
          have hs5 := HB5.out.size
          go_wp2_with (first
            | (at_builtin; (refine wpList_append_at _ rfl (.tmp 63) (.tmp 69) 33 rfl w4.heap.size 3 i0 _ 1 8 Tryz.underlying33 hi hz0 hz1 hz2 rfl (by decide) (.slice av k cv) k _ rfl (HMS5.out.1.alloc _) ⟨w5.heap.size, 0, none⟩ 1 1 [.int .i64 m0] rfl (by omega) rfl (cell_new1 _ _ _) (by simp [Value.oneCell']) (by unfold maxLen; omega) (by omega) (by simp; omega) ?_; intro v6 w6 hown6 hgrow6 hblk6; have HO6 : Hid (w6.ownsRow w4.heap.size 3 1 v6 (k + 1) ((tab (k + 1) fun j => (ps j).1).map (Value.int .i64))) := (by rw [HT1.out, HM0.out, List.map_append]; exact Lib.hid hown6); have HB6 : Hid (Below w4.heap.size w4 w6) := Lib.hid ((HB5.out.alloc hs5 _).grown hgrow6 (by simp; omega) (fun j e => (HMS5.out.1.lt j e).1)); have HU6 : Hid (w6.ownsRow w4.heap.size 3 1 (.slice au k cu) k ((tab k fun j => (ps j).2).map (Value.int .i64))) := Lib.hid ((Turn.of_grown hgrow6 (fun _ e => e) : Turn (fun j => (Value.slice av k cv).ownBlock = some j) _ w6).kept (HMS5.out.2.1.alloc _) (fun g hg hj => HMS5.out.2.2 g hj hg)); have HD6 : Hid (∀ g, v6.ownBlock = some g → (Value.slice au k cu).ownBlock ≠ some g) := Lib.hid (fun g hg hu => (hblk6 g hg).elim (fun h => HMS5.out.2.2 g h hu) (fun h => by have := (HMS5.out.2.1.lt g hu).2; simp at h; omega)); have HBW6 := Lib.hid (HB4.out.trans (HB6.out.mono hs4)); have q1 := HP1.out _ HBW6.out; have hs6 := HB6.out.size; clear hown6 hgrow6 hblk6))
            | (at_builtin; (refine wpList_append_at _ rfl (.tmp 71) (.tmp 77) 33 rfl w4.heap.size 3 i0 _ 1 8 Tryz.underlying33 hi hz0 hz1 hz2 rfl (by decide) (.slice au k cu) k _ rfl (HU6.out.alloc _) ⟨w6.heap.size, 0, none⟩ 1 1 [.int .i64 sd] rfl (by omega) rfl (cell_new1 _ _ _) (by simp [Value.oneCell']) (by unfold maxLen; omega) (by omega) (by simp; omega) ?_; intro v7 w7 hown7 hgrow7 hblk7; have HU7 : Hid (w7.ownsRow w4.heap.size 3 1 v7 (k + 1) ((tab (k + 1) fun j => (ps j).2).map (Value.int .i64))) := (by rw [HT2.out, HSD.out, List.map_append]; exact Lib.hid hown7); have HB7 : Hid (Below w4.heap.size w4 w7) := Lib.hid ((HB6.out.alloc hs6 _).grown hgrow7 (by simp; omega) (fun j e => (HU6.out.lt j e).1)); have HO7 : Hid (w7.ownsRow w4.heap.size 3 1 v6 (k + 1) ((tab (k + 1) fun j => (ps j).1).map (Value.int .i64))) := Lib.hid ((Turn.of_grown hgrow7 (fun _ e => e) : Turn (fun j => (Value.slice au k cu).ownBlock = some j) _ w7).kept (HO6.out.alloc _) (fun g hg hj => HD6.out g hg hj)); have HD7 : Hid (∀ g, v6.ownBlock = some g → v7.ownBlock ≠ some g) := Lib.hid (fun g hg hu => (hblk7 g hu).elim (fun h => HD6.out g hg h) (fun h => by have := (HO6.out.lt g hg).2; simp at h; omega)); clear hown7 hgrow7 hblk7)))
          go_roundw
          case rel => exact ⟨k + 1, by omega, by go_num, ⟨HO7.out, HU7.out, HD7.out⟩, HB7.out⟩
          case measure => simp [intOf]; omega
        · obtain rfl : k = m := by omega
          obtain ⟨av, cv, rfl⟩ := own_slice H.out.1.1
          obtain ⟨au, cu, rfl⟩ := own_slice H.out.1.2.1
          have HM := Lib.hid (ints_of_own H.out.1.1)
          have HU := Lib.hid (ints_of_own H.out.1.2.1)
          have HB5 := Lib.hid (HB4.out.trans (H.out.2.mono hs4))
          have HL5 : Hid (Lists wr w3.heap.size (.slice A n C) (linesL R n ps G k n)) := by
            exact Lib.hid ((lists_below HL4.out H.out.2))
          clear H
          generalize wr = w5 at *
          go_wp2
          go_loopw [12] (fun i wr => ∃ q : Nat, q ≤ n ∧ i = .int .i64 q ∧ Hid (Below w5.heap.size w5 wr)) (fun i _ => n - (intOf i).toNat)
          case atStart => exact ⟨0, Nat.zero_le _, rfl, Below.refl _ _⟩
          case round =>
            obtain ⟨q, hq, rfl, H⟩ := hrel
            by_cases hqt : q < n
            · have hqt1 : (q : Int) < n := by omega
              obtain ⟨g4, rfl, hg4, hat⟩ := lists_own HL5.out (by rw [hlen]; omega)
              obtain ⟨a5, n5, c5, hcell, ho5⟩ := hat q (lineL R n ps G k q) (by unfold linesL; rw [List.getElem?_map, List.getElem?_range hqt]; rfl)
              have hcell := (H.out.cell (p := ⟨g4, q, none⟩) hg4).trans hcell
              have HI5 := Lib.hid ((ints_of_own ho5).below H.out)
              have HN5 := Lib.hid HI5.out.1
              have HB6 := Lib.hid (HB5.out.trans (H.out.mono HB5.out.size))
              have HLI := Lib.hid (line_ref a n c R wr.drew (HH.out.below HB6.out.drew) HS.out hn q hqt gap G HG.out av k cv au k cu rfl ps (by omega) (HM.out.below H.out.drew) (HU.out.below H.out.drew))
              have hgr := Nat.lt_of_lt_of_le hg4 H.out.size
              have hn5 : n5 ≤ 100000 := by have := HN5.out; have := line_len HS.out HLR.out ps G k q (by have := HG.out; omega) (by omega); omega
              clear hat ho5
              generalize lineL R n ps G k q = LL at *
              go_wp2
              refine region_begin (fun w' => w'.cell? ⟨g4, q, none⟩ = some (.slice a5 n5 c5)) (fun _ => false) hmx ?_
              have hS : wr.drew.cell? ⟨g4, q, none⟩ = some (.slice a5 n5 c5) := hcell
              refine take_first (i := 0) rfl (by kernel_rfl) (by kernel_rfl) (by kernel_rfl) (by kernel_rfl) (fun _ _ _ h => h) hS (.inl ⟨by rfl, fun w' hw' => by have e0 : w'.cell? ⟨g4, q, none⟩ = some (.slice a5 n5 c5) := hw'; go_simp; try with_reducible rfl⟩) ?_
              refine take_first (i := 1) rfl (by kernel_rfl) (by kernel_rfl) (by kernel_rfl) (by kernel_rfl) (fun _ _ _ h => h) hS (.inl ⟨by rfl, fun w' hw' => by have e0 : w'.cell? ⟨g4, q, none⟩ = some (.slice a5 n5 c5) := hw'; go_simp; try with_reducible rfl⟩) ?_
              refine take_first (i := 2) rfl (by kernel_rfl) (by kernel_rfl) (by kernel_rfl) (by kernel_rfl) (fun _ _ _ h => h) hS (.inl ⟨by rfl, fun w' hw' => by have e0 : w'.cell? ⟨g4, q, none⟩ = some (.slice a5 n5 c5) := hw'; go_simp; try with_reducible rfl⟩) ?_
              refine take_first (i := 3) rfl (by kernel_rfl) (by kernel_rfl) (by kernel_rfl) (by kernel_rfl) (fun _ _ _ h => h) hS (.inl ⟨by rfl, fun w' hw' => by have e0 : w'.cell? ⟨g4, q, none⟩ = some (.slice a5 n5 c5) := hw'; go_simp; try with_reducible rfl⟩) ?_
              refine take_first (i := 4) rfl (by kernel_rfl) (by kernel_rfl) (by kernel_rfl) (by kernel_rfl) (fun _ _ _ h => h) hS (.inl ⟨by rfl, fun w' hw' => by have e0 : w'.cell? ⟨g4, q, none⟩ = some (.slice a5 n5 c5) := hw'; go_simp; try with_reducible rfl⟩) ?_
              refine take_first (i := 5) rfl (by kernel_rfl) (by kernel_rfl) (by kernel_rfl) (by kernel_rfl) (fun _ _ _ h => h) hS (.inl ⟨by rfl, fun w' hw' => by have e0 : w'.cell? ⟨g4, q, none⟩ = some (.slice a5 n5 c5) := hw'; go_simp; try with_reducible rfl⟩) ?_
              refine take_first (i := 6) rfl (by kernel_rfl) (by kernel_rfl) (by kernel_rfl) (by kernel_rfl) (fun _ _ _ h => h) hS (.inl ⟨by rfl, fun w' hw' => by have e0 : w'.cell? ⟨g4, q, none⟩ = some (.slice a5 n5 c5) := hw'; go_simp; try with_reducible rfl⟩) ?_
              refine take_first (i := 7) rfl (by kernel_rfl) (by kernel_rfl) (by kernel_rfl) (by kernel_rfl) (fun _ _ _ h => h) hS (.inl ⟨by rfl, fun w' hw' => by have e0 : w'.cell? ⟨g4, q, none⟩ = some (.slice a5 n5 c5) := hw'; go_simp; try with_reducible rfl⟩) ?_
              refine take_first (i := 8) rfl (by kernel_rfl) (by kernel_rfl) (by kernel_rfl) (by kernel_rfl) (fun _ _ _ h => h) hS (.inl ⟨by rfl, fun w' hw' => by have e0 : w'.cell? ⟨g4, q, none⟩ = some (.slice a5 n5 c5) := hw'; go_simp; try with_reducible rfl⟩) ?_
              refine take_g (i := 9) (by kernel_rfl) rfl rfl fun K hK => ?_
              go_wp2_with fail
              refine HLI.out.mono ?_
              rintro e w6 hF
              obtain ⟨a6, c6, rfl, hi6, hb6⟩ := fresh_ints hF
              have HI6 := Lib.hid hi6
              have B6 : Below wr.heap.size wr w6 := (Below.refl wr.heap.size wr).drew.trans hb6
              have HI5b := Lib.hid (HI5.out.below B6)
              have HB7 := Lib.hid (H.out.trans (B6.mono H.out.size))
              have hS6 := (B6.cell (p := ⟨g4, q, none⟩) hgr).trans hcell
              have hll : LL.length = n5 := HN5.out
              rw [hll] at HI6 ⊢
              refine hK _ _ (.inr hS6) ?_
              clear hK hF hi6 hb6 B6 HI5 H HLI hS hcell hll
              refine take_g (i := 10) (by kernel_rfl) rfl rfl fun K hK => ?_
              go_wp2_with fail
              refine (same_true _ _ _ _ _ _ _ w6 HI5b.out HI6.out (by omega)).mono ?_
              rintro e w7 ⟨rfl, hb7⟩
              have HB8 := Lib.hid (HB7.out.trans (hb7.mono HB7.out.size))
              have hS7 := (hb7.cell (p := ⟨g4, q, none⟩) (Nat.lt_of_lt_of_le hg4 HB7.out.size)).trans hS6
              refine hK _ _ (.inr hS7) ?_
              clear hK hb7 HI5b HI6 HB7 hS6
              refine take_g (i := 11) (by kernel_rfl) rfl rfl fun K hK => ?_
              go_wp2
              refine hK _ _ (.inr hS7) ?_
              clear hK hS7
              refine take_done (by kernel_rfl) ?_ _
              go_wp2
              go_roundw
              case rel => exact ⟨q + 1, by omega, by go_num, HB8.out⟩
              case measure => simp [intOf]; omega
            · obtain rfl : q = n := by omega
              have HBE := Lib.hid (HB5.out.trans (H.out.mono HB5.out.size))
              clear H
              go_wp2
              go_ret
              exact ⟨rfl, HBE.out⟩
  · go_wp2_with fail
    refine (works_any _).mono ?_; rintro e w3 ⟨rfl, hb3⟩
    have hb3 := hb1.trans (hb3.mono hb1.size)
    go_wp2
    go_ret
    exact ⟨rfl, hb3⟩

end Go.Proofs.YtcbfmokafmagpaaGreat.Tbl

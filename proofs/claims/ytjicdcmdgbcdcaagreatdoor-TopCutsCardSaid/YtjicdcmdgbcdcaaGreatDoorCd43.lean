/-
  fit.cut, fit.Resize.
-/
import Derived.Test.YtjicdcmdgbcdcaaGreatDoorCd42

section
namespace Go.Proofs.YtjicdcmdgbcdcaaGreatDoor.Scr
set_option linter.unusedSimpArgs false
set_option linter.unusedVariables false
open Go Go.RowKit Mem Turn Ring

/-- the front of a block, read as a slice of cells -/
theorem front_cells {w : World} {g n c : Nat} {cur : Array Value} {rs : List (Int × Value)} {cs : List CellC} (hg : w.heap[g]? = some (.cells cur 80 (0, 0))) (ht : cur.toList.take (n * 2) = flatC rs) (hx : Txts w rs cs) (hn : cs.length = n) (hc : n ≤ c) (hs : n ≤ 100000) :
    CellsAt (fun _ => True) False w (.slice (some ⟨g, 0, none⟩) n c) cs := by
  subst hn
  refine ⟨_, c, rfl, hc, by omega, .inr ⟨g, 0, rfl, (Array.getElem?_eq_some_iff.1 hg).1, trivial, fun j x hj => ?_⟩⟩
  obtain ⟨r, hr⟩ : ∃ r, rs[j]? = some r := ⟨_, List.getElem?_eq_getElem (by rw [hx.1]; exact (List.getElem?_eq_some_iff.1 hj).1)⟩
  obtain ⟨e1, e3⟩ := hx.2 j r x hr hj
  obtain ⟨g1, g2⟩ := flatC_get hr
  have hget : ∀ t u, (flatC rs)[t]? = some u → w.cell? ⟨g, t, none⟩ = some u := by
    intro t u hu
    rw [← ht, List.getElem?_take] at hu
    split at hu
    · simp only [World.cell?, hg]
      simpa using hu
    · cases hu
  rw [Nat.zero_add]
  exact ⟨by rw [← e1]; exact hget _ _ g1, fun f => f.elim, r.2, hget _ _ g2, TextAt.mono e3 (fun _ _ _ => trivial)⟩
theorem CO.block {w : World} {B g n c : Nat} {cs : List CellC} (h : CO w B g n c cs) : ∃ cur rs, w.heap[g]? = some (.cells cur 80 (0, 0)) ∧ cur.size = c * 2 ∧ cur.toList.take (n * 2) = flatC rs ∧ Txts w rs cs := by
  obtain ⟨rfl, rs, h1, h2⟩ := h
  obtain ⟨cur, hg, _, _, h5, h6, _⟩ := own_block h1
  exact ⟨cur, rs, hg, h5, h6, h2⟩
/-- append to the front of a block, its capacity shut -/
theorem append_front (w : World) (B g N c n m vb : Nat) (cs ds : List CellC) (h : CO w B g N c cs) (hv : CO w 0 vb m m ds) (hn : n ≤ N) (hn1 : n ≤ 10000) (hm1 : m ≤ 10000) :
    ∃ v5 w5, (∀ ty, (Builtin.append_ #[43, 43] ty #[.slice (some ⟨g, 0, none⟩) n n, .slice (some ⟨vb, 0, none⟩) m m]).run Tryz.prog w = .ok v5 w5) ∧ CellsAt (fun _ => True) False w5 v5 (cs.take n ++ ds) ∧ Turn (fun b => b = g) w w5 := by
  obtain ⟨i0, hi0, hz0, hz1, hz2⟩ := info_parts info_cell
  have hcl := h.1
  have hvl := hv.1
  have hf := h.free
  obtain ⟨cur, rs, hg, hcs, hct, htx⟩ := h.block
  obtain ⟨cuv, vs, hgv, hvs, hvt, htv⟩ := hv.block
  have hlo := h.lo
  have ht : cur.toList.take (n * 2) = flatC (rs.take n) := by rw [flatC_take, ← hct, List.take_take, Nat.min_eq_left (by omega)]
  have hvl2 : (flatC vs).length = m * 2 := by rw [flatC_len, htv.1, ← hvl]
  have hvc : ∀ t u, (flatC vs)[t]? = some u → w.cell? ((⟨vb, 0, none⟩ : Addr).add t) = some u := by
    intro t u hu
    rw [Gra.add_none, Nat.zero_add]
    rw [← hvt, List.getElem?_take] at hu
    split at hu
    · simp only [World.cell?, hgv]
      simpa using hu
    · cases hu
  have hv1 := flatC_one _ htv.one
  have hlen : (cs.take n).length = n := by rw [List.length_take, ← hcl]; omega
  have hrl : (rs.take n).length = n := by rw [List.length_take, htx.1, ← hcl]; omega
  by_cases hm : m = 0
  · subst hm
    have hd0 : ds = [] := List.length_eq_zero_iff.1 hvl.symm
    have hv0 : vs = [] := List.length_eq_zero_iff.1 (by rw [htv.1, ← hvl])
    subst hd0 hv0
    refine ⟨_, _, fun ty => run_append_rowk w _ ty 80 i0 2 Tryz.underlying43 hi0 hz1 g 0 n n ⟨vb, 0, none⟩ 0 0 (flatC []) (by simp [flatC]) (fun j u hu => by simp [flatC] at hu) (fun u hu => by simp [flatC] at hu) (Nat.le_refl _) cur _ hg (by rw [hcs]; simp [flatC]; omega), ?_, turn_setRow _ _ _⟩
    rw [List.append_nil]
    refine front_cells (setRow_heap w g cur _ _ _ hg) ?_ ((htx.take n).turn (turn_setRow _ _ _) hf) hlen (Nat.le_refl _) (by omega)
    rw [← ht]
    simp [flatC]
  · have hold : (Builtin.firstCells i0.size n (.slice (some ⟨g, 0, none⟩) n n)).run Tryz.prog w.drew = .ok (flatC (rs.take n)).toArray w.drew := by
      rw [hz1]
      refine run_firstCells_some w.drew 2 n ⟨g, 0, none⟩ n n _ (by rw [flatC_len, hrl]) (fun j v hj => ?_)
      rw [Gra.add_none, Nat.zero_add]
      rw [← ht, List.getElem?_take] at hj
      split at hj
      · simp only [World.cell?, World.drew, hg]
        simpa using hj
      · cases hj
    have T : Turn (fun b => b = g) w (w.drew.alloc (.cells ((flatC (rs.take n) ++ flatC vs).toArray ++ Builtin.zeroCells #[Value.int .i64 0, .slice none 0 0] (grownCap w (n + m) n 80 - (n + m))) 80)) := (Turn.drew _ _).trans (Turn.alloc _ _ _)
    refine ⟨_, _, fun ty => run_append_grow_src w _ _ ty 80 i0 _ Tryz.underlying43 hi0 hz0 (some ⟨g, 0, none⟩) n n _ hold _ m (flatC vs) (by rw [hz1]; exact Go.Src.ofSlice w Tryz.underlying43 _ m m _ hvl2 hvc hv1) (by omega) (by omega) (by rw [hz2]; exact growslice_fits (by omega) (by omega)), ?_, T⟩
    have hnew := heap_alloc_new w.drew (.cells ((flatC (rs.take n) ++ flatC vs).toArray ++ Builtin.zeroCells #[Value.int .i64 0, .slice none 0 0] (grownCap w (n + m) n 80 - (n + m))) 80)
    refine front_cells hnew ?_ (((htx.take n).app htv).turn T hf) (by rw [List.length_append, hlen, ← hvl]) (grownCap_ge w _ _ _) (by omega)
    rw [flatC_app, Array.toList_append]
    simp only
    rw [List.take_append_of_le_length (by rw [List.length_append, flatC_len, hrl, hvl2]; omega), List.take_of_length_le (by rw [List.length_append, flatC_len, hrl, hvl2]; omega)]

set_option maxRecDepth 100000 in
set_option maxHeartbeats 8000000 in
theorem cut_any (B g N c n : Nat) (cs : List CellC) (w : World) (h : CO w B g N c cs) (hn1 : 1 ≤ n) (hn : n ≤ N) (hN : N ≤ 10000) :
    Calls Tryz.prog 122 #[.slice (some ⟨g, 0, none⟩) N c, .int .i64 (n : Int)] w fun e w' => e = .returned (.slice (some ⟨g, 0, none⟩) n n) ∧ (∃ cs1, CO w' B g N c cs1 ∧ cs1.take n = cutC cs n) ∧ Turn (fun b => b = g) w w' := by
  have hmx : Tryz.prog.follows .mixedOrders = true := by kernel_rfl
  obtain ⟨i0, hi0, hz0, hz1, hz2⟩ := info_parts info_cell
  obtain ⟨p, rfl⟩ : ∃ p, n = p + 1 := ⟨n - 1, by omega⟩
  obtain ⟨v, x0, x1, x2, x3⟩ := h.cell (i := p) (by omega)
  have hlo := h.lo.2
  have hka : kindAt (cs.take (p + 1)) p = kindAt cs p := by
    unfold kindAt
    rw [List.getD_eq_getElem?_getD, List.getD_eq_getElem?_getD, List.getElem?_take, if_pos (by omega)]
  have hcut : cutC cs (p + 1) = if kindAt cs p = 2 then (cs.take (p + 1)).set p blank else cs.take (p + 1) := by
    unfold cutC
    rw [show p + 1 - 1 = p from rfl, hka]
    by_cases hk : kindAt cs p = 2
    · rw [if_pos ⟨by omega, hk⟩, if_pos hk]
    · rw [if_neg (fun e => hk e.2), if_neg hk]
  have hi1 : ((p : Int) + 1) ≤ (N : Int) := by omega
  have hi2 : ((p : Int) + 1) ≤ (c : Int) := by omega
  have hi3 : p + 1 ≤ c := by omega
  have hi4 : (0 : Int) < (p : Int) + 1 := by omega
  by_cases hk : kindAt cs p = 2
  · have HF : Hid ((∃ cs1, CO (putW w g p 0 (.slice none 0 0)) B g N c cs1 ∧ cs1.take (p + 1) = cutC cs (p + 1)) ∧ Turn (fun b => b = g) w (putW w g p 0 (.slice none 0 0))) := Lib.hid (by
      refine ⟨⟨_, h.blank (i := p) (by omega), ?_⟩, putW_turn _ _ _ _ _⟩
      rw [hcut, if_pos hk, List.take_set])
    rw [hk] at x0
    clear h hcut hka
    go_enter Tryz.func122, Tryz.ntmps122
    go_wp2_with fail
    go_ret
    exact ⟨rfl, HF.out⟩
  · have HF : Hid ((∃ cs1, CO w B g N c cs1 ∧ cs1.take (p + 1) = cutC cs (p + 1)) ∧ Turn (fun b => b = g) w w) := Lib.hid (by
      refine ⟨⟨cs, h, ?_⟩, Turn.refl _ _⟩
      rw [hcut, if_neg hk])
    have hk' : (kindAt cs p == 2) = false := by simpa using hk
    generalize kindAt cs p = kd at *
    clear h hcut hka
    go_enter Tryz.func122, Tryz.ntmps122
    go_wp2_with fail
    go_ret
    exact ⟨rfl, HF.out⟩

theorem fitC_eq (cs : List CellC) (w n : Nat) (hn : n = min w cs.length) : fitC cs w = cutC cs n ++ blanks (w - n) := by subst hn; rfl

set_option maxRecDepth 100000 in
set_option maxHeartbeats 8000000 in
theorem fitres_any (ρ κ : Nat) (l : LineC) (w2 : Nat) (w : World) (h : RowAt w ρ κ l) (hs : soundB l.1 = true) (h1 : 1 ≤ w2) (h2 : w2 ≤ 1024) :
    Calls Tryz.prog 72 #[ptr ρ, .int .i64 (w2 : Int)] w fun e w' => ∃ ρ' κ', e = .returned (ptr ρ') ∧ RowAt w' ρ' κ' (fitC l.1 w2, false) ∧ w.heap.size ≤ ρ' ∧ w.heap.size ≤ κ' ∧ Below w.heap.size w w' := by
  have hmx : Tryz.prog.follows .mixedOrders = true := by kernel_rfl
  have hpos := h.pos
  have hle := h.le
  obtain ⟨N, hN⟩ : ∃ N, N = l.1.length := ⟨_, rfl⟩
  rw [← hN] at hpos hle
  obtain ⟨n, hn⟩ : ∃ n, n = min w2 N := ⟨_, rfl⟩
  have HFE := Lib.hid (fitC_eq l.1 w2 n (by rw [← hN]; exact hn))
  have hn1 : 1 ≤ n := by omega
  have hn2 : n ≤ N := by omega
  have hn3 : n ≤ w2 := by omega
  have HC := Lib.hid (cells_any ρ κ l w h)
  have HSO := Lib.hid (fitC_sound l.1 w2 hs)
  have HFL := Lib.hid (fitC_len l.1 w2)
  have HW : Hid (∀ W', Below w.heap.size w W' → Calls Tryz.prog 77 #[.pointer (some ⟨ρ, 0, none⟩)] W' fun e w' => e = .returned (.int .i64 (N : Int)) ∧ W' = w') := Lib.hid fun W' hb => by
    have := wide_any ρ κ l W' (h.turn (Turn.of_new hb : Turn (fun _ => False) w W') (Free.no _ _) id id)
    rw [← hN] at this
    exact this
  have hmin : min (w2 : Int) (N : Int) = (n : Int) := by omega
  have hm1 : min (w2 : Int) 1024 = (w2 : Int) := by omega
  have hm2 : max 1 (w2 : Int) = (w2 : Int) := by omega
  obtain ⟨m, hm⟩ : ∃ m, m = w2 - n := ⟨_, rfl⟩
  have hwm : IntKind.i64.wrap ((w2 : Int) - (n : Int)) = (m : Int) := by rw [IntKind.wrap_i64]; omega
  rw [← hm] at HFE
  have HB := Lib.hid (fun w => blanks_any (m : Int) m (by omega) w)
  have HNN := Lib.hid hN
  have hmm : m ≤ 1024 := by omega
  replace hm := Lib.hid hm
  clear h hs hn hN
  go_enter Tryz.func72, Tryz.ntmps72
  go_wp2_with fail
  refine HC.out.mono ?_
  rintro e w1 ⟨v, rfl, ho, hb1⟩
  obtain ⟨g, c, rfl, hco⟩ := CO.of_own ho (by rw [← HNN.out]; exact hpos)
  rw [← HNN.out] at hco ⊢
  have HB1 := Lib.hid hb1
  have hgw := hco.lo.1
  have HCO := Lib.hid hco
  clear ho hb1 hco HC
  go_wp2_with fail
  refine (HW.out _ HB1.out).mono ?_
  rintro e wx ⟨rfl, rfl⟩
  have HCUT := Lib.hid (cut_any w.heap.size g N c n l.1 w1 HCO.out hn1 hn2 (by omega))
  clear HW
  go_wp2_with fail
  refine HCUT.out.mono ?_
  rintro e w2_ ⟨rfl, ⟨cs1, hc1, he1⟩, ht1⟩
  have HB2 := Lib.hid (HB1.out.trans (ht1.below HB1.out.size (fun j e => by rw [e]; exact hgw)))
  have HC1 := Lib.hid hc1
  have HE1 := Lib.hid he1
  clear hc1 he1 ht1 HCUT HCO HB1
  go_wp2_with fail
  refine (HB.out _).mono ?_
  rintro e w3 ⟨rfl, rfl⟩
  have T3 : Turn (fun _ => False) w2_ (w2_.alloc (.cells (flatC (List.replicate m (0, .slice none 0 0))).toArray 80)) := Turn.alloc _ _ _
  have HV := Lib.hid ((CO.blanks w2_ m hmm).base (Nat.zero_le _))
  have HB3 : Hid (Below w.heap.size w (w2_.alloc (.cells (flatC (List.replicate m (0, .slice none 0 0))).toArray 80))) := Lib.hid (HB2.out.alloc HB2.out.size _)
  have HC3 := Lib.hid (HC1.out.turn T3 (Free.no _ _) id)
  clear T3 HC1 HB2
  generalize (w2_.alloc (.cells (flatC (List.replicate m (0, .slice none 0 0))).toArray 80)) = w4 at *
  generalize w2_.heap.size = vb at *
  obtain ⟨v5, w5, hrun, hca, ht5⟩ := append_front w4 w.heap.size g N c n m vb cs1 (blanks m) HC3.out HV.out hn2 (by omega) (by omega)
  have HRUN := Lib.hid hrun
  rw [HE1.out, ← HFE.out] at hca
  have HOF := Lib.hid (fitof_any _ v5 _ w5 hca (by rw [HFL.out]; exact h1) (by rw [HFL.out]; exact h2) HSO.out)
  have HB5 := Lib.hid (HB3.out.trans (ht5.below HB3.out.size (fun j e => by rw [e]; exact hgw)))
  clear hrun hca ht5 HV HC3 HB3 HB
  go_wp2_with (at_builtin; refine Lib.wpList_append_run _ rfl _ _ _ _ rfl (.slice (some ⟨g, 0, none⟩) n n) (.slice (some ⟨vb, 0, none⟩) m m) rfl rfl _ _ (HRUN.out _) ?_)
  refine HOF.out.mono ?_
  rintro e w6 ⟨ρ', κ', rfl, hr, h3, h4, h5⟩
  have HF : Hid (RowAt w6 ρ' κ' (fitC l.1 w2, false) ∧ w.heap.size ≤ ρ' ∧ w.heap.size ≤ κ' ∧ Below w.heap.size w w6) := Lib.hid ⟨hr, Nat.le_trans HB5.out.size h3, Nat.le_trans HB5.out.size h4, HB5.out.trans (h5.mono HB5.out.size)⟩
  clear hr h3 h4 h5 HOF
  go_wp2_with fail
  go_ret
  exact ⟨ρ', κ', rfl, HF.out⟩
end Go.Proofs.YtjicdcmdgbcdcaaGreatDoor.Scr
end

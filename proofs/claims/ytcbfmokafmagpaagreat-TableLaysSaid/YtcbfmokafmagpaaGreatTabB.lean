/-
  table.Lines. Printed by gen_tabl.py.
  The plain law of TableEven; the law's works of layer 60.
  The law's works of layer 60.
-/
import Derived.Test.YtcbfmokafmagpaaGreatTabA
import Derived.Test.YtcbfmokafmagpaaGreatEven
import Derived.Test.YtcbfmokafmagpaaGreatJustW
namespace Go.Proofs.YtcbfmokafmagpaaGreat.Tbl
set_option linter.unusedSimpArgs false
set_option linter.unusedVariables false
open Go Go.RowKit Go.Shelf Mem Turn Gra Same GraLaw Mea Rep Just

theorem fit_one {xs ms : List Int} {x side : Int} {o p : List Int} (h : FitP xs ms x side o) (h' : FitP xs ms x side p) : o = p := by
  rcases h with ⟨h1, rfl⟩ | ⟨h1, h2, k, hk, rfl⟩ | ⟨h1, h2, k, hk, rfl⟩ <;> rcases h' with ⟨g1, rfl⟩ | ⟨g1, g2, j, hj, rfl⟩ | ⟨g1, g2, j, hj, rfl⟩ <;> first | omega | (obtain rfl := headP_one hk hj; rfl) | rfl
theorem pad_len (xs : List Int) (x side : Int) : (padL xs x side).length ≤ xs.length + 1024 := by
  have hh := hold_le x
  have hw := wsum_le (itms xs)
  have h1 : padN xs x ≤ 1024 := by unfold padN; omega
  have h2 := padA_le xs x side
  rw [padL_app]
  simp only [List.length_append, List.length_replicate, List.length_nil]
  omega
theorem fit_len {xs ms : List Int} {x side : Int} {o : List Int} (h : FitP xs ms x side o) : o.length ≤ xs.length + ms.length + 1024 := by
  rcases h with ⟨_, rfl⟩ | ⟨_, _, k, _, rfl⟩ | ⟨_, _, k, _, rfl⟩
  · have := pad_len xs x side; omega
  · have := pad_len (xs.take (st (Jn xs) xs.length k)) x side; rw [List.length_take] at this; omega
  · have := pad_len (xs.take (st (Jn xs) xs.length k) ++ ms) x side; rw [List.length_append, List.length_take] at this; omega

/-- a text brought to a width -/
noncomputable def fitV (xs : List Int) (x side : Int) : List Int := Classical.epsilon (FitP xs [] x side)
theorem fitV_eq {xs : List Int} {x side : Int} {o : List Int} (h : FitP xs [] x side o) : o = fitV xs x side := fit_one h (Classical.epsilon_spec ⟨o, h⟩)
theorem fitV_ok {xs : List Int} {x side : Int} {o : List Int} (h : FitP xs [] x side o) : FitP xs [] x side (fitV xs x side) := Classical.epsilon_spec ⟨o, h⟩

/-- the texts of row r -/
noncomputable def lnF (R : List (List (List Int))) (n : Nat) (ps : Nat → Int × Int) (r k : Nat) : List Int := fitV ((R.getD r []).getD k []) (lim (mx R k n) (ps k).1) (ps k).2
noncomputable def lineL (R : List (List (List Int))) (n : Nat) (ps : Nat → Int × Int) (g m r : Nat) : List Int := ln (lnF R n ps r) g m
/-- the lines of the first r rows -/
noncomputable def linesL (R : List (List (List Int))) (n : Nat) (ps : Nat → Int × Int) (g m r : Nat) : List (List Int) := (List.range r).map (lineL R n ps g m)
theorem linesL_next (R : List (List (List Int))) (n : Nat) (ps : Nat → Int × Int) (g m r : Nat) : linesL R n ps g m (r + 1) = linesL R n ps g m r ++ [lineL R n ps g m r] := by
  unfold linesL; rw [List.range_succ]; simp
theorem linesL_len (R : List (List (List Int))) (n : Nat) (ps : Nat → Int × Int) (g m r : Nat) : (linesL R n ps g m r).length = r := by simp [linesL]

/-- a row of texts, each in memory of its own -/
def Outs (w : World) (base b' : Nat) (vo : Value) (o : List (List Int)) : Prop :=
  ∃ vs : List Value, vs.length = o.length ∧ w.ownsRow base 22 1 vo o.length vs ∧ ∀ (i : Nat) (xs : List Int), o[i]? = some xs → ∃ a n c, vs[i]? = some (.slice a n c) ∧ w.ownsRow base 21 1 (.slice a n c) n (xs.map (Value.int .i32)) ∧ ∀ g, (Value.slice a n c).ownBlock = some g → g < b'
theorem Outs.keep {w w' : World} {base b' : Nat} {vo : Value} {o : List (List Int)} {T : Nat → Prop} (h : Outs w base b' vo o) (ht : Turn T w w') (hT : ∀ j, T j → vo.ownBlock ≠ some j ∧ (j < base ∨ b' ≤ j)) : Outs w' base b' vo o := by
  obtain ⟨vs, h1, h2, h3⟩ := h
  refine ⟨vs, h1, ht.kept h2 (fun g hg hj => (hT g hj).1 hg), fun i xs hx => ?_⟩
  obtain ⟨a, n, c, e1, e2, e3⟩ := h3 i xs hx
  refine ⟨a, n, c, e1, ht.kept e2 (fun g hg hj => ?_), e3⟩
  have h5 := e3 g hg
  have h6 := (e2.lt g hg).1
  have h7 := (hT g hj).2
  omega
theorem Outs.below {w w' : World} {base b' : Nat} {vo : Value} {o : List (List Int)} (h : Outs w base b' vo o) (hb : Below w.heap.size w w') : Outs w' base b' vo o :=
  h.keep (Turn.of_new hb : Turn (fun _ => False) w w') (fun _ h => h.elim)
theorem Outs.lists {w : World} {base b' : Nat} {v : Value} {o : List (List Int)} (h : Outs w base b' v o) : Lists w base v o := by
  obtain ⟨vs, h1, h2, h3⟩ := h
  refine ⟨vs, h1, h2, fun i xs hx => ?_⟩
  obtain ⟨a, n, c, e1, e2, _⟩ := h3 i xs hx
  exact ⟨a, n, c, e1, e2⟩
theorem Outs.vo {w : World} {base b' : Nat} {v : Value} {o : List (List Int)} (h : Outs w base b' v o) : ∃ a c, v = .slice a o.length c := by
  obtain ⟨vs, _, h2, _⟩ := h; exact own_slice h2
theorem Outs.mono {w : World} {base base' b' : Nat} {v : Value} {o : List (List Int)} (h : Outs w base b' v o) (hb : base' ≤ base) : Outs w base' b' v o := by
  obtain ⟨vs, h1, h2, h3⟩ := h
  refine ⟨vs, h1, h2.mono hb, fun i xs hx => ?_⟩
  obtain ⟨a, n, c, e1, e2, e3⟩ := h3 i xs hx
  exact ⟨a, n, c, e1, e2.mono hb, e3⟩
theorem Outs.nil (w : World) (base b' : Nat) : Outs w base b' (.slice none 0 0) [] := ⟨[], rfl, World.ownsRow_nil _ _ _ _, fun i xs hx => by simp at hx⟩
theorem Outs.push {w w2 : World} {base b' : Nat} {vo vl v2 : Value} {o : List (List Int)} {l : List Int} {vs : List Value} (h1 : vs.length = o.length) (h2 : w.ownsRow base 22 1 vo o.length vs)
    (h3 : ∀ (i : Nat) (xs : List Int), o[i]? = some xs → ∃ a n c, vs[i]? = some (.slice a n c) ∧ w.ownsRow base 21 1 (.slice a n c) n (xs.map (Value.int .i32)) ∧ ∀ g, (Value.slice a n c).ownBlock = some g → g < b')
    (hl : w.ownsRow b' 21 1 vl l.length (l.map (Value.int .i32))) (hbb : base ≤ b') (hown : w2.ownsRow base 22 1 v2 (o.length + 1) (vs ++ [vl])) (hgrow : w.grownBy w2 vo.ownBlock) : Outs w2 base w2.heap.size v2 (o ++ [l]) := by
  have T2 : Turn (fun j => vo.ownBlock = some j) w w2 := Turn.of_grown hgrow (fun _ e => e)
  refine ⟨vs ++ [vl], by simp [h1], by simpa using hown, fun i xs hx => ?_⟩
  rcases Nat.lt_or_ge i o.length with hi | hi
  · rw [List.getElem?_append_left hi] at hx
    obtain ⟨a, n, c, e1, e2, e3⟩ := h3 i xs hx
    have e2' := T2.kept e2 (fun g hg hj => rows_ne h2 e2 (by decide) hj hg)
    exact ⟨a, n, c, by rw [List.getElem?_append_left (by omega)]; exact e1, e2', fun g hg => (e2'.lt g hg).2⟩
  · have hi' : i = o.length := by
      have := (List.getElem?_eq_some_iff.1 hx).1
      simp at this; omega
    subst hi'
    rw [List.getElem?_append_right (Nat.le_refl _)] at hx
    simp at hx
    subst hx
    obtain ⟨a, c, rfl⟩ := own_slice hl
    have e2' := T2.kept (hl.mono hbb) (fun g hg hj => rows_ne h2 hl (by decide) hj hg)
    exact ⟨a, _, c, by rw [List.getElem?_append_right (by omega), h1]; simp, e2', fun g hg => (e2'.lt g hg).2⟩

/-- a row lies in no block of another type -/
theorem own_ne {w : World} {base e : Nat} {n q : Nat} {v : Value} {xs : List Value} {cs : Array Value} {T : Nat} {fr : Nat × Nat} (h : w.ownsRow base e 1 v n xs) (hq : w.heap[q]? = some (.cells cs T fr)) (hne : T ≠ e) : v.ownBlock ≠ some q := by
  rcases h.2 with ⟨rfl, _⟩ | ⟨g, c, cur, rfl, _, hh, _⟩
  · intro h; cases h
  · intro h
    injection (show some g = some q from h) with h
    subst h
    rw [hh] at hq
    injection hq with hq
    injection hq with _ hq
    exact hne hq.symm
theorem cell_col {w : World} {q : Nat} {m0 s0 : Int} (h : w.heap[q]? = some (.cells #[.int .i64 m0, .int .i64 s0] 39 (0, 0))) : w.cell? ⟨q, 1, none⟩ = some (.int .i64 s0) := by simp [World.cell?, h]
theorem ln_next (f : Nat → List Int) (G k : Nat) : ln f G (k + 1) = ln f G k ++ (List.replicate (if k = 0 then 0 else G) 32 ++ f k) := rfl

set_option maxRecDepth 100000 in
set_option maxHeartbeats 16000000 in
theorem lines_any (a : Option Addr) (n c : Nat) (R : List (List (List Int))) (w : World) (h : Rows3 w a n c R) (hs : SmallTo R n) (hn : n ≤ 20) (gap : Int) (G : Nat) (hG : max 0 (min gap 1024) = (G : Int)) (b : Option Addr) (m cm : Nat) (ps : Nat → Int × Int) (hc : IsCols w b m cm ps) (hm : m ≤ 10) :
    Calls Tryz.prog 17 #[.slice a n c, .int .i64 gap, .slice b m cm] w fun e w' => ∃ v b', e = .returned v ∧ Outs w' w.heap.size b' v (linesL R n ps G m n) ∧ Below w.heap.size w w' := by
  obtain ⟨i1, hi1, hy0, hy1, hy2⟩ := info_parts info_i32
  obtain ⟨i2, hi2, hx0, hx1, hx2⟩ := info_parts info_sl
  have hmx : Tryz.prog.follows .mixedOrders = true := by kernel_rfl
  have hG1 : G ≤ 1024 := by omega
  have HLR := Lib.hid h.1
  have HH := Lib.hid h
  have HC := Lib.hid hc
  have HS := Lib.hid hs
  have HMB := Lib.hid (mx_bd hs h.1)
  have HWA := Lib.hid (widths_any a n c R w h hs hn b m cm ps hc hm)
  clear h hc hs
  go_enter Tryz.func17, Tryz.ntmps17
  go_wp2_with fail
  refine HWA.out.mono ?_
  rintro e w1 ⟨g1, rfl, hg1, hrow1, hb1⟩
  have HB1 := Lib.hid hb1
  have HR1 := Lib.hid hrow1
  have hg1l := hrow1.lt
  clear hb1 hrow1 HWA
  have B2 : Below w1.heap.size w1 (w1.alloc (.cells #[.int .i32 32] 21)) := (Below.refl _ _).alloc (Nat.le_refl _) _
  have c2 : (w1.alloc (.cells #[.int .i32 32] 21)).cell? ⟨w1.heap.size, 0, none⟩ = some (.int .i32 32) := by simp
  have s2 : w1.heap.size < (w1.alloc (.cells #[.int .i32 32] 21)).heap.size := by simp
  have HB2 := Lib.hid (HB1.out.trans (B2.mono HB1.out.size))
  have HR2 := Lib.hid (HR1.out.below B2 hg1l)
  clear B2
  go_wp2_with fail
  generalize (w1.alloc (.cells #[.int .i32 32] 21)) = w2 at *
  refine (repeat_any w1.heap.size 1 G w2 s2 c2 (by omega)).mono ?_
  rintro e w3 ⟨v3, rfl, hown3, hb3⟩
  obtain ⟨a3, c3, rfl⟩ := own_slice hown3
  have HSRC := Lib.hid (src_ints (ints_of_own hown3))
  have HB3 := Lib.hid (HB2.out.trans (hb3.mono HB2.out.size))
  have HR3 := Lib.hid (HR2.out.below hb3 (by omega))
  have hg3 : g1 < w3.heap.size := by have := hb3.size; omega
  have hs3 := HB3.out.size
  clear hown3 hb3 HB2 HR2 c2 HR1 HB1 s2
  go_wp2
  go_loopw [9, 25] (fun v i wr => ∃ r : Nat, r ≤ n ∧ i = .int .i64 r ∧ Hid (Outs wr w3.heap.size wr.heap.size v (linesL R n ps G m r) ∧ Below w3.heap.size w3 wr)) (fun _ i _ => n - (intOf i).toNat)
  case atStart => exact ⟨0, Nat.zero_le _, rfl, Outs.nil _ _ _, Below.refl _ _⟩
  case round =>
    obtain ⟨r, hr, rfl, H⟩ := hrel
    by_cases hlt : r < n
    · have hlt1 : (r : Int) < n := by omega
      obtain ⟨_, _, _, h0 | ⟨b1, off1, rfl, hbl1, hc1⟩⟩ := HH.out
      · omega
      obtain ⟨row, hrow⟩ : ∃ row, R[r]? = some row := ⟨_, List.getElem?_eq_getElem (by rw [HLR.out]; exact hlt)⟩
      obtain ⟨a1, n1, c1, hcell, hT1⟩ := hc1 r row hrow
      have HT1 : Hid (∀ w', Below w.heap.size w w' → Texts w' a1 n1 c1 row) := Lib.hid fun w' hb => hT1.below hb
      have hn1 := hT1.2.2.1
      have HBR := Lib.hid (HB3.out.trans (H.out.2.mono hs3))
      have hcell := (HBR.out.cell (p := ⟨b1, off1 + r, none⟩) hbl1).trans hcell
      have HRow := Lib.hid hrow
      have HLN : Hid (∀ k, lnF R n ps r k = fitV (row.getD k []) (lim (mx R k n) (ps k).1) (ps k).2) := Lib.hid fun k => by unfold lnF; rw [getD_some hrow]
      have HNX : Hid (linesL R n ps G m (r + 1) = linesL R n ps G m r ++ [ln (lnF R n ps r) G m]) := Lib.hid (linesL_next R n ps G m r)
      have HOL := Lib.hid (linesL_len R n ps G m r)
      have HST : Hid (∀ k, (row.getD k []).length ≤ 300) := Lib.hid fun k => small_text HS.out hlt hrow
      clear hc1 hrow hT1
      generalize lnF R n ps r = f at *
      generalize wr = wq at *
      go_wp2
      go_loopw [12, 31] (fun v i wr => ∃ k t : Nat, k ≤ m ∧ t ≤ k * 3000 ∧ i = .int .i64 k ∧ Hid (t = (ln f G k).length) ∧ Hid (wr.ownsRow wq.heap.size 21 1 v t ((ln f G k).map (Value.int .i32)) ∧ Below wq.heap.size wq wr)) (fun _ i _ => m - (intOf i).toNat)
      case atStart => exact ⟨0, 0, Nat.zero_le _, Nat.zero_le _, rfl, rfl, World.ownsRow_nil _ _ _ _, Below.refl _ _⟩
      case round =>
        clear hcell
        obtain ⟨k, t, hk, ht, rfl, HTL, HI⟩ := hrel
        by_cases hkt : k < m
        · have hkt1 : (k : Int) < m := by omega
          have hqw := H.out.2.size
          have hqr := HI.out.2.size
          have hqw0 : w.heap.size ≤ wq.heap.size := Nat.le_trans hs3 hqw
          have HBW := Lib.hid (HBR.out.trans (HI.out.2.mono hqw0))
          have HB3W := Lib.hid (H.out.2.trans (HI.out.2.mono hqw))
          obtain ⟨hcm, _, h0 | ⟨b4, off4, rfl, hb4, hc4⟩⟩ := HC.out
          · omega
          obtain ⟨p0, p1⟩ := hc4 k hkt
          have p0 := (HBW.out.cell (p := ⟨b4, off4 + k * 2, none⟩) hb4).trans p0
          have p1 := (HBW.out.cell (p := ⟨b4, off4 + k * 2 + 1, none⟩) hb4).trans p1
          have HFK := Lib.hid (HLN.out k)
          have HXB := Lib.hid (lim_bd (HMB.out k n).1 (ps k).1)
          have hx1 := HXB.out.1
          have hx2 := HXB.out.2
          have hwc : w3.cell? ⟨g1, k, none⟩ = some (.int .i64 (lim (mx R k n) (ps k).1)) := HR3.out.cell (by unfold wl; rw [tab_get hkt])
          have HNL := Lib.hid (ln_next f G k)
          generalize lim (mx R k n) (ps k).1 = x at *
          generalize (ps k).1 = m0 at *
          generalize (ps k).2 = sd at *
          generalize f k = fk at *
          have hst := HST.out k
          obtain ⟨tx, htx⟩ : ∃ tx, row.getD k [] = tx := ⟨_, rfl⟩
          rw [htx] at hst HFK
          have HTX := Lib.hid htx
          clear htx
          obtain ⟨al, cl, rfl⟩ := own_slice HI.out.1
          obtain ⟨W2, hW2⟩ : ∃ W2, W2 = wr.alloc (.cells #[.int .i64 m0, .int .i64 sd] 39) := ⟨_, rfl⟩
          have hnew : (wr.alloc (.cells #[.int .i64 0, .int .i64 0] 39)).heap[wr.heap.size]? = some (.cells #[.int .i64 0, .int .i64 0] 39 (0, 0)) := World.alloc_heap_new wr _
          have hrow : (wr.alloc (.cells #[.int .i64 0, .int .i64 0] 39)).setRow wr.heap.size #[.int .i64 m0, .int .i64 sd] = W2 := by rw [hW2]; exact World.setRow_alloc_new wr _ _ _
          have hh2 : W2.heap[wr.heap.size]? = some (.cells #[.int .i64 m0, .int .i64 sd] 39 (0, 0)) := by rw [hW2]; exact World.alloc_heap_new wr _
          have BW : Below wr.heap.size wr W2 := by rw [hW2]; exact (Below.refl _ _).alloc (Nat.le_refl _) _
          have hsz2 : W2.heap.size = wr.heap.size + 1 := by rw [hW2]; simp
          have hown2 : W2.ownsRow wq.heap.size 21 1 (.slice al t cl) t ((ln f G k).map (Value.int .i32)) := (Turn.of_new BW : Turn (fun _ => False) _ _).kept HI.out.1 (fun _ _ => id)
          have hB2 : Below wq.heap.size wq W2 := HI.out.2.trans (BW.mono hqr)
          have hwc2 : W2.cell? ⟨g1, k, none⟩ = some (.int .i64 x) := ((HB3W.out.trans (BW.mono (Nat.le_trans hqw hqr))).cell (p := ⟨g1, k, none⟩) hg3).trans hwc
          have hwr : wr.heap.size < W2.heap.size := by omega
          have HH2 := Lib.hid hh2
          have HO2 := Lib.hid hown2
          have HQ2 := Lib.hid hB2
          have HW2 := Lib.hid hwc2
          have HS2 := Lib.hid (HSRC.out.keep ((HB3W.out.trans (BW.mono (Nat.le_trans hqw hqr)))))
          clear hc4 hW2 BW hwc hh2 hown2 hB2 hwc2 HI
          by_cases hkp : 0 < k
          · have hkp1 : (0 : Int) < k := by omega
            rw [if_neg (by omega)] at HNL
            go_wp2_with (first
              | (refine wpList_store_row rfl 39 _ _ rfl wr.heap.size #[.int .i64 m0, .int .i64 sd] rfl rfl _ _ hnew (size_col _ _) rfl (one_col _ _) ?_)
              | (at_builtin; (refine wpList_append_src _ rfl _ _ 22 rfl wq.heap.size 21 i1 _ 1 4 Tryz.underlying22 hi1 hy0 hy1 hy2 rfl (by decide) (.slice al t cl) t _ rfl HO2.out a3 G c3 ((List.replicate G (32 : Int)).map (Value.int .i32)) rfl HS2.out (one_cells _ _) (by unfold maxLen; omega) (by omega) HQ2.out.size ?_; intro v5 W5 hown5 hgrow5; obtain ⟨a5, c5, rfl⟩ := own_slice hown5; have TG5 : Turn (fun j => (Value.slice al t cl).ownBlock = some j) W2 W5 := Turn.of_grown hgrow5 (fun _ e => e); have HQ5 : Hid (W5.heap[wr.heap.size]? = some (.cells #[.int .i64 m0, .int .i64 sd] 39 (0, 0))) := Lib.hid (TG5.heap HH2.out (own_ne HO2.out HH2.out (by decide))); have HW5 : Hid (W5.cell? ⟨g1, k, none⟩ = some (.int .i64 x)) := Lib.hid (TG5.cell HW2.out (fun e => by have := (HO2.out.lt _ e).1; simp only at this; omega)); have HB5 : Hid (Below wq.heap.size wq W5) := Lib.hid (HQ2.out.grown hgrow5 HQ2.out.size (fun j e => (HO2.out.lt j e).1)); rw [← List.map_append] at hown5; have HO5 := Lib.hid hown5; clear hown5 hgrow5 TG5)))
            have HBWx : Hid (Below w.heap.size w W5) := Lib.hid (HBR.out.trans (HB5.out.mono hqw0))
            have HAT := Lib.hid (at_any a1 n1 c1 row W5.drew (HT1.out _ HBWx.out.drew) k (by omega))
            refine region_begin (fun w' => w'.cell? ⟨g1, k, none⟩ = some (.int .i64 x) ∧ w'.cell? ⟨wr.heap.size, 1, none⟩ = some (.int .i64 sd)) (fun j => j == 12) hmx ?_
            have hS : W5.drew.cell? ⟨g1, k, none⟩ = some (.int .i64 x) ∧ W5.drew.cell? ⟨wr.heap.size, 1, none⟩ = some (.int .i64 sd) := ⟨HW5.out, cell_col HQ5.out⟩
            refine take_first (i := 0) rfl (by kernel_rfl) (by kernel_rfl) (by kernel_rfl) (by kernel_rfl) (fun _ _ _ h => h) hS (.inl ⟨by rfl, fun w' hw' => by obtain ⟨e0, e1⟩ := hw'; go_simp; try with_reducible rfl⟩) ?_
            refine take_first (i := 1) rfl (by kernel_rfl) (by kernel_rfl) (by kernel_rfl) (by kernel_rfl) (fun _ _ _ h => h) hS (.inl ⟨by rfl, fun w' hw' => by obtain ⟨e0, e1⟩ := hw'; go_simp; try with_reducible rfl⟩) ?_
            refine take_first (i := 2) rfl (by kernel_rfl) (by kernel_rfl) (by kernel_rfl) (by kernel_rfl) (fun _ _ _ h => h) hS (.inl ⟨by rfl, fun w' hw' => by obtain ⟨e0, e1⟩ := hw'; go_simp; try with_reducible rfl⟩) ?_
            refine take_first (i := 4) rfl (by kernel_rfl) (by kernel_rfl) (by kernel_rfl) (by kernel_rfl) (fun _ _ _ h => h) hS (.inl ⟨by rfl, fun w' hw' => by obtain ⟨e0, e1⟩ := hw'; go_simp; try with_reducible rfl⟩) ?_
            refine take_first (i := 5) rfl (by kernel_rfl) (by kernel_rfl) (by kernel_rfl) (by kernel_rfl) (fun _ _ _ h => h) hS (.inl ⟨by rfl, fun w' hw' => by obtain ⟨e0, e1⟩ := hw'; go_simp; try with_reducible rfl⟩) ?_
            refine take_first (i := 6) rfl (by kernel_rfl) (by kernel_rfl) (by kernel_rfl) (by kernel_rfl) (fun _ _ _ h => h) hS (.inl ⟨by rfl, fun w' hw' => by obtain ⟨e0, e1⟩ := hw'; go_simp; try with_reducible rfl⟩) ?_
            refine take_first (i := 7) rfl (by kernel_rfl) (by kernel_rfl) (by kernel_rfl) (by kernel_rfl) (fun _ _ _ h => h) hS (.inl ⟨by rfl, fun w' hw' => by obtain ⟨e0, e1⟩ := hw'; go_simp; try with_reducible rfl⟩) ?_
            refine take_first (i := 8) rfl (by kernel_rfl) (by kernel_rfl) (by kernel_rfl) (by kernel_rfl) (fun _ _ _ h => h) hS (.inl ⟨by rfl, fun w' hw' => by obtain ⟨e0, e1⟩ := hw'; go_simp; try with_reducible rfl⟩) ?_
            refine take_first (i := 9) rfl (by kernel_rfl) (by kernel_rfl) (by kernel_rfl) (by kernel_rfl) (fun _ _ _ h => h) hS (.inl ⟨by rfl, fun w' hw' => by obtain ⟨e0, e1⟩ := hw'; go_simp; try with_reducible rfl⟩) ?_
            refine take_g (i := 3) (by kernel_rfl) rfl rfl fun K hK => ?_
            go_wp2_with fail
            refine HAT.out.mono ?_
            rintro e w5 ⟨⟨a2, n2, c2, rfl, hT2⟩, rfl⟩
            have htx : row.getD k [] = tx := HTX.out
            rw [htx] at hT2
            have hn2 : n2 ≤ 300 := by have := hT2.1.ints.1; omega
            have HFIT := Lib.hid (fit_any a2 n2 c2 tx none 0 0 [] W5.drew hT2.1 (runes_nil _) (by omega) (by omega) x sd (by omega) (by omega))
            refine hK _ _ (.inr hS) ?_
            clear hK HAT hT2
            refine take_g (i := 10) (by kernel_rfl) rfl rfl fun K hK => ?_
            go_wp2_with fail
            refine HFIT.out.mono ?_
            rintro e w6 ⟨out, hF, v6, rfl, ho6, hb6⟩
            have hfl := fit_len hF
            obtain ⟨ol, hoo⟩ : ∃ ol, out.length = ol := ⟨_, rfl⟩
            have HOL2 := Lib.hid hoo
            rw [hoo] at ho6 hfl
            obtain ⟨a6, c6, rfl⟩ := own_slice ho6
            have HFE : Hid (out = fk) := by rw [HFK.out]; exact Lib.hid (fitV_eq hF)
            have B6 : Hid (Below W5.heap.size W5 w6) := Lib.hid ((Below.refl W5.heap.size W5).drew.trans hb6)
            have hwW := (HB5.out.size)
            have HO6 : Hid (w6.ownsRow wq.heap.size 21 1 (Value.slice a5 (t + G) c5) (t + G) ((ln f G k ++ List.replicate G 32).map (Value.int .i32))) := Lib.hid ((Turn.of_new B6.out : Turn (fun _ => False) _ _).kept HO5.out (fun _ _ => id))
            have HQ6 : Hid (w6.heap[wr.heap.size]? = some (.cells #[.int .i64 m0, .int .i64 sd] 39 (0, 0))) := Lib.hid ((Turn.of_new B6.out : Turn (fun _ => False) _ _).heap HQ5.out (fun h => h))
            have HW6 : Hid (w6.cell? ⟨g1, k, none⟩ = some (.int .i64 x)) := Lib.hid ((Turn.of_new B6.out : Turn (fun _ => False) _ _).cell HW5.out (fun h => h))
            have HB6 : Hid (Below wq.heap.size wq w6) := Lib.hid (HB5.out.trans (B6.out.mono hwW))
            have HSR6 := Lib.hid (src_ints (ints_of_own ho6))
            have hol : ol ≤ 1400 := by simp only [List.length_nil] at hfl; omega
            refine hK _ _ (.inr ⟨HW6.out, cell_col HQ6.out⟩) ?_
            clear hK hF hb6 ho6 hS HFIT hfl hoo
            refine take_g (i := 11) (by kernel_rfl) rfl rfl fun K hK => ?_
            refine wp_append_src _ _ _ 22 rfl wq.heap.size 21 i1 _ 1 4 Tryz.underlying22 hi1 hy0 hy1 hy2 rfl (by decide) ((Value.slice a5 (t + G) c5)) ((t + G)) _ rfl HO6.out a6 ol c6 (out.map (Value.int .i32)) rfl HSR6.out (one_cells _ _) (by unfold maxLen; omega) (by omega) HB6.out.size ?_
            intro v7 w7 hown7 hgrow7
            have TG : Turn (fun j => ((Value.slice a5 (t + G) c5)).ownBlock = some j) w6 w7 := Turn.of_grown hgrow7 (fun _ e => e)
            have hbk : ∀ j, ((Value.slice a5 (t + G) c5)).ownBlock = some j → wq.heap.size ≤ j := fun j e => (HO6.out.lt j e).1
            have f0 : w7.cell? ⟨g1, k, none⟩ = some (.int .i64 x) := TG.cell HW6.out (fun e => by have := hbk _ e; simp only at this; omega)
            have f1 : w7.cell? ⟨wr.heap.size, 1, none⟩ = some (.int .i64 sd) := cell_col (TG.heap HQ6.out (own_ne HO6.out HQ6.out (by decide)))
            have HB7 : Hid (Below wq.heap.size wq w7) := Lib.hid (HB6.out.grown hgrow7 HB6.out.size (fun j e => hbk j e))
            rw [← List.map_append] at hown7
            obtain ⟨a7, c7, rfl⟩ := own_slice hown7
            have HO7 := Lib.hid hown7
            refine hK _ _ (.inr ⟨f0, f1⟩) ?_
            clear hK TG hbk hown7 hgrow7 f0 f1 HO6 HQ6 HW6 HB6 HSR6
            refine take_g (i := 12) (by kernel_rfl) rfl rfl fun K hK => ?_
            go_wp2
            refine hK _ _ (.inl rfl) ?_
            clear hK
            refine take_done (by kernel_rfl) ?_ _
            have HN1 : Hid ((ln f G k ++ List.replicate G 32) ++ out = ln f G (k + 1)) := by rw [HNL.out, HFE.out]; exact Lib.hid (by simp)
            have HN2 : Hid ((t + G) + ol = (ln f G (k + 1)).length) := by rw [← HN1.out]; simp only [List.length_append, List.length_replicate]; rw [← HTL.out, HOL2.out]; exact Lib.hid rfl
            rw [HN1.out] at HO7
            go_wp2
            go_roundw
            case rel => exact ⟨k + 1, (t + G) + ol, by omega, by omega, by go_num, HN2, ⟨HO7.out, HB7.out⟩⟩
            case measure => simp [intOf]; omega
          · have hkp1 : (k : Int) ≤ 0 := by omega
            rw [if_pos (by omega), show List.replicate 0 (32 : Int) = [] from rfl, List.nil_append] at HNL
            go_wp2_with (refine wpList_store_row rfl 39 _ _ rfl wr.heap.size #[.int .i64 m0, .int .i64 sd] rfl rfl _ _ hnew (size_col _ _) rfl (one_col _ _) ?_)
            have HBWx : Hid (Below w.heap.size w W2) := Lib.hid (HBR.out.trans (HQ2.out.mono hqw0))
            have HAT := Lib.hid (at_any a1 n1 c1 row W2.drew (HT1.out _ HBWx.out.drew) k (by omega))
            refine region_begin (fun w' => w'.cell? ⟨g1, k, none⟩ = some (.int .i64 x) ∧ w'.cell? ⟨wr.heap.size, 1, none⟩ = some (.int .i64 sd)) (fun j => j == 12) hmx ?_
            have hS : W2.drew.cell? ⟨g1, k, none⟩ = some (.int .i64 x) ∧ W2.drew.cell? ⟨wr.heap.size, 1, none⟩ = some (.int .i64 sd) := ⟨HW2.out, cell_col HH2.out⟩
            refine take_first (i := 0) rfl (by kernel_rfl) (by kernel_rfl) (by kernel_rfl) (by kernel_rfl) (fun _ _ _ h => h) hS (.inl ⟨by rfl, fun w' hw' => by obtain ⟨e0, e1⟩ := hw'; go_simp; try with_reducible rfl⟩) ?_
            refine take_first (i := 1) rfl (by kernel_rfl) (by kernel_rfl) (by kernel_rfl) (by kernel_rfl) (fun _ _ _ h => h) hS (.inl ⟨by rfl, fun w' hw' => by obtain ⟨e0, e1⟩ := hw'; go_simp; try with_reducible rfl⟩) ?_
            refine take_first (i := 2) rfl (by kernel_rfl) (by kernel_rfl) (by kernel_rfl) (by kernel_rfl) (fun _ _ _ h => h) hS (.inl ⟨by rfl, fun w' hw' => by obtain ⟨e0, e1⟩ := hw'; go_simp; try with_reducible rfl⟩) ?_
            refine take_first (i := 4) rfl (by kernel_rfl) (by kernel_rfl) (by kernel_rfl) (by kernel_rfl) (fun _ _ _ h => h) hS (.inl ⟨by rfl, fun w' hw' => by obtain ⟨e0, e1⟩ := hw'; go_simp; try with_reducible rfl⟩) ?_
            refine take_first (i := 5) rfl (by kernel_rfl) (by kernel_rfl) (by kernel_rfl) (by kernel_rfl) (fun _ _ _ h => h) hS (.inl ⟨by rfl, fun w' hw' => by obtain ⟨e0, e1⟩ := hw'; go_simp; try with_reducible rfl⟩) ?_
            refine take_first (i := 6) rfl (by kernel_rfl) (by kernel_rfl) (by kernel_rfl) (by kernel_rfl) (fun _ _ _ h => h) hS (.inl ⟨by rfl, fun w' hw' => by obtain ⟨e0, e1⟩ := hw'; go_simp; try with_reducible rfl⟩) ?_
            refine take_first (i := 7) rfl (by kernel_rfl) (by kernel_rfl) (by kernel_rfl) (by kernel_rfl) (fun _ _ _ h => h) hS (.inl ⟨by rfl, fun w' hw' => by obtain ⟨e0, e1⟩ := hw'; go_simp; try with_reducible rfl⟩) ?_
            refine take_first (i := 8) rfl (by kernel_rfl) (by kernel_rfl) (by kernel_rfl) (by kernel_rfl) (fun _ _ _ h => h) hS (.inl ⟨by rfl, fun w' hw' => by obtain ⟨e0, e1⟩ := hw'; go_simp; try with_reducible rfl⟩) ?_
            refine take_first (i := 9) rfl (by kernel_rfl) (by kernel_rfl) (by kernel_rfl) (by kernel_rfl) (fun _ _ _ h => h) hS (.inl ⟨by rfl, fun w' hw' => by obtain ⟨e0, e1⟩ := hw'; go_simp; try with_reducible rfl⟩) ?_
            refine take_g (i := 3) (by kernel_rfl) rfl rfl fun K hK => ?_
            go_wp2_with fail
            refine HAT.out.mono ?_
            rintro e w5 ⟨⟨a2, n2, c2, rfl, hT2⟩, rfl⟩
            have htx : row.getD k [] = tx := HTX.out
            rw [htx] at hT2
            have hn2 : n2 ≤ 300 := by have := hT2.1.ints.1; omega
            have HFIT := Lib.hid (fit_any a2 n2 c2 tx none 0 0 [] W2.drew hT2.1 (runes_nil _) (by omega) (by omega) x sd (by omega) (by omega))
            refine hK _ _ (.inr hS) ?_
            clear hK HAT hT2
            refine take_g (i := 10) (by kernel_rfl) rfl rfl fun K hK => ?_
            go_wp2_with fail
            refine HFIT.out.mono ?_
            rintro e w6 ⟨out, hF, v6, rfl, ho6, hb6⟩
            have hfl := fit_len hF
            obtain ⟨ol, hoo⟩ : ∃ ol, out.length = ol := ⟨_, rfl⟩
            have HOL2 := Lib.hid hoo
            rw [hoo] at ho6 hfl
            obtain ⟨a6, c6, rfl⟩ := own_slice ho6
            have HFE : Hid (out = fk) := by rw [HFK.out]; exact Lib.hid (fitV_eq hF)
            have B6 : Hid (Below W2.heap.size W2 w6) := Lib.hid ((Below.refl W2.heap.size W2).drew.trans hb6)
            have hwW := (HQ2.out.size)
            have HO6 : Hid (w6.ownsRow wq.heap.size 21 1 (Value.slice al t cl) t ((ln f G k).map (Value.int .i32))) := Lib.hid ((Turn.of_new B6.out : Turn (fun _ => False) _ _).kept HO2.out (fun _ _ => id))
            have HQ6 : Hid (w6.heap[wr.heap.size]? = some (.cells #[.int .i64 m0, .int .i64 sd] 39 (0, 0))) := Lib.hid ((Turn.of_new B6.out : Turn (fun _ => False) _ _).heap HH2.out (fun h => h))
            have HW6 : Hid (w6.cell? ⟨g1, k, none⟩ = some (.int .i64 x)) := Lib.hid ((Turn.of_new B6.out : Turn (fun _ => False) _ _).cell HW2.out (fun h => h))
            have HB6 : Hid (Below wq.heap.size wq w6) := Lib.hid (HQ2.out.trans (B6.out.mono hwW))
            have HSR6 := Lib.hid (src_ints (ints_of_own ho6))
            have hol : ol ≤ 1400 := by simp only [List.length_nil] at hfl; omega
            refine hK _ _ (.inr ⟨HW6.out, cell_col HQ6.out⟩) ?_
            clear hK hF hb6 ho6 hS HFIT hfl hoo
            refine take_g (i := 11) (by kernel_rfl) rfl rfl fun K hK => ?_
            refine wp_append_src _ _ _ 22 rfl wq.heap.size 21 i1 _ 1 4 Tryz.underlying22 hi1 hy0 hy1 hy2 rfl (by decide) ((Value.slice al t cl)) (t) _ rfl HO6.out a6 ol c6 (out.map (Value.int .i32)) rfl HSR6.out (one_cells _ _) (by unfold maxLen; omega) (by omega) HB6.out.size ?_
            intro v7 w7 hown7 hgrow7
            have TG : Turn (fun j => ((Value.slice al t cl)).ownBlock = some j) w6 w7 := Turn.of_grown hgrow7 (fun _ e => e)
            have hbk : ∀ j, ((Value.slice al t cl)).ownBlock = some j → wq.heap.size ≤ j := fun j e => (HO6.out.lt j e).1
            have f0 : w7.cell? ⟨g1, k, none⟩ = some (.int .i64 x) := TG.cell HW6.out (fun e => by have := hbk _ e; simp only at this; omega)
            have f1 : w7.cell? ⟨wr.heap.size, 1, none⟩ = some (.int .i64 sd) := cell_col (TG.heap HQ6.out (own_ne HO6.out HQ6.out (by decide)))
            have HB7 : Hid (Below wq.heap.size wq w7) := Lib.hid (HB6.out.grown hgrow7 HB6.out.size (fun j e => hbk j e))
            rw [← List.map_append] at hown7
            obtain ⟨a7, c7, rfl⟩ := own_slice hown7
            have HO7 := Lib.hid hown7
            refine hK _ _ (.inr ⟨f0, f1⟩) ?_
            clear hK TG hbk hown7 hgrow7 f0 f1 HO6 HQ6 HW6 HB6 HSR6
            refine take_g (i := 12) (by kernel_rfl) rfl rfl fun K hK => ?_
            go_wp2
            refine hK _ _ (.inl rfl) ?_
            clear hK
            refine take_done (by kernel_rfl) ?_ _
            have HN1 : Hid ((ln f G k) ++ out = ln f G (k + 1)) := by rw [HNL.out, HFE.out]; exact Lib.hid (by simp)
            have HN2 : Hid (t + ol = (ln f G (k + 1)).length) := by rw [← HN1.out]; simp only [List.length_append, List.length_replicate]; rw [← HTL.out, HOL2.out]; exact Lib.hid rfl
            rw [HN1.out] at HO7
            go_wp2
            go_roundw
            case rel => exact ⟨k + 1, t + ol, by omega, by omega, by go_num, HN2, ⟨HO7.out, HB7.out⟩⟩
            case measure => simp [intOf]; omega
        · obtain rfl : k = m := by omega
          have HOU := Lib.hid (H.out.1.below HI.out.2)
          obtain ⟨al, cl, rfl⟩ := own_slice HI.out.1
          obtain ⟨av, cv, rfl⟩ := HOU.out.vo
          rw [HOL.out] at HOU ⊢
          obtain ⟨vs, u1, u2, u3⟩ := HOU.out.below ((Below.refl wr.heap.size wr).alloc (Nat.le_refl _) (.cells #[.slice al t cl] 22))
          rw [HOL.out] at u1 u2
          have U1 := Lib.hid u1
          have U2 := Lib.hid u2
          have U3 := Lib.hid u3
          have HLI : Hid ((wr.alloc (.cells #[.slice al t cl] 22)).ownsRow wq.heap.size 21 1 (.slice al t cl) t ((ln f G k).map (Value.int .i32))) := Lib.hid (HI.out.1.alloc _)
          have HBA : Hid (Below w3.heap.size w3 (wr.alloc (.cells #[.slice al t cl] 22))) := Lib.hid ((H.out.2.trans (HI.out.2.mono H.out.2.size)).alloc (Nat.le_trans H.out.2.size HI.out.2.size) _)
          have hqw := H.out.2.size
          have hqr := HI.out.2.size
          have hrn : r ≤ 20 := by omega
          clear u1 u2 u3 H HI HOU
          go_wp2_with (at_builtin; (refine wpList_append_own _ rfl _ _ 35 rfl w3.heap.size 22 i2 _ 1 24 Tryz.underlying35 hi2 hx0 hx1 hx2 rfl (by decide) (.slice av r cv) r _ rfl U2.out ⟨wr.heap.size, 0, none⟩ 1 1 [.slice al t cl] rfl rfl (cell_new1 _ _ _) (by simp [Value.oneCell']) (by unfold maxLen; omega) (by omega) (by simp; omega) ?_; intro v' w5 hown5 hgrow5 _; have HB5 : Hid (Below w3.heap.size w3 w5) := Lib.hid (HBA.out.grown hgrow5 (by simp; omega) (fun j e => (U2.out.lt j e).1)); have HP : Hid (Outs w5 w3.heap.size w5.heap.size v' (linesL R n ps G k (r + 1))) := (by rw [HNX.out]; exact Lib.hid (Outs.push (by rw [HOL.out]; exact U1.out) (by rw [HOL.out]; exact U2.out) U3.out (by rw [← HTL.out]; exact HLI.out) hqw (by rw [HOL.out]; exact hown5) hgrow5)); clear hown5 hgrow5))
          go_roundw
          case rel => exact ⟨r + 1, by omega, by go_num, HP.out, HB5.out⟩
          case measure => simp [intOf]; omega
    · obtain rfl : r = n := by omega
      have HE := Lib.hid H.out.1
      have HBE := Lib.hid (HB3.out.trans (H.out.2.mono hs3))
      clear H
      go_wp2
      go_ret
      exact ⟨_, _, rfl, HE.out.mono hs3, HBE.out⟩

end Go.Proofs.YtcbfmokafmagpaaGreat.Tbl

namespace Go.Proofs.YtcbfmokafmagpaaGreat.Tbl
set_option linter.unusedSimpArgs false
set_option linter.unusedVariables false
open Go Go.RowKit Go.Shelf Mem Turn Gra Same GraLaw Mea Rep Just

theorem headP_upto (xs : List Int) (w : Int) (hw : 0 ≤ w) : ∀ j, j ≤ cnt (Jn xs) xs.length → (∃ k, HeadP xs w k) ∨ wsum (its (cl xs) j) ≤ w
  | 0, _ => .inr hw
  | j + 1, hj => by
    rcases headP_upto xs w hw j (by omega) with h | h
    · exact .inl h
    · by_cases h1 : wsum (its (cl xs) (j + 1)) ≤ w
      · exact .inr h1
      · exact .inl ⟨j, by omega, h, .inr (by omega)⟩
theorem headP_ex (xs : List Int) (w : Int) (hw : 0 ≤ w) : ∃ k, HeadP xs w k := by
  rcases headP_upto xs w hw _ (Nat.le_refl _) with h | h
  · exact h
  · exact ⟨_, Nat.le_refl _, h, .inl rfl⟩
theorem fit_ex (xs : List Int) (x side : Int) : FitP xs [] x side (fitV xs x side) := by
  have hh := hold_le x
  by_cases h1 : wsum (itms xs) ≤ hold x
  · exact fitV_ok (.inl ⟨h1, rfl⟩)
  · obtain ⟨k, hk⟩ := headP_ex xs (hold x - wsum (itms [])) (by rw [b5]; omega)
    exact fitV_ok (.inr (.inr ⟨by omega, by rw [b5]; omega, k, hk, rfl⟩))

theorem padL_r32 {xs : List Int} (h : R32 xs) (x side : Int) : R32 (padL xs x side) := by
  intro z hz
  rw [padL_app] at hz
  simp only [List.mem_append, List.not_mem_nil, or_false] at hz
  rcases hz with hz | hz | hz
  · rw [List.eq_of_mem_replicate hz]; omega
  · exact h z hz
  · rw [List.eq_of_mem_replicate hz]; omega
theorem fit_r32 {xs : List Int} {x side : Int} {o : List Int} (h : FitP xs [] x side o) (hr : R32 xs) : R32 o := by
  rcases h with ⟨_, rfl⟩ | ⟨_, _, k, _, rfl⟩ | ⟨_, _, k, _, rfl⟩
  · exact padL_r32 hr _ _
  · exact padL_r32 (r32_take hr _) _ _
  · rw [List.append_nil]; exact padL_r32 (r32_take hr _) _ _
theorem ln_r32 {f : Nat → List Int} (g : Nat) : ∀ k, (∀ i, i < k → R32 (f i)) → R32 (ln f g k)
  | 0, _ => fun z hz => by simp [ln] at hz
  | k + 1, h => fun z hz => by
    rw [ln_next] at hz
    simp only [List.mem_append] at hz
    rcases hz with hz | hz | hz
    · exact ln_r32 g k (fun i hi => h i (by omega)) z hz
    · rw [List.eq_of_mem_replicate hz]; omega
    · exact h k (by omega) z hz
theorem r32_nil : R32 [] := fun z hz => by simp at hz

/-- all texts are of numbers of 32 bits -/
def RowsOk (R : List (List (List Int))) : Prop := ∀ (i : Nat) (row : List (List Int)), R[i]? = some row → ∀ (j : Nat) (t : List Int), row[j]? = some t → R32 t
theorem rows_ok {w : World} {a : Option Addr} {n c : Nat} {R : List (List (List Int))} (h : Rows3 w a n c R) : RowsOk R := by
  intro i row hi j t hj
  obtain ⟨hl, _, _, h0 | ⟨b, off, _, _, hc⟩⟩ := h
  · have := (List.getElem?_eq_some_iff.1 hi).1; omega
  · obtain ⟨a', n', c', _, hl', _, _, h0 | ⟨b', off', _, _, hc'⟩⟩ := hc i row hi
    · have := (List.getElem?_eq_some_iff.1 hj).1; omega
    · obtain ⟨_, _, _, _, ht⟩ := hc' j t hj
      exact ht.1.r32
theorem rowsOk_text {R : List (List (List Int))} (h : RowsOk R) (r k : Nat) : R32 ((R.getD r []).getD k []) := by
  rcases Nat.lt_or_ge r R.length with hr | hr
  · obtain ⟨row, hrow⟩ : ∃ row, R[r]? = some row := ⟨_, List.getElem?_eq_getElem hr⟩
    rw [getD_some hrow]
    rcases Nat.lt_or_ge k row.length with hk | hk
    · obtain ⟨t, ht⟩ : ∃ t, row[k]? = some t := ⟨_, List.getElem?_eq_getElem hk⟩
      rw [getD_some ht]
      exact h r row hrow k t ht
    · rw [getD_none hk]; exact r32_nil
  · rw [getD_none (l := R) hr]; exact r32_nil
theorem line_r32 {R : List (List (List Int))} (h : RowsOk R) (n : Nat) (ps : Nat → Int × Int) (g m r : Nat) : R32 (lineL R n ps g m r) :=
  ln_r32 g m fun i _ => fit_r32 (fit_ex _ _ _) (rowsOk_text h r i)

/-- the first k rows are plain -/
def PlainTo (R : List (List (List Int))) (k : Nat) : Prop := ∀ (i : Nat) (row : List (List Int)), i < k → R[i]? = some row → ∀ (j : Nat) (t : List Int), row[j]? = some t → NoPre t ∧ Beg t
theorem plain_text {R : List (List (List Int))} (h : PlainTo R R.length) (r k : Nat) : NoPre ((R.getD r []).getD k []) ∧ Beg ((R.getD r []).getD k []) := by
  have h0 : NoPre [] ∧ Beg [] := ⟨fun x hx => by simp at hx, fun y hy => by simp at hy⟩
  rcases Nat.lt_or_ge r R.length with hr | hr
  · obtain ⟨row, hrow⟩ : ∃ row, R[r]? = some row := ⟨_, List.getElem?_eq_getElem hr⟩
    rw [getD_some hrow]
    rcases Nat.lt_or_ge k row.length with hk | hk
    · obtain ⟨t, ht⟩ : ∃ t, row[k]? = some t := ⟨_, List.getElem?_eq_getElem hk⟩
      rw [getD_some ht]
      exact h r row hr hrow k t ht
    · rw [getD_none hk]; exact h0
  · rw [getD_none (l := R) hr]; exact h0
theorem line_wide {R : List (List (List Int))} {n : Nat} (hs : SmallTo R n) (hl : R.length = n) (hp : PlainTo R n) (ps : Nat → Int × Int) (g m r : Nat) (hg : 1 ≤ g) :
    wsum (itms (lineL R n ps g m r)) = g * (m - 1 : Nat) + sumTo (fun k => lim (mx R k n) (ps k).1) m := by
  refine (ln_wide _ g _ hg m fun i _ => ?_).1
  have hpt := plain_text (R := R) (by rw [hl]; exact hp) r i
  obtain ⟨e1, e2, e3⟩ := fit_wide (fit_ex ((R.getD r []).getD i []) (lim (mx R i n) (ps i).1) (ps i).2) hpt.1 hpt.2
  have hb := lim_bd (mx_bd hs hl i n).1 (ps i).1
  rw [hold_of hb.1 hb.2] at e1
  exact ⟨e1, e2, e3⟩
theorem sumTo_bd {W : Nat → Int} (h : ∀ k, 0 ≤ W k ∧ W k ≤ 1024) : ∀ k, 0 ≤ sumTo W k ∧ sumTo W k ≤ 1024 * k
  | 0 => by simp [sumTo]
  | k + 1 => by
    have := sumTo_bd h k
    have := h k
    simp only [sumTo]
    omega

/-! ### what the works builds -/
def R0 : List (List (List Int)) := [[[97], [98, 99]], [[100]]]
def p0 : Nat → Int × Int := fun _ => (0, 0)
theorem m0 : lim (mx R0 0 2) 0 = 1 := by kernel_rfl
theorem m1 : lim (mx R0 1 2) 0 = 2 := by kernel_rfl
theorem f1 : fitV [97] 1 0 = [97] := (fitV_eq (.inl ⟨by rw [show wsum (itms [97]) = 1 by kernel_rfl]; decide, by kernel_rfl⟩)).symm
theorem f2 : fitV [98, 99] 2 0 = [98, 99] := (fitV_eq (.inl ⟨by rw [show wsum (itms [98, 99]) = 2 by kernel_rfl]; decide, by kernel_rfl⟩)).symm
theorem f3 : fitV [100] 1 0 = [100] := (fitV_eq (.inl ⟨by rw [show wsum (itms [100]) = 1 by kernel_rfl]; decide, by kernel_rfl⟩)).symm
theorem f4 : fitV [] 2 0 = [32, 32] := (fitV_eq (.inl ⟨by rw [b5]; decide, by kernel_rfl⟩)).symm
theorem lines0 : linesL R0 2 p0 1 2 2 = [[97, 32, 98, 99], [100, 32, 32, 32]] := by
  have e0 : lineL R0 2 p0 1 2 0 = [97, 32, 98, 99] := by
    unfold lineL
    rw [ln_next, ln_next]
    have a0 : lnF R0 2 p0 0 0 = fitV [97] (lim (mx R0 0 2) 0) 0 := rfl
    have a1 : lnF R0 2 p0 0 1 = fitV [98, 99] (lim (mx R0 1 2) 0) 0 := rfl
    rw [a0, a1, m0, m1, f1, f2]
    rfl
  have e1 : lineL R0 2 p0 1 2 1 = [100, 32, 32, 32] := by
    unfold lineL
    rw [ln_next, ln_next]
    have a0 : lnF R0 2 p0 1 0 = fitV [100] (lim (mx R0 0 2) 0) 0 := rfl
    have a1 : lnF R0 2 p0 1 1 = fitV [] (lim (mx R0 1 2) 0) 0 := rfl
    rw [a0, a1, m0, m1, f3, f4]
    rfl
  rw [linesL_next, linesL_next, e0, e1]
  rfl
theorem small0 : SmallTo R0 2 := by
  intro i row hi hr
  match i, hi, hr with
  | 0, _, hr =>
    simp [R0] at hr
    subst hr
    refine ⟨by simp, fun j t ht => ?_⟩
    have := List.mem_of_getElem? ht
    simp at this
    rcases this with rfl | rfl <;> simp
  | 1, _, hr =>
    simp [R0] at hr
    subst hr
    refine ⟨by simp, fun j t ht => ?_⟩
    have := List.mem_of_getElem? ht
    simp at this
    subst this
    simp

theorem list_new1 {α : Type} {Q : Reads α} (hQ : ∀ {w w' a n c z}, Q w a n c z → Below w.heap.size w w' → Q w' a n c z) {w : World} {a1 : Option Addr} {n1 c1 : Nat} {z1 : α} (h1 : Q w a1 n1 c1 z1) (T : TypeId) :
    ListOf Q (w.alloc (.cells #[.slice a1 n1 c1] T)) (some ⟨w.heap.size, 0, none⟩) 1 1 [z1] := by
  have hb : Below w.heap.size w (w.alloc (.cells #[.slice a1 n1 c1] T)) := (Below.refl _ _).alloc (Nat.le_refl _) _
  refine ⟨rfl, Nat.le_refl _, by omega, .inr ⟨w.heap.size, 0, rfl, by simp, fun i z h => ?_⟩⟩
  match i, h with
  | 0, h => simp at h; subst h; exact ⟨_, _, _, by unfold World.cell?; rw [heap_alloc_new]; rfl, hQ h1 hb⟩
  | i + 1, h => simp at h
theorem list_new2 {α : Type} {Q : Reads α} (hQ : ∀ {w w' a n c z}, Q w a n c z → Below w.heap.size w w' → Q w' a n c z) {w : World} {a1 a2 : Option Addr} {n1 c1 n2 c2 : Nat} {z1 z2 : α} (h1 : Q w a1 n1 c1 z1) (h2 : Q w a2 n2 c2 z2) (T : TypeId) :
    ListOf Q (w.alloc (.cells #[.slice a1 n1 c1, .slice a2 n2 c2] T)) (some ⟨w.heap.size, 0, none⟩) 2 2 [z1, z2] := by
  have hb : Below w.heap.size w (w.alloc (.cells #[.slice a1 n1 c1, .slice a2 n2 c2] T)) := (Below.refl _ _).alloc (Nat.le_refl _) _
  refine ⟨rfl, Nat.le_refl _, by omega, .inr ⟨w.heap.size, 0, rfl, by simp, fun i z h => ?_⟩⟩
  match i, h with
  | 0, h => simp at h; subst h; exact ⟨_, _, _, by unfold World.cell?; rw [heap_alloc_new]; rfl, hQ h1 hb⟩
  | 1, h => simp at h; subst h; exact ⟨_, _, _, by unfold World.cell?; rw [heap_alloc_new]; rfl, hQ h2 hb⟩
  | i + 2, h => simp at h

end Go.Proofs.YtcbfmokafmagpaaGreat.Tbl

namespace Go.Proofs.YtcbfmokafmagpaaGreat.Tbl
set_option linter.unusedSimpArgs false
set_option linter.unusedVariables false
open Go Go.RowKit Go.Shelf Mem Turn Gra Same GraLaw Mea Rep Just

theorem cols_new (w : World) : IsCols (w.alloc (.cells #[.int .i64 0, .int .i64 0, .int .i64 0, .int .i64 0] 39)) (some ⟨w.heap.size, 0, none⟩) 2 2 p0 := by
  refine ⟨Nat.le_refl _, by omega, .inr ⟨w.heap.size, 0, rfl, by simp, fun i hi => ?_⟩⟩
  match i, hi with
  | 0, _ => exact ⟨by unfold World.cell?; rw [heap_alloc_new]; rfl, by unfold World.cell?; rw [heap_alloc_new]; rfl⟩
  | 1, _ => exact ⟨by unfold World.cell?; rw [heap_alloc_new]; rfl, by unfold World.cell?; rw [heap_alloc_new]; rfl⟩

set_option maxRecDepth 100000 in
set_option maxHeartbeats 4000000 in
theorem works_any (w : World) :
    Calls Tryz.prog 14 #[] w fun e w' => e = .returned (.bool true) ∧ Below w.heap.size w w' := by
  go_enter Tryz.func14, Tryz.ntmps14
  go_wp2_with fail
  have T1 : Txt (w.alloc (.cells #[.int .i32 97] 21)) _ 1 1 [97] := ⟨runes_new w [97] 1 rfl (by intro x hx; simp at hx; omega) (by omega) #[.int .i32 97] rfl 21, by omega⟩
  have B1 : Below w.heap.size w (w.alloc (.cells #[.int .i32 97] 21)) := (Below.refl _ _).alloc (Nat.le_refl _) _
  have z1 : (w.alloc (.cells #[.int .i32 97] 21)).heap.size = w.heap.size + 1 := by simp
  generalize (w.alloc (.cells #[.int .i32 97] 21)) = W1 at *
  have T2 : Txt (W1.alloc (.cells #[.int .i32 98, .int .i32 99] 21)) _ 2 2 [98, 99] := ⟨runes_new W1 [98, 99] 2 rfl (by intro x hx; simp at hx; omega) (by omega) #[.int .i32 98, .int .i32 99] rfl 21, by omega⟩
  rw [z1] at T2
  have b2 : Below W1.heap.size W1 (W1.alloc (.cells #[.int .i32 98, .int .i32 99] 21)) := (Below.refl _ _).alloc (Nat.le_refl _) _
  have z2 : (W1.alloc (.cells #[.int .i32 98, .int .i32 99] 21)).heap.size = w.heap.size + 2 := by simp [z1]
  have T1 := T1.below b2
  have B2 := B1.trans (b2.mono (by omega))
  generalize (W1.alloc (.cells #[.int .i32 98, .int .i32 99] 21)) = W2 at *
  have T3 := list_new2 (Q := Txt) (fun h hb => Txt.below h hb) T1 T2 22
  rw [z2] at T3
  have b3 : Below W2.heap.size W2 (W2.alloc (.cells #[.slice (some ⟨w.heap.size, 0, none⟩) 1 1, .slice (some ⟨w.heap.size + 1, 0, none⟩) 2 2] 22)) := (Below.refl _ _).alloc (Nat.le_refl _) _
  have z3 : (W2.alloc (.cells #[.slice (some ⟨w.heap.size, 0, none⟩) 1 1, .slice (some ⟨w.heap.size + 1, 0, none⟩) 2 2] 22)).heap.size = w.heap.size + 3 := by simp [z2]
  have B3 := B2.trans (b3.mono (by omega))
  generalize (W2.alloc (.cells #[.slice (some ⟨w.heap.size, 0, none⟩) 1 1, .slice (some ⟨w.heap.size + 1, 0, none⟩) 2 2] 22)) = W3 at *
  have T4 : Txt (W3.alloc (.cells #[.int .i32 100] 21)) _ 1 1 [100] := ⟨runes_new W3 [100] 1 rfl (by intro x hx; simp at hx; omega) (by omega) #[.int .i32 100] rfl 21, by omega⟩
  rw [z3] at T4
  have b4 : Below W3.heap.size W3 (W3.alloc (.cells #[.int .i32 100] 21)) := (Below.refl _ _).alloc (Nat.le_refl _) _
  have z4 : (W3.alloc (.cells #[.int .i32 100] 21)).heap.size = w.heap.size + 4 := by simp [z3]
  have T3 := Texts.below T3 b4
  have B4 := B3.trans (b4.mono (by omega))
  generalize (W3.alloc (.cells #[.int .i32 100] 21)) = W4 at *
  have T5 := list_new1 (Q := Txt) (fun h hb => Txt.below h hb) T4 22
  rw [z4] at T5
  have b5 : Below W4.heap.size W4 (W4.alloc (.cells #[.slice (some ⟨w.heap.size + 3, 0, none⟩) 1 1] 22)) := (Below.refl _ _).alloc (Nat.le_refl _) _
  have z5 : (W4.alloc (.cells #[.slice (some ⟨w.heap.size + 3, 0, none⟩) 1 1] 22)).heap.size = w.heap.size + 5 := by simp [z4]
  have T3 := Texts.below T3 b5
  have B5 := B4.trans (b5.mono (by omega))
  generalize (W4.alloc (.cells #[.slice (some ⟨w.heap.size + 3, 0, none⟩) 1 1] 22)) = W5 at *
  have T6 := list_new2 (Q := Texts) (fun h hb => Texts.below h hb) T3 T5 35
  rw [z5] at T6
  have b6 : Below W5.heap.size W5 (W5.alloc (.cells #[.slice (some ⟨w.heap.size + 2, 0, none⟩) 2 2, .slice (some ⟨w.heap.size + 4, 0, none⟩) 1 1] 35)) := (Below.refl _ _).alloc (Nat.le_refl _) _
  have z6 : (W5.alloc (.cells #[.slice (some ⟨w.heap.size + 2, 0, none⟩) 2 2, .slice (some ⟨w.heap.size + 4, 0, none⟩) 1 1] 35)).heap.size = w.heap.size + 6 := by simp [z5]
  have B6 := B5.trans (b6.mono (by omega))
  generalize (W5.alloc (.cells #[.slice (some ⟨w.heap.size + 2, 0, none⟩) 2 2, .slice (some ⟨w.heap.size + 4, 0, none⟩) 1 1] 35)) = W6 at *
  have C7 := cols_new W6
  rw [z6] at C7
  have b7 : Below W6.heap.size W6 (W6.alloc (.cells #[.int .i64 0, .int .i64 0, .int .i64 0, .int .i64 0] 39)) := (Below.refl _ _).alloc (Nat.le_refl _) _
  have T7 : Rows3 (W6.alloc (.cells #[.int .i64 0, .int .i64 0, .int .i64 0, .int .i64 0] 39)) _ 2 2 R0 := Rows3.below T6 b7
  have B7 := Lib.hid (B6.trans (b7.mono (by omega)))
  generalize (W6.alloc (.cells #[.int .i64 0, .int .i64 0, .int .i64 0, .int .i64 0] 39)) = W7 at *
  have HL := Lib.hid (lines_any _ 2 2 R0 W7 T7 small0 (by omega) 1 1 (by decide) _ 2 2 p0 C7 (by omega))
  clear T1 T2 T3 T4 T5 T6 C7 T7 B1 B2 B3 B4 B5 B6 b2 b3 b4 b5 b6 b7 z1 z2 z3 z4 z5 z6
  refine HL.out.mono ?_
  rintro e w8 ⟨v, b', rfl, hO, hb⟩
  rw [lines0] at hO
  have hL := hO.lists
  obtain ⟨A, C, rfl⟩ := lists_slice hL
  obtain ⟨g, rfl, hg, hat⟩ := lists_own hL (by simp)
  obtain ⟨a1, n1, c1, e1, o1⟩ := hat 0 [97, 32, 98, 99] rfl
  obtain ⟨a2, n2, c2, e2, o2⟩ := hat 1 [100, 32, 32, 32] rfl
  have i1 := ints_of_own o1
  have i2 := ints_of_own o2
  have h1 := i1.1
  have h2 := i2.1
  simp at h1 h2
  subst h1 h2
  have HI1 := Lib.hid i1
  have HI2 := Lib.hid i2
  have HB8 := Lib.hid (B7.out.trans (hb.mono B7.out.size))
  have E2 := Lib.hid e2
  clear hO hL hat o1 o2 i1 i2 hb HL B7 e2
  simp only [List.length_cons, List.length_nil]
  go_wp2_with fail
  have R1 := runes_new w8 [97, 32, 98, 99] 4 rfl (by intro x hx; simp at hx; omega) (by omega) #[.int .i32 97, .int .i32 32, .int .i32 98, .int .i32 99] rfl 21
  have b9 : Below w8.heap.size w8 (w8.alloc (.cells #[.int .i32 97, .int .i32 32, .int .i32 98, .int .i32 99] 21)) := (Below.refl _ _).alloc (Nat.le_refl _) _
  have HI3 := Lib.hid (HI1.out.below b9)
  have HI4 := Lib.hid (HI2.out.below b9)
  have HB9 := Lib.hid (HB8.out.trans (b9.mono HB8.out.size))
  have E3 := Lib.hid ((b9.cell (p := ⟨g, 1, none⟩) hg).trans E2.out)
  have hg9 := Nat.lt_of_lt_of_le hg b9.size
  generalize (w8.alloc (.cells #[.int .i32 97, .int .i32 32, .int .i32 98, .int .i32 99] 21)) = w9 at *
  clear b9
  refine (same_true _ _ _ _ _ _ _ w9 HI3.out R1.ints (by omega)).mono ?_
  rintro e w10 ⟨rfl, hb10⟩
  have HI5 := Lib.hid (HI4.out.below hb10)
  have HB10 := Lib.hid (HB9.out.trans (hb10.mono HB9.out.size))
  have e4 := (hb10.cell (p := ⟨g, 1, none⟩) hg9).trans E3.out
  clear hb10 R1 HI3 HI4 HB9 HB8 HI1 HI2 E2 E3 e1
  go_wp2_with fail
  have R1 := runes_new w10 [100, 32, 32, 32] 4 rfl (by intro x hx; simp at hx; omega) (by omega) #[.int .i32 100, .int .i32 32, .int .i32 32, .int .i32 32] rfl 21
  have b11 : Below w10.heap.size w10 (w10.alloc (.cells #[.int .i32 100, .int .i32 32, .int .i32 32, .int .i32 32] 21)) := (Below.refl _ _).alloc (Nat.le_refl _) _
  have HI6 := Lib.hid (HI5.out.below b11)
  have HB11 := Lib.hid (HB10.out.trans (b11.mono HB10.out.size))
  generalize (w10.alloc (.cells #[.int .i32 100, .int .i32 32, .int .i32 32, .int .i32 32] 21)) = w11 at *
  clear b11
  refine (same_true _ _ _ _ _ _ _ w11 HI6.out R1.ints (by omega)).mono ?_
  rintro e w12 ⟨rfl, hb12⟩
  have HB12 := Lib.hid (HB11.out.trans (hb12.mono HB11.out.size))
  clear hb12 R1 HI6 HB11 HI5 HB10 e4
  go_wp2
  go_ret
  exact ⟨rfl, HB12.out⟩

end Go.Proofs.YtcbfmokafmagpaaGreat.Tbl

/-
  A row of cells of one's own, cell after cell; RingOwn's first half.
-/
import Derived.Test.YtediledehhcicaaRingO
import Derived.Test.YtediledehhcicaaRingS
namespace Go.Proofs.Ytediledehhcicaa.Ring
set_option linter.unusedSimpArgs false
set_option linter.unusedVariables false
open Go Go.RowKit Mem Turn

theorem TextsOf.mono {D D' : Nat → Prop} {w : World} {R : List (Int × Value)} {P : List CellC} (h : TextsOf D w R P) (hD : ∀ b, D b → b < w.heap.size → D' b) : TextsOf D' w R P :=
  ⟨h.1, fun j r x hr hx => ⟨(h.2 j r x hr hx).1, (h.2 j r x hr hx).2.mono hD⟩⟩

/-- a list of cells of the call's own, of blocks from B on -/
def OwnCr (w : World) (B : Nat) (cs : List CellC) (k : Nat) (v : Value) (rs : List (Int × Value)) (wx : World) : Prop :=
  wx.ownsRow B 31 2 v k (flatC rs) ∧ TextsOf (fun b => B ≤ b ∧ v.ownBlock ≠ some b) wx rs (cs.take k) ∧ Below B w wx ∧ B ≤ wx.heap.size
def OwnC (w : World) (B : Nat) (cs : List CellC) (k : Nat) (v : Value) (wx : World) : Prop := ∃ rs, OwnCr w B cs k v rs wx
/-- one cell more, its text laid in a block of its own ahead of the append -/
theorem ownC_next {w w1 w2 w3 : World} {B k : Nat} {cs : List CellC} {v v3 : Value} {x : CellC} {tv : Value} {rs : List (Int × Value)} (h : OwnCr w B cs k v rs w1) (hx : cs[k]? = some x) (hb : Below w1.heap.size w1 w2) (hc : TextAt (fun b => w1.heap.size ≤ b) True w2 tv x.2)
    (hown : w3.ownsRow B 31 2 v3 (k + 1) (flatC rs ++ [.int .i64 x.1, tv])) (hg : w2.grownBy w3 v.ownBlock) (hat : v3.ownBlock = v.ownBlock ∨ v3.ownBlock = some w2.heap.size) : OwnC w B cs (k + 1) v3 w3 := by
  obtain ⟨h1, h2, h3, h4⟩ := h
  have hsz := hb.size
  have T3 : Turn (fun j => v.ownBlock = some j) w2 w3 := Turn.of_grown hg (fun g e => e)
  have TA : Turn (fun j => v.ownBlock = some j) w1 w3 := (Turn.of_new hb).trans T3
  refine ⟨rs ++ [(x.1, tv)], by rw [flatC_app]; exact hown, texts_snoc ?_ hx ?_, h3.trans (TA.below h4 (fun j e => (h1.lt j e).1)), Nat.le_trans h4 TA.size⟩
  · refine texts_grow h2 TA (fun b hb2 _ e => hb2.2 e) (fun b hb2 hlt => ⟨hb2.1, fun e => ?_⟩)
    rcases hat with h9 | h9
    · rw [h9] at e; exact hb2.2 e
    · rw [h9] at e; injection e with e; omega
  · have hc2 : TextAt (fun b => w1.heap.size ≤ b ∧ b < w2.heap.size) True w2 tv x.2 := hc.mono (fun b hb2 hlt => ⟨hb2, hlt⟩)
    refine (hc2.turn T3 (fun b hb2 _ e => by have := (h1.lt b e).2; omega)).mono (fun b hb2 _ => ⟨by omega, fun e => ?_⟩)
    rcases hat with h9 | h9
    · rw [h9] at e; have := (h1.lt b e).2; omega
    · rw [h9] at e; injection e with e; omega
theorem OwnC.cells {w wx : World} {B k : Nat} {cs : List CellC} {v : Value} (h : OwnC w B cs k v wx) (hk : cs.length ≤ k) (hs : cs.length * 32 ≤ 140737488355328) : CellsAt (fun b => B ≤ b) True wx v cs := by
  obtain ⟨rs, h1, h2, h3, h4⟩ := h
  rw [List.take_of_length_le hk] at h2
  exact cells_of_own h1 (h2.mono (fun b hb _ => hb.1)) (fun g hg => (h1.lt g hg).1) hs
theorem OwnC.nil (w : World) (B : Nat) (cs : List CellC) (wx : World) (hb : Below B w wx) (hB : B ≤ wx.heap.size) : OwnC w B cs 0 (.slice none 0 0) wx := ⟨[], World.ownsRow_nil _ _ _ _, ⟨by simp, fun j r x h => by cases h⟩, hb, hB⟩

set_option maxRecDepth 100000 in
set_option maxHeartbeats 8000000 in
theorem ring_own (v : Value) (ls : List LineC) (w : World) (h : LinesAt (fun b => b < w.heap.size) False w v ls) :
    Calls Try.prog 3 #[v] w fun e w' => e = .returned (.bool true) ∧ Below w.heap.size w w' := by
  obtain ⟨i1, hi1, hy0, hy1, hy2⟩ := info_parts info_rune
  obtain ⟨i2, hi2, hx0, hx1, hx2⟩ := info_parts info_cell
  obtain ⟨i3, hi3, hw0, hw1, hw2⟩ := info_parts info_line
  have hmx : Try.prog.follows .mixedOrders = true := by kernel_rfl
  have HH := Lib.hid h
  obtain ⟨a, c, rfl, hc, h1⟩ := h
  have H1 := Lib.hid h1
  obtain ⟨n, hn⟩ : ∃ n, ls.length = n := ⟨_, rfl⟩
  have HN := Lib.hid hn
  have HWK : Hid (∀ X, Calls Try.prog 5 #[] X fun e w' => e = .returned (.bool true) ∧ Below X.heap.size X w') := Lib.hid fun X => works_ok X
  rw [hn] at hc HH ⊢
  clear h1 hn
  by_cases h40 : n ≤ 40
  · have d1 : decide (40 < n) = false := decide_eq_false (by omega)
    have d2 : decide ((40 : Int) < (n : Int)) = false := decide_eq_false (by omega)
    go_enter Try.func3, Try.ntmps3
    go_wp2_with fail
    refine (HWK.out _).mono ?_
    rintro e w1 ⟨rfl, hb1⟩
    have HB1 := Lib.hid hb1
    clear hb1
    go_wp2_with fail
    refine (new_any 100 100 (by decide) w1 (by omega) (by omega)).mono ?_
    rintro e w2 ⟨rfl, hw2', hb2, hs2⟩
    have HW2 := Lib.hid hw2'
    have HB2 := Lib.hid (HB1.out.trans (hb2.mono HB1.out.size))
    have HS2 := Lib.hid hs2
    have HQR := HB1.out.size
    clear hw2' hb2 hs2
    go_wp2_with fail
    have HSTART : Hid (OwnL w2 w2.heap.size ls 0 (.slice none 0 0) w2) := Lib.hid (OwnL.nil _ _ _ _ (Below.refl _ _) (Nat.le_refl _))
    generalize hqr : w1.heap.size = qr at *
    go_loopg [4, 5, 6, 7] n (fun gg vin i c kk wx => ∃ m : Nat, n - m = gg ∧ m ≤ n ∧ i = .int .i64 (m : Int) ∧ Hid (OwnL w2 w2.heap.size ls m vin wx))
    case atStart => exact ⟨0, rfl, Nat.zero_le _, rfl, HSTART⟩
    case round =>
      obtain ⟨m, rfl, hm, rfl, H⟩ := hrel
      obtain ⟨rs, hOL⟩ := H.out
      obtain ⟨av, cv, rfl⟩ := Turn.own_slice hOL.1
      by_cases hlt : m < n
      · obtain ⟨b1, o1, rfl, hb1s, hb1D, c1⟩ := H1.out.resolve_left (by rw [HN.out]; omega)
        obtain ⟨x, hx⟩ : ∃ x, ls[m]? = some x := ⟨_, List.getElem?_eq_getElem (by rw [HN.out]; exact hlt)⟩
        obtain ⟨t1, r1, s1, q1⟩ := c1 m x hx
        have HBW := Lib.hid (HB2.out.trans (hOL.2.2.1.mono HB2.out.size))
        obtain ⟨cs, wb⟩ := x
        simp only at s1 q1
        obtain ⟨at1, ct1, rfl, hct, hcs, hrow⟩ := s1
        obtain ⟨N, hN⟩ : ∃ N, cs.length = N := ⟨_, rfl⟩
        have HN2 := Lib.hid hN
        have HROW := Lib.hid hrow
        have HX := Lib.hid hx
        have HCS := Lib.hid hcs
        have HOL := Lib.hid hOL
        have k1 := (HBW.out.cell (p := ⟨b1, o1 + m * 2, none⟩) hb1s).trans r1
        have k2 := (HBW.out.cell (p := ⟨b1, o1 + m * 2 + 1, none⟩) hb1s).trans q1
        rw [hN] at k1 hct hcs
        have hNb : N ≤ 4398046511104 := by omega
        have hlt' : (m : Int) < (n : Int) := by omega
        clear hN hrow hx hcs hOL H c1 r1 q1
        have HCST : Hid (OwnC wr wr.heap.size cs 0 (.slice none 0 0) wr) := Lib.hid (OwnC.nil _ _ _ _ (Below.refl _ _) (Nat.le_refl _))
        go_wp2_with fail
        generalize hwq : wr = wq at *
        clear hwq
        go_loopg [6, 7] N (fun gg vc kk wx => ∃ p : Nat, N - p = gg ∧ p ≤ N ∧ kk = .int .i64 (p : Int) ∧ Hid (OwnC wq wq.heap.size cs p vc wx))
        case atStart => exact ⟨0, rfl, Nat.zero_le _, rfl, HCST⟩
        case round =>
          obtain ⟨p, rfl, hp, rfl, H⟩ := hrel
          obtain ⟨rc, hOC⟩ := H.out
          obtain ⟨ac, cc, rfl⟩ := Turn.own_slice hOC.1
          have HBX := Lib.hid (HBW.out.trans (hOC.2.2.1.mono HBW.out.size))
          have g1 := (hOC.2.2.1.cell (p := ⟨b1, o1 + m * 2, none⟩) (Nat.lt_of_lt_of_le hb1s HBW.out.size)).trans k1
          have g2 := (hOC.2.2.1.cell (p := ⟨b1, o1 + m * 2 + 1, none⟩) (Nat.lt_of_lt_of_le hb1s HBW.out.size)).trans k2
          have HOC := Lib.hid hOC
          clear hOC H
          by_cases hltp : p < N
          · have hltp' : (p : Int) < (N : Int) := by omega
            obtain ⟨b2, o2, rfl, hb2s, hb2D, c2⟩ := HROW.out.resolve_left (by rw [HN2.out]; omega)
            obtain ⟨y, hy⟩ : ∃ y, cs[p]? = some y := ⟨_, List.getElem?_eq_getElem (by rw [HN2.out]; exact hltp)⟩
            obtain ⟨r2, _, tv, q2, s2⟩ := c2 p y hy
            have HTX := Lib.hid (s2.below (HBX.out.mono (Nat.le_refl _)))
            obtain ⟨kd, tx⟩ := y
            obtain ⟨at2, ct2, rfl, hct2, htx4, _⟩ := s2
            obtain ⟨tl, htl⟩ : ∃ tl, tx.length = tl := ⟨_, rfl⟩
            simp only at r2 q2 hct2 htx4 HTX htl
            rw [htl] at q2 hct2 htx4 HTX
            have HTL := Lib.hid htl
            have HY := Lib.hid hy
            have htl2 : tl ≤ 35184372088832 := by omega
            have g3 := (HBX.out.cell (p := ⟨b2, o2 + p * 2, none⟩) hb2s).trans r2
            have g4 := (HBX.out.cell (p := ⟨b2, o2 + p * 2 + 1, none⟩) hb2s).trans q2
            have hb1w := hb1s
            clear htl hy c2 r2 q2 htx4
            go_upto_region 12 with fail
            have hS : wr.drew.cell? ⟨b1, o1 + m * 2, none⟩ = some (.slice (some ⟨b2, o2, none⟩) N ct1) ∧ wr.drew.cell? ⟨b2, o2 + p * 2, none⟩ = some (.int .i64 kd) ∧ wr.drew.cell? ⟨b2, o2 + p * 2 + 1, none⟩ = some (.slice at2 tl ct2) := ⟨g1, g3, g4⟩
            refine region_begin3 (fun w' => w'.cell? ⟨b1, o1 + m * 2, none⟩ = some (.slice (some ⟨b2, o2, none⟩) N ct1) ∧ w'.cell? ⟨b2, o2 + p * 2, none⟩ = some (.int .i64 kd) ∧ w'.cell? ⟨b2, o2 + p * 2 + 1, none⟩ = some (.slice at2 tl ct2)) (fun _ => false) 25 rfl hmx (by intro _ _ d _ _ h; cases d <;> exact h) fun hQP => ?_
            refine take_first2 0 (some 37) rfl rfl (by kernel_rfl) (by kernel_rfl) (by kernel_rfl) (by kernel_rfl) hQP hS (.inl ⟨by rfl, fun w' hw' => by obtain ⟨e0, e1, e2⟩ := hw'; go_simp; try with_reducible rfl⟩) ?_
            refine take_first2 1 (some 38) rfl rfl (by kernel_rfl) (by kernel_rfl) (by kernel_rfl) (by kernel_rfl) hQP hS (.inl ⟨by rfl, fun w' hw' => by obtain ⟨e0, e1, e2⟩ := hw'; go_simp; try with_reducible rfl⟩) ?_
            refine take_first2 2 (some 39) rfl rfl (by kernel_rfl) (by kernel_rfl) (by kernel_rfl) (by kernel_rfl) hQP hS (.inl ⟨by rfl, fun w' hw' => by obtain ⟨e0, e1, e2⟩ := hw'; go_simp; try with_reducible rfl⟩) ?_
            refine take_first2 3 (some 40) rfl rfl (by kernel_rfl) (by kernel_rfl) (by kernel_rfl) (by kernel_rfl) hQP hS (.inl ⟨by rfl, fun w' hw' => by obtain ⟨e0, e1, e2⟩ := hw'; go_simp; try with_reducible rfl⟩) ?_
            refine take_first2 4 (some 41) rfl rfl (by kernel_rfl) (by kernel_rfl) (by kernel_rfl) (by kernel_rfl) hQP hS (.inl ⟨by rfl, fun w' hw' => by obtain ⟨e0, e1, e2⟩ := hw'; go_simp; try with_reducible rfl⟩) ?_
            refine take_first2 5 (some 42) rfl rfl (by kernel_rfl) (by kernel_rfl) (by kernel_rfl) (by kernel_rfl) hQP hS (.inl ⟨by rfl, fun w' hw' => by obtain ⟨e0, e1, e2⟩ := hw'; go_simp; try with_reducible rfl⟩) ?_
            refine take_first2 6 (some 43) rfl rfl (by kernel_rfl) (by kernel_rfl) (by kernel_rfl) (by kernel_rfl) hQP hS (.inl ⟨by rfl, fun w' hw' => by obtain ⟨e0, e1, e2⟩ := hw'; go_simp; try with_reducible rfl⟩) ?_
            refine take_first2 7 (some 44) rfl rfl (by kernel_rfl) (by kernel_rfl) (by kernel_rfl) (by kernel_rfl) hQP hS (.inl ⟨by rfl, fun w' hw' => by obtain ⟨e0, e1, e2⟩ := hw'; go_simp; try with_reducible rfl⟩) ?_
            refine take_first2 8 (some 45) rfl rfl (by kernel_rfl) (by kernel_rfl) (by kernel_rfl) (by kernel_rfl) hQP hS (.inl ⟨by rfl, fun w' hw' => by obtain ⟨e0, e1, e2⟩ := hw'; go_simp; try with_reducible rfl⟩) ?_
            refine take_first2 9 (some 46) rfl rfl (by kernel_rfl) (by kernel_rfl) (by kernel_rfl) (by kernel_rfl) hQP hS (.inl ⟨by rfl, fun w' hw' => by obtain ⟨e0, e1, e2⟩ := hw'; go_simp; try with_reducible rfl⟩) ?_
            refine take_first2 11 (some 48) rfl rfl (by kernel_rfl) (by kernel_rfl) (by kernel_rfl) (by kernel_rfl) hQP hS (.inl ⟨by rfl, fun w' hw' => by obtain ⟨e0, e1, e2⟩ := hw'; go_simp; try with_reducible rfl⟩) ?_
            refine take_first2 12 (some 49) rfl rfl (by kernel_rfl) (by kernel_rfl) (by kernel_rfl) (by kernel_rfl) hQP hS (.inl ⟨by rfl, fun w' hw' => by obtain ⟨e0, e1, e2⟩ := hw'; go_simp; try with_reducible rfl⟩) ?_
            refine take_first2 13 (some 50) rfl rfl (by kernel_rfl) (by kernel_rfl) (by kernel_rfl) (by kernel_rfl) hQP hS (.inl ⟨by rfl, fun w' hw' => by obtain ⟨e0, e1, e2⟩ := hw'; go_simp; try with_reducible rfl⟩) ?_
            refine take_first2 14 (some 51) rfl rfl (by kernel_rfl) (by kernel_rfl) (by kernel_rfl) (by kernel_rfl) hQP hS (.inl ⟨by rfl, fun w' hw' => by obtain ⟨e0, e1, e2⟩ := hw'; go_simp; try with_reducible rfl⟩) ?_
            refine take_first2 15 (some 52) rfl rfl (by kernel_rfl) (by kernel_rfl) (by kernel_rfl) (by kernel_rfl) hQP hS (.inl ⟨by rfl, fun w' hw' => by obtain ⟨e0, e1, e2⟩ := hw'; go_simp; try with_reducible rfl⟩) ?_
            refine take_first2 16 (some 53) rfl rfl (by kernel_rfl) (by kernel_rfl) (by kernel_rfl) (by kernel_rfl) hQP hS (.inl ⟨by rfl, fun w' hw' => by obtain ⟨e0, e1, e2⟩ := hw'; go_simp; try with_reducible rfl⟩) ?_
            refine take_first2 17 (some 54) rfl rfl (by kernel_rfl) (by kernel_rfl) (by kernel_rfl) (by kernel_rfl) hQP hS (.inl ⟨by rfl, fun w' hw' => by obtain ⟨e0, e1, e2⟩ := hw'; go_simp; try with_reducible rfl⟩) ?_
            refine take_first2 18 (some 55) rfl rfl (by kernel_rfl) (by kernel_rfl) (by kernel_rfl) (by kernel_rfl) hQP hS (.inl ⟨by rfl, fun w' hw' => by obtain ⟨e0, e1, e2⟩ := hw'; go_simp; try with_reducible rfl⟩) ?_
            refine take_first2 19 (some 56) rfl rfl (by kernel_rfl) (by kernel_rfl) (by kernel_rfl) (by kernel_rfl) hQP hS (.inl ⟨by rfl, fun w' hw' => by obtain ⟨e0, e1, e2⟩ := hw'; go_simp; try with_reducible rfl⟩) ?_
            refine take_one (i := 10) (by kernel_rfl) rfl rfl fun K hK => ?_
            go_wp2_with fail
            have T4 : Turn (fun _ => False) wr (wr.alloc (.cells #[] 21)).drew := (Turn.alloc _ _ _).trans (Turn.drew _ _)
            have hOWN4 : ((wr.alloc (.cells #[] 21)).drew).ownsRow wr.heap.size 21 1 (.slice (some ⟨wr.heap.size, 0, none⟩) 0 0) 0 [] := World.ownsRow_made wr.drew #[] 0 (Nat.le_refl _) (by unfold maxLen; omega) rfl
            have hS : (wr.alloc (.cells #[] 21)).drew.cell? ⟨b1, o1 + m * 2, none⟩ = some (.slice (some ⟨b2, o2, none⟩) N ct1) ∧ (wr.alloc (.cells #[] 21)).drew.cell? ⟨b2, o2 + p * 2, none⟩ = some (.int .i64 kd) ∧ (wr.alloc (.cells #[] 21)).drew.cell? ⟨b2, o2 + p * 2 + 1, none⟩ = some (.slice at2 tl ct2) := ⟨T4.cell g1 id, T4.cell g3 id, T4.cell g4 id⟩
            have hs4 : (wr.alloc (.cells #[] 21)).drew.heap.size = wr.heap.size + 1 := by simp
            refine hK _ _ (.inr hS) ?_
            clear hK
            generalize (wr.alloc (.cells #[] 21)).drew = w4 at *
            have HT4 := Lib.hid T4
            have HSRC := Lib.hid (src_text (HTX.out.below (Turn.below T4 (Nat.le_refl _) (fun _ h => h.elim))))
            refine take_one (i := 20) (by kernel_rfl) rfl rfl fun K hK => ?_
            refine wp_append_src _ _ _ 29 rfl wr.heap.size 21 i1 _ 1 4 Try.underlying29 hi1 hy0 hy1 hy2 rfl (by decide) (.slice (some ⟨wr.heap.size, 0, none⟩) 0 0) 0 [] (by rfl) hOWN4 at2 tl ct2 (tx.map (Value.int .i32)) (by rfl) HSRC.out (one_cells _) (by unfold maxLen; omega) (by omega) (by omega) ?_
            intro v5 w5 hown5 hgrow5
            rw [Nat.zero_add, List.nil_append] at hown5
            obtain ⟨a5, c5, rfl⟩ := Turn.own_slice hown5
            have HT5 : Hid (Below wr.heap.size wr w5) := Lib.hid (((Turn.below HT4.out (Nat.le_refl _) (fun _ h => h.elim)).grown hgrow5 (by omega) (fun k e => by injection (show some wr.heap.size = some k from e) with e; omega)))
            have HTV := Lib.hid (text_of_own (D := fun b => wr.heap.size ≤ b) hown5 (fun g hg => (hown5.lt g hg).1) (by rw [HTL.out]; omega))
            have hS : w5.cell? ⟨b1, o1 + m * 2, none⟩ = some (.slice (some ⟨b2, o2, none⟩) N ct1) ∧ w5.cell? ⟨b2, o2 + p * 2, none⟩ = some (.int .i64 kd) ∧ w5.cell? ⟨b2, o2 + p * 2 + 1, none⟩ = some (.slice at2 tl ct2) := ⟨(HT5.out.cell (World.block_lt_of_cell? _ _ g1)).trans g1, (HT5.out.cell (World.block_lt_of_cell? _ _ g3)).trans g3, (HT5.out.cell (World.block_lt_of_cell? _ _ g4)).trans g4⟩
            have hs5 := HT5.out.size
            refine hK _ _ (.inr hS) ?_
            clear hK hown5 hgrow5 hOWN4 T4 HSRC hs4
            refine take_one (i := 21) (by kernel_rfl) rfl rfl fun K hK => ?_
            go_wp2_with fail
            refine hK _ _ (.inr hS) ?_
            clear hK
            refine take_one (i := 22) (by kernel_rfl) rfl rfl fun K hK => ?_
            go_wp2_with fail
            have T6 : Turn (fun _ => False) w5 (w5.alloc (.cells #[.int .i64 kd, .slice a5 tl c5] 31)) := Turn.alloc _ _ _
            have hnews : ∀ j u, [Value.int .i64 kd, .slice a5 tl c5][j]? = some u → (w5.alloc (.cells #[.int .i64 kd, .slice a5 tl c5] 31)).cell? ((⟨w5.heap.size, 0, none⟩ : Addr).add j) = some u := cell_new2 _ _ _ _
            have hS : (w5.alloc (.cells #[.int .i64 kd, .slice a5 tl c5] 31)).cell? ⟨b1, o1 + m * 2, none⟩ = some (.slice (some ⟨b2, o2, none⟩) N ct1) ∧ (w5.alloc (.cells #[.int .i64 kd, .slice a5 tl c5] 31)).cell? ⟨b2, o2 + p * 2, none⟩ = some (.int .i64 kd) ∧ (w5.alloc (.cells #[.int .i64 kd, .slice a5 tl c5] 31)).cell? ⟨b2, o2 + p * 2 + 1, none⟩ = some (.slice at2 tl ct2) := ⟨T6.cell hS.1 id, T6.cell hS.2.1 id, T6.cell hS.2.2 id⟩
            have HB6 : Hid (Below wr.heap.size wr (w5.alloc (.cells #[.int .i64 kd, .slice a5 tl c5] 31))) := Lib.hid (HT5.out.alloc hs5 _)
            have HTV6 := Lib.hid (HTV.out.turn T6 (fun _ _ _ => id))
            refine hK _ _ (.inr hS) ?_
            clear hK T6 HTV
            generalize (w5.alloc (.cells #[.int .i64 kd, .slice a5 tl c5] 31)) = w6 at *
            have HO6 := Lib.hid ((Turn.of_new HB6.out : Turn (fun _ => False) _ _).kept HOC.out.1 (fun _ _ => id))
            have hs6 := HB6.out.size
            have hwq := HOC.out.2.2.2
            refine take_append_at 23 60 (by kernel_rfl) rfl rfl rfl (.tmp 37) (.tmp 59) 26 rfl wq.heap.size 31 i2 _ 2 32 Try.underlying26 hi2 hx0 hx1 hx2 rfl (by decide) (.slice ac p cc) p (flatC rc) (by rfl) HO6.out ⟨w5.heap.size, 0, none⟩ 1 1 [.int .i64 kd, .slice a5 tl c5] (by rfl) rfl hnews (by intro u hu; simp at hu; rcases hu with rfl | rfl <;> rfl) (by unfold maxLen; omega) (by omega) (by omega) ?_
            intro v9 w9 hown9 hgrow9 hat9
            obtain ⟨a9, cap9, rfl⟩ := Turn.own_slice hown9
            have HNX := Lib.hid (ownC_next (x := (kd, tx)) HOC.out HY.out HB6.out (by have h9 := HTV6.out; exact h9) hown9 hgrow9 hat9)
            have T9 : Turn (fun j => (Value.slice ac p cc).ownBlock = some j) w6 w9 := Turn.of_grown hgrow9 (fun g e => e)
            have hrow9 : ∀ g, (Value.slice ac p cc).ownBlock = some g → wq.heap.size ≤ g := fun g hg => (HOC.out.1.lt g hg).1
            have hwqs := HBW.out.size
            have hS9 : w9.cell? ⟨b1, o1 + m * 2, none⟩ = some (.slice (some ⟨b2, o2, none⟩) N ct1) ∧ w9.cell? ⟨b2, o2 + p * 2, none⟩ = some (.int .i64 kd) ∧ w9.cell? ⟨b2, o2 + p * 2 + 1, none⟩ = some (.slice at2 tl ct2) := ⟨T9.cell hS.1 (fun e => by have := hrow9 _ e; simp only at this; omega), T9.cell hS.2.1 (fun e => by have := hrow9 _ e; simp only at this; omega), T9.cell hS.2.2 (fun e => by have := hrow9 _ e; simp only at this; omega)⟩
            refine ⟨.inr hS9, ?_⟩
            clear hown9 hgrow9 hat9 T9 hrow9 hnews HO6 HTV6
            refine take_one (i := 24) (by kernel_rfl) rfl rfl fun K hK => ?_
            go_wp2_with fail
            refine hK _ _ (.inr hS9) ?_
            clear hK
            refine take_done (by kernel_rfl) ?_ _
            go_wp2_with fail
            go_roundg (N - (p + 1))
            case measure => omega
            case rel => exact ⟨p + 1, rfl, by omega, by go_num, HNX⟩
          · obtain rfl : p = N := by omega
            have HCA := Lib.hid (OwnC.cells ⟨rc, HOC.out⟩ (by rw [HN2.out]; exact Nat.le_refl _) HCS.out)
            have HBQ := Lib.hid HOC.out.2.2.1
            have HBA : Hid (Below wq.heap.size wq (wr.alloc (.cells #[.slice ac p cc, .bool wb] 28))) := Lib.hid (HBQ.out.alloc HOC.out.2.2.2 _)
            have HOA := Lib.hid ((Turn.of_new HBA.out : Turn (fun _ => False) _ _).kept HOL.out.1 (fun _ _ => id))
            have HSB := Lib.hid (Nat.le_trans HOL.out.2.2.2 HBA.out.size)
            have HCA2 := Lib.hid (HCA.out.below ((Below.refl _ _).alloc (Nat.le_refl _) (.cells #[.slice ac p cc, .bool wb] 28)))
            have hnews : ∀ j u, [Value.slice ac p cc, .bool wb][j]? = some u → (wr.alloc (.cells #[.slice ac p cc, .bool wb] 28)).cell? ((⟨wr.heap.size, 0, none⟩ : Addr).add j) = some u := cell_new2 _ _ _ _
            have HNW := Lib.hid hnews
            clear hnews HCA HCS
            go_wp2_with (at_builtin; refine wpList_append_own_at _ rfl (.tmp 61) (.tmp 69) 22 rfl w2.heap.size 28 i3 _ 2 32 Try.underlying22 hi3 hw0 hw1 hw2 rfl (by decide) (.slice av m cv) m (flatL rs) rfl HOA.out ⟨wr.heap.size, 0, none⟩ 1 1 [.slice ac p cc, .bool wb] rfl rfl HNW.out (by intro u hu; simp at hu; rcases hu with rfl | rfl <;> rfl) (by unfold maxLen; omega) (by omega) HSB.out ?_; intro v3 w3 hown3 hgrow3 _ hat3)
            have HNX := Lib.hid (ownL_next (x := (cs, wb)) HOL.out HX.out HBA.out HCA2.out hown3 hgrow3 hat3)
            clear hown3 hgrow3 hat3
            go_roundg (n - (m + 1))
            case measure => omega
            case rel => exact ⟨m + 1, rfl, by omega, by go_num, HNX⟩
      · obtain rfl : m = n := by omega
        have HIN := Lib.hid (OwnL.lines ⟨rs, hOL⟩ (by rw [HN.out]; exact Nat.le_refl _))
        have HBI := Lib.hid hOL.2.2.1
        have HSI := Lib.hid hOL.2.2.2
        have HRI := Lib.hid (ring_of_new (lo' := wr.heap.size) HW2.out HBI.out (by omega) (by omega) (by have := HS2.out; have := HSI.out; omega) (Nat.le_refl _))
        have HLD := Lib.hid ((HIN.out.mono (fun b hb hlt => (⟨hb, hlt⟩ : w2.heap.size ≤ b ∧ b < wr.heap.size))))
        have HBW := Lib.hid (HB2.out.trans (HBI.out.mono HB2.out.size))
        clear H hOL
        go_wp2_with fail
        refine (push_any (fun b => w2.heap.size ≤ b ∧ b < wr.heap.size) True qr wr.heap.size 100 0 [] ls _ wr HRI.out HLD.out (fun b hb => by have := HS2.out; omega) (by rw [HN.out]; omega)).mono ?_
        rintro e w5 ⟨rfl, hr5, ht5⟩
        rw [pushes_eq (by omega) ls (by simp) (by simp only [Nat.zero_add]; rw [HN.out]; omega)] at hr5
        simp only [List.nil_append, show ls.length - 100 = 0 from by rw [HN.out]; omega, List.drop_zero, Nat.add_zero] at hr5
        have HR5 := Lib.hid hr5
        have HT5 := Lib.hid ht5
        have HI5 := Lib.hid (HLD.out.turn ht5 (fun b hb hlt e => by have := HS2.out; omega))
        clear hr5 ht5 HLD HRI HIN
        go_wp2_with fail
        refine (last_any qr wr.heap.size 100 0 ls 100 (by decide) (by decide) 0 (by rw [HN.out]; omega) w5 HR5.out).mono ?_
        rintro e w6 ⟨v6, rfl, hl6, hb6⟩
        rw [List.drop_zero] at hl6
        obtain ⟨a6, c6, hv6, _⟩ := id hl6
        rw [HN.out] at hv6
        subst hv6
        have HI6 := Lib.hid (HI5.out.below hb6)
        have HO6 := Lib.hid hl6
        have HB6 := Lib.hid hb6
        clear hl6 hb6 HI5
        go_wp2_with fail
        generalize wr = wi at *
        have HST : Hid (Soft w6 w6 ∧ Turn (RT w2.heap.size wi.heap.size w5.heap.size) w6 w6) := Lib.hid ⟨Soft.refl _, Turn.refl _ _⟩
        go_loopg [9, 10, 11] m (fun gg i kk jj wx => ∃ s : Nat, m - s = gg ∧ s ≤ m ∧ i = .int .i64 (s : Int) ∧ Hid (Soft w6 wx ∧ Turn (RT w2.heap.size wi.heap.size w5.heap.size) w6 wx))
        case atStart => exact ⟨0, rfl, Nat.zero_le _, rfl, HST⟩
        case round =>
          obtain ⟨s, rfl, hs, rfl, HS⟩ := hrel
          by_cases hls : s < m
          · obtain ⟨x, hx⟩ : ∃ x, ls[s]? = some x := ⟨_, List.getElem?_eq_getElem (by rw [HN.out]; exact hls)⟩
            obtain ⟨b1, o1, rfl⟩ := lines_addr HI6.out (by rw [HN.out]; omega)
            obtain ⟨b4, o4, rfl⟩ := lines_addr HO6.out (by rw [HN.out]; omega)
            obtain ⟨ai, ci, gi, si⟩ := soft_line HI6.out hx
            obtain ⟨ao, co, go, so⟩ := soft_line HO6.out hx
            obtain ⟨cs, wb⟩ := x
            simp only at gi si go so
            obtain ⟨N, hN⟩ : ∃ N, cs.length = N := ⟨_, rfl⟩
            have HN2 := Lib.hid hN
            rw [hN] at gi si go so
            obtain ⟨hcN, hcs9⟩ := cells_cap si
            obtain ⟨hcN2, _⟩ := cells_cap so
            have HGI := Lib.hid gi
            have HGO := Lib.hid go
            have HSI2 := Lib.hid si
            have HSO2 := Lib.hid so
            have hls' : (s : Int) < (m : Int) := by omega
            have hNb : N ≤ 4398046511104 := by omega
            have g1 := gi _ HS.out.1
            clear hN hx gi si go so
            go_wp2_with fail
            generalize wr = wj at *
            go_loopg [10, 11] N (fun gg kk jj wx => ∃ k : Nat, N - k = gg ∧ k ≤ N ∧ kk = .int .i64 (k : Int) ∧ Hid (Soft w6 wx ∧ Turn (RT w2.heap.size wi.heap.size w5.heap.size) w6 wx))
            case atStart => exact ⟨0, rfl, Nat.zero_le _, rfl, HS⟩
            case round =>
              obtain ⟨k, rfl, hk, rfl, HSK⟩ := hrel
              have g1 := HGI.out _ HSK.out.1
              have g4 := HGO.out _ HSK.out.1
              by_cases hlk : k < N
              · have hlk' : (k : Int) < (N : Int) := by omega
                obtain ⟨y, hy⟩ : ∃ y, cs[k]? = some y := ⟨_, List.getElem?_eq_getElem (by rw [HN2.out]; exact hlk)⟩
                obtain ⟨b2, o2, ai3, ci3, rfl, hd2, hi2, ti⟩ := soft_cell HSI2.out hy
                obtain ⟨b5, o5, ao3, co3, rfl, hd5, hi5, tt⟩ := soft_cell HSO2.out hy
                obtain ⟨kd, tx⟩ := y
                simp only at hi2 ti hi5 tt
                obtain ⟨tl, htl⟩ : ∃ tl, tx.length = tl := ⟨_, rfl⟩
                have HTL := Lib.hid htl
                rw [htl] at hi2 ti hi5 tt
                obtain ⟨⟨z2, q2⟩, f2, p2⟩ := hi2 _ HSK.out.1
                have HX1 := Lib.hid (soft_set HSK.out q2 (.inl hd2) 9)
                have HI2 := Lib.hid hi2
                have HI5 := Lib.hid hi5
                have HTI := Lib.hid ti
                have HTO := Lib.hid tt
                clear hy hi2 hi5 ti tt htl
                go_upto_region 23 with fail
                generalize wr.setCell ⟨b2, o2 + k * 2, none⟩ (.int .i64 9) = X1 at *
                have g1 := HGI.out _ HX1.out.1
                have g4 := HGO.out _ HX1.out.1
                obtain ⟨⟨z5, q5⟩, f5, p5⟩ := HI5.out _ HX1.out.1
                have HX2 := Lib.hid (soft_set HX1.out q5 (.inr hd5) 8)
                go_upto_region 24 with fail
                generalize X1.setCell ⟨b5, o5 + k * 2, none⟩ (.int .i64 8) = X2 at *
                obtain ⟨hct, htb⟩ := text_cap HTI.out
                obtain ⟨hct2, _⟩ := text_cap HTO.out
                clear HX1 g1 g4 q2 f2 p2 q5 f5 p5 HSK
                go_wp2_with fail
                generalize X2 = wk at *
                go_loopg [11] tl (fun gg jj wx => ∃ j : Nat, tl - j = gg ∧ j ≤ tl ∧ jj = .int .i64 (j : Int) ∧ Hid (Soft w6 wx ∧ Turn (RT w2.heap.size wi.heap.size w5.heap.size) w6 wx))
                case atStart => exact ⟨0, rfl, Nat.zero_le _, rfl, HX2⟩
                case round =>
                  obtain ⟨j, rfl, hj, rfl, HSJ⟩ := hrel
                  have g1 := HGI.out _ HSJ.out.1
                  have g4 := HGO.out _ HSJ.out.1
                  obtain ⟨_, _, p2⟩ := HI2.out _ HSJ.out.1
                  obtain ⟨_, _, p5⟩ := HI5.out _ HSJ.out.1
                  by_cases hlj : j < tl
                  · have hlj' : (j : Int) < (tl : Int) := by omega
                    obtain ⟨b3, o3, rfl, hd3, hi3⟩ := soft_rune HTI.out (j := j) (by rw [HTL.out]; exact hlj)
                    obtain ⟨b6, o6, rfl, hd6, hi6⟩ := soft_rune HTO.out (j := j) (by rw [HTL.out]; exact hlj)
                    obtain ⟨⟨z3, q3⟩, f3⟩ := hi3 _ HSJ.out.1
                    have HX1 := Lib.hid (soft_set HSJ.out q3 (.inl hd3) 1)
                    have HI6 := Lib.hid hi6
                    clear hi3 hi6
                    go_upto_region 28 with fail
                    generalize wr.setCell ⟨b3, o3 + j, none⟩ (.int .i32 1) = X1 at *
                    have g1 := HGI.out _ HX1.out.1
                    have g4 := HGO.out _ HX1.out.1
                    obtain ⟨_, _, p5⟩ := HI5.out _ HX1.out.1
                    obtain ⟨⟨z6, q6⟩, f6⟩ := HI6.out _ HX1.out.1
                    have HX2 := Lib.hid (soft_set HX1.out q6 (.inr hd6) 2)
                    go_wp2_with fail
                    go_roundg (tl - (j + 1))
                    case measure => omega
                    case rel => exact ⟨j + 1, rfl, by omega, by go_num, HX2⟩
                  · obtain rfl : j = tl := by omega
                    go_wp2_with fail
                    go_roundg (N - (k + 1))
                    case measure => omega
                    case rel => exact ⟨k + 1, rfl, by omega, by go_num, HSJ⟩
              · obtain rfl : k = N := by omega
                go_wp2_with fail
                go_roundg (m - (s + 1))
                case measure => omega
                case rel => exact ⟨s + 1, rfl, by omega, by go_num, HSK⟩
          · obtain rfl : s = m := by omega
            have HRZ := Lib.hid (HR5.out.turn ((Turn.of_new HB6.out : Turn (RT w2.heap.size wi.heap.size w5.heap.size) w5 w6).trans HS.out.2) (by have := HS2.out; have := HSI.out; have := HT5.out.size; unfold RT; omega) (fun b h1 h2 h3 => by unfold RT at h3; omega))
            have HBZ : Hid (Below w.heap.size w wr) := Lib.hid (((HBW.out.trans (HT5.out.below HBW.out.size (fun k e => by have := HS2.out; have := HBW.out.size; have := HSI.out; omega))).trans (HB6.out.mono (by have := HT5.out.size; have := HBW.out.size; omega))).trans (HS.out.2.below (by have := HT5.out.size; have := HBW.out.size; have := HB6.out.size; omega) (fun k e => by have := HT5.out.size; have := HS2.out; have := HBW.out.size; have := HSI.out; unfold RT at e; omega)))
            clear HS
            go_wp2_with fail
            refine (last_any qr wi.heap.size 100 0 ls 100 (by decide) (by decide) 0 (by rw [HN.out]; omega) _ HRZ.out).mono ?_
            rintro e w7 ⟨v7, rfl, hl7, hb7⟩
            rw [List.drop_zero] at hl7
            have HL7 := Lib.hid hl7.soft
            have HB7 := Lib.hid (HBZ.out.trans (hb7.mono HBZ.out.size))
            have HH7 := Lib.hid (HH.out.turn (Turn.of_below HB7.out (T := fun k => w.heap.size ≤ k) (fun k h1 h2 => h1)) (fun b h1 h2 h3 => by omega))
            clear hl7 hb7
            go_wp2_with fail
            refine (same32 _ _ _ _ ls _ HL7.out HH7.out (by rw [HN.out]; omega)).mono ?_
            rintro e w8 ⟨rfl, d8, rfl⟩
            go_wp2_with fail
            go_ret
            exact ⟨rfl, HB7.out.trans (((Turn.drewN (fun _ => False) _ _).below (HB7.out.size) (fun _ h => h.elim)))⟩
  · have d1 : decide (40 < n) = true := decide_eq_true (by omega)
    have d2 : decide ((40 : Int) < (n : Int)) = true := decide_eq_true (by omega)
    go_enter Try.func3, Try.ntmps3
    go_wp2_with fail
    refine (HWK.out _).mono ?_
    rintro e w1 ⟨rfl, hb1⟩
    have HB1 := Lib.hid hb1
    clear hb1
    go_wp2_with fail
    refine (HWK.out _).mono ?_
    rintro e w2 ⟨rfl, hb2⟩
    have HB2 := Lib.hid (HB1.out.trans (hb2.mono HB1.out.size))
    clear hb2
    go_wp2_with fail
    go_ret
    exact ⟨rfl, HB2.out⟩
theorem own_law (w : World) (a : Option Addr) (n c : Nat) (ls : List LineC) (h : LinesAt (fun b => b < w.heap.size) False w (.slice a n c) ls) :
    Calls Try.prog 3 #[.slice a n c] w fun e w' => e = .returned (.bool true) ∧ Below w.heap.size w w' := ring_own _ ls w h
end Go.Proofs.Ytediledehhcicaa.Ring

/-
  widen: Join.
-/
import Derived.Test.YtjicdcmdgbcdcaaGreatDoorCd23

section
namespace Go.Proofs.YtjicdcmdgbcdcaaGreatDoor.Scr
set_option linter.unusedSimpArgs false
set_option linter.unusedVariables false
open Go Go.RowKit Mem Turn Ring
open Seg (P4 St)

def RetB (e : Ending) : Prop := ∃ b, e = .returned (.bool b)
/-- what a call on a pen and a begun cluster leaves -/
def JoinTo (w : World) (X : Nat → Prop) (π q W : Nat) (p : PenC) (c : CluC) (w' : World) : Prop :=
  CluIs w' q c ∧ ∃ X', PenAt w' X' π p W ∧ (∀ b, X' b → X b ∨ w.heap.size ≤ b) ∧ Turn (fun b => X b ∨ b = q) w w'

set_option maxRecDepth 100000 in
set_option maxHeartbeats 16000000 in
theorem join_exact (X : Nat → Prop) (π q W : Nat) (p : PenC) (c : CluC) (r : Int) (x : P4) (w : World) (h : PenAt w X π p W) (hX : ∀ b, X b → PenTyp w b) (hc : CluIs w q c) (hok : PenOK p W) (ho : OpenOK p c W) (hv : VarsX w (fun b => X b ∨ b = q)) :
    Calls Tryz.prog 179 #[ptr q, ptr π, .int .i32 r, prV x] w fun e w' => RetB e ∧ JoinTo w X π q W (joinC p c r x W).1 (joinC p c r x W).2 w' := by
  have hmx : Tryz.prog.follows .mixedOrders = true := by kernel_rfl
  have HJ := Lib.hid (show joinC p c r x W = if c.text.length = 16 then (p, c) else if Cw.wid (gaN c.ga r x).wide = c.wide then (if c.wide ≤ W then addRow p c r else p, { c with text := c.text ++ [fixR r], ga := gaN c.ga r x })
    else (putP { p with at_ := c.at_ } (Cw.wid (gaN c.ga r x).wide) (c.text ++ [fixR r]) W, ⟨putA { p with at_ := c.at_ } (Cw.wid (gaN c.ga r x).wide) W, Cw.wid (gaN c.ga r x).wide, c.text ++ [fixR r], gaN c.ga r x⟩) from rfl)
  have HW2 := Lib.hid (wid_two (gaN c.ga r x).wide)
  have e1 := heap_alloc_new w (.cells (prA x) 224)
  have T1 : Turn (fun _ => False) w (w.alloc (.cells (prA x) 224)) := Turn.alloc _ _ _
  have hb1 : Below w.heap.size w (w.alloc (.cells (prA x) 224)) := (Below.refl _ _).alloc (Nat.le_refl _) _
  have HOK := Lib.hid hok
  have HO := Lib.hid ho
  have HV := Lib.hid hv
  have HX := Lib.hid hX
  have HP := Lib.hid h
  have HC := Lib.hid hc
  have HE1 := Lib.hid e1
  have HB1 := Lib.hid hb1
  have HT1 := Lib.hid T1
  have HFU := Lib.hid (CluO.full_any (kClu c) q c.text _ (hc.turn T1 id).clu)
  obtain ⟨γ, hc0⟩ : ∃ γ, (w.alloc (.cells (prA x) 224)).cell? ⟨π, 0, none⟩ = some (ptr γ) := by
    obtain ⟨γ, β, Q, hp⟩ := h
    exact ⟨γ, T1.cell hp.cells.1 id⟩
  have hπ := h.typ.lt
  have hql := hc.typ.lt
  have HQX : Hid (¬ X q ∧ q ≠ π) := Lib.hid ⟨fun e => (hX q e).not (by decide) hc.typ, fun e => by rw [e] at hc; exact hc.typ.not (by decide) h.typ⟩
  by_cases h16 : c.text.length = 16
  · have d : ((c.text.length : Int) == 16) = true := by simp; omega
    have HF : Hid (JoinTo w X π q W (joinC p c r x W).1 (joinC p c r x W).2 (w.alloc (.cells (prA x) 224))) := Lib.hid (by
      rw [HJ.out, if_pos h16]
      exact ⟨hc.turn T1 id, X, h.below hb1, fun b hb => .inl hb, T1.mono (fun _ _ h => h.elim)⟩)
    rw [d] at HFU
    clear h hX hc hok ho hv e1 T1 hb1 h16 d
    go_enter Tryz.func179, Tryz.ntmps179
    go_upto_region 1 with fail
    generalize (w.alloc (.cells #[.int .i64 x.br, .bool x.pi, .int .i64 x.co, .int .i64 x.ea] 224)) = w1 at *
    go_wp2_with fail
    refine HFU.out.mono ?_
    rintro e wx ⟨rfl, rfl⟩
    go_wp2_with fail
    go_ret
    exact ⟨⟨_, rfl⟩, HF.out⟩
  · have d : ((c.text.length : Int) == 16) = false := by simp; omega
    rw [d] at HFU
    have HL : Hid (c.text.length < 16) := Lib.hid (by have := hc.1; omega)
    have HJ2 := Lib.hid (HJ.out.trans (if_neg h16))
    have hcw := (hc.turn T1 id).cells.2.2.2.1
    clear h hX hc hok ho hv e1 T1 hb1 h16 d HJ
    go_enter Tryz.func179, Tryz.ntmps179
    go_upto_region 1 with fail
    generalize (w.alloc (.cells #[.int .i64 x.br, .bool x.pi, .int .i64 x.co, .int .i64 x.ea] 224)) = w1 at *
    have HAD := Lib.hid (wadd_any q c r x w1 (HC.out.turn HT1.out id))
    go_wp2_with fail
    refine HFU.out.mono ?_
    rintro e wx ⟨rfl, rfl⟩
    go_wp2_with (first
      | (refine wpList_load_row rfl 224 _ rfl w.heap.size rfl _ (prA x) (0, 0) _ HE1.out Tryz.underlying224 rfl (size_prop _ _ _ _) ?_))
    refine HAD.out.mono ?_
    rintro e w3 ⟨rfl, hc3, ht3⟩
    obtain ⟨_, _, _, y3, yf⟩ := hc3.cells
    have y3f := yf 3
    have haddL : Clu.addL c.text (fixR r) = c.text ++ [fixR r] := by unfold Clu.addL; rw [if_pos HL.out]
    rw [haddL] at hc3
    have HC4 : Hid (CluIs (w3.setCell ⟨q, 3, none⟩ (.int .i64 (Cw.wid (gaN c.ga r x).wide))) q ⟨c.at_, Cw.wid (gaN c.ga r x).wide, c.text ++ [fixR r], gaN c.ga r x⟩) := Lib.hid (hc3.setWide (Cw.wid (gaN c.ga r x).wide))
    have HT4 : Hid (Turn (fun b => b = q) w (w3.setCell ⟨q, 3, none⟩ (.int .i64 (Cw.wid (gaN c.ga r x).wide)))) := Lib.hid (((HT1.out.mono (T' := fun b => b = q) (fun _ _ h => h.elim)).trans ht3).trans (Turn.setCell (T := fun j => j = q) (p := ⟨q, 3, none⟩) w3 _ rfl))
    clear hc3 ht3 yf HAD HE1 hcw haddL HFU HB1 hc0 HT1
    generalize gaN c.ga r x = g1 at *
    generalize hwd : Cw.wid g1.wide = wd at *
    clear hwd
    obtain ⟨γ, β, Q, hp⟩ := HP.out
    have hp4 := hp.turn HT4.out (HC.out.free (by decide)) (fun b hb e => HQX.out.1 (e ▸ hb))
    have HP4 := Lib.hid hp4
    have HX4 : Hid (∀ b, X b → PenTyp (w3.setCell ⟨q, 3, none⟩ (.int .i64 wd)) b) := Lib.hid fun b hb => (HX.out b hb).turn HT4.out (fun e => HQX.out.1 (e ▸ hb))
    have HV4 : Hid (VarsX (w3.setCell ⟨q, 3, none⟩ (.int .i64 wd)) (fun b => X b ∨ b = q)) := Lib.hid (HV.out.to (HT4.out.mono (fun b _ e => .inr e)) (fun b e => .inl e))
    go_upto_region 5 with fail
    clear hp hp4 y3 y3f
    generalize (w3.setCell ⟨q, 3, none⟩ (.int .i64 wd)) = w4 at *
    obtain ⟨x0, x1, x2, x3, xf⟩ := HC4.out.cells
    obtain ⟨p0, _, _, _, _, pf⟩ := HP4.out.cells
    generalize hcw : c.wide = cw at *
    generalize hca : c.at_ = ca at *
    obtain ⟨ar, ac, ab⟩ := ca
    simp only at x0 x1 x2 x3
    by_cases heq : wd = cw
    · subst heq
      have HJ3 := Lib.hid (HJ2.out.trans (if_pos rfl))
      have z : (wd == wd) = true := by simp
      have HWD := Lib.hid (gwide_any γ β W _ w4.drew (HP4.out.below (Below.refl _ _).drew).grid (HP4.out.below (Below.refl _ _).drew).rows.all)
      clear x0 x1 x2 xf pf
      go_upto_region 8 with fail
      refine region_begin3 (fun w' => w'.cell? ⟨q, 3, none⟩ = some (.int .i64 wd) ∧ w'.cell? ⟨π, 0, none⟩ = some (ptr γ)) (fun _ => false) 11 rfl hmx (by intro _ _ d _ _ h; cases d <;> exact h) fun hQP => ?_
      have hS : w4.drew.cell? ⟨q, 3, none⟩ = some (.int .i64 wd) ∧ w4.drew.cell? ⟨π, 0, none⟩ = some (ptr γ) := ⟨x3, p0⟩
      have HB5 : Hid (Below w4.heap.size w4 w4.drew) := Lib.hid (Below.refl _ _).drew
      clear x3 p0
      generalize w4.drew = w5 at *
      refine take_f 0 68 rfl rfl (by kernel_rfl) (by kernel_rfl) (by kernel_rfl) (by kernel_rfl) hQP hS (.inl ⟨by kernel_rfl, fun w' hw' => by obtain ⟨e0, e1⟩ := hw'; go_simp; try with_reducible rfl⟩) ?_
      refine take_f 1 69 rfl rfl (by kernel_rfl) (by kernel_rfl) (by kernel_rfl) (by kernel_rfl) hQP hS (.inl ⟨by kernel_rfl, fun w' hw' => by obtain ⟨e0, e1⟩ := hw'; go_simp; try with_reducible rfl⟩) ?_
      refine take_f 2 70 rfl rfl (by kernel_rfl) (by kernel_rfl) (by kernel_rfl) (by kernel_rfl) hQP hS (.inl ⟨by kernel_rfl, fun w' hw' => by obtain ⟨e0, e1⟩ := hw'; go_simp; try with_reducible rfl⟩) ?_
      refine take_f 3 71 rfl rfl (by kernel_rfl) (by kernel_rfl) (by kernel_rfl) (by kernel_rfl) hQP hS (.inl ⟨by kernel_rfl, fun w' hw' => by obtain ⟨e0, e1⟩ := hw'; go_simp; try with_reducible rfl⟩) ?_
      refine take_f 4 72 rfl rfl (by kernel_rfl) (by kernel_rfl) (by kernel_rfl) (by kernel_rfl) hQP hS (.inl ⟨by kernel_rfl, fun w' hw' => by obtain ⟨e0, e1⟩ := hw'; go_simp; try with_reducible rfl⟩) ?_
      refine take_f 5 73 rfl rfl (by kernel_rfl) (by kernel_rfl) (by kernel_rfl) (by kernel_rfl) hQP hS (.inl ⟨by kernel_rfl, fun w' hw' => by obtain ⟨e0, e1⟩ := hw'; go_simp; try with_reducible rfl⟩) ?_
      refine take_f 6 74 rfl rfl (by kernel_rfl) (by kernel_rfl) (by kernel_rfl) (by kernel_rfl) hQP hS (.inl ⟨by kernel_rfl, fun w' hw' => by obtain ⟨e0, e1⟩ := hw'; go_simp; try with_reducible rfl⟩) ?_
      refine take_f 7 75 rfl rfl (by kernel_rfl) (by kernel_rfl) (by kernel_rfl) (by kernel_rfl) hQP hS (.inl ⟨by kernel_rfl, fun w' hw' => by obtain ⟨e0, e1⟩ := hw'; go_simp; try with_reducible rfl⟩) ?_
      try simp only [List.setIfInBounds_toArray, List.set_cons_succ, List.set_cons_zero]
      refine take_g (i := 8) (by kernel_rfl) rfl (by kernel_rfl) fun KQ hK => ?_
      go_wp2_with fail
      refine HWD.out.mono ?_
      rintro e wx ⟨rfl, rfl⟩
      refine hK _ _ (.inr hS) ?_
      clear hK HWD
      refine take_f 9 77 rfl rfl (by kernel_rfl) (by kernel_rfl) (by kernel_rfl) (by kernel_rfl) hQP hS (.inl ⟨by kernel_rfl, fun w' hw' => by obtain ⟨e0, e1⟩ := hw'; go_simp; try with_reducible rfl⟩) ?_
      refine take_f 10 67 rfl rfl (by kernel_rfl) (by kernel_rfl) (by kernel_rfl) (by kernel_rfl) hQP hS (.inl ⟨by kernel_rfl, fun w' hw' => by obtain ⟨e0, e1⟩ := hw'; go_simp; try with_reducible rfl⟩) ?_
      refine take_done (by kernel_rfl) ?_ _
      try simp only [List.setIfInBounds_toArray, List.set_cons_succ, List.set_cons_zero]
      clear hS
      have hp5 := HP4.out.below HB5.out
      have hc5 := HC4.out.turn (Turn.of_new HB5.out : Turn (fun _ => False) w4 w5) id
      have HT5 := Lib.hid (HT4.out.trans ((Turn.of_new HB5.out : Turn (fun _ => False) w4 w5).mono (fun _ _ h => h.elim)))
      by_cases hle : wd ≤ (W : Int)
      · have d1 : decide (wd ≤ (W : Int)) = true := decide_eq_true hle
        obtain ⟨k, hk⟩ : ∃ k : Nat, ar = (k : Int) := ⟨ar.toNat, by have := HO.out.row0; rw [hca] at this; simp only at this; omega⟩
        obtain ⟨cl, hcl⟩ : ∃ cl : Nat, ac = (cl : Int) := ⟨ac.toNat, by have := HO.out.col0; rw [hca] at this; simp only at this; omega⟩
        subst hk hcl
        have hkl : k < p.rows.length := by have := HO.out.row1; rw [hca] at this; simp only at this; omega
        have hclW : cl < W := by have := HO.out.col1; rw [hca] at this; simp only at this; omega
        obtain ⟨ρ, hq⟩ : ∃ ρ, Q[k]? = some ρ := ⟨_, List.getElem?_eq_getElem (by rw [HP4.out.rows.len]; exact hkl)⟩
        obtain ⟨l, hl, g1', g2, g3, g4⟩ := hp5.rows.line hq
        have hgetD : p.rows.getD k ([], false) = l := by rw [List.getD_eq_getElem?_getD, hl]; rfl
        have hsl := (HOK.out.rows l (List.mem_of_getElem? hl)).2
        have hcell := HO.out.cell (by rw [hcw]; exact hle)
        rw [hca, hcw] at hcell
        simp only [Int.toNat_natCast] at hcell
        rw [hgetD] at hcell
        have hkd : kindAt l.1 cl = wd := by unfold kindAt; rw [hcell]
        have HRI := Lib.hid (row_in γ β k ρ.1 _ w5.drew (hp5.below (Below.refl _ _).drew).grid (by rw [List.getElem?_map, hq]; rfl))
        have HMA := Lib.hid (add_any ρ.1 ρ.2 cl l r w5.drew (g1'.turn (Turn.drew (fun _ => False) w5) (Free.no _ _) id id) hsl (by rw [g2]; exact hclW) (by rw [hkd]; exact HW2.out))
        have HFI : Hid (∀ w', RowAt w' ρ.1 ρ.2 (addC l cl r) → Turn (fun b => b = ρ.1 ∨ b = ρ.2) w5.drew w' → JoinTo w X π q W (joinC p c r x W).1 (joinC p c r x W).2 w') := Lib.hid fun w' hr ht => by
          have hadd := (addC_ok (x := r) hsl (by rw [g2]; exact hclW) HW2.out hcell HO.out.val HL.out).1
          obtain ⟨a1, a2⟩ := (hp5.below (Below.refl _ _).drew).row hq hr (by rw [hadd]; exact g2) ht
          have hpe : addRow p c r = { p with rows := p.rows.set k (addC l cl r) } := by
            unfold addRow
            rw [hca]
            simp only [Int.toNat_natCast]
            rw [hgetD]
          rw [HJ3.out, if_pos hle, hpe]
          refine ⟨?_, X, ⟨γ, β, Q, a1⟩, fun b hb => .inl hb, ?_⟩
          · have hc6 := (hc5.turn (Turn.drew (fun _ => False) w5) id).turn a2 HQX.out.1
            exact hc6
          · exact (HT5.out.mono (T' := fun b => X b ∨ b = q) (fun b _ e => .inr e)).trans (((Turn.drew (fun _ => False) w5).mono (fun _ _ h => h.elim)).trans (a2.mono (fun b _ e => .inl e)))
        have HQ5 : Hid (¬ (q = ρ.1 ∨ q = ρ.2) ∧ ¬ (π = ρ.1 ∨ π = ρ.2)) := Lib.hid (by
          refine ⟨fun e => ?_, fun e => ?_⟩
          · rcases e with e | e
            · exact hc5.typ.ne g1'.typ (by decide) e
            · exact hc5.typ.ne g1'.cells.typ (by decide) e
          · rcases e with e | e
            · exact hp5.typ.ne g1'.typ (by decide) e
            · exact hp5.typ.ne g1'.cells.typ (by decide) e)
        obtain ⟨x0, x1, _, _, _⟩ := hc5.cells
        obtain ⟨p0, _⟩ := hp5.cells
        simp only at x0 x1
        clear hp5 hc5 hq hl g1' g2 g3 g4 hgetD hsl hcell hkd hkl hclW hca hcw
        go_upto_region 9 with fail
        refine region_begin3 (fun w' => w'.cell? ⟨q, 0, none⟩ = some (.int .i64 (k : Int)) ∧ w'.cell? ⟨q, 1, none⟩ = some (.int .i64 (cl : Int)) ∧ w'.cell? ⟨π, 0, none⟩ = some (ptr γ)) (fun _ => false) 17 rfl hmx (by intro _ _ d _ _ h; cases d <;> exact h) fun hQP => ?_
        have hS : w5.drew.cell? ⟨q, 0, none⟩ = some (.int .i64 (k : Int)) ∧ w5.drew.cell? ⟨q, 1, none⟩ = some (.int .i64 (cl : Int)) ∧ w5.drew.cell? ⟨π, 0, none⟩ = some (ptr γ) := ⟨x0, x1, p0⟩
        clear x0 x1 p0
        generalize w5.drew = w6 at *
        refine take_f 0 78 rfl rfl (by kernel_rfl) (by kernel_rfl) (by kernel_rfl) (by kernel_rfl) hQP hS (.inl ⟨by kernel_rfl, fun w' hw' => by obtain ⟨e0, e1, e2⟩ := hw'; go_simp; try with_reducible rfl⟩) ?_
        refine take_f 1 79 rfl rfl (by kernel_rfl) (by kernel_rfl) (by kernel_rfl) (by kernel_rfl) hQP hS (.inl ⟨by kernel_rfl, fun w' hw' => by obtain ⟨e0, e1, e2⟩ := hw'; go_simp; try with_reducible rfl⟩) ?_
        refine take_f 2 80 rfl rfl (by kernel_rfl) (by kernel_rfl) (by kernel_rfl) (by kernel_rfl) hQP hS (.inl ⟨by kernel_rfl, fun w' hw' => by obtain ⟨e0, e1, e2⟩ := hw'; go_simp; try with_reducible rfl⟩) ?_
        refine take_f 3 81 rfl rfl (by kernel_rfl) (by kernel_rfl) (by kernel_rfl) (by kernel_rfl) hQP hS (.inl ⟨by kernel_rfl, fun w' hw' => by obtain ⟨e0, e1, e2⟩ := hw'; go_simp; try with_reducible rfl⟩) ?_
        refine take_f 4 82 rfl rfl (by kernel_rfl) (by kernel_rfl) (by kernel_rfl) (by kernel_rfl) hQP hS (.inl ⟨by kernel_rfl, fun w' hw' => by obtain ⟨e0, e1, e2⟩ := hw'; go_simp; try with_reducible rfl⟩) ?_
        refine take_f 5 83 rfl rfl (by kernel_rfl) (by kernel_rfl) (by kernel_rfl) (by kernel_rfl) hQP hS (.inl ⟨by kernel_rfl, fun w' hw' => by obtain ⟨e0, e1, e2⟩ := hw'; go_simp; try with_reducible rfl⟩) ?_
        refine take_f 6 84 rfl rfl (by kernel_rfl) (by kernel_rfl) (by kernel_rfl) (by kernel_rfl) hQP hS (.inl ⟨by kernel_rfl, fun w' hw' => by obtain ⟨e0, e1, e2⟩ := hw'; go_simp; try with_reducible rfl⟩) ?_
        refine take_f 7 85 rfl rfl (by kernel_rfl) (by kernel_rfl) (by kernel_rfl) (by kernel_rfl) hQP hS (.inl ⟨by kernel_rfl, fun w' hw' => by obtain ⟨e0, e1, e2⟩ := hw'; go_simp; try with_reducible rfl⟩) ?_
        refine take_f 8 86 rfl rfl (by kernel_rfl) (by kernel_rfl) (by kernel_rfl) (by kernel_rfl) hQP hS (.inl ⟨by kernel_rfl, fun w' hw' => by obtain ⟨e0, e1, e2⟩ := hw'; go_simp; try with_reducible rfl⟩) ?_
        refine take_f 10 88 rfl rfl (by kernel_rfl) (by kernel_rfl) (by kernel_rfl) (by kernel_rfl) hQP hS (.inl ⟨by kernel_rfl, fun w' hw' => by obtain ⟨e0, e1, e2⟩ := hw'; go_simp; try with_reducible rfl⟩) ?_
        refine take_f 11 89 rfl rfl (by kernel_rfl) (by kernel_rfl) (by kernel_rfl) (by kernel_rfl) hQP hS (.inl ⟨by kernel_rfl, fun w' hw' => by obtain ⟨e0, e1, e2⟩ := hw'; go_simp; try with_reducible rfl⟩) ?_
        refine take_f 12 90 rfl rfl (by kernel_rfl) (by kernel_rfl) (by kernel_rfl) (by kernel_rfl) hQP hS (.inl ⟨by kernel_rfl, fun w' hw' => by obtain ⟨e0, e1, e2⟩ := hw'; go_simp; try with_reducible rfl⟩) ?_
        refine take_f 13 91 rfl rfl (by kernel_rfl) (by kernel_rfl) (by kernel_rfl) (by kernel_rfl) hQP hS (.inl ⟨by kernel_rfl, fun w' hw' => by obtain ⟨e0, e1, e2⟩ := hw'; go_simp; try with_reducible rfl⟩) ?_
        refine take_f 14 92 rfl rfl (by kernel_rfl) (by kernel_rfl) (by kernel_rfl) (by kernel_rfl) hQP hS (.inl ⟨by kernel_rfl, fun w' hw' => by obtain ⟨e0, e1, e2⟩ := hw'; go_simp; try with_reducible rfl⟩) ?_
        refine take_f 15 93 rfl rfl (by kernel_rfl) (by kernel_rfl) (by kernel_rfl) (by kernel_rfl) hQP hS (.inl ⟨by kernel_rfl, fun w' hw' => by obtain ⟨e0, e1, e2⟩ := hw'; go_simp; try with_reducible rfl⟩) ?_
        try simp only [List.setIfInBounds_toArray, List.set_cons_succ, List.set_cons_zero]
        refine take_g (i := 9) (by kernel_rfl) rfl (by kernel_rfl) fun KQ hK => ?_
        go_wp2_with fail
        refine HRI.out.mono ?_
        rintro e wx ⟨rfl, rfl⟩
        refine hK _ _ (.inr hS) ?_
        clear hK HRI
        try simp only [List.setIfInBounds_toArray, List.set_cons_succ, List.set_cons_zero]
        refine take_g (i := 16) (by kernel_rfl) rfl (by kernel_rfl) fun KQ hK => ?_
        go_wp2_with fail
        refine HMA.out.mono ?_
        rintro e w7 ⟨⟨bb, rfl⟩, hr7, ht7⟩
        have HF := Lib.hid (HFI.out w7 hr7 ht7)
        have hS := And.intro (ht7.cell hS.1 HQ5.out.1) (And.intro (ht7.cell hS.2.1 HQ5.out.1) (ht7.cell hS.2.2 HQ5.out.2))
        refine hK _ _ (.inr hS) ?_
        clear hK hr7 ht7 HMA HFI
        refine take_done (by kernel_rfl) ?_ _
        try simp only [List.setIfInBounds_toArray, List.set_cons_succ, List.set_cons_zero]
        clear hS
        go_wp2_with fail
        go_ret
        exact ⟨⟨_, rfl⟩, HF.out⟩
      · have d1 : decide (wd ≤ (W : Int)) = false := decide_eq_false hle
        have HF : Hid (JoinTo w X π q W (joinC p c r x W).1 (joinC p c r x W).2 w5) := Lib.hid (by
          rw [HJ3.out, if_neg hle]
          refine ⟨?_, X, ⟨γ, β, Q, hp5⟩, fun b hb => .inl hb, HT5.out.mono (fun b _ e => .inr e)⟩
          exact hc5)
        have hlt : (W : Int) < wd := by omega
        clear hp5 hc5
        go_wp2_with fail
        go_ret
        exact ⟨⟨_, rfl⟩, HF.out⟩
    · have z : (wd == cw) = false := by simpa using heq
      have HJ3 := Lib.hid (HJ2.out.trans (if_neg heq))
      have y1 := pf 1
      have y2 := pf 2
      have y3 := pf 3
      obtain ⟨_, p1, p2, p3, _, _⟩ := HP4.out.cells
      clear xf pf heq
      go_upto_region 7 with fail
      have hw : ((w4.setCell ⟨π, 1, none⟩ (.int .i64 ar)).setCell ⟨π, 2, none⟩ (.int .i64 ac)).setCell ⟨π, 3, none⟩ (.bool ab) = curW w4 π ar ac ab := rfl
      first | rw [hw] | skip
      have TC := curW_turn w4 π ar ac ab
      have HP5 := Lib.hid (HP4.out.cur ar ac ab)
      have HC5 := Lib.hid (HC4.out.turn TC HQX.out.2)
      have HX5 : Hid (∀ b, X b → PenTyp (curW w4 π ar ac ab) b) := Lib.hid fun b hb => by
        by_cases e : b = π
        · subst e
          exact .inl HP5.out.typ
        · exact (HX4.out b hb).turn TC e
      have HV5 : Hid (VarsX (curW w4 π ar ac ab) X) := Lib.hid ((HV4.out.to (TC.mono (fun b _ e => .inl (by rw [e]; exact HP4.out.xπ))) (fun b e => .inl e)).sub (fun b e => .inl e))
      have HT5 : Hid (Turn (fun b => X b ∨ b = q) w (curW w4 π ar ac ab)) := Lib.hid ((HT4.out.mono (T' := fun b => X b ∨ b = q) (fun b _ e => .inr e)).trans (TC.mono (fun b _ e => .inl (by rw [e]; exact HP4.out.xπ))))
      have HOK5 : Hid (PenOK { p with at_ := ⟨ar, ac, ab⟩ } W) := Lib.hid (by
        have := HO.out.pen HOK.out
        rw [hca] at this
        exact this)
      clear hw TC x0 x1 x2 x3 p0 p1 p2 p3 y1 y2 y3
      generalize curW w4 π ar ac ab = w5 at *
      have HTL := Lib.hid (HC5.out.turn (Turn.drew (fun _ => False) w5) id).tell
      have HPU : Hid (∀ W' v, Below w5.heap.size w5 W' → TxtAt W' v (c.text ++ [fixR r]) → Calls Tryz.prog 113 #[ptr π, .int .i64 wd, v] W' fun e w' => e = .returned (curV (putA { p with at_ := ⟨ar, ac, ab⟩ } wd W)) ∧ CluIs w' q ⟨⟨ar, ac, ab⟩, wd, c.text ++ [fixR r], g1⟩ ∧ PenTo w5 X π (putP { p with at_ := ⟨ar, ac, ab⟩ } wd (c.text ++ [fixR r]) W) W w') := Lib.hid fun W' v hb ht => clu_put (c := ⟨⟨ar, ac, ab⟩, wd, c.text ++ [fixR r], g1⟩) HC5.out ⟨γ, β, Q, HP5.out⟩ HX5.out HOK5.out HV5.out HW2.out (by simp) W' v hb ht
      obtain ⟨_, _, _, x3, _⟩ := HC5.out.cells
      obtain ⟨za, hza⟩ : ∃ z, z = putA { p with at_ := ⟨ar, ac, ab⟩ } wd W := ⟨_, rfl⟩
      rw [← hza] at HPU HJ3
      obtain ⟨zr, zc, zb⟩ := za
      clear hza hca hcw
      refine region_begin3 (fun w' => w'.cell? ⟨q, 3, none⟩ = some (.int .i64 wd)) (fun j => j == 13) 14 rfl hmx (by intro _ _ d _ _ h; cases d <;> exact h) fun hQP => ?_
      have hS : w5.drew.cell? ⟨q, 3, none⟩ = some (.int .i64 wd) := x3
      have HD : Hid (Below w5.heap.size w5 w5.drew) := Lib.hid (Below.refl _ _).drew
      clear x3
      generalize w5.drew = w6 at *
      refine take_f 0 54 rfl rfl (by kernel_rfl) (by kernel_rfl) (by kernel_rfl) (by kernel_rfl) hQP hS (.inl ⟨by kernel_rfl, fun w' hw' => by go_simp; try with_reducible rfl⟩) ?_
      refine take_f 1 55 rfl rfl (by kernel_rfl) (by kernel_rfl) (by kernel_rfl) (by kernel_rfl) hQP hS (.inl ⟨by kernel_rfl, fun w' hw' => by go_simp; try with_reducible rfl⟩) ?_
      refine take_f 2 56 rfl rfl (by kernel_rfl) (by kernel_rfl) (by kernel_rfl) (by kernel_rfl) hQP hS (.inl ⟨by kernel_rfl, fun w' hw' => by go_simp; try with_reducible rfl⟩) ?_
      refine take_f 3 57 rfl rfl (by kernel_rfl) (by kernel_rfl) (by kernel_rfl) (by kernel_rfl) hQP hS (.inl ⟨by kernel_rfl, fun w' hw' => by go_simp; try with_reducible rfl⟩) ?_
      refine take_f 4 58 rfl rfl (by kernel_rfl) (by kernel_rfl) (by kernel_rfl) (by kernel_rfl) hQP hS (.inl ⟨by kernel_rfl, fun w' hw' => by go_simp; try with_reducible rfl⟩) ?_
      refine take_f 5 59 rfl rfl (by kernel_rfl) (by kernel_rfl) (by kernel_rfl) (by kernel_rfl) hQP hS (.inl ⟨by kernel_rfl, fun w' hw' => by go_simp; try with_reducible rfl⟩) ?_
      refine take_f 6 60 rfl rfl (by kernel_rfl) (by kernel_rfl) (by kernel_rfl) (by kernel_rfl) hQP hS (.inl ⟨by kernel_rfl, fun w' hw' => by go_simp; try with_reducible rfl⟩) ?_
      refine take_f 7 61 rfl rfl (by kernel_rfl) (by kernel_rfl) (by kernel_rfl) (by kernel_rfl) hQP hS (.inl ⟨by kernel_rfl, fun w' hw' => by go_simp; try with_reducible rfl⟩) ?_
      refine take_f 8 62 rfl rfl (by kernel_rfl) (by kernel_rfl) (by kernel_rfl) (by kernel_rfl) hQP hS (.inl ⟨by kernel_rfl, fun w' hw' => by go_simp; try with_reducible rfl⟩) ?_
      try simp only [List.setIfInBounds_toArray, List.set_cons_succ, List.set_cons_zero]
      refine take_g (i := 9) (by kernel_rfl) rfl (by kernel_rfl) fun KQ hK => ?_
      go_wp2_with fail
      refine HTL.out.mono ?_
      rintro e w7 ⟨v, rfl, hv6, hb6⟩
      have T6 : Turn (fun _ => False) w6 w7 := Turn.of_new hb6
      have hS := T6.cell hS id
      have HPU6 := Lib.hid (HPU.out w7 v (HD.out.trans (hb6.mono HD.out.size)) hv6)
      refine hK _ _ (.inr hS) ?_
      clear hK HTL HPU T6 hb6 hv6
      try simp only [List.setIfInBounds_toArray, List.set_cons_succ, List.set_cons_zero]
      refine take_g (i := 10) (by kernel_rfl) rfl (by kernel_rfl) fun KQ hK => ?_
      go_wp2_with fail
      refine HPU6.out.mono ?_
      rintro e w8 ⟨rfl, hc7, hto⟩
      obtain ⟨x0, x1, x2, hS, xf⟩ := hc7.cells
      refine hK _ _ (.inr hS) ?_
      have y0 := xf 0
      have y1 := xf 1
      have y2 := xf 2
      have HF : Hid (JoinTo w X π q W (joinC p c r x W).1 (joinC p c r x W).2 (atW w8 q zr zc zb)) := Lib.hid (by
        rw [HJ3.out]
        refine ⟨hc7.setAt ⟨zr, zc, zb⟩, ?_⟩
        obtain ⟨X', k1, k2, k3⟩ := hto.cluAt hc7 zr zc zb (.inr (.inr trivial))
        exact ⟨X', k1, fun b hb => (k2 b hb).imp id (fun e => Nat.le_trans HT5.out.size e), HT5.out.trans k3⟩)
      clear hK hc7 hto xf HPU6
      try simp only [List.setIfInBounds_toArray, List.set_cons_succ, List.set_cons_zero]
      refine take_g (i := 11) (by kernel_rfl) rfl (by kernel_rfl) fun KQ hK => ?_
      go_wp2_with fail
      refine hK _ _ (.inr hS) ?_
      clear hK
      refine take_f 12 66 rfl rfl (by kernel_rfl) (by kernel_rfl) (by kernel_rfl) (by kernel_rfl) hQP hS (.inl ⟨by kernel_rfl, fun w' hw' => by go_simp; try with_reducible rfl⟩) ?_
      refine take_g (i := 13) (by kernel_rfl) rfl (by kernel_rfl) fun KQ hK => ?_
      go_wp2_with fail
      refine hK _ _ (.inl rfl) ?_
      clear hK hS x0 x1 x2 y0 y1 y2
      have hw : ((w8.setCell ⟨q, 0, none⟩ (.int .i64 zr)).setCell ⟨q, 1, none⟩ (.int .i64 zc)).setCell ⟨q, 2, none⟩ (.bool zb) = atW w8 q zr zc zb := rfl
      first | rw [hw] | skip
      clear hw
      generalize atW w8 q zr zc zb = w9 at *
      refine take_done (by kernel_rfl) ?_ _
      try simp only [List.setIfInBounds_toArray, List.set_cons_succ, List.set_cons_zero]
      go_wp2_with fail
      go_ret
      exact ⟨⟨_, rfl⟩, HF.out⟩
theorem join_any (X : Nat → Prop) (π q W : Nat) (p : PenC) (c : CluC) (r : Int) (x : P4) (w : World) (h : PenAt w X π p W) (hc : CluIs w q c) (hok : PenOK p W) (ho : OpenOK p c W) (hv : VarsX w (fun b => X b ∨ b = q)) :
    Calls Tryz.prog 179 #[ptr q, ptr π, .int .i32 r, prV x] w fun e w' => RetB e ∧ JoinTo w X π q W (joinC p c r x W).1 (joinC p c r x W).2 w' := by
  obtain ⟨X0, h0, h1, h2⟩ := h.exact
  refine (join_exact X0 π q W p c r x w h0 h2 hc hok ho (hv.sub (fun b e => e.imp (h1 b) id))).mono ?_
  rintro e w' ⟨a, b, X', k1, k2, k3⟩
  exact ⟨a, b, X', k1, fun b hb => (k2 b hb).imp (h1 b) id, k3.mono (fun b _ e => e.imp (h1 b) id)⟩
end Go.Proofs.YtjicdcmdgbcdcaaGreatDoor.Scr
end

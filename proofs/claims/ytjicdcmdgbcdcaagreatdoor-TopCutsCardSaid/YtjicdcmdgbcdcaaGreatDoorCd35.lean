/-
  edit: rows (printed by gen_rows.py).
-/
import Derived.Test.YtjicdcmdgbcdcaaGreatDoorCd17
import Derived.Test.YtjicdcmdgbcdcaaGreatDoorCd34

section
namespace Go.Proofs.YtjicdcmdgbcdcaaGreatDoor.Scr
set_option linter.unusedSimpArgs false
set_option linter.unusedVariables false
open Go Go.RowKit Mem Turn Ring

/-- a scroll on the pen's grid -/
theorem PenIs.upTo {w : World} {X : Nat → Prop} {π γ β W : Nat} {Q : List (Nat × Nat)} {p : PenC} (h : PenIs w X π γ β Q p W) (f : Nat) (n : Int) (hf : f < p.rows.length) :
    Calls Tryz.prog 125 #[ptr γ, .int .i64 (f : Int), .int .i64 (p.rows.length : Int), .int .i64 n] w fun e w2 => e = .returned (.tuple #[]) ∧ PenTo w X π { p with rows := upR p.rows f n W } W w2 ∧ w2.cell? ⟨π, 0, none⟩ = some (ptr γ) := by
  have hl := h.rows.len
  have := up_any γ β W f n _ Q p.rows w h.grid h.rows.exact (by rw [hl]; exact hf) h.w1 h.w2
  rw [hl] at this
  refine this.mono ?_
  rintro e w2 ⟨h1, h2⟩
  exact ⟨h1, h.scrolled h2⟩
theorem PenIs.downTo {w : World} {X : Nat → Prop} {π γ β W : Nat} {Q : List (Nat × Nat)} {p : PenC} (h : PenIs w X π γ β Q p W) (f : Nat) (n : Int) (hf : f < p.rows.length) :
    Calls Tryz.prog 126 #[ptr γ, .int .i64 (f : Int), .int .i64 (p.rows.length : Int), .int .i64 n] w fun e w2 => e = .returned (.tuple #[]) ∧ PenTo w X π { p with rows := downR p.rows f n W } W w2 ∧ w2.cell? ⟨π, 0, none⟩ = some (ptr γ) := by
  have hl := h.rows.len
  have := down_rows_any γ β W f n _ Q p.rows w h.grid h.rows.exact (by rw [hl]; exact hf) h.w1 h.w2
  rw [hl] at this
  refine this.mono ?_
  rintro e w2 ⟨h1, h2⟩
  exact ⟨h1, h.scrolled h2⟩

set_option maxRecDepth 100000 in
set_option maxHeartbeats 16000000 in
theorem erows_is (X : Nat → Prop) (π γ β W : Nat) (Q : List (Nat × Nat)) (p : PenC) (kd a b : Int) (ba : Option Addr) (bn bc : Nat) (w : World) (h : PenIs w X π γ β Q p W) (hX : ∀ b, X b → PenTyp w b) (hok : PenOK p W) (hk : kd = 8 ∨ kd = 9 ∨ kd = 10 ∨ kd = 11) :
    Calls Tryz.prog 75 #[ptr π, opV kd a b (.slice ba bn bc)] w fun e w' => e = .returned (.tuple #[]) ∧ PenTo w X π (rowsP p kd a W) W w' := by
  have hmx : Tryz.prog.follows .mixedOrders = true := by kernel_rfl
  obtain ⟨r0, r1, _⟩ := hok.rng
  obtain ⟨r, hr⟩ : ∃ r : Nat, p.at_.row = (r : Int) := ⟨p.at_.row.toNat, by omega⟩
  have hrl : r < p.rows.length := by omega
  have hpos : 0 < p.rows.length := by have := hok.h1; omega
  have e1 := heap_alloc_new w (.cells (opA kd a b (.slice ba bn bc)) 30)
  have hb1 : Below w.heap.size w (w.alloc (.cells (opA kd a b (.slice ba bn bc)) 30)) := (Below.refl _ _).alloc (Nat.le_refl _) _
  have hp1 := h.below hb1
  obtain ⟨o0, o1, _, _⟩ := cells4 e1
  obtain ⟨c0, c1, c2, c3, _, _⟩ := hp1.cells
  rw [hr] at c1
  have HHI : Hid (Calls Tryz.prog 37 #[ptr γ] (w.alloc (.cells (opA kd a b (.slice ba bn bc)) 30)) fun e w' => e = .returned (.int .i64 (p.rows.length : Int)) ∧ (w.alloc (.cells (opA kd a b (.slice ba bn bc)) 30)) = w') := Lib.hid (by
    have := high_any γ β _ _ hp1.grid
    rw [List.length_map, hp1.rows.len] at this
    exact this)
  have HP1 := Lib.hid hp1
  have HB1 := Lib.hid hb1
  have HE1 := Lib.hid e1
  have HRW := Lib.hid hr
  have HROWS := Lib.hid (show rowsP p kd a W = if kd = 10 then { p with rows := upR p.rows 0 a W } else if kd = 11 then { p with rows := downR p.rows 0 a W } else if kd = 8 then { p with rows := downR p.rows p.at_.row.toNat a W, at_ := returnC p.at_ } else if kd = 9 then { p with rows := upR p.rows p.at_.row.toNat a W, at_ := returnC p.at_ } else { p with at_ := returnC p.at_ } from rfl)
  have HNX : Hid (¬ X w.heap.size) := Lib.hid fun e => by have := (hX _ e).lt; omega
  have HRET : Hid (∀ W', Calls Tryz.prog 127 #[.agg #[.int .i64 (r : Int), .int .i64 p.at_.col, .bool p.at_.pend]] W' fun e w' => e = .returned (curV (returnC p.at_)) ∧ Below W'.heap.size W' w') := Lib.hid fun W' => by
    have := return_any p.at_.row p.at_.col p.at_.pend W'
    rw [hr] at this
    have e : returnC ⟨(r : Int), p.at_.col, p.at_.pend⟩ = returnC p.at_ := by unfold returnC; rw [hr]
    rw [e] at this
    exact this
  clear h hX hok hr r0 r1 hb1 hp1 e1
  rcases hk with rfl | rfl | rfl | rfl
  · have HE := Lib.hid ((((HROWS.out).trans (if_neg (by decide))).trans (if_neg (by decide))).trans (if_pos rfl))
    go_enter Tryz.func75, Tryz.ntmps75
    go_upto_region 1 with fail
    generalize (w.alloc (.cells (opA 8 a b (.slice ba bn bc)) 30)) = w1 at *
    have HSC : Hid (∀ w', Below w1.heap.size w1 w' → Calls Tryz.prog 126 #[ptr γ, .int .i64 (r : Int), .int .i64 (p.rows.length : Int), .int .i64 a] w' fun e w2 => e = .returned (.tuple #[]) ∧ PenTo w' X π { p with rows := downR p.rows r a W } W w2 ∧ w2.cell? ⟨π, 0, none⟩ = some (ptr γ)) := Lib.hid fun w' hb => (HP1.out.below hb).downTo r a hrl
    go_wp2_with fail
    refine HHI.out.mono ?_
    rintro e wx ⟨rfl, rfl⟩
    go_upto_region 8 with fail
    refine region_begin3 (fun w' => w'.cell? ⟨π, 0, none⟩ = some (ptr γ) ∧ w'.cell? ⟨w.heap.size, 1, none⟩ = some (.int .i64 a) ∧ w'.cell? ⟨π, 1, none⟩ = some (.int .i64 (r : Int))) (fun _ => false) 13 rfl hmx (by intro _ _ d _ _ h; cases d <;> exact h) fun hQP => ?_
    have hS : w1.drew.cell? ⟨π, 0, none⟩ = some (ptr γ) ∧ w1.drew.cell? ⟨w.heap.size, 1, none⟩ = some (.int .i64 a) ∧ w1.drew.cell? ⟨π, 1, none⟩ = some (.int .i64 (r : Int)) := ⟨c0, o1, c1⟩
    have HD : Hid (Below w1.heap.size w1 w1.drew) := Lib.hid (Below.refl _ _).drew
    have HSC2 := Lib.hid (HSC.out _ HD.out)
    clear c0 c1 c2 c3 o0 o1 HSC HHI
    generalize w1.drew = w2 at *
    refine take_f 0 34 rfl rfl (by kernel_rfl) (by kernel_rfl) (by kernel_rfl) (by kernel_rfl) hQP hS (.inl ⟨by kernel_rfl, fun w' hw' => by obtain ⟨e0, e1, e2⟩ := hw'; go_simp; try with_reducible rfl⟩) ?_
    refine take_f 1 35 rfl rfl (by kernel_rfl) (by kernel_rfl) (by kernel_rfl) (by kernel_rfl) hQP hS (.inl ⟨by kernel_rfl, fun w' hw' => by obtain ⟨e0, e1, e2⟩ := hw'; go_simp; try with_reducible rfl⟩) ?_
    refine take_f 2 36 rfl rfl (by kernel_rfl) (by kernel_rfl) (by kernel_rfl) (by kernel_rfl) hQP hS (.inl ⟨by kernel_rfl, fun w' hw' => by obtain ⟨e0, e1, e2⟩ := hw'; go_simp; try with_reducible rfl⟩) ?_
    refine take_f 3 37 rfl rfl (by kernel_rfl) (by kernel_rfl) (by kernel_rfl) (by kernel_rfl) hQP hS (.inl ⟨by kernel_rfl, fun w' hw' => by obtain ⟨e0, e1, e2⟩ := hw'; go_simp; try with_reducible rfl⟩) ?_
    refine take_f 4 38 rfl rfl (by kernel_rfl) (by kernel_rfl) (by kernel_rfl) (by kernel_rfl) hQP hS (.inl ⟨by kernel_rfl, fun w' hw' => by obtain ⟨e0, e1, e2⟩ := hw'; go_simp; try with_reducible rfl⟩) ?_
    refine take_f 5 39 rfl rfl (by kernel_rfl) (by kernel_rfl) (by kernel_rfl) (by kernel_rfl) hQP hS (.inl ⟨by kernel_rfl, fun w' hw' => by obtain ⟨e0, e1, e2⟩ := hw'; go_simp; try with_reducible rfl⟩) ?_
    refine take_f 6 40 rfl rfl (by kernel_rfl) (by kernel_rfl) (by kernel_rfl) (by kernel_rfl) hQP hS (.inl ⟨by kernel_rfl, fun w' hw' => by obtain ⟨e0, e1, e2⟩ := hw'; go_simp; try with_reducible rfl⟩) ?_
    refine take_f 7 41 rfl rfl (by kernel_rfl) (by kernel_rfl) (by kernel_rfl) (by kernel_rfl) hQP hS (.inl ⟨by kernel_rfl, fun w' hw' => by obtain ⟨e0, e1, e2⟩ := hw'; go_simp; try with_reducible rfl⟩) ?_
    refine take_f 8 42 rfl rfl (by kernel_rfl) (by kernel_rfl) (by kernel_rfl) (by kernel_rfl) hQP hS (.inl ⟨by kernel_rfl, fun w' hw' => by obtain ⟨e0, e1, e2⟩ := hw'; go_simp; try with_reducible rfl⟩) ?_
    refine take_f 9 43 rfl rfl (by kernel_rfl) (by kernel_rfl) (by kernel_rfl) (by kernel_rfl) hQP hS (.inl ⟨by kernel_rfl, fun w' hw' => by obtain ⟨e0, e1, e2⟩ := hw'; go_simp; try with_reducible rfl⟩) ?_
    refine take_f 10 44 rfl rfl (by kernel_rfl) (by kernel_rfl) (by kernel_rfl) (by kernel_rfl) hQP hS (.inl ⟨by kernel_rfl, fun w' hw' => by obtain ⟨e0, e1, e2⟩ := hw'; go_simp; try with_reducible rfl⟩) ?_
    refine take_f 11 45 rfl rfl (by kernel_rfl) (by kernel_rfl) (by kernel_rfl) (by kernel_rfl) hQP hS (.inl ⟨by kernel_rfl, fun w' hw' => by obtain ⟨e0, e1, e2⟩ := hw'; go_simp; try with_reducible rfl⟩) ?_
    try simp only [List.setIfInBounds_toArray, List.set_cons_succ, List.set_cons_zero]
    refine take_g (i := 12) (by kernel_rfl) rfl (by kernel_rfl) fun KQ hK => ?_
    go_wp2_with fail
    refine HSC2.out.mono ?_
    rintro e w3 ⟨rfl, hto, hc0⟩
    have HTO : Hid (PenTo w X π { p with rows := downR p.rows r a W } W w3) := Lib.hid (PenTo.pre (HB1.out.trans (HD.out.mono HB1.out.size)) hto)
    have hk0 : w3.cell? ⟨w.heap.size, 1, none⟩ = some (.int .i64 a) := by
      obtain ⟨_, _, _, k3⟩ := hto
      exact k3.cell hS.2.1 HNX.out
    have hkr : w3.cell? ⟨π, 1, none⟩ = some (.int .i64 (r : Int)) := by
      obtain ⟨_, ⟨_, _, _, k1⟩, _, _⟩ := hto
      have := k1.cells.2.1
      simp only at this
      rw [HRW.out] at this
      exact this
    have hS := And.intro hc0 (And.intro hk0 hkr)
    clear hto HSC2
    refine hK _ _ (.inr hS) ?_
    clear hK hS hc0
    refine take_done (by kernel_rfl) ?_ _
    try simp only [List.setIfInBounds_toArray, List.set_cons_succ, List.set_cons_zero]
    obtain ⟨X3, ⟨γ3, β3, Q3, hp3⟩, hx3, ht3⟩ := HTO.out
    obtain ⟨_, x1, x2, x3, _, xf⟩ := hp3.cells
    simp only at x1 x2 x3
    rw [HRW.out] at x1
    have HP3 := Lib.hid hp3
    have HX3 := Lib.hid hx3
    have HT3 := Lib.hid ht3
    have HXP := Lib.hid (hx3 _ hp3.xπ)
    have hzr : returnC p.at_ = ⟨(r : Int), 0, false⟩ := by unfold returnC; rw [HRW.out]
    rw [hzr] at HRET
    clear hp3 hx3 ht3 HTO xf
    go_wp2_with fail
    refine (HRET.out _).mono ?_
    rintro e w4 ⟨rfl, hb4⟩
    have hp4 := HP3.out.below hb4
    obtain ⟨_, y1, y2, y3, _, yf⟩ := hp4.cells
    have f1 := yf 1
    have f2 := yf 2
    have f3 := yf 3
    have HF : Hid (PenTo w X π (rowsP p 8 a W) W (curW w4 π (r : Int) 0 false)) := Lib.hid (by
      rw [HE.out, hzr, HRW.out, Int.toNat_natCast]
      refine ⟨X3, ⟨γ3, β3, Q3, hp4.cur (r : Int) 0 false⟩, HX3.out, ?_⟩
      have a1 : Turn (fun b => X b ∨ w.heap.size ≤ b) w w3 := HT3.out.mono (fun _ _ e => .inl e)
      have a2 : Turn (fun b => X b ∨ w.heap.size ≤ b) w3 w4 := (Turn.of_new hb4 : Turn (fun _ => False) w3 w4).mono (fun _ _ h => h.elim)
      exact ((a1.trans a2).trans ((curW_turn w4 π (r : Int) 0 false).mono (fun b _ e => by rw [e]; exact HXP.out))).mono (fun b hb e => e.elim id (fun e => by omega)))
    clear hp4 hb4 yf x1 x2 x3
    go_wp2_with fail
    go_end0
    exact ⟨rfl, HF.out⟩
  · have HE := Lib.hid (((((HROWS.out).trans (if_neg (by decide))).trans (if_neg (by decide))).trans (if_neg (by decide))).trans (if_pos rfl))
    go_enter Tryz.func75, Tryz.ntmps75
    go_upto_region 1 with fail
    generalize (w.alloc (.cells (opA 9 a b (.slice ba bn bc)) 30)) = w1 at *
    have HSC : Hid (∀ w', Below w1.heap.size w1 w' → Calls Tryz.prog 125 #[ptr γ, .int .i64 (r : Int), .int .i64 (p.rows.length : Int), .int .i64 a] w' fun e w2 => e = .returned (.tuple #[]) ∧ PenTo w' X π { p with rows := upR p.rows r a W } W w2 ∧ w2.cell? ⟨π, 0, none⟩ = some (ptr γ)) := Lib.hid fun w' hb => (HP1.out.below hb).upTo r a hrl
    go_wp2_with fail
    refine HHI.out.mono ?_
    rintro e wx ⟨rfl, rfl⟩
    go_upto_region 10 with fail
    refine region_begin3 (fun w' => w'.cell? ⟨π, 0, none⟩ = some (ptr γ) ∧ w'.cell? ⟨w.heap.size, 1, none⟩ = some (.int .i64 a) ∧ w'.cell? ⟨π, 1, none⟩ = some (.int .i64 (r : Int))) (fun _ => false) 13 rfl hmx (by intro _ _ d _ _ h; cases d <;> exact h) fun hQP => ?_
    have hS : w1.drew.cell? ⟨π, 0, none⟩ = some (ptr γ) ∧ w1.drew.cell? ⟨w.heap.size, 1, none⟩ = some (.int .i64 a) ∧ w1.drew.cell? ⟨π, 1, none⟩ = some (.int .i64 (r : Int)) := ⟨c0, o1, c1⟩
    have HD : Hid (Below w1.heap.size w1 w1.drew) := Lib.hid (Below.refl _ _).drew
    have HSC2 := Lib.hid (HSC.out _ HD.out)
    clear c0 c1 c2 c3 o0 o1 HSC HHI
    generalize w1.drew = w2 at *
    refine take_f 0 49 rfl rfl (by kernel_rfl) (by kernel_rfl) (by kernel_rfl) (by kernel_rfl) hQP hS (.inl ⟨by kernel_rfl, fun w' hw' => by obtain ⟨e0, e1, e2⟩ := hw'; go_simp; try with_reducible rfl⟩) ?_
    refine take_f 1 50 rfl rfl (by kernel_rfl) (by kernel_rfl) (by kernel_rfl) (by kernel_rfl) hQP hS (.inl ⟨by kernel_rfl, fun w' hw' => by obtain ⟨e0, e1, e2⟩ := hw'; go_simp; try with_reducible rfl⟩) ?_
    refine take_f 2 51 rfl rfl (by kernel_rfl) (by kernel_rfl) (by kernel_rfl) (by kernel_rfl) hQP hS (.inl ⟨by kernel_rfl, fun w' hw' => by obtain ⟨e0, e1, e2⟩ := hw'; go_simp; try with_reducible rfl⟩) ?_
    refine take_f 3 52 rfl rfl (by kernel_rfl) (by kernel_rfl) (by kernel_rfl) (by kernel_rfl) hQP hS (.inl ⟨by kernel_rfl, fun w' hw' => by obtain ⟨e0, e1, e2⟩ := hw'; go_simp; try with_reducible rfl⟩) ?_
    refine take_f 4 53 rfl rfl (by kernel_rfl) (by kernel_rfl) (by kernel_rfl) (by kernel_rfl) hQP hS (.inl ⟨by kernel_rfl, fun w' hw' => by obtain ⟨e0, e1, e2⟩ := hw'; go_simp; try with_reducible rfl⟩) ?_
    refine take_f 5 54 rfl rfl (by kernel_rfl) (by kernel_rfl) (by kernel_rfl) (by kernel_rfl) hQP hS (.inl ⟨by kernel_rfl, fun w' hw' => by obtain ⟨e0, e1, e2⟩ := hw'; go_simp; try with_reducible rfl⟩) ?_
    refine take_f 6 55 rfl rfl (by kernel_rfl) (by kernel_rfl) (by kernel_rfl) (by kernel_rfl) hQP hS (.inl ⟨by kernel_rfl, fun w' hw' => by obtain ⟨e0, e1, e2⟩ := hw'; go_simp; try with_reducible rfl⟩) ?_
    refine take_f 7 56 rfl rfl (by kernel_rfl) (by kernel_rfl) (by kernel_rfl) (by kernel_rfl) hQP hS (.inl ⟨by kernel_rfl, fun w' hw' => by obtain ⟨e0, e1, e2⟩ := hw'; go_simp; try with_reducible rfl⟩) ?_
    refine take_f 8 57 rfl rfl (by kernel_rfl) (by kernel_rfl) (by kernel_rfl) (by kernel_rfl) hQP hS (.inl ⟨by kernel_rfl, fun w' hw' => by obtain ⟨e0, e1, e2⟩ := hw'; go_simp; try with_reducible rfl⟩) ?_
    refine take_f 9 58 rfl rfl (by kernel_rfl) (by kernel_rfl) (by kernel_rfl) (by kernel_rfl) hQP hS (.inl ⟨by kernel_rfl, fun w' hw' => by obtain ⟨e0, e1, e2⟩ := hw'; go_simp; try with_reducible rfl⟩) ?_
    refine take_f 10 59 rfl rfl (by kernel_rfl) (by kernel_rfl) (by kernel_rfl) (by kernel_rfl) hQP hS (.inl ⟨by kernel_rfl, fun w' hw' => by obtain ⟨e0, e1, e2⟩ := hw'; go_simp; try with_reducible rfl⟩) ?_
    refine take_f 11 60 rfl rfl (by kernel_rfl) (by kernel_rfl) (by kernel_rfl) (by kernel_rfl) hQP hS (.inl ⟨by kernel_rfl, fun w' hw' => by obtain ⟨e0, e1, e2⟩ := hw'; go_simp; try with_reducible rfl⟩) ?_
    try simp only [List.setIfInBounds_toArray, List.set_cons_succ, List.set_cons_zero]
    refine take_g (i := 12) (by kernel_rfl) rfl (by kernel_rfl) fun KQ hK => ?_
    go_wp2_with fail
    refine HSC2.out.mono ?_
    rintro e w3 ⟨rfl, hto, hc0⟩
    have HTO : Hid (PenTo w X π { p with rows := upR p.rows r a W } W w3) := Lib.hid (PenTo.pre (HB1.out.trans (HD.out.mono HB1.out.size)) hto)
    have hk0 : w3.cell? ⟨w.heap.size, 1, none⟩ = some (.int .i64 a) := by
      obtain ⟨_, _, _, k3⟩ := hto
      exact k3.cell hS.2.1 HNX.out
    have hkr : w3.cell? ⟨π, 1, none⟩ = some (.int .i64 (r : Int)) := by
      obtain ⟨_, ⟨_, _, _, k1⟩, _, _⟩ := hto
      have := k1.cells.2.1
      simp only at this
      rw [HRW.out] at this
      exact this
    have hS := And.intro hc0 (And.intro hk0 hkr)
    clear hto HSC2
    refine hK _ _ (.inr hS) ?_
    clear hK hS hc0
    refine take_done (by kernel_rfl) ?_ _
    try simp only [List.setIfInBounds_toArray, List.set_cons_succ, List.set_cons_zero]
    obtain ⟨X3, ⟨γ3, β3, Q3, hp3⟩, hx3, ht3⟩ := HTO.out
    obtain ⟨_, x1, x2, x3, _, xf⟩ := hp3.cells
    simp only at x1 x2 x3
    rw [HRW.out] at x1
    have HP3 := Lib.hid hp3
    have HX3 := Lib.hid hx3
    have HT3 := Lib.hid ht3
    have HXP := Lib.hid (hx3 _ hp3.xπ)
    have hzr : returnC p.at_ = ⟨(r : Int), 0, false⟩ := by unfold returnC; rw [HRW.out]
    rw [hzr] at HRET
    clear hp3 hx3 ht3 HTO xf
    go_wp2_with fail
    refine (HRET.out _).mono ?_
    rintro e w4 ⟨rfl, hb4⟩
    have hp4 := HP3.out.below hb4
    obtain ⟨_, y1, y2, y3, _, yf⟩ := hp4.cells
    have f1 := yf 1
    have f2 := yf 2
    have f3 := yf 3
    have HF : Hid (PenTo w X π (rowsP p 9 a W) W (curW w4 π (r : Int) 0 false)) := Lib.hid (by
      rw [HE.out, hzr, HRW.out, Int.toNat_natCast]
      refine ⟨X3, ⟨γ3, β3, Q3, hp4.cur (r : Int) 0 false⟩, HX3.out, ?_⟩
      have a1 : Turn (fun b => X b ∨ w.heap.size ≤ b) w w3 := HT3.out.mono (fun _ _ e => .inl e)
      have a2 : Turn (fun b => X b ∨ w.heap.size ≤ b) w3 w4 := (Turn.of_new hb4 : Turn (fun _ => False) w3 w4).mono (fun _ _ h => h.elim)
      exact ((a1.trans a2).trans ((curW_turn w4 π (r : Int) 0 false).mono (fun b _ e => by rw [e]; exact HXP.out))).mono (fun b hb e => e.elim id (fun e => by omega)))
    clear hp4 hb4 yf x1 x2 x3
    go_wp2_with fail
    go_end0
    exact ⟨rfl, HF.out⟩
  · have HE := Lib.hid ((HROWS.out).trans (if_pos rfl))
    go_enter Tryz.func75, Tryz.ntmps75
    go_upto_region 1 with fail
    generalize (w.alloc (.cells (opA 10 a b (.slice ba bn bc)) 30)) = w1 at *
    have HSC : Hid (∀ w', Below w1.heap.size w1 w' → Calls Tryz.prog 125 #[ptr γ, .int .i64 0, .int .i64 (p.rows.length : Int), .int .i64 a] w' fun e w2 => e = .returned (.tuple #[]) ∧ PenTo w' X π { p with rows := upR p.rows 0 a W } W w2 ∧ w2.cell? ⟨π, 0, none⟩ = some (ptr γ)) := Lib.hid fun w' hb => (HP1.out.below hb).upTo 0 a hpos
    go_wp2_with fail
    refine HHI.out.mono ?_
    rintro e wx ⟨rfl, rfl⟩
    go_upto_region 4 with fail
    refine region_begin3 (fun w' => w'.cell? ⟨π, 0, none⟩ = some (ptr γ) ∧ w'.cell? ⟨w.heap.size, 1, none⟩ = some (.int .i64 a)) (fun _ => false) 8 rfl hmx (by intro _ _ d _ _ h; cases d <;> exact h) fun hQP => ?_
    have hS : w1.drew.cell? ⟨π, 0, none⟩ = some (ptr γ) ∧ w1.drew.cell? ⟨w.heap.size, 1, none⟩ = some (.int .i64 a) := ⟨c0, o1⟩
    have HD : Hid (Below w1.heap.size w1 w1.drew) := Lib.hid (Below.refl _ _).drew
    have HSC2 := Lib.hid (HSC.out _ HD.out)
    clear c0 c1 c2 c3 o0 o1 HSC HHI
    generalize w1.drew = w2 at *
    refine take_f 0 14 rfl rfl (by kernel_rfl) (by kernel_rfl) (by kernel_rfl) (by kernel_rfl) hQP hS (.inl ⟨by kernel_rfl, fun w' hw' => by obtain ⟨e0, e1⟩ := hw'; go_simp; try with_reducible rfl⟩) ?_
    refine take_f 1 15 rfl rfl (by kernel_rfl) (by kernel_rfl) (by kernel_rfl) (by kernel_rfl) hQP hS (.inl ⟨by kernel_rfl, fun w' hw' => by obtain ⟨e0, e1⟩ := hw'; go_simp; try with_reducible rfl⟩) ?_
    refine take_f 2 16 rfl rfl (by kernel_rfl) (by kernel_rfl) (by kernel_rfl) (by kernel_rfl) hQP hS (.inl ⟨by kernel_rfl, fun w' hw' => by obtain ⟨e0, e1⟩ := hw'; go_simp; try with_reducible rfl⟩) ?_
    refine take_f 3 17 rfl rfl (by kernel_rfl) (by kernel_rfl) (by kernel_rfl) (by kernel_rfl) hQP hS (.inl ⟨by kernel_rfl, fun w' hw' => by obtain ⟨e0, e1⟩ := hw'; go_simp; try with_reducible rfl⟩) ?_
    refine take_f 4 18 rfl rfl (by kernel_rfl) (by kernel_rfl) (by kernel_rfl) (by kernel_rfl) hQP hS (.inl ⟨by kernel_rfl, fun w' hw' => by obtain ⟨e0, e1⟩ := hw'; go_simp; try with_reducible rfl⟩) ?_
    refine take_f 5 19 rfl rfl (by kernel_rfl) (by kernel_rfl) (by kernel_rfl) (by kernel_rfl) hQP hS (.inl ⟨by kernel_rfl, fun w' hw' => by obtain ⟨e0, e1⟩ := hw'; go_simp; try with_reducible rfl⟩) ?_
    refine take_f 6 20 rfl rfl (by kernel_rfl) (by kernel_rfl) (by kernel_rfl) (by kernel_rfl) hQP hS (.inl ⟨by kernel_rfl, fun w' hw' => by obtain ⟨e0, e1⟩ := hw'; go_simp; try with_reducible rfl⟩) ?_
    try simp only [List.setIfInBounds_toArray, List.set_cons_succ, List.set_cons_zero]
    refine take_g (i := 7) (by kernel_rfl) rfl (by kernel_rfl) fun KQ hK => ?_
    go_wp2_with fail
    refine HSC2.out.mono ?_
    rintro e w3 ⟨rfl, hto, hc0⟩
    have HTO : Hid (PenTo w X π { p with rows := upR p.rows 0 a W } W w3) := Lib.hid (PenTo.pre (HB1.out.trans (HD.out.mono HB1.out.size)) hto)
    have hk0 : w3.cell? ⟨w.heap.size, 1, none⟩ = some (.int .i64 a) := by
      obtain ⟨_, _, _, k3⟩ := hto
      exact k3.cell hS.2 HNX.out
    have hS := And.intro hc0 hk0
    clear hto HSC2
    refine hK _ _ (.inr hS) ?_
    clear hK hS hc0
    refine take_done (by kernel_rfl) ?_ _
    try simp only [List.setIfInBounds_toArray, List.set_cons_succ, List.set_cons_zero]
    go_wp2_with fail
    refine bodyPost_ret (results_none rfl _ _ _) rfl ?_
    exact ⟨rfl, by rw [HE.out]; exact HTO.out⟩
  · have HE := Lib.hid (((HROWS.out).trans (if_neg (by decide))).trans (if_pos rfl))
    go_enter Tryz.func75, Tryz.ntmps75
    go_upto_region 1 with fail
    generalize (w.alloc (.cells (opA 11 a b (.slice ba bn bc)) 30)) = w1 at *
    have HSC : Hid (∀ w', Below w1.heap.size w1 w' → Calls Tryz.prog 126 #[ptr γ, .int .i64 0, .int .i64 (p.rows.length : Int), .int .i64 a] w' fun e w2 => e = .returned (.tuple #[]) ∧ PenTo w' X π { p with rows := downR p.rows 0 a W } W w2 ∧ w2.cell? ⟨π, 0, none⟩ = some (ptr γ)) := Lib.hid fun w' hb => (HP1.out.below hb).downTo 0 a hpos
    go_wp2_with fail
    refine HHI.out.mono ?_
    rintro e wx ⟨rfl, rfl⟩
    go_upto_region 6 with fail
    refine region_begin3 (fun w' => w'.cell? ⟨π, 0, none⟩ = some (ptr γ) ∧ w'.cell? ⟨w.heap.size, 1, none⟩ = some (.int .i64 a)) (fun _ => false) 8 rfl hmx (by intro _ _ d _ _ h; cases d <;> exact h) fun hQP => ?_
    have hS : w1.drew.cell? ⟨π, 0, none⟩ = some (ptr γ) ∧ w1.drew.cell? ⟨w.heap.size, 1, none⟩ = some (.int .i64 a) := ⟨c0, o1⟩
    have HD : Hid (Below w1.heap.size w1 w1.drew) := Lib.hid (Below.refl _ _).drew
    have HSC2 := Lib.hid (HSC.out _ HD.out)
    clear c0 c1 c2 c3 o0 o1 HSC HHI
    generalize w1.drew = w2 at *
    refine take_f 0 24 rfl rfl (by kernel_rfl) (by kernel_rfl) (by kernel_rfl) (by kernel_rfl) hQP hS (.inl ⟨by kernel_rfl, fun w' hw' => by obtain ⟨e0, e1⟩ := hw'; go_simp; try with_reducible rfl⟩) ?_
    refine take_f 1 25 rfl rfl (by kernel_rfl) (by kernel_rfl) (by kernel_rfl) (by kernel_rfl) hQP hS (.inl ⟨by kernel_rfl, fun w' hw' => by obtain ⟨e0, e1⟩ := hw'; go_simp; try with_reducible rfl⟩) ?_
    refine take_f 2 26 rfl rfl (by kernel_rfl) (by kernel_rfl) (by kernel_rfl) (by kernel_rfl) hQP hS (.inl ⟨by kernel_rfl, fun w' hw' => by obtain ⟨e0, e1⟩ := hw'; go_simp; try with_reducible rfl⟩) ?_
    refine take_f 3 27 rfl rfl (by kernel_rfl) (by kernel_rfl) (by kernel_rfl) (by kernel_rfl) hQP hS (.inl ⟨by kernel_rfl, fun w' hw' => by obtain ⟨e0, e1⟩ := hw'; go_simp; try with_reducible rfl⟩) ?_
    refine take_f 4 28 rfl rfl (by kernel_rfl) (by kernel_rfl) (by kernel_rfl) (by kernel_rfl) hQP hS (.inl ⟨by kernel_rfl, fun w' hw' => by obtain ⟨e0, e1⟩ := hw'; go_simp; try with_reducible rfl⟩) ?_
    refine take_f 5 29 rfl rfl (by kernel_rfl) (by kernel_rfl) (by kernel_rfl) (by kernel_rfl) hQP hS (.inl ⟨by kernel_rfl, fun w' hw' => by obtain ⟨e0, e1⟩ := hw'; go_simp; try with_reducible rfl⟩) ?_
    refine take_f 6 30 rfl rfl (by kernel_rfl) (by kernel_rfl) (by kernel_rfl) (by kernel_rfl) hQP hS (.inl ⟨by kernel_rfl, fun w' hw' => by obtain ⟨e0, e1⟩ := hw'; go_simp; try with_reducible rfl⟩) ?_
    try simp only [List.setIfInBounds_toArray, List.set_cons_succ, List.set_cons_zero]
    refine take_g (i := 7) (by kernel_rfl) rfl (by kernel_rfl) fun KQ hK => ?_
    go_wp2_with fail
    refine HSC2.out.mono ?_
    rintro e w3 ⟨rfl, hto, hc0⟩
    have HTO : Hid (PenTo w X π { p with rows := downR p.rows 0 a W } W w3) := Lib.hid (PenTo.pre (HB1.out.trans (HD.out.mono HB1.out.size)) hto)
    have hk0 : w3.cell? ⟨w.heap.size, 1, none⟩ = some (.int .i64 a) := by
      obtain ⟨_, _, _, k3⟩ := hto
      exact k3.cell hS.2 HNX.out
    have hS := And.intro hc0 hk0
    clear hto HSC2
    refine hK _ _ (.inr hS) ?_
    clear hK hS hc0
    refine take_done (by kernel_rfl) ?_ _
    try simp only [List.setIfInBounds_toArray, List.set_cons_succ, List.set_cons_zero]
    go_wp2_with fail
    refine bodyPost_ret (results_none rfl _ _ _) rfl ?_
    exact ⟨rfl, by rw [HE.out]; exact HTO.out⟩
end Go.Proofs.YtjicdcmdgbcdcaaGreatDoor.Scr
end

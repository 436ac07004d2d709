/-
  edit: rows (printed by gen_rows.py).
  script.Read at a text of a size and lines of bytes.
-/
import Derived.Test.YtjicdcmdgbcdcaaGreatDoorSd26
import Derived.Test.YtjicdcmdgbcdcaaGreatDoorSd39

section
namespace Go.Proofs.YtjicdcmdgbcdcaaGreatDoor.Scr
set_option linter.unusedSimpArgs false
set_option linter.unusedVariables false
open Go Go.RowKit Mem Turn Ring

/-- a scroll on the pen's grid -/
theorem PenIs.upTo {w : World} {X : Nat → Prop} {π γ β W : Nat} {Q : List (Nat × Nat)} {p : PenC} (h : PenIs w X π γ β Q p W) (f : Nat) (n : Int) (hf : f < p.rows.length) :
    Calls Tryz.prog 125 #[ptr γ, .int .i64 (f : Int), .int .i64 (p.rows.length : Int), .int .i64 n] w fun e w2 => e = .returned (.tuple #[]) ∧ PenTo w X π { p with rows := upR p.rows f n W } W w2 ∧ w2.cell? ⟨π, 0, none⟩ = some (ptr γ) := by
  have hl := h.rows.len
  have := up_any γ β W f n _ Q p.rows w h.grid h.rows.exact (by rw [hl]; exact hf) h.w1 h.w2
  rw [hl] at this
  refine this.mono ?_
  rintro e w2 ⟨h1, h2⟩
  exact ⟨h1, h.scrolled h2⟩
theorem PenIs.downTo {w : World} {X : Nat → Prop} {π γ β W : Nat} {Q : List (Nat × Nat)} {p : PenC} (h : PenIs w X π γ β Q p W) (f : Nat) (n : Int) (hf : f < p.rows.length) :
    Calls Tryz.prog 126 #[ptr γ, .int .i64 (f : Int), .int .i64 (p.rows.length : Int), .int .i64 n] w fun e w2 => e = .returned (.tuple #[]) ∧ PenTo w X π { p with rows := downR p.rows f n W } W w2 ∧ w2.cell? ⟨π, 0, none⟩ = some (ptr γ) := by
  have hl := h.rows.len
  have := down_rows_any γ β W f n _ Q p.rows w h.grid h.rows.exact (by rw [hl]; exact hf) h.w1 h.w2
  rw [hl] at this
  refine this.mono ?_
  rintro e w2 ⟨h1, h2⟩
  exact ⟨h1, h.scrolled h2⟩

set_option maxRecDepth 100000 in
set_option maxHeartbeats 16000000 in
theorem erows_is (X : Nat → Prop) (π γ β W : Nat) (Q : List (Nat × Nat)) (p : PenC) (kd a b : Int) (ba : Option Addr) (bn bc : Nat) (w : World) (h : PenIs w X π γ β Q p W) (hX : ∀ b, X b → PenTyp w b) (hok : PenOK p W) (hk : kd = 8 ∨ kd = 9 ∨ kd = 10 ∨ kd = 11) :
    Calls Tryz.prog 75 #[ptr π, opV kd a b (.slice ba bn bc)] w fun e w' => e = .returned (.tuple #[]) ∧ PenTo w X π (rowsP p kd a W) W w' := by
  have hmx : Tryz.prog.follows .mixedOrders = true := by kernel_rfl
  obtain ⟨r0, r1, _⟩ := hok.rng
  obtain ⟨r, hr⟩ : ∃ r : Nat, p.at_.row = (r : Int) := ⟨p.at_.row.toNat, by omega⟩
  have hrl : r < p.rows.length := by omega
  have hpos : 0 < p.rows.length := by have := hok.h1; omega
  have e1 := heap_alloc_new w (.cells (opA kd a b (.slice ba bn bc)) 30)
  have hb1 : Below w.heap.size w (w.alloc (.cells (opA kd a b (.slice ba bn bc)) 30)) := (Below.refl _ _).alloc (Nat.le_refl _) _
  have hp1 := h.below hb1
  obtain ⟨o0, o1, _, _⟩ := cells4 e1
  obtain ⟨c0, c1, c2, c3, _, _⟩ := hp1.cells
  rw [hr] at c1
  have HHI : Hid (Calls Tryz.prog 37 #[ptr γ] (w.alloc (.cells (opA kd a b (.slice ba bn bc)) 30)) fun e w' => e = .returned (.int .i64 (p.rows.length : Int)) ∧ (w.alloc (.cells (opA kd a b (.slice ba bn bc)) 30)) = w') := Lib.hid (by
    have := high_any γ β _ _ hp1.grid
    rw [List.length_map, hp1.rows.len] at this
    exact this)
  have HP1 := Lib.hid hp1
  have HB1 := Lib.hid hb1
  have HE1 := Lib.hid e1
  have HRW := Lib.hid hr
  have HROWS := Lib.hid (show rowsP p kd a W = if kd = 10 then { p with rows := upR p.rows 0 a W } else if kd = 11 then { p with rows := downR p.rows 0 a W } else if kd = 8 then { p with rows := downR p.rows p.at_.row.toNat a W, at_ := returnC p.at_ } else if kd = 9 then { p with rows := upR p.rows p.at_.row.toNat a W, at_ := returnC p.at_ } else { p with at_ := returnC p.at_ } from rfl)
  have HNX : Hid (¬ X w.heap.size) := Lib.hid fun e => by have := (hX _ e).lt; omega
  have HRET : Hid (∀ W', Calls Tryz.prog 127 #[.agg #[.int .i64 (r : Int), .int .i64 p.at_.col, .bool p.at_.pend]] W' fun e w' => e = .returned (curV (returnC p.at_)) ∧ Below W'.heap.size W' w') := Lib.hid fun W' => by
    have := return_any p.at_.row p.at_.col p.at_.pend W'
    rw [hr] at this
    have e : returnC ⟨(r : Int), p.at_.col, p.at_.pend⟩ = returnC p.at_ := by unfold returnC; rw [hr]
    rw [e] at this
    exact this
  clear h hX hok hr r0 r1 hb1 hp1 e1
  rcases hk with rfl | rfl | rfl | rfl
  · have HE := Lib.hid ((((HROWS.out).trans (if_neg (by decide))).trans (if_neg (by decide))).trans (if_pos rfl))
    go_enter Tryz.func75, Tryz.ntmps75
    go_upto_region 1 with fail
    generalize (w.alloc (.cells (opA 8 a b (.slice ba bn bc)) 30)) = w1 at *
    have HSC : Hid (∀ w', Below w1.heap.size w1 w' → Calls Tryz.prog 126 #[ptr γ, .int .i64 (r : Int), .int .i64 (p.rows.length : Int), .int .i64 a] w' fun e w2 => e = .returned (.tuple #[]) ∧ PenTo w' X π { p with rows := downR p.rows r a W } W w2 ∧ w2.cell? ⟨π, 0, none⟩ = some (ptr γ)) := Lib.hid fun w' hb => (HP1.out.below hb).downTo r a hrl
    go_wp2_with fail
    refine HHI.out.mono ?_
    rintro e wx ⟨rfl, rfl⟩
    go_upto_region 8 with fail
    refine region_begin3 (fun w' => w'.cell? ⟨π, 0, none⟩ = some (ptr γ) ∧ w'.cell? ⟨w.heap.size, 1, none⟩ = some (.int .i64 a) ∧ w'.cell? ⟨π, 1, none⟩ = some (.int .i64 (r : Int))) (fun _ => false) 13 rfl hmx (by intro _ _ d _ _ h; cases d <;> exact h) fun hQP => ?_
    have hS : w1.drew.cell? ⟨π, 0, none⟩ = some (ptr γ) ∧ w1.drew.cell? ⟨w.heap.size, 1, none⟩ = some (.int .i64 a) ∧ w1.drew.cell? ⟨π, 1, none⟩ = some (.int .i64 (r : Int)) := ⟨c0, o1, c1⟩
    have HD : Hid (Below w1.heap.size w1 w1.drew) := Lib.hid (Below.refl _ _).drew
    have HSC2 := Lib.hid (HSC.out _ HD.out)
    clear c0 c1 c2 c3 o0 o1 HSC HHI
    generalize w1.drew = w2 at *
    refine take_f 0 34 rfl rfl (by kernel_rfl) (by kernel_rfl) (by kernel_rfl) (by kernel_rfl) hQP hS (.inl ⟨by kernel_rfl, fun w' hw' => by obtain ⟨e0, e1, e2⟩ := hw'; go_simp; try with_reducible rfl⟩) ?_
    refine take_f 1 35 rfl rfl (by kernel_rfl) (by kernel_rfl) (by kernel_rfl) (by kernel_rfl) hQP hS (.inl ⟨by kernel_rfl, fun w' hw' => by obtain ⟨e0, e1, e2⟩ := hw'; go_simp; try with_reducible rfl⟩) ?_
    refine take_f 2 36 rfl rfl (by kernel_rfl) (by kernel_rfl) (by kernel_rfl) (by kernel_rfl) hQP hS (.inl ⟨by kernel_rfl, fun w' hw' => by obtain ⟨e0, e1, e2⟩ := hw'; go_simp; try with_reducible rfl⟩) ?_
    refine take_f 3 37 rfl rfl (by kernel_rfl) (by kernel_rfl) (by kernel_rfl) (by kernel_rfl) hQP hS (.inl ⟨by kernel_rfl, fun w' hw' => by obtain ⟨e0, e1, e2⟩ := hw'; go_simp; try with_reducible rfl⟩) ?_
    refine take_f 4 38 rfl rfl (by kernel_rfl) (by kernel_rfl) (by kernel_rfl) (by kernel_rfl) hQP hS (.inl ⟨by kernel_rfl, fun w' hw' => by obtain ⟨e0, e1, e2⟩ := hw'; go_simp; try with_reducible rfl⟩) ?_
    refine take_f 5 39 rfl rfl (by kernel_rfl) (by kernel_rfl) (by kernel_rfl) (by kernel_rfl) hQP hS (.inl ⟨by kernel_rfl, fun w' hw' => by obtain ⟨e0, e1, e2⟩ := hw'; go_simp; try with_reducible rfl⟩) ?_
    refine take_f 6 40 rfl rfl (by kernel_rfl) (by kernel_rfl) (by kernel_rfl) (by kernel_rfl) hQP hS (.inl ⟨by kernel_rfl, fun w' hw' => by obtain ⟨e0, e1, e2⟩ := hw'; go_simp; try with_reducible rfl⟩) ?_
    refine take_f 7 41 rfl rfl (by kernel_rfl) (by kernel_rfl) (by kernel_rfl) (by kernel_rfl) hQP hS (.inl ⟨by kernel_rfl, fun w' hw' => by obtain ⟨e0, e1, e2⟩ := hw'; go_simp; try with_reducible rfl⟩) ?_
    refine take_f 8 42 rfl rfl (by kernel_rfl) (by kernel_rfl) (by kernel_rfl) (by kernel_rfl) hQP hS (.inl ⟨by kernel_rfl, fun w' hw' => by obtain ⟨e0, e1, e2⟩ := hw'; go_simp; try with_reducible rfl⟩) ?_
    refine take_f 9 43 rfl rfl (by kernel_rfl) (by kernel_rfl) (by kernel_rfl) (by kernel_rfl) hQP hS (.inl ⟨by kernel_rfl, fun w' hw' => by obtain ⟨e0, e1, e2⟩ := hw'; go_simp; try with_reducible rfl⟩) ?_
    refine take_f 10 44 rfl rfl (by kernel_rfl) (by kernel_rfl) (by kernel_rfl) (by kernel_rfl) hQP hS (.inl ⟨by kernel_rfl, fun w' hw' => by obtain ⟨e0, e1, e2⟩ := hw'; go_simp; try with_reducible rfl⟩) ?_
    refine take_f 11 45 rfl rfl (by kernel_rfl) (by kernel_rfl) (by kernel_rfl) (by kernel_rfl) hQP hS (.inl ⟨by kernel_rfl, fun w' hw' => by obtain ⟨e0, e1, e2⟩ := hw'; go_simp; try with_reducible rfl⟩) ?_
    try simp only [List.setIfInBounds_toArray, List.set_cons_succ, List.set_cons_zero]
    refine take_g (i := 12) (by kernel_rfl) rfl (by kernel_rfl) fun KQ hK => ?_
    go_wp2_with fail
    refine HSC2.out.mono ?_
    rintro e w3 ⟨rfl, hto, hc0⟩
    have HTO : Hid (PenTo w X π { p with rows := downR p.rows r a W } W w3) := Lib.hid (PenTo.pre (HB1.out.trans (HD.out.mono HB1.out.size)) hto)
    have hk0 : w3.cell? ⟨w.heap.size, 1, none⟩ = some (.int .i64 a) := by
      obtain ⟨_, _, _, k3⟩ := hto
      exact k3.cell hS.2.1 HNX.out
    have hkr : w3.cell? ⟨π, 1, none⟩ = some (.int .i64 (r : Int)) := by
      obtain ⟨_, ⟨_, _, _, k1⟩, _, _⟩ := hto
      have := k1.cells.2.1
      simp only at this
      rw [HRW.out] at this
      exact this
    have hS := And.intro hc0 (And.intro hk0 hkr)
    clear hto HSC2
    refine hK _ _ (.inr hS) ?_
    clear hK hS hc0
    refine take_done (by kernel_rfl) ?_ _
    try simp only [List.setIfInBounds_toArray, List.set_cons_succ, List.set_cons_zero]
    obtain ⟨X3, ⟨γ3, β3, Q3, hp3⟩, hx3, ht3⟩ := HTO.out
    obtain ⟨_, x1, x2, x3, _, xf⟩ := hp3.cells
    simp only at x1 x2 x3
    rw [HRW.out] at x1
    have HP3 := Lib.hid hp3
    have HX3 := Lib.hid hx3
    have HT3 := Lib.hid ht3
    have HXP := Lib.hid (hx3 _ hp3.xπ)
    have hzr : returnC p.at_ = ⟨(r : Int), 0, false⟩ := by unfold returnC; rw [HRW.out]
    rw [hzr] at HRET
    clear hp3 hx3 ht3 HTO xf
    go_wp2_with fail
    refine (HRET.out _).mono ?_
    rintro e w4 ⟨rfl, hb4⟩
    have hp4 := HP3.out.below hb4
    obtain ⟨_, y1, y2, y3, _, yf⟩ := hp4.cells
    have f1 := yf 1
    have f2 := yf 2
    have f3 := yf 3
    have HF : Hid (PenTo w X π (rowsP p 8 a W) W (curW w4 π (r : Int) 0 false)) := Lib.hid (by
      rw [HE.out, hzr, HRW.out, Int.toNat_natCast]
      refine ⟨X3, ⟨γ3, β3, Q3, hp4.cur (r : Int) 0 false⟩, HX3.out, ?_⟩
      have a1 : Turn (fun b => X b ∨ w.heap.size ≤ b) w w3 := HT3.out.mono (fun _ _ e => .inl e)
      have a2 : Turn (fun b => X b ∨ w.heap.size ≤ b) w3 w4 := (Turn.of_new hb4 : Turn (fun _ => False) w3 w4).mono (fun _ _ h => h.elim)
      exact ((a1.trans a2).trans ((curW_turn w4 π (r : Int) 0 false).mono (fun b _ e => by rw [e]; exact HXP.out))).mono (fun b hb e => e.elim id (fun e => by omega)))
    clear hp4 hb4 yf x1 x2 x3
    go_wp2_with fail
    go_end0
    exact ⟨rfl, HF.out⟩
  · have HE := Lib.hid (((((HROWS.out).trans (if_neg (by decide))).trans (if_neg (by decide))).trans (if_neg (by decide))).trans (if_pos rfl))
    go_enter Tryz.func75, Tryz.ntmps75
    go_upto_region 1 with fail
    generalize (w.alloc (.cells (opA 9 a b (.slice ba bn bc)) 30)) = w1 at *
    have HSC : Hid (∀ w', Below w1.heap.size w1 w' → Calls Tryz.prog 125 #[ptr γ, .int .i64 (r : Int), .int .i64 (p.rows.length : Int), .int .i64 a] w' fun e w2 => e = .returned (.tuple #[]) ∧ PenTo w' X π { p with rows := upR p.rows r a W } W w2 ∧ w2.cell? ⟨π, 0, none⟩ = some (ptr γ)) := Lib.hid fun w' hb => (HP1.out.below hb).upTo r a hrl
    go_wp2_with fail
    refine HHI.out.mono ?_
    rintro e wx ⟨rfl, rfl⟩
    go_upto_region 10 with fail
    refine region_begin3 (fun w' => w'.cell? ⟨π, 0, none⟩ = some (ptr γ) ∧ w'.cell? ⟨w.heap.size, 1, none⟩ = some (.int .i64 a) ∧ w'.cell? ⟨π, 1, none⟩ = some (.int .i64 (r : Int))) (fun _ => false) 13 rfl hmx (by intro _ _ d _ _ h; cases d <;> exact h) fun hQP => ?_
    have hS : w1.drew.cell? ⟨π, 0, none⟩ = some (ptr γ) ∧ w1.drew.cell? ⟨w.heap.size, 1, none⟩ = some (.int .i64 a) ∧ w1.drew.cell? ⟨π, 1, none⟩ = some (.int .i64 (r : Int)) := ⟨c0, o1, c1⟩
    have HD : Hid (Below w1.heap.size w1 w1.drew) := Lib.hid (Below.refl _ _).drew
    have HSC2 := Lib.hid (HSC.out _ HD.out)
    clear c0 c1 c2 c3 o0 o1 HSC HHI
    generalize w1.drew = w2 at *
    refine take_f 0 49 rfl rfl (by kernel_rfl) (by kernel_rfl) (by kernel_rfl) (by kernel_rfl) hQP hS (.inl ⟨by kernel_rfl, fun w' hw' => by obtain ⟨e0, e1, e2⟩ := hw'; go_simp; try with_reducible rfl⟩) ?_
    refine take_f 1 50 rfl rfl (by kernel_rfl) (by kernel_rfl) (by kernel_rfl) (by kernel_rfl) hQP hS (.inl ⟨by kernel_rfl, fun w' hw' => by obtain ⟨e0, e1, e2⟩ := hw'; go_simp; try with_reducible rfl⟩) ?_
    refine take_f 2 51 rfl rfl (by kernel_rfl) (by kernel_rfl) (by kernel_rfl) (by kernel_rfl) hQP hS (.inl ⟨by kernel_rfl, fun w' hw' => by obtain ⟨e0, e1, e2⟩ := hw'; go_simp; try with_reducible rfl⟩) ?_
    refine take_f 3 52 rfl rfl (by kernel_rfl) (by kernel_rfl) (by kernel_rfl) (by kernel_rfl) hQP hS (.inl ⟨by kernel_rfl, fun w' hw' => by obtain ⟨e0, e1, e2⟩ := hw'; go_simp; try with_reducible rfl⟩) ?_
    refine take_f 4 53 rfl rfl (by kernel_rfl) (by kernel_rfl) (by kernel_rfl) (by kernel_rfl) hQP hS (.inl ⟨by kernel_rfl, fun w' hw' => by obtain ⟨e0, e1, e2⟩ := hw'; go_simp; try with_reducible rfl⟩) ?_
    refine take_f 5 54 rfl rfl (by kernel_rfl) (by kernel_rfl) (by kernel_rfl) (by kernel_rfl) hQP hS (.inl ⟨by kernel_rfl, fun w' hw' => by obtain ⟨e0, e1, e2⟩ := hw'; go_simp; try with_reducible rfl⟩) ?_
    refine take_f 6 55 rfl rfl (by kernel_rfl) (by kernel_rfl) (by kernel_rfl) (by kernel_rfl) hQP hS (.inl ⟨by kernel_rfl, fun w' hw' => by obtain ⟨e0, e1, e2⟩ := hw'; go_simp; try with_reducible rfl⟩) ?_
    refine take_f 7 56 rfl rfl (by kernel_rfl) (by kernel_rfl) (by kernel_rfl) (by kernel_rfl) hQP hS (.inl ⟨by kernel_rfl, fun w' hw' => by obtain ⟨e0, e1, e2⟩ := hw'; go_simp; try with_reducible rfl⟩) ?_
    refine take_f 8 57 rfl rfl (by kernel_rfl) (by kernel_rfl) (by kernel_rfl) (by kernel_rfl) hQP hS (.inl ⟨by kernel_rfl, fun w' hw' => by obtain ⟨e0, e1, e2⟩ := hw'; go_simp; try with_reducible rfl⟩) ?_
    refine take_f 9 58 rfl rfl (by kernel_rfl) (by kernel_rfl) (by kernel_rfl) (by kernel_rfl) hQP hS (.inl ⟨by kernel_rfl, fun w' hw' => by obtain ⟨e0, e1, e2⟩ := hw'; go_simp; try with_reducible rfl⟩) ?_
    refine take_f 10 59 rfl rfl (by kernel_rfl) (by kernel_rfl) (by kernel_rfl) (by kernel_rfl) hQP hS (.inl ⟨by kernel_rfl, fun w' hw' => by obtain ⟨e0, e1, e2⟩ := hw'; go_simp; try with_reducible rfl⟩) ?_
    refine take_f 11 60 rfl rfl (by kernel_rfl) (by kernel_rfl) (by kernel_rfl) (by kernel_rfl) hQP hS (.inl ⟨by kernel_rfl, fun w' hw' => by obtain ⟨e0, e1, e2⟩ := hw'; go_simp; try with_reducible rfl⟩) ?_
    try simp only [List.setIfInBounds_toArray, List.set_cons_succ, List.set_cons_zero]
    refine take_g (i := 12) (by kernel_rfl) rfl (by kernel_rfl) fun KQ hK => ?_
    go_wp2_with fail
    refine HSC2.out.mono ?_
    rintro e w3 ⟨rfl, hto, hc0⟩
    have HTO : Hid (PenTo w X π { p with rows := upR p.rows r a W } W w3) := Lib.hid (PenTo.pre (HB1.out.trans (HD.out.mono HB1.out.size)) hto)
    have hk0 : w3.cell? ⟨w.heap.size, 1, none⟩ = some (.int .i64 a) := by
      obtain ⟨_, _, _, k3⟩ := hto
      exact k3.cell hS.2.1 HNX.out
    have hkr : w3.cell? ⟨π, 1, none⟩ = some (.int .i64 (r : Int)) := by
      obtain ⟨_, ⟨_, _, _, k1⟩, _, _⟩ := hto
      have := k1.cells.2.1
      simp only at this
      rw [HRW.out] at this
      exact this
    have hS := And.intro hc0 (And.intro hk0 hkr)
    clear hto HSC2
    refine hK _ _ (.inr hS) ?_
    clear hK hS hc0
    refine take_done (by kernel_rfl) ?_ _
    try simp only [List.setIfInBounds_toArray, List.set_cons_succ, List.set_cons_zero]
    obtain ⟨X3, ⟨γ3, β3, Q3, hp3⟩, hx3, ht3⟩ := HTO.out
    obtain ⟨_, x1, x2, x3, _, xf⟩ := hp3.cells
    simp only at x1 x2 x3
    rw [HRW.out] at x1
    have HP3 := Lib.hid hp3
    have HX3 := Lib.hid hx3
    have HT3 := Lib.hid ht3
    have HXP := Lib.hid (hx3 _ hp3.xπ)
    have hzr : returnC p.at_ = ⟨(r : Int), 0, false⟩ := by unfold returnC; rw [HRW.out]
    rw [hzr] at HRET
    clear hp3 hx3 ht3 HTO xf
    go_wp2_with fail
    refine (HRET.out _).mono ?_
    rintro e w4 ⟨rfl, hb4⟩
    have hp4 := HP3.out.below hb4
    obtain ⟨_, y1, y2, y3, _, yf⟩ := hp4.cells
    have f1 := yf 1
    have f2 := yf 2
    have f3 := yf 3
    have HF : Hid (PenTo w X π (rowsP p 9 a W) W (curW w4 π (r : Int) 0 false)) := Lib.hid (by
      rw [HE.out, hzr, HRW.out, Int.toNat_natCast]
      refine ⟨X3, ⟨γ3, β3, Q3, hp4.cur (r : Int) 0 false⟩, HX3.out, ?_⟩
      have a1 : Turn (fun b => X b ∨ w.heap.size ≤ b) w w3 := HT3.out.mono (fun _ _ e => .inl e)
      have a2 : Turn (fun b => X b ∨ w.heap.size ≤ b) w3 w4 := (Turn.of_new hb4 : Turn (fun _ => False) w3 w4).mono (fun _ _ h => h.elim)
      exact ((a1.trans a2).trans ((curW_turn w4 π (r : Int) 0 false).mono (fun b _ e => by rw [e]; exact HXP.out))).mono (fun b hb e => e.elim id (fun e => by omega)))
    clear hp4 hb4 yf x1 x2 x3
    go_wp2_with fail
    go_end0
    exact ⟨rfl, HF.out⟩
  · have HE := Lib.hid ((HROWS.out).trans (if_pos rfl))
    go_enter Tryz.func75, Tryz.ntmps75
    go_upto_region 1 with fail
    generalize (w.alloc (.cells (opA 10 a b (.slice ba bn bc)) 30)) = w1 at *
    have HSC : Hid (∀ w', Below w1.heap.size w1 w' → Calls Tryz.prog 125 #[ptr γ, .int .i64 0, .int .i64 (p.rows.length : Int), .int .i64 a] w' fun e w2 => e = .returned (.tuple #[]) ∧ PenTo w' X π { p with rows := upR p.rows 0 a W } W w2 ∧ w2.cell? ⟨π, 0, none⟩ = some (ptr γ)) := Lib.hid fun w' hb => (HP1.out.below hb).upTo 0 a hpos
    go_wp2_with fail
    refine HHI.out.mono ?_
    rintro e wx ⟨rfl, rfl⟩
    go_upto_region 4 with fail
    refine region_begin3 (fun w' => w'.cell? ⟨π, 0, none⟩ = some (ptr γ) ∧ w'.cell? ⟨w.heap.size, 1, none⟩ = some (.int .i64 a)) (fun _ => false) 8 rfl hmx (by intro _ _ d _ _ h; cases d <;> exact h) fun hQP => ?_
    have hS : w1.drew.cell? ⟨π, 0, none⟩ = some (ptr γ) ∧ w1.drew.cell? ⟨w.heap.size, 1, none⟩ = some (.int .i64 a) := ⟨c0, o1⟩
    have HD : Hid (Below w1.heap.size w1 w1.drew) := Lib.hid (Below.refl _ _).drew
    have HSC2 := Lib.hid (HSC.out _ HD.out)
    clear c0 c1 c2 c3 o0 o1 HSC HHI
    generalize w1.drew = w2 at *
    refine take_f 0 14 rfl rfl (by kernel_rfl) (by kernel_rfl) (by kernel_rfl) (by kernel_rfl) hQP hS (.inl ⟨by kernel_rfl, fun w' hw' => by obtain ⟨e0, e1⟩ := hw'; go_simp; try with_reducible rfl⟩) ?_
    refine take_f 1 15 rfl rfl (by kernel_rfl) (by kernel_rfl) (by kernel_rfl) (by kernel_rfl) hQP hS (.inl ⟨by kernel_rfl, fun w' hw' => by obtain ⟨e0, e1⟩ := hw'; go_simp; try with_reducible rfl⟩) ?_
    refine take_f 2 16 rfl rfl (by kernel_rfl) (by kernel_rfl) (by kernel_rfl) (by kernel_rfl) hQP hS (.inl ⟨by kernel_rfl, fun w' hw' => by obtain ⟨e0, e1⟩ := hw'; go_simp; try with_reducible rfl⟩) ?_
    refine take_f 3 17 rfl rfl (by kernel_rfl) (by kernel_rfl) (by kernel_rfl) (by kernel_rfl) hQP hS (.inl ⟨by kernel_rfl, fun w' hw' => by obtain ⟨e0, e1⟩ := hw'; go_simp; try with_reducible rfl⟩) ?_
    refine take_f 4 18 rfl rfl (by kernel_rfl) (by kernel_rfl) (by kernel_rfl) (by kernel_rfl) hQP hS (.inl ⟨by kernel_rfl, fun w' hw' => by obtain ⟨e0, e1⟩ := hw'; go_simp; try with_reducible rfl⟩) ?_
    refine take_f 5 19 rfl rfl (by kernel_rfl) (by kernel_rfl) (by kernel_rfl) (by kernel_rfl) hQP hS (.inl ⟨by kernel_rfl, fun w' hw' => by obtain ⟨e0, e1⟩ := hw'; go_simp; try with_reducible rfl⟩) ?_
    refine take_f 6 20 rfl rfl (by kernel_rfl) (by kernel_rfl) (by kernel_rfl) (by kernel_rfl) hQP hS (.inl ⟨by kernel_rfl, fun w' hw' => by obtain ⟨e0, e1⟩ := hw'; go_simp; try with_reducible rfl⟩) ?_
    try simp only [List.setIfInBounds_toArray, List.set_cons_succ, List.set_cons_zero]
    refine take_g (i := 7) (by kernel_rfl) rfl (by kernel_rfl) fun KQ hK => ?_
    go_wp2_with fail
    refine HSC2.out.mono ?_
    rintro e w3 ⟨rfl, hto, hc0⟩
    have HTO : Hid (PenTo w X π { p with rows := upR p.rows 0 a W } W w3) := Lib.hid (PenTo.pre (HB1.out.trans (HD.out.mono HB1.out.size)) hto)
    have hk0 : w3.cell? ⟨w.heap.size, 1, none⟩ = some (.int .i64 a) := by
      obtain ⟨_, _, _, k3⟩ := hto
      exact k3.cell hS.2 HNX.out
    have hS := And.intro hc0 hk0
    clear hto HSC2
    refine hK _ _ (.inr hS) ?_
    clear hK hS hc0
    refine take_done (by kernel_rfl) ?_ _
    try simp only [List.setIfInBounds_toArray, List.set_cons_succ, List.set_cons_zero]
    go_wp2_with fail
    refine bodyPost_ret (results_none rfl _ _ _) rfl ?_
    exact ⟨rfl, by rw [HE.out]; exact HTO.out⟩
  · have HE := Lib.hid (((HROWS.out).trans (if_neg (by decide))).trans (if_pos rfl))
    go_enter Tryz.func75, Tryz.ntmps75
    go_upto_region 1 with fail
    generalize (w.alloc (.cells (opA 11 a b (.slice ba bn bc)) 30)) = w1 at *
    have HSC : Hid (∀ w', Below w1.heap.size w1 w' → Calls Tryz.prog 126 #[ptr γ, .int .i64 0, .int .i64 (p.rows.length : Int), .int .i64 a] w' fun e w2 => e = .returned (.tuple #[]) ∧ PenTo w' X π { p with rows := downR p.rows 0 a W } W w2 ∧ w2.cell? ⟨π, 0, none⟩ = some (ptr γ)) := Lib.hid fun w' hb => (HP1.out.below hb).downTo 0 a hpos
    go_wp2_with fail
    refine HHI.out.mono ?_
    rintro e wx ⟨rfl, rfl⟩
    go_upto_region 6 with fail
    refine region_begin3 (fun w' => w'.cell? ⟨π, 0, none⟩ = some (ptr γ) ∧ w'.cell? ⟨w.heap.size, 1, none⟩ = some (.int .i64 a)) (fun _ => false) 8 rfl hmx (by intro _ _ d _ _ h; cases d <;> exact h) fun hQP => ?_
    have hS : w1.drew.cell? ⟨π, 0, none⟩ = some (ptr γ) ∧ w1.drew.cell? ⟨w.heap.size, 1, none⟩ = some (.int .i64 a) := ⟨c0, o1⟩
    have HD : Hid (Below w1.heap.size w1 w1.drew) := Lib.hid (Below.refl _ _).drew
    have HSC2 := Lib.hid (HSC.out _ HD.out)
    clear c0 c1 c2 c3 o0 o1 HSC HHI
    generalize w1.drew = w2 at *
    refine take_f 0 24 rfl rfl (by kernel_rfl) (by kernel_rfl) (by kernel_rfl) (by kernel_rfl) hQP hS (.inl ⟨by kernel_rfl, fun w' hw' => by obtain ⟨e0, e1⟩ := hw'; go_simp; try with_reducible rfl⟩) ?_
    refine take_f 1 25 rfl rfl (by kernel_rfl) (by kernel_rfl) (by kernel_rfl) (by kernel_rfl) hQP hS (.inl ⟨by kernel_rfl, fun w' hw' => by obtain ⟨e0, e1⟩ := hw'; go_simp; try with_reducible rfl⟩) ?_
    refine take_f 2 26 rfl rfl (by kernel_rfl) (by kernel_rfl) (by kernel_rfl) (by kernel_rfl) hQP hS (.inl ⟨by kernel_rfl, fun w' hw' => by obtain ⟨e0, e1⟩ := hw'; go_simp; try with_reducible rfl⟩) ?_
    refine take_f 3 27 rfl rfl (by kernel_rfl) (by kernel_rfl) (by kernel_rfl) (by kernel_rfl) hQP hS (.inl ⟨by kernel_rfl, fun w' hw' => by obtain ⟨e0, e1⟩ := hw'; go_simp; try with_reducible rfl⟩) ?_
    refine take_f 4 28 rfl rfl (by kernel_rfl) (by kernel_rfl) (by kernel_rfl) (by kernel_rfl) hQP hS (.inl ⟨by kernel_rfl, fun w' hw' => by obtain ⟨e0, e1⟩ := hw'; go_simp; try with_reducible rfl⟩) ?_
    refine take_f 5 29 rfl rfl (by kernel_rfl) (by kernel_rfl) (by kernel_rfl) (by kernel_rfl) hQP hS (.inl ⟨by kernel_rfl, fun w' hw' => by obtain ⟨e0, e1⟩ := hw'; go_simp; try with_reducible rfl⟩) ?_
    refine take_f 6 30 rfl rfl (by kernel_rfl) (by kernel_rfl) (by kernel_rfl) (by kernel_rfl) hQP hS (.inl ⟨by kernel_rfl, fun w' hw' => by obtain ⟨e0, e1⟩ := hw'; go_simp; try with_reducible rfl⟩) ?_
    try simp only [List.setIfInBounds_toArray, List.set_cons_succ, List.set_cons_zero]
    refine take_g (i := 7) (by kernel_rfl) rfl (by kernel_rfl) fun KQ hK => ?_
    go_wp2_with fail
    refine HSC2.out.mono ?_
    rintro e w3 ⟨rfl, hto, hc0⟩
    have HTO : Hid (PenTo w X π { p with rows := downR p.rows 0 a W } W w3) := Lib.hid (PenTo.pre (HB1.out.trans (HD.out.mono HB1.out.size)) hto)
    have hk0 : w3.cell? ⟨w.heap.size, 1, none⟩ = some (.int .i64 a) := by
      obtain ⟨_, _, _, k3⟩ := hto
      exact k3.cell hS.2 HNX.out
    have hS := And.intro hc0 hk0
    clear hto HSC2
    refine hK _ _ (.inr hS) ?_
    clear hK hS hc0
    refine take_done (by kernel_rfl) ?_ _
    try simp only [List.setIfInBounds_toArray, List.set_cons_succ, List.set_cons_zero]
    go_wp2_with fail
    refine bodyPost_ret (results_none rfl _ _ _) rfl ?_
    exact ⟨rfl, by rw [HE.out]; exact HTO.out⟩
end Go.Proofs.YtjicdcmdgbcdcaaGreatDoor.Scr
end
section
namespace Go.Proofs.YtjicdcmdgbcdcaaGreatDoor.Scr
set_option linter.unusedSimpArgs false
set_option linter.unusedVariables false
open Go Go.RowKit Mem Turn Ring

structure CutAt (t line rest : ByteArray) (i : Nat) : Prop where
  ne : ([10] == t.toList) = false
  ix : Lib.indexByte t.data.toList 10 = (i : Int)
  le : i + 1 ≤ t.size
  sz : t.size ≤ 100000
  a : t.extract 0 i = line
  b : t.extract (i + 1) t.size = rest
structure FeedLine (line : ByteArray) (rs : List Int) (u : ByteArray) : Prop where
  sp : SplitB 32 line [⟨#[102, 101, 101, 100]⟩, u]
  ct : Lib.countByte line.data.toList 32 + 1 = 2
  sz : line.size ≤ 100000
  s1 : 1 ≤ line.size
  us : u.size ≤ 100000
  hx : HexOf u rs
  ne : rs ≠ []
def FeedLines : ByteArray → List (List Int) → Prop
  | t, [] => t = ⟨#[]⟩
  | t, rs :: L => ∃ i line rest u, CutAt t line rest i ∧ FeedLine line rs u ∧ FeedLines rest L
structure SizeLine (line : ByteArray) (x y : Int) (u1 u2 : ByteArray) : Prop where
  sp : SplitB 32 line [⟨#[115, 105, 122, 101]⟩, u1, u2]
  ct : Lib.countByte line.data.toList 32 + 1 = 3
  sz : line.size ≤ 100000
  s2 : 2 ≤ line.size
  z1 : u1.size ≤ 100000
  z2 : u2.size ≤ 100000
  hx : numF u1 = (x, true)
  hy : numF u2 = (y, true)
theorem size_script (x y : Int) (v : Value) : (Tryz.prog.info? 49).map (·.size) = some (#[Value.int .i64 x, .int .i64 y, v] : Array Value).size := by kernel_rfl
theorem one_script (x y : Int) (ad : Option Addr) (n c : Nat) : (#[Value.int .i64 x, .int .i64 y, .slice ad n c] : Array Value).all (·.oneCell') = true := by simp [Value.oneCell']
/-- how the script stands behind n lines -/
def ReadS (w wx : World) (σ n : Nat) (x y : Int) (tk text : ByteArray) (L Lr : List (List Int)) : Prop :=
  Below w.heap.size w wx ∧ wx.heap[w.heap.size]? = some (.cells #[.int .i64 0, .int .i64 0, .slice none 0 0] 49 (0, 0)) ∧
  ((n = 0 ∧ tk = text ∧ Lr = L ∧ ScriptAt wx σ 0 0 (.slice none 0 0)) ∨
   (1 ≤ n ∧ FeedLines tk Lr ∧ ∃ v LL, ScriptAt wx σ x y v ∧ OpsM wx (w.heap.size + 1) v LL ∧ LL.map (·.1) ++ Lr.map (fun rs => ⟨0, 0, 0, rs⟩) = L.map (fun rs => (⟨0, 0, 0, rs⟩ : OpC))))

set_option maxRecDepth 100000 in
set_option maxHeartbeats 16000000 in
theorem read_ok (text line rest u1 u2 : ByteArray) (i : Nat) (x y : Int) (L : List (List Int)) (w : World) (hc : CutAt text line rest i) (hsl : SizeLine line x y u1 u2) (hf : FeedLines rest L) (hsz : text.size ≤ 65536) (hLn : L.length ≤ 60000) :
    Calls Tryz.prog 14 #[.string text] w fun e w' => ∃ v LL, e = .returned (.tuple #[.agg #[.int .i64 x, .int .i64 y, v], .nilIface]) ∧ OpsM w' w.heap.size v LL ∧ LL.map (·.1) = L.map (fun rs => (⟨0, 0, 0, rs⟩ : OpC)) ∧ Below w.heap.size w w' := by
  have HC := Lib.hid hc
  have HSL := Lib.hid hsl
  have HF := Lib.hid hf
  have HLN := Lib.hid hLn
  have hsz' : decide ((65536 : Int) < (text.size : Int)) = false := decide_eq_false (by omega)
  obtain ⟨m, hm⟩ : ∃ m, L.length = m := ⟨_, rfl⟩
  have HM := Lib.hid hm
  clear hc hsl hf hLn hm
  go_enter Tryz.func14, Tryz.ntmps14
  go_upto_region 4 with fail
  have HI : Hid (ReadS w ((w.alloc (.cells #[.int .i64 0, .int .i64 0, .slice none 0 0] 49)).alloc (.cells #[.int .i64 0, .int .i64 0, .slice none 0 0] 49)) (w.heap.size + 1) 0 x y text text L L) := Lib.hid (by
    refine ⟨((Below.refl _ _).alloc (Nat.le_refl _) _).alloc (by simp) _, ?_, .inl ⟨rfl, rfl, rfl, ?_⟩⟩
    · rw [hp_old _ _ _ (by simp), heap_alloc_new]
    · have := heap_alloc_new (w.alloc (.cells #[.int .i64 0, .int .i64 0, .slice none 0 0] 49)) (.cells #[.int .i64 0, .int .i64 0, .slice none 0 0] 49)
      rw [World.size_alloc] at this
      exact this)
  generalize ((w.alloc (.cells #[.int .i64 0, .int .i64 0, .slice none 0 0] 49)).alloc (.cells #[.int .i64 0, .int .i64 0, .slice none 0 0] 49)) = w1 at *
  obtain ⟨B, hB⟩ : ∃ B, w.heap.size = B := ⟨_, rfl⟩
  rw [hB]
  have HBB := Lib.hid hB
  rw [show w.heap.size + 1 = B + 1 by rw [hB]] at HI
  clear hB
  go_wp2_with fail
  go_loopg [0, 5, 6, 7, 8, 9] (m + 1) (fun gg v0 v5 v6 v7 v8 v9 wx => ∃ (n : Nat) (tk : ByteArray) (Lr : List (List Int)), (if n = 0 then Lr.length + 1 else Lr.length) = gg ∧ v0 = .string tk ∧ v5 = .int .i64 (n : Int) ∧ n + Lr.length ≤ m + 1 ∧ Hid (ReadS w wx (B + 1) n x y tk text L Lr))
  case atStart => exact ⟨0, text, L, by rw [if_pos rfl, HM.out], rfl, rfl, by rw [HM.out]; omega, HI⟩
  case round =>
    obtain ⟨n, tk, Lr, hgg, rfl, rfl, hnm, H⟩ := hrel
    obtain ⟨hbw, hres, hcase⟩ := H.out
    rw [HBB.out] at hres hbw
    have HBW := Lib.hid hbw
    have HRES := Lib.hid hres
    clear hbw hres H
    by_cases h0 : n = 0
    · subst h0
      rw [if_pos rfl] at hgg
      obtain ⟨-, rfl, rfl, hs⟩ := hcase.resolve_right (fun h => by omega)
      have HST := Lib.hid hs
      have HCUT := Lib.hid (sCut1 tk line rest 10 i wr HC.out.ne HC.out.ix HC.out.le HC.out.sz HC.out.a HC.out.b)
      clear hs hcase
      go_wp2_with fail
      refine HCUT.out.mono ?_
      rintro e w2 ⟨rfl, hb2⟩
      have HS2 := Lib.hid (show ScriptAt w2 (B + 1) 0 0 (.slice none 0 0) from (Turn.of_new hb2 : Turn (fun _ => False) wr w2).heap HST.out id)
      have HR2 := Lib.hid ((Turn.of_new hb2 : Turn (fun _ => False) wr w2).heap HRES.out id)
      have HB2 := Lib.hid (HBW.out.trans (hb2.mono (by have := HBW.out.size; have := HBB.out; omega)))
      have HLI := Lib.hid (line_first (B + 1) (B + 1) 0 0 x y (.slice none 0 0) line u1 u2 w2 HS2.out rfl (Nat.le_refl _) HSL.out.sp HSL.out.ct HSL.out.sz HSL.out.s2 HSL.out.z1 HSL.out.z2 HSL.out.hx HSL.out.hy)
      clear hb2 HCUT HST HRES HBW
      go_wp2_with fail
      refine HLI.out.mono ?_
      rintro e w3 ⟨rfl, hs3, hb3⟩
      have HRD : Hid (ReadS w w3 (B + 1) 1 x y rest tk Lr Lr) := Lib.hid (by
        have hBw := HBB.out
        have hsz2 : B + 1 < w2.heap.size := (Array.getElem?_eq_some_iff.1 HS2.out).1
        refine ⟨?_, ?_, .inr ⟨Nat.le_refl _, HF.out, _, [], hs3, ⟨World.ownsRow_nil _ _ _ _, by simp⟩, by simp⟩⟩
        · rw [hBw]
          exact HB2.out.trans (hb3.mono (by omega))
        · rw [hBw]
          rw [hb3.block B (by omega)]
          exact HR2.out)
      clear hs3 hb3 HLI HS2 HR2 HB2
      go_wp2_with fail
      go_roundg Lr.length
      case measure => omega
      case rel => exact ⟨1, rest, Lr, by simp, rfl, by go_num, by have := HM.out; omega, HRD⟩
    · rw [if_neg h0] at hgg
      obtain ⟨h1n, hfl, v, LL, hs, hop, hmap⟩ := hcase.resolve_left (fun h => h0 h.1)
      rw [HBB.out] at hop
      have hn0 : ((n : Int) == 0) = false := by rw [beq_eq_false_iff_ne]; omega
      have hnp : (0 : Int) < (n : Int) := by omega
      rcases Lr with _ | ⟨rs, Lr⟩
      · obtain rfl : tk = ⟨#[]⟩ := hfl
        obtain ⟨av, cv, hav⟩ := Turn.own_slice hop.1
        obtain ⟨k, hk⟩ : ∃ k, LL.length = k := ⟨_, rfl⟩
        rw [hk] at hav
        subst hav
        have HS := Lib.hid hs
        have HOP := Lib.hid hop
        have HMAP := Lib.hid hmap
        have hs' : wr.heap[B + 1]? = some (.cells #[.int .i64 x, .int .i64 y, .slice av k cv] 49 (0, 0)) := hs
        have hres := HRES.out
        clear hs hop hmap HC HSL
        go_wp2_with (first | (refine wpList_load_row rfl 49 _ rfl (B + 1) rfl _ #[.int .i64 x, .int .i64 y, .slice av k cv] (0, 0) _ hs' Tryz.underlying49 rfl (size_script _ _ _) ?_) | (refine wpList_store_row rfl 49 _ _ rfl B #[.int .i64 x, .int .i64 y, .slice av k cv] rfl rfl _ _ hres (size_script _ _ _) rfl (one_script _ _ _ _ _) ?_))
        have hfin := setRow_heap wr B _ #[.int .i64 x, .int .i64 y, .slice av k cv] 49 (0, 0) hres
        have T := turn_setRow wr B #[.int .i64 x, .int .i64 y, .slice av k cv]
        refine bodyPost_ret (res_cell_tmp rfl _ _ B 49 _ (0, 0) _ rfl hfin Tryz.underlying49 rfl (size_script _ _ _)) rfl ?_
        have hty : Typ wr 49 B := ⟨_, _, hres⟩
        have hbs := HBW.out.size
        have hBw := HBB.out
        have hO := HOP.out.turn T (fun b e _ => by subst e; exact hty.not (by decide)) (fun b e _ => by subst e; exact hty.not (by decide))
        refine ⟨_, LL, rfl, ⟨owns_base hO.1 (by omega), fun p hp => owns_base (hO.2 p hp) (by omega)⟩, ?_, ?_⟩
        · have := HMAP.out
          simpa using this
        · rw [hBw]
          exact HBW.out.trans (T.below (by omega) (fun j e => by rw [e]; exact Nat.le_refl _))
      · obtain ⟨j, ln, rt, u, hcut, hfe, hfl2⟩ := hfl
        have HCUT := Lib.hid (sCut1 tk ln rt 10 j wr hcut.ne hcut.ix hcut.le hcut.sz hcut.a hcut.b)
        have HFL := Lib.hid hfl2
        have HMAP := Lib.hid hmap
        have HS := Lib.hid hs
        have HOP := Lib.hid hop
        have hne : (tk.toList == []) = false := nil_ne (by have := hcut.le; omega)
        have HFE := Lib.hid hfe
        have hlen : LL.length ≤ 100000 := by
          have := congrArg List.length hmap
          simp at this
          have := HLN.out
          omega
        have HLEN := Lib.hid hlen
        clear hcut hfl2 hmap hs hop hfe hlen
        go_wp2_with fail
        refine HCUT.out.mono ?_
        rintro e w2 ⟨rfl, hb2⟩
        have T2 : Turn (fun _ => False) wr w2 := Turn.of_new hb2
        have HS2 := Lib.hid (show ScriptAt w2 (B + 1) x y v from T2.heap HS.out id)
        have HO2 := Lib.hid (HOP.out.turn T2 (fun _ h => h.elim) (fun _ h => h.elim))
        have HR2 := Lib.hid (T2.heap HRES.out id)
        have HB2 := Lib.hid (HBW.out.trans (hb2.mono (by have := HBW.out.size; have := HBB.out; omega)))
        have HLI := Lib.hid (line_more (B + 1) (B + 1) x y n v LL ln rs w2 HS2.out HO2.out (Nat.le_refl _) hnp HLEN.out (fun w => parse_feed ln u rs w HFE.out.sp HFE.out.ct HFE.out.sz HFE.out.s1 HFE.out.us HFE.out.hx HFE.out.ne))
        clear hb2 T2 HCUT HS HOP HRES HBW
        go_wp2_with fail
        refine HLI.out.mono ?_
        rintro e w3 ⟨rfl, v3, p3, hs3, ho3, hb3⟩
        have HRD : Hid (ReadS w w3 (B + 1) (n + 1) x y rt text L Lr) := Lib.hid (by
          have hBw := HBB.out
          have hsz2 : B + 1 < w2.heap.size := (Array.getElem?_eq_some_iff.1 HS2.out).1
          refine ⟨?_, ?_, .inr ⟨by omega, HFL.out, v3, _, hs3, by rw [hBw]; exact ho3, ?_⟩⟩
          · rw [hBw]
            exact HB2.out.trans (hb3.mono (by omega))
          · rw [hBw]
            rw [hb3.block B (by omega)]
            exact HR2.out
          · have := HMAP.out
            simpa using this)
        have hwn : IntKind.i64.wrap ((n : Int) + 1) = (n : Int) + 1 := by rw [IntKind.wrap_i64]; have := HLN.out; have := HM.out; omega
        clear hs3 ho3 hb3 HLI HS2 HR2 HB2 HO2
        simp only [List.length_cons] at hgg hnm
        go_wp2_with fail
        go_roundg Lr.length
        case measure => omega
        case rel => exact ⟨n + 1, rt, Lr, by simp, rfl, by go_num, by omega, HRD⟩
end Go.Proofs.YtjicdcmdgbcdcaaGreatDoor.Scr
end

/-
  fitline.breaker.put.
-/
import Derived.Test.YtihanlahegngoaaFitLaw
import Derived.Test.YtihanlahegngoaaTake
import Derived.Deep.Cut
namespace Go.Proofs.Ytihanlahegngoaa.Fit
set_option linter.unusedSimpArgs false
set_option linter.unusedVariables false
open Go Go.RowKit Go.Shelf Mem Seg Turn Gra Same GraLaw Mea

/-- the breaker's four cells -/
def Q4 (w : World) (q : Nat) (W r : Int) (vo vl : Value) : Prop := ∃ T, w.heap[q]? = some (.cells #[.int .i64 W, .int .i64 r, vo, vl] T (0, 0))
section
variable {w w' : World} {q : Nat} {W r : Int} {vo vl : Value}
theorem Q4.lt (h : Q4 w q W r vo vl) : q < w.heap.size := by obtain ⟨T, h⟩ := h; exact (Array.getElem?_eq_some_iff.1 h).1
theorem Q4.c0 (h : Q4 w q W r vo vl) : w.cell? ⟨q, 0, none⟩ = some (.int .i64 W) := by obtain ⟨T, h⟩ := h; simp [World.cell?, h]
theorem Q4.c1 (h : Q4 w q W r vo vl) : w.cell? ⟨q, 1, none⟩ = some (.int .i64 r) := by obtain ⟨T, h⟩ := h; simp [World.cell?, h]
theorem Q4.c2 (h : Q4 w q W r vo vl) : w.cell? ⟨q, 2, none⟩ = some vo := by obtain ⟨T, h⟩ := h; simp [World.cell?, h]
theorem Q4.c3 (h : Q4 w q W r vo vl) : w.cell? ⟨q, 3, none⟩ = some vl := by obtain ⟨T, h⟩ := h; simp [World.cell?, h]
theorem Q4.frozen (h : Q4 w q W r vo vl) (i : Nat) : w.frozen? ⟨q, i, none⟩ = false := by obtain ⟨T, h⟩ := h; simp [World.frozen?, h]
theorem Q4.keep {T : Nat → Prop} (h : Q4 w q W r vo vl) (ht : Turn T w w') (hn : ¬ T q) : Q4 w' q W r vo vl := by obtain ⟨T, h⟩ := h; exact ⟨T, ht.heap h hn⟩
theorem Q4.below {B : Nat} (h : Q4 w q W r vo vl) (hb : Below B w w') (hq : q < B) : Q4 w' q W r vo vl := by obtain ⟨T, h⟩ := h; exact ⟨T, by rw [hb.block q hq, h]⟩
theorem Q4.s1 (h : Q4 w q W r vo vl) (x : Int) : Q4 (w.setCell ⟨q, 1, none⟩ (.int .i64 x)) q W x vo vl := by obtain ⟨T, h⟩ := h; exact ⟨T, heap_setCell h⟩
theorem Q4.s2 (h : Q4 w q W r vo vl) (v : Value) : Q4 (w.setCell ⟨q, 2, none⟩ v) q W r v vl := by obtain ⟨T, h⟩ := h; exact ⟨T, heap_setCell h⟩
theorem Q4.s3 (h : Q4 w q W r vo vl) (v : Value) : Q4 (w.setCell ⟨q, 3, none⟩ v) q W r vo v := by obtain ⟨T, h⟩ := h; exact ⟨T, heap_setCell h⟩
end

/-- the lines that are full -/
def Outs (w : World) (base b' : Nat) (vo : Value) (o : List (List Int)) : Prop :=
  ∃ vs : List Value, vs.length = o.length ∧ w.ownsRow base 22 1 vo o.length vs ∧ ∀ (i : Nat) (xs : List Int), o[i]? = some xs → ∃ a n c, vs[i]? = some (.slice a n c) ∧ w.ownsRow base 21 1 (.slice a n c) n (xs.map (Value.int .i32)) ∧ ∀ g, (Value.slice a n c).ownBlock = some g → g < b'
theorem Outs.keep {w w' : World} {base b' : Nat} {vo : Value} {o : List (List Int)} {T : Nat → Prop} (h : Outs w base b' vo o) (ht : Turn T w w') (hT : ∀ j, T j → vo.ownBlock ≠ some j ∧ (j < base ∨ b' ≤ j)) : Outs w' base b' vo o := by
  obtain ⟨vs, h1, h2, h3⟩ := h
  refine ⟨vs, h1, ht.kept h2 (fun g hg hj => (hT g hj).1 hg), fun i xs hx => ?_⟩
  obtain ⟨a, n, c, e1, e2, e3⟩ := h3 i xs hx
  refine ⟨a, n, c, e1, ht.kept e2 (fun g hg hj => ?_), e3⟩
  have h5 := e3 g hg
  have h6 := (e2.lt g hg).1
  have h7 := (hT g hj).2
  omega
theorem Outs.vo {w : World} {base b' : Nat} {v : Value} {o : List (List Int)} (h : Outs w base b' v o) : ∃ a c, v = .slice a o.length c := by
  obtain ⟨vs, _, h2, _⟩ := h; exact own_slice h2
/-- a line that is full is put behind the others -/
theorem Outs.push {w w2 : World} {base b' : Nat} {vo vl v2 : Value} {o : List (List Int)} {l : List Int} {vs : List Value} (h1 : vs.length = o.length) (h2 : w.ownsRow base 22 1 vo o.length vs)
    (h3 : ∀ (i : Nat) (xs : List Int), o[i]? = some xs → ∃ a n c, vs[i]? = some (.slice a n c) ∧ w.ownsRow base 21 1 (.slice a n c) n (xs.map (Value.int .i32)) ∧ ∀ g, (Value.slice a n c).ownBlock = some g → g < b')
    (hl : w.ownsRow b' 21 1 vl l.length (l.map (Value.int .i32))) (hbb : base ≤ b') (hown : w2.ownsRow base 22 1 v2 (o.length + 1) (vs ++ [vl])) (hgrow : w.grownBy w2 vo.ownBlock) : Outs w2 base w2.heap.size v2 (o ++ [l]) := by
  have T2 : Turn (fun j => vo.ownBlock = some j) w w2 := Turn.of_grown hgrow (fun _ e => e)
  refine ⟨vs ++ [vl], by simp [h1], by simpa using hown, fun i xs hx => ?_⟩
  rcases Nat.lt_or_ge i o.length with hi | hi
  · rw [List.getElem?_append_left hi] at hx
    obtain ⟨a, n, c, e1, e2, e3⟩ := h3 i xs hx
    have e2' := T2.kept e2 (fun g hg hj => rows_ne h2 e2 (by decide) hj hg)
    exact ⟨a, n, c, by rw [List.getElem?_append_left (by omega)]; exact e1, e2', fun g hg => (e2'.lt g hg).2⟩
  · have hi' : i = o.length := by
      have := (List.getElem?_eq_some_iff.1 hx).1
      simp at this; omega
    subst hi'
    rw [List.getElem?_append_right (Nat.le_refl _)] at hx
    simp at hx
    subst hx
    obtain ⟨a, c, rfl⟩ := own_slice hl
    have e2' := T2.kept (hl.mono hbb) (fun g hg hj => rows_ne h2 hl (by decide) hj hg)
    exact ⟨a, _, c, by rw [List.getElem?_append_right (by omega), h1]; simp, e2', fun g hg => (e2'.lt g hg).2⟩

/-- the breaker at block q: its width, the lines that are full, the one in hand, its room -/
def BrI (w : World) (q base : Nat) (W : Int) (o : List (List Int)) (l : List Int) (r : Int) : Prop :=
  ∃ vo vl b', base ≤ b' ∧ (b' ≤ w.heap.size ∨ b' = base) ∧ q < base ∧ Q4 w q W r vo vl ∧ Outs w base b' vo o ∧ w.ownsRow b' 21 1 vl l.length (l.map (Value.int .i32))
theorem BrI.keep {w w' : World} {q base : Nat} {W r : Int} {o : List (List Int)} {l : List Int} {T : Nat → Prop} (h : BrI w q base W o l r) (ht : Turn T w w') (hT : ∀ j, T j → j ≠ q ∧ j < base) : BrI w' q base W o l r := by
  obtain ⟨vo, vl, b', h1, h2, h3, h4, h5, h6⟩ := h
  refine ⟨vo, vl, b', h1, h2.imp (fun h => Nat.le_trans h ht.size) id, h3, h4.keep ht (fun h => (hT q h).1 rfl), h5.keep ht (fun j hj => ⟨fun e => ?_, .inl (hT j hj).2⟩), ht.kept h6 (fun g hg hj => ?_)⟩
  · obtain ⟨vs, _, h7, _⟩ := h5
    have := (h7.lt j e).1
    have := (hT j hj).2
    omega
  · have := (h6.lt g hg).1
    have := (hT g hj).2
    omega

set_option maxRecDepth 100000 in
set_option maxHeartbeats 8000000 in
theorem put_more (q base : Nat) (W : Int) (o : List (List Int)) (l : List Int) (r : Int) (a : Option Addr) (n c : Nat) (ys : List Int) (w : World) (hbr : BrI w q base W o l r) (hy : Runes w a n c ys) (h0n : 0 < n) (hn : n ≤ 100000) (hyr : R32 ys) (hyn : n ≤ c) (hycm : c ≤ 9223372036854775807) (u nn : Int) (hu : wsum (itms ys) = u) (hnn : (if W < u then W else u) = nn)
    (hb : 0 ≤ r ∧ r ≤ W ∧ W ≤ 1024 ∧ 0 ≤ nn ∧ nn ≤ 1024) (hyq : ∀ b off, a = some ⟨b, off, none⟩ → b ≠ q ∧ b < base) (hbs : base ≤ w.heap.size) (hol : o.length ≤ 1000) (hll : l.length ≤ 100000) (hr : nn ≤ r) :
    Calls Try.prog 83 #[.pointer (some ⟨q, 0, none⟩), .slice a n c] w fun e w' => e = .returned (.tuple #[]) ∧ BrI w' q base W o (l ++ ys) (r - nn) ∧ Turn (fun j => j = q ∨ base ≤ j) w w' := by
  obtain ⟨vo, vl, b', hb1, hb2, hqb, hQ, hO, hLn⟩ := hbr
  have hb2 : b' ≤ w.heap.size := by omega
  obtain ⟨al, cq, hvl⟩ := own_slice hLn
  obtain ⟨lm, hlm⟩ : ∃ lm, l.length = lm := ⟨_, rfl⟩
  rw [hlm] at hvl hLn hll
  have HLM := Lib.hid hlm
  clear hlm
  subst hvl
  obtain ⟨hlen, h0 | ⟨yb, yo, rfl, hyb, hyc⟩⟩ := hy.ints
  · omega
  have hyo : ∀ g, base ≤ g → g ≠ yb := fun g hg e => by have := (hyq yb yo rfl).2; omega
  have hyq : yb ≠ q := (hyq yb yo rfl).1
  obtain ⟨i1, hi1, hy0, hy1, hy2⟩ := info_parts info_i32
  obtain ⟨i2, hi2, hx0, hx1, hx2⟩ := info_parts info_sl
  have HC := Lib.hid (cols_any _ n c ys w hy hn)
  rw [hu] at HC
  have hmx : Try.prog.follows .mixedOrders = true := by kernel_rfl
  have HQ := Lib.hid hQ
  have HO := Lib.hid hO
  have HLN := Lib.hid hLn
  have HYC := Lib.hid hyc
  have HYL := Lib.hid hlen
  have hmin : (if W < u then W else u) = nn := hnn
  have hqw : q < w.heap.size := hQ.lt
  clear hQ hO hLn hyc hy hlen hnn
  go_enter Try.func83, Try.ntmps83
  go_wp2
  refine region_begin (fun w' => w'.cell? ⟨q, 0, none⟩ = some (.int .i64 W) ∧ w'.cell? ⟨q, 2, none⟩ = some vo ∧ w'.cell? ⟨q, 3, none⟩ = some (.slice al lm cq)) (fun _ => false) hmx ?_
  have hS : w.drew.cell? ⟨q, 0, none⟩ = some (.int .i64 W) ∧ w.drew.cell? ⟨q, 2, none⟩ = some vo ∧ w.drew.cell? ⟨q, 3, none⟩ = some (.slice al lm cq) := ⟨HQ.out.c0, HQ.out.c2, HQ.out.c3⟩
  refine take_first (i := 0) rfl (by kernel_rfl) (by kernel_rfl) (by kernel_rfl) (by kernel_rfl) (fun _ _ _ h => h) hS (.inl ⟨by rfl, fun w' hw' => by obtain ⟨e0, e2, e3⟩ := hw'; go_simp; try with_reducible rfl⟩) ?_
  refine take_first (i := 2) rfl (by kernel_rfl) (by kernel_rfl) (by kernel_rfl) (by kernel_rfl) (fun _ _ _ h => h) hS (.inl ⟨by rfl, fun w' hw' => by obtain ⟨e0, e2, e3⟩ := hw'; go_simp; try with_reducible rfl⟩) ?_
  refine take_first (i := 3) rfl (by kernel_rfl) (by kernel_rfl) (by kernel_rfl) (by kernel_rfl) (fun _ _ _ h => h) hS (.inl ⟨by rfl, fun w' hw' => by obtain ⟨e0, e2, e3⟩ := hw'; go_simp; try with_reducible rfl⟩) ?_
  refine take_first (i := 4) rfl (by kernel_rfl) (by kernel_rfl) (by kernel_rfl) (by kernel_rfl) (fun _ _ _ h => h) hS (.inl ⟨by rfl, fun w' hw' => by obtain ⟨e0, e2, e3⟩ := hw'; go_simp; try with_reducible rfl⟩) ?_
  refine take_first (i := 5) rfl (by kernel_rfl) (by kernel_rfl) (by kernel_rfl) (by kernel_rfl) (fun _ _ _ h => h) hS (.inl ⟨by rfl, fun w' hw' => by obtain ⟨e0, e2, e3⟩ := hw'; go_simp; try with_reducible rfl⟩) ?_
  refine take_g (i := 1) (by kernel_rfl) rfl rfl fun K hK => ?_
  have HCD := Lib.hid (cols_any (some ⟨yb, yo, none⟩) n c ys w.drew ⟨⟨HYL.out, .inr ⟨yb, yo, rfl, hyb, HYC.out⟩⟩, hyr, hyn, hycm⟩ hn)
  rw [hu] at HCD
  go_wp2_with fail
  refine HCD.out.mono ?_
  rintro e w1 ⟨rfl, hbw⟩
  have hbw : Below w.heap.size w w1 := ((Below.refl _ _).drew).trans hbw
  have Q1 := HQ.out.below hbw hqw
  have hS : w1.cell? ⟨q, 0, none⟩ = some (.int .i64 W) ∧ w1.cell? ⟨q, 2, none⟩ = some vo ∧ w1.cell? ⟨q, 3, none⟩ = some (.slice al lm cq) := ⟨Q1.c0, Q1.c2, Q1.c3⟩
  have O1 := Lib.hid (HO.out.keep (T := fun _ => False) (Turn.of_new hbw) (fun _ h => h.elim))
  have L1 := Lib.hid ((Turn.of_new hbw : Turn (fun _ => False) w w1).kept HLN.out (fun _ _ => id))
  have HYC1 : Hid (∀ (i : Nat) (x : Int), ys[i]? = some x → w1.cell? ⟨yb, yo + i, none⟩ = some (.int .i32 x)) := fun i x hx => (hbw.cell (p := ⟨yb, yo + i, none⟩) hyb).trans (HYC.out i x hx)
  have TW := Lib.hid (Turn.of_new hbw : Turn (fun j => j = q ∨ base ≤ j) w w1)
  have hs1 := hbw.size
  have HQ1 := Lib.hid Q1
  refine hK _ _ (.inr hS) ?_
  clear hK HC HCD hbw HQ HO HLN HYC Q1
  refine take_first (i := 6) rfl (by kernel_rfl) (by kernel_rfl) (by kernel_rfl) (by kernel_rfl) (fun _ _ _ h => h) hS (.inl ⟨by rfl, fun w' hw' => by obtain ⟨e0, e2, e3⟩ := hw'; go_simp; try with_reducible rfl⟩) ?_
  refine take_g (i := 7) (by kernel_rfl) rfl rfl fun K hK => ?_
  go_wp2
  refine hK _ _ (.inr hS) ?_
  clear hK
  refine take_done (by kernel_rfl) ?_ _
  obtain ⟨e0, e2, e3⟩ := hS
  have e1 := HQ1.out.c1
  have d1 : decide (r < nn) = false := by simp; omega
  have x1 : IntKind.i64.wrap (r - nn) = r - nn := IntWalk.i64_in _ (by omega)
  obtain ⟨bb, hbb⟩ : ∃ bb, bb = b' := ⟨_, rfl⟩
  have hqbb : q < bb := by omega
  have hbbs : bb ≤ w1.heap.size := by omega
  have LB : Hid (w1.ownsRow bb 21 1 (.slice al lm cq) lm (l.map (Value.int .i32))) := by rw [hbb]; exact L1
  have HQB := HQ1
  have HCELL : Hid (∀ j v, (ys.map (Value.int .i32))[j]? = some v → w1.cell? ((⟨yb, yo, none⟩ : Addr).add j) = some v) := by
    refine Lib.hid fun j v hj => ?_
    rw [List.getElem?_map, Option.map_eq_some_iff] at hj
    obtain ⟨x, hx, rfl⟩ := hj
    rw [add_none]; exact HYC1.out j x hx
  have HBB := Lib.hid hbb
  clear hbb
  go_wp2_with (at_builtin; refine wpList_append_own _ rfl _ _ 22 rfl bb 21 i1 _ 1 4 Try.underlying22 hi1 hy0 hy1 hy2 rfl (by decide) _ lm _ rfl LB.out ⟨yb, yo, none⟩ n c (ys.map (Value.int .i32)) rfl (by rw [List.length_map, HYL.out]; omega) (HCELL.out) (one_cells _ _) (by unfold maxLen; omega) (by omega) (by omega) ?_; intro v5 w5 hown5 hgrow5 _; obtain ⟨a5, c5, hv5⟩ := own_slice hown5; subst hv5; have Q5 := HQB.out.keep (T := fun j => bb ≤ j) (Turn.of_grown hgrow5 (fun g e => (LB.out.lt g e).1)) (by omega); have p3 := Q5.c3; have p1 := Q5.c1; have z3 := Q5.frozen 3; have p1' := (Q5.s3 (.slice a5 (lm + n) c5)).c1; have z1' := (Q5.s3 (.slice a5 (lm + n) c5)).frozen 1; have HQ5 := Lib.hid Q5; have HO5 := Lib.hid hown5; have HG5 := Lib.hid hgrow5; clear Q5 hown5 hgrow5)
  go_end0
  have T5 : Turn (fun j => j = q ∨ base ≤ j) w1 ((w5.setCell ⟨q, 3, none⟩ (.slice a5 (lm + n) c5)).setCell ⟨q, 1, none⟩ (.int .i64 (r - nn))) :=
    ((Turn.of_grown HG5.out (fun g e => .inr (by have := (LB.out.lt g e).1; have := HBB.out; omega))).trans (Turn.setCell (p := ⟨q, 3, none⟩) _ _ (.inl rfl))).trans (Turn.setCell (p := ⟨q, 1, none⟩) _ _ (.inl rfl))
  have TG : Turn (fun j => (Value.slice al lm cq).ownBlock = some j ∨ j = q) w1 ((w5.setCell ⟨q, 3, none⟩ (.slice a5 (lm + n) c5)).setCell ⟨q, 1, none⟩ (.int .i64 (r - nn))) :=
    ((Turn.of_grown HG5.out (fun g e => .inl e)).trans (Turn.setCell (p := ⟨q, 3, none⟩) _ _ (.inr rfl))).trans (Turn.setCell (p := ⟨q, 1, none⟩) _ _ (.inr rfl))
  have TQ : Turn (fun j => j = q) w5 ((w5.setCell ⟨q, 3, none⟩ (.slice a5 (lm + n) c5)).setCell ⟨q, 1, none⟩ (.int .i64 (r - nn))) := (Turn.setCell (T := fun j => j = q) (p := ⟨q, 3, none⟩) _ _ rfl).trans (Turn.setCell (T := fun j => j = q) (p := ⟨q, 1, none⟩) _ _ rfl)
  refine ⟨rfl, ⟨vo, (.slice a5 (lm + n) c5), b', hb1, .inl (Nat.le_trans (by have := HBB.out; omega) T5.size), hqb, (HQ5.out.s3 (.slice a5 (lm + n) c5)).s1 _, O1.out.keep TG (fun j hj => ?_), ?_⟩, TW.out.trans T5⟩
  · obtain ⟨vs, _, h7, _⟩ := O1.out
    rcases hj with hj | hj
    · exact ⟨fun e => rows_ne h7 L1.out (by decide) e hj, .inr (L1.out.lt j hj).1⟩
    · subst hj
      refine ⟨fun e => ?_, .inl hqb⟩
      have := (h7.lt j e).1
      omega
  · have := HO5.out
    rw [HBB.out, ← List.map_append] at this
    have hl2 : (l ++ ys).length = lm + n := by rw [List.length_append, HLM.out, HYL.out]
    rw [hl2]
    exact TQ.kept this (fun g hg e => by have := (this.lt g hg).1; omega)

set_option maxRecDepth 100000 in
set_option maxHeartbeats 8000000 in
theorem put_new (q base : Nat) (W : Int) (o : List (List Int)) (l : List Int) (r : Int) (a : Option Addr) (n c : Nat) (ys : List Int) (w : World) (hbr : BrI w q base W o l r) (hy : Runes w a n c ys) (h0n : 0 < n) (hn : n ≤ 100000) (hyr : R32 ys) (hyn : n ≤ c) (hycm : c ≤ 9223372036854775807) (u nn : Int) (hu : wsum (itms ys) = u) (hnn : (if W < u then W else u) = nn)
    (hb : 0 ≤ r ∧ r ≤ W ∧ W ≤ 1024 ∧ 0 ≤ nn ∧ nn ≤ 1024) (hyq : ∀ b off, a = some ⟨b, off, none⟩ → b ≠ q ∧ b < base) (hbs : base ≤ w.heap.size) (hol : o.length ≤ 1000) (hll : l.length ≤ 100000) (hr : r < nn) :
    Calls Try.prog 83 #[.pointer (some ⟨q, 0, none⟩), .slice a n c] w fun e w' => e = .returned (.tuple #[]) ∧ BrI w' q base W (o ++ [l]) ys (W - nn) ∧ Turn (fun j => j = q ∨ base ≤ j) w w' := by
  obtain ⟨vo, vl, b', hb1, hb2, hqb, hQ, hO, hLn⟩ := hbr
  have hb2 : b' ≤ w.heap.size := by omega
  obtain ⟨al, cq, hvl⟩ := own_slice hLn
  obtain ⟨lm, hlm⟩ : ∃ lm, l.length = lm := ⟨_, rfl⟩
  rw [hlm] at hvl hLn hll
  have HLM := Lib.hid hlm
  clear hlm
  subst hvl
  obtain ⟨hlen, h0 | ⟨yb, yo, rfl, hyb, hyc⟩⟩ := hy.ints
  · omega
  have hyo : ∀ g, base ≤ g → g ≠ yb := fun g hg e => by have := (hyq yb yo rfl).2; omega
  have hyq : yb ≠ q := (hyq yb yo rfl).1
  obtain ⟨i1, hi1, hy0, hy1, hy2⟩ := info_parts info_i32
  obtain ⟨i2, hi2, hx0, hx1, hx2⟩ := info_parts info_sl
  have HC := Lib.hid (cols_any _ n c ys w hy hn)
  rw [hu] at HC
  have hmx : Try.prog.follows .mixedOrders = true := by kernel_rfl
  have HQ := Lib.hid hQ
  have HO := Lib.hid hO
  have HLN := Lib.hid hLn
  have HYC := Lib.hid hyc
  have HYL := Lib.hid hlen
  have hmin : (if W < u then W else u) = nn := hnn
  have hqw : q < w.heap.size := hQ.lt
  clear hQ hO hLn hyc hy hlen hnn
  go_enter Try.func83, Try.ntmps83
  go_wp2
  refine region_begin (fun w' => w'.cell? ⟨q, 0, none⟩ = some (.int .i64 W) ∧ w'.cell? ⟨q, 2, none⟩ = some vo ∧ w'.cell? ⟨q, 3, none⟩ = some (.slice al lm cq)) (fun _ => false) hmx ?_
  have hS : w.drew.cell? ⟨q, 0, none⟩ = some (.int .i64 W) ∧ w.drew.cell? ⟨q, 2, none⟩ = some vo ∧ w.drew.cell? ⟨q, 3, none⟩ = some (.slice al lm cq) := ⟨HQ.out.c0, HQ.out.c2, HQ.out.c3⟩
  refine take_first (i := 0) rfl (by kernel_rfl) (by kernel_rfl) (by kernel_rfl) (by kernel_rfl) (fun _ _ _ h => h) hS (.inl ⟨by rfl, fun w' hw' => by obtain ⟨e0, e2, e3⟩ := hw'; go_simp; try with_reducible rfl⟩) ?_
  refine take_first (i := 2) rfl (by kernel_rfl) (by kernel_rfl) (by kernel_rfl) (by kernel_rfl) (fun _ _ _ h => h) hS (.inl ⟨by rfl, fun w' hw' => by obtain ⟨e0, e2, e3⟩ := hw'; go_simp; try with_reducible rfl⟩) ?_
  refine take_first (i := 3) rfl (by kernel_rfl) (by kernel_rfl) (by kernel_rfl) (by kernel_rfl) (fun _ _ _ h => h) hS (.inl ⟨by rfl, fun w' hw' => by obtain ⟨e0, e2, e3⟩ := hw'; go_simp; try with_reducible rfl⟩) ?_
  refine take_first (i := 4) rfl (by kernel_rfl) (by kernel_rfl) (by kernel_rfl) (by kernel_rfl) (fun _ _ _ h => h) hS (.inl ⟨by rfl, fun w' hw' => by obtain ⟨e0, e2, e3⟩ := hw'; go_simp; try with_reducible rfl⟩) ?_
  refine take_first (i := 5) rfl (by kernel_rfl) (by kernel_rfl) (by kernel_rfl) (by kernel_rfl) (fun _ _ _ h => h) hS (.inl ⟨by rfl, fun w' hw' => by obtain ⟨e0, e2, e3⟩ := hw'; go_simp; try with_reducible rfl⟩) ?_
  refine take_g (i := 1) (by kernel_rfl) rfl rfl fun K hK => ?_
  have HCD := Lib.hid (cols_any (some ⟨yb, yo, none⟩) n c ys w.drew ⟨⟨HYL.out, .inr ⟨yb, yo, rfl, hyb, HYC.out⟩⟩, hyr, hyn, hycm⟩ hn)
  rw [hu] at HCD
  go_wp2_with fail
  refine HCD.out.mono ?_
  rintro e w1 ⟨rfl, hbw⟩
  have hbw : Below w.heap.size w w1 := ((Below.refl _ _).drew).trans hbw
  have Q1 := HQ.out.below hbw hqw
  have hS : w1.cell? ⟨q, 0, none⟩ = some (.int .i64 W) ∧ w1.cell? ⟨q, 2, none⟩ = some vo ∧ w1.cell? ⟨q, 3, none⟩ = some (.slice al lm cq) := ⟨Q1.c0, Q1.c2, Q1.c3⟩
  have O1 := Lib.hid (HO.out.keep (T := fun _ => False) (Turn.of_new hbw) (fun _ h => h.elim))
  have L1 := Lib.hid ((Turn.of_new hbw : Turn (fun _ => False) w w1).kept HLN.out (fun _ _ => id))
  have HYC1 : Hid (∀ (i : Nat) (x : Int), ys[i]? = some x → w1.cell? ⟨yb, yo + i, none⟩ = some (.int .i32 x)) := fun i x hx => (hbw.cell (p := ⟨yb, yo + i, none⟩) hyb).trans (HYC.out i x hx)
  have TW := Lib.hid (Turn.of_new hbw : Turn (fun j => j = q ∨ base ≤ j) w w1)
  have hs1 := hbw.size
  have HQ1 := Lib.hid Q1
  refine hK _ _ (.inr hS) ?_
  clear hK HC HCD hbw HQ HO HLN HYC Q1
  refine take_first (i := 6) rfl (by kernel_rfl) (by kernel_rfl) (by kernel_rfl) (by kernel_rfl) (fun _ _ _ h => h) hS (.inl ⟨by rfl, fun w' hw' => by obtain ⟨e0, e2, e3⟩ := hw'; go_simp; try with_reducible rfl⟩) ?_
  refine take_g (i := 7) (by kernel_rfl) rfl rfl fun K hK => ?_
  go_wp2
  refine hK _ _ (.inr hS) ?_
  clear hK
  refine take_done (by kernel_rfl) ?_ _
  obtain ⟨e0, e2, e3⟩ := hS
  have e1 := HQ1.out.c1
  have d1 : decide (r < nn) = true := by simpa using hr
  have x1 : IntKind.i64.wrap (W - nn) = W - nn := IntWalk.i64_in _ (by omega)
  go_wp2
  refine region_begin (fun w' => w'.cell? ⟨q, 2, none⟩ = some vo ∧ w'.cell? ⟨q, 3, none⟩ = some (.slice al lm cq)) (fun j => j == 13) hmx ?_
  have hS : w1.drew.cell? ⟨q, 2, none⟩ = some vo ∧ w1.drew.cell? ⟨q, 3, none⟩ = some (.slice al lm cq) := ⟨e2, e3⟩
  refine take_first (i := 0) rfl (by kernel_rfl) (by kernel_rfl) (by kernel_rfl) (by kernel_rfl) (fun _ _ _ h => h) hS (.inl ⟨by rfl, fun w' hw' => by obtain ⟨e2, e3⟩ := hw'; go_simp; try with_reducible rfl⟩) ?_
  refine take_first (i := 1) rfl (by kernel_rfl) (by kernel_rfl) (by kernel_rfl) (by kernel_rfl) (fun _ _ _ h => h) hS (.inl ⟨by rfl, fun w' hw' => by obtain ⟨e2, e3⟩ := hw'; go_simp; try with_reducible rfl⟩) ?_
  refine take_first (i := 2) rfl (by kernel_rfl) (by kernel_rfl) (by kernel_rfl) (by kernel_rfl) (fun _ _ _ h => h) hS (.inl ⟨by rfl, fun w' hw' => by obtain ⟨e2, e3⟩ := hw'; go_simp; try with_reducible rfl⟩) ?_
  refine take_first (i := 3) rfl (by kernel_rfl) (by kernel_rfl) (by kernel_rfl) (by kernel_rfl) (fun _ _ _ h => h) hS (.inl ⟨by rfl, fun w' hw' => by obtain ⟨e2, e3⟩ := hw'; go_simp; try with_reducible rfl⟩) ?_
  refine take_first (i := 4) rfl (by kernel_rfl) (by kernel_rfl) (by kernel_rfl) (by kernel_rfl) (fun _ _ _ h => h) hS (.inl ⟨by rfl, fun w' hw' => by obtain ⟨e2, e3⟩ := hw'; go_simp; try with_reducible rfl⟩) ?_
  refine take_first (i := 5) rfl (by kernel_rfl) (by kernel_rfl) (by kernel_rfl) (by kernel_rfl) (fun _ _ _ h => h) hS (.inl ⟨by rfl, fun w' hw' => by obtain ⟨e2, e3⟩ := hw'; go_simp; try with_reducible rfl⟩) ?_
  refine take_first (i := 6) rfl (by kernel_rfl) (by kernel_rfl) (by kernel_rfl) (by kernel_rfl) (fun _ _ _ h => h) hS (.inl ⟨by rfl, fun w' hw' => by obtain ⟨e2, e3⟩ := hw'; go_simp; try with_reducible rfl⟩) ?_
  refine take_first (i := 7) rfl (by kernel_rfl) (by kernel_rfl) (by kernel_rfl) (by kernel_rfl) (fun _ _ _ h => h) hS (.inl ⟨by rfl, fun w' hw' => by obtain ⟨e2, e3⟩ := hw'; go_simp; try with_reducible rfl⟩) ?_
  refine take_first (i := 8) rfl (by kernel_rfl) (by kernel_rfl) (by kernel_rfl) (by kernel_rfl) (fun _ _ _ h => h) hS (.inl ⟨by rfl, fun w' hw' => by obtain ⟨e2, e3⟩ := hw'; go_simp; try with_reducible rfl⟩) ?_
  obtain ⟨vs, v1, v2, v3⟩ := O1.out
  have HV3 := Lib.hid v3
  clear v3
  refine take_g (i := 9) (by kernel_rfl) rfl rfl fun K hK => ?_
  go_wp2
  have c2' : (w1.drew.alloc (.cells #[(.slice al lm cq)] 22)).cell? ⟨q, 2, none⟩ = some vo := by rw [World.cell?_alloc_lt _ _ _ (by show q < w1.heap.size; omega)]; exact e2
  have c3' : (w1.drew.alloc (.cells #[(.slice al lm cq)] 22)).cell? ⟨q, 3, none⟩ = some (.slice al lm cq) := by rw [World.cell?_alloc_lt _ _ _ (by show q < w1.heap.size; omega)]; exact e3
  refine hK _ _ (.inr ⟨c2', c3'⟩) ?_
  clear hK
  have LL1 : w1.ownsRow b' 21 1 (.slice al lm cq) l.length (l.map (Value.int .i32)) := by rw [HLM.out]; exact L1.out
  refine take_g (i := 10) (by kernel_rfl) rfl rfl fun K hK => ?_
  refine wp_append_own _ _ _ 40 rfl base 22 i2 _ 1 24 Try.underlying40 hi2 hx0 hx1 hx2 rfl (by decide) vo o.length vs rfl (v2.drew.alloc _) ⟨w1.heap.size, 0, none⟩ 1 1 [(.slice al lm cq)] rfl rfl (cell_new1 _ _ _) ?_ (by unfold maxLen; omega) (by omega) (by simp; omega) ?_
  · intro v hv
    rw [List.mem_singleton] at hv
    subst hv
    rfl
  intro v5 w5 hown5 hgrow5 _
  obtain ⟨a5, c5, hv5⟩ := own_slice hown5
  subst hv5
  have TA : Turn (fun _ => False) w1 (w1.drew.alloc (.cells #[(.slice al lm cq)] 22)) := (Turn.drew _ _).trans (Turn.alloc _ _ _)
  have v2a := TA.kept v2 (fun _ _ => id)
  have hgb : ∀ g, vo.ownBlock = some g → base ≤ g := fun g e => (v2.lt g e).1
  have TG : Turn (fun j => vo.ownBlock = some j) (w1.drew.alloc (.cells #[(.slice al lm cq)] 22)) w5 := Turn.of_grown hgrow5 (fun _ e => e)
  have TW5 := Lib.hid (TW.out.trans ((TA.mono (fun _ _ h => h.elim)).trans (TG.mono (fun j _ e => .inr (hgb j e)))))
  have Q5 := (HQ1.out.keep TA id).keep TG (fun e => by have := hgb q e; omega)
  have O5 : Outs w5 base w5.heap.size (.slice a5 (o.length + 1) c5) (o ++ [l]) := Outs.push v1 v2a (fun i xs hx => by
    obtain ⟨a, n, c, e1, e2, e3⟩ := HV3.out i xs hx
    exact ⟨a, n, c, e1, TA.kept e2 (fun _ _ => id), e3⟩) (TA.kept LL1 (fun _ _ => id)) hb1 hown5 hgrow5
  have hs5 : w1.heap.size ≤ w5.heap.size := Nat.le_trans TA.size TG.size
  have HYC5 : Hid (∀ (i : Nat) (x : Int), ys[i]? = some x → w5.cell? ⟨yb, yo + i, none⟩ = some (.int .i32 x)) := fun i x hx => TG.cell (TA.cell (HYC1.out i x hx) id) (fun e => hyo yb (hgb yb e) rfl)
  have k2 := Q5.c2
  have k3 := Q5.c3
  have z2 := Q5.frozen 2
  refine hK _ _ (.inr ⟨k2, k3⟩) ?_
  clear hK c2' c3' hown5 hgrow5 TG TA v2a v1 v2 HYC1 e0 e1 e2 e3 O1 HV3
  refine take_g (i := 11) (by kernel_rfl) rfl rfl fun K hK => ?_
  go_wp2
  refine hK _ _ (.inr ⟨k2, k3⟩) ?_
  clear hK
  refine take_g (i := 12) (by kernel_rfl) rfl rfl fun K hK => ?_
  go_wp2
  refine hK _ _ (.inr ⟨k2, k3⟩) ?_
  clear hK
  refine take_g (i := 13) (by kernel_rfl) rfl rfl fun K hK => ?_
  go_wp2
  refine hK _ _ (.inl rfl) ?_
  clear hK
  refine take_done (by kernel_rfl) ?_ _
  have Q6 := Q5.s2 (.slice a5 (o.length + 1) c5)
  have T6 : Turn (fun j => j = q) w5 (w5.setCell ⟨q, 2, none⟩ (.slice a5 (o.length + 1) c5)) := Turn.setCell (p := ⟨q, 2, none⟩) _ _ rfl
  have hvb : ∀ g, (Value.slice a5 (o.length + 1) c5).ownBlock = some g → base ≤ g := fun g e => by obtain ⟨vs, _, h, _⟩ := O5; exact (h.lt g e).1
  have O6 := Lib.hid (O5.keep T6 (fun j hj => by subst hj; exact ⟨fun e => by have := hvb _ e; omega, .inl hqb⟩))
  have TW6 := Lib.hid (TW5.out.trans (T6.mono (fun j _ e => .inl e)))
  have HYC6 : Hid (∀ (i : Nat) (x : Int), ys[i]? = some x → (w5.setCell ⟨q, 2, none⟩ (.slice a5 (o.length + 1) c5)).cell? ⟨yb, yo + i, none⟩ = some (.int .i32 x)) := fun i x hx => T6.cell (HYC5.out i x hx) (fun e => hyq e)
  have hs6 := T6.size
  have hs56 : (w5.setCell ⟨q, 2, none⟩ (.slice a5 (o.length + 1) c5)).heap.size = w5.heap.size := by simp [World.setCell]
  rw [← hs56] at O6
  clear k2 k3 z2 O5 T6 TW5 HYC5 Q5 TW
  generalize (w5.setCell ⟨q, 2, none⟩ (.slice a5 (o.length + 1) c5)) = w6 at *
  -- the line is begun anew
  have k0 := Q6.c0
  have k3 := Q6.c3
  have z3 := Q6.frozen 3
  have z1 := Q6.frozen 1
  have Q7 := (Q6.s3 (.slice none 0 0)).s1 W
  have m0 := (Q6.s3 (.slice none 0 0)).c0
  have mz1 := (Q6.s3 (.slice none 0 0)).frozen 1
  have m3 := (Q6.s3 (.slice none 0 0)).c3
  have m1 := (Q6.s3 (.slice none 0 0)).c1
  have n3 := Q7.c3
  have n1 := Q7.c1
  have n0 := Q7.c0
  have T7 : Turn (fun j => j = q) w6 ((w6.setCell ⟨q, 3, none⟩ (.slice none 0 0)).setCell ⟨q, 1, none⟩ (.int .i64 W)) := (Turn.setCell (T := fun j => j = q) (p := ⟨q, 3, none⟩) _ _ rfl).trans (Turn.setCell (T := fun j => j = q) (p := ⟨q, 1, none⟩) _ _ rfl)
  obtain ⟨bb, hbb⟩ : ∃ bb, bb = w6.heap.size := ⟨_, rfl⟩
  have hqbb : q < bb := by omega
  have hs7 : bb ≤ ((w6.setCell ⟨q, 3, none⟩ (.slice none 0 0)).setCell ⟨q, 1, none⟩ (.int .i64 W)).heap.size := by rw [hbb]; exact T7.size
  have LB : Hid (((w6.setCell ⟨q, 3, none⟩ (.slice none 0 0)).setCell ⟨q, 1, none⟩ (.int .i64 W)).ownsRow bb 21 1 (.slice none 0 0) 0 []) := World.ownsRow_nil _ _ _ _
  have HQB := Lib.hid Q7
  have HCELL : Hid (∀ j v, (ys.map (Value.int .i32))[j]? = some v → ((w6.setCell ⟨q, 3, none⟩ (.slice none 0 0)).setCell ⟨q, 1, none⟩ (.int .i64 W)).cell? ((⟨yb, yo, none⟩ : Addr).add j) = some v) := by
    refine Lib.hid fun j v hj => ?_
    rw [List.getElem?_map, Option.map_eq_some_iff] at hj
    obtain ⟨x, hx, rfl⟩ := hj
    rw [add_none]; exact T7.cell (HYC6.out j x hx) (fun e => hyq e)
  have HBB := Lib.hid hbb
  have HT7 := Lib.hid T7
  clear hbb T7 HYC6 Q6 Q7
  go_upto_region 4 with (fail)
  generalize ((w6.setCell ⟨q, 3, none⟩ (.slice none 0 0)).setCell ⟨q, 1, none⟩ (.int .i64 W)) = w7 at *
  go_wp2_with (at_builtin; refine wpList_append_own _ rfl _ _ 22 rfl bb 21 i1 _ 1 4 Try.underlying22 hi1 hy0 hy1 hy2 rfl (by decide) _ 0 _ rfl LB.out ⟨yb, yo, none⟩ n c (ys.map (Value.int .i32)) rfl (by rw [List.length_map, HYL.out]; omega) (HCELL.out) (one_cells _ _) (by unfold maxLen; omega) (by omega) (by omega) ?_; intro v5q w5q hown5 hgrow5 _; rw [Nat.zero_add] at hown5; obtain ⟨a6, c6, hv5⟩ := own_slice hown5; subst hv5; have Q5 := HQB.out.keep (T := fun j => bb ≤ j) (Turn.of_grown hgrow5 (fun g e => (LB.out.lt g e).1)) (by omega); have p3 := Q5.c3; have p1 := Q5.c1; have z3 := Q5.frozen 3; have p1' := (Q5.s3 (.slice a6 n c6)).c1; have z1' := (Q5.s3 (.slice a6 n c6)).frozen 1; have HQ5 := Lib.hid Q5; have HO5 := Lib.hid hown5; have HG5 := Lib.hid hgrow5; clear Q5 hown5 hgrow5)
  go_end0
  have TQ : Turn (fun j => j = q) w5q ((w5q.setCell ⟨q, 3, none⟩ (.slice a6 n c6)).setCell ⟨q, 1, none⟩ (.int .i64 (W - nn))) := (Turn.setCell (T := fun j => j = q) (p := ⟨q, 3, none⟩) _ _ rfl).trans (Turn.setCell (T := fun j => j = q) (p := ⟨q, 1, none⟩) _ _ rfl)
  have T8 : Turn (fun j => j = q ∨ bb ≤ j) w6 ((w5q.setCell ⟨q, 3, none⟩ (.slice a6 n c6)).setCell ⟨q, 1, none⟩ (.int .i64 (W - nn))) :=
    (HT7.out.mono (fun j _ e => .inl e)).trans ((Turn.of_grown HG5.out (fun g e => by cases e)).trans (TQ.mono (fun j _ e => .inl e)))
  refine ⟨rfl, ⟨(.slice a5 (o.length + 1) c5), (.slice a6 n c6), bb, by rw [HBB.out]; omega, .inl (Nat.le_trans (by rw [HBB.out]; exact Nat.le_refl _) T8.size), hqb, (HQ5.out.s3 (.slice a6 n c6)).s1 _, ?_, ?_⟩, TW6.out.trans (T8.mono (fun j _ h => h.imp id (fun h => by have := HBB.out; omega)))⟩
  · rw [HBB.out]
    exact O6.out.keep T8 (fun j hj => by
      rcases hj with hj | hj
      · subst hj; exact ⟨fun e => by have := hvb _ e; omega, .inl hqb⟩
      · refine ⟨fun e => ?_, .inr (by rw [← HBB.out]; exact hj)⟩
        obtain ⟨vs, _, h, _⟩ := O6.out
        have := (h.lt j e).2
        have := HBB.out
        omega)
  · have := HO5.out
    rw [List.nil_append] at this
    rw [HYL.out]
    have e := TQ.kept this (fun g hg e => by have := (this.lt g hg).1; omega)
    exact e

end Go.Proofs.Ytihanlahegngoaa.Fit

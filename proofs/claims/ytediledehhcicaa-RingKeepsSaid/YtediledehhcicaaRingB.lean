/-
  The ring in memory; New, Len, Gone, lose.
-/
import Derived.Test.YtediledehhcicaaRingC
import Derived.Test.YtediledehhcicaaRingL
import Derived.StillTailTactics
namespace Go.Proofs.Ytediledehhcicaa.Ring
set_option linter.unusedSimpArgs false
set_option linter.unusedVariables false
open Go Go.RowKit Mem Turn

/-- the ring at block qr, its lists' blocks from lo on: a wheel of the lines P (their rows R), read from place f on -/
def Wheel (w : World) (qr lo most f gone : Nat) (v : Value) (R : List (Value × Bool)) (P : List LineC) : Prop :=
  w.heap[qr]? = some (.cells #[.int .i64 (most : Int), .int .i64 (f : Int), v, .int .i64 (gone : Int)] 46 (0, 0)) ∧ w.ownsRow lo 28 2 v P.length (flatL R) ∧ CellsOf (fun b => lo ≤ b ∧ v.ownBlock ≠ some b) True w R P ∧ qr < lo ∧ lo ≤ w.heap.size
/-- what is in the ring -/
def RingIs (w : World) (qr lo most gone : Nat) (ls : List LineC) : Prop :=
  ∃ f v R P, Wheel w qr lo most f gone v R P ∧ Lg P f ls ∧ P.length ≤ most ∧ f < most ∧ (P.length < most → f = 0) ∧ 1 ≤ most ∧ most ≤ 65536 ∧ gone ≤ 1073741824

theorem CellsOf.turn {D : Nat → Prop} {fz : Prop} {w w' : World} {T : Nat → Prop} {R : List (Value × Bool)} {P : List LineC} (h : CellsOf D fz w R P) (ht : Turn T w w') (hD : ∀ b, D b → b < w.heap.size → ¬ T b) : CellsOf D fz w' R P :=
  ⟨h.1, fun j r x hr hx => ⟨(h.2 j r x hr hx).1, (h.2 j r x hr hx).2.turn ht hD⟩⟩
theorem CellsOf.mono {D D' : Nat → Prop} {fz : Prop} {w : World} {R : List (Value × Bool)} {P : List LineC} (h : CellsOf D fz w R P) (hD : ∀ b, D b → b < w.heap.size → D' b) : CellsOf D' fz w R P :=
  ⟨h.1, fun j r x hr hx => ⟨(h.2 j r x hr hx).1, (h.2 j r x hr hx).2.mono hD⟩⟩
theorem CellsOf.nil (D : Nat → Prop) (fz : Prop) (w : World) : CellsOf D fz w [] [] := ⟨rfl, fun j r x h => by cases h⟩
theorem Wheel.turn {w w' : World} {qr lo most f gone : Nat} {v : Value} {R : List (Value × Bool)} {P : List LineC} {T : Nat → Prop} (h : Wheel w qr lo most f gone v R P) (ht : Turn T w w') (h1 : ¬ T qr) (h2 : ∀ b, lo ≤ b → b < w.heap.size → ¬ T b) : Wheel w' qr lo most f gone v R P := by
  obtain ⟨e1, e2, e3, e4, e5⟩ := h
  exact ⟨ht.heap e1 h1, ht.kept e2 (fun g hg => h2 g (e2.lt g hg).1 (e2.lt g hg).2), e3.turn ht (fun b hb hlt => h2 b hb.1 hlt), e4, Nat.le_trans e5 ht.size⟩
theorem RingIs.turn {w w' : World} {qr lo most gone : Nat} {ls : List LineC} {T : Nat → Prop} (h : RingIs w qr lo most gone ls) (ht : Turn T w w') (h1 : ¬ T qr) (h2 : ∀ b, lo ≤ b → b < w.heap.size → ¬ T b) : RingIs w' qr lo most gone ls := by
  obtain ⟨f, v, R, P, hw, r⟩ := h
  exact ⟨f, v, R, P, hw.turn ht h1 h2, r⟩
theorem RingIs.below {w w' : World} {qr lo most gone : Nat} {ls : List LineC} (h : RingIs w qr lo most gone ls) (hb : Below w.heap.size w w') : RingIs w' qr lo most gone ls := h.turn (Turn.of_new hb : Turn (fun _ => False) w w') id (fun _ _ _ => id)
/-- an empty ring's lists may begin later -/
theorem Wheel.raise {w : World} {qr lo lo' most f gone : Nat} {v : Value} {R : List (Value × Bool)} {P : List LineC} (h : Wheel w qr lo most f gone v R P) (hv : v = .slice none 0 0) (hP : P = []) (h1 : qr < lo') (h2 : lo' ≤ w.heap.size) : Wheel w qr lo' most f gone v R P := by
  obtain ⟨e1, e2, e3, e4, e5⟩ := h
  subst hv hP
  have hR : R = [] := List.eq_nil_of_length_eq_zero (by rw [e3.1]; rfl)
  subst hR
  exact ⟨e1, World.ownsRow_nil _ _ _ _, CellsOf.nil _ _ _, h1, h2⟩

theorem len_nil (w : World) : Calls Try.prog 11 #[.pointer none] w fun e w' => e = .returned (.int .i64 0) ∧ w = w' := by
  go_enter Try.func11, Try.ntmps11
  go_wp2
  go_ret
  exact ⟨rfl, rfl⟩
theorem gone_nil (w : World) : Calls Try.prog 12 #[.pointer none] w fun e w' => e = .returned (.int .i64 0) ∧ w = w' := by
  go_enter Try.func12, Try.ntmps12
  go_wp2
  go_ret
  exact ⟨rfl, rfl⟩

theorem Wheel.c0 {w : World} {qr lo most f gone : Nat} {v : Value} {R : List (Value × Bool)} {P : List LineC} (h : Wheel w qr lo most f gone v R P) : w.cell? ⟨qr, 0, none⟩ = some (.int .i64 (most : Int)) ∧ w.cell? ⟨qr, 1, none⟩ = some (.int .i64 (f : Int)) ∧ w.cell? ⟨qr, 2, none⟩ = some v ∧ w.cell? ⟨qr, 3, none⟩ = some (.int .i64 (gone : Int)) ∧ ∀ j, w.frozen? ⟨qr, j, none⟩ = false := by
  have h' := h.1
  exact ⟨by simp [World.cell?, h'], by simp [World.cell?, h'], by simp [World.cell?, h'], by simp [World.cell?, h'], fun j => by simp [World.frozen?, h']⟩

theorem len_any (qr lo most gone : Nat) (ls : List LineC) (w : World) (h : RingIs w qr lo most gone ls) : Calls Try.prog 11 #[.pointer (some ⟨qr, 0, none⟩)] w fun e w' => e = .returned (.int .i64 (ls.length : Int)) ∧ w = w' := by
  obtain ⟨f, v, R, P, hw, hl, _⟩ := h
  obtain ⟨_, _, c2, _, _⟩ := hw.c0
  obtain ⟨a, c, rfl⟩ := Turn.own_slice hw.2.1
  rw [hl.1]
  generalize P.length = n at *
  clear hw hl
  go_enter Try.func11, Try.ntmps11
  go_wp2
  go_ret
  exact ⟨rfl, rfl⟩
theorem gone_any (qr lo most gone : Nat) (ls : List LineC) (w : World) (h : RingIs w qr lo most gone ls) : Calls Try.prog 12 #[.pointer (some ⟨qr, 0, none⟩)] w fun e w' => e = .returned (.int .i64 (gone : Int)) ∧ w = w' := by
  obtain ⟨f, v, R, P, hw, hl, _⟩ := h
  obtain ⟨_, _, _, c3, _⟩ := hw.c0
  clear hw hl
  go_enter Try.func12, Try.ntmps12
  go_wp2
  go_ret
  exact ⟨rfl, rfl⟩

theorem heap_set4 {w : World} {q : Nat} {t : TypeId} {x0 x1 x2 x3 : Value} (h : w.heap[q]? = some (.cells #[x0, x1, x2, x3] t (0, 0))) (v : Value) :
    (w.setCell ⟨q, 3, none⟩ v).heap[q]? = some (.cells #[x0, x1, x2, v] t (0, 0)) ∧ (w.setCell ⟨q, 2, none⟩ v).heap[q]? = some (.cells #[x0, x1, v, x3] t (0, 0)) ∧ (w.setCell ⟨q, 1, none⟩ v).heap[q]? = some (.cells #[x0, v, x2, x3] t (0, 0)) := by
  refine ⟨?_, ?_, ?_⟩ <;>
  · simp only [World.setCell, Array.getElem?_modify]
    rw [if_pos trivial, h]
    simp

theorem lose_any (qr lo most f gone k : Nat) (v : Value) (R : List (Value × Bool)) (P : List LineC) (w : World) (h : Wheel w qr lo most f gone v R P) (hg : gone ≤ 1073741824) (hk : k ≤ 1073741824) :
    Calls Try.prog 16 #[.pointer (some ⟨qr, 0, none⟩), .int .i64 (k : Int)] w fun e w' => e = .returned (.tuple #[]) ∧ Wheel w' qr lo most f (min (gone + k) 1073741824) v R P ∧ Turn (fun j => j = qr) w w' := by
  obtain ⟨_, _, _, c3, hf⟩ := h.c0
  have f3 := hf 3
  have HX : Hid (∀ (u : Nat) (z : Int), z = (u : Int) → Wheel (w.setCell ⟨qr, 3, none⟩ (.int .i64 z)) qr lo most f u v R P ∧ Turn (fun j => j = qr) w (w.setCell ⟨qr, 3, none⟩ (.int .i64 z))) := Lib.hid fun u z hz => by
    subst hz
    have T : Turn (fun j => j = qr) w (w.setCell ⟨qr, 3, none⟩ (.int .i64 ((u : Nat) : Int))) := Turn.setCell _ _ rfl
    obtain ⟨e1, e2, e3, e4, e5⟩ := h
    exact ⟨⟨(heap_set4 e1 _).1, T.kept e2 (fun g hg e => by have := (e2.lt g hg).1; omega), e3.turn T (fun b hb _ e => by have := hb.1; omega), e4, Nat.le_trans e5 T.size⟩, T⟩
  clear hf h
  by_cases hm : gone + k ≤ 1073741824
  · have e : min (gone + k) 1073741824 = gone + k := by omega
    rw [e]
    have HX2 := Lib.hid (HX.out (gone + k) ((gone : Int) + (k : Int)) (by omega))
    clear e
    go_enter Try.func16, Try.ntmps16
    go_wp2
    go_end0
    exact ⟨rfl, HX2.out.1, HX2.out.2⟩
  · have e : min (gone + k) 1073741824 = 1073741824 := by omega
    rw [e]
    have HX2 := Lib.hid (HX.out 1073741824 1073741824 rfl)
    have hm2 : (1073741824 : Int) < (gone : Int) + (k : Int) := by omega
    clear e
    go_enter Try.func16, Try.ntmps16
    go_wp2
    go_end0
    exact ⟨rfl, HX2.out.1, HX2.out.2⟩

theorem info_ring : (Try.prog.info? 46).map (fun i => (i.zero, i.size)) = some (some (.agg #[.int .i64 0, .int .i64 0, .slice none 0 0, .int .i64 0]), 4) := by kernel_rfl

/-- a new ring, at the next block -/
theorem new_any (most : Int) (M : Nat) (hM : (M : Int) = max 1 (min most 65536)) (w : World) (h1 : -9223372036854775808 ≤ most) (h2 : most ≤ 9223372036854775807) :
    Calls Try.prog 6 #[.int .i64 most] w fun e w' => e = .returned (.pointer (some ⟨w.heap.size, 0, none⟩)) ∧ Wheel w' w.heap.size (w.heap.size + 1) M 0 0 (.slice none 0 0) [] [] ∧ Below w.heap.size w w' ∧ w'.heap.size = w.heap.size + 1 := by
  have HX : Hid (∀ z : Int, z = (M : Int) → Wheel (w.alloc (.cells #[.int .i64 z, .int .i64 0, .slice none 0 0, .int .i64 0] 46)) w.heap.size (w.heap.size + 1) M 0 0 (.slice none 0 0) [] [] ∧
      Below w.heap.size w (w.alloc (.cells #[.int .i64 z, .int .i64 0, .slice none 0 0, .int .i64 0] 46)) ∧ (w.alloc (.cells #[.int .i64 z, .int .i64 0, .slice none 0 0, .int .i64 0] 46)).heap.size = w.heap.size + 1) := Lib.hid fun z hz => by
    subst hz
    exact ⟨⟨heap_alloc_new w _, World.ownsRow_nil _ _ _ _, CellsOf.nil _ _ _, by omega, by simp⟩, (Below.refl _ _).alloc (Nat.le_refl _) _, by simp⟩
  have HM := Lib.hid hM
  clear hM
  go_enter Try.func6, Try.ntmps6
  go_wp2
  all_goals
    go_ret
    exact ⟨rfl, HX.out _ (by have := HM.out; omega)⟩

set_option maxRecDepth 100000 in
set_option maxHeartbeats 4000000 in
theorem at_row (qr lo most f gone i p : Nat) (v : Value) (R : List (Value × Bool)) (P : List LineC) (r : Value × Bool) (x : LineC) (w : World) (h : Wheel w qr lo most f gone v R P) (hi : i < P.length) (hf : f ≤ 100000) (hP : P.length ≤ 100000) (hp : p = (f + i) % P.length) (hr : R[p]? = some r) (hx : P[p]? = some x) :
    Calls Try.prog 18 #[.pointer (some ⟨qr, 0, none⟩), .int .i64 (i : Int)] w fun e w' => e = .returned (.agg #[r.1, .bool r.2]) ∧ Below w.heap.size w w' := by
  obtain ⟨_, c1, c2, _, _⟩ := h.c0
  obtain ⟨a, c, rfl, hnc, hform⟩ := own_form h.2.1
  obtain ⟨g, rfl, _, _, _, _, hcell⟩ := hform.resolve_left (by omega)
  obtain ⟨g1, g2⟩ := flatL_get hr
  have q1 := hcell _ _ g1
  have q2 := hcell _ _ g2
  have hca := (h.2.2.1.2 p r x hr hx).2
  obtain ⟨hv, b⟩ := r
  obtain ⟨ha, hc, rfl, _⟩ := hca
  simp only at q1 q2
  generalize x.1.length = hn at *
  have T1 : Turn (fun _ => False) w (w.alloc (.cells #[.slice none 0 0, .bool false] 28)) := Turn.alloc _ _ _
  have c1 := T1.cell c1 id
  have c2 := T1.cell c2 id
  have q1 := T1.cell q1 id
  have q2 := T1.cell q2 id
  have HN : Hid ((w.alloc (.cells #[.slice none 0 0, .bool false] 28)).heap[w.heap.size]? = some (.cells #[.slice none 0 0, .bool false] 28 (0, 0))) := Lib.hid (heap_alloc_new w _)
  have HB : Hid (Below w.heap.size w (w.alloc (.cells #[.slice none 0 0, .bool false] 28))) := Lib.hid ((Below.refl _ _).alloc (Nat.le_refl _) _)
  generalize hn1 : P.length = n at *
  have u1 : IntKind.i64.wrap ((f : Int) + (i : Int)) = (f : Int) + (i : Int) := IntWalk.i64_in _ (by omega)
  have t1 : ((f : Int) + (i : Int)).tmod (n : Int) = (p : Int) := by rw [Int.tmod_eq_emod_of_nonneg (by omega), hp]; push_cast; rfl
  have t2 : ((f : Int) + (i : Int)) % (n : Int) = (p : Int) := by rw [hp]; push_cast; rfl
  have hpn : p < n := by rw [hp]; exact Nat.mod_lt _ (by omega)
  have b1 : (p : Int) < (n : Int) := by omega
  have b0 : (0 : Int) ≤ (p : Int) := by omega
  have nz : ((n : Int) == 0) = false := by simp; omega
  have nz1 : (1 : Int) ≤ (n : Int) := by omega
  have hnz : ¬ n = 0 := by omega
  have hmx : Try.prog.follows .mixedOrders = true := by kernel_rfl
  clear h hcell hr hx g1 g2 T1 hp hn1
  go_enter Try.func18, Try.ntmps18
  go_wp2
  generalize (w.alloc (.cells #[.slice none 0 0, .bool false] 28)) = w1 at *
  refine region_begin3 (fun w' => w'.cell? ⟨qr, 1, none⟩ = some (.int .i64 (f : Int)) ∧ w'.cell? ⟨qr, 2, none⟩ = some (.slice (some ⟨g, 0, none⟩) n c) ∧ w'.cell? ⟨g, p * 2, none⟩ = some (.slice ha hn hc) ∧ w'.cell? ⟨g, p * 2 + 1, none⟩ = some (.bool b)) (fun j => j == 18) 19 rfl hmx (by intro _ _ d _ _ h; cases d <;> exact h) fun hQP => ?_
  have hS : w1.drew.cell? ⟨qr, 1, none⟩ = some (.int .i64 (f : Int)) ∧ w1.drew.cell? ⟨qr, 2, none⟩ = some (.slice (some ⟨g, 0, none⟩) n c) ∧ w1.drew.cell? ⟨g, p * 2, none⟩ = some (.slice ha hn hc) ∧ w1.drew.cell? ⟨g, p * 2 + 1, none⟩ = some (.bool b) := ⟨c1, c2, q1, q2⟩
  refine take_first2 0 (some 5) rfl rfl (by kernel_rfl) (by kernel_rfl) (by kernel_rfl) (by kernel_rfl) hQP hS (.inl ⟨by rfl, fun w' hw' => by obtain ⟨e0, e1, e2, e3⟩ := hw'; go_simp; try with_reducible rfl⟩) ?_
  refine take_first2 1 (some 6) rfl rfl (by kernel_rfl) (by kernel_rfl) (by kernel_rfl) (by kernel_rfl) hQP hS (.inl ⟨by rfl, fun w' hw' => by obtain ⟨e0, e1, e2, e3⟩ := hw'; go_simp; try with_reducible rfl⟩) ?_
  refine take_first2 2 (some 7) rfl rfl (by kernel_rfl) (by kernel_rfl) (by kernel_rfl) (by kernel_rfl) hQP hS (.inl ⟨by rfl, fun w' hw' => by obtain ⟨e0, e1, e2, e3⟩ := hw'; go_simp; try with_reducible rfl⟩) ?_
  refine take_first2 3 (some 8) rfl rfl (by kernel_rfl) (by kernel_rfl) (by kernel_rfl) (by kernel_rfl) hQP hS (.inl ⟨by rfl, fun w' hw' => by obtain ⟨e0, e1, e2, e3⟩ := hw'; go_simp; try with_reducible rfl⟩) ?_
  refine take_first2 4 (some 9) rfl rfl (by kernel_rfl) (by kernel_rfl) (by kernel_rfl) (by kernel_rfl) hQP hS (.inl ⟨by rfl, fun w' hw' => by obtain ⟨e0, e1, e2, e3⟩ := hw'; go_simp; try with_reducible rfl⟩) ?_
  refine take_first2 5 (some 10) rfl rfl (by kernel_rfl) (by kernel_rfl) (by kernel_rfl) (by kernel_rfl) hQP hS (.inl ⟨by rfl, fun w' hw' => by obtain ⟨e0, e1, e2, e3⟩ := hw'; go_simp; try with_reducible rfl⟩) ?_
  refine take_first2 6 (some 11) rfl rfl (by kernel_rfl) (by kernel_rfl) (by kernel_rfl) (by kernel_rfl) hQP hS (.inl ⟨by rfl, fun w' hw' => by obtain ⟨e0, e1, e2, e3⟩ := hw'; go_simp; try with_reducible rfl⟩) ?_
  refine take_first2 7 (some 12) rfl rfl (by kernel_rfl) (by kernel_rfl) (by kernel_rfl) (by kernel_rfl) hQP hS (.inl ⟨by rfl, fun w' hw' => by obtain ⟨e0, e1, e2, e3⟩ := hw'; go_simp; try with_reducible rfl⟩) ?_
  refine take_first2 8 (some 13) rfl rfl (by kernel_rfl) (by kernel_rfl) (by kernel_rfl) (by kernel_rfl) hQP hS (.inl ⟨by rfl, fun w' hw' => by obtain ⟨e0, e1, e2, e3⟩ := hw'; go_simp; try with_reducible rfl⟩) ?_
  refine take_first2 9 (some 14) rfl rfl (by kernel_rfl) (by kernel_rfl) (by kernel_rfl) (by kernel_rfl) hQP hS (.inl ⟨by rfl, fun w' hw' => by obtain ⟨e0, e1, e2, e3⟩ := hw'; go_simp; try with_reducible rfl⟩) ?_
  refine take_first2 10 (some 15) rfl rfl (by kernel_rfl) (by kernel_rfl) (by kernel_rfl) (by kernel_rfl) hQP hS (.inl ⟨by rfl, fun w' hw' => by obtain ⟨e0, e1, e2, e3⟩ := hw'; go_simp; try with_reducible rfl⟩) ?_
  refine take_first2 11 (some 16) rfl rfl (by kernel_rfl) (by kernel_rfl) (by kernel_rfl) (by kernel_rfl) hQP hS (.inl ⟨by rfl, fun w' hw' => by obtain ⟨e0, e1, e2, e3⟩ := hw'; go_simp; try with_reducible rfl⟩) ?_
  refine take_first2 12 (some 17) rfl rfl (by kernel_rfl) (by kernel_rfl) (by kernel_rfl) (by kernel_rfl) hQP hS (.inl ⟨by rfl, fun w' hw' => by obtain ⟨e0, e1, e2, e3⟩ := hw'; go_simp; try with_reducible rfl⟩) ?_
  refine take_first2 13 (some 18) rfl rfl (by kernel_rfl) (by kernel_rfl) (by kernel_rfl) (by kernel_rfl) hQP hS (.inl ⟨by rfl, fun w' hw' => by obtain ⟨e0, e1, e2, e3⟩ := hw'; go_simp; try with_reducible rfl⟩) ?_
  refine take_first2 14 (some 19) rfl rfl (by kernel_rfl) (by kernel_rfl) (by kernel_rfl) (by kernel_rfl) hQP hS (.inl ⟨by rfl, fun w' hw' => by obtain ⟨e0, e1, e2, e3⟩ := hw'; go_simp; try with_reducible rfl⟩) ?_
  refine take_first2 15 (some 20) rfl rfl (by kernel_rfl) (by kernel_rfl) (by kernel_rfl) (by kernel_rfl) hQP hS (.inl ⟨by rfl, fun w' hw' => by obtain ⟨e0, e1, e2, e3⟩ := hw'; go_simp; try with_reducible rfl⟩) ?_
  refine take_first2 16 (some 21) rfl rfl (by kernel_rfl) (by kernel_rfl) (by kernel_rfl) (by kernel_rfl) hQP hS (.inl ⟨by rfl, fun w' hw' => by obtain ⟨e0, e1, e2, e3⟩ := hw'; go_simp; try with_reducible rfl⟩) ?_
  refine take_first2 17 (some 22) rfl rfl (by kernel_rfl) (by kernel_rfl) (by kernel_rfl) (by kernel_rfl) hQP hS (.inl ⟨by rfl, fun w' hw' => by obtain ⟨e0, e1, e2, e3⟩ := hw'; go_simp; try with_reducible rfl⟩) ?_
  refine take_store_row 18 (by kernel_rfl) rfl rfl rfl 28 (.tmp 4) (.tmp 22) rfl w.heap.size #[.slice ha hn hc, .bool b] ?ev4 (eval_put_eq (by (repeat rw [size_put]); exact of_decide_eq_true rfl)) _ _ HN.out (size_line _ _) rfl (one_line _ _ _ _) (.inl rfl) ?_
  case ev4 =>
    repeat (refine (eval_put_ne (by decide)).trans ?_)
    rfl
  refine take_done (by kernel_rfl) ?_ _
  clear hS
  generalize hA : Act.put _ _ _ = A
  have hA4 : A.tmps.getD 4 undef = .pointer (some ⟨w.heap.size, 0, none⟩) := by
    show A.eval (.tmp 4) = _
    rw [← hA]
    repeat (refine (eval_put_ne (by decide)).trans ?_)
    rfl
  have hAd : A.defers = [] := by
    rw [← hA]
    repeat rw [defers_put]
  clear hA
  go_wp2_with fail
  have HN2 : w1.drew.heap[w.heap.size]? = some (.cells #[.slice none 0 0, .bool false] 28 (0, 0)) := HN.out
  refine bodyPost_ret (results_cell_row rfl _ _ w.heap.size _ _ (0, 0) _ hA4 (setRow_heap _ w.heap.size _ _ _ (0, 0) HN2) Try.underlying28 rfl (size_line _ _)) hAd ?_
  have T : Turn (fun j => j = w.heap.size) w1.drew (w1.drew.setRow w.heap.size #[.slice ha hn hc, .bool b]) := turn_setRow _ _ _
  exact ⟨rfl, (HB.out.trans ((Below.refl _ _).drew)).trans (T.below HB.out.size (fun k e => by omega))⟩
end Go.Proofs.Ytediledehhcicaa.Ring

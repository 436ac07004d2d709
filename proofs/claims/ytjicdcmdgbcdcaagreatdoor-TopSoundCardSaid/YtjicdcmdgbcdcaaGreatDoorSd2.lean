/-
  One word for what a step has turned: 'Turn T A B': of what lay in A only blocks k with T k may have turned. And a range over a function whose iterator keeps a block of cells of its own.
  Two lists of numbers compared: linotyperef01.Same.
-/
import Derived.Test.YtjicdcmdgbcdcaaGreatDoorSd1
import Derived.RangeFuncBox
import Derived.RangeFuncCalls
import Derived.RangeFuncLeaves
import Derived.Deep.QuietTactic
import Derived.BigQuiet
section
namespace Go.Proofs.YtjicdcmdgbcdcaaGreatDoor.Turn
set_option linter.unusedSimpArgs false
set_option linter.unusedVariables false
open Go Go.RowKit

structure Turn (T : Nat → Prop) (A B : World) : Prop where
  os : B.os = A.os
  tape : B.tape = A.tape
  output : B.output = A.output
  size : A.heap.size ≤ B.heap.size
  block : ∀ k, k < A.heap.size → ¬ T k → B.heap[k]? = A.heap[k]?

section
variable {T T' : Nat → Prop} {A B C : World}
theorem Turn.refl (T : Nat → Prop) (A : World) : Turn T A A := ⟨rfl, rfl, rfl, Nat.le_refl _, fun _ _ _ => rfl⟩
theorem Turn.trans (h : Turn T A B) (k : Turn T B C) : Turn T A C :=
  ⟨k.os.trans h.os, k.tape.trans h.tape, k.output.trans h.output, Nat.le_trans h.size k.size, fun i hi hn => (k.block i (Nat.lt_of_lt_of_le hi h.size) hn).trans (h.block i hi hn)⟩
theorem Turn.mono (h : Turn T A B) (hT : ∀ k, k < A.heap.size → T k → T' k) : Turn T' A B := ⟨h.os, h.tape, h.output, h.size, fun k hk hn => h.block k hk (fun ht => hn (hT k hk ht))⟩
theorem Turn.of_below {n : Nat} (h : Below n A B) (hn : ∀ k, n ≤ k → k < A.heap.size → T k) : Turn T A B := ⟨h.os, h.tape, h.output, h.size, fun k hk ht => h.block k (Nat.lt_of_not_le fun hc => ht (hn k hc hk))⟩
theorem Turn.of_new (h : Below A.heap.size A B) : Turn T A B := Turn.of_below h (fun k h1 h2 => absurd h1 (by omega))
theorem Turn.below {n : Nat} (h : Turn T A B) (hs : n ≤ A.heap.size) (hT : ∀ k, T k → n ≤ k) : Below n A B := ⟨h.os, h.tape, h.output, h.size, fun k hk => h.block k (by omega) (fun ht => by have := hT k ht; omega)⟩
theorem Turn.of_grown {row : Option Nat} (h : A.grownBy B row) (hr : ∀ k, row = some k → T k) : Turn T A B := ⟨h.os, h.tape, h.output, h.size, fun k hk ht => h.block k hk (fun e => ht (hr k e.symm))⟩
theorem Turn.alloc (T : Nat → Prop) (A : World) (o : Obj) : Turn T A (A.alloc o) := Turn.of_new ((Below.refl _ _).alloc (Nat.le_refl _) _)
theorem Turn.drewN (T : Nat → Prop) (A : World) (n : Nat) : Turn T A (A.drewN n) := ⟨rfl, rfl, rfl, Nat.le_refl _, fun _ _ _ => rfl⟩
theorem Turn.drew (T : Nat → Prop) (A : World) : Turn T A A.drew := ⟨rfl, rfl, rfl, Nat.le_refl _, fun _ _ _ => rfl⟩
theorem Turn.setCell {p : Addr} (A : World) (v : Value) (hp : T p.block) : Turn T A (A.setCell p v) :=
  ⟨rfl, rfl, rfl, by simp [World.setCell], fun k _ hn => Below.heap_setCell _ _ _ _ (fun e => hn (by rw [e]; exact hp))⟩
theorem Turn.putObj (A : World) (l : Nat) (o : Obj) (hl : T l) : Turn T A (A.putObj l o) :=
  ⟨rfl, rfl, rfl, by simp, fun k _ hn => World.putObj_heap_other (fun e => hn (by rw [e]; exact hl))⟩
theorem Turn.cell {p : Addr} {v : Value} (h : Turn T A B) (hc : A.cell? p = some v) (hp : ¬ T p.block) : B.cell? p = some v :=
  (World.cell?_of_block (h.block p.block (World.block_lt_of_cell? _ _ hc) hp)).trans hc
theorem Turn.frozen {p : Addr} (h : Turn T A B) (hl : p.block < A.heap.size) (hp : ¬ T p.block) : B.frozen? p = A.frozen? p := World.frozen?_of_block (h.block p.block hl hp)
theorem Turn.heap {k : Nat} {o : Obj} (h : Turn T A B) (hk : A.heap[k]? = some o) (hn : ¬ T k) : B.heap[k]? = some o := (h.block k (Array.getElem?_eq_some_iff.1 hk).1 hn).trans hk
theorem Turn.boxed {k : Nat} {t : TypeId} {v : Value} (h : Turn T A B) (hk : Boxed A k t v) (hn : ¬ T k) : Boxed B k t v := h.heap hk hn
theorem Turn.grown {n : Nat} (h : Turn (fun k => k = n) A B) : A.grownBy B (some n) := ⟨h.os, h.tape, h.output, h.size, fun k hk hn => h.block k hk (fun e => hn (by rw [e]))⟩
theorem Turn.kept {base : Nat} {e : TypeId} {size n : Nat} {v : Value} {xs : List Value} (h : Turn T A B) (ho : A.ownsRow base e size v n xs) (hn : ∀ g, v.ownBlock = some g → ¬ T g) : B.ownsRow base e size v n xs := by
  refine ⟨ho.1, ?_⟩
  rcases ho.2 with h0 | ⟨g, cap, cur, rfl, hb, hg, r⟩
  · exact .inl h0
  · exact .inr ⟨g, cap, cur, rfl, hb, h.heap hg (hn g rfl), r⟩
end

/-- THE CONTRACT OF AN ITERATOR VALUE THAT HAS ONE BLOCK OF CELLS OF ITS OWN (the first that its call lays): called in whatever later world, at the yield of whatever loop, it hands out the m elements 'encs 0', 'encs 1', .. one by one, till a round says 'no more'. A round keeps what lay below n₀, the block bx, and that block. -/
def Gives (P : Program) (g : Nat) (lb : Array Value) (encs : Nat → Array Value) (m n₀ bx : Nat) (w : World) : Prop :=
  ∀ (n l : Nat) (J Jx : Nat → World → Prop) (W : World), Below w.heap.size w W →
    (∀ k X Y, J k X → Turn (fun j => j = W.heap.size) X Y → J k Y) → (∀ k X Y, Jx k X → Turn (fun j => j = W.heap.size) X Y → Jx k Y) →
    (∀ k W1, k < m → J k W1 → W.heap.size < W1.heap.size → YieldAt Fence.wide (n - 1) P l (encs k) W1 fun e W' =>
      (e = .returned (.bool true) ∧ J (k + 1) W' ∧ Turn (fun j => n₀ ≤ j ∧ j ≠ bx ∧ j ≠ W.heap.size) W1 W') ∨ (e = .returned (.bool false) ∧ Jx k W')) →
    J 0 W →
    CallsIn Fence.wide n P g (#[.func (.yield l) #[] #[]] ++ lb) W fun e W' => (∃ v, e = .returned v) ∧ (J m W' ∨ ∃ k, k < m ∧ Jx k W')

/-- what a round may turn: B: the heap's size where the loop begins -/
def Rnd (n₀ bx B j : Nat) : Prop := n₀ ≤ j ∧ j ≠ bx ∧ (j < B ∨ B + 3 ≤ j)
/-- the loop's own three blocks -/
def Own3 (B j : Nat) : Prop := B ≤ j ∧ j < B + 3

/-- HOW THE BODY OF A ROUND MAY BE LEFT. -/
def roundPost (n₀ bx B : Nat) (I : Nat → World → Prop) (Ix : Code → Nat → World → Prop) (k : Nat) (W : World) : Exit → Act → World → Prop
  | .normal, _, W' => Turn (Rnd n₀ bx B) W W' ∧ I (k + 1) W'
  | .ret, _, W' => Turn (Rnd n₀ bx B) W W' ∧ Ix .ret k W'
  | .exit id, _, W' => Turn (Rnd n₀ bx B) W W' ∧ Ix (.exit id) k W'
  | .goto t, _, W' => Turn (Rnd n₀ bx B) W W' ∧ Ix (.goto t) k W'
  | .panic _, _, _ => False
  | .outgrown, _, _ => False

variable {P : Program}

theorem wpIn_range {n : Nat} {g : Operand} {ps : Array Tmp} {assign body : Code} {Q : Exit → Act → World → Prop} {a : Act} {w : World}
    {gf : Nat} {lb : Array Value} (hg : a.eval g = .func (.func gf) #[] lb) (eg : ∀ args w, (callFunc gf args).run P w = .ok (.enter gf args) w)
    {encs : Nat → Array Value} {m n₀ bx : Nat} {w0 : World} (hseq : Gives P gf lb encs m n₀ bx w0) (hb0 : Below w0.heap.size w0 w) (hn₀ : n₀ ≤ w.heap.size) (hbx : bx < w.heap.size) (hps : ∀ k, (encs k).size = ps.size)
    (I : Nat → World → Prop) (Ix : Code → Nat → World → Prop) (hI : ∀ k X Y, I k X → Turn (Own3 w.heap.size) X Y → I k Y) (hIx : ∀ c k X Y, Ix c k X → Turn (Own3 w.heap.size) X Y → Ix c k Y) (h0 : I 0 w) (a₁ : Nat → Act)
    (hassign : ∀ (l k : Nat) (W : World) (K : Act → World → Prop), K (a₁ k) W →
      assign.wpIn (Fence.wide.inRound l) (n - 1 - 1) P (Exit.then K (fun _ _ _ => False)) { tmps := (ps.zip (encs k)).foldl (fun t (p, v) => t.setIfInBounds p v) a.tmps, defers := [] } W)
    (hbody : ∀ (l k : Nat) (W : World), k < m → I k W → w.heap.size + 2 < W.heap.size → body.wpIn (Fence.wide.inRound l) (n - 1 - 1) P (roundPost n₀ bx w.heap.size I Ix k W) (a₁ k) W)
    (hdone : ∀ (W : World), I m W → W.heap[w.heap.size]? = some (.deferred (some [])) → Q .normal { a with defers := { target := .collected w.heap.size, args := #[] } :: a.defers } W)
    (hstop : ∀ (c : Code) (k : Nat) (W : World), k < m → Ix c k W → W.heap[w.heap.size]? = some (.deferred (some [])) → c.wpIn Fence.wide n P Q { a with defers := { target := .collected w.heap.size, args := #[] } :: a.defers } W) :
    (Code.rangeFunc g ps assign body).wpIn Fence.wide n P Q a w := by
  refine wpIn_rangeFunc ?_
  intro fn hfn
  obtain ⟨rec, hrec⟩ : ∃ rec : LoopState → Option Code → Loop, rec = fun st pe => { state := st, pending := pe, fn, tmps := a.tmps, params := ps, assign, body, defers := w.heap.size } := ⟨_, rfl⟩
  obtain ⟨W1, hW1⟩ : ∃ W1, (w.alloc (.deferred (some []))).alloc (.loop (rec .ready none)) = W1 := ⟨_, rfl⟩
  have hS1 : W1.heap.size = w.heap.size + 2 := by rw [← hW1]; simp
  have hL1 : W1.heap[w.heap.size + 1]? = some (.loop (rec .ready none)) := by
    rw [← hW1]; have := World.alloc_heap_new (w.alloc (.deferred (some []))) (.loop (rec .ready none)); rwa [World.size_alloc] at this
  have hK1 : W1.heap[w.heap.size]? = some (.deferred (some [])) := by
    rw [← hW1]; exact (Below.heap_alloc _ _ _ (by simp)).trans (World.alloc_heap_new w _)
  have hI1 : I 0 W1 := by rw [← hW1]; exact hI _ _ _ h0 ((Turn.alloc _ _ _).trans (Turn.alloc _ _ _))
  have hb1 : Below w0.heap.size w0 W1 := by
    rw [← hW1]; exact hb0.trans ((((Below.refl _ w).alloc (Nat.le_refl _) _).alloc (by simp) _).mono hb0.size)
  refine ⟨w.heap.size + 1, [{ target := .collected w.heap.size, args := #[] }], W1, { target := .fn (.func gf) lb, args := #[.func (.yield (w.heap.size + 1)) #[] #[]] }, W1, gf,
    #[.func (.yield (w.heap.size + 1)) #[] #[]] ++ lb, W1, ?_, ?_, ?_, ?_, (fun h => by cases h), ?_⟩
  · rw [← hW1, hrec]; exact run_enterLoop_outer _ _ _ _ _
  · simp only [resolve, hg]
    simp [go_sem]
  · intro f' hf'; trivial
  · simp [invoke, go_sem, eg]
  · have own : ∀ {X Y : World}, Turn (fun j => j = W1.heap.size) X Y → Turn (Own3 w.heap.size) X Y := fun h => h.mono fun k _ e => by subst e; rw [hS1]; exact ⟨by omega, by omega⟩
    refine (hseq (n - 1) (w.heap.size + 1)
      (fun k W => I k W ∧ W.heap[w.heap.size + 1]? = some (.loop (rec .ready none)) ∧ W.heap[w.heap.size]? = some (.deferred (some [])))
      (fun k W => ∃ c, Ix c k W ∧ W.heap[w.heap.size + 1]? = some (.loop (rec .done (some c))) ∧ W.heap[w.heap.size]? = some (.deferred (some [])))
      W1 hb1
      (fun k X Y hs ht => ⟨hI _ _ _ hs.1 (own ht), ht.heap hs.2.1 (by rw [hS1]; omega), ht.heap hs.2.2 (by rw [hS1]; omega)⟩)
      (fun k X Y hs ht => by
        obtain ⟨c, hc, hl, hk⟩ := hs
        exact ⟨c, hIx _ _ _ _ hc (own ht), ht.heap hl (by rw [hS1]; omega), ht.heap hk (by rw [hS1]; omega)⟩)
      ?_ ⟨hI1, hL1, hK1⟩).mono ?_
    · -- ONE ROUND
      rintro k W hkm ⟨hi, hl, hk⟩ hlen
      have hlt : w.heap.size + 1 < W.heap.size := (Array.getElem?_eq_some_iff.1 hl).1
      have hy := run_yield (P := P) (args := encs k) hl (by rw [hrec]; exact hps k)
      rw [hrec] at hy
      refine ⟨fn, _, assign, body, hy, roundIn_of_wpIn hfn (hassign _ k W _ ⟨_, run_beginRound hl (by rw [hrec]), ?_⟩)⟩
      have hl2 : (W.putObj (w.heap.size + 1) (.loop { rec .ready none with state := .busy })).heap[w.heap.size + 1]? = some (.loop { rec .ready none with state := .busy }) := World.putObj_heap_same hlt
      have hk2 : (W.putObj (w.heap.size + 1) (.loop { rec .ready none with state := .busy })).heap[w.heap.size]? = some (.deferred (some [])) := (World.putObj_heap_other (by omega)).trans hk
      have put3 : ∀ (X : World) (o : Obj), Turn (Own3 w.heap.size) X (X.putObj (w.heap.size + 1) o) := fun X o => Turn.putObj X _ o ⟨by omega, by omega⟩
      have put4 : ∀ (X : World) (o : Obj), Turn (fun j => n₀ ≤ j ∧ j ≠ bx ∧ j ≠ W1.heap.size) X (X.putObj (w.heap.size + 1) o) := fun X o => Turn.putObj X _ o ⟨by omega, by omega, by omega⟩
      refine wpIn_mono (hbody _ k _ hkm (hI _ _ _ hi (put3 _ _)) (by simp; omega)) ?_
      have fin : ∀ (jump : Option Code) (W3 : World), Turn (Rnd n₀ bx w.heap.size) (W.putObj (w.heap.size + 1) (.loop { rec .ready none with state := .busy })) W3 →
          (Instr.endRound (w.heap.size + 1) jump).run P W3 = .ok (.bool jump.isNone) (W3.putObj (w.heap.size + 1) (.loop (rec (if jump.isNone then .ready else .done) jump))) ∧
          (W3.putObj (w.heap.size + 1) (.loop (rec (if jump.isNone then .ready else .done) jump))).heap[w.heap.size + 1]? = some (.loop (rec (if jump.isNone then .ready else .done) jump)) ∧
          (W3.putObj (w.heap.size + 1) (.loop (rec (if jump.isNone then .ready else .done) jump))).heap[w.heap.size]? = some (.deferred (some [])) := fun jump W3 hk3 => by
        have hl3 := hk3.heap hl2 (fun h => by have := h.2.2; omega)
        have := run_endRound (P := P) jump hl3
        rw [hrec] at this ⊢
        exact ⟨this, World.putObj_heap_same (Array.getElem?_eq_some_iff.1 hl3).1, (World.putObj_heap_other (by omega)).trans (hk3.heap hk2 (fun h => by have := h.2.2; omega))⟩
      rintro e a3 W3 hp
      cases e with
      | normal =>
        obtain ⟨hk3, hi3⟩ := hp
        obtain ⟨hr, hl4, hk4⟩ := fin none W3 hk3
        exact ⟨_, _, hr, .inl ⟨rfl, ⟨hI _ _ _ hi3 (put3 _ _), hl4, hk4⟩, ((put4 _ _).trans (hk3.mono fun j _ h => ⟨h.1, h.2.1, by have := h.2.2; omega⟩)).trans (put4 _ _)⟩⟩
      | ret =>
        obtain ⟨hk3, hi3⟩ := hp
        obtain ⟨hr, hl4, hk4⟩ := fin (some .ret) W3 hk3
        exact ⟨_, _, hr, .inr ⟨rfl, .ret, hIx _ _ _ _ hi3 (put3 _ _), hl4, hk4⟩⟩
      | exit id =>
        obtain ⟨hk3, hi3⟩ := hp
        obtain ⟨hr, hl4, hk4⟩ := fin (some (.exit id)) W3 hk3
        exact ⟨_, _, hr, .inr ⟨rfl, .exit id, hIx _ _ _ _ hi3 (put3 _ _), hl4, hk4⟩⟩
      | goto t =>
        obtain ⟨hk3, hi3⟩ := hp
        obtain ⟨hr, hl4, hk4⟩ := fin (some (.goto t)) W3 hk3
        exact ⟨_, _, hr, .inr ⟨rfl, .goto t, hIx _ _ _ _ hi3 (put3 _ _), hl4, hk4⟩⟩
      | panic ch => exact hp.elim
      | outgrown => exact hp.elim
    · -- BEHIND THE ITERATOR
      have put3 : ∀ (X : World) (o : Obj), Turn (Own3 w.heap.size) X (X.putObj (w.heap.size + 1) o) := fun X o => Turn.putObj X _ o ⟨by omega, by omega⟩
      rintro e W2 ⟨⟨v, rfl⟩, (⟨hi, hl, hk⟩ | ⟨k, hkm, c, hi, hl, hk⟩)⟩
      · exact ⟨none, _, by have := run_endLoop (P := P) hl (by rw [hrec]; simp); rw [hrec] at this; exact this, hdone _ (hI _ _ _ hi (put3 _ _)) ((World.putObj_heap_other (by omega)).trans hk)⟩
      · exact ⟨some c, _, by have := run_endLoop (P := P) hl (by rw [hrec]; simp); rw [hrec] at this; exact this, hstop c k _ hkm (hIx _ _ _ _ hi (put3 _ _)) ((World.putObj_heap_other (by omega)).trans hk)⟩

/-- at a function's return: the block for the rounds' deferred calls is shut -/
theorem below_shut {n₀ D : Nat} {A B : World} (h : Below n₀ A B) (hs : n₀ ≤ A.heap.size) (hD : n₀ ≤ D) (o : Obj) : Below n₀ A (B.putObj D o) :=
  h.trans ((Turn.putObj (T := fun j => j = D) B D o rfl).below (Nat.le_trans hs h.size) (fun k e => by omega))

end Go.Proofs.YtjicdcmdgbcdcaaGreatDoor.Turn
end
section
namespace Go.Proofs.YtjicdcmdgbcdcaaGreatDoor.Same
set_option linter.unusedSimpArgs false
set_option linter.unusedVariables false
open Go.RowKit Mem

theorem ret_bool {a b : Bool} (h : a = b) : Ending.returned (.bool a) = .returned (.bool b) := by rw [h]

/-- the slice (a, its length, its room) reads as these numbers -/
def Ints (k : IntKind) (w : World) (a : Option Addr) (n : Nat) (xs : List Int) : Prop :=
  xs.length = n ∧ (n = 0 ∨ ∃ b off, a = some ⟨b, off, none⟩ ∧ b < w.heap.size ∧ ∀ i x, xs[i]? = some x → w.cell? ⟨b, off + i, none⟩ = some (.int k x))

theorem Ints.below {k : IntKind} {w w' : World} {a : Option Addr} {n : Nat} {xs : List Int} (h : Ints k w a n xs) (hb : Below w.heap.size w w') : Ints k w' a n xs := by
  obtain ⟨h1, h2⟩ := h
  refine ⟨h1, h2.imp_right ?_⟩
  rintro ⟨b, off, rfl, hl, hc⟩
  exact ⟨b, off, rfl, Nat.lt_of_lt_of_le hl hb.size, fun i x hx => (hb.cell (p := ⟨b, off + i, none⟩) hl).trans (hc i x hx)⟩

theorem take_ne {xs ys : List Int} {k : Nat} {x y : Int} (hx : xs[k]? = some x) (hy : ys[k]? = some y) (h : x ≠ y) : xs ≠ ys := by
  rintro rfl
  rw [hx] at hy
  exact h (Option.some.inj hy)

set_option maxHeartbeats 1000000 in
theorem same_any (a1 : Option Addr) (n1 c1 : Nat) (xs : List Int) (a2 : Option Addr) (n2 c2 : Nat) (ys : List Int) (w : World) (h1 : Ints .i32 w a1 n1 xs) (h2 : Ints .i32 w a2 n2 ys) (hm : n1 ≤ 9223372036854775807) :
    Calls Tryz.prog 25 #[.slice a1 n1 c1, .slice a2 n2 c2] w fun e w' => e = .returned (.bool (decide (xs = ys))) ∧ Below w.heap.size w w' := by
  obtain ⟨l1, h1⟩ := h1
  obtain ⟨l2, h2⟩ := h2
  have L1 := Lib.hid l1
  have L2 := Lib.hid l2
  clear l1 l2
  by_cases hn : n1 = n2
  · subst hn
    have e0 : ((n1 : Int) != n1) = false := by simp
    have H1 := Lib.hid h1
    have H2 := Lib.hid h2
    clear h1 h2
    go_enter Tryz.func25, Tryz.ntmps25
    go_wp2
    go_loopw [5] (fun i wr => ∃ k : Nat, k ≤ n1 ∧ i = .int .i64 k ∧ Hid (xs.take k = ys.take k ∧ Below w.heap.size w wr)) (fun i _ => n1 - (intOf i).toNat)
    case atStart => exact ⟨0, Nat.zero_le _, rfl, by simp, Below.refl _ _⟩
    case round =>
      obtain ⟨k, hk, rfl, HR⟩ := hrel
      by_cases hlt : k < n1
      · rcases H1.out with h0 | ⟨b1, o1, rfl, hb1, hc1⟩
        · omega
        rcases H2.out with h0 | ⟨b2, o2, rfl, hb2, hc2⟩
        · omega
        obtain ⟨x, hx⟩ : ∃ x, xs[k]? = some x := ⟨_, List.getElem?_eq_getElem (by rw [L1.out]; exact hlt)⟩
        obtain ⟨y, hy⟩ : ∃ y, ys[k]? = some y := ⟨_, List.getElem?_eq_getElem (by rw [L2.out]; exact hlt)⟩
        have q1 := (HR.out.2.cell (p := ⟨b1, o1 + k, none⟩) hb1).trans (hc1 k x hx)
        have q2 := (HR.out.2.cell (p := ⟨b2, o2 + k, none⟩) hb2).trans (hc2 k y hy)
        have HX := Lib.hid hx
        have HY := Lib.hid hy
        have hlt' : (k : Int) < n1 := by omega
        clear hc1 hc2 hx hy
        by_cases hxy : x = y
        · subst hxy
          have exy : (x != x) = false := by simp
          go_wp2
          go_quiet (fail)
          go_wp2
          go_roundw
          case rel =>
            refine ⟨k + 1, by omega, by go_num, ?_, HR.out.2.trans ((bdrew _ _).mono HR.out.2.size)⟩
            rw [List.take_add_one, List.take_add_one, HR.out.1, HX.out, HY.out]
          case measure => simp [intOf]; omega
        · have exy : (x != y) = true := by simp [hxy]
          go_wp2
          go_quiet (fail)
          go_wp2
          go_ret
          exact ⟨ret_bool (by rw [decide_eq_false (take_ne HX.out HY.out hxy)]), HR.out.2.trans ((bdrew _ _).mono HR.out.2.size)⟩
      · obtain rfl : k = n1 := by omega
        go_wp2
        go_ret
        refine ⟨ret_bool ?_, HR.out.2⟩
        have e := HR.out.1
        rw [List.take_of_length_le (by rw [L1.out]; exact Nat.le_refl _), List.take_of_length_le (by rw [L2.out]; exact Nat.le_refl _)] at e
        rw [decide_eq_true e]
  · have e0 : ((n1 : Int) != n2) = true := by simp; omega
    clear h1 h2
    go_enter Tryz.func25, Tryz.ntmps25
    go_wp2
    go_ret
    refine ⟨ret_bool ?_, Below.refl _ _⟩
    rw [decide_eq_false]
    rintro rfl
    exact hn (L1.out.symm.trans L2.out)

end Go.Proofs.YtjicdcmdgbcdcaaGreatDoor.Same
end

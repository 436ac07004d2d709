/-
  A region that draws its order, within a round of a loop over an iterator: the plain words for regions serve there too.
  A call of a function that makes a table, run to its end by the machine itself.
  sort.Search, with a closure that writes nothing that was there.
  The walk of a reference that looks through one list of pairs.
  The walk of pairs.Join.
  Closed facts of the row of TopSound, one by one.
-/
import Derived.Test.YtjicdcmdgbcdcaaGreatDoorSd1
import Derived.OrdersIn
import Derived.OrdersHeld
import Derived.RangeFuncCalls
import Derived.OwnWalk
import Derived.Deep.LoopGhost
import Derived.Deep.QuietTactic
import Derived.BigQuiet
import Derived.SevenTiedAt
section
namespace Go.Proofs.YtjicdcmdgbcdcaaGreatDoor.Turn
set_option linter.unusedSimpArgs false
set_option linter.unusedVariables false
open Go Go.RowKit

section
variable {P : Program} {ops : Array Oper} {md : Region.Mode} {Q : Exit → Act → World → Prop}

theorem rowsIn_round {l n : Nat} {row : String} {args : Array Value} {w : World} {R : Value → World → Prop} (h : Rows P row args w R) : RowsIn (Fence.wide.inRound l) n P row args w R :=
  fun c cs _ => let ⟨v, w', r, s⟩ := h c cs; ⟨v, w', r, stepsIn_wide.2 s⟩

theorem wpOpIn_of_wpOp {l n i : Nat} {K : Act → World → Prop} {a : Act} {w : World} (hnd : ∀ o : Oper, ops[i]? = some o → ∀ c, o.op ≠ .defer c) (hQ : ¬ LetsOut Q) (h : wpOp P ops Q i K a w) :
    wpOpIn (Fence.wide.inRound l) n P ops Q i K a w := by
  unfold wpOp at h
  unfold wpOpIn
  cases ho : ops[i]? with
  | none => simpa [ho] using h
  | some o =>
    simp only [ho] at h ⊢
    split
    · rename_i hw
      rw [if_pos hw] at h
      rcases h with h | ⟨_, h⟩
      case inr => exact absurd h hQ
      refine ⟨fun _ _ => trivial, ?_⟩
      rw [Oper.semAt_eq _ _ _ (hnd o ho)]
      unfold Oper.wp at h
      generalize (execOp a.eval o).run P w = r at *
      cases r with
      | ok x w' =>
        cases x <;> simp only [Oper.upon] at h <;> simp only [Oper.uponIn]
        case value => exact h
        case skip => exact h
        case defer => exact h
        case enter => exact ⟨(fun h => by cases h), CallsIn.inRound l (callsIn_wide.2 h)⟩
        case row => exact ⟨(fun h => by cases h), rowsIn_round h⟩
      | halt x w' =>
        cases x <;> simp only [Oper.upon] at h <;> simp only [Oper.uponIn]
        case panic => exact h
    · rename_i hw
      rw [if_neg hw] at h
      exact ⟨fun _ _ => trivial, h⟩

theorem wpAnyIn_of_wpAny {l n : Nat} (hnd : ∀ (i : Nat) (o : Oper), ops[i]? = some o → ∀ c, o.op ≠ .defer c) (hQ : ¬ LetsOut Q) :
    ∀ (f : Nat) (listed : Array Bool) (a : Act) (w : World), wpAny P md ops Q f listed a w → wpAnyIn (Fence.wide.inRound l) n P md ops Q f listed a w
  | 0, _, _, _, h => h
  | f + 1, _, _, _, h => ⟨h.1, fun i hi => wpOpIn_mono (fun a w => wpAnyIn_of_wpAny hnd hQ f _ a w) (wpOpIn_of_wpOp (hnd i) hQ (h.2 i hi))⟩

/-- Whatever order is picked, and S holds behind every operation but those of L. -/
def wpAnyS (P : Program) (md : Region.Mode) (ops : Array Oper) (Q : Exit → Act → World → Prop) (S : World → Prop) (L : Nat → Bool) : Nat → Array Bool → Act → World → Prop
  | 0, listed, a, w => Region.ready md ops listed = [] ∧ Q .normal a w
  | fuel + 1, listed, a, w =>
    (Region.ready md ops listed = [] → Q .normal a w) ∧
    ∀ i ∈ Region.ready md ops listed, wpOp P ops Q i (fun a' w' => (L i = true ∨ S w') ∧ wpAnyS P md ops Q S L fuel (listed.setIfInBounds i true) a' w') a w

theorem wpAny_of_S {S : World → Prop} {L : Nat → Bool} : ∀ (fuel : Nat) (listed : Array Bool) (a : Act) (w : World), wpAnyS P md ops Q S L fuel listed a w → wpAny P md ops Q fuel listed a w
  | 0, _, _, _, h => h
  | fuel + 1, _, _, _, h => ⟨h.1, fun i hi => wpOp_mono (fun a' w' h' => wpAny_of_S fuel _ a' w' h'.2) (h.2 i hi)⟩

/-- an operation that only reads may be taken first, if those of L wait for it -/
theorem wpAnyS_first {S : World → Prop} {L : Nat → Bool} {i : Nat} {oi : Oper} {v : Value} (hi : ops[i]? = some oi) (hsel : ∀ (j : Nat) (o : Oper) cs b, ops[j]? = some o → o.op ≠ .select cs b)
    (hL : ∀ (j : Nat) (oj : Oper), ops[j]? = some oj → L j = true → ∃ e ∈ oj.after, Region.binds md e = true ∧ e.on = i)
    (hQ : ∀ c a w, Q (.panic c) (a.put oi.dst v) w → Q (.panic c) a w) :
    ∀ (fuel : Nat) (listed : Array Bool) (a : Act) (w : World),
      (∀ j oj, ops[j]? = some oj → j ≠ i → listed.getD j true = false → (∀ e ∈ oj.after, Region.binds md e = true → e.on ≠ i) → oi.apart ops oj = true) →
      i ∈ Region.ready md ops listed → YieldsIf P ops S oi v a → S w →
      wpAnyS P md ops Q S L fuel (listed.setIfInBounds i true) (a.put oi.dst v) w → wpAnyS P md ops Q S L (fuel + 1) listed a w := by
  intro fuel
  induction fuel with
  | zero =>
    intro listed a w _ hr hy hS H
    refine ⟨fun h => (by rw [h] at hr; cases hr), fun j hj => ?_⟩
    by_cases hji : j = i
    · subst hji; exact hy.wpOp hi hS ⟨.inr hS, H⟩
    · have := ready_mono hj hji
      rw [H.1] at this
      cases this
  | succ fuel ih =>
    intro listed a w hfree hr hy hS H
    refine ⟨fun h => (by rw [h] at hr; cases hr), fun j hj => ?_⟩
    by_cases hji : j = i
    · subst hji; exact hy.wpOp hi hS ⟨.inr hS, H⟩
    · have h1 := H.2 j (ready_mono hj hji)
      obtain ⟨hjun, oj, hoj, hall⟩ := mem_ready.1 hj
      have hnot : ∀ e ∈ oj.after, Region.binds md e = true → e.on ≠ i := fun e he hb heq => by
        have h1 := hall e he hb
        have h0 := (mem_ready.1 hr).1
        rw [heq] at h1
        rcases Nat.lt_or_ge i listed.size with h' | h'
        · simp [h'] at h0 h1; rw [h0] at h1; cases h1
        · simp [Array.getElem?_eq_none h'] at h1
      have hLj : ¬ L j = true := fun h => by
        obtain ⟨e, he, hb, heq⟩ := hL j oj hoj h
        exact hnot e he hb heq
      have h2 := wpOp_putIf hoj (hfree j oj hoj hji hjun hnot) (fun cs b => hsel i oi cs b hi) (fun cs b => hsel j oj cs b hoj) hQ hy h1
      have hfree' : ∀ k ok, ops[k]? = some ok → k ≠ i → (listed.setIfInBounds j true).getD k true = false →
          (∀ e ∈ ok.after, Region.binds md e = true → e.on ≠ i) → oi.apart ops ok = true := fun k ok hk hki hun hno => by
        refine hfree k ok hk hki ?_ hno
        by_cases hjk : j = k
        · subst hjk; exact hjun
        · rw [getD_set_ne true hjk] at hun; exact hun
      refine wpOp_mono (fun a' w' h3 => ?_) h2
      have hs := h3.2.1.resolve_left hLj
      refine ⟨.inr hs, ih (listed.setIfInBounds j true) a' w' hfree' (ready_mono hr (Ne.symm hji)) h3.1 hs ?_⟩
      rw [Array.setIfInBounds_comm _ _ hji]
      exact h3.2.2

/-- do all of L wait for number i? -/
def waitB (md : Region.Mode) (ops : Array Oper) (L : Nat → Bool) (i : Nat) : Bool :=
  (List.range ops.size).all fun j => !L j || (match ops[j]? with | some oj => oj.after.any fun e => Region.binds md e && e.on == i | none => true)

theorem waitB_spec {L : Nat → Bool} {i : Nat} (h : waitB md ops L i = true) : ∀ (j : Nat) (oj : Oper), ops[j]? = some oj → L j = true → ∃ e ∈ oj.after, Region.binds md e = true ∧ e.on = i := by
  intro j oj hoj hl
  have hj : j < ops.size := (Array.getElem?_eq_some_iff.1 hoj).1
  have := List.all_eq_true.1 h j (List.mem_range.2 hj)
  simp only [hl, Bool.not_true, Bool.false_or, hoj] at this
  obtain ⟨e, he, hb⟩ := Array.any_eq_true'.1 this
  simp only [Bool.and_eq_true, beq_iff_eq] at hb
  exact ⟨e, he, hb.1, hb.2⟩

theorem take_first {S : World → Prop} {L : Nat → Bool} {i : Nat} {oi : Oper} {v : Value} {fuel : Nat} {listed : Array Bool} {a : Act} {w : World} (hi : ops[i]? = some oi)
    (hs : Region.noSelect ops = true) (hf : Region.free md ops listed i = true) (hr : (Region.ready md ops listed).contains i = true) (hL : waitB md ops L i = true)
    (hQ : ∀ c a w, Q (.panic c) (a.put oi.dst v) w → Q (.panic c) a w) (hS : S w) (hy : YieldsIf P ops S oi v a)
    (h : wpAnyS P md ops Q S L fuel (listed.setIfInBounds i true) (a.put oi.dst v) w) : wpAnyS P md ops Q S L (fuel + 1) listed a w :=
  wpAnyS_first hi (Region.noSelect_spec hs) (waitB_spec hL) hQ fuel listed a w (Region.free_spec hi hf) (by simpa using hr) hy hS h

/-- one operation alone may come up -/
theorem take_one {S : World → Prop} {L : Nat → Bool} {i fuel : Nat} {o : Oper} {listed : Array Bool} {a : Act} {w : World} (hr : Region.ready md ops listed = [i]) (ho : ops[i]? = some o) (hg : o.guard = none)
    (h : ∀ K : Act → World → Prop, (∀ a' w', (L i = true ∨ S w') → wpAnyS P md ops Q S L fuel (listed.setIfInBounds i true) a' w' → K a' w') → o.wp P a w K Q) : wpAnyS P md ops Q S L (fuel + 1) listed a w := by
  refine ⟨fun h0 => (by rw [hr] at h0; cases h0), fun j hj => ?_⟩
  rw [hr, List.mem_singleton] at hj
  subst hj
  unfold wpOp
  have hw : Region.wanted o (yielded ops a.tmps) = true := by simp [Region.wanted, hg]
  simp only [ho, hw, if_true]
  exact .inl (h _ fun a' w' h1 h2 => ⟨h1, h2⟩)

theorem take_done {S : World → Prop} {L : Nat → Bool} {listed : Array Bool} {a : Act} {w : World} (hr : Region.ready md ops listed = []) (h : Q .normal a w) : ∀ fuel, wpAnyS P md ops Q S L fuel listed a w
  | 0 => ⟨hr, h⟩
  | _ + 1 => ⟨fun _ => h, by rw [hr]; simp⟩

/-- no operation is a defer statement -/
def noDefer (l : List Oper) : Bool := l.all fun o => match o.op with | .defer _ => false | _ => true

/-- THE BEGINNING, in a round -/
theorem round_begin (S : World → Prop) (L : Nat → Bool) {l n id : Nat} {a : Act} {w : World} {os : List Oper} (hm : P.follows .mixedOrders = true) (hd : noDefer os = true) (hQ : ¬ LetsOut Q)
    (h : wpAnyS P .any os.toArray Q S L os.toArray.size (Array.replicate os.toArray.size false) a w.drew) : (Code.region id os.toArray true).wpIn (Fence.wide.inRound l) n P Q a w := by
  refine wpIn_region_any hm (wpAnyIn_of_wpAny (fun i o ho c hc => ?_) hQ _ _ _ _ (wpAny_of_S _ _ _ _ h))
  have hm : o ∈ os := by
    have : os[i]? = some o := by simpa using ho
    exact List.mem_of_getElem? this
  have := List.all_eq_true.1 hd o hm
  rw [hc] at this
  cases this

/-- THE BEGINNING, elsewhere -/
theorem region_begin (S : World → Prop) (L : Nat → Bool) {id : Nat} {a : Act} {w : World} {os : List Oper} (hm : P.follows .mixedOrders = true)
    (h : wpAnyS P .any os.toArray Q S L os.toArray.size (Array.replicate os.toArray.size false) a w.drew) : (Code.region id os.toArray true).wp P Q a w :=
  wp_region_any hm (wpAny_of_S _ _ _ _ h)
end

/-- 'append' onto a slice of the call's own, at one operation -/
theorem wp_append_own {P : Program} (w : World) {o : Oper} {a : Act} {K : Act → World → Prop} {Q : Exit → Act → World → Prop}
    (s x : Operand) (t : TypeId) (hop : o.op = Op.call { callee := Callee.builtin Builtin.append, args := #[s, x], argTypes := #[t, t] })
    (base : Nat) (e : TypeId) (i : TypeInfo) (z : Value) (size bytes : Nat) (h1 : P.underlying t = some (.slice e)) (h2 : P.info? e = some i) (h3 : i.zero = some z) (h4 : i.size = size) (h5 : i.bytes = bytes) (h6 : z.cells.size = size) (h7 : 0 < size)
    (v : Value) (k : Nat) (xs : List Value) (hs : a.eval s = v) (hown : w.ownsRow base e size v k xs) (ad : Addr) (m c : Nat) (news : List Value) (hx : a.eval x = .slice (some ad) m c) (hn : news.length = m * size)
    (hc : ∀ j u, news[j]? = some u → w.cell? (ad.add j) = some u) (h1c : ∀ u ∈ news, u.oneCell' = true) (b1 : k + m ≤ maxLen) (b2 : (k + m) * bytes ≤ 140737488355328) (b3 : base ≤ w.heap.size)
    (hK : ∀ v' w', w'.ownsRow base e size v' (k + m) (xs ++ news) → w.grownBy w' v.ownBlock → (v' = .slice none 0 0 ↔ v = .slice none 0 0 ∧ m = 0) → K (a.put o.dst v') w') : o.wp P a w K Q := by
  obtain ⟨v', w', hrun, r1, r2, r3⟩ := run_append_own (P := P) w base t o.type e i z size bytes h1 h2 h3 h4 h5 h6 h7 v k xs hown ad m c news hn hc h1c b1 b2 b3
  unfold Oper.wp execOp
  simp only [hop, resolve, invoke, builtin, Sem.run_bind, Sem.run_pure, Result.andThen_ok, List.map_toArray, List.map_cons, List.map_nil, hs, hx, hrun]
  exact hK v' w' r1 r2 r3

section
variable {P : Program} (w : World)

theorem run_append_nil (base : Nat) (t ty e : TypeId) (i : TypeInfo) (size : Nat) (ht : P.underlying t = some (.slice e)) (hi : P.info? e = some i)
    (v : Value) (n : Nat) (xs : List Value) (hown : w.ownsRow base e size v n xs) (c : Nat) : (Builtin.append_ #[t, t] ty #[v, .slice none 0 c]).run P w = .ok v w := by
  rcases hown.2 with ⟨rfl, rfl⟩ | ⟨g, cap, cur, rfl, _, _, hnc, _⟩
  · simp [Builtin.append_, run_underlying ht, sizeOf, typeInfo, hi, Builtin.lenOf, Builtin.firstCells]
  · simp [Builtin.append_, run_underlying ht, sizeOf, typeInfo, hi, Builtin.lenOf, Builtin.firstCells, hnc, storeCells]

/-- a source of an append: nil, or cells at an address -/
def Src (w : World) (A : Option Addr) (m size : Nat) (news : List Value) : Prop :=
  (A = none ∧ m = 0 ∧ news = []) ∨ ∃ ad, A = some ad ∧ news.length = m * size ∧ ∀ (j : Nat) (u : Value), news[j]? = some u → w.cell? (ad.add j) = some u

theorem run_append_src (base : Nat) (t ty e : TypeId) (i : TypeInfo) (z : Value) (size bytes : Nat) (h1 : P.underlying t = some (.slice e)) (h2 : P.info? e = some i) (h3 : i.zero = some z) (h4 : i.size = size) (h5 : i.bytes = bytes) (h6 : z.cells.size = size) (h7 : 0 < size)
    (v : Value) (k : Nat) (xs : List Value) (hown : w.ownsRow base e size v k xs) (A : Option Addr) (m c : Nat) (news : List Value) (hs : Src w A m size news) (h1c : ∀ u ∈ news, u.oneCell' = true) (b1 : k + m ≤ maxLen) (b2 : (k + m) * bytes ≤ 140737488355328) (b3 : base ≤ w.heap.size) :
    ∃ v' w', (Builtin.append_ #[t, t] ty #[v, .slice A m c]).run P w = .ok v' w' ∧ w'.ownsRow base e size v' (k + m) (xs ++ news) ∧ w.grownBy w' v.ownBlock := by
  rcases hs with ⟨rfl, rfl, rfl⟩ | ⟨ad, rfl, hn, hc⟩
  · exact ⟨v, w, run_append_nil w base t ty e i size h1 h2 v k xs hown c, by simpa using hown, World.grownBy.refl w _⟩
  · obtain ⟨v', w', hrun, r1, r2, _⟩ := run_append_own (P := P) w base t ty e i z size bytes h1 h2 h3 h4 h5 h6 h7 v k xs hown ad m c news hn hc h1c b1 b2 b3
    exact ⟨v', w', hrun, r1, r2⟩

theorem wp_append_src {o : Oper} {a : Act} {K : Act → World → Prop} {Q : Exit → Act → World → Prop}
    (s x : Operand) (t : TypeId) (hop : o.op = Op.call { callee := Callee.builtin Builtin.append, args := #[s, x], argTypes := #[t, t] })
    (base : Nat) (e : TypeId) (i : TypeInfo) (z : Value) (size bytes : Nat) (h1 : P.underlying t = some (.slice e)) (h2 : P.info? e = some i) (h3 : i.zero = some z) (h4 : i.size = size) (h5 : i.bytes = bytes) (h6 : z.cells.size = size) (h7 : 0 < size)
    (v : Value) (k : Nat) (xs : List Value) (hs : a.eval s = v) (hown : w.ownsRow base e size v k xs) (A : Option Addr) (m c : Nat) (news : List Value) (hx : a.eval x = .slice A m c) (hsrc : Src w A m size news) (h1c : ∀ u ∈ news, u.oneCell' = true) (b1 : k + m ≤ maxLen) (b2 : (k + m) * bytes ≤ 140737488355328) (b3 : base ≤ w.heap.size)
    (hK : ∀ v' w', w'.ownsRow base e size v' (k + m) (xs ++ news) → w.grownBy w' v.ownBlock → K (a.put o.dst v') w') : o.wp P a w K Q := by
  obtain ⟨v', w', hrun, r1, r2⟩ := run_append_src (P := P) w base t o.type e i z size bytes h1 h2 h3 h4 h5 h6 h7 v k xs hown A m c news hsrc h1c b1 b2 b3
  unfold Oper.wp execOp
  simp only [hop, resolve, invoke, builtin, Sem.run_bind, Sem.run_pure, Result.andThen_ok, List.map_toArray, List.map_cons, List.map_nil, hs, hx, hrun]
  exact hK v' w' r1 r2

theorem wpList_append_src {ops : Array Oper} {rest : List Oper} {o : Oper} {a : Act} {Q : Exit → Act → World → Prop} (hg : o.guard = none)
    (s x : Operand) (t : TypeId) (hop : o.op = Op.call { callee := Callee.builtin Builtin.append, args := #[s, x], argTypes := #[t, t] })
    (base : Nat) (e : TypeId) (i : TypeInfo) (z : Value) (size bytes : Nat) (h1 : P.underlying t = some (.slice e)) (h2 : P.info? e = some i) (h3 : i.zero = some z) (h4 : i.size = size) (h5 : i.bytes = bytes) (h6 : z.cells.size = size) (h7 : 0 < size)
    (v : Value) (k : Nat) (xs : List Value) (hs : a.eval s = v) (hown : w.ownsRow base e size v k xs) (A : Option Addr) (m c : Nat) (news : List Value) (hx : a.eval x = .slice A m c) (hsrc : Src w A m size news) (h1c : ∀ u ∈ news, u.oneCell' = true) (b1 : k + m ≤ maxLen) (b2 : (k + m) * bytes ≤ 140737488355328) (b3 : base ≤ w.heap.size)
    (hK : ∀ v' w', w'.ownsRow base e size v' (k + m) (xs ++ news) → w.grownBy w' v.ownBlock → wpList P ops Q rest (a.put o.dst v') w') : wpList P ops Q (o :: rest) a w :=
  wpList_plain hg fun _ hK' => wp_append_src w s x t hop base e i z size bytes h1 h2 h3 h4 h5 h6 h7 v k xs hs hown A m c news hx hsrc h1c b1 b2 b3 fun v' w' r1 r2 => hK' _ _ (hK v' w' r1 r2)
end

theorem Src.keep {w w' : World} {A : Option Addr} {m size : Nat} {news : List Value} (h : Src w A m size news) (hb : Below w.heap.size w w') : Src w' A m size news :=
  h.imp id fun ⟨ad, e, hl, hc⟩ => ⟨ad, e, hl, fun j u hj => (hb.cell (World.block_lt_of_cell? _ _ (hc j u hj))).trans (hc j u hj)⟩

end Go.Proofs.YtjicdcmdgbcdcaaGreatDoor.Turn
end
section
namespace Go.Proofs.YtjicdcmdgbcdcaaGreatDoor.Tab
set_option linter.unusedSimpArgs false
set_option linter.unusedVariables false
open Go.RowKit Mem

/-- a call that the machine runs to its return in n steps -/
theorem calls_of_runN {P : Program} {f : FuncId} {args : Array Value} {w w' : World} {v : Value} {n : Nat} {tm : Array Value} {td : List Item} {F : Func}
    (h : ∀ cs, runN P n (lone (Frame.enter P f args .normal) cs w) = .next (lone { fn := f, tmps := tm, todo := td, defers := [], mode := .returning, kind := .normal } cs w'))
    (hF : P.funcs[f]? = some F) (hr : (results F tm).run P w' = .ok v w') :
    Calls P f args w fun e w2 => e = .returned v ∧ w2 = w' :=
  fun cs => ⟨.returned v, w', _, ⟨rfl, rfl⟩, ⟨n, h cs⟩, rfl, rfl, rfl, rfl, F, hF, hr⟩

def opsOf : Code → List Oper
  | .region _ ops _ => ops.toList
  | .seq a b => opsOf a ++ opsOf b
  | _ => []

def constOf : Operand → Value
  | .const v => v
  | _ => undef

def rowOf : Oper → Option (List Value)
  | { op := .build _ parts, .. } => some (parts.toList.map fun x => constOf x.2)
  | _ => none

/-- the rows that a function builds -/
def rowsOf (F : Func) : List (List Value) := ((F.body.map opsOf).getD []).filterMap rowOf

def numOf : Value → Int
  | .int _ n => n
  | _ => 0

/-- a new block holds the numbers of a table; the result is a slice of it, of n rows -/
def TabPost (w : World) (n : Nat) (k : IntKind) (flat : List Int) (e : Ending) (w' : World) : Prop :=
  e = .returned (.slice (some ⟨w.heap.size, 0, none⟩) n n) ∧ Below w.heap.size w w' ∧ Blk w' w.heap.size (flat.map (Value.int k)) ∧ w'.heap.size = w.heap.size + 1

theorem tab_post {w : World} {n : Nat} {k : IntKind} {flat : List Int} {cells : List Value} {T : TypeId} (h : cells = flat.map (Value.int k)) :
    ∀ e w', (e = .returned (.slice (some ⟨w.heap.size, 0, none⟩) n n) ∧ w' = w.alloc (.cells cells.toArray T)) → TabPost w n k flat e w' := by
  rintro e w' ⟨rfl, rfl⟩
  subst h
  exact ⟨rfl, (Below.refl _ _).alloc (Nat.le_refl _) _, Blk.alloc _ _ _ _ _ rfl, by simp⟩

theorem TabPost.cell {w w' : World} {n : Nat} {k : IntKind} {flat : List Int} {e : Ending} (h : TabPost w n k flat e w') (i : Nat) (hi : i < flat.length) : w'.cell? ⟨w.heap.size, i, none⟩ = some (.int k (flat.getD i 0)) :=
  h.2.2.1.cell i _ (by rw [List.getElem?_map, List.getElem?_eq_getElem hi]; simp [List.getD_eq_getElem?_getD, hi])

end Go.Proofs.YtjicdcmdgbcdcaaGreatDoor.Tab
end
section
namespace Go.Proofs.YtjicdcmdgbcdcaaGreatDoor.Search
set_option linter.unusedSimpArgs false
set_option linter.unusedVariables false
open Go.RowKit Mem

/-- the first place at which p is true -/
def IsFirst (n : Nat) (p : Nat → Bool) (i : Nat) : Prop := i ≤ n ∧ (∀ t, t < i → p t = false) ∧ (∀ t, i ≤ t → t < n → p t = true)

def SearchPost (n : Nat) (p : Nat → Bool) (w : World) (e : Ending) (w' : World) : Prop :=
  ∃ i : Nat, IsFirst n p i ∧ e = .returned (.int .i64 i) ∧ Below w.heap.size w w'

set_option maxHeartbeats 2000000 in
theorem search_any (g : Nat) (cb : Array Value) (n : Nat) (p : Nat → Bool) (w : World) (eg : ∀ args w, (callFunc g args).run Tryz.prog w = .ok (.enter g args) w) (hsz : n < 4611686018427387904)
    (hf : ∀ (wr : World) (i : Nat), i < n → Below w.heap.size w wr → Calls Tryz.prog g (#[.int .i64 i] ++ cb) wr fun e w' => e = .returned (.bool (p i)) ∧ Below wr.heap.size wr w')
    (hmono : ∀ a b, a ≤ b → b < n → p a = true → p b = true) :
    Calls Tryz.prog 277 #[.int .i64 n, .func (.func g) #[] cb] w (SearchPost n p w) := by
  have HF := Lib.hid hf
  have M := Lib.hid hmono
  clear hf hmono
  go_enter Tryz.func277, Tryz.ntmps277
  go_wp2
  go_loopg [5, 6] n (fun kx s5 s6 wr => ∃ (lo hi : Nat), s5 = .int .i64 lo ∧ s6 = .int .i64 hi ∧ lo ≤ hi ∧ hi ≤ n ∧ hi - lo ≤ kx ∧ Below w.heap.size w wr ∧
    Hid ((∀ t, t < lo → p t = false) ∧ (∀ t, hi ≤ t → t < n → p t = true)))
  case atStart => exact ⟨0, n, rfl, rfl, Nat.zero_le _, Nat.le_refl _, by omega, Below.refl _ _, (⟨fun t ht => absurd ht (Nat.not_lt_zero _), fun t h1 h2 => by omega⟩ : (∀ t, t < 0 → p t = false) ∧ (∀ t, n ≤ t → t < n → p t = true))⟩
  case round =>
    obtain ⟨lo, hi, rfl, rfl, hlh, hin, hg, hb, I⟩ := hrel
    by_cases hlt : lo < hi
    · have hc := HF.out wr ((lo + hi) / 2) (by omega) hb
      rw [show (((lo + hi) / 2 : Nat) : Int) = ((lo : Int) + (hi : Int)) / 2 by omega] at hc
      cases hp : p ((lo + hi) / 2) <;> rw [hp] at hc
      · have HP := Lib.hid hp
        have HC := Lib.hid hc
        clear hp hc
        go_wp2_with fail
        refine HC.out.mono ?_; rintro e w' ⟨rfl, hb2⟩
        clear HC
        go_wp2_with fail
        go_roundg (hi - ((lo + hi) / 2 + 1))
        case measure => omega
        case rel =>
          have I2 : Hid ((∀ t, t < (lo + hi) / 2 + 1 → p t = false) ∧ (∀ t, hi ≤ t → t < n → p t = true)) := ⟨fun t ht => (by
            cases h : p t with
            | false => rfl
            | true => have := M.out t ((lo + hi) / 2) (by omega) (by omega) h; rw [HP.out] at this; cases this), I.out.2⟩
          exact ⟨(lo + hi) / 2 + 1, hi, by rw [show ((lo : Int) + (hi : Int)) / 2 + 1 = (((lo + hi) / 2 + 1 : Nat) : Int) by omega], rfl, by omega, hin, Nat.le_refl _, hb.trans (hb2.mono hb.size), I2⟩
      · have HP := Lib.hid hp
        have HC := Lib.hid hc
        clear hp hc
        go_wp2_with fail
        refine HC.out.mono ?_; rintro e w' ⟨rfl, hb2⟩
        clear HC
        go_wp2_with fail
        go_roundg ((lo + hi) / 2 - lo)
        case measure => omega
        case rel =>
          have I2 : Hid ((∀ t, t < lo → p t = false) ∧ (∀ t, (lo + hi) / 2 ≤ t → t < n → p t = true)) := ⟨I.out.1, fun t ht htn => M.out ((lo + hi) / 2) t ht htn HP.out⟩
          exact ⟨lo, (lo + hi) / 2, rfl, by rw [show ((lo : Int) + (hi : Int)) / 2 = (((lo + hi) / 2 : Nat) : Int) by omega], by omega, by omega, Nat.le_refl _, hb.trans (hb2.mono hb.size), I2⟩
    · obtain rfl : hi = lo := by omega
      go_wp2
      go_ret
      exact ⟨hi, ⟨hin, I.out.1, I.out.2⟩, rfl, hb⟩

end Go.Proofs.YtjicdcmdgbcdcaaGreatDoor.Search
end
section
namespace Go.Proofs.YtjicdcmdgbcdcaaGreatDoor.In
set_option linter.unusedSimpArgs false
set_option linter.unusedVariables false
open Go.RowKit Mem

theorem ret_int {k : IntKind} {a b : Int} (h : a = b) : Ending.returned (.int k a) = .returned (.int k b) := by rw [h]
theorem ret_bool {a b : Bool} (h : a = b) : Ending.returned (.bool a) = .returned (.bool b) := by rw [h]


set_option maxHeartbeats 1000000 in
theorem in_any (b n : Nat) (L : List Int) (r : Int) (w : World) (hr1 : -2147483648 ≤ r) (hr2 : r ≤ 2147483647) (hn : (n : Int) < 4611686018427387904) (hL : (TabLaw.pairs L).length = n) (hl : L.length = 2 * n)
    (hk : Hid (Blk w b (L.map (Value.int .i64)))) :
    Calls Tryz.prog 316 #[.slice (some ⟨b, 0, none⟩) n n, .int .i32 r] w fun e w' => e = .returned (.bool ((TabLaw.pairs L).any (TabLaw.hasP r))) ∧ w = w' := by
  have HL := Lib.hid hL
  have Hl := Lib.hid hl
  clear hL hl
  go_enter Tryz.func316, Tryz.ntmps316
  go_wp2
  go_loop [5] (fun i => ∃ k : Nat, k ≤ n ∧ i = .int .i64 k ∧ Hid (∀ t ∈ (TabLaw.pairs L).take k, TabLaw.hasP r t = false)) (fun i => n - (intOf i).toNat)
  case atStart => exact ⟨0, Nat.zero_le _, rfl, Lib.hid (by simp)⟩
  case round =>
    obtain ⟨k, hkn, rfl, hno⟩ := hrel
    by_cases hlt : k < n
    · have hlt' : (k : Int) < n := by omega
      obtain ⟨t, ht⟩ : ∃ t, (TabLaw.pairs L)[k]? = some t := ⟨_, List.getElem?_eq_getElem (by rw [HL.out]; exact hlt)⟩
      obtain ⟨e1, e2⟩ := TabLaw.pairs_get L k t ht
      rw [Nat.mul_comm 2 k] at e1 e2
      have c0 := hk.out.cell (k * 2) _ (getnum _ (by rw [Hl.out]; omega))
      have c1 := hk.out.cell (k * 2 + 1) _ (getnum _ (by rw [Hl.out]; omega))
      rw [e1] at c0
      rw [e2] at c1
      clear e1 e2
      obtain ⟨lo, hi⟩ := t
      have HT := Lib.hid ht
      clear ht
      simp only at c0 c1
      by_cases h1 : lo ≤ r
      · have d1 : decide (lo ≤ r) = true := by simp; omega
        by_cases h2 : r ≤ hi
        · have d2 : decide (r ≤ hi) = true := by simp; omega
          go_wp2
          go_ret
          refine ⟨ret_bool ?_, rfl⟩
          exact (List.any_eq_true.2 ⟨(lo, hi), List.mem_iff_getElem?.2 ⟨k, HT.out⟩, by simp [TabLaw.hasP, d1, d2]⟩).symm
        · have d2 : decide (r ≤ hi) = false := by simp; omega
          go_wp2
          go_round
          case rel =>
            refine ⟨k + 1, by omega, by go_num, Lib.hid ?_⟩
            intro t ht
            rw [List.take_add_one, HT.out] at ht
            rcases List.mem_append.1 ht with h | h
            · exact hno.out t h
            · simp at h; subst h; simp [TabLaw.hasP, d2]
          case measure => simp [intOf]; omega
      · have d1 : decide (lo ≤ r) = false := by simp; omega
        go_wp2
        go_round
        case rel =>
          refine ⟨k + 1, by omega, by go_num, Lib.hid ?_⟩
          intro t ht
          rw [List.take_add_one, HT.out] at ht
          rcases List.mem_append.1 ht with h | h
          · exact hno.out t h
          · simp at h; subst h; simp [TabLaw.hasP, d1]
        case measure => simp [intOf]; omega
    · obtain rfl : k = n := by omega
      go_wp2
      go_ret
      refine ⟨ret_bool ?_, rfl⟩
      refine (List.any_eq_false.2 fun t ht => ?_).symm
      have := hno.out t (by rw [List.take_of_length_le (by rw [HL.out]; exact Nat.le_refl _)]; exact ht)
      simp [this]

end Go.Proofs.YtjicdcmdgbcdcaaGreatDoor.In
end
section
namespace Go.Proofs.YtjicdcmdgbcdcaaGreatDoor.Pairs
set_option linter.unusedSimpArgs false
set_option linter.unusedVariables false
open Go.RowKit

set_option maxHeartbeats 1000000 in
theorem join_core (a b x y : Int) (HX : Hid (cls a = x)) (HY : Hid (cls b = y)) (w : World) :
    Calls Tryz.prog 275 #[.int .i64 a, .int .i64 b] w fun e w' => e = .returned (.int .i64 (pj x y)) ∧ w = w' := by
  go_enter Tryz.func275, Tryz.ntmps275
  go_wp2_with fail
  refine (class_any a _).mono ?_; rintro e w' ⟨rfl, rfl⟩
  rw [HX.out]
  go_wp2_with fail
  refine (class_any b _).mono ?_; rintro e w' ⟨rfl, rfl⟩
  rw [HY.out]
  go_wp2_with (first
    | (go_at_call 326; refine (breaks_any _ _).mono ?_; rintro e w' ⟨rfl, rfl⟩)
    | (go_at_call 327; refine (syllable_any _ _ _).mono ?_; rintro e w' ⟨rfl, rfl⟩))
  all_goals go_ret
  all_goals (refine ⟨ret_int ?_, rfl⟩; unfold pj; clear HX HY; try simp_all)

theorem join_any (a b : Int) (w : World) :
    Calls Tryz.prog 275 #[.int .i64 a, .int .i64 b] w fun e w' => e = .returned (.int .i64 (pj (cls a) (cls b))) ∧ w = w' :=
  join_core a b _ _ (Lib.hid rfl) (Lib.hid rfl) w

end Go.Proofs.YtjicdcmdgbcdcaaGreatDoor.Pairs
end
section
namespace Go.Proofs.YtjicdcmdgbcdcaaGreatDoor.topSoundFacts
open Go
theorem p0 : (Rows.topSoundRow.wf (OpenSpec.ofChange Rows.topSoundSpec) : Bool) = true := by kernel_rfl
theorem p3 : (Tryz.f3.params.all (Tryz.prog.readableRec ·) : Bool) = true := by kernel_rfl
theorem p4 : (namedTie Tryz.prog Rows.topSoundRow.named Rows.topSoundSpec.vars : Bool) = true := by kernel_rfl
theorem p5 : ((Rows.topSoundRow.stops == []) : Bool) = true := by kernel_rfl
theorem p7 : ((Rows.topSoundRow.knobs == []) : Bool) = true := by kernel_rfl
theorem p9 : ((Rows.topSoundRow.inPlace == Tryz.prog.inPlace 3) : Bool) = true := by kernel_rfl
theorem p10 : ((Rows.topSoundRow.unfollowed == Tryz.prog.unfollowed 3) : Bool) = true := by kernel_rfl
theorem p11 : ((Rows.topSoundRow.recurses == Tryz.prog.recurses 3) : Bool) = true := by kernel_rfl
theorem p12 : ((Rows.topSoundRow.named == Tryz.prog.varsNamed 3) : Bool) = true := by kernel_rfl
theorem p13 : ((Rows.topSoundRow.maps == (Tryz.f3.params.toList ++ Rows.topSoundSpec.plain.varTypes Tryz.prog).any (Tryz.prog.mapsRec ·)) : Bool) = true := by kernel_rfl
theorem p14 : ((Rows.topSoundRow.ifaces == (Tryz.f3.params.toList ++ Rows.topSoundSpec.plain.varTypes Tryz.prog).any (Tryz.prog.ifacesRec ·)) : Bool) = true := by kernel_rfl
theorem p15 : ((Rows.topSoundRow.mapsOut == Tryz.prog.mapsAmong Tryz.f3.resultTypes.toList) : Bool) = true := by kernel_rfl
theorem p16 : ((Rows.topSoundRow.loops == (Tryz.f3.params.toList ++ Rows.topSoundSpec.plain.varTypes Tryz.prog).any (Tryz.prog.loopsFrom ·)) : Bool) = true := by kernel_rfl
theorem p17 : ((Rows.topSoundRow.wideKeys == (Tryz.f3.params.toList ++ Rows.topSoundSpec.plain.varTypes Tryz.prog ++ Tryz.f3.resultTypes.toList).any (Tryz.prog.wideKeysFrom ·)) : Bool) = true := by kernel_rfl
theorem p18 : (Rows.topSoundSpec.vars.all (Tryz.prog.varReadable ·) : Bool) = true := by kernel_rfl
theorem p19 : (Tryz.f3.resultTypes.all (fun t => Tryz.prog.readableRec t && decide (t < Tryz.prog.types.size)) : Bool) = true := by kernel_rfl
theorem p20 : ((Rows.topSoundRow.ifacesOut == Tryz.f3.resultTypes.toList.any (Tryz.prog.ifacesRec ·)) : Bool) = true := by kernel_rfl
theorem p21 : ((Rows.topSoundRow.loopsOut == Tryz.f3.resultTypes.toList.any (Tryz.prog.loopsFrom ·)) : Bool) = true := by kernel_rfl
theorem p22 : ((Rows.topSoundRow.plainKeys == Tryz.prog.plainKeys) : Bool) = true := by kernel_rfl
theorem p23 : (Rows.topSoundRow.shortTexts.isNone : Bool) = true := by kernel_rfl
theorem p26 : ((Rows.topSoundRow.lifted == Tryz.prog.liftsFinal) : Bool) = true := by kernel_rfl
theorem p27 : ((Tryz.prog.make == some Rows.topSoundRow.make) : Bool) = true := by kernel_rfl
theorem p28 : ((Rows.topSoundRow.kinds == (if Rows.topSoundRow.domain.isEmpty then [] else Tryz.f3.params.toList.map fun t => match Tryz.prog.underlying t with | some (.int k) => some k | _ => none)) : Bool) = true := by kernel_rfl
theorem p29 : ((Rows.topSoundRow.pinned == Rows.topSoundRow.pinnedBy) : Bool) = true := by kernel_rfl
theorem p30 : ((Rows.topSoundRow.veiled == (Tryz.f3.params.toList ++ Rows.topSoundSpec.plain.varTypes Tryz.prog ++ Tryz.f3.resultTypes.toList).any (Tryz.prog.veiledRec ·)) : Bool) = true := by kernel_rfl
theorem p31 : (Rows.topSoundRow.veiledFits Tryz.prog Tryz.f3.params.toList (Tryz.f3.params.toList ++ Rows.topSoundSpec.plain.varTypes Tryz.prog ++ Tryz.f3.resultTypes.toList) : Bool) = true := by kernel_rfl
set_option maxRecDepth 100000 in
theorem facts : joinedFacts Tryz.prog 3 Tryz.f3 Rows.topSoundSpec Rows.topSoundRow = true :=
  TopFacts.and2 (TopFacts.and2 (TopFacts.and2 (TopFacts.and2 (TopFacts.and2 (TopFacts.and2 (TopFacts.and2 (TopFacts.and2 (TopFacts.and2 (TopFacts.and2 (TopFacts.and2 (TopFacts.and2 (TopFacts.and2 (TopFacts.and2 (TopFacts.and2 (TopFacts.and2 (TopFacts.and2 (TopFacts.and2 (TopFacts.and2 (TopFacts.and2 (TopFacts.and2 (TopFacts.and2 (TopFacts.and2 (TopFacts.and2 (TopFacts.and2 (TopFacts.and2 (TopFacts.and2 (TopFacts.and2 (TopFacts.and2 (TopFacts.and2 (TopFacts.and2 (topSoundFacts.p0) TopFacts.p1) TopFacts.p2) topSoundFacts.p3) topSoundFacts.p4) topSoundFacts.p5) TopFacts.p6) topSoundFacts.p7) TopFacts.p8) topSoundFacts.p9) topSoundFacts.p10) topSoundFacts.p11) topSoundFacts.p12) topSoundFacts.p13) topSoundFacts.p14) topSoundFacts.p15) topSoundFacts.p16) topSoundFacts.p17) topSoundFacts.p18) topSoundFacts.p19) topSoundFacts.p20) topSoundFacts.p21) topSoundFacts.p22) topSoundFacts.p23) TopFacts.p24) TopFacts.p25) topSoundFacts.p26) topSoundFacts.p27) topSoundFacts.p28) topSoundFacts.p29) topSoundFacts.p30) topSoundFacts.p31
theorem byText : Rows.topSoundRow.wfByText (OpenSpec.ofChange Rows.topSoundSpec) = true := by kernel_rfl
theorem goes : false = Rows.topSoundRow.goesBy Tryz.prog := by kernel_rfl
theorem named : Tryz.prog.funcNamed Rows.topSoundRow.func = some 3 := by kernel_rfl
end Go.Proofs.YtjicdcmdgbcdcaaGreatDoor.topSoundFacts
end

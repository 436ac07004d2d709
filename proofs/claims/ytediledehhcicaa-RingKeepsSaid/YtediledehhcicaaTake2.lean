/-
  Further words for a drawn region of many operations: slots by their numbers, so that the act stays small.
-/
import Derived.Test.YtediledehhcicaaTake
import Derived.Maps.AppendAt
import Derived.Laws.Tables
namespace Go.Proofs.Ytediledehhcicaa.Turn
set_option linter.unusedSimpArgs false
set_option linter.unusedVariables false
open Go Go.RowKit

/-- the beginning of a drawn region, its size a number -/
theorem region_begin3 {P : Program} {Q : Exit → Act → World → Prop} (S : World → Prop) (L : Nat → Bool) (n : Nat) {id : Nat} {a : Act} {w : World} {os : List Oper} (hn : os.length = n) (hm : P.follows .mixedOrders = true)
    (hq : ∀ c (a : Act) d v w, Q (.panic c) (a.put d v) w → Q (.panic c) a w)
    (h : (∀ c (a : Act) d v w, Q (.panic c) (a.put d v) w → Q (.panic c) a w) → wpAnyS P .any os.toArray Q S L n (Array.replicate n false) a w.drew) : (Code.region id os.toArray true).wp P Q a w := by
  subst hn
  exact region_begin S L hm (h hq)

section
variable {md : Region.Mode} {ops : Array Oper} {Q : Exit → Act → World → Prop} {S : World → Prop} {L : Nat → Bool} {P : Program}
/-- as 'take_first', the slot that is written by its number -/
theorem take_first2 (i : Nat) (d : Option Tmp) {oi : Oper} {v : Value} {fuel : Nat} {listed : Array Bool} {a : Act} {w : World} (hi : ops[i]? = some oi)
    (hd : oi.dst = d)
    (hs : Region.noSelect ops = true) (hf : Region.free md ops listed i = true) (hr : (Region.ready md ops listed).contains i = true) (hL : waitB md ops L i = true)
    (hQ : ∀ c (a : Act) d v w, Q (.panic c) (a.put d v) w → Q (.panic c) a w) (hS : S w) (hy : YieldsIf P ops S oi v a)
    (h : wpAnyS P md ops Q S L fuel (listed.setIfInBounds i true) (a.put d v) w) : wpAnyS P md ops Q S L (fuel + 1) listed a w := by
  subst hd
  exact take_first hi hs hf hr hL (fun _ _ _ h => hQ _ _ _ _ _ h) hS hy h

/-- as 'take_first2', the slots as an array: the act does not double -/
theorem take_f (i d : Nat) {oi : Oper} {v : Value} {fuel : Nat} {listed : Array Bool} {tm : Array Value} {df : List Deferred} {w : World} (hi : ops[i]? = some oi)
    (hd : oi.dst = some d)
    (hs : Region.noSelect ops = true) (hf : Region.free md ops listed i = true) (hr : (Region.ready md ops listed).contains i = true) (hL : waitB md ops L i = true)
    (hQ : ∀ c (a : Act) d v w, Q (.panic c) (a.put d v) w → Q (.panic c) a w) (hS : S w) (hy : YieldsIf P ops S oi v ⟨tm, df⟩)
    (h : wpAnyS P md ops Q S L fuel (listed.setIfInBounds i true) ⟨tm.setIfInBounds d v, df⟩ w) : wpAnyS P md ops Q S L (fuel + 1) listed ⟨tm, df⟩ w :=
  take_first2 i (some d) hi hd hs hf hr hL hQ hS hy h

theorem eval_put_ne {a : Act} {d t : Nat} {v : Value} (h : d ≠ t) : (a.put (some d) v).eval (.tmp t) = a.eval (.tmp t) := by
  unfold Act.put Act.eval
  simp only [Array.getD_eq_getD_getElem?, Array.getElem?_setIfInBounds_ne h]
theorem size_put {a : Act} {d : Option Tmp} {v : Value} : (a.put d v).tmps.size = a.tmps.size := by
  unfold Act.put
  cases d <;> simp
theorem defers_put {a : Act} {d : Option Tmp} {v : Value} : (a.put d v).defers = a.defers := by
  unfold Act.put
  cases d <;> rfl
theorem eval_put_eq {a : Act} {d : Nat} {v : Value} (h : d < a.tmps.size) : (a.put (some d) v).eval (.tmp d) = v := by
  unfold Act.put Act.eval
  simp only [Array.getD_eq_getD_getElem?, Array.getElem?_setIfInBounds_self_of_lt h, Option.getD_some]

/-- a store of a whole row that comes up alone -/
theorem take_store_row (i : Nat) {o : Oper} {fuel : Nat} {listed : Array Bool} {a : Act} {w : World} (hr : Region.ready md ops listed = [i]) (ho : ops[i]? = some o) (ho1 : o.dst = none) (ho2 : o.guard = none)
    (ty : TypeId) (x y : Operand) (ho3 : o.op = .store ty x y) (g : Nat) (cells : Array Value) (hx : a.eval x = .pointer (some ⟨g, 0, none⟩)) (hy : a.eval y = .agg cells)
    (t : TypeId) (old : Array Value) (hg : w.heap[g]? = some (.cells old t (0, 0))) (hi : (P.info? ty).map (·.size) = some cells.size)
    (hold : old.size = cells.size) (h1 : cells.all (·.oneCell') = true) (hLS : L i = true ∨ S (w.setRow g cells))
    (h : wpAnyS P md ops Q S L fuel (listed.setIfInBounds i true) a (w.setRow g cells)) : wpAnyS P md ops Q S L (fuel + 1) listed a w :=
  take_one hr ho ho2 fun K hK => wp_store_row ty x y ho3 g cells hx hy t old hg hi hold h1 (by rw [ho1]; exact hK _ _ hLS h)

/-- an append onto a slice of the call's own that comes up alone; where the new slice lies -/
theorem take_append_at (i d : Nat) {o : Oper} {fuel : Nat} {listed : Array Bool} {a : Act} {w : World} (hr : Region.ready md ops listed = [i]) (ho : ops[i]? = some o) (ho1 : o.dst = some d) (ho2 : o.guard = none)
    (s x : Operand) (t : TypeId) (hop : o.op = Op.call { callee := Callee.builtin Builtin.append, args := #[s, x], argTypes := #[t, t] })
    (base : Nat) (e : TypeId) (it : TypeInfo) (z : Value) (size bytes : Nat) (h1 : P.underlying t = some (.slice e)) (h2 : P.info? e = some it) (h3 : it.zero = some z) (h4 : it.size = size) (h5 : it.bytes = bytes) (h6 : z.cells.size = size) (h7 : 0 < size)
    (v : Value) (k : Nat) (xs : List Value) (hs : a.eval s = v) (hown : w.ownsRow base e size v k xs) (ad : Addr) (m c : Nat) (news : List Value) (hx : a.eval x = .slice (some ad) m c) (hn : news.length = m * size)
    (hc : ∀ j u, news[j]? = some u → w.cell? (ad.add j) = some u) (h1c : ∀ u ∈ news, u.oneCell' = true) (b1 : k + m ≤ maxLen) (b2 : (k + m) * bytes ≤ 140737488355328) (b3 : base ≤ w.heap.size)
    (hK : ∀ v' w', w'.ownsRow base e size v' (k + m) (xs ++ news) → w.grownBy w' v.ownBlock → (v'.ownBlock = v.ownBlock ∨ v'.ownBlock = some w.heap.size) → (L i = true ∨ S w') ∧ wpAnyS P md ops Q S L fuel (listed.setIfInBounds i true) (a.put (some d) v') w') : wpAnyS P md ops Q S L (fuel + 1) listed a w :=
  take_one hr ho ho2 fun K hK' => by
    obtain ⟨v', w', hrun, r1, r2, _, r4⟩ := run_append_own_at (P := P) w base t o.type e it z size bytes h1 h2 h3 h4 h5 h6 h7 v k xs hown ad m c news hn hc h1c b1 b2 b3
    unfold Oper.wp execOp
    simp only [hop, resolve, invoke, builtin, Sem.run_bind, Sem.run_pure, Result.andThen_ok, List.map_toArray, List.map_cons, List.map_nil, hs, hx, hrun]
    show K (a.put o.dst v') w'
    rw [ho1]
    exact hK' _ _ (hK v' w' r1 r2 r4).1 (hK v' w' r1 r2 r4).2
/-- a slice from k on, its address under a name -/
theorem yields_slice_l {o : Oper} {tm : Array Value} {df : List Deferred} (t e : TypeId) (x lo : Operand) (hop : o.op = .slice t x (some lo) none none) (hw : Region.wanted o (yielded ops tm) = true)
    (a : Option Addr) (N c k z : Nat) (kI : Int) (hx : Act.eval ⟨tm, df⟩ x = .slice a N c) (hlo : Act.eval ⟨tm, df⟩ lo = .int .i64 kI) (hkI : kI = (k : Int)) (hk : k ≤ N) (ht : P.underlying t = some (.slice e)) (i : TypeInfo) (hi : P.info? e = some i) (hz : i.size = z)
    (a' : Option Addr) (ha : a' = if c = k then a else a.map (·.add (k * z))) : YieldsIf P ops S o (.slice a' (N - k) (c - k)) ⟨tm, df⟩ := by
  subst hkI
  have he : P.elem t = e := by simp [Program.elem, ht]
  have ht' : P.underlying t = some (.slice (P.elem t)) := by rw [he]; exact ht
  refine .inl ⟨hw, fun w' _ => ?_⟩
  unfold execOp
  simp only [hop, Option.map_some, Option.map_none]
  simp only [hx, hlo, Sem.run_bind, run_sliceAt_slice (P := P) (w := w') t _ _ _ _ ht', run_slice_l (P := P) (w := w') t a N c ht' .i64 (k : Int) (by omega) (by omega), he, Int.toNat_natCast, sliced, ha]
  simp [sizeOf, typeInfo, hi, hz]
theorem yields_slice_lh {o : Oper} {tm : Array Value} {df : List Deferred} (t e : TypeId) (x lo hh : Operand) (hop : o.op = .slice t x (some lo) (some hh) none) (hw : Region.wanted o (yielded ops tm) = true)
    (a : Option Addr) (N c k l z : Nat) (kI lI : Int) (hx : Act.eval ⟨tm, df⟩ x = .slice a N c) (hlo : Act.eval ⟨tm, df⟩ lo = .int .i64 kI) (hhh : Act.eval ⟨tm, df⟩ hh = .int .i64 lI) (hkI : kI = (k : Int)) (hlI : lI = (l : Int)) (hk : k ≤ l) (hl : l ≤ c) (d c2 : Nat) (hd : l - k = d) (hc2 : c - k = c2) (ht : P.underlying t = some (.slice e)) (i : TypeInfo) (hi : P.info? e = some i) (hz : i.size = z)
    (a' : Option Addr) (ha : a' = if c = k then a else a.map (·.add (k * z))) : YieldsIf P ops S o (.slice a' d c2) ⟨tm, df⟩ := by
  subst hkI hlI hd hc2
  have he : P.elem t = e := by simp [Program.elem, ht]
  have ht' : P.underlying t = some (.slice (P.elem t)) := by rw [he]; exact ht
  refine .inl ⟨hw, fun w' _ => ?_⟩
  unfold execOp
  simp only [hop, Option.map_some, Option.map_none]
  simp only [hx, hlo, hhh, Sem.run_bind, run_sliceAt_slice (P := P) (w := w') t _ _ _ _ ht', run_slice_lh (P := P) (w := w') t a N c ht' .i64 .i64 (k : Int) (l : Int) (by omega) (by omega) (by omega), he, Int.toNat_natCast, sliced, ha]
  simp [sizeOf, typeInfo, hi, hz]
/-- a load of a whole row -/
theorem yields_load_row {o : Oper} {tm : Array Value} {df : List Deferred} (ty : TypeId) (x : Operand) (hop : o.op = .load ty x) (hw : Region.wanted o (yielded ops tm) = true)
    (g : Nat) (hx : Act.eval ⟨tm, df⟩ x = .pointer (some ⟨g, 0, none⟩)) (t : TypeId) (cs : Array Value) (fr : Nat × Nat) (dd : TypeDesc) (hg : ∀ w, S w → w.heap[g]? = some (.cells cs t fr))
    (hu : P.underlying ty = some dd) (hd : (match dd with | .struct _ | .array _ _ => true | _ => false) = true) (hi : (P.info? ty).map (·.size) = some cs.size) : YieldsIf P ops S o (.agg cs) ⟨tm, df⟩ := by
  refine .inl ⟨hw, fun w' h' => ?_⟩
  unfold execOp
  simp only [hop, hx, Instr.loadAt, Instr.sureAddr, Sem.run_bind, Sem.run_pure, Result.andThen_ok, run_loadVar_row w' g t ty cs fr dd (hg w' h') hu hd hi]
end
end Go.Proofs.Ytediledehhcicaa.Turn

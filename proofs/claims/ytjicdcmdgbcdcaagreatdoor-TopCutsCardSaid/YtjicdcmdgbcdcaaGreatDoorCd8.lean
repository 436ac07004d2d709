/-
  Texts, cells and lines in memory, three levels deep: where they lie and what they hold.
  Further words for a drawn region of many operations: slots by their numbers, so that the act stays small.
  All that is known of a number: package ucd and its reference.
  Walks of package seg: joins, picture, conjunct.
  The screen's memory: texts by their blocks' type, cells in a block, rows.
  Walks of package seg: Step.
  The comparisons of texts, cells and lines that are alike: they answer true, and only read.
-/
import Derived.Test.YtjicdcmdgbcdcaaGreatDoorCd1
import Derived.Test.YtjicdcmdgbcdcaaGreatDoorCd2
import Derived.Test.YtjicdcmdgbcdcaaGreatDoorCd4
import Derived.Test.YtjicdcmdgbcdcaaGreatDoorCd5
import Derived.Test.YtjicdcmdgbcdcaaGreatDoorCd6
import Derived.Test.YtjicdcmdgbcdcaaGreatDoorCd7
import Derived.Maps.AppendAt
import Derived.Laws.Tables
import Derived.Deep.QuietTactic
import Derived.BigQuiet
import Derived.Deep.RegionHeld3
section
namespace Go.Proofs.YtjicdcmdgbcdcaaGreatDoor.Ring
set_option linter.unusedSimpArgs false
set_option linter.unusedVariables false
open Go Go.RowKit Mem Turn

abbrev CellC := Int × List Int
abbrev LineC := List CellC × Bool

/-- the slice v reads as the text t; its block is of D; fz: and may be written -/
def TextAt (D : Nat → Prop) (fz : Prop) (w : World) (v : Value) (t : List Int) : Prop :=
  ∃ a c, v = .slice a t.length c ∧ t.length ≤ c ∧ t.length * 4 ≤ 140737488355328 ∧ (t.length = 0 ∨ ∃ b off, a = some ⟨b, off, none⟩ ∧ b < w.heap.size ∧ D b ∧ ∀ (j : Nat) (x : Int), t[j]? = some x → w.cell? ⟨b, off + j, none⟩ = some (.int .i32 x) ∧ (fz → w.frozen? ⟨b, off + j, none⟩ = false))
def CellsAt (D : Nat → Prop) (fz : Prop) (w : World) (v : Value) (cs : List CellC) : Prop :=
  ∃ a c, v = .slice a cs.length c ∧ cs.length ≤ c ∧ cs.length * 32 ≤ 140737488355328 ∧ (cs.length = 0 ∨ ∃ b off, a = some ⟨b, off, none⟩ ∧ b < w.heap.size ∧ D b ∧ ∀ (j : Nat) (x : CellC), cs[j]? = some x → w.cell? ⟨b, off + j * 2, none⟩ = some (.int .i64 x.1) ∧ (fz → w.frozen? ⟨b, off + j * 2, none⟩ = false) ∧
    ∃ tv, w.cell? ⟨b, off + j * 2 + 1, none⟩ = some tv ∧ TextAt D fz w tv x.2)
def LinesAt (D : Nat → Prop) (fz : Prop) (w : World) (v : Value) (ls : List LineC) : Prop :=
  ∃ a c, v = .slice a ls.length c ∧ ls.length ≤ c ∧ (ls.length = 0 ∨ ∃ b off, a = some ⟨b, off, none⟩ ∧ b < w.heap.size ∧ D b ∧ ∀ (j : Nat) (x : LineC), ls[j]? = some x → ∃ cv, w.cell? ⟨b, off + j * 2, none⟩ = some cv ∧ CellsAt D fz w cv x.1 ∧ w.cell? ⟨b, off + j * 2 + 1, none⟩ = some (.bool x.2))

section
variable {D D' : Nat → Prop} {fz : Prop} {w w' : World} {v : Value} {T : Nat → Prop}
theorem TextAt.turn {t : List Int} (h : TextAt D fz w v t) (ht : Turn T w w') (hD : ∀ b, D b → b < w.heap.size → ¬ T b) : TextAt D fz w' v t := by
  obtain ⟨a, c, h1, h2, h3, h4⟩ := h
  refine ⟨a, c, h1, h2, h3, h4.imp id fun ⟨b, off, e, hb, hd, hc⟩ => ⟨b, off, e, Nat.lt_of_lt_of_le hb ht.size, hd, fun j x hx => ?_⟩⟩
  obtain ⟨g1, g2⟩ := hc j x hx
  exact ⟨ht.cell g1 (hD b hd hb), fun f => (ht.frozen hb (hD b hd hb)).trans (g2 f)⟩
theorem CellsAt.turn {cs : List CellC} (h : CellsAt D fz w v cs) (ht : Turn T w w') (hD : ∀ b, D b → b < w.heap.size → ¬ T b) : CellsAt D fz w' v cs := by
  obtain ⟨a, c, h1, h2, h3, h4⟩ := h
  refine ⟨a, c, h1, h2, h3, h4.imp id fun ⟨b, off, e, hb, hd, hc⟩ => ⟨b, off, e, Nat.lt_of_lt_of_le hb ht.size, hd, fun j x hx => ?_⟩⟩
  obtain ⟨g1, g2, tv, g3, g4⟩ := hc j x hx
  exact ⟨ht.cell g1 (hD b hd hb), fun f => (ht.frozen hb (hD b hd hb)).trans (g2 f), tv, ht.cell g3 (hD b hd hb), g4.turn ht hD⟩
theorem LinesAt.turn {ls : List LineC} (h : LinesAt D fz w v ls) (ht : Turn T w w') (hD : ∀ b, D b → b < w.heap.size → ¬ T b) : LinesAt D fz w' v ls := by
  obtain ⟨a, c, h1, h2, h4⟩ := h
  refine ⟨a, c, h1, h2, h4.imp id fun ⟨b, off, e, hb, hd, hc⟩ => ⟨b, off, e, Nat.lt_of_lt_of_le hb ht.size, hd, fun j x hx => ?_⟩⟩
  obtain ⟨cv, g1, g2, g3⟩ := hc j x hx
  exact ⟨cv, ht.cell g1 (hD b hd hb), g2.turn ht hD, ht.cell g3 (hD b hd hb)⟩
theorem TextAt.mono {t : List Int} (h : TextAt D fz w v t) (hD : ∀ b, D b → b < w.heap.size → D' b) : TextAt D' fz w v t := by
  obtain ⟨a, c, h1, h2, h3, h4⟩ := h
  exact ⟨a, c, h1, h2, h3, h4.imp id fun ⟨b, off, e, hb, hd, hc⟩ => ⟨b, off, e, hb, hD b hd hb, hc⟩⟩
theorem CellsAt.mono {cs : List CellC} (h : CellsAt D fz w v cs) (hD : ∀ b, D b → b < w.heap.size → D' b) : CellsAt D' fz w v cs := by
  obtain ⟨a, c, h1, h2, h3, h4⟩ := h
  refine ⟨a, c, h1, h2, h3, h4.imp id fun ⟨b, off, e, hb, hd, hc⟩ => ⟨b, off, e, hb, hD b hd hb, fun j x hx => ?_⟩⟩
  obtain ⟨g1, g2, tv, g3, g4⟩ := hc j x hx
  exact ⟨g1, g2, tv, g3, g4.mono hD⟩
theorem LinesAt.mono {ls : List LineC} (h : LinesAt D fz w v ls) (hD : ∀ b, D b → b < w.heap.size → D' b) : LinesAt D' fz w v ls := by
  obtain ⟨a, c, h1, h2, h4⟩ := h
  refine ⟨a, c, h1, h2, h4.imp id fun ⟨b, off, e, hb, hd, hc⟩ => ⟨b, off, e, hb, hD b hd hb, fun j x hx => ?_⟩⟩
  obtain ⟨cv, g1, g2, g3⟩ := hc j x hx
  exact ⟨cv, g1, g2.mono hD, g3⟩
theorem TextAt.soft {t : List Int} (h : TextAt D fz w v t) : TextAt D False w v t := by
  obtain ⟨a, c, h1, h2, h3, h4⟩ := h
  exact ⟨a, c, h1, h2, h3, h4.imp id fun ⟨b, off, e, hb, hd, hc⟩ => ⟨b, off, e, hb, hd, fun j x hx => ⟨(hc j x hx).1, fun f => f.elim⟩⟩⟩
theorem CellsAt.soft {cs : List CellC} (h : CellsAt D fz w v cs) : CellsAt D False w v cs := by
  obtain ⟨a, c, h1, h2, h3, h4⟩ := h
  refine ⟨a, c, h1, h2, h3, h4.imp id fun ⟨b, off, e, hb, hd, hc⟩ => ⟨b, off, e, hb, hd, fun j x hx => ?_⟩⟩
  obtain ⟨g1, g2, tv, g3, g4⟩ := hc j x hx
  exact ⟨g1, fun f => f.elim, tv, g3, g4.soft⟩
theorem LinesAt.soft {ls : List LineC} (h : LinesAt D fz w v ls) : LinesAt D False w v ls := by
  obtain ⟨a, c, h1, h2, h4⟩ := h
  refine ⟨a, c, h1, h2, h4.imp id fun ⟨b, off, e, hb, hd, hc⟩ => ⟨b, off, e, hb, hd, fun j x hx => ?_⟩⟩
  obtain ⟨cv, g1, g2, g3⟩ := hc j x hx
  exact ⟨cv, g1, g2.soft, g3⟩
theorem TextAt.below {t : List Int} (h : TextAt D fz w v t) (hb : Below w.heap.size w w') : TextAt D fz w' v t := h.turn (Turn.of_new hb : Turn (fun _ => False) w w') (fun _ _ _ => id)
theorem CellsAt.below {cs : List CellC} (h : CellsAt D fz w v cs) (hb : Below w.heap.size w w') : CellsAt D fz w' v cs := h.turn (Turn.of_new hb : Turn (fun _ => False) w w') (fun _ _ _ => id)
theorem LinesAt.below {ls : List LineC} (h : LinesAt D fz w v ls) (hb : Below w.heap.size w w') : LinesAt D fz w' v ls := h.turn (Turn.of_new hb : Turn (fun _ => False) w w') (fun _ _ _ => id)
theorem TextAt.nil (D : Nat → Prop) (fz : Prop) (w : World) : TextAt D fz w (.slice none 0 0) [] := ⟨none, 0, rfl, Nat.le_refl _, by simp, .inl rfl⟩
theorem CellsAt.nil (D : Nat → Prop) (fz : Prop) (w : World) : CellsAt D fz w (.slice none 0 0) [] := ⟨none, 0, rfl, Nat.le_refl _, by simp, .inl rfl⟩
theorem LinesAt.nil (D : Nat → Prop) (fz : Prop) (w : World) : LinesAt D fz w (.slice none 0 0) [] := ⟨none, 0, rfl, Nat.le_refl _, .inl rfl⟩
end

/-- rows of cells, flat: the kind, the text's header -/
def flatC : List (Int × Value) → List Value
  | [] => []
  | r :: l => .int .i64 r.1 :: r.2 :: flatC l
def flatL : List (Value × Bool) → List Value
  | [] => []
  | r :: l => r.1 :: .bool r.2 :: flatL l
theorem flatC_app (a b : List (Int × Value)) : flatC (a ++ b) = flatC a ++ flatC b := by
  induction a with
  | nil => rfl
  | cons r l ih => simp [flatC, ih]
theorem flatL_app (a b : List (Value × Bool)) : flatL (a ++ b) = flatL a ++ flatL b := by
  induction a with
  | nil => rfl
  | cons r l ih => simp [flatL, ih]
theorem flatC_len (a : List (Int × Value)) : (flatC a).length = a.length * 2 := by
  induction a with
  | nil => rfl
  | cons r l ih => simp [flatC, ih]; omega
theorem flatC_get {l : List (Int × Value)} {k : Nat} {r : Int × Value} (h : l[k]? = some r) : (flatC l)[k * 2]? = some (.int .i64 r.1) ∧ (flatC l)[k * 2 + 1]? = some r.2 := by
  induction l generalizing k with
  | nil => cases h
  | cons x l ih =>
    cases k with
    | zero => simp at h; subst h; simp [flatC]
    | succ k =>
      have := ih (k := k) (by simpa using h)
      rw [show (k + 1) * 2 = k * 2 + 1 + 1 from by omega]
      simpa [flatC] using this
/-- the text of each row -/
def TextsOf (D : Nat → Prop) (w : World) (rs : List (Int × Value)) (cs : List CellC) : Prop :=
  rs.length = cs.length ∧ ∀ (j : Nat) (r : Int × Value) (x : CellC), rs[j]? = some r → cs[j]? = some x → r.1 = x.1 ∧ TextAt D True w r.2 x.2
/-- the cells of each row -/
def CellsOf (D : Nat → Prop) (fz : Prop) (w : World) (rs : List (Value × Bool)) (ls : List LineC) : Prop :=
  rs.length = ls.length ∧ ∀ (j : Nat) (r : Value × Bool) (x : LineC), rs[j]? = some r → ls[j]? = some x → r.2 = x.2 ∧ CellsAt D fz w r.1 x.1

theorem addr_none (g j : Nat) : (⟨g, 0, none⟩ : Addr).add j = ⟨g, j, none⟩ := by
  unfold Addr.add
  split
  · rename_i h; rw [h]
  · simp
theorem own_form {w : World} {base : Nat} {e : TypeId} {size n : Nat} {v : Value} {xs : List Value} (h : w.ownsRow base e size v n xs) : ∃ a c, v = .slice a n c ∧ n ≤ c ∧ (n = 0 ∨ ∃ g, a = some ⟨g, 0, none⟩ ∧ v.ownBlock = some g ∧ base ≤ g ∧ g < w.heap.size ∧ (∀ j, w.frozen? ⟨g, j, none⟩ = false) ∧ ∀ j u, xs[j]? = some u → w.cell? ⟨g, j, none⟩ = some u) := by
  rcases h.2 with ⟨rfl, h0⟩ | ⟨g, cap, cur, rfl, hb, hg, hnc, _⟩
  · subst h0
    exact ⟨none, 0, rfl, Nat.le_refl _, .inl rfl⟩
  · refine ⟨_, cap, rfl, hnc, .inr ⟨g, rfl, rfl, hb, (Array.getElem?_eq_some_iff.1 hg).1, fun j => h.frozenAt j, fun j u hu => ?_⟩⟩
    have := h.cells (g := g) rfl j u hu
    rwa [addr_none] at this

end Go.Proofs.YtjicdcmdgbcdcaaGreatDoor.Ring
end
section
namespace Go.Proofs.YtjicdcmdgbcdcaaGreatDoor.Turn
set_option linter.unusedSimpArgs false
set_option linter.unusedVariables false
open Go Go.RowKit

/-- the beginning of a drawn region, its size a number -/
theorem region_begin3 {P : Program} {Q : Exit → Act → World → Prop} (S : World → Prop) (L : Nat → Bool) (n : Nat) {id : Nat} {a : Act} {w : World} {os : List Oper} (hn : os.length = n) (hm : P.follows .mixedOrders = true)
    (hq : ∀ c (a : Act) d v w, Q (.panic c) (a.put d v) w → Q (.panic c) a w)
    (h : (∀ c (a : Act) d v w, Q (.panic c) (a.put d v) w → Q (.panic c) a w) → wpAnyS P .any os.toArray Q S L n (Array.replicate n false) a w.drew) : (Code.region id os.toArray true).wp P Q a w := by
  subst hn
  exact region_begin S L hm (h hq)

section
variable {md : Region.Mode} {ops : Array Oper} {Q : Exit → Act → World → Prop} {S : World → Prop} {L : Nat → Bool} {P : Program}
/-- as 'take_first', the slot that is written by its number -/
theorem take_first2 (i : Nat) (d : Option Tmp) {oi : Oper} {v : Value} {fuel : Nat} {listed : Array Bool} {a : Act} {w : World} (hi : ops[i]? = some oi)
    (hd : oi.dst = d)
    (hs : Region.noSelect ops = true) (hf : Region.free md ops listed i = true) (hr : (Region.ready md ops listed).contains i = true) (hL : waitB md ops L i = true)
    (hQ : ∀ c (a : Act) d v w, Q (.panic c) (a.put d v) w → Q (.panic c) a w) (hS : S w) (hy : YieldsIf P ops S oi v a)
    (h : wpAnyS P md ops Q S L fuel (listed.setIfInBounds i true) (a.put d v) w) : wpAnyS P md ops Q S L (fuel + 1) listed a w := by
  subst hd
  exact take_first hi hs hf hr hL (fun _ _ _ h => hQ _ _ _ _ _ h) hS hy h

/-- as 'take_first2', the slots as an array: the act does not double -/
theorem take_f (i d : Nat) {oi : Oper} {v : Value} {fuel : Nat} {listed : Array Bool} {tm : Array Value} {df : List Deferred} {w : World} (hi : ops[i]? = some oi)
    (hd : oi.dst = some d)
    (hs : Region.noSelect ops = true) (hf : Region.free md ops listed i = true) (hr : (Region.ready md ops listed).contains i = true) (hL : waitB md ops L i = true)
    (hQ : ∀ c (a : Act) d v w, Q (.panic c) (a.put d v) w → Q (.panic c) a w) (hS : S w) (hy : YieldsIf P ops S oi v ⟨tm, df⟩)
    (h : wpAnyS P md ops Q S L fuel (listed.setIfInBounds i true) ⟨tm.setIfInBounds d v, df⟩ w) : wpAnyS P md ops Q S L (fuel + 1) listed ⟨tm, df⟩ w :=
  take_first2 i (some d) hi hd hs hf hr hL hQ hS hy h

/-- a store of a whole row that comes up alone -/
theorem take_store_row (i : Nat) {o : Oper} {fuel : Nat} {listed : Array Bool} {a : Act} {w : World} (hr : Region.ready md ops listed = [i]) (ho : ops[i]? = some o) (ho1 : o.dst = none) (ho2 : o.guard = none)
    (ty : TypeId) (x y : Operand) (ho3 : o.op = .store ty x y) (g : Nat) (cells : Array Value) (hx : a.eval x = .pointer (some ⟨g, 0, none⟩)) (hy : a.eval y = .agg cells)
    (t : TypeId) (old : Array Value) (hg : w.heap[g]? = some (.cells old t (0, 0))) (hi : (P.info? ty).map (·.size) = some cells.size)
    (hold : old.size = cells.size) (h1 : cells.all (·.oneCell') = true) (hLS : L i = true ∨ S (w.setRow g cells))
    (h : wpAnyS P md ops Q S L fuel (listed.setIfInBounds i true) a (w.setRow g cells)) : wpAnyS P md ops Q S L (fuel + 1) listed a w :=
  take_one hr ho ho2 fun K hK => wp_store_row ty x y ho3 g cells hx hy t old hg hi hold h1 (by rw [ho1]; exact hK _ _ hLS h)

/-- an append onto a slice of the call's own that comes up alone; where the new slice lies -/
theorem take_append_at (i d : Nat) {o : Oper} {fuel : Nat} {listed : Array Bool} {a : Act} {w : World} (hr : Region.ready md ops listed = [i]) (ho : ops[i]? = some o) (ho1 : o.dst = some d) (ho2 : o.guard = none)
    (s x : Operand) (t : TypeId) (hop : o.op = Op.call { callee := Callee.builtin Builtin.append, args := #[s, x], argTypes := #[t, t] })
    (base : Nat) (e : TypeId) (it : TypeInfo) (z : Value) (size bytes : Nat) (h1 : P.underlying t = some (.slice e)) (h2 : P.info? e = some it) (h3 : it.zero = some z) (h4 : it.size = size) (h5 : it.bytes = bytes) (h6 : z.cells.size = size) (h7 : 0 < size)
    (v : Value) (k : Nat) (xs : List Value) (hs : a.eval s = v) (hown : w.ownsRow base e size v k xs) (ad : Addr) (m c : Nat) (news : List Value) (hx : a.eval x = .slice (some ad) m c) (hn : news.length = m * size)
    (hc : ∀ j u, news[j]? = some u → w.cell? (ad.add j) = some u) (h1c : ∀ u ∈ news, u.oneCell' = true) (b1 : k + m ≤ maxLen) (b2 : (k + m) * bytes ≤ 140737488355328) (b3 : base ≤ w.heap.size)
    (hK : ∀ v' w', w'.ownsRow base e size v' (k + m) (xs ++ news) → w.grownBy w' v.ownBlock → (v'.ownBlock = v.ownBlock ∨ v'.ownBlock = some w.heap.size) → (L i = true ∨ S w') ∧ wpAnyS P md ops Q S L fuel (listed.setIfInBounds i true) (a.put (some d) v') w') : wpAnyS P md ops Q S L (fuel + 1) listed a w :=
  take_one hr ho ho2 fun K hK' => by
    obtain ⟨v', w', hrun, r1, r2, _, r4⟩ := run_append_own_at (P := P) w base t o.type e it z size bytes h1 h2 h3 h4 h5 h6 h7 v k xs hown ad m c news hn hc h1c b1 b2 b3
    unfold Oper.wp execOp
    simp only [hop, resolve, invoke, builtin, Sem.run_bind, Sem.run_pure, Result.andThen_ok, List.map_toArray, List.map_cons, List.map_nil, hs, hx, hrun]
    show K (a.put o.dst v') w'
    rw [ho1]
    exact hK' _ _ (hK v' w' r1 r2 r4).1 (hK v' w' r1 r2 r4).2
/-- a slice from k on, its address under a name -/
theorem yields_slice_l {o : Oper} {tm : Array Value} {df : List Deferred} (t e : TypeId) (x lo : Operand) (hop : o.op = .slice t x (some lo) none none) (hw : Region.wanted o (yielded ops tm) = true)
    (a : Option Addr) (N c k z : Nat) (kI : Int) (hx : Act.eval ⟨tm, df⟩ x = .slice a N c) (hlo : Act.eval ⟨tm, df⟩ lo = .int .i64 kI) (hkI : kI = (k : Int)) (hk : k ≤ N) (ht : P.underlying t = some (.slice e)) (i : TypeInfo) (hi : P.info? e = some i) (hz : i.size = z)
    (a' : Option Addr) (ha : a' = if c = k then a else a.map (·.add (k * z))) : YieldsIf P ops S o (.slice a' (N - k) (c - k)) ⟨tm, df⟩ := by
  subst hkI
  have he : P.elem t = e := by simp [Program.elem, ht]
  have ht' : P.underlying t = some (.slice (P.elem t)) := by rw [he]; exact ht
  refine .inl ⟨hw, fun w' _ => ?_⟩
  unfold execOp
  simp only [hop, Option.map_some, Option.map_none]
  simp only [hx, hlo, Sem.run_bind, run_sliceAt_slice (P := P) (w := w') t _ _ _ _ ht', run_slice_l (P := P) (w := w') t a N c ht' .i64 (k : Int) (by omega) (by omega), he, Int.toNat_natCast, sliced, ha]
  simp [sizeOf, typeInfo, hi, hz]
/-- a load of a whole row -/
theorem yields_load_row {o : Oper} {tm : Array Value} {df : List Deferred} (ty : TypeId) (x : Operand) (hop : o.op = .load ty x) (hw : Region.wanted o (yielded ops tm) = true)
    (g : Nat) (hx : Act.eval ⟨tm, df⟩ x = .pointer (some ⟨g, 0, none⟩)) (t : TypeId) (cs : Array Value) (fr : Nat × Nat) (dd : TypeDesc) (hg : ∀ w, S w → w.heap[g]? = some (.cells cs t fr))
    (hu : P.underlying ty = some dd) (hd : (match dd with | .struct _ | .array _ _ => true | _ => false) = true) (hi : (P.info? ty).map (·.size) = some cs.size) : YieldsIf P ops S o (.agg cs) ⟨tm, df⟩ := by
  refine .inl ⟨hw, fun w' h' => ?_⟩
  unfold execOp
  simp only [hop, hx, Instr.loadAt, Instr.sureAddr, Sem.run_bind, Sem.run_pure, Result.andThen_ok, run_loadVar_row w' g t ty cs fr dd (hg w' h') hu hd hi]
end
end Go.Proofs.YtjicdcmdgbcdcaaGreatDoor.Turn
end
section
namespace Go.Proofs.YtjicdcmdgbcdcaaGreatDoor.Ucd
set_option linter.unusedSimpArgs false
set_option linter.unusedVariables false
open Go.RowKit Mem Tab

/-- a property as a value -/
def propV (b : Int) (p : Bool) (c e : Int) : Value := .agg #[.int .i64 b, .bool p, .int .i64 c, .int .i64 e]
/-- what is known of r -/
noncomputable def ofV (r : Int) : Value := propV (Gcb.val r) (Pict.isB r) (Conj.val r) (East.val r)

set_option maxHeartbeats 1000000 in
theorem of_any (r : Int) (hr1 : -2147483648 ≤ r) (hr2 : r ≤ 2147483647) (w : World) :
    Calls Tryz.prog 158 #[.int .i32 r] w fun e w' => e = .returned (ofV r) ∧ Below w.heap.size w w' := by
  have C1 := Lib.hid (Gcb.of_any r hr1 hr2)
  have C2 := Lib.hid (Pict.is_any r hr1 hr2)
  have C3 := Lib.hid (Conj.of_any r hr1 hr2)
  have C4 := Lib.hid (East.of_any r hr1 hr2)
  unfold ofV propV
  generalize Gcb.val r = g at *
  generalize Pict.isB r = p at *
  generalize Conj.val r = c at *
  generalize East.val r = e at *
  go_enter Tryz.func158, Tryz.ntmps158
  go_wp2_with fail
  refine (C1.out _).mono ?_; rintro _ w1 ⟨rfl, h1⟩
  go_wp2_with fail
  refine (C2.out _).mono ?_; rintro _ w2 ⟨rfl, h2⟩
  have h2 := h1.trans (h2.mono h1.size)
  clear h1
  go_wp2_with fail
  refine (C3.out _).mono ?_; rintro _ w3 ⟨rfl, h3⟩
  have h3 := h2.trans (h3.mono h2.size)
  clear h2
  go_wp2_with fail
  refine (C4.out _).mono ?_; rintro _ w4 ⟨rfl, h4⟩
  have h4 := h3.trans (h4.mono h3.size)
  clear h3
  have hz : w.heap.size < w4.heap.size := by have := h4.size; simp at this; omega
  have hblk : w4.heap[w.heap.size]? = some (.cells #[.int .i64 0, .bool false, .int .i64 0, .int .i64 0] 224) := by rw [h4.block _ (by simp)]; show (w.heap.push _)[w.heap.size]? = _; simp
  have hbw : Below w.heap.size w w4 := ((Below.refl _ _).alloc (Nat.le_refl _) _).trans (h4.mono (by simp))
  clear h4 C1 C2 C3 C4
  have c0 : w4.cell? ⟨w.heap.size, 0, none⟩ = some (.int .i64 0) := by simp [World.cell?, hblk]
  have c1 : w4.cell? ⟨w.heap.size, 1, none⟩ = some (.bool false) := by simp [World.cell?, hblk]
  have c2 : w4.cell? ⟨w.heap.size, 2, none⟩ = some (.int .i64 0) := by simp [World.cell?, hblk]
  have c3 : w4.cell? ⟨w.heap.size, 3, none⟩ = some (.int .i64 0) := by simp [World.cell?, hblk]
  have fz : ∀ i, w4.frozen? ⟨w.heap.size, i, none⟩ = false := by intro i; simp [World.frozen?, hblk]
  go_wp2
  refine bodyPost_ret (v := .agg #[.int .i64 g, .bool p, .int .i64 c, .int .i64 e]) (by simp [results, Tryz.results158, go_sem, c0, c1, c2, c3]) rfl ⟨rfl, ?_⟩
  exact (((hbw.setCell (Nat.le_refl _) _).setCell (Nat.le_refl _) _).setCell (Nat.le_refl _) _).setCell (Nat.le_refl _) _

end Go.Proofs.YtjicdcmdgbcdcaaGreatDoor.Ucd
end
section
namespace Go.Proofs.YtjicdcmdgbcdcaaGreatDoor.Seg
set_option linter.unusedSimpArgs false
set_option linter.unusedVariables false
open Go.RowKit Mem

theorem ret_int {k : IntKind} {a b : Int} (h : a = b) : Ending.returned (.int k a) = .returned (.int k b) := by rw [h]
theorem ret_bool {a b : Bool} (h : a = b) : Ending.returned (.bool a) = .returned (.bool b) := by rw [h]

def propV (b : Int) (p : Bool) (c e : Int) : Value := .agg #[.int .i64 b, .bool p, .int .i64 c, .int .i64 e]

set_option maxHeartbeats 1000000 in
theorem picture_any (q : Nat) (s : St) (b : Int) (p : Bool) (c e : Int) (w : World) (h : Hid (At w q s)) :
    Calls Tryz.prog 225 #[.pointer (some ⟨q, 0, none⟩), propV b p c e] w fun e' w' => e' = .returned (.int .i64 (pictS s b p)) ∧ Below w.heap.size w w' := by
  have h2 := h.out.pict
  have hlt := h.out.lt
  clear h
  have H : Hid (pictS s b p = if p then 1 else if s.pict == 1 && b == 4 then 1 else if s.pict == 1 && b == 5 then 2 else 0) := rfl
  unfold propV
  generalize s.pict = pi at *
  cases p
  all_goals
    go_enter Tryz.func225, Tryz.ntmps225
    go_wp2
    all_goals (go_ret; refine ⟨ret_int (by rw [H.out]; simp [*]), (Below.refl _ _).alloc (Nat.le_refl _) _⟩)

set_option maxHeartbeats 1000000 in
theorem conjunct_any (q : Nat) (s : St) (b : Int) (p : Bool) (c e : Int) (w : World) (h : Hid (At w q s)) :
    Calls Tryz.prog 226 #[.pointer (some ⟨q, 0, none⟩), propV b p c e] w fun e' w' => e' = .returned (.int .i64 (conjS s c)) ∧ Below w.heap.size w w' := by
  have h2 := h.out.conj
  have hlt := h.out.lt
  clear h
  have H : Hid (conjS s c = if c == 1 then 1 else if s.conj == 0 then 0 else if c == 2 then 2 else if c == 3 then s.conj else 0) := rfl
  unfold propV
  generalize s.conj = ci at *
  go_enter Tryz.func226, Tryz.ntmps226
  go_wp2
  all_goals (go_ret; refine ⟨ret_int (by rw [H.out]; simp [*]), (Below.refl _ _).alloc (Nat.le_refl _) _⟩)

end Go.Proofs.YtjicdcmdgbcdcaaGreatDoor.Seg
end
section
namespace Go.Proofs.YtjicdcmdgbcdcaaGreatDoor.Scr
set_option linter.unusedSimpArgs false
set_option linter.unusedVariables false
open Go Go.RowKit Mem Turn Ring

/-- block b holds cells of type t -/
def Typ (w : World) (t : TypeId) (b : Nat) : Prop := ∃ cs fr, w.heap[b]? = some (.cells cs t fr)
theorem Typ.of {w : World} {t : TypeId} {b : Nat} {cs : Array Value} {fr : Nat × Nat} (h : w.heap[b]? = some (.cells cs t fr)) : Typ w t b := ⟨cs, fr, h⟩
theorem Typ.lt {w : World} {t : TypeId} {b : Nat} (h : Typ w t b) : b < w.heap.size := by
  obtain ⟨cs, fr, h⟩ := h
  exact (Array.getElem?_eq_some_iff.1 h).1
theorem Typ.not {w : World} {t t' : TypeId} {b : Nat} (h : Typ w t b) (hne : t ≠ t') : ¬ Typ w t' b := by
  rintro ⟨cs', fr', h'⟩
  obtain ⟨cs, fr, h⟩ := h
  rw [h] at h'
  injection h' with h'
  injection h' with _ h'
  exact hne h'
theorem Typ.ne {w : World} {t t' : TypeId} {b b' : Nat} (h : Typ w t b) (h' : Typ w t' b') (hne : t ≠ t') : b ≠ b' := fun e => h.not hne (e ▸ h')
theorem Typ.turn {w w' : World} {T : Nat → Prop} {t : TypeId} {b : Nat} (h : Typ w t b) (ht : Turn T w w') (hn : ¬ T b) : Typ w' t b := by
  obtain ⟨cs, fr, h⟩ := h
  exact ⟨cs, fr, ht.heap h hn⟩

/-- no block of T is of type t -/
def Free (T : Nat → Prop) (w : World) (t : TypeId) : Prop := ∀ b, T b → b < w.heap.size → ¬ Typ w t b
theorem Free.no (w : World) (t : TypeId) : Free (fun _ => False) w t := fun _ h => h.elim

/-- a text that nobody writes: its block is of int32 -/
def TxtAt (w : World) (v : Value) (t : List Int) : Prop := TextAt (Typ w 21) False w v t
theorem TxtAt.turn {w w' : World} {T : Nat → Prop} {v : Value} {t : List Int} (h : TxtAt w v t) (ht : Turn T w w') (hT : Free T w 21) : TxtAt w' v t := by
  have hn : ∀ b, Typ w 21 b → b < w.heap.size → ¬ T b := fun b hb hl hb2 => hT b hb2 hl hb
  obtain ⟨a, c, e, h2, h3, h4⟩ := TextAt.turn h ht hn
  exact ⟨a, c, e, h2, h3, h4.imp id fun ⟨b, off, k1, k2, k3, k4⟩ => ⟨b, off, k1, k2, k3.turn ht (hn b k3 k3.lt), k4⟩⟩
theorem TxtAt.any {w : World} {v : Value} {t : List Int} (h : TxtAt w v t) : TextAt (fun _ => True) False w v t := TextAt.mono h (fun _ _ _ => trivial)
theorem TxtAt.nil (w : World) : TxtAt w (.slice none 0 0) [] := TextAt.nil _ _ _
/-- a slice of the call's own is such a text -/
theorem TxtAt.own {w : World} {base n : Nat} {v : Value} {t : List Int} (h : w.ownsRow base 21 1 v n (t.map (Value.int .i32))) (hs : t.length * 4 ≤ 140737488355328) : TxtAt w v t := by
  have hl : t.length = n := by have := h.1; simp at this; omega
  obtain ⟨a, c, rfl, h2, h3⟩ := own_form h
  subst hl
  refine ⟨a, c, rfl, h2, hs, h3.imp id fun ⟨g, e, e2, hb, hg, hf, hc⟩ => ⟨g, 0, e, hg, ?_, fun j x hx => ⟨by rw [Nat.zero_add]; exact hc j _ (by rw [List.getElem?_map, hx]; rfl), fun f => f.elim⟩⟩⟩
  rcases h.2 with ⟨h5, _⟩ | ⟨g', cap, cur, h5, _, h6, _⟩
  · rw [h5] at e2; cases e2
  · rw [h5] at e2
    injection (show some g' = some g from e2) with e2
    subst e2
    exact ⟨_, _, h6⟩

/-- the texts of cells' rows -/
def Txts (w : World) (rs : List (Int × Value)) (cs : List CellC) : Prop :=
  rs.length = cs.length ∧ ∀ (j : Nat) (r : Int × Value) (x : CellC), rs[j]? = some r → cs[j]? = some x → r.1 = x.1 ∧ TxtAt w r.2 x.2
theorem Txts.turn {w w' : World} {T : Nat → Prop} {rs : List (Int × Value)} {cs : List CellC} (h : Txts w rs cs) (ht : Turn T w w') (hT : Free T w 21) : Txts w' rs cs :=
  ⟨h.1, fun j r x hr hx => ⟨(h.2 j r x hr hx).1, (h.2 j r x hr hx).2.turn ht hT⟩⟩
/-- block κ holds the cells cs -/
def CellsIn (w : World) (κ : Nat) (cs : List CellC) : Prop := ∃ rs, w.heap[κ]? = some (.cells (flatC rs).toArray 80 (0, 0)) ∧ Txts w rs cs
theorem CellsIn.typ {w : World} {κ : Nat} {cs : List CellC} (h : CellsIn w κ cs) : Typ w 80 κ := by
  obtain ⟨rs, h, _⟩ := h
  exact ⟨_, _, h⟩
theorem CellsIn.turn {w w' : World} {T : Nat → Prop} {κ : Nat} {cs : List CellC} (h : CellsIn w κ cs) (ht : Turn T w w') (hT : Free T w 21) (hk : ¬ T κ) : CellsIn w' κ cs := by
  obtain ⟨rs, h1, h2⟩ := h
  exact ⟨rs, ht.heap h1 hk, h2.turn ht hT⟩

/-- a row: its block ρ, its cells' block κ -/
structure RowAt (w : World) (ρ κ : Nat) (l : LineC) : Prop where
  hdr : w.heap[ρ]? = some (.cells #[.slice (some ⟨κ, 0, none⟩) l.1.length l.1.length, .bool l.2] 198 (0, 0))
  cells : CellsIn w κ l.1
  pos : 1 ≤ l.1.length
  le : l.1.length ≤ 1024
theorem RowAt.turn {w w' : World} {T : Nat → Prop} {ρ κ : Nat} {l : LineC} (h : RowAt w ρ κ l) (ht : Turn T w w') (hT : Free T w 21) (h1 : ¬ T ρ) (h2 : ¬ T κ) : RowAt w' ρ κ l := ⟨ht.heap h.hdr h1, h.cells.turn ht hT h2, h.pos, h.le⟩
theorem RowAt.typ {w : World} {ρ κ : Nat} {l : LineC} (h : RowAt w ρ κ l) : Typ w 198 ρ := ⟨_, _, h.hdr⟩
theorem RowAt.ne {w : World} {ρ κ : Nat} {l : LineC} (h : RowAt w ρ κ l) : ρ ≠ κ := h.typ.ne h.cells.typ (by decide)
/-- what a row's own calls turn is no text -/
theorem RowAt.free {w : World} {ρ κ : Nat} {l : LineC} (h : RowAt w ρ κ l) : Free (fun b => b = ρ ∨ b = κ) w 21 := by
  rintro b (rfl | rfl) _
  · exact h.typ.not (by decide)
  · exact h.cells.typ.not (by decide)

end Go.Proofs.YtjicdcmdgbcdcaaGreatDoor.Scr
end
section
namespace Go.Proofs.YtjicdcmdgbcdcaaGreatDoor.Seg
set_option linter.unusedSimpArgs false
set_option linter.unusedVariables false
open Go.RowKit Mem

theorem pjoin (a b : Int) (w : World) : Calls Tryz.prog 275 #[.int .i64 a, .int .i64 b] w fun e w' => e = .returned (.int .i64 (Pairs.pj (Pairs.cls a) (Pairs.cls b))) ∧ w' = w :=
  (Pairs.join_any a b w).mono fun _ _ ⟨h1, h2⟩ => ⟨h1, h2.symm⟩

set_option maxHeartbeats 2000000 in
theorem joins_any (q : Nat) (s : St) (b : Int) (p : Bool) (c e : Int) (w : World) (h : Hid (At w q s)) :
    Calls Tryz.prog 224 #[.pointer (some ⟨q, 0, none⟩), propV b p c e] w fun e' w' => e' = .returned (.bool (joinB s b p c)) ∧ Below w.heap.size w w' := by
  have h0 := h.out.some
  have h1 := h.out.last
  have h2 := h.out.pict
  have h3 := h.out.conj
  have h4 := h.out.odd
  have hlt := h.out.lt
  clear h
  have H : Hid (joinB s b p c = (s.some && ((c == 1 && s.conj == 2) || (p && s.pict == 2) || (Pairs.pj (Pairs.cls s.last) (Pairs.cls b) == 1) || (Pairs.pj (Pairs.cls s.last) (Pairs.cls b) == 2 && s.last == 6 && s.odd)))) := rfl
  unfold propV
  have J := Lib.hid (pjoin s.last b)
  generalize s.pict = pi at *
  generalize s.conj = ci at *
  generalize s.odd = od at *
  generalize Pairs.pj (Pairs.cls s.last) (Pairs.cls b) = j at *
  generalize s.last = la at *
  generalize s.some = so at *
  cases so
  · go_enter Tryz.func224, Tryz.ntmps224
    go_wp2
    go_ret
    exact ⟨ret_bool (by rw [H.out]; rfl), (Below.refl _ _).alloc (Nat.le_refl _) _⟩
  · cases p
    all_goals
      go_enter Tryz.func224, Tryz.ntmps224
      go_wp2
      all_goals
        first
          | (go_ret
             exact ⟨ret_bool (by rw [H.out]; simp [*]), (Below.refl _ _).alloc (Nat.le_refl _) _⟩)
          | (go_quiet ((go_at_call 275; exact Calls.quiet_of_same (J.out _)))
             go_wp2
             all_goals
               go_ret
               exact ⟨ret_bool (by rw [H.out]; simp [*]), ((Below.refl _ _).alloc (Nat.le_refl _) _).trans ((bdrew _ _).mono (by simp))⟩)

end Go.Proofs.YtjicdcmdgbcdcaaGreatDoor.Seg
end
section
namespace Go.Proofs.YtjicdcmdgbcdcaaGreatDoor.Ring
set_option linter.unusedSimpArgs false
set_option linter.unusedVariables false
open Go Go.RowKit Mem Turn

set_option maxRecDepth 100000 in
set_option maxHeartbeats 4000000 in
theorem same01 (D E : Nat → Prop) (u v : Value) (t : List Int) (w : World) (hu : TextAt D False w u t) (hv : TextAt E False w v t) :
    Calls Tryz.prog 25 #[u, v] w fun e w' => e = .returned (.bool true) ∧ ∃ d, w' = w.drewN d := by
  obtain ⟨a, c, rfl, ha, h4, h1⟩ := hu
  obtain ⟨b, d, rfl, hb, _, h2⟩ := hv
  have H1 := Lib.hid h1
  have H2 := Lib.hid h2
  obtain ⟨n, hn⟩ : ∃ n, t.length = n := ⟨_, rfl⟩
  have HN := Lib.hid hn
  rw [hn] at ha hb h4 ⊢
  have hn2 : n ≤ 40000000000000 := by omega
  have e0 : ((n : Int) != (n : Int)) = false := by simp
  clear h1 h2 hn h4
  go_enter Tryz.func25, Tryz.ntmps25
  go_wp2_with fail
  go_loopw [5] (fun i wr => ∃ k : Nat, k ≤ n ∧ i = .int .i64 k ∧ Hid (∃ q, wr = w.drewN q)) (fun i _ => n - (intOf i).toNat)
  case atStart => exact ⟨0, Nat.zero_le _, rfl, Lib.hid ⟨0, rfl⟩⟩
  case round =>
    obtain ⟨k, hk, rfl, H⟩ := hrel
    obtain ⟨q, rfl⟩ := H.out
    by_cases hlt : k < n
    · obtain ⟨b1, o1, rfl, _, _, c1⟩ := H1.out.resolve_left (by rw [HN.out]; omega)
      obtain ⟨b2, o2, rfl, _, _, c2⟩ := H2.out.resolve_left (by rw [HN.out]; omega)
      obtain ⟨x, hx⟩ : ∃ x, t[k]? = some x := ⟨_, List.getElem?_eq_getElem (by rw [HN.out]; exact hlt)⟩
      have q1 : (w.drewN q).cell? ⟨b1, o1 + k, none⟩ = some (.int .i32 x) := (c1 k x hx).1
      have q2 : (w.drewN q).cell? ⟨b2, o2 + k, none⟩ = some (.int .i32 x) := (c2 k x hx).1
      have hlt' : (k : Int) < n := by omega
      have hk0 : (0 : Int) ≤ (k : Int) := by omega
      have exy : (x != x) = false := by simp
      clear c1 c2 hx H
      generalize hw1 : w.drewN q = w1 at *
      have HW1 := Lib.hid hw1
      clear hw1
      go_wp2_with fail
      go_quiet (fail)
      go_wp2_with fail
      go_roundw
      case rel => exact ⟨k + 1, by omega, by go_num, Lib.hid (by rw [← HW1.out, World.drewN_drewN]; exact ⟨_, rfl⟩)⟩
      case measure => simp [intOf]; omega
    · obtain rfl : k = n := by omega
      go_wp2_with fail
      go_ret
      exact ⟨rfl, _, rfl⟩

set_option maxRecDepth 100000 in
set_option maxHeartbeats 4000000 in
theorem same23 (D E : Nat → Prop) (u v : Value) (t : List CellC) (w : World) (hu : CellsAt D False w u t) (hv : CellsAt E False w v t) :
    Calls Tryz.prog 102 #[u, v] w fun e w' => e = .returned (.bool true) ∧ ∃ d, w' = w.drewN d := by
  obtain ⟨a, c, rfl, ha, h4, h1⟩ := hu
  obtain ⟨b, d, rfl, hb, _, h2⟩ := hv
  have H1 := Lib.hid h1
  have H2 := Lib.hid h2
  obtain ⟨n, hn⟩ : ∃ n, t.length = n := ⟨_, rfl⟩
  have HN := Lib.hid hn
  rw [hn] at ha hb h4 ⊢
  have hn2 : n ≤ 40000000000000 := by omega
  have e0 : ((n : Int) != (n : Int)) = false := by simp
  clear h1 h2 hn h4
  go_enter Tryz.func102, Tryz.ntmps102
  go_wp2_with fail
  go_loopw [5] (fun i wr => ∃ k : Nat, k ≤ n ∧ i = .int .i64 k ∧ Hid (∃ q, wr = w.drewN q)) (fun i _ => n - (intOf i).toNat)
  case atStart => exact ⟨0, Nat.zero_le _, rfl, Lib.hid ⟨0, rfl⟩⟩
  case round =>
    obtain ⟨k, hk, rfl, H⟩ := hrel
    obtain ⟨q, rfl⟩ := H.out
    by_cases hlt : k < n
    · obtain ⟨b1, o1, rfl, _, _, c1⟩ := H1.out.resolve_left (by rw [HN.out]; omega)
      obtain ⟨b2, o2, rfl, _, _, c2⟩ := H2.out.resolve_left (by rw [HN.out]; omega)
      obtain ⟨x, hx⟩ : ∃ x, t[k]? = some x := ⟨_, List.getElem?_eq_getElem (by rw [HN.out]; exact hlt)⟩
      obtain ⟨q1, _, t1, r1, s1⟩ := c1 k x hx
      obtain ⟨q2, _, t2, r2, s2⟩ := c2 k x hx
      have CS := Lib.hid (fun (m : Nat) => same01 D E t1 t2 x.2 ((w.drewN q).drewN m) ((s1.below (bdrew w q)).below (bdrew _ m)) ((s2.below (bdrew w q)).below (bdrew _ m)))
      have q1 : (w.drewN q).cell? ⟨b1, o1 + k * 2, none⟩ = some (.int .i64 x.1) := q1
      have q2 : (w.drewN q).cell? ⟨b2, o2 + k * 2, none⟩ = some (.int .i64 x.1) := q2
      have r1 : (w.drewN q).cell? ⟨b1, o1 + k * 2 + 1, none⟩ = some t1 := r1
      have r2 : (w.drewN q).cell? ⟨b2, o2 + k * 2 + 1, none⟩ = some t2 := r2
      obtain ⟨at1, ct1, rfl, _⟩ := s1
      obtain ⟨at2, ct2, rfl, _⟩ := s2
      have hlt' : (k : Int) < n := by omega
      have hk0 : (0 : Int) ≤ (k : Int) := by omega
      have exy : (x.1 != x.1) = false := by simp
      clear c1 c2 hx H
      generalize x.2.length = tl at *
      generalize x.1 = kd at *
      generalize hw1 : w.drewN q = w1 at *
      have HW1 := Lib.hid hw1
      clear hw1
      go_wp2_with fail
      go_quiet ((go_at_call 25; exact Calls.quiet_of (CS.out _)))
      go_wp2_with fail
      go_roundw
      case rel => exact ⟨k + 1, by omega, by go_num, Lib.hid (by rw [← HW1.out, World.drewN_drewN]; exact ⟨_, rfl⟩)⟩
      case measure => simp [intOf]; omega
    · obtain rfl : k = n := by omega
      go_wp2_with fail
      go_ret
      exact ⟨rfl, _, rfl⟩

set_option maxRecDepth 100000 in
set_option maxHeartbeats 4000000 in
theorem same32 (D E : Nat → Prop) (u v : Value) (t : List LineC) (w : World) (hu : LinesAt D False w u t) (hv : LinesAt E False w v t) (hn : t.length ≤ 100000) :
    Calls Tryz.prog 54 #[u, v] w fun e w' => e = .returned (.bool true) ∧ ∃ d, w' = w.drewN d := by
  obtain ⟨a, c, rfl, ha, h1⟩ := hu
  obtain ⟨b, d, rfl, hb, h2⟩ := hv
  have H1 := Lib.hid h1
  have H2 := Lib.hid h2
  obtain ⟨n, hnn⟩ : ∃ n, t.length = n := ⟨_, rfl⟩
  have HN := Lib.hid hnn
  rw [hnn] at ha hb hn ⊢
  have e0 : ((n : Int) != (n : Int)) = false := by simp
  clear h1 h2 hnn
  go_enter Tryz.func54, Tryz.ntmps54
  go_wp2_with fail
  go_loopw [5] (fun i wr => ∃ k : Nat, k ≤ n ∧ i = .int .i64 k ∧ Hid (∃ q, wr = w.drewN q)) (fun i _ => n - (intOf i).toNat)
  case atStart => exact ⟨0, Nat.zero_le _, rfl, Lib.hid ⟨0, rfl⟩⟩
  case round =>
    obtain ⟨k, hk, rfl, H⟩ := hrel
    obtain ⟨q, rfl⟩ := H.out
    by_cases hlt : k < n
    · obtain ⟨b1, o1, rfl, _, _, c1⟩ := H1.out.resolve_left (by rw [HN.out]; omega)
      obtain ⟨b2, o2, rfl, _, _, c2⟩ := H2.out.resolve_left (by rw [HN.out]; omega)
      obtain ⟨x, hx⟩ : ∃ x, t[k]? = some x := ⟨_, List.getElem?_eq_getElem (by rw [HN.out]; exact hlt)⟩
      obtain ⟨t1, r1, s1, q1⟩ := c1 k x hx
      obtain ⟨t2, r2, s2, q2⟩ := c2 k x hx
      have CS := Lib.hid (fun (m : Nat) => same23 D E t1 t2 x.1 ((w.drewN q).drewN m) ((s1.below (bdrew w q)).below (bdrew _ m)) ((s2.below (bdrew w q)).below (bdrew _ m)))
      have q1 : (w.drewN q).cell? ⟨b1, o1 + k * 2 + 1, none⟩ = some (.bool x.2) := q1
      have q2 : (w.drewN q).cell? ⟨b2, o2 + k * 2 + 1, none⟩ = some (.bool x.2) := q2
      have r1 : (w.drewN q).cell? ⟨b1, o1 + k * 2, none⟩ = some t1 := r1
      have r2 : (w.drewN q).cell? ⟨b2, o2 + k * 2, none⟩ = some t2 := r2
      obtain ⟨at1, ct1, rfl, _⟩ := s1
      obtain ⟨at2, ct2, rfl, _⟩ := s2
      have hlt' : (k : Int) < n := by omega
      have hk0 : (0 : Int) ≤ (k : Int) := by omega
      have exy : (x.2 != x.2) = false := by simp
      clear c1 c2 hx H
      generalize x.1.length = tl at *
      generalize x.2 = kd at *
      generalize hw1 : w.drewN q = w1 at *
      have HW1 := Lib.hid hw1
      clear hw1
      go_wp2_with fail
      go_quiet ((go_at_call 102; exact Calls.quiet_of (CS.out _)))
      go_wp2_with fail
      go_roundw
      case rel => exact ⟨k + 1, by omega, by go_num, Lib.hid (by rw [← HW1.out, World.drewN_drewN]; exact ⟨_, rfl⟩)⟩
      case measure => simp [intOf]; omega
    · obtain rfl : k = n := by omega
      go_wp2_with fail
      go_ret
      exact ⟨rfl, _, rfl⟩
end Go.Proofs.YtjicdcmdgbcdcaaGreatDoor.Ring
end

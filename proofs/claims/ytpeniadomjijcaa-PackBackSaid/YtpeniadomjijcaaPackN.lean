/-
  What a table of blocks is made of, in memory.
-/
import Derived.Test.YtpeniadomjijcaaPackA
import Derived.Great.BuildSlice
import Derived.Great.FillDense
namespace Go.Proofs.Ytpeniadomjijcaa.Pack
set_option linter.unusedSimpArgs false
set_option linter.unusedVariables false
open Go Go.RowKit Mem Turn

theorem info_block : (Try.prog.info? 51).map (fun i => (i.zero, i.size, i.bytes)) = some (some (.agg (Array.replicate 256 (.int .u16 0))), 256, 512) := by kernel_rfl
theorem size_block : (Try.prog.info? 51).map (·.size) = some 256 := by kernel_rfl
theorem info_table : (Try.prog.info? 46).map (fun i => (i.zero, i.size)) = some (some (.agg (List.replicate 4352 (Value.int .u16 0) ++ [Value.slice none 0 0]).toArray), 4353) := by kernel_rfl

/-- the beginning of a drawn region; that a panic looks at no slot is shown once -/
theorem region_begin2 {P : Program} {Q : Exit → Act → World → Prop} (S : World → Prop) (L : Nat → Bool) {id : Nat} {a : Act} {w : World} {os : List Oper} (hm : P.follows .mixedOrders = true)
    (hq : ∀ c (a : Act) d v w, Q (.panic c) (a.put d v) w → Q (.panic c) a w)
    (h : (∀ c (a : Act) d v w, Q (.panic c) (a.put d v) w → Q (.panic c) a w) → Turn.wpAnyS P .any os.toArray Q S L os.toArray.size (Array.replicate os.toArray.size false) a w.drew) : (Code.region id os.toArray true).wp P Q a w :=
  region_begin S L hm (h hq)

/-- what a load of a whole row yields -/
theorem yields_row {P : Program} {o : Oper} {f : Operand → Value} {w : World} (ty : TypeId) (x : Operand) (ho : o.op = .load ty x)
    (g : Nat) (hx : f x = .pointer (some ⟨g, 0, none⟩)) (t : TypeId) (cs : Array Value) (fr : Nat × Nat) (d : TypeDesc) (hg : w.heap[g]? = some (.cells cs t fr))
    (hu : P.underlying ty = some d) (hd : (match d with | .struct _ | .array _ _ => true | _ => false) = true) (hi : (P.info? ty).map (·.size) = some cs.size) :
    (execOp f o).run P w = .ok (.value (.agg cs)) w := by
  unfold execOp
  simp only [ho, hx, Instr.loadAt, Instr.sureAddr, Sem.run_bind, Sem.run_pure, Result.andThen_ok, run_loadVar_row w g t ty cs fr d hg hu hd hi]

/-- the beginning of a drawn region, its size a number -/
theorem region_begin3 {P : Program} {Q : Exit → Act → World → Prop} (S : World → Prop) (L : Nat → Bool) (n : Nat) {id : Nat} {a : Act} {w : World} {os : List Oper} (hn : os.length = n) (hm : P.follows .mixedOrders = true)
    (hq : ∀ c (a : Act) d v w, Q (.panic c) (a.put d v) w → Q (.panic c) a w)
    (h : (∀ c (a : Act) d v w, Q (.panic c) (a.put d v) w → Q (.panic c) a w) → Turn.wpAnyS P .any os.toArray Q S L n (Array.replicate n false) a w.drew) : (Code.region id os.toArray true).wp P Q a w := by
  subst hn
  exact region_begin S L hm (h hq)

/-- as 'take_first', the slot that is written by its number -/
theorem take_first2 {P : Program} {md : Region.Mode} {ops : Array Oper} {Q : Exit → Act → World → Prop} {S : World → Prop} {L : Nat → Bool} (i : Nat) (d : Option Tmp) {oi : Oper} {v : Value} {fuel : Nat} {listed : Array Bool} {a : Act} {w : World} (hi : ops[i]? = some oi)
    (hd : oi.dst = d)
    (hs : Region.noSelect ops = true) (hf : Region.free md ops listed i = true) (hr : (Region.ready md ops listed).contains i = true) (hL : waitB md ops L i = true)
    (hQ : ∀ c (a : Act) d v w, Q (.panic c) (a.put d v) w → Q (.panic c) a w) (hS : S w) (hy : YieldsIf P ops S oi v a)
    (h : Turn.wpAnyS P md ops Q S L fuel (listed.setIfInBounds i true) (a.put d v) w) : Turn.wpAnyS P md ops Q S L (fuel + 1) listed a w := by
  subst hd
  exact take_first hi hs hf hr hL (fun _ _ _ h => hQ _ _ _ _ _ h) hS hy h

/-- a slot that was not written -/
theorem eval_put_ne {a : Act} {d t : Nat} {v : Value} (h : d ≠ t) : (a.put (some d) v).eval (.tmp t) = a.eval (.tmp t) := by
  unfold Act.put Act.eval
  simp only [Array.getD_eq_getD_getElem?, Array.getElem?_setIfInBounds_ne h]

theorem size_put {a : Act} {d : Option Tmp} {v : Value} : (a.put d v).tmps.size = a.tmps.size := by
  unfold Act.put
  cases d <;> simp

/-- the slot that was written -/
theorem eval_put_eq {a : Act} {d : Nat} {v : Value} (h : d < a.tmps.size) : (a.put (some d) v).eval (.tmp d) = v := by
  unfold Act.put Act.eval
  simp only [Array.getD_eq_getD_getElem?, Array.getElem?_setIfInBounds_self_of_lt h, Option.getD_some]

/-- the values of blocks, one behind another -/
def flat : List (List Int) → List Value
  | [] => []
  | x :: r => x.map (Value.int .u16) ++ flat r
theorem flat_app (a b : List (List Int)) : flat (a ++ b) = flat a ++ flat b := by
  induction a with
  | nil => rfl
  | cons x r ih => simp [flat, ih]

/-- the number of a block among those that are there, or a new one -/
def num (x : List Int) (bs : List (List Int)) : List (List Int) × Nat := if x ∈ bs then (bs, bs.idxOf x) else (bs ++ [x], bs.length)

def BAt (w : World) (qb : Nat) (rest : Value) (kb eb qt : Nat) : Prop :=
  w.heap[qb]? = some (.cells #[rest, .map (some kb), .map (some eb), .pointer (some ⟨qt, 0, none⟩)] 48 (0, 0))
def TAt (w : World) (qt base : Nat) (fs : List Nat) (bs : List (List Int)) : Prop :=
  ∃ (fc : List Value) (bv : Value), w.heap[qt]? = some (.cells (fc ++ [bv]).toArray 46 (0, 0)) ∧ fc.length = 4352 ∧ (∀ (p n : Nat), fs[p]? = some n → fc[p]? = some (.int .u16 (n : Int))) ∧
    w.ownsRow base 51 256 bv bs.length (flat bs)

theorem BAt.turn {w w' : World} {qb kb eb qt : Nat} {rest : Value} {T : Nat → Prop} (h : BAt w qb rest kb eb qt) (ht : Turn T w w') (hn : ¬ T qb) : BAt w' qb rest kb eb qt := ht.heap h hn
theorem BAt.c0 {w : World} {qb kb eb qt : Nat} {rest : Value} (h : BAt w qb rest kb eb qt) : w.cell? ⟨qb, 0, none⟩ = some rest := by have h' : w.heap[qb]? = _ := h; simp [World.cell?, h']
theorem BAt.c1 {w : World} {qb kb eb qt : Nat} {rest : Value} (h : BAt w qb rest kb eb qt) : w.cell? ⟨qb, 1, none⟩ = some (.map (some kb)) := by have h' : w.heap[qb]? = _ := h; simp [World.cell?, h']
theorem BAt.c2 {w : World} {qb kb eb qt : Nat} {rest : Value} (h : BAt w qb rest kb eb qt) : w.cell? ⟨qb, 2, none⟩ = some (.map (some eb)) := by have h' : w.heap[qb]? = _ := h; simp [World.cell?, h']
theorem BAt.c3 {w : World} {qb kb eb qt : Nat} {rest : Value} (h : BAt w qb rest kb eb qt) : w.cell? ⟨qb, 3, none⟩ = some (.pointer (some ⟨qt, 0, none⟩)) := by have h' : w.heap[qb]? = _ := h; simp [World.cell?, h']
theorem KAt.turn {w w' : World} {kb : Nat} {bs : List (List Int)} {T : Nat → Prop} (h : KAt w kb bs) (ht : Turn T w w') (hn : ¬ T kb) : KAt w' kb bs := by
  obtain ⟨es, clk, h1, h2⟩ := h
  exact ⟨es, clk, ht.heap h1 hn, h2⟩
theorem KAt.drew {w : World} {kb : Nat} {bs : List (List Int)} (h : KAt w kb bs) : KAt w.drew kb bs := h
theorem EAt.turn {w w' : World} {eb : Nat} {ev : List (Int × Int)} {T : Nat → Prop} (h : EAt w eb ev) (ht : Turn T w w') (hn : ¬ T eb) : EAt w' eb ev := by
  obtain ⟨es, clk, h1, h2⟩ := h
  exact ⟨es, clk, ht.heap h1 hn, h2⟩
theorem TAt.turn {w w' : World} {qt base : Nat} {fs : List Nat} {bs : List (List Int)} {T : Nat → Prop} (h : TAt w qt base fs bs) (ht : Turn T w w') (hn : ¬ T qt) (hT : ∀ j, base ≤ j → ¬ T j) : TAt w' qt base fs bs := by
  obtain ⟨fc, bv, h1, h2, h3, h4⟩ := h
  exact ⟨fc, bv, ht.heap h1 hn, h2, h3, ht.kept h4 (fun g hg => hT g (h4.lt g hg).1)⟩

theorem set_last {w : World} {q : Nat} {T : TypeId} {fc : List Value} {bv : Value} (h : w.heap[q]? = some (.cells (fc ++ [bv]).toArray T (0, 0))) (v : Value) :
    (w.setCell ⟨q, fc.length, none⟩ v).heap[q]? = some (.cells (fc ++ [v]).toArray T (0, 0)) := by
  simp only [World.setCell, Array.getElem?_modify]
  rw [if_pos trivial, h]
  simp
theorem row_cells {w : World} {b : Nat} {T : TypeId} {xs : List Value} (h : w.heap[b]? = some (.cells xs.toArray T (0, 0))) : ∀ (j : Nat) (u : Value), xs[j]? = some u → w.cell? ((⟨b, 0, none⟩ : Addr).add j) = some u := by
  intro j u hj
  have e : (⟨b, 0, none⟩ : Addr).add j = ⟨b, j, none⟩ := by
    unfold Addr.add
    cases j <;> simp
  rw [e]
  simp [World.cell?, h, hj]
theorem one16 (x : List Int) : ∀ u ∈ x.map (Value.int .u16), u.oneCell' = true := by
  intro u hu
  obtain ⟨y, _, rfl⟩ := List.mem_map.1 hu
  rfl

theorem fill_one (x : List Int) (hx : x.length = 256) (cells : Array Value) (hc : cells.size = 256) : Instr.fill (fun i => some (i * 256, 256)) cells [(0, .agg (arr x))] = some (arr x) := by
  have h := Go.Great.fill_whole (s := 256) (by omega) [Value.agg (arr x)] cells (by intro v hv; rw [List.mem_singleton] at hv; subst hv; show (arr x).size = 256; rw [arr_size, hx]) (by rw [hc, List.length_singleton, Nat.one_mul])
  have e : ([Value.agg (arr x)].zipIdx 0).map (fun p => (p.2, p.1)) = [(0, Value.agg (arr x))] := rfl
  rw [e] at h
  rw [h]
  have e2 : ([Value.agg (arr x)].flatMap fun v => v.cells.toList).toArray = arr x := by
    rw [List.flatMap_cons, List.flatMap_nil, List.append_nil]
    show (arr x).toList.toArray = arr x
    simp
  rw [e2]

/-- a slice of one block -/
theorem wp_build1 {o : Oper} {a : Act} {w : World} {K : Act → World → Prop} {Q : Exit → Act → World → Prop} (s : Operand) (ho : o.op = .buildSlice 44 1 #[(0, s)]) (x : List Int) (hx : x.length = 256) (he : a.eval s = .agg (arr x))
    (h : K (a.put o.dst (.slice (some ⟨w.heap.size, 0, none⟩) 1 1)) (w.alloc (.cells (arr x) 51))) : o.wp Try.prog a w K Q := by
  obtain ⟨ib, hib, hb0, hb1, hb2⟩ := info_parts info_block
  refine wp_buildSlice 44 51 1 _ ho (arr x) ib _ Try.underlying44 hib hb0 (by rw [hb1]; decide) (by rw [hb1]; decide) ?_ h
  rw [hb1]
  have e : (Array.map (fun (x : Nat × Operand) => match x with | (i, x) => (i, a.eval x)) #[(0, s)]).toList = [(0, .agg (arr x))] := by simp [he]
  rw [e]
  exact fill_one x hx _ (by rw [Array.size_map, Array.size_range])

section
variable {md : Region.Mode} {ops : Array Oper} {Q : Exit → Act → World → Prop} {S : World → Prop} {L : Nat → Bool}
/-- in a drawn region: a load of a whole row that comes up alone -/
theorem take_row {P : Program} (i d : Nat) {o : Oper} {fuel : Nat} {listed : Array Bool} {a : Act} {w : World} (hr : Region.ready md ops listed = [i]) (ho : ops[i]? = some o) (ho1 : o.dst = some d) (ho2 : o.guard = none)
    (ty : TypeId) (x : Operand) (ho3 : o.op = .load ty x)
    (g : Nat) (hx : a.eval x = .pointer (some ⟨g, 0, none⟩)) (t : TypeId) (cs : Array Value) (fr : Nat × Nat) (dd : TypeDesc) (hg : w.heap[g]? = some (.cells cs t fr))
    (hu : P.underlying ty = some dd) (hd : (match dd with | .struct _ | .array _ _ => true | _ => false) = true) (hi : (P.info? ty).map (·.size) = some cs.size)
    (hLS : L i = true ∨ S w) (h : Turn.wpAnyS P md ops Q S L fuel (listed.setIfInBounds i true) (a.put (some d) (.agg cs)) w) : Turn.wpAnyS P md ops Q S L (fuel + 1) listed a w :=
  take_one hr ho ho2 fun K hK => wp_load_row ty x ho3 g hx t cs fr dd hg hu hd hi (by rw [ho1]; exact hK _ _ hLS h)

/-- in a drawn region: a slice of one block that comes up alone -/
theorem take_build1 (i d : Nat) {o : Oper} {fuel : Nat} {listed : Array Bool} {a : Act} {w : World} (hr : Region.ready md ops listed = [i]) (ho : ops[i]? = some o) (ho1 : o.dst = some d) (ho2 : o.guard = none)
    (s : Operand) (ho3 : o.op = .buildSlice 44 1 #[(0, s)]) (x : List Int) (hx : x.length = 256) (he : a.eval s = .agg (arr x)) (hLS : L i = true ∨ S (w.alloc (.cells (arr x) 51)))
    (h : Turn.wpAnyS Try.prog md ops Q S L fuel (listed.setIfInBounds i true) (a.put (some d) (.slice (some ⟨w.heap.size, 0, none⟩) 1 1)) (w.alloc (.cells (arr x) 51))) : Turn.wpAnyS Try.prog md ops Q S L (fuel + 1) listed a w :=
  take_one hr ho ho2 fun K hK => wp_build1 s ho3 x hx he (by rw [ho1]; exact hK _ _ hLS h)

/-- in a drawn region: an append onto a slice of the call's own that comes up alone -/
theorem take_append {P : Program} (i d : Nat) {o : Oper} {fuel : Nat} {listed : Array Bool} {a : Act} {w : World} (hr : Region.ready md ops listed = [i]) (ho : ops[i]? = some o) (ho1 : o.dst = some d) (ho2 : o.guard = none)
    (s x : Operand) (t : TypeId) (hop : o.op = Op.call { callee := Callee.builtin Builtin.append, args := #[s, x], argTypes := #[t, t] })
    (base : Nat) (e : TypeId) (it : TypeInfo) (z : Value) (size bytes : Nat) (h1 : P.underlying t = some (.slice e)) (h2 : P.info? e = some it) (h3 : it.zero = some z) (h4 : it.size = size) (h5 : it.bytes = bytes) (h6 : z.cells.size = size) (h7 : 0 < size)
    (v : Value) (k : Nat) (xs : List Value) (hs : a.eval s = v) (hown : w.ownsRow base e size v k xs) (ad : Addr) (m c : Nat) (news : List Value) (hx : a.eval x = .slice (some ad) m c) (hn : news.length = m * size)
    (hc : ∀ j u, news[j]? = some u → w.cell? (ad.add j) = some u) (h1c : ∀ u ∈ news, u.oneCell' = true) (b1 : k + m ≤ maxLen) (b2 : (k + m) * bytes ≤ 140737488355328) (b3 : base ≤ w.heap.size)
    (hK : ∀ v' w', w'.ownsRow base e size v' (k + m) (xs ++ news) → w.grownBy w' v.ownBlock → (L i = true ∨ S w') ∧ Turn.wpAnyS P md ops Q S L fuel (listed.setIfInBounds i true) (a.put (some d) v') w') : Turn.wpAnyS P md ops Q S L (fuel + 1) listed a w :=
  take_one hr ho ho2 fun K hK' => wp_append_own w s x t hop base e it z size bytes h1 h2 h3 h4 h5 h6 h7 v k xs hs hown ad m c news hx hn hc h1c b1 b2 b3
    fun v' w' hv hg _ => by rw [ho1]; exact hK' _ _ (hK v' w' hv hg).1 (hK v' w' hv hg).2
end

end Go.Proofs.Ytpeniadomjijcaa.Pack

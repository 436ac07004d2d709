/-
  Maps whose keys are blocks of numbers, and maps whose keys are numbers: what a look and a store come to.
-/
import Derived.Test.YtpeniadomjijcaaSpX
import Derived.Test.YtpeniadomjijcaaOwn
import Derived.Test.YtpeniadomjijcaaTake
import Derived.MapKept
import Derived.ChangeKeysEq
namespace Go.Proofs.Ytpeniadomjijcaa.Pack
set_option linter.unusedSimpArgs false
set_option linter.unusedVariables false
open Go Go.RowKit Mem Turn

/-- the cells of a block -/
def arr (x : List Int) : Array Value := (x.map (Value.int .u16)).toArray
theorem arr_get {x : List Int} {j : Nat} {y : Int} (h : x[j]? = some y) : (arr x)[j]? = some (.int .u16 y) := by simp [arr, h]
theorem arr_size (x : List Int) : (arr x).size = x.length := by simp [arr]

section
variable (w : World)

theorem cells16 : Try.prog.cellsOf 42 = 1 := by kernel_rfl
theorem info16 : (Try.prog.info? 42).map (fun i => (i.zero, i.size)) = some (some (.int .u16 0), 1) := by kernel_rfl

theorem run_part (x : List Int) {j : Nat} {y : Int} (h : x[j]? = some y) : (part 42 (arr x) j).run Try.prog w = .ok (.int .u16 y) w := by
  have hp := run_isAgg_plain (P := Try.prog) Try.underlying42 rfl w
  simp only [part, Sem.run_bind, hp, Result.andThen_ok, Bool.false_eq_true, if_false, arr_get h, Sem.run_pure]

theorem run_check_el (em : Bool) (n : Nat) (y : Int) : (Instr.checkKey em (n + 1) 42 (.int .u16 y)).run Try.prog w = .ok () w :=
  MapKept.run_checkKey (k := .int .u16 y) Try.underlying42 (show IntKind.u16 = IntKind.u16 from rfl) em n

theorem run_check (em : Bool) (x : List Int) (hx : x.length = 256) : (Instr.checkKey em 10000 51 (.agg (arr x))).run Try.prog w = .ok () w := by
  obtain ⟨i, hi⟩ : ∃ i, Try.prog.info? 42 = some i := by
    have := info16
    cases h : Try.prog.info? 42 with
    | none => rw [h] at this; cases this
    | some i => exact ⟨i, rfl⟩
  show (Instr.checkKey em (9999 + 1) _ _).run _ w = _
  unfold Instr.checkKey
  simp only [Sem.run_bind, run_underlying Try.underlying51 , Result.andThen_ok]
  have key : ∀ is : List Nat, (∀ j ∈ is, j < 256) → (forIn (m := Sem) is PUnit.unit fun i (__s : PUnit) => do
            let __do_lift ← sizeOf 42
            let __do_lift ← part 42 (arr x) (i * __do_lift)
            Instr.checkKey em 9999 42 __do_lift
            pure (ForInStep.yield PUnit.unit)).run Try.prog w = .ok PUnit.unit w := by
    intro is
    induction is with
    | nil => intro _; simp
    | cons j is ih =>
      intro h
      obtain ⟨y, hy⟩ : ∃ y, x[j]? = some y := ⟨_, List.getElem?_eq_getElem (by rw [hx]; exact h j (by simp))⟩
      have hp := run_part w x hy
      have hsz := run_sizeOf w hi
      rw [cells16] at hsz
      simp only [List.forIn_cons, Sem.run_bind, hsz, Result.andThen_ok, Nat.mul_one, hp, run_check_el w em 9998 y, Sem.run_pure]
      exact ih (fun j hj => h j (by simp [hj]))
  rw [Std.Legacy.Range.forIn_eq_forIn_range']
  simp only [Std.Legacy.Range.size, Nat.sub_zero, Nat.add_one_sub_one, Nat.div_one]
  rw [key _ (fun j hj => by rw [List.mem_range'_1] at hj; omega)]
  simp

theorem run_eq_el (d : Nat) (x y : Int) : (Op.equalIn (d + 1) 42 (.int .u16 x) (.int .u16 y)).run Try.prog w = .ok (x == y) w := by
  unfold Op.equalIn
  simp only [Sem.run_bind, run_underlying Try.underlying42, Result.andThen_ok]
  simp

theorem run_items (d : Nat) (x y : List Int) (hx : x.length = 256) (hy : y.length = 256) : ∀ is : List Nat, (∀ j ∈ is, j < 256) →
    (Op.eqItems (d + 1) 42 1 (arr x) (arr y) is).run Try.prog w = .ok (is.all fun j => x.getD j 0 == y.getD j 0) w
  | [], _ => by simp [Op.eqItems]
  | j :: is, h => by
    obtain ⟨u, hu⟩ : ∃ u, x[j]? = some u := ⟨_, List.getElem?_eq_getElem (by rw [hx]; exact h j (by simp))⟩
    obtain ⟨v, hv⟩ : ∃ v, y[j]? = some v := ⟨_, List.getElem?_eq_getElem (by rw [hy]; exact h j (by simp))⟩
    have ih := run_items d x y hx hy is (fun j hj => h j (by simp [hj]))
    simp only [Op.eqItems, Sem.run_bind, Nat.mul_one, run_part w x hu, run_part w y hv, Result.andThen_ok, run_eq_el]
    have e1 : x.getD j 0 = u := by simp [List.getD_eq_getElem?_getD, hu]
    have e2 : y.getD j 0 = v := by simp [List.getD_eq_getElem?_getD, hv]
    rw [List.all_cons, e1, e2]
    cases huv : (u == v)
    · simp
    · simpa using ih

theorem eq_all {x y : List Int} (hx : x.length = 256) (hy : y.length = 256) : ((List.range 256).all fun j => x.getD j 0 == y.getD j 0) = decide (x = y) := by
  by_cases h : x = y
  · subst h; simp
  · rw [decide_eq_false h]
    rw [Bool.eq_false_iff]
    intro ha
    apply h
    refine List.ext_getElem (by omega) fun j h1 h2 => ?_
    have := List.all_eq_true.1 ha j (List.mem_range.2 (by omega))
    simpa [List.getD_eq_getElem?_getD, h1, h2] using this

theorem run_eq (x y : List Int) (hx : x.length = 256) (hy : y.length = 256) : (Op.equal 51 (.agg (arr x)) (.agg (arr y))).run Try.prog w = .ok (decide (x = y)) w := by
  obtain ⟨i, hi⟩ : ∃ i, Try.prog.info? 42 = some i := by
    have := info16
    cases h : Try.prog.info? 42 with
    | none => rw [h] at this; cases this
    | some i => exact ⟨i, rfl⟩
  show (Op.equalIn (9999 + 1) _ _ _).run _ w = _
  rw [run_equalIn_array w 9999 (arr x) (arr y) Try.underlying51 hi, cells16, run_items w 9998 x y hx hy _ (fun j hj => List.mem_range.1 hj), eq_all hx hy]

/-- the keys are these blocks -/
def BKeys (es : List MapEntry) (bs : List (List Int)) : Prop := es.map (·.key) = bs.map fun x => Value.agg (arr x)

theorem bkeys_nil {bs : List (List Int)} (h : BKeys [] bs) : bs = [] := by
  cases bs with
  | nil => rfl
  | cons b bs => simp [BKeys] at h

theorem run_asking (x : List Int) (hx : x.length = 256) : ∀ (es : List MapEntry) (bs : List (List Int)) (i0 : Nat), BKeys es bs → (∀ b ∈ bs, b.length = 256) →
    (Instr.findAsking 51 (.agg (arr x)) es i0).run Try.prog w = .ok (if x ∈ bs then some (i0 + bs.idxOf x, (es.getD (bs.idxOf x) default).val) else none) w
  | [], bs, i0, h, _ => by
    have : bs = [] := bkeys_nil h
    subst this
    simp [Instr.findAsking]
  | e :: es, [], i0, h, _ => by simp [BKeys] at h
  | e :: es, b :: bs, i0, h, hl => by
    simp only [BKeys, List.map_cons, List.cons.injEq] at h
    obtain ⟨h1, h2⟩ := h
    have ih := run_asking x hx es bs (i0 + 1) h2 (fun b hb => hl b (by simp [hb]))
    unfold Instr.findAsking
    simp only [Sem.run_bind, h1, run_eq w x b hx (hl b (by simp)), Result.andThen_ok]
    by_cases hxb : x = b
    · subst hxb
      simp
    · simp only [decide_eq_false hxb, Bool.false_eq_true, if_false, ih]
      have hne : ¬ b = x := fun h => hxb h.symm
      by_cases hm : x ∈ bs
      · have e1 : (b == x) = false := by simpa using hne
        simp only [hm, hxb, List.mem_cons, or_true, if_true, List.idxOf_cons, e1, cond_false]
        simp
        omega
      · simp [hm, hxb]

theorem run_key (x : List Int) (hx : x.length = 256) (es : List MapEntry) (bs : List (List Int)) (h : BKeys es bs) (hl : ∀ b ∈ bs, b.length = 256) :
    (Instr.findKey 51 (.agg (arr x)) es).run Try.prog w = .ok (if x ∈ bs then some (bs.idxOf x, (es.getD (bs.idxOf x) default).val) else none) w := by
  unfold Instr.findKey
  simp only [Sem.run_bind, run_underlying Try.underlying51, Result.andThen_ok]
  have ha := run_asking w x hx es bs 0 h hl
  rw [Nat.zero_add] at ha
  cases es with
  | nil =>
    have : bs = [] := bkeys_nil h
    subst this
    simp [Instr.findNow]
  | cons e es =>
    have : Instr.findNow (.array 256 42) (.agg (arr x)) (e :: es) 0 = none := by simp [Instr.findNow, Instr.sameNow]
    rw [this]
    exact ha

/-- block kb is a map that numbers these blocks as they stand -/
def KAt (w : World) (kb : Nat) (bs : List (List Int)) : Prop :=
  ∃ es clk, w.heap[kb]? = some (.map es clk) ∧ BKeys es.toList bs ∧ es.toList.map (·.val) = (List.range bs.length).map fun (i : Nat) => Value.int .u16 (i : Int)

theorem run_look {kb : Nat} {bs : List (List Int)} (hk : KAt w kb bs) (hl : ∀ b ∈ bs, b.length = 256) (x : List Int) (hx : x.length = 256) :
    (Instr.lookup 40 (.map (some kb)) (.agg (arr x)) true).run Try.prog w = .ok (.tuple #[.int .u16 (if x ∈ bs then (bs.idxOf x : Int) else 0), .bool (decide (x ∈ bs))]) w := by
  obtain ⟨es, clk, h1, h2, h3⟩ := hk
  have hz : (zeroValue 42).run Try.prog w = .ok (.int .u16 0) w := (zero_of_info info16).1 w
  unfold Instr.lookup
  simp only [Sem.run_bind, run_underlying Try.underlying40, Result.andThen_ok, MapKept.run_getObj_map h1, Sem.run_pure, run_check w _ x hx, run_key w x hx es.toList bs h2 hl]
  by_cases hm : x ∈ bs
  · have hi : bs.idxOf x < bs.length := List.idxOf_lt_length_iff.2 hm
    have hv : (es.toList.getD (bs.idxOf x) default).val = .int .u16 (bs.idxOf x : Int) := by
      have hv := congrArg (·[bs.idxOf x]?) h3
      simp only [List.getElem?_map, List.getElem?_range hi, Option.map_some] at hv
      cases he : es.toList[bs.idxOf x]? with
      | none => rw [he] at hv; cases hv
      | some e =>
        rw [he] at hv
        injection hv with hv
        simp [List.getD_eq_getElem?_getD, he, hv]
    simp [hm]
    simpa [List.getD_eq_getElem?_getD] using hv
  · simp [hm, hz, Sem.run_bind]

theorem turn_setObj {w : World} {r : Nat} {o o' : Obj} (hb : w.heap[r]? = some o) : Turn (fun j => j = r) w { w with heap := w.heap.setIfInBounds r o' } := by
  have h := MapKept.heap_set (o' := o') hb
  exact ⟨rfl, rfl, rfl, by simp, fun k hk hn => h.2 k hn⟩

theorem run_put {kb : Nat} {bs : List (List Int)} (hk : KAt w kb bs) (hl : ∀ b ∈ bs, b.length = 256) (x : List Int) (hx : x.length = 256) (hn : x ∉ bs) :
    ∃ w', (Instr.mapUpdate 40 (.map (some kb)) (.agg (arr x)) (.int .u16 (bs.length : Int))).run Try.prog w = .ok () w' ∧ KAt w' kb (bs ++ [x]) ∧ Turn (fun j => j = kb) w w' := by
  obtain ⟨es, clk, h1, h2, h3⟩ := hk
  refine ⟨{ w with heap := w.heap.setIfInBounds kb (.map (es.push ⟨.agg (arr x), .int .u16 (bs.length : Int), clk⟩) (clk + 1)) }, ?_, ?_, turn_setObj h1⟩
  · unfold Instr.mapUpdate
    simp only [Sem.run_bind, run_underlying Try.underlying40, Result.andThen_ok, MapKept.run_getObj_map h1, run_check w _ x hx, run_key w x hx es.toList bs h2 hl, hn, if_false, MapKept.run_setObj_map _ h1]
  · refine ⟨es.push ⟨.agg (arr x), .int .u16 (bs.length : Int), clk⟩, clk + 1, (MapKept.heap_set h1).1, ?_, ?_⟩
    · have h2' : es.toList.map (·.key) = bs.map fun x => Value.agg (arr x) := h2
      show (es.push _).toList.map (·.key) = _
      rw [Array.toList_push, List.map_append, h2', List.map_append]; rfl
    · rw [Array.toList_push, List.map_append, h3, List.length_append, List.length_singleton, List.range_succ, List.map_append]; rfl

/-- block eb is a map of numbers -/
def EAt (w : World) (eb : Nat) (ev : List (Int × Int)) : Prop :=
  ∃ es clk, w.heap[eb]? = some (.map es clk) ∧ es.toList.map (fun e => (e.key, e.val)) = ev.map fun e => (Value.int .i64 e.1, Value.int .u16 e.2)
def eget (ev : List (Int × Int)) (v : Int) : Option Int := (ev.find? fun e => e.1 == v).map (·.2)

theorem find_now (v : Int) : ∀ (es : List MapEntry) (ev : List (Int × Int)) (i0 : Nat), es.map (fun e => (e.key, e.val)) = ev.map (fun e => (Value.int .i64 e.1, Value.int .u16 e.2)) →
    ∃ i, Instr.findNow (.int .i64) (.int .i64 v) es i0 = some ((eget ev v).map fun n => (i, Value.int .u16 n))
  | [], ev, i0, h => by
    cases ev with
    | nil => exact ⟨0, rfl⟩
    | cons e ev => simp at h
  | e :: es, [], i0, h => by simp at h
  | e :: es, c :: ev, i0, h => by
    simp only [List.map_cons, List.cons.injEq, Prod.mk.injEq] at h
    obtain ⟨⟨h1, h2⟩, h3⟩ := h
    obtain ⟨i, ih⟩ := find_now v es ev (i0 + 1) h3
    by_cases hv : v = c.1
    · refine ⟨i0, ?_⟩
      subst hv
      simp [Instr.findNow, Instr.sameNow, h1, h2, eget]
    · refine ⟨i, ?_⟩
      have e1 : (v == c.1) = false := by simpa using hv
      have e2 : (c.1 == v) = false := by simpa using fun h => hv h.symm
      simp only [Instr.findNow, Instr.sameNow, h1, if_true, e1]
      rw [ih]
      simp [eget, List.find?_cons, e2]

theorem run_look_int {eb : Nat} {ev : List (Int × Int)} (hk : EAt w eb ev) (v : Int) :
    (Instr.lookup 41 (.map (some eb)) (.int .i64 v) true).run Try.prog w = .ok (.tuple #[.int .u16 ((eget ev v).getD 0), .bool (eget ev v).isSome]) w := by
  obtain ⟨es, clk, h1, h2⟩ := hk
  have hz : (zeroValue 42).run Try.prog w = .ok (.int .u16 0) w := (zero_of_info info16).1 w
  obtain ⟨i, hf⟩ := find_now v es.toList ev 0 h2
  have hc := MapKept.run_checkKey (P := Try.prog) (w := w) (k := .int .i64 v) Try.underlying3 (show IntKind.i64 = IntKind.i64 from rfl) es.isEmpty 9999
  unfold Instr.lookup
  simp only [Sem.run_bind, run_underlying Try.underlying41, Result.andThen_ok, MapKept.run_getObj_map h1, Sem.run_pure, hc, MapKept.run_findKey Try.underlying3 hf]
  cases hg : eget ev v with
  | none => simp [hz, Sem.run_bind]
  | some n => simp

theorem run_put_int {eb : Nat} {ev : List (Int × Int)} (hk : EAt w eb ev) (v n : Int) (hn : eget ev v = none) :
    ∃ w', (Instr.mapUpdate 41 (.map (some eb)) (.int .i64 v) (.int .u16 n)).run Try.prog w = .ok () w' ∧ EAt w' eb (ev ++ [(v, n)]) ∧ Turn (fun j => j = eb) w w' := by
  obtain ⟨es, clk, h1, h2⟩ := hk
  obtain ⟨i, hf⟩ := find_now v es.toList ev 0 h2
  rw [hn] at hf
  have hc := MapKept.run_checkKey (P := Try.prog) (w := w) (k := .int .i64 v) Try.underlying3 (show IntKind.i64 = IntKind.i64 from rfl) false 9999
  refine ⟨{ w with heap := w.heap.setIfInBounds eb (.map (es.push ⟨.int .i64 v, .int .u16 n, clk⟩) (clk + 1)) }, ?_, ?_, turn_setObj h1⟩
  · unfold Instr.mapUpdate
    simp only [Sem.run_bind, run_underlying Try.underlying41, Result.andThen_ok, MapKept.run_getObj_map h1, hc, MapKept.run_findKey Try.underlying3 hf, Option.map_none, MapKept.run_setObj_map _ h1]
  · refine ⟨es.push ⟨.int .i64 v, .int .u16 n, clk⟩, clk + 1, (MapKept.heap_set h1).1, ?_⟩
    rw [Array.toList_push, List.map_append, h2, List.map_append]; rfl
end
end Go.Proofs.Ytpeniadomjijcaa.Pack

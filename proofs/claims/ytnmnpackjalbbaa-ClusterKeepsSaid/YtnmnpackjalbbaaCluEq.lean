/-
  '==' on clusters.
-/
import Derived.Test.YtnmnpackjalbbaaCluB
import Derived.Laws.StructEq
import Derived.Deep.WholeRow
import Derived.Laws.Rows
import Derived.Laws.Tables
import Derived.ChangeKeysEq
namespace Go.Proofs.Ytnmnpackjalbbaa.Clu
set_option linter.unusedSimpArgs false
set_option linter.unusedVariables false
open Go Go.RowKit Mem Seg Turn Gra

theorem eqItems_ints {P : Program} (w : World) (d : Nat) {e : TypeId} {k : IntKind} (he : P.underlying e = some (.int k)) (hc : P.cellsOf e = 1) (xs ys : Array Value) (f g : Nat → Int) :
    ∀ (is : List Nat), (∀ i ∈ is, xs[i]? = some (.int k (f i)) ∧ ys[i]? = some (.int k (g i))) → (Op.eqItems (d + 1) e (P.cellsOf e) xs ys is).run P w = .ok (is.all fun i => f i == g i) w
  | [], _ => by simp [Op.eqItems]
  | i :: is, h => by
    have hp : P.plainKey e = true := by unfold Program.plainKey; simp [he]
    obtain ⟨h1, h2⟩ := h i (by simp)
    have ih := eqItems_ints w d he hc xs ys f g is (fun j hj => h j (by simp [hj]))
    rw [hc] at ih ⊢
    simp only [Op.eqItems, Sem.run_bind, Nat.mul_one, run_part_plain w hp h1, run_part_plain w hp h2, Result.andThen_ok, run_equalIn_int w d e k k _ _ he]
    cases hfg : f i == g i
    · simp [hfg]
    · simp [hfg, ih]

/-- cell i of a cluster's sixteen -/
def numAt (l : List Int) (i : Nat) : Int := l.getD i 0
theorem cv_at {l : List Int} (h : l.length ≤ 16) {i : Nat} (hi : i < 16) : (cv l)[i]? = some (.int .i32 (numAt l i)) := by
  by_cases hl : i < l.length
  · have : l[i]? = some (numAt l i) := by unfold numAt; rw [List.getD_eq_getElem?_getD, List.getElem?_eq_getElem hl]; rfl
    exact cv_text this
  · have e : numAt l i = 0 := by unfold numAt; rw [List.getD_eq_getElem?_getD, List.getElem?_eq_none (by omega)]; rfl
    rw [e]
    unfold cv
    rw [List.getElem?_append_right (by simp; omega), List.length_map, List.getElem?_append_left (by simp; omega), List.getElem?_replicate, if_pos (by omega)]

theorem same_iff {xs ys : List Int} (hx : xs.length ≤ 16) (hy : ys.length ≤ 16) : ((List.range 16).all (fun i => numAt xs i == numAt ys i) && ((xs.length : Int) == ys.length)) = decide (xs = ys) := by
  by_cases h : xs = ys
  · subst h; simp
  · rw [decide_eq_false h]
    rw [Bool.and_eq_false_iff]
    by_cases hl : xs.length = ys.length
    · refine .inl ?_
      rw [List.all_eq_false]
      apply Classical.byContradiction
      intro hc
      apply h
      refine List.ext_getElem? fun i => ?_
      by_cases hi : i < xs.length
      · have hi' : i < ys.length := by omega
        have h1 : ¬ ¬ ((numAt xs i == numAt ys i) = true) := fun hn => hc ⟨i, by simp; omega, hn⟩
        have h2 : numAt xs i = numAt ys i := by simpa using h1
        unfold numAt at h2
        rw [List.getD_eq_getElem?_getD, List.getD_eq_getElem?_getD, List.getElem?_eq_getElem hi, List.getElem?_eq_getElem hi'] at h2
        rw [List.getElem?_eq_getElem hi, List.getElem?_eq_getElem hi']
        simpa using h2
      · rw [List.getElem?_eq_none (by omega), List.getElem?_eq_none (by omega)]
    · refine .inr ?_
      simp; omega

theorem then_ok {α β : Type} {r : Result α} {a : α} {w : World} {k : α → World → Result β} {z : Result β} (h : r = .ok a w) (hk : k a w = z) : r.andThen k = z := by
  subst h; exact hk

theorem fields_clu : Try.prog.fieldsOf 35 = #[⟨"text", 33, 0, false, "", "linotype/cluster", 0⟩, ⟨"n", 3, 16, false, "", "linotype/cluster", 64⟩] := by kernel_rfl

theorem clu_eq_d (w : World) (d : Nat) {xs ys : List Int} (hx : xs.length ≤ 16) (hy : ys.length ≤ 16) :
    (Op.equalIn (d + 1 + 1 + 1) 35 (.agg (cv xs).toArray) (.agg (cv ys).toArray)).run Try.prog w = .ok (decide (xs = ys)) w := by
  obtain ⟨i0, hi0⟩ := info_of_underlying Try.underlying33
  obtain ⟨i1, hi1⟩ := info_of_underlying Try.underlying21
  have hc : Try.prog.cellsOf 21 = 1 := by kernel_rfl
  have hca : Try.prog.cellsOf 33 = 16 := by kernel_rfl
  have part0 : ∀ (l : List Int), l.length ≤ 16 → (part 33 (cv l).toArray 0).run Try.prog w = .ok (.agg ((cv l).toArray.extract 0 16)) w := by
    intro l hl
    have : (sizeOf 33).run Try.prog w = .ok 16 w := by rw [run_sizeOf w hi0, hca]
    simp [part, isAgg, run_underlying Try.underlying33, this]
  have part1 : ∀ (l : List Int), l.length ≤ 16 → (part 3 (cv l).toArray 16).run Try.prog w = .ok (.int .i64 l.length) w := by
    intro l hl
    refine run_part_plain w (by kernel_rfl) ?_
    have := cv_num hl
    simpa using this
  have hat : ∀ (l : List Int), l.length ≤ 16 → ∀ i ∈ List.range 16, ((cv l).toArray.extract 0 16)[i]? = some (.int .i32 (numAt l i)) := by
    intro l hl i hi
    have hi : i < 16 := by simpa using hi
    have := cv_at hl hi
    rw [Array.getElem?_extract]
    have h17 := cv_len hl
    simp only [List.size_toArray, h17, Nat.zero_add]
    rw [if_pos (by omega)]
    simpa using this
  have harr : (Op.equalIn (d + 1 + 1) 33 (.agg ((cv xs).toArray.extract 0 16)) (.agg ((cv ys).toArray.extract 0 16))).run Try.prog w = .ok ((List.range 16).all (fun i => numAt xs i == numAt ys i)) w := by
    rw [run_equalIn_array w (d + 1) _ _ Try.underlying33 hi1]
    exact eqItems_ints w d Try.underlying21 hc _ _ (numAt xs) (numAt ys) (List.range 16) (fun i hi => ⟨hat xs hx i hi, hat ys hy i hi⟩)
  have hint : (Op.equalIn (d + 1 + 1) 3 (.int .i64 xs.length) (.int .i64 ys.length)).run Try.prog w = .ok ((xs.length : Int) == ys.length) w := run_equalIn_int w (d + 1) _ .i64 .i64 _ _ Try.underlying3
  have p0x := part0 xs hx
  have p0y := part0 ys hy
  have p1x := part1 xs hx
  have p1y := part1 ys hy
  rw [run_equalIn_agg w (d + 1 + 1) _ _ _ (by kernel_rfl) (by kernel_rfl), fields_clu]
  rw [← same_iff hx hy]
  generalize (List.range 16).all (fun i => numAt xs i == numAt ys i) = b1 at *
  generalize ((xs.length : Int) == ys.length) = b2 at *
  clear part0 part1 hat
  generalize (cv xs).toArray = X at *
  generalize (cv ys).toArray = Y at *
  generalize X.extract 0 16 = X0 at *
  generalize Y.extract 0 16 = Y0 at *
  simp only [Op.eqFields, ne_eq, String.reduceEq, not_false_eq_true, if_true, Sem.run_bind]
  refine then_ok p0x ?_
  refine then_ok p0y ?_
  refine then_ok harr ?_
  cases b1
  · simp
  · simp only [Bool.not_true, Bool.false_eq_true, if_false, Sem.run_bind]
    refine then_ok p1x ?_
    refine then_ok p1y ?_
    refine then_ok hint ?_
    cases b2 <;> simp

theorem clu_eq (w : World) {xs ys : List Int} (hx : xs.length ≤ 16) (hy : ys.length ≤ 16) :
    (Op.equalIn 10000 35 (.agg (cv xs).toArray) (.agg (cv ys).toArray)).run Try.prog w = .ok (decide (xs = ys)) w := clu_eq_d w 9997 hx hy

theorem neq_clu (w : World) {xs ys : List Int} (hx : xs.length ≤ 16) (hy : ys.length ≤ 16) :
    (binOp .neq 35 (.agg (cv xs).toArray) (.agg (cv ys).toArray)).run Try.prog w = .ok (.bool (!decide (xs = ys))) w := by
  rw [run_neq_struct, clu_eq w hx hy]; rfl
theorem eql_clu (w : World) {xs ys : List Int} (hx : xs.length ≤ 16) (hy : ys.length ≤ 16) :
    (binOp .eql 35 (.agg (cv xs).toArray) (.agg (cv ys).toArray)).run Try.prog w = .ok (.bool (decide (xs = ys))) w := by
  rw [run_eql_struct, clu_eq w hx hy]; rfl
theorem guard_clu (w : World) (op : BinOp) (x y : Operand) (xs ys : Array Value) : (eqGuard op 35 x y (.agg xs) (.agg ys)).run Try.prog w = .ok () w :=
  run_eqGuard_agg w op _ x y xs ys (by kernel_rfl)

theorem wpList_store_clu {ops : Array Oper} {rest : List Oper} {o : Oper} {a : Act} {w : World} {Q : Exit → Act → World → Prop} (hgd : o.guard = none) (x y : Operand) (ho : o.op = .store 35 x y) (hd : o.dst = none)
    (zs : Array Value) (T : TypeId) (l : List Int) (hl : l.length ≤ 16) (hz : zs.size = 17) (hx : a.eval x = .pointer (some ⟨w.heap.size, 0, none⟩)) (hy : a.eval y = .agg (cv l).toArray)
    (h : wpList Try.prog ops Q rest a (w.alloc (.cells (cv l).toArray T))) : wpList Try.prog ops Q (o :: rest) a (w.alloc (.cells zs T)) := by
  refine wpList_store_row hgd _ x y ho w.heap.size (cv l).toArray hx hy T zs (heap_alloc_new _ _) (size_clu hl) (by rw [hz, List.size_toArray, cv_len hl]) (cv_one l) ?_
  rw [World.setRow_alloc_new, hd]
  exact h

theorem wpList_load_clu {ops : Array Oper} {rest : List Oper} {o : Oper} {a : Act} {w : World} {Q : Exit → Act → World → Prop} (hgd : o.guard = none) (x : Operand) (ho : o.op = .load 35 x)
    (g : Nat) (l : List Int) (hc : CAt w g l) (hx : a.eval x = .pointer (some ⟨g, 0, none⟩)) (h : wpList Try.prog ops Q rest (a.put o.dst (.agg (cv l).toArray)) w) : wpList Try.prog ops Q (o :: rest) a w := by
  obtain ⟨hl, T, hT⟩ := hc
  exact wpList_load_row hgd _ x ho g hx T (cv l).toArray (0, 0) _ hT Try.underlying35 rfl (size_clu hl) h

theorem wp_load_clu {o : Oper} {a : Act} {w : World} {K : Act → World → Prop} {Q : Exit → Act → World → Prop} (x : Operand) (ho : o.op = .load 35 x)
    (g : Nat) (l : List Int) (hc : CAt w g l) (hx : a.eval x = .pointer (some ⟨g, 0, none⟩)) (h : K (a.put o.dst (.agg (cv l).toArray)) w) : o.wp Try.prog a w K Q := by
  obtain ⟨hl, T, hT⟩ := hc
  exact wp_load_row _ x ho g hx T (cv l).toArray (0, 0) _ hT Try.underlying35 rfl (size_clu hl) h

end Go.Proofs.Ytnmnpackjalbbaa.Clu

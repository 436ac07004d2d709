/-
  A call of a function that makes a table, run to its end by the machine itself.
-/
import Derived.Test.YtcbfmokafmagpaaGreatMem
namespace Go.Proofs.YtcbfmokafmagpaaGreat.Tab
set_option linter.unusedSimpArgs false
set_option linter.unusedVariables false
open Go.RowKit Mem

/-- a call that the machine runs to its return in n steps -/
theorem calls_of_runN {P : Program} {f : FuncId} {args : Array Value} {w w' : World} {v : Value} {n : Nat} {tm : Array Value} {td : List Item} {F : Func}
    (h : ∀ cs, runN P n (lone (Frame.enter P f args .normal) cs w) = .next (lone { fn := f, tmps := tm, todo := td, defers := [], mode := .returning, kind := .normal } cs w'))
    (hF : P.funcs[f]? = some F) (hr : (results F tm).run P w' = .ok v w') :
    Calls P f args w fun e w2 => e = .returned v ∧ w2 = w' :=
  fun cs => ⟨.returned v, w', _, ⟨rfl, rfl⟩, ⟨n, h cs⟩, rfl, rfl, rfl, rfl, F, hF, hr⟩

def opsOf : Code → List Oper
  | .region _ ops _ => ops.toList
  | .seq a b => opsOf a ++ opsOf b
  | _ => []

def constOf : Operand → Value
  | .const v => v
  | _ => undef

def rowOf : Oper → Option (List Value)
  | { op := .build _ parts, .. } => some (parts.toList.map fun x => constOf x.2)
  | _ => none

/-- the rows that a function builds -/
def rowsOf (F : Func) : List (List Value) := ((F.body.map opsOf).getD []).filterMap rowOf

def numOf : Value → Int
  | .int _ n => n
  | _ => 0

/-- a new block holds the numbers of a table; the result is a slice of it, of n rows -/
def TabPost (w : World) (n : Nat) (k : IntKind) (flat : List Int) (e : Ending) (w' : World) : Prop :=
  e = .returned (.slice (some ⟨w.heap.size, 0, none⟩) n n) ∧ Below w.heap.size w w' ∧ Blk w' w.heap.size (flat.map (Value.int k)) ∧ w'.heap.size = w.heap.size + 1

theorem tab_post {w : World} {n : Nat} {k : IntKind} {flat : List Int} {cells : List Value} {T : TypeId} (h : cells = flat.map (Value.int k)) :
    ∀ e w', (e = .returned (.slice (some ⟨w.heap.size, 0, none⟩) n n) ∧ w' = w.alloc (.cells cells.toArray T)) → TabPost w n k flat e w' := by
  rintro e w' ⟨rfl, rfl⟩
  subst h
  exact ⟨rfl, (Below.refl _ _).alloc (Nat.le_refl _) _, Blk.alloc _ _ _ _ _ rfl, by simp⟩

theorem TabPost.cell {w w' : World} {n : Nat} {k : IntKind} {flat : List Int} {e : Ending} (h : TabPost w n k flat e w') (i : Nat) (hi : i < flat.length) : w'.cell? ⟨w.heap.size, i, none⟩ = some (.int k (flat.getD i 0)) :=
  h.2.2.1.cell i _ (by rw [List.getElem?_map, List.getElem?_eq_getElem hi]; simp [List.getD_eq_getElem?_getD, hi])

end Go.Proofs.YtcbfmokafmagpaaGreat.Tab

/-
  Walks of package seg: joins, picture, conjunct.
-/
import Derived.Test.YtcbfmokafmagpaaGreatSegLaw
import Derived.Deep.QuietTactic
import Derived.BigQuiet
namespace Go.Proofs.YtcbfmokafmagpaaGreat.Seg
set_option linter.unusedSimpArgs false
set_option linter.unusedVariables false
open Go.RowKit Mem

theorem ret_int {k : IntKind} {a b : Int} (h : a = b) : Ending.returned (.int k a) = .returned (.int k b) := by rw [h]
theorem ret_bool {a b : Bool} (h : a = b) : Ending.returned (.bool a) = .returned (.bool b) := by rw [h]

def propV (b : Int) (p : Bool) (c e : Int) : Value := .agg #[.int .i64 b, .bool p, .int .i64 c, .int .i64 e]

set_option maxHeartbeats 1000000 in
theorem picture_any (q : Nat) (s : St) (b : Int) (p : Bool) (c e : Int) (w : World) (h : Hid (At w q s)) :
    Calls Tryz.prog 75 #[.pointer (some ⟨q, 0, none⟩), propV b p c e] w fun e' w' => e' = .returned (.int .i64 (pictS s b p)) ∧ Below w.heap.size w w' := by
  have h2 := h.out.pict
  have hlt := h.out.lt
  clear h
  have H : Hid (pictS s b p = if p then 1 else if s.pict == 1 && b == 4 then 1 else if s.pict == 1 && b == 5 then 2 else 0) := rfl
  unfold propV
  generalize s.pict = pi at *
  cases p
  all_goals
    go_enter Tryz.func75, Tryz.ntmps75
    go_wp2
    all_goals (go_ret; refine ⟨ret_int (by rw [H.out]; simp [*]), (Below.refl _ _).alloc (Nat.le_refl _) _⟩)

set_option maxHeartbeats 1000000 in
theorem conjunct_any (q : Nat) (s : St) (b : Int) (p : Bool) (c e : Int) (w : World) (h : Hid (At w q s)) :
    Calls Tryz.prog 76 #[.pointer (some ⟨q, 0, none⟩), propV b p c e] w fun e' w' => e' = .returned (.int .i64 (conjS s c)) ∧ Below w.heap.size w w' := by
  have h2 := h.out.conj
  have hlt := h.out.lt
  clear h
  have H : Hid (conjS s c = if c == 1 then 1 else if s.conj == 0 then 0 else if c == 2 then 2 else if c == 3 then s.conj else 0) := rfl
  unfold propV
  generalize s.conj = ci at *
  go_enter Tryz.func76, Tryz.ntmps76
  go_wp2
  all_goals (go_ret; refine ⟨ret_int (by rw [H.out]; simp [*]), (Below.refl _ _).alloc (Nat.le_refl _) _⟩)

end Go.Proofs.YtcbfmokafmagpaaGreat.Seg

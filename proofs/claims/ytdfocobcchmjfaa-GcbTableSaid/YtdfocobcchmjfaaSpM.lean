/-
  The plain law of lists of pairs: how many numbers they have.
-/
import Derived.Test.YtdfocobcchmjfaaTabLaw
namespace Go.Proofs.Ytdfocobcchmjfaa.Sp
set_option linter.unusedSimpArgs false
set_option linter.unusedVariables false
open Go TabLaw

def msum : List (Int × Int) → Int
  | [] => 0
  | p :: l => (p.2 - p.1 + 1) + msum l
theorem msum_app (a b : List (Int × Int)) : msum (a ++ b) = msum a + msum b := by
  induction a with
  | nil => simp [msum]
  | cons p l ih => simp [msum, ih]; omega
def okP (p : Int × Int) : Bool := decide (0 ≤ p.1) && decide (p.1 ≤ p.2) && decide (p.2 ≤ 1114111)
theorem msum_bd {l : List (Int × Int)} (h : l.all okP = true) : 0 ≤ msum l ∧ msum l ≤ l.length * 1114112 := by
  induction l with
  | nil => simp [msum]
  | cons p l ih =>
    simp only [List.all_cons, Bool.and_eq_true, okP, decide_eq_true_eq] at h
    have := ih h.2
    simp only [msum, List.length_cons]
    push_cast
    omega
theorem msum_next {A l : List (Int × Int)} {q : Nat} {p : Int × Int} (h : l[q]? = some p) : msum (A ++ l.take (q + 1)) = msum (A ++ l.take q) + (p.2 - p.1 + 1) := by
  rw [List.take_add_one, h, ← List.append_assoc, msum_app (A ++ l.take q)]
  simp [msum]
theorem flat_next {LL : List (List (Int × Int))} {k : Nat} {l : List (Int × Int)} (h : LL[k]? = some l) : (LL.take k).flatten ++ l = (LL.take (k + 1)).flatten := by
  rw [List.take_add_one, h]; simp
theorem flat_ok {LL : List (List (Int × Int))} {k : Nat} {l : List (Int × Int)} (h : LL[k]? = some l) (ho : LL.flatten.all okP = true) (hs : LL.flatten.length ≤ 1000) : ∀ (q : Nat) (p : Int × Int), l[q]? = some p →
    0 ≤ msum ((LL.take k).flatten ++ l.take q) ∧ msum ((LL.take k).flatten ++ l.take q) ≤ 1114112000 ∧ 0 ≤ p.1 ∧ p.1 ≤ p.2 ∧ p.2 ≤ 1114111 := by
  intro q p hp
  have e : LL.flatten = (LL.take k).flatten ++ (l.take q ++ (l.drop q ++ (LL.drop (k + 1)).flatten)) := by
    conv => lhs; rw [← List.take_append_drop k LL]
    rw [List.flatten_append]
    congr 1
    rw [List.drop_eq_getElem_cons (List.getElem?_eq_some_iff.1 h).1, (List.getElem?_eq_some_iff.1 h).2, List.flatten_cons, ← List.append_assoc, List.take_append_drop]
  have hA : ((LL.take k).flatten ++ l.take q).all okP = true := by
    rw [e, ← List.append_assoc, List.all_append, Bool.and_eq_true] at ho
    exact ho.1
  have hlen : ((LL.take k).flatten ++ l.take q).length ≤ 1000 := by
    have := congrArg List.length e
    simp only [List.length_append] at this ⊢
    omega
  have hb := msum_bd hA
  have hpp : okP p = true := List.all_eq_true.1 ho p (by
    rw [e]
    refine List.mem_append_right _ (List.mem_append_right _ (List.mem_append_left _ ?_))
    rw [List.drop_eq_getElem_cons (List.getElem?_eq_some_iff.1 hp).1, (List.getElem?_eq_some_iff.1 hp).2]
    exact List.mem_cons_self ..)
  simp only [okP, Bool.and_eq_true, decide_eq_true_eq] at hpp
  refine ⟨hb.1, ?_, hpp.1.1, hpp.1.2, hpp.2⟩
  have : (((LL.take k).flatten ++ l.take q).length : Int) ≤ 1000 := by omega
  omega

end Go.Proofs.Ytdfocobcchmjfaa.Sp

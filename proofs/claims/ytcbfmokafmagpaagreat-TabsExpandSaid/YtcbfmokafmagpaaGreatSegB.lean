/-
  Walks of package seg: Step.
-/
import Derived.Test.YtcbfmokafmagpaaGreatSeg
import Derived.Deep.RegionHeld3
namespace Go.Proofs.YtcbfmokafmagpaaGreat.Seg
set_option linter.unusedSimpArgs false
set_option linter.unusedVariables false
open Go.RowKit Mem

theorem pjoin (a b : Int) (w : World) : Calls Tryz.prog 90 #[.int .i64 a, .int .i64 b] w fun e w' => e = .returned (.int .i64 (Pairs.pj (Pairs.cls a) (Pairs.cls b))) ∧ w' = w :=
  (Pairs.join_any a b w).mono fun _ _ ⟨h1, h2⟩ => ⟨h1, h2.symm⟩

set_option maxHeartbeats 2000000 in
theorem joins_any (q : Nat) (s : St) (b : Int) (p : Bool) (c e : Int) (w : World) (h : Hid (At w q s)) :
    Calls Tryz.prog 74 #[.pointer (some ⟨q, 0, none⟩), propV b p c e] w fun e' w' => e' = .returned (.bool (joinB s b p c)) ∧ Below w.heap.size w w' := by
  have h0 := h.out.some
  have h1 := h.out.last
  have h2 := h.out.pict
  have h3 := h.out.conj
  have h4 := h.out.odd
  have hlt := h.out.lt
  clear h
  have H : Hid (joinB s b p c = (s.some && ((c == 1 && s.conj == 2) || (p && s.pict == 2) || (Pairs.pj (Pairs.cls s.last) (Pairs.cls b) == 1) || (Pairs.pj (Pairs.cls s.last) (Pairs.cls b) == 2 && s.last == 6 && s.odd)))) := rfl
  unfold propV
  have J := Lib.hid (pjoin s.last b)
  generalize s.pict = pi at *
  generalize s.conj = ci at *
  generalize s.odd = od at *
  generalize Pairs.pj (Pairs.cls s.last) (Pairs.cls b) = j at *
  generalize s.last = la at *
  generalize s.some = so at *
  cases so
  · go_enter Tryz.func74, Tryz.ntmps74
    go_wp2
    go_ret
    exact ⟨ret_bool (by rw [H.out]; rfl), (Below.refl _ _).alloc (Nat.le_refl _) _⟩
  · cases p
    all_goals
      go_enter Tryz.func74, Tryz.ntmps74
      go_wp2
      all_goals
        first
          | (go_ret
             exact ⟨ret_bool (by rw [H.out]; simp [*]), (Below.refl _ _).alloc (Nat.le_refl _) _⟩)
          | (go_quiet ((go_at_call 90; exact Calls.quiet_of_same (J.out _)))
             go_wp2
             all_goals
               go_ret
               exact ⟨ret_bool (by rw [H.out]; simp [*]), ((Below.refl _ _).alloc (Nat.le_refl _) _).trans ((bdrew _ _).mono (by simp))⟩)

end Go.Proofs.YtcbfmokafmagpaaGreat.Seg

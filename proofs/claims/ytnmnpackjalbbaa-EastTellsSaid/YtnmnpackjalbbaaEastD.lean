/-
  The walk of the statement EastTells.
-/
import Derived.Test.YtnmnpackjalbbaaEastC
namespace Go.Proofs.Ytnmnpackjalbbaa.East
open Go.RowKit Mem Tab

noncomputable def eastv (r : Int) : Int := TabLaw.val3 (TabLaw.trip EastTab.east) r

theorem refv_eq (r : Int) : EastRefW.refv r = eastv r :=
  (TabLaw.which_eq good.sorted (by kernel_rfl) (by kernel_rfl) r).1

theorem e1 : eastv 19968 = 1 := by kernel_rfl
theorem e2 : eastv 65313 = 2 := by kernel_rfl
theorem e3 : eastv 65393 = 3 := by kernel_rfl
theorem e4 : eastv 97 = 0 := by kernel_rfl

theorem of_eastv (r : Int) (hr1 : -2147483648 ≤ r) (hr2 : r ≤ 2147483647) (w : World) :
    Calls Try.prog 31 #[.int .i32 r] w fun e w' => e = .returned (.int .i64 (eastv r)) ∧ Below w.heap.size w w' := of_any r hr1 hr2 w
theorem ref_eastv (r : Int) (hr1 : -2147483648 ≤ r) (hr2 : r ≤ 2147483647) (w : World) :
    Calls Try.prog 32 #[.int .i32 r] w fun e w' => e = .returned (.int .i64 (eastv r)) ∧ Below w.heap.size w w' := by
  rw [← refv_eq]; exact EastRefW.ref_any r hr1 hr2 w

theorem works_any (w : World) :
    Calls Try.prog 33 #[] w fun e w' => e = .returned (.bool true) ∧ Below w.heap.size w w' := by
  go_enter Try.func33, Try.ntmps33
  go_wp2_with fail
  refine (of_eastv _ (by omega) (by omega) _).mono ?_; rintro e w1 ⟨rfl, h1⟩; rw [e1]
  go_wp2_with fail
  refine (of_eastv _ (by omega) (by omega) _).mono ?_; rintro e w2 ⟨rfl, h2⟩; rw [e2]
  go_wp2_with fail
  refine (of_eastv _ (by omega) (by omega) _).mono ?_; rintro e w3 ⟨rfl, h3⟩; rw [e3]
  go_wp2_with fail
  refine (of_eastv _ (by omega) (by omega) _).mono ?_; rintro e w4 ⟨rfl, h4⟩; rw [e4]
  have hb := h1.trans ((h2.mono h1.size).trans ((h3.mono (Nat.le_trans h1.size h2.size)).trans (h4.mono (Nat.le_trans h1.size (Nat.le_trans h2.size h3.size)))))
  go_wp2
  go_ret
  exact ⟨rfl, hb⟩

theorem tells_any (r : Int) (hr1 : -2147483648 ≤ r) (hr2 : r ≤ 2147483647) (w : World) :
    Calls Try.prog 9 #[.int .i32 r] w fun e w' => e = .returned (.bool true) ∧ Below w.heap.size w w' := by
  go_enter Try.func9, Try.ntmps9
  go_wp2_with fail
  refine (of_eastv _ hr1 hr2 _).mono ?_; rintro e w1 ⟨rfl, h1⟩
  go_wp2_with fail
  refine (ref_eastv _ hr1 hr2 _).mono ?_; rintro e w2 ⟨rfl, h2⟩
  go_wp2_with fail
  refine (works_any _).mono ?_; rintro e w3 ⟨rfl, h3⟩
  have hb := h1.trans ((h2.mono h1.size).trans (h3.mono (Nat.le_trans h1.size h2.size)))
  go_wp2
  go_ret
  exact ⟨rfl, hb⟩

end Go.Proofs.Ytnmnpackjalbbaa.East

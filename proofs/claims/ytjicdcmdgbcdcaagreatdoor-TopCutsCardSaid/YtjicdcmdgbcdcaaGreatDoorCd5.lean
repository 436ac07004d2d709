/-
  Functions that make tables, run by the machine to their return.
  Functions that make tables, run by the machine to their return.
  The walk of conj.Of.
  The walk of a reference that looks through its lists, one by one.
  Package conj: the program and the reference tell one value.
-/
import Derived.Test.YtjicdcmdgbcdcaaGreatDoorCd1
import Derived.Test.YtjicdcmdgbcdcaaGreatDoorCd2
import Derived.Deep.QuietTactic
import Derived.BigQuiet
section
namespace Go.Proofs.YtjicdcmdgbcdcaaGreatDoor.ConjTab
set_option linter.unusedSimpArgs false
set_option linter.unusedVariables false
open Go.RowKit Mem Tab

noncomputable def conjRows : List (List Value) := rowsOf Tryz.f282
noncomputable def conj : List Int := conjRows.flatten.map numOf
theorem conj_cells : conjRows.flatten = conj.map (Value.int .i64) := by kernel_rfl
theorem conj_run (w : World) (cs : List Frame) : runN Tryz.prog 60 (lone (Frame.enter Tryz.prog 282 #[] .normal) cs w) =
  .next (lone { fn := 282, tmps := (Value.slice (some ⟨w.heap.size, 0, none⟩) 50 50 :: conjRows.map (fun r => Value.agg r.toArray) ++ [Value.slice (some ⟨w.heap.size, 0, none⟩) 50 50]).toArray, todo := [.code .ret], defers := [], mode := .returning, kind := .normal } cs
    (w.alloc (.cells conjRows.flatten.toArray 327))) := by kernel_rfl
theorem conj_any (w : World) : Calls Tryz.prog 282 #[] w (TabPost w 50 .i64 conj) :=
  (calls_of_runN (F := Tryz.f282) (conj_run w) Tryz.func282 (by kernel_rfl)).mono (tab_post conj_cells)
theorem conj_len : conj.length = 150 := by kernel_rfl

end Go.Proofs.YtjicdcmdgbcdcaaGreatDoor.ConjTab

namespace Go.Proofs.YtjicdcmdgbcdcaaGreatDoor.ConjTab
set_option linter.unusedSimpArgs false
set_option linter.unusedVariables false
open Go.RowKit Mem Tab

noncomputable def l1Rows : List (List Value) := rowsOf Tryz.f319
noncomputable def l1 : List Int := l1Rows.flatten.map numOf
noncomputable def l2Rows : List (List Value) := rowsOf Tryz.f320
noncomputable def l2 : List Int := l2Rows.flatten.map numOf
noncomputable def l3Rows : List (List Value) := rowsOf Tryz.f321
noncomputable def l3 : List Int := l3Rows.flatten.map numOf
end Go.Proofs.YtjicdcmdgbcdcaaGreatDoor.ConjTab

namespace Go.Proofs.YtjicdcmdgbcdcaaGreatDoor.Conj
set_option linter.unusedSimpArgs false
set_option linter.unusedVariables false
open Go.RowKit Mem Tab

theorem ret_int {k : IntKind} {a b : Int} (h : a = b) : Ending.returned (.int k a) = .returned (.int k b) := by rw [h]
theorem ret_bool {a b : Bool} (h : a = b) : Ending.returned (.bool a) = .returned (.bool b) := by rw [h]

theorem clo_eg : ∀ args w, (callFunc 283 args).run Tryz.prog w = .ok (.enter 283 args) w := fun _ _ => by kernel_rfl

set_option maxHeartbeats 400000 in
theorem clo_any (bt br tb : Nat) (n i : Nat) (r y : Int) (w : World) (hi : (i : Int) < n) (hn : (n : Int) < 4611686018427387904) (hr1 : -2147483648 ≤ r) (hr2 : r ≤ 2147483647)
    (ht : w.cell? ⟨bt, 0, none⟩ = some (.slice (some ⟨tb, 0, none⟩) n n)) (hr : w.cell? ⟨br, 0, none⟩ = some (.int .i32 r)) (hc : w.cell? ⟨tb, i * 3 + 1, none⟩ = some (.int .i64 y)) :
    Calls Tryz.prog 283 #[.int .i64 i, .pointer (some ⟨bt, 0, none⟩), .pointer (some ⟨br, 0, none⟩)] w fun e w' => e = .returned (.bool (decide (r ≤ y))) ∧ Below w.heap.size w w' := by
  go_enter Tryz.func283, Tryz.ntmps283
  go_wp2
  go_quiet (fail)
  go_wp2
  go_ret
  exact ⟨rfl, bdrew _ _⟩

theorem good : TabLaw.Good ConjTab.conj 50 := ⟨by kernel_rfl, by kernel_rfl⟩
noncomputable def val (r : Int) : Int := TabLaw.val3 (TabLaw.trip ConjTab.conj) r

set_option maxHeartbeats 400000 in
theorem of_any (r : Int) (hr1 : -2147483648 ≤ r) (hr2 : r ≤ 2147483647) (w : World) :
    Calls Tryz.prog 229 #[.int .i32 r] w fun e w' => e = .returned (.int .i64 (val r)) ∧ Below w.heap.size w w' := by
  go_enter Tryz.func229, Tryz.ntmps229
  go_wp2_with fail
  refine (ConjTab.conj_any _).mono ?_
  rintro e w1 ⟨rfl, hb, hk, hz⟩
  have hbx : (w.alloc (.cells #[.int .i32 r] 21)).cell? ⟨w.heap.size, 0, none⟩ = some (.int .i32 r) := by simp
  have hbw : Below w.heap.size w w1 := ((Below.refl _ _).alloc (Nat.le_refl _) _).trans (hb.mono (by simp))
  have hr0 := (hb.cell (p := ⟨w.heap.size, 0, none⟩) (by simp)).trans hbx
  have hs0 : (w.alloc (.cells #[.int .i32 r] 21)).heap.size = w.heap.size + 1 := by simp
  rw [hs0] at hz hk ⊢
  clear hbx hb hs0
  go_wp2_with fail
  have f1 : (w1.alloc (.cells #[.slice (some ⟨w.heap.size + 1, 0, none⟩) 50 50] 324)).cell? ⟨w.heap.size + 1 + 1, 0, none⟩ = some (.slice (some ⟨w.heap.size + 1, 0, none⟩) 50 50) := by rw [← hz]; simp
  have hb1 : Below w1.heap.size w1 (w1.alloc (.cells #[.slice (some ⟨w.heap.size + 1, 0, none⟩) 50 50] 324)) := (Below.refl _ _).alloc (Nat.le_refl _) _
  have f5 : (w1.alloc (.cells #[.slice (some ⟨w.heap.size + 1, 0, none⟩) 50 50] 324)).heap.size = w.heap.size + 1 + 1 + 1 := by simp [hz]
  generalize w1.alloc (.cells #[.slice (some ⟨w.heap.size + 1, 0, none⟩) 50 50] 324) = W2 at *
  have f2 := (hb1.cell (p := ⟨w.heap.size, 0, none⟩) (by simp [hz]; omega)).trans hr0
  have f3 := hk.below hb1 (by omega)
  have f4 := hbw.trans (hb1.mono (by omega))
  clear hb1 hr0 hbw hk hz
  refine (Search.search_any _ _ 50 (fun t => decide (r ≤ ConjTab.conj.getD (t * 3 + 1) 0)) W2 clo_eg (by omega) ?_ ?_).mono ?_
  · intro wr i hi hbr
    refine (clo_any _ _ _ 50 i r _ wr (by omega) (by omega) hr1 hr2 ((hbr.cell (p := ⟨w.heap.size + 1 + 1, 0, none⟩) (by simp [f5])).trans f1) ((hbr.cell (p := ⟨w.heap.size, 0, none⟩) (by simp [f5]; omega)).trans f2) ?_)
    exact (hbr.cell (p := ⟨w.heap.size + 1, _, none⟩) (by simp [f5])).trans (f3.cell _ _ (getnum _ (by rw [ConjTab.conj_len]; omega)))
  · intro a b hab hb h
    exact decide_eq_true (good.mono r a b hab hb (of_decide_eq_true h))
  rintro e w3 ⟨i, hfirst, rfl, hb3⟩
  have g1 := (hb3.cell (p := ⟨w.heap.size + 1 + 1, 0, none⟩) (by simp [f5])).trans f1
  have g2 := (hb3.cell (p := ⟨w.heap.size, 0, none⟩) (by simp [f5]; omega)).trans f2
  have g3 := f3.below hb3 (by omega)
  have g4 := f4.trans (hb3.mono (by omega))
  clear f1 f2 f3 f4 f5 hb3
  obtain ⟨hi, hf1, hf2⟩ := hfirst
  have HV := Lib.hid (good.first hi hf1 hf2)
  clear hf1 hf2
  by_cases hlt : i < 50
  · have hne : ((i : Int) == 50) = false := by simp; omega
    have hi' : (i : Int) < 50 := by omega
    have c0 := g3.cell (i * 3) _ (getnum _ (by rw [ConjTab.conj_len]; omega))
    have c2 := g3.cell (i * 3 + 2) _ (getnum _ (by rw [ConjTab.conj_len]; omega))
    have HV := Lib.hid (HV.out.trans (if_pos hlt))
    clear g3
    generalize ConjTab.conj.getD (i * 3) 0 = lo at *
    generalize ConjTab.conj.getD (i * 3 + 2) 0 = v at *
    by_cases hle : lo ≤ r
    · have hd : decide (r < lo) = false := by simp; omega
      go_wp2
      go_quiet (fail)
      go_wp2
      go_ret
      exact ⟨ret_int (by unfold val; rw [HV.out, if_pos hle]), g4.trans (bdrew _ _ |>.mono g4.size)⟩
    · have hd : decide (r < lo) = true := by simp; omega
      go_wp2
      go_quiet (fail)
      go_wp2
      go_ret
      exact ⟨ret_int (by unfold val; rw [HV.out, if_neg (by omega)]), g4.trans (bdrew _ _ |>.mono g4.size)⟩
  · obtain rfl : i = 50 := by omega
    go_wp2
    go_quiet (fail)
    go_wp2
    go_ret
    exact ⟨ret_int (by unfold val; rw [HV.out]; rfl), g4.trans (bdrew _ _ |>.mono g4.size)⟩

end Go.Proofs.YtjicdcmdgbcdcaaGreatDoor.Conj

namespace Go.Proofs.YtjicdcmdgbcdcaaGreatDoor.ConjRefW
set_option linter.unusedSimpArgs false
set_option linter.unusedVariables false
open Go.RowKit Mem Tab

noncomputable def tabs : List (List Int) := [ConjTab.l1, ConjTab.l2, ConjTab.l3]
noncomputable def LL : List (List (Int × Int)) := tabs.map TabLaw.pairs

def Lists (W : World) (base blk : Nat) : Prop := ∀ k L, tabs[k]? = some L → ∃ n : Nat, W.cell? ⟨blk, k, none⟩ = some (.slice (some ⟨base + k, 0, none⟩) n n) ∧ Blk W (base + k) (L.map (Value.int .i64)) ∧ L.length = 2 * n ∧ (TabLaw.pairs L).length = n ∧ (n : Int) < 4611686018427387904

noncomputable def refv (r : Int) : Int := (match TabLaw.which LL r with | some k => (k : Int) + 1 | none => 0)

end Go.Proofs.YtjicdcmdgbcdcaaGreatDoor.ConjRefW

namespace Go.Proofs.YtjicdcmdgbcdcaaGreatDoor.Conj
set_option linter.unusedSimpArgs false
set_option linter.unusedVariables false
open Go.RowKit Mem Tab

end Go.Proofs.YtjicdcmdgbcdcaaGreatDoor.Conj
end

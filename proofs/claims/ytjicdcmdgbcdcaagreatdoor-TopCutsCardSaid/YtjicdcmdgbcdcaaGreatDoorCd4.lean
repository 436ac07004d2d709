/-
  Functions that make tables, run by the machine to their return.
  Functions that make tables, run by the machine to their return.
  The walk of gcb.Of.
  The walk of a reference that looks through its lists, one by one.
  The class of breaks: the program and the reference tell one value.
-/
import Derived.Test.YtjicdcmdgbcdcaaGreatDoorCd1
import Derived.Test.YtjicdcmdgbcdcaaGreatDoorCd2
import Derived.Test.YtjicdcmdgbcdcaaGreatDoorCd3
import Derived.Deep.QuietTactic
import Derived.BigQuiet
section
namespace Go.Proofs.YtjicdcmdgbcdcaaGreatDoor.GcbTab
set_option linter.unusedSimpArgs false
set_option linter.unusedVariables false
open Go.RowKit Mem Tab

noncomputable def gcbRows : List (List Value) := rowsOf Tryz.f276
noncomputable def gcb : List Int := gcbRows.flatten.map numOf
theorem gcb_cells : gcbRows.flatten = gcb.map (Value.int .i64) := by kernel_rfl
theorem gcb_run (w : World) (cs : List Frame) : runN Tryz.prog 141 (lone (Frame.enter Tryz.prog 276 #[] .normal) cs w) =
  .next (lone { fn := 276, tmps := (Value.slice (some ⟨w.heap.size, 0, none⟩) 131 131 :: gcbRows.map (fun r => Value.agg r.toArray) ++ [Value.slice (some ⟨w.heap.size, 0, none⟩) 131 131]).toArray, todo := [.code .ret], defers := [], mode := .returning, kind := .normal } cs
    (w.alloc (.cells gcbRows.flatten.toArray 327))) := by kernel_rfl
theorem gcb_any (w : World) : Calls Tryz.prog 276 #[] w (TabPost w 131 .i64 gcb) :=
  (calls_of_runN (F := Tryz.f276) (gcb_run w) Tryz.func276 (by kernel_rfl)).mono (tab_post gcb_cells)
theorem gcb_len : gcb.length = 393 := by kernel_rfl

end Go.Proofs.YtjicdcmdgbcdcaaGreatDoor.GcbTab

namespace Go.Proofs.YtjicdcmdgbcdcaaGreatDoor.GcbTab
set_option linter.unusedSimpArgs false
set_option linter.unusedVariables false
open Go.RowKit Mem Tab

noncomputable def l1Rows : List (List Value) := rowsOf Tryz.f308
noncomputable def l1 : List Int := l1Rows.flatten.map numOf
noncomputable def l2Rows : List (List Value) := rowsOf Tryz.f309
noncomputable def l2 : List Int := l2Rows.flatten.map numOf
noncomputable def l3Rows : List (List Value) := rowsOf Tryz.f310
noncomputable def l3 : List Int := l3Rows.flatten.map numOf
noncomputable def l4Rows : List (List Value) := rowsOf Tryz.f311
noncomputable def l4 : List Int := l4Rows.flatten.map numOf
noncomputable def l5Rows : List (List Value) := rowsOf Tryz.f312
noncomputable def l5 : List Int := l5Rows.flatten.map numOf
noncomputable def l6Rows : List (List Value) := rowsOf Tryz.f313
noncomputable def l6 : List Int := l6Rows.flatten.map numOf
noncomputable def l7Rows : List (List Value) := rowsOf Tryz.f314
noncomputable def l7 : List Int := l7Rows.flatten.map numOf
noncomputable def l8Rows : List (List Value) := rowsOf Tryz.f315
noncomputable def l8 : List Int := l8Rows.flatten.map numOf
end Go.Proofs.YtjicdcmdgbcdcaaGreatDoor.GcbTab

namespace Go.Proofs.YtjicdcmdgbcdcaaGreatDoor.Gcb
set_option linter.unusedSimpArgs false
set_option linter.unusedVariables false
open Go.RowKit Mem Tab

theorem ret_int {k : IntKind} {a b : Int} (h : a = b) : Ending.returned (.int k a) = .returned (.int k b) := by rw [h]
theorem ret_bool {a b : Bool} (h : a = b) : Ending.returned (.bool a) = .returned (.bool b) := by rw [h]

theorem clo_eg : ∀ args w, (callFunc 278 args).run Tryz.prog w = .ok (.enter 278 args) w := fun _ _ => by kernel_rfl

set_option maxHeartbeats 400000 in
theorem clo_any (bt br tb : Nat) (n i : Nat) (r y : Int) (w : World) (hi : (i : Int) < n) (hn : (n : Int) < 4611686018427387904) (hr1 : -2147483648 ≤ r) (hr2 : r ≤ 2147483647)
    (ht : w.cell? ⟨bt, 0, none⟩ = some (.slice (some ⟨tb, 0, none⟩) n n)) (hr : w.cell? ⟨br, 0, none⟩ = some (.int .i32 r)) (hc : w.cell? ⟨tb, i * 3 + 1, none⟩ = some (.int .i64 y)) :
    Calls Tryz.prog 278 #[.int .i64 i, .pointer (some ⟨bt, 0, none⟩), .pointer (some ⟨br, 0, none⟩)] w fun e w' => e = .returned (.bool (decide (r ≤ y))) ∧ Below w.heap.size w w' := by
  go_enter Tryz.func278, Tryz.ntmps278
  go_wp2
  go_quiet (fail)
  go_wp2
  go_ret
  exact ⟨rfl, bdrew _ _⟩

theorem good : TabLaw.Good GcbTab.gcb 131 := ⟨by kernel_rfl, by kernel_rfl⟩
noncomputable def tval (r : Int) : Int := TabLaw.val3 (TabLaw.trip GcbTab.gcb) r
noncomputable def val (r : Int) : Int := if tval r = 0 then Hangul.hclass r else tval r
theorem pos : ((TabLaw.trip GcbTab.gcb).all fun t => decide (1 ≤ t.2.2)) = true := by kernel_rfl

set_option maxHeartbeats 400000 in
theorem of_any (r : Int) (hr1 : -2147483648 ≤ r) (hr2 : r ≤ 2147483647) (w : World) :
    Calls Tryz.prog 227 #[.int .i32 r] w fun e w' => e = .returned (.int .i64 (val r)) ∧ Below w.heap.size w w' := by
  go_enter Tryz.func227, Tryz.ntmps227
  go_wp2_with fail
  refine (GcbTab.gcb_any _).mono ?_
  rintro e w1 ⟨rfl, hb, hk, hz⟩
  have hbx : (w.alloc (.cells #[.int .i32 r] 21)).cell? ⟨w.heap.size, 0, none⟩ = some (.int .i32 r) := by simp
  have hbw : Below w.heap.size w w1 := ((Below.refl _ _).alloc (Nat.le_refl _) _).trans (hb.mono (by simp))
  have hr0 := (hb.cell (p := ⟨w.heap.size, 0, none⟩) (by simp)).trans hbx
  have hs0 : (w.alloc (.cells #[.int .i32 r] 21)).heap.size = w.heap.size + 1 := by simp
  rw [hs0] at hz hk ⊢
  clear hbx hb hs0
  go_wp2_with fail
  have f1 : (w1.alloc (.cells #[.slice (some ⟨w.heap.size + 1, 0, none⟩) 131 131] 324)).cell? ⟨w.heap.size + 1 + 1, 0, none⟩ = some (.slice (some ⟨w.heap.size + 1, 0, none⟩) 131 131) := by rw [← hz]; simp
  have hb1 : Below w1.heap.size w1 (w1.alloc (.cells #[.slice (some ⟨w.heap.size + 1, 0, none⟩) 131 131] 324)) := (Below.refl _ _).alloc (Nat.le_refl _) _
  have f5 : (w1.alloc (.cells #[.slice (some ⟨w.heap.size + 1, 0, none⟩) 131 131] 324)).heap.size = w.heap.size + 1 + 1 + 1 := by simp [hz]
  generalize w1.alloc (.cells #[.slice (some ⟨w.heap.size + 1, 0, none⟩) 131 131] 324) = W2 at *
  have f2 := (hb1.cell (p := ⟨w.heap.size, 0, none⟩) (by simp [hz]; omega)).trans hr0
  have f3 := hk.below hb1 (by omega)
  have f4 := hbw.trans (hb1.mono (by omega))
  clear hb1 hr0 hbw hk hz
  refine (Search.search_any _ _ 131 (fun t => decide (r ≤ GcbTab.gcb.getD (t * 3 + 1) 0)) W2 clo_eg (by omega) ?_ ?_).mono ?_
  · intro wr i hi hbr
    refine (clo_any _ _ _ 131 i r _ wr (by omega) (by omega) hr1 hr2 ((hbr.cell (p := ⟨w.heap.size + 1 + 1, 0, none⟩) (by simp [f5])).trans f1) ((hbr.cell (p := ⟨w.heap.size, 0, none⟩) (by simp [f5]; omega)).trans f2) ?_)
    exact (hbr.cell (p := ⟨w.heap.size + 1, _, none⟩) (by simp [f5])).trans (f3.cell _ _ (getnum _ (by rw [GcbTab.gcb_len]; omega)))
  · intro a b hab hb h
    exact decide_eq_true (good.mono r a b hab hb (of_decide_eq_true h))
  rintro e w3 ⟨i, hfirst, rfl, hb3⟩
  have g1 := (hb3.cell (p := ⟨w.heap.size + 1 + 1, 0, none⟩) (by simp [f5])).trans f1
  have g2 := (hb3.cell (p := ⟨w.heap.size, 0, none⟩) (by simp [f5]; omega)).trans f2
  have g3 := f3.below hb3 (by omega)
  have g4 := f4.trans (hb3.mono (by omega))
  clear f1 f2 f3 f4 f5 hb3
  obtain ⟨hi, hf1, hf2⟩ := hfirst
  have HV := Lib.hid (good.first hi hf1 hf2)
  clear hf1 hf2
  by_cases hlt : i < 131
  · have hne : decide ((i : Int) < 131) = true := by simp; omega
    have hi' : (i : Int) < 131 := by omega
    have c0 := g3.cell (i * 3) _ (getnum _ (by rw [GcbTab.gcb_len]; omega))
    have c2 := g3.cell (i * 3 + 2) _ (getnum _ (by rw [GcbTab.gcb_len]; omega))
    have HV := Lib.hid (HV.out.trans (if_pos hlt))
    have hp : 1 ≤ GcbTab.gcb.getD (i * 3 + 2) 0 := by
      obtain ⟨t, ht, _, _, e3⟩ := good.row i hlt
      rw [e3]
      exact of_decide_eq_true (List.all_eq_true.1 pos t (List.mem_iff_getElem?.2 ⟨i, ht⟩))
    clear g3
    generalize GcbTab.gcb.getD (i * 3) 0 = lo at *
    generalize GcbTab.gcb.getD (i * 3 + 2) 0 = v at *
    by_cases hle : lo ≤ r
    · have hd : decide (lo ≤ r) = true := by simp; omega
      go_wp2
      go_quiet (fail)
      go_wp2
      go_ret
      exact ⟨ret_int (by unfold val tval; rw [HV.out.trans (if_pos hle), if_neg (by omega)]), g4.trans (bdrew _ _ |>.mono g4.size)⟩
    · have hd : decide (lo ≤ r) = false := by simp; omega
      go_wp2
      go_quiet (fail)
      go_wp2_with (go_at_call 279; refine (Hangul.class_any _ _).mono ?_; rintro e w' ⟨rfl, rfl⟩)
      go_ret
      exact ⟨ret_int (by unfold val tval; rw [HV.out.trans (if_neg (by omega)), if_pos rfl]), g4.trans (bdrew _ _ |>.mono g4.size)⟩
  · obtain rfl : i = 131 := by omega
    go_wp2
    go_quiet (fail)
    go_wp2_with (go_at_call 279; refine (Hangul.class_any _ _).mono ?_; rintro e w' ⟨rfl, rfl⟩)
    go_ret
    exact ⟨ret_int (by unfold val tval; rw [HV.out.trans (if_neg (by omega)), if_pos rfl]), g4.trans (bdrew _ _ |>.mono g4.size)⟩

end Go.Proofs.YtjicdcmdgbcdcaaGreatDoor.Gcb

namespace Go.Proofs.YtjicdcmdgbcdcaaGreatDoor.GcbRefW
set_option linter.unusedSimpArgs false
set_option linter.unusedVariables false
open Go.RowKit Mem Tab

noncomputable def tabs : List (List Int) := [GcbTab.l1, GcbTab.l2, GcbTab.l3, GcbTab.l4, GcbTab.l5, GcbTab.l6, GcbTab.l7, GcbTab.l8]
noncomputable def LL : List (List (Int × Int)) := tabs.map TabLaw.pairs

def Lists (W : World) (base blk : Nat) : Prop := ∀ k L, tabs[k]? = some L → ∃ n : Nat, W.cell? ⟨blk, k, none⟩ = some (.slice (some ⟨base + k, 0, none⟩) n n) ∧ Blk W (base + k) (L.map (Value.int .i64)) ∧ L.length = 2 * n ∧ (TabLaw.pairs L).length = n ∧ (n : Int) < 4611686018427387904

noncomputable def refv (r : Int) : Int := (match TabLaw.which LL r with | some k => (k : Int) + 1 | none => Hangul.hclass r)

end Go.Proofs.YtjicdcmdgbcdcaaGreatDoor.GcbRefW

namespace Go.Proofs.YtjicdcmdgbcdcaaGreatDoor.Gcb
set_option linter.unusedSimpArgs false
set_option linter.unusedVariables false
open Go.RowKit Mem Tab

end Go.Proofs.YtjicdcmdgbcdcaaGreatDoor.Gcb
end

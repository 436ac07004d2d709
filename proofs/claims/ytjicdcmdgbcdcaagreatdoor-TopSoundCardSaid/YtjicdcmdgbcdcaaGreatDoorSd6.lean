/-
  Functions that make tables, run by the machine to their return.
  Functions that make tables, run by the machine to their return.
  The walk of gcb.Of.
  The walk of a reference that looks through its lists, one by one.
  The class of breaks: the program and the reference tell one value.
-/
import Derived.Test.YtjicdcmdgbcdcaaGreatDoorSd1
import Derived.Test.YtjicdcmdgbcdcaaGreatDoorSd3
import Derived.Test.YtjicdcmdgbcdcaaGreatDoorSd5
import Derived.Deep.QuietTactic
import Derived.BigQuiet
section
namespace Go.Proofs.YtjicdcmdgbcdcaaGreatDoor.GcbTab
set_option linter.unusedSimpArgs false
set_option linter.unusedVariables false
open Go.RowKit Mem Tab

noncomputable def gcbRows : List (List Value) := rowsOf Tryz.f276
noncomputable def gcb : List Int := gcbRows.flatten.map numOf
theorem gcb_cells : gcbRows.flatten = gcb.map (Value.int .i64) := by kernel_rfl
theorem gcb_run (w : World) (cs : List Frame) : runN Tryz.prog 141 (lone (Frame.enter Tryz.prog 276 #[] .normal) cs w) =
  .next (lone { fn := 276, tmps := (Value.slice (some ⟨w.heap.size, 0, none⟩) 131 131 :: gcbRows.map (fun r => Value.agg r.toArray) ++ [Value.slice (some ⟨w.heap.size, 0, none⟩) 131 131]).toArray, todo := [.code .ret], defers := [], mode := .returning, kind := .normal } cs
    (w.alloc (.cells gcbRows.flatten.toArray 327))) := by kernel_rfl
theorem gcb_any (w : World) : Calls Tryz.prog 276 #[] w (TabPost w 131 .i64 gcb) :=
  (calls_of_runN (F := Tryz.f276) (gcb_run w) Tryz.func276 (by kernel_rfl)).mono (tab_post gcb_cells)
theorem gcb_len : gcb.length = 393 := by kernel_rfl

end Go.Proofs.YtjicdcmdgbcdcaaGreatDoor.GcbTab

namespace Go.Proofs.YtjicdcmdgbcdcaaGreatDoor.GcbTab
set_option linter.unusedSimpArgs false
set_option linter.unusedVariables false
open Go.RowKit Mem Tab

noncomputable def l1Rows : List (List Value) := rowsOf Tryz.f308
noncomputable def l1 : List Int := l1Rows.flatten.map numOf
theorem l1_cells : l1Rows.flatten = l1.map (Value.int .i64) := by kernel_rfl
theorem l1_run (w : World) (cs : List Frame) : runN Tryz.prog 11 (lone (Frame.enter Tryz.prog 308 #[] .normal) cs w) =
  .next (lone { fn := 308, tmps := (Value.slice (some ⟨w.heap.size, 0, none⟩) 1 1 :: l1Rows.map (fun r => Value.agg r.toArray) ++ [Value.slice (some ⟨w.heap.size, 0, none⟩) 1 1]).toArray, todo := [.code .ret], defers := [], mode := .returning, kind := .normal } cs
    (w.alloc (.cells l1Rows.flatten.toArray 149))) := by kernel_rfl
theorem l1_any (w : World) : Calls Tryz.prog 308 #[] w (TabPost w 1 .i64 l1) :=
  (calls_of_runN (F := Tryz.f308) (l1_run w) Tryz.func308 (by kernel_rfl)).mono (tab_post l1_cells)
theorem l1_len : l1.length = 2 := by kernel_rfl

noncomputable def l2Rows : List (List Value) := rowsOf Tryz.f309
noncomputable def l2 : List Int := l2Rows.flatten.map numOf
theorem l2_cells : l2Rows.flatten = l2.map (Value.int .i64) := by kernel_rfl
theorem l2_run (w : World) (cs : List Frame) : runN Tryz.prog 11 (lone (Frame.enter Tryz.prog 309 #[] .normal) cs w) =
  .next (lone { fn := 309, tmps := (Value.slice (some ⟨w.heap.size, 0, none⟩) 1 1 :: l2Rows.map (fun r => Value.agg r.toArray) ++ [Value.slice (some ⟨w.heap.size, 0, none⟩) 1 1]).toArray, todo := [.code .ret], defers := [], mode := .returning, kind := .normal } cs
    (w.alloc (.cells l2Rows.flatten.toArray 149))) := by kernel_rfl
theorem l2_any (w : World) : Calls Tryz.prog 309 #[] w (TabPost w 1 .i64 l2) :=
  (calls_of_runN (F := Tryz.f309) (l2_run w) Tryz.func309 (by kernel_rfl)).mono (tab_post l2_cells)
theorem l2_len : l2.length = 2 := by kernel_rfl

noncomputable def l3Rows : List (List Value) := rowsOf Tryz.f310
noncomputable def l3 : List Int := l3Rows.flatten.map numOf
theorem l3_cells : l3Rows.flatten = l3.map (Value.int .i64) := by kernel_rfl
theorem l3_run (w : World) (cs : List Frame) : runN Tryz.prog 26 (lone (Frame.enter Tryz.prog 310 #[] .normal) cs w) =
  .next (lone { fn := 310, tmps := (Value.slice (some ⟨w.heap.size, 0, none⟩) 16 16 :: l3Rows.map (fun r => Value.agg r.toArray) ++ [Value.slice (some ⟨w.heap.size, 0, none⟩) 16 16]).toArray, todo := [.code .ret], defers := [], mode := .returning, kind := .normal } cs
    (w.alloc (.cells l3Rows.flatten.toArray 149))) := by kernel_rfl
theorem l3_any (w : World) : Calls Tryz.prog 310 #[] w (TabPost w 16 .i64 l3) :=
  (calls_of_runN (F := Tryz.f310) (l3_run w) Tryz.func310 (by kernel_rfl)).mono (tab_post l3_cells)
theorem l3_len : l3.length = 32 := by kernel_rfl

noncomputable def l4Rows : List (List Value) := rowsOf Tryz.f311
noncomputable def l4 : List Int := l4Rows.flatten.map numOf
theorem l4_cells : l4Rows.flatten = l4.map (Value.int .i64) := by kernel_rfl
theorem l4_run (w : World) (cs : List Frame) : runN Tryz.prog 87 (lone (Frame.enter Tryz.prog 311 #[] .normal) cs w) =
  .next (lone { fn := 311, tmps := (Value.slice (some ⟨w.heap.size, 0, none⟩) 77 77 :: l4Rows.map (fun r => Value.agg r.toArray) ++ [Value.slice (some ⟨w.heap.size, 0, none⟩) 77 77]).toArray, todo := [.code .ret], defers := [], mode := .returning, kind := .normal } cs
    (w.alloc (.cells l4Rows.flatten.toArray 149))) := by kernel_rfl
theorem l4_any (w : World) : Calls Tryz.prog 311 #[] w (TabPost w 77 .i64 l4) :=
  (calls_of_runN (F := Tryz.f311) (l4_run w) Tryz.func311 (by kernel_rfl)).mono (tab_post l4_cells)
theorem l4_len : l4.length = 154 := by kernel_rfl

noncomputable def l5Rows : List (List Value) := rowsOf Tryz.f312
noncomputable def l5 : List Int := l5Rows.flatten.map numOf
theorem l5_cells : l5Rows.flatten = l5.map (Value.int .i64) := by kernel_rfl
theorem l5_run (w : World) (cs : List Frame) : runN Tryz.prog 11 (lone (Frame.enter Tryz.prog 312 #[] .normal) cs w) =
  .next (lone { fn := 312, tmps := (Value.slice (some ⟨w.heap.size, 0, none⟩) 1 1 :: l5Rows.map (fun r => Value.agg r.toArray) ++ [Value.slice (some ⟨w.heap.size, 0, none⟩) 1 1]).toArray, todo := [.code .ret], defers := [], mode := .returning, kind := .normal } cs
    (w.alloc (.cells l5Rows.flatten.toArray 149))) := by kernel_rfl
theorem l5_any (w : World) : Calls Tryz.prog 312 #[] w (TabPost w 1 .i64 l5) :=
  (calls_of_runN (F := Tryz.f312) (l5_run w) Tryz.func312 (by kernel_rfl)).mono (tab_post l5_cells)
theorem l5_len : l5.length = 2 := by kernel_rfl

noncomputable def l6Rows : List (List Value) := rowsOf Tryz.f313
noncomputable def l6 : List Int := l6Rows.flatten.map numOf
theorem l6_cells : l6Rows.flatten = l6.map (Value.int .i64) := by kernel_rfl
theorem l6_run (w : World) (cs : List Frame) : runN Tryz.prog 11 (lone (Frame.enter Tryz.prog 313 #[] .normal) cs w) =
  .next (lone { fn := 313, tmps := (Value.slice (some ⟨w.heap.size, 0, none⟩) 1 1 :: l6Rows.map (fun r => Value.agg r.toArray) ++ [Value.slice (some ⟨w.heap.size, 0, none⟩) 1 1]).toArray, todo := [.code .ret], defers := [], mode := .returning, kind := .normal } cs
    (w.alloc (.cells l6Rows.flatten.toArray 149))) := by kernel_rfl
theorem l6_any (w : World) : Calls Tryz.prog 313 #[] w (TabPost w 1 .i64 l6) :=
  (calls_of_runN (F := Tryz.f313) (l6_run w) Tryz.func313 (by kernel_rfl)).mono (tab_post l6_cells)
theorem l6_len : l6.length = 2 := by kernel_rfl

noncomputable def l7Rows : List (List Value) := rowsOf Tryz.f314
noncomputable def l7 : List Int := l7Rows.flatten.map numOf
theorem l7_cells : l7Rows.flatten = l7.map (Value.int .i64) := by kernel_rfl
theorem l7_run (w : World) (cs : List Frame) : runN Tryz.prog 18 (lone (Frame.enter Tryz.prog 314 #[] .normal) cs w) =
  .next (lone { fn := 314, tmps := (Value.slice (some ⟨w.heap.size, 0, none⟩) 8 8 :: l7Rows.map (fun r => Value.agg r.toArray) ++ [Value.slice (some ⟨w.heap.size, 0, none⟩) 8 8]).toArray, todo := [.code .ret], defers := [], mode := .returning, kind := .normal } cs
    (w.alloc (.cells l7Rows.flatten.toArray 149))) := by kernel_rfl
theorem l7_any (w : World) : Calls Tryz.prog 314 #[] w (TabPost w 8 .i64 l7) :=
  (calls_of_runN (F := Tryz.f314) (l7_run w) Tryz.func314 (by kernel_rfl)).mono (tab_post l7_cells)
theorem l7_len : l7.length = 16 := by kernel_rfl

noncomputable def l8Rows : List (List Value) := rowsOf Tryz.f315
noncomputable def l8 : List Int := l8Rows.flatten.map numOf
theorem l8_cells : l8Rows.flatten = l8.map (Value.int .i64) := by kernel_rfl
theorem l8_run (w : World) (cs : List Frame) : runN Tryz.prog 36 (lone (Frame.enter Tryz.prog 315 #[] .normal) cs w) =
  .next (lone { fn := 315, tmps := (Value.slice (some ⟨w.heap.size, 0, none⟩) 26 26 :: l8Rows.map (fun r => Value.agg r.toArray) ++ [Value.slice (some ⟨w.heap.size, 0, none⟩) 26 26]).toArray, todo := [.code .ret], defers := [], mode := .returning, kind := .normal } cs
    (w.alloc (.cells l8Rows.flatten.toArray 149))) := by kernel_rfl
theorem l8_any (w : World) : Calls Tryz.prog 315 #[] w (TabPost w 26 .i64 l8) :=
  (calls_of_runN (F := Tryz.f315) (l8_run w) Tryz.func315 (by kernel_rfl)).mono (tab_post l8_cells)
theorem l8_len : l8.length = 52 := by kernel_rfl

end Go.Proofs.YtjicdcmdgbcdcaaGreatDoor.GcbTab

namespace Go.Proofs.YtjicdcmdgbcdcaaGreatDoor.Gcb
set_option linter.unusedSimpArgs false
set_option linter.unusedVariables false
open Go.RowKit Mem Tab

theorem ret_int {k : IntKind} {a b : Int} (h : a = b) : Ending.returned (.int k a) = .returned (.int k b) := by rw [h]
theorem ret_bool {a b : Bool} (h : a = b) : Ending.returned (.bool a) = .returned (.bool b) := by rw [h]

theorem clo_eg : ∀ args w, (callFunc 278 args).run Tryz.prog w = .ok (.enter 278 args) w := fun _ _ => by kernel_rfl

set_option maxHeartbeats 400000 in
theorem clo_any (bt br tb : Nat) (n i : Nat) (r y : Int) (w : World) (hi : (i : Int) < n) (hn : (n : Int) < 4611686018427387904) (hr1 : -2147483648 ≤ r) (hr2 : r ≤ 2147483647)
    (ht : w.cell? ⟨bt, 0, none⟩ = some (.slice (some ⟨tb, 0, none⟩) n n)) (hr : w.cell? ⟨br, 0, none⟩ = some (.int .i32 r)) (hc : w.cell? ⟨tb, i * 3 + 1, none⟩ = some (.int .i64 y)) :
    Calls Tryz.prog 278 #[.int .i64 i, .pointer (some ⟨bt, 0, none⟩), .pointer (some ⟨br, 0, none⟩)] w fun e w' => e = .returned (.bool (decide (r ≤ y))) ∧ Below w.heap.size w w' := by
  go_enter Tryz.func278, Tryz.ntmps278
  go_wp2
  go_quiet (fail)
  go_wp2
  go_ret
  exact ⟨rfl, bdrew _ _⟩

theorem good : TabLaw.Good GcbTab.gcb 131 := ⟨by kernel_rfl, by kernel_rfl⟩
noncomputable def tval (r : Int) : Int := TabLaw.val3 (TabLaw.trip GcbTab.gcb) r
noncomputable def val (r : Int) : Int := if tval r = 0 then Hangul.hclass r else tval r
theorem pos : ((TabLaw.trip GcbTab.gcb).all fun t => decide (1 ≤ t.2.2)) = true := by kernel_rfl

set_option maxHeartbeats 400000 in
theorem of_any (r : Int) (hr1 : -2147483648 ≤ r) (hr2 : r ≤ 2147483647) (w : World) :
    Calls Tryz.prog 227 #[.int .i32 r] w fun e w' => e = .returned (.int .i64 (val r)) ∧ Below w.heap.size w w' := by
  go_enter Tryz.func227, Tryz.ntmps227
  go_wp2_with fail
  refine (GcbTab.gcb_any _).mono ?_
  rintro e w1 ⟨rfl, hb, hk, hz⟩
  have hbx : (w.alloc (.cells #[.int .i32 r] 21)).cell? ⟨w.heap.size, 0, none⟩ = some (.int .i32 r) := by simp
  have hbw : Below w.heap.size w w1 := ((Below.refl _ _).alloc (Nat.le_refl _) _).trans (hb.mono (by simp))
  have hr0 := (hb.cell (p := ⟨w.heap.size, 0, none⟩) (by simp)).trans hbx
  have hs0 : (w.alloc (.cells #[.int .i32 r] 21)).heap.size = w.heap.size + 1 := by simp
  rw [hs0] at hz hk ⊢
  clear hbx hb hs0
  go_wp2_with fail
  have f1 : (w1.alloc (.cells #[.slice (some ⟨w.heap.size + 1, 0, none⟩) 131 131] 324)).cell? ⟨w.heap.size + 1 + 1, 0, none⟩ = some (.slice (some ⟨w.heap.size + 1, 0, none⟩) 131 131) := by rw [← hz]; simp
  have hb1 : Below w1.heap.size w1 (w1.alloc (.cells #[.slice (some ⟨w.heap.size + 1, 0, none⟩) 131 131] 324)) := (Below.refl _ _).alloc (Nat.le_refl _) _
  have f5 : (w1.alloc (.cells #[.slice (some ⟨w.heap.size + 1, 0, none⟩) 131 131] 324)).heap.size = w.heap.size + 1 + 1 + 1 := by simp [hz]
  generalize w1.alloc (.cells #[.slice (some ⟨w.heap.size + 1, 0, none⟩) 131 131] 324) = W2 at *
  have f2 := (hb1.cell (p := ⟨w.heap.size, 0, none⟩) (by simp [hz]; omega)).trans hr0
  have f3 := hk.below hb1 (by omega)
  have f4 := hbw.trans (hb1.mono (by omega))
  clear hb1 hr0 hbw hk hz
  refine (Search.search_any _ _ 131 (fun t => decide (r ≤ GcbTab.gcb.getD (t * 3 + 1) 0)) W2 clo_eg (by omega) ?_ ?_).mono ?_
  · intro wr i hi hbr
    refine (clo_any _ _ _ 131 i r _ wr (by omega) (by omega) hr1 hr2 ((hbr.cell (p := ⟨w.heap.size + 1 + 1, 0, none⟩) (by simp [f5])).trans f1) ((hbr.cell (p := ⟨w.heap.size, 0, none⟩) (by simp [f5]; omega)).trans f2) ?_)
    exact (hbr.cell (p := ⟨w.heap.size + 1, _, none⟩) (by simp [f5])).trans (f3.cell _ _ (getnum _ (by rw [GcbTab.gcb_len]; omega)))
  · intro a b hab hb h
    exact decide_eq_true (good.mono r a b hab hb (of_decide_eq_true h))
  rintro e w3 ⟨i, hfirst, rfl, hb3⟩
  have g1 := (hb3.cell (p := ⟨w.heap.size + 1 + 1, 0, none⟩) (by simp [f5])).trans f1
  have g2 := (hb3.cell (p := ⟨w.heap.size, 0, none⟩) (by simp [f5]; omega)).trans f2
  have g3 := f3.below hb3 (by omega)
  have g4 := f4.trans (hb3.mono (by omega))
  clear f1 f2 f3 f4 f5 hb3
  obtain ⟨hi, hf1, hf2⟩ := hfirst
  have HV := Lib.hid (good.first hi hf1 hf2)
  clear hf1 hf2
  by_cases hlt : i < 131
  · have hne : decide ((i : Int) < 131) = true := by simp; omega
    have hi' : (i : Int) < 131 := by omega
    have c0 := g3.cell (i * 3) _ (getnum _ (by rw [GcbTab.gcb_len]; omega))
    have c2 := g3.cell (i * 3 + 2) _ (getnum _ (by rw [GcbTab.gcb_len]; omega))
    have HV := Lib.hid (HV.out.trans (if_pos hlt))
    have hp : 1 ≤ GcbTab.gcb.getD (i * 3 + 2) 0 := by
      obtain ⟨t, ht, _, _, e3⟩ := good.row i hlt
      rw [e3]
      exact of_decide_eq_true (List.all_eq_true.1 pos t (List.mem_iff_getElem?.2 ⟨i, ht⟩))
    clear g3
    generalize GcbTab.gcb.getD (i * 3) 0 = lo at *
    generalize GcbTab.gcb.getD (i * 3 + 2) 0 = v at *
    by_cases hle : lo ≤ r
    · have hd : decide (lo ≤ r) = true := by simp; omega
      go_wp2
      go_quiet (fail)
      go_wp2
      go_ret
      exact ⟨ret_int (by unfold val tval; rw [HV.out.trans (if_pos hle), if_neg (by omega)]), g4.trans (bdrew _ _ |>.mono g4.size)⟩
    · have hd : decide (lo ≤ r) = false := by simp; omega
      go_wp2
      go_quiet (fail)
      go_wp2_with (go_at_call 279; refine (Hangul.class_any _ _).mono ?_; rintro e w' ⟨rfl, rfl⟩)
      go_ret
      exact ⟨ret_int (by unfold val tval; rw [HV.out.trans (if_neg (by omega)), if_pos rfl]), g4.trans (bdrew _ _ |>.mono g4.size)⟩
  · obtain rfl : i = 131 := by omega
    go_wp2
    go_quiet (fail)
    go_wp2_with (go_at_call 279; refine (Hangul.class_any _ _).mono ?_; rintro e w' ⟨rfl, rfl⟩)
    go_ret
    exact ⟨ret_int (by unfold val tval; rw [HV.out.trans (if_neg (by omega)), if_pos rfl]), g4.trans (bdrew _ _ |>.mono g4.size)⟩

end Go.Proofs.YtjicdcmdgbcdcaaGreatDoor.Gcb

namespace Go.Proofs.YtjicdcmdgbcdcaaGreatDoor.GcbRefW
set_option linter.unusedSimpArgs false
set_option linter.unusedVariables false
open Go.RowKit Mem Tab

noncomputable def tabs : List (List Int) := [GcbTab.l1, GcbTab.l2, GcbTab.l3, GcbTab.l4, GcbTab.l5, GcbTab.l6, GcbTab.l7, GcbTab.l8]
noncomputable def LL : List (List (Int × Int)) := tabs.map TabLaw.pairs

theorem l1_pairs : (TabLaw.pairs GcbTab.l1).length = 1 := by kernel_rfl
theorem l2_pairs : (TabLaw.pairs GcbTab.l2).length = 1 := by kernel_rfl
theorem l3_pairs : (TabLaw.pairs GcbTab.l3).length = 16 := by kernel_rfl
theorem l4_pairs : (TabLaw.pairs GcbTab.l4).length = 77 := by kernel_rfl
theorem l5_pairs : (TabLaw.pairs GcbTab.l5).length = 1 := by kernel_rfl
theorem l6_pairs : (TabLaw.pairs GcbTab.l6).length = 1 := by kernel_rfl
theorem l7_pairs : (TabLaw.pairs GcbTab.l7).length = 8 := by kernel_rfl
theorem l8_pairs : (TabLaw.pairs GcbTab.l8).length = 26 := by kernel_rfl

def Lists (W : World) (base blk : Nat) : Prop := ∀ k L, tabs[k]? = some L → ∃ n : Nat, W.cell? ⟨blk, k, none⟩ = some (.slice (some ⟨base + k, 0, none⟩) n n) ∧ Blk W (base + k) (L.map (Value.int .i64)) ∧ L.length = 2 * n ∧ (TabLaw.pairs L).length = n ∧ (n : Int) < 4611686018427387904

noncomputable def refv (r : Int) : Int := (match TabLaw.which LL r with | some k => (k : Int) + 1 | none => Hangul.hclass r)

theorem LL_len : LL.length = 8 := rfl
theorem tabs_len : tabs.length = 8 := rfl

theorem which_some {r : Int} {k : Nat} {L : List Int} (h : tabs[k]? = some L) (h1 : (TabLaw.pairs L).any (TabLaw.hasP r) = true) (h2 : ∀ l ∈ LL.take k, l.any (TabLaw.hasP r) = false) : TabLaw.which LL r = some k := by
  have hk : k < LL.length := by unfold LL; rw [List.length_map]; exact (List.getElem?_eq_some_iff.1 h).1
  unfold TabLaw.which
  rw [List.findIdx?_eq_some_iff_getElem]
  refine ⟨hk, ?_, ?_⟩
  · have e : LL[k] = TabLaw.pairs L := by
      have : LL[k]? = some (TabLaw.pairs L) := by unfold LL; rw [List.getElem?_map, h]; rfl
      rw [List.getElem?_eq_getElem hk] at this
      exact Option.some.inj this
    rw [e]; exact h1
  · intro j hj
    have := h2 LL[j] (List.mem_iff_getElem?.2 ⟨j, by rw [List.getElem?_take, if_pos hj, List.getElem?_eq_getElem (by omega)]⟩)
    simp [this]

theorem which_none {r : Int} (h2 : ∀ l ∈ LL.take 8, l.any (TabLaw.hasP r) = false) : TabLaw.which LL r = none := by
  unfold TabLaw.which
  rw [List.findIdx?_eq_none_iff]
  intro l hl
  exact h2 l (by rw [List.take_of_length_le (by rw [LL_len]; exact Nat.le_refl _)]; exact hl)

theorem at_8 (W : World) (base : Nat)
    (c0 : W.cell? ⟨base + 8, 0, none⟩ = some (.slice (some ⟨base + 0, 0, none⟩) 1 1)) (k0 : Blk W (base + 0) (GcbTab.l1.map (Value.int .i64)))
    (c1 : W.cell? ⟨base + 8, 1, none⟩ = some (.slice (some ⟨base + 1, 0, none⟩) 1 1)) (k1 : Blk W (base + 1) (GcbTab.l2.map (Value.int .i64)))
    (c2 : W.cell? ⟨base + 8, 2, none⟩ = some (.slice (some ⟨base + 2, 0, none⟩) 16 16)) (k2 : Blk W (base + 2) (GcbTab.l3.map (Value.int .i64)))
    (c3 : W.cell? ⟨base + 8, 3, none⟩ = some (.slice (some ⟨base + 3, 0, none⟩) 77 77)) (k3 : Blk W (base + 3) (GcbTab.l4.map (Value.int .i64)))
    (c4 : W.cell? ⟨base + 8, 4, none⟩ = some (.slice (some ⟨base + 4, 0, none⟩) 1 1)) (k4 : Blk W (base + 4) (GcbTab.l5.map (Value.int .i64)))
    (c5 : W.cell? ⟨base + 8, 5, none⟩ = some (.slice (some ⟨base + 5, 0, none⟩) 1 1)) (k5 : Blk W (base + 5) (GcbTab.l6.map (Value.int .i64)))
    (c6 : W.cell? ⟨base + 8, 6, none⟩ = some (.slice (some ⟨base + 6, 0, none⟩) 8 8)) (k6 : Blk W (base + 6) (GcbTab.l7.map (Value.int .i64)))
    (c7 : W.cell? ⟨base + 8, 7, none⟩ = some (.slice (some ⟨base + 7, 0, none⟩) 26 26)) (k7 : Blk W (base + 7) (GcbTab.l8.map (Value.int .i64)))
    : Lists W base (base + 8) := by
  intro k L h
  have hk : k < 8 := by have := (List.getElem?_eq_some_iff.1 h).1; rwa [tabs_len] at this
  rcases (show k = 0 ∨ k = 1 ∨ k = 2 ∨ k = 3 ∨ k = 4 ∨ k = 5 ∨ k = 6 ∨ k = 7 by omega) with rfl | rfl | rfl | rfl | rfl | rfl | rfl | rfl
  · obtain rfl : GcbTab.l1 = L := Option.some.inj h
    exact ⟨1, c0, k0, GcbTab.l1_len, l1_pairs, by omega⟩
  · obtain rfl : GcbTab.l2 = L := Option.some.inj h
    exact ⟨1, c1, k1, GcbTab.l2_len, l2_pairs, by omega⟩
  · obtain rfl : GcbTab.l3 = L := Option.some.inj h
    exact ⟨16, c2, k2, GcbTab.l3_len, l3_pairs, by omega⟩
  · obtain rfl : GcbTab.l4 = L := Option.some.inj h
    exact ⟨77, c3, k3, GcbTab.l4_len, l4_pairs, by omega⟩
  · obtain rfl : GcbTab.l5 = L := Option.some.inj h
    exact ⟨1, c4, k4, GcbTab.l5_len, l5_pairs, by omega⟩
  · obtain rfl : GcbTab.l6 = L := Option.some.inj h
    exact ⟨1, c5, k5, GcbTab.l6_len, l6_pairs, by omega⟩
  · obtain rfl : GcbTab.l7 = L := Option.some.inj h
    exact ⟨8, c6, k6, GcbTab.l7_len, l7_pairs, by omega⟩
  · obtain rfl : GcbTab.l8 = L := Option.some.inj h
    exact ⟨26, c7, k7, GcbTab.l8_len, l8_pairs, by omega⟩

set_option maxHeartbeats 2000000 in
theorem ref_any (r : Int) (hr1 : -2147483648 ≤ r) (hr2 : r ≤ 2147483647) (w : World) :
    Calls Tryz.prog 269 #[.int .i32 r] w fun e w' => e = .returned (.int .i64 (refv r)) ∧ Below w.heap.size w w' := by
  go_enter Tryz.func269, Tryz.ntmps269
  go_wp2_with fail
  refine (GcbTab.l1_any _).mono ?_
  rintro e w1 ⟨rfl, hb1, hk1, hz1⟩
  go_wp2_with fail
  refine (GcbTab.l2_any _).mono ?_
  rintro e w2 ⟨rfl, hb2, hk2, hz2⟩
  rw [hz1] at hb2 hk2 hz2
  have hk1 := hk1.below hb2 (by omega)
  have hb2 := hb1.trans (hb2.mono (by omega))
  clear hb1
  go_wp2_with fail
  refine (GcbTab.l3_any _).mono ?_
  rintro e w3 ⟨rfl, hb3, hk3, hz3⟩
  rw [hz2] at hb3 hk3 hz3
  have hk1 := hk1.below hb3 (by omega)
  have hk2 := hk2.below hb3 (by omega)
  have hb3 := hb2.trans (hb3.mono (by omega))
  clear hb2
  go_wp2_with fail
  refine (GcbTab.l4_any _).mono ?_
  rintro e w4 ⟨rfl, hb4, hk4, hz4⟩
  rw [hz3] at hb4 hk4 hz4
  have hk1 := hk1.below hb4 (by omega)
  have hk2 := hk2.below hb4 (by omega)
  have hk3 := hk3.below hb4 (by omega)
  have hb4 := hb3.trans (hb4.mono (by omega))
  clear hb3
  go_wp2_with fail
  refine (GcbTab.l5_any _).mono ?_
  rintro e w5 ⟨rfl, hb5, hk5, hz5⟩
  rw [hz4] at hb5 hk5 hz5
  have hk1 := hk1.below hb5 (by omega)
  have hk2 := hk2.below hb5 (by omega)
  have hk3 := hk3.below hb5 (by omega)
  have hk4 := hk4.below hb5 (by omega)
  have hb5 := hb4.trans (hb5.mono (by omega))
  clear hb4
  go_wp2_with fail
  refine (GcbTab.l6_any _).mono ?_
  rintro e w6 ⟨rfl, hb6, hk6, hz6⟩
  rw [hz5] at hb6 hk6 hz6
  have hk1 := hk1.below hb6 (by omega)
  have hk2 := hk2.below hb6 (by omega)
  have hk3 := hk3.below hb6 (by omega)
  have hk4 := hk4.below hb6 (by omega)
  have hk5 := hk5.below hb6 (by omega)
  have hb6 := hb5.trans (hb6.mono (by omega))
  clear hb5
  go_wp2_with fail
  refine (GcbTab.l7_any _).mono ?_
  rintro e w7 ⟨rfl, hb7, hk7, hz7⟩
  rw [hz6] at hb7 hk7 hz7
  have hk1 := hk1.below hb7 (by omega)
  have hk2 := hk2.below hb7 (by omega)
  have hk3 := hk3.below hb7 (by omega)
  have hk4 := hk4.below hb7 (by omega)
  have hk5 := hk5.below hb7 (by omega)
  have hk6 := hk6.below hb7 (by omega)
  have hb7 := hb6.trans (hb7.mono (by omega))
  clear hb6
  go_wp2_with fail
  refine (GcbTab.l8_any _).mono ?_
  rintro e w8 ⟨rfl, hb8, hk8, hz8⟩
  rw [hz7] at hb8 hk8 hz8
  have hk1 := hk1.below hb8 (by omega)
  have hk2 := hk2.below hb8 (by omega)
  have hk3 := hk3.below hb8 (by omega)
  have hk4 := hk4.below hb8 (by omega)
  have hk5 := hk5.below hb8 (by omega)
  have hk6 := hk6.below hb8 (by omega)
  have hk7 := hk7.below hb8 (by omega)
  have hb8 := hb7.trans (hb8.mono (by omega))
  clear hb7
  have hz : w8.heap.size = w.heap.size + 8 := by omega
  go_wp2_with fail
  have c0 : (w8.alloc (.cells #[.slice (some ⟨w.heap.size, 0, none⟩) 1 1, .slice (some ⟨w.heap.size + 1, 0, none⟩) 1 1, .slice (some ⟨w.heap.size + 1 + 1, 0, none⟩) 16 16, .slice (some ⟨w.heap.size + 1 + 1 + 1, 0, none⟩) 77 77, .slice (some ⟨w.heap.size + 1 + 1 + 1 + 1, 0, none⟩) 1 1, .slice (some ⟨w.heap.size + 1 + 1 + 1 + 1 + 1, 0, none⟩) 1 1, .slice (some ⟨w.heap.size + 1 + 1 + 1 + 1 + 1 + 1, 0, none⟩) 8 8, .slice (some ⟨w.heap.size + 1 + 1 + 1 + 1 + 1 + 1 + 1, 0, none⟩) 26 26] 347)).cell? ⟨w.heap.size + 1 + 1 + 1 + 1 + 1 + 1 + 1 + 1, 0, none⟩ = some (.slice (some ⟨w.heap.size, 0, none⟩) 1 1) := by rw [← hz8]; simp
  have c1 : (w8.alloc (.cells #[.slice (some ⟨w.heap.size, 0, none⟩) 1 1, .slice (some ⟨w.heap.size + 1, 0, none⟩) 1 1, .slice (some ⟨w.heap.size + 1 + 1, 0, none⟩) 16 16, .slice (some ⟨w.heap.size + 1 + 1 + 1, 0, none⟩) 77 77, .slice (some ⟨w.heap.size + 1 + 1 + 1 + 1, 0, none⟩) 1 1, .slice (some ⟨w.heap.size + 1 + 1 + 1 + 1 + 1, 0, none⟩) 1 1, .slice (some ⟨w.heap.size + 1 + 1 + 1 + 1 + 1 + 1, 0, none⟩) 8 8, .slice (some ⟨w.heap.size + 1 + 1 + 1 + 1 + 1 + 1 + 1, 0, none⟩) 26 26] 347)).cell? ⟨w.heap.size + 1 + 1 + 1 + 1 + 1 + 1 + 1 + 1, 1, none⟩ = some (.slice (some ⟨w.heap.size + 1, 0, none⟩) 1 1) := by rw [← hz8]; simp
  have c2 : (w8.alloc (.cells #[.slice (some ⟨w.heap.size, 0, none⟩) 1 1, .slice (some ⟨w.heap.size + 1, 0, none⟩) 1 1, .slice (some ⟨w.heap.size + 1 + 1, 0, none⟩) 16 16, .slice (some ⟨w.heap.size + 1 + 1 + 1, 0, none⟩) 77 77, .slice (some ⟨w.heap.size + 1 + 1 + 1 + 1, 0, none⟩) 1 1, .slice (some ⟨w.heap.size + 1 + 1 + 1 + 1 + 1, 0, none⟩) 1 1, .slice (some ⟨w.heap.size + 1 + 1 + 1 + 1 + 1 + 1, 0, none⟩) 8 8, .slice (some ⟨w.heap.size + 1 + 1 + 1 + 1 + 1 + 1 + 1, 0, none⟩) 26 26] 347)).cell? ⟨w.heap.size + 1 + 1 + 1 + 1 + 1 + 1 + 1 + 1, 2, none⟩ = some (.slice (some ⟨w.heap.size + 1 + 1, 0, none⟩) 16 16) := by rw [← hz8]; simp
  have c3 : (w8.alloc (.cells #[.slice (some ⟨w.heap.size, 0, none⟩) 1 1, .slice (some ⟨w.heap.size + 1, 0, none⟩) 1 1, .slice (some ⟨w.heap.size + 1 + 1, 0, none⟩) 16 16, .slice (some ⟨w.heap.size + 1 + 1 + 1, 0, none⟩) 77 77, .slice (some ⟨w.heap.size + 1 + 1 + 1 + 1, 0, none⟩) 1 1, .slice (some ⟨w.heap.size + 1 + 1 + 1 + 1 + 1, 0, none⟩) 1 1, .slice (some ⟨w.heap.size + 1 + 1 + 1 + 1 + 1 + 1, 0, none⟩) 8 8, .slice (some ⟨w.heap.size + 1 + 1 + 1 + 1 + 1 + 1 + 1, 0, none⟩) 26 26] 347)).cell? ⟨w.heap.size + 1 + 1 + 1 + 1 + 1 + 1 + 1 + 1, 3, none⟩ = some (.slice (some ⟨w.heap.size + 1 + 1 + 1, 0, none⟩) 77 77) := by rw [← hz8]; simp
  have c4 : (w8.alloc (.cells #[.slice (some ⟨w.heap.size, 0, none⟩) 1 1, .slice (some ⟨w.heap.size + 1, 0, none⟩) 1 1, .slice (some ⟨w.heap.size + 1 + 1, 0, none⟩) 16 16, .slice (some ⟨w.heap.size + 1 + 1 + 1, 0, none⟩) 77 77, .slice (some ⟨w.heap.size + 1 + 1 + 1 + 1, 0, none⟩) 1 1, .slice (some ⟨w.heap.size + 1 + 1 + 1 + 1 + 1, 0, none⟩) 1 1, .slice (some ⟨w.heap.size + 1 + 1 + 1 + 1 + 1 + 1, 0, none⟩) 8 8, .slice (some ⟨w.heap.size + 1 + 1 + 1 + 1 + 1 + 1 + 1, 0, none⟩) 26 26] 347)).cell? ⟨w.heap.size + 1 + 1 + 1 + 1 + 1 + 1 + 1 + 1, 4, none⟩ = some (.slice (some ⟨w.heap.size + 1 + 1 + 1 + 1, 0, none⟩) 1 1) := by rw [← hz8]; simp
  have c5 : (w8.alloc (.cells #[.slice (some ⟨w.heap.size, 0, none⟩) 1 1, .slice (some ⟨w.heap.size + 1, 0, none⟩) 1 1, .slice (some ⟨w.heap.size + 1 + 1, 0, none⟩) 16 16, .slice (some ⟨w.heap.size + 1 + 1 + 1, 0, none⟩) 77 77, .slice (some ⟨w.heap.size + 1 + 1 + 1 + 1, 0, none⟩) 1 1, .slice (some ⟨w.heap.size + 1 + 1 + 1 + 1 + 1, 0, none⟩) 1 1, .slice (some ⟨w.heap.size + 1 + 1 + 1 + 1 + 1 + 1, 0, none⟩) 8 8, .slice (some ⟨w.heap.size + 1 + 1 + 1 + 1 + 1 + 1 + 1, 0, none⟩) 26 26] 347)).cell? ⟨w.heap.size + 1 + 1 + 1 + 1 + 1 + 1 + 1 + 1, 5, none⟩ = some (.slice (some ⟨w.heap.size + 1 + 1 + 1 + 1 + 1, 0, none⟩) 1 1) := by rw [← hz8]; simp
  have c6 : (w8.alloc (.cells #[.slice (some ⟨w.heap.size, 0, none⟩) 1 1, .slice (some ⟨w.heap.size + 1, 0, none⟩) 1 1, .slice (some ⟨w.heap.size + 1 + 1, 0, none⟩) 16 16, .slice (some ⟨w.heap.size + 1 + 1 + 1, 0, none⟩) 77 77, .slice (some ⟨w.heap.size + 1 + 1 + 1 + 1, 0, none⟩) 1 1, .slice (some ⟨w.heap.size + 1 + 1 + 1 + 1 + 1, 0, none⟩) 1 1, .slice (some ⟨w.heap.size + 1 + 1 + 1 + 1 + 1 + 1, 0, none⟩) 8 8, .slice (some ⟨w.heap.size + 1 + 1 + 1 + 1 + 1 + 1 + 1, 0, none⟩) 26 26] 347)).cell? ⟨w.heap.size + 1 + 1 + 1 + 1 + 1 + 1 + 1 + 1, 6, none⟩ = some (.slice (some ⟨w.heap.size + 1 + 1 + 1 + 1 + 1 + 1, 0, none⟩) 8 8) := by rw [← hz8]; simp
  have c7 : (w8.alloc (.cells #[.slice (some ⟨w.heap.size, 0, none⟩) 1 1, .slice (some ⟨w.heap.size + 1, 0, none⟩) 1 1, .slice (some ⟨w.heap.size + 1 + 1, 0, none⟩) 16 16, .slice (some ⟨w.heap.size + 1 + 1 + 1, 0, none⟩) 77 77, .slice (some ⟨w.heap.size + 1 + 1 + 1 + 1, 0, none⟩) 1 1, .slice (some ⟨w.heap.size + 1 + 1 + 1 + 1 + 1, 0, none⟩) 1 1, .slice (some ⟨w.heap.size + 1 + 1 + 1 + 1 + 1 + 1, 0, none⟩) 8 8, .slice (some ⟨w.heap.size + 1 + 1 + 1 + 1 + 1 + 1 + 1, 0, none⟩) 26 26] 347)).cell? ⟨w.heap.size + 1 + 1 + 1 + 1 + 1 + 1 + 1 + 1, 7, none⟩ = some (.slice (some ⟨w.heap.size + 1 + 1 + 1 + 1 + 1 + 1 + 1, 0, none⟩) 26 26) := by rw [← hz8]; simp
  have hbW : Below w8.heap.size w8 (w8.alloc (.cells #[.slice (some ⟨w.heap.size, 0, none⟩) 1 1, .slice (some ⟨w.heap.size + 1, 0, none⟩) 1 1, .slice (some ⟨w.heap.size + 1 + 1, 0, none⟩) 16 16, .slice (some ⟨w.heap.size + 1 + 1 + 1, 0, none⟩) 77 77, .slice (some ⟨w.heap.size + 1 + 1 + 1 + 1, 0, none⟩) 1 1, .slice (some ⟨w.heap.size + 1 + 1 + 1 + 1 + 1, 0, none⟩) 1 1, .slice (some ⟨w.heap.size + 1 + 1 + 1 + 1 + 1 + 1, 0, none⟩) 8 8, .slice (some ⟨w.heap.size + 1 + 1 + 1 + 1 + 1 + 1 + 1, 0, none⟩) 26 26] 347)) := (Below.refl _ _).alloc (Nat.le_refl _) _
  generalize (w8.alloc (.cells #[.slice (some ⟨w.heap.size, 0, none⟩) 1 1, .slice (some ⟨w.heap.size + 1, 0, none⟩) 1 1, .slice (some ⟨w.heap.size + 1 + 1, 0, none⟩) 16 16, .slice (some ⟨w.heap.size + 1 + 1 + 1, 0, none⟩) 77 77, .slice (some ⟨w.heap.size + 1 + 1 + 1 + 1, 0, none⟩) 1 1, .slice (some ⟨w.heap.size + 1 + 1 + 1 + 1 + 1, 0, none⟩) 1 1, .slice (some ⟨w.heap.size + 1 + 1 + 1 + 1 + 1 + 1, 0, none⟩) 8 8, .slice (some ⟨w.heap.size + 1 + 1 + 1 + 1 + 1 + 1 + 1, 0, none⟩) 26 26] 347)) = W at *
  have hk1 := hk1.below hbW (by omega)
  have hk2 := hk2.below hbW (by omega)
  have hk3 := hk3.below hbW (by omega)
  have hk4 := hk4.below hbW (by omega)
  have hk5 := hk5.below hbW (by omega)
  have hk6 := hk6.below hbW (by omega)
  have hk7 := hk7.below hbW (by omega)
  have hk8 := hk8.below hbW (by omega)
  have hL : Lists W w.heap.size (w.heap.size + 8) := at_8 W w.heap.size c0 hk1 c1 hk2 c2 hk3 c3 hk4 c4 hk5 c5 hk6 c6 hk7 c7 hk8
  have HL := Lib.hid hL
  have hbw : Below w.heap.size w W := hb8.trans (hbW.mono (by omega))
  clear hL hbW hb8 hz hz1 hz2 hz3 hz4 hz5 hz6 hz7 hz8 c0 c1 c2 c3 c4 c5 c6 c7 hk1 hk2 hk3 hk4 hk5 hk6 hk7 hk8
  go_loop [4] (fun i => ∃ k : Nat, k ≤ 8 ∧ i = .int .i64 k ∧ Hid (∀ l ∈ LL.take k, l.any (TabLaw.hasP r) = false)) (fun i => 8 - (intOf i).toNat)
  case atStart => exact ⟨0, Nat.zero_le _, rfl, Lib.hid (by simp)⟩
  case round =>
    obtain ⟨k, hkn, rfl, hno⟩ := hrel
    by_cases hlt : k < 8
    · have hlt' : (k : Int) < 8 := by omega
      obtain ⟨L, hLk⟩ : ∃ L, tabs[k]? = some L := ⟨_, List.getElem?_eq_getElem (by rw [tabs_len]; exact hlt)⟩
      obtain ⟨n, hc, hbk, hl, hp, hn⟩ := HL.out k L hLk
      have hc' : W.cell? ⟨w.heap.size + 1 + 1 + 1 + 1 + 1 + 1 + 1 + 1, k, none⟩ = some (.slice (some ⟨w.heap.size + k, 0, none⟩) n n) := hc
      have HBK := Lib.hid hbk
      have HLK := Lib.hid hLk
      have HC := In.in_any (w.heap.size + k) n L r W hr1 hr2 hn hp hl HBK
      clear hc hbk hl hp hLk
      cases hv : (TabLaw.pairs L).any (TabLaw.hasP r) <;> rw [hv] at HC
      · have HV := Lib.hid hv
        have HC := Lib.hid HC
        clear hv
        go_wp2_with (go_at_call 316; refine HC.out.mono ?_; rintro e w' ⟨rfl, rfl⟩)
        go_round
        case rel =>
          refine ⟨k + 1, by omega, by go_num, Lib.hid ?_⟩
          intro l hl
          rw [List.take_add_one] at hl
          rcases List.mem_append.1 hl with h | h
          · exact hno.out l h
          · have e : LL[k]? = some (TabLaw.pairs L) := by unfold LL; rw [List.getElem?_map, HLK.out]; rfl
            rw [e] at h; simp at h; subst h; exact HV.out
        case measure => simp [intOf]; omega
      · have HV := Lib.hid hv
        have HC := Lib.hid HC
        clear hv
        go_wp2_with (go_at_call 316; refine HC.out.mono ?_; rintro e w' ⟨rfl, rfl⟩)
        go_ret
        exact ⟨In.ret_int (by unfold refv; rw [which_some HLK.out HV.out hno.out]), hbw⟩
    · obtain rfl : k = 8 := by omega
      go_wp2_with (go_at_call 317; refine (Hangul.rclass_any _ hr1 hr2 _).mono ?_; rintro e w' ⟨rfl, rfl⟩)
      go_ret
      exact ⟨In.ret_int (by unfold refv; rw [which_none hno.out]), hbw⟩

end Go.Proofs.YtjicdcmdgbcdcaaGreatDoor.GcbRefW

namespace Go.Proofs.YtjicdcmdgbcdcaaGreatDoor.Gcb
set_option linter.unusedSimpArgs false
set_option linter.unusedVariables false
open Go.RowKit Mem Tab

theorem refv_eq (r : Int) : GcbRefW.refv r = val r := by
  have h := TabLaw.which_eq (LL := GcbRefW.LL) good.sorted (by kernel_rfl) (by kernel_rfl) r
  unfold GcbRefW.refv val tval
  cases hw : TabLaw.which GcbRefW.LL r with
  | none => rw [hw] at h; rw [if_pos (h.2.1 rfl)]
  | some k =>
    rw [hw] at h
    simp only at h
    have h1 := h.1
    rw [if_neg (by omega), ← h1]

theorem ref_val (r : Int) (hr1 : -2147483648 ≤ r) (hr2 : r ≤ 2147483647) (w : World) :
    Calls Tryz.prog 269 #[.int .i32 r] w fun e w' => e = .returned (.int .i64 (val r)) ∧ Below w.heap.size w w' := by
  rw [← refv_eq]; exact GcbRefW.ref_any r hr1 hr2 w

end Go.Proofs.YtjicdcmdgbcdcaaGreatDoor.Gcb
end

/-
  Functions that make tables, run by the machine to their return.
  Functions that make tables, run by the machine to their return.
  The walk of east.Of.
  The walk of a reference that looks through its lists, one by one.
  Package east: the program and the reference tell one value.
-/
import Derived.Test.YtjicdcmdgbcdcaaGreatDoorSd1
import Derived.Test.YtjicdcmdgbcdcaaGreatDoorSd3
import Derived.Deep.QuietTactic
import Derived.BigQuiet
section
namespace Go.Proofs.YtjicdcmdgbcdcaaGreatDoor.EastTab
set_option linter.unusedSimpArgs false
set_option linter.unusedVariables false
open Go.RowKit Mem Tab

noncomputable def eastRows : List (List Value) := rowsOf Tryz.f284
noncomputable def east : List Int := eastRows.flatten.map numOf
theorem east_cells : eastRows.flatten = east.map (Value.int .i64) := by kernel_rfl
theorem east_run (w : World) (cs : List Frame) : runN Tryz.prog 129 (lone (Frame.enter Tryz.prog 284 #[] .normal) cs w) =
  .next (lone { fn := 284, tmps := (Value.slice (some ⟨w.heap.size, 0, none⟩) 119 119 :: eastRows.map (fun r => Value.agg r.toArray) ++ [Value.slice (some ⟨w.heap.size, 0, none⟩) 119 119]).toArray, todo := [.code .ret], defers := [], mode := .returning, kind := .normal } cs
    (w.alloc (.cells eastRows.flatten.toArray 327))) := by kernel_rfl
theorem east_any (w : World) : Calls Tryz.prog 284 #[] w (TabPost w 119 .i64 east) :=
  (calls_of_runN (F := Tryz.f284) (east_run w) Tryz.func284 (by kernel_rfl)).mono (tab_post east_cells)
theorem east_len : east.length = 357 := by kernel_rfl

end Go.Proofs.YtjicdcmdgbcdcaaGreatDoor.EastTab

namespace Go.Proofs.YtjicdcmdgbcdcaaGreatDoor.EastTab
set_option linter.unusedSimpArgs false
set_option linter.unusedVariables false
open Go.RowKit Mem Tab

noncomputable def l1Rows : List (List Value) := rowsOf Tryz.f322
noncomputable def l1 : List Int := l1Rows.flatten.map numOf
theorem l1_cells : l1Rows.flatten = l1.map (Value.int .i64) := by kernel_rfl
theorem l1_run (w : World) (cs : List Frame) : runN Tryz.prog 119 (lone (Frame.enter Tryz.prog 322 #[] .normal) cs w) =
  .next (lone { fn := 322, tmps := (Value.slice (some ⟨w.heap.size, 0, none⟩) 109 109 :: l1Rows.map (fun r => Value.agg r.toArray) ++ [Value.slice (some ⟨w.heap.size, 0, none⟩) 109 109]).toArray, todo := [.code .ret], defers := [], mode := .returning, kind := .normal } cs
    (w.alloc (.cells l1Rows.flatten.toArray 149))) := by kernel_rfl
theorem l1_any (w : World) : Calls Tryz.prog 322 #[] w (TabPost w 109 .i64 l1) :=
  (calls_of_runN (F := Tryz.f322) (l1_run w) Tryz.func322 (by kernel_rfl)).mono (tab_post l1_cells)
theorem l1_len : l1.length = 218 := by kernel_rfl

noncomputable def l2Rows : List (List Value) := rowsOf Tryz.f323
noncomputable def l2 : List Int := l2Rows.flatten.map numOf
theorem l2_cells : l2Rows.flatten = l2.map (Value.int .i64) := by kernel_rfl
theorem l2_run (w : World) (cs : List Frame) : runN Tryz.prog 13 (lone (Frame.enter Tryz.prog 323 #[] .normal) cs w) =
  .next (lone { fn := 323, tmps := (Value.slice (some ⟨w.heap.size, 0, none⟩) 3 3 :: l2Rows.map (fun r => Value.agg r.toArray) ++ [Value.slice (some ⟨w.heap.size, 0, none⟩) 3 3]).toArray, todo := [.code .ret], defers := [], mode := .returning, kind := .normal } cs
    (w.alloc (.cells l2Rows.flatten.toArray 149))) := by kernel_rfl
theorem l2_any (w : World) : Calls Tryz.prog 323 #[] w (TabPost w 3 .i64 l2) :=
  (calls_of_runN (F := Tryz.f323) (l2_run w) Tryz.func323 (by kernel_rfl)).mono (tab_post l2_cells)
theorem l2_len : l2.length = 6 := by kernel_rfl

noncomputable def l3Rows : List (List Value) := rowsOf Tryz.f324
noncomputable def l3 : List Int := l3Rows.flatten.map numOf
theorem l3_cells : l3Rows.flatten = l3.map (Value.int .i64) := by kernel_rfl
theorem l3_run (w : World) (cs : List Frame) : runN Tryz.prog 17 (lone (Frame.enter Tryz.prog 324 #[] .normal) cs w) =
  .next (lone { fn := 324, tmps := (Value.slice (some ⟨w.heap.size, 0, none⟩) 7 7 :: l3Rows.map (fun r => Value.agg r.toArray) ++ [Value.slice (some ⟨w.heap.size, 0, none⟩) 7 7]).toArray, todo := [.code .ret], defers := [], mode := .returning, kind := .normal } cs
    (w.alloc (.cells l3Rows.flatten.toArray 149))) := by kernel_rfl
theorem l3_any (w : World) : Calls Tryz.prog 324 #[] w (TabPost w 7 .i64 l3) :=
  (calls_of_runN (F := Tryz.f324) (l3_run w) Tryz.func324 (by kernel_rfl)).mono (tab_post l3_cells)
theorem l3_len : l3.length = 14 := by kernel_rfl

end Go.Proofs.YtjicdcmdgbcdcaaGreatDoor.EastTab

namespace Go.Proofs.YtjicdcmdgbcdcaaGreatDoor.East
set_option linter.unusedSimpArgs false
set_option linter.unusedVariables false
open Go.RowKit Mem Tab

theorem ret_int {k : IntKind} {a b : Int} (h : a = b) : Ending.returned (.int k a) = .returned (.int k b) := by rw [h]
theorem ret_bool {a b : Bool} (h : a = b) : Ending.returned (.bool a) = .returned (.bool b) := by rw [h]

theorem clo_eg : ∀ args w, (callFunc 285 args).run Tryz.prog w = .ok (.enter 285 args) w := fun _ _ => by kernel_rfl

set_option maxHeartbeats 400000 in
theorem clo_any (bt br tb : Nat) (n i : Nat) (r y : Int) (w : World) (hi : (i : Int) < n) (hn : (n : Int) < 4611686018427387904) (hr1 : -2147483648 ≤ r) (hr2 : r ≤ 2147483647)
    (ht : w.cell? ⟨bt, 0, none⟩ = some (.slice (some ⟨tb, 0, none⟩) n n)) (hr : w.cell? ⟨br, 0, none⟩ = some (.int .i32 r)) (hc : w.cell? ⟨tb, i * 3 + 1, none⟩ = some (.int .i64 y)) :
    Calls Tryz.prog 285 #[.int .i64 i, .pointer (some ⟨bt, 0, none⟩), .pointer (some ⟨br, 0, none⟩)] w fun e w' => e = .returned (.bool (decide (r ≤ y))) ∧ Below w.heap.size w w' := by
  go_enter Tryz.func285, Tryz.ntmps285
  go_wp2
  go_quiet (fail)
  go_wp2
  go_ret
  exact ⟨rfl, bdrew _ _⟩

theorem good : TabLaw.Good EastTab.east 119 := ⟨by kernel_rfl, by kernel_rfl⟩
noncomputable def val (r : Int) : Int := TabLaw.val3 (TabLaw.trip EastTab.east) r

set_option maxHeartbeats 400000 in
theorem of_any (r : Int) (hr1 : -2147483648 ≤ r) (hr2 : r ≤ 2147483647) (w : World) :
    Calls Tryz.prog 230 #[.int .i32 r] w fun e w' => e = .returned (.int .i64 (val r)) ∧ Below w.heap.size w w' := by
  go_enter Tryz.func230, Tryz.ntmps230
  go_wp2_with fail
  refine (EastTab.east_any _).mono ?_
  rintro e w1 ⟨rfl, hb, hk, hz⟩
  have hbx : (w.alloc (.cells #[.int .i32 r] 21)).cell? ⟨w.heap.size, 0, none⟩ = some (.int .i32 r) := by simp
  have hbw : Below w.heap.size w w1 := ((Below.refl _ _).alloc (Nat.le_refl _) _).trans (hb.mono (by simp))
  have hr0 := (hb.cell (p := ⟨w.heap.size, 0, none⟩) (by simp)).trans hbx
  have hs0 : (w.alloc (.cells #[.int .i32 r] 21)).heap.size = w.heap.size + 1 := by simp
  rw [hs0] at hz hk ⊢
  clear hbx hb hs0
  go_wp2_with fail
  have f1 : (w1.alloc (.cells #[.slice (some ⟨w.heap.size + 1, 0, none⟩) 119 119] 324)).cell? ⟨w.heap.size + 1 + 1, 0, none⟩ = some (.slice (some ⟨w.heap.size + 1, 0, none⟩) 119 119) := by rw [← hz]; simp
  have hb1 : Below w1.heap.size w1 (w1.alloc (.cells #[.slice (some ⟨w.heap.size + 1, 0, none⟩) 119 119] 324)) := (Below.refl _ _).alloc (Nat.le_refl _) _
  have f5 : (w1.alloc (.cells #[.slice (some ⟨w.heap.size + 1, 0, none⟩) 119 119] 324)).heap.size = w.heap.size + 1 + 1 + 1 := by simp [hz]
  generalize w1.alloc (.cells #[.slice (some ⟨w.heap.size + 1, 0, none⟩) 119 119] 324) = W2 at *
  have f2 := (hb1.cell (p := ⟨w.heap.size, 0, none⟩) (by simp [hz]; omega)).trans hr0
  have f3 := hk.below hb1 (by omega)
  have f4 := hbw.trans (hb1.mono (by omega))
  clear hb1 hr0 hbw hk hz
  refine (Search.search_any _ _ 119 (fun t => decide (r ≤ EastTab.east.getD (t * 3 + 1) 0)) W2 clo_eg (by omega) ?_ ?_).mono ?_
  · intro wr i hi hbr
    refine (clo_any _ _ _ 119 i r _ wr (by omega) (by omega) hr1 hr2 ((hbr.cell (p := ⟨w.heap.size + 1 + 1, 0, none⟩) (by simp [f5])).trans f1) ((hbr.cell (p := ⟨w.heap.size, 0, none⟩) (by simp [f5]; omega)).trans f2) ?_)
    exact (hbr.cell (p := ⟨w.heap.size + 1, _, none⟩) (by simp [f5])).trans (f3.cell _ _ (getnum _ (by rw [EastTab.east_len]; omega)))
  · intro a b hab hb h
    exact decide_eq_true (good.mono r a b hab hb (of_decide_eq_true h))
  rintro e w3 ⟨i, hfirst, rfl, hb3⟩
  have g1 := (hb3.cell (p := ⟨w.heap.size + 1 + 1, 0, none⟩) (by simp [f5])).trans f1
  have g2 := (hb3.cell (p := ⟨w.heap.size, 0, none⟩) (by simp [f5]; omega)).trans f2
  have g3 := f3.below hb3 (by omega)
  have g4 := f4.trans (hb3.mono (by omega))
  clear f1 f2 f3 f4 f5 hb3
  obtain ⟨hi, hf1, hf2⟩ := hfirst
  have HV := Lib.hid (good.first hi hf1 hf2)
  clear hf1 hf2
  by_cases hlt : i < 119
  · have hne : ((i : Int) == 119) = false := by simp; omega
    have hi' : (i : Int) < 119 := by omega
    have c0 := g3.cell (i * 3) _ (getnum _ (by rw [EastTab.east_len]; omega))
    have c2 := g3.cell (i * 3 + 2) _ (getnum _ (by rw [EastTab.east_len]; omega))
    have HV := Lib.hid (HV.out.trans (if_pos hlt))
    clear g3
    generalize EastTab.east.getD (i * 3) 0 = lo at *
    generalize EastTab.east.getD (i * 3 + 2) 0 = v at *
    by_cases hle : lo ≤ r
    · have hd : decide (r < lo) = false := by simp; omega
      go_wp2
      go_quiet (fail)
      go_wp2
      go_ret
      exact ⟨ret_int (by unfold val; rw [HV.out, if_pos hle]), g4.trans (bdrew _ _ |>.mono g4.size)⟩
    · have hd : decide (r < lo) = true := by simp; omega
      go_wp2
      go_quiet (fail)
      go_wp2
      go_ret
      exact ⟨ret_int (by unfold val; rw [HV.out, if_neg (by omega)]), g4.trans (bdrew _ _ |>.mono g4.size)⟩
  · obtain rfl : i = 119 := by omega
    go_wp2
    go_quiet (fail)
    go_wp2
    go_ret
    exact ⟨ret_int (by unfold val; rw [HV.out]; rfl), g4.trans (bdrew _ _ |>.mono g4.size)⟩

end Go.Proofs.YtjicdcmdgbcdcaaGreatDoor.East

namespace Go.Proofs.YtjicdcmdgbcdcaaGreatDoor.EastRefW
set_option linter.unusedSimpArgs false
set_option linter.unusedVariables false
open Go.RowKit Mem Tab

noncomputable def tabs : List (List Int) := [EastTab.l1, EastTab.l2, EastTab.l3]
noncomputable def LL : List (List (Int × Int)) := tabs.map TabLaw.pairs

theorem l1_pairs : (TabLaw.pairs EastTab.l1).length = 109 := by kernel_rfl
theorem l2_pairs : (TabLaw.pairs EastTab.l2).length = 3 := by kernel_rfl
theorem l3_pairs : (TabLaw.pairs EastTab.l3).length = 7 := by kernel_rfl

def Lists (W : World) (base blk : Nat) : Prop := ∀ k L, tabs[k]? = some L → ∃ n : Nat, W.cell? ⟨blk, k, none⟩ = some (.slice (some ⟨base + k, 0, none⟩) n n) ∧ Blk W (base + k) (L.map (Value.int .i64)) ∧ L.length = 2 * n ∧ (TabLaw.pairs L).length = n ∧ (n : Int) < 4611686018427387904

noncomputable def refv (r : Int) : Int := (match TabLaw.which LL r with | some k => (k : Int) + 1 | none => 0)

theorem LL_len : LL.length = 3 := rfl
theorem tabs_len : tabs.length = 3 := rfl

theorem which_some {r : Int} {k : Nat} {L : List Int} (h : tabs[k]? = some L) (h1 : (TabLaw.pairs L).any (TabLaw.hasP r) = true) (h2 : ∀ l ∈ LL.take k, l.any (TabLaw.hasP r) = false) : TabLaw.which LL r = some k := by
  have hk : k < LL.length := by unfold LL; rw [List.length_map]; exact (List.getElem?_eq_some_iff.1 h).1
  unfold TabLaw.which
  rw [List.findIdx?_eq_some_iff_getElem]
  refine ⟨hk, ?_, ?_⟩
  · have e : LL[k] = TabLaw.pairs L := by
      have : LL[k]? = some (TabLaw.pairs L) := by unfold LL; rw [List.getElem?_map, h]; rfl
      rw [List.getElem?_eq_getElem hk] at this
      exact Option.some.inj this
    rw [e]; exact h1
  · intro j hj
    have := h2 LL[j] (List.mem_iff_getElem?.2 ⟨j, by rw [List.getElem?_take, if_pos hj, List.getElem?_eq_getElem (by omega)]⟩)
    simp [this]

theorem which_none {r : Int} (h2 : ∀ l ∈ LL.take 3, l.any (TabLaw.hasP r) = false) : TabLaw.which LL r = none := by
  unfold TabLaw.which
  rw [List.findIdx?_eq_none_iff]
  intro l hl
  exact h2 l (by rw [List.take_of_length_le (by rw [LL_len]; exact Nat.le_refl _)]; exact hl)

theorem at_3 (W : World) (base : Nat)
    (c0 : W.cell? ⟨base + 3, 0, none⟩ = some (.slice (some ⟨base + 0, 0, none⟩) 109 109)) (k0 : Blk W (base + 0) (EastTab.l1.map (Value.int .i64)))
    (c1 : W.cell? ⟨base + 3, 1, none⟩ = some (.slice (some ⟨base + 1, 0, none⟩) 3 3)) (k1 : Blk W (base + 1) (EastTab.l2.map (Value.int .i64)))
    (c2 : W.cell? ⟨base + 3, 2, none⟩ = some (.slice (some ⟨base + 2, 0, none⟩) 7 7)) (k2 : Blk W (base + 2) (EastTab.l3.map (Value.int .i64)))
    : Lists W base (base + 3) := by
  intro k L h
  have hk : k < 3 := by have := (List.getElem?_eq_some_iff.1 h).1; rwa [tabs_len] at this
  rcases (show k = 0 ∨ k = 1 ∨ k = 2 by omega) with rfl | rfl | rfl
  · obtain rfl : EastTab.l1 = L := Option.some.inj h
    exact ⟨109, c0, k0, EastTab.l1_len, l1_pairs, by omega⟩
  · obtain rfl : EastTab.l2 = L := Option.some.inj h
    exact ⟨3, c1, k1, EastTab.l2_len, l2_pairs, by omega⟩
  · obtain rfl : EastTab.l3 = L := Option.some.inj h
    exact ⟨7, c2, k2, EastTab.l3_len, l3_pairs, by omega⟩

set_option maxHeartbeats 2000000 in
theorem ref_any (r : Int) (hr1 : -2147483648 ≤ r) (hr2 : r ≤ 2147483647) (w : World) :
    Calls Tryz.prog 272 #[.int .i32 r] w fun e w' => e = .returned (.int .i64 (refv r)) ∧ Below w.heap.size w w' := by
  go_enter Tryz.func272, Tryz.ntmps272
  go_wp2_with fail
  refine (EastTab.l1_any _).mono ?_
  rintro e w1 ⟨rfl, hb1, hk1, hz1⟩
  go_wp2_with fail
  refine (EastTab.l2_any _).mono ?_
  rintro e w2 ⟨rfl, hb2, hk2, hz2⟩
  rw [hz1] at hb2 hk2 hz2
  have hk1 := hk1.below hb2 (by omega)
  have hb2 := hb1.trans (hb2.mono (by omega))
  clear hb1
  go_wp2_with fail
  refine (EastTab.l3_any _).mono ?_
  rintro e w3 ⟨rfl, hb3, hk3, hz3⟩
  rw [hz2] at hb3 hk3 hz3
  have hk1 := hk1.below hb3 (by omega)
  have hk2 := hk2.below hb3 (by omega)
  have hb3 := hb2.trans (hb3.mono (by omega))
  clear hb2
  have hz : w3.heap.size = w.heap.size + 3 := by omega
  go_wp2_with fail
  have c0 : (w3.alloc (.cells #[.slice (some ⟨w.heap.size, 0, none⟩) 109 109, .slice (some ⟨w.heap.size + 1, 0, none⟩) 3 3, .slice (some ⟨w.heap.size + 1 + 1, 0, none⟩) 7 7] 347)).cell? ⟨w.heap.size + 1 + 1 + 1, 0, none⟩ = some (.slice (some ⟨w.heap.size, 0, none⟩) 109 109) := by rw [← hz3]; simp
  have c1 : (w3.alloc (.cells #[.slice (some ⟨w.heap.size, 0, none⟩) 109 109, .slice (some ⟨w.heap.size + 1, 0, none⟩) 3 3, .slice (some ⟨w.heap.size + 1 + 1, 0, none⟩) 7 7] 347)).cell? ⟨w.heap.size + 1 + 1 + 1, 1, none⟩ = some (.slice (some ⟨w.heap.size + 1, 0, none⟩) 3 3) := by rw [← hz3]; simp
  have c2 : (w3.alloc (.cells #[.slice (some ⟨w.heap.size, 0, none⟩) 109 109, .slice (some ⟨w.heap.size + 1, 0, none⟩) 3 3, .slice (some ⟨w.heap.size + 1 + 1, 0, none⟩) 7 7] 347)).cell? ⟨w.heap.size + 1 + 1 + 1, 2, none⟩ = some (.slice (some ⟨w.heap.size + 1 + 1, 0, none⟩) 7 7) := by rw [← hz3]; simp
  have hbW : Below w3.heap.size w3 (w3.alloc (.cells #[.slice (some ⟨w.heap.size, 0, none⟩) 109 109, .slice (some ⟨w.heap.size + 1, 0, none⟩) 3 3, .slice (some ⟨w.heap.size + 1 + 1, 0, none⟩) 7 7] 347)) := (Below.refl _ _).alloc (Nat.le_refl _) _
  generalize (w3.alloc (.cells #[.slice (some ⟨w.heap.size, 0, none⟩) 109 109, .slice (some ⟨w.heap.size + 1, 0, none⟩) 3 3, .slice (some ⟨w.heap.size + 1 + 1, 0, none⟩) 7 7] 347)) = W at *
  have hk1 := hk1.below hbW (by omega)
  have hk2 := hk2.below hbW (by omega)
  have hk3 := hk3.below hbW (by omega)
  have hL : Lists W w.heap.size (w.heap.size + 3) := at_3 W w.heap.size c0 hk1 c1 hk2 c2 hk3
  have HL := Lib.hid hL
  have hbw : Below w.heap.size w W := hb3.trans (hbW.mono (by omega))
  clear hL hbW hb3 hz hz1 hz2 hz3 c0 c1 c2 hk1 hk2 hk3
  go_loop [4] (fun i => ∃ k : Nat, k ≤ 3 ∧ i = .int .i64 k ∧ Hid (∀ l ∈ LL.take k, l.any (TabLaw.hasP r) = false)) (fun i => 3 - (intOf i).toNat)
  case atStart => exact ⟨0, Nat.zero_le _, rfl, Lib.hid (by simp)⟩
  case round =>
    obtain ⟨k, hkn, rfl, hno⟩ := hrel
    by_cases hlt : k < 3
    · have hlt' : (k : Int) < 3 := by omega
      obtain ⟨L, hLk⟩ : ∃ L, tabs[k]? = some L := ⟨_, List.getElem?_eq_getElem (by rw [tabs_len]; exact hlt)⟩
      obtain ⟨n, hc, hbk, hl, hp, hn⟩ := HL.out k L hLk
      have hc' : W.cell? ⟨w.heap.size + 1 + 1 + 1, k, none⟩ = some (.slice (some ⟨w.heap.size + k, 0, none⟩) n n) := hc
      have HBK := Lib.hid hbk
      have HLK := Lib.hid hLk
      have HC := In.in_any (w.heap.size + k) n L r W hr1 hr2 hn hp hl HBK
      clear hc hbk hl hp hLk
      cases hv : (TabLaw.pairs L).any (TabLaw.hasP r) <;> rw [hv] at HC
      · have HV := Lib.hid hv
        have HC := Lib.hid HC
        clear hv
        go_wp2_with (go_at_call 316; refine HC.out.mono ?_; rintro e w' ⟨rfl, rfl⟩)
        go_round
        case rel =>
          refine ⟨k + 1, by omega, by go_num, Lib.hid ?_⟩
          intro l hl
          rw [List.take_add_one] at hl
          rcases List.mem_append.1 hl with h | h
          · exact hno.out l h
          · have e : LL[k]? = some (TabLaw.pairs L) := by unfold LL; rw [List.getElem?_map, HLK.out]; rfl
            rw [e] at h; simp at h; subst h; exact HV.out
        case measure => simp [intOf]; omega
      · have HV := Lib.hid hv
        have HC := Lib.hid HC
        clear hv
        go_wp2_with (go_at_call 316; refine HC.out.mono ?_; rintro e w' ⟨rfl, rfl⟩)
        go_ret
        exact ⟨In.ret_int (by unfold refv; rw [which_some HLK.out HV.out hno.out]), hbw⟩
    · obtain rfl : k = 3 := by omega
      go_wp2
      go_ret
      exact ⟨In.ret_int (by unfold refv; rw [which_none hno.out]), hbw⟩

end Go.Proofs.YtjicdcmdgbcdcaaGreatDoor.EastRefW

namespace Go.Proofs.YtjicdcmdgbcdcaaGreatDoor.East
set_option linter.unusedSimpArgs false
set_option linter.unusedVariables false
open Go.RowKit Mem Tab

theorem refv_eq (r : Int) : EastRefW.refv r = val r :=
  (TabLaw.which_eq good.sorted (by kernel_rfl) (by kernel_rfl) r).1

theorem ref_val (r : Int) (hr1 : -2147483648 ≤ r) (hr2 : r ≤ 2147483647) (w : World) :
    Calls Tryz.prog 272 #[.int .i32 r] w fun e w' => e = .returned (.int .i64 (val r)) ∧ Below w.heap.size w w' := by
  rw [← refv_eq]; exact EastRefW.ref_any r hr1 hr2 w

end Go.Proofs.YtjicdcmdgbcdcaaGreatDoor.East
end

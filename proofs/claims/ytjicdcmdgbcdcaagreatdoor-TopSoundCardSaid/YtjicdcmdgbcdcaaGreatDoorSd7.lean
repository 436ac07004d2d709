/-
  Functions that make tables, run by the machine to their return.
  Functions that make tables, run by the machine to their return.
  The walk of conj.Of.
  The walk of a reference that looks through its lists, one by one.
  Package conj: the program and the reference tell one value.
-/
import Derived.Test.YtjicdcmdgbcdcaaGreatDoorSd1
import Derived.Test.YtjicdcmdgbcdcaaGreatDoorSd3
import Derived.Deep.QuietTactic
import Derived.BigQuiet
section
namespace Go.Proofs.YtjicdcmdgbcdcaaGreatDoor.ConjTab
set_option linter.unusedSimpArgs false
set_option linter.unusedVariables false
open Go.RowKit Mem Tab

noncomputable def conjRows : List (List Value) := rowsOf Tryz.f282
noncomputable def conj : List Int := conjRows.flatten.map numOf
theorem conj_cells : conjRows.flatten = conj.map (Value.int .i64) := by kernel_rfl
theorem conj_run (w : World) (cs : List Frame) : runN Tryz.prog 60 (lone (Frame.enter Tryz.prog 282 #[] .normal) cs w) =
  .next (lone { fn := 282, tmps := (Value.slice (some ⟨w.heap.size, 0, none⟩) 50 50 :: conjRows.map (fun r => Value.agg r.toArray) ++ [Value.slice (some ⟨w.heap.size, 0, none⟩) 50 50]).toArray, todo := [.code .ret], defers := [], mode := .returning, kind := .normal } cs
    (w.alloc (.cells conjRows.flatten.toArray 327))) := by kernel_rfl
theorem conj_any (w : World) : Calls Tryz.prog 282 #[] w (TabPost w 50 .i64 conj) :=
  (calls_of_runN (F := Tryz.f282) (conj_run w) Tryz.func282 (by kernel_rfl)).mono (tab_post conj_cells)
theorem conj_len : conj.length = 150 := by kernel_rfl

end Go.Proofs.YtjicdcmdgbcdcaaGreatDoor.ConjTab

namespace Go.Proofs.YtjicdcmdgbcdcaaGreatDoor.ConjTab
set_option linter.unusedSimpArgs false
set_option linter.unusedVariables false
open Go.RowKit Mem Tab

noncomputable def l1Rows : List (List Value) := rowsOf Tryz.f319
noncomputable def l1 : List Int := l1Rows.flatten.map numOf
theorem l1_cells : l1Rows.flatten = l1.map (Value.int .i64) := by kernel_rfl
theorem l1_run (w : World) (cs : List Frame) : runN Tryz.prog 36 (lone (Frame.enter Tryz.prog 319 #[] .normal) cs w) =
  .next (lone { fn := 319, tmps := (Value.slice (some ⟨w.heap.size, 0, none⟩) 26 26 :: l1Rows.map (fun r => Value.agg r.toArray) ++ [Value.slice (some ⟨w.heap.size, 0, none⟩) 26 26]).toArray, todo := [.code .ret], defers := [], mode := .returning, kind := .normal } cs
    (w.alloc (.cells l1Rows.flatten.toArray 149))) := by kernel_rfl
theorem l1_any (w : World) : Calls Tryz.prog 319 #[] w (TabPost w 26 .i64 l1) :=
  (calls_of_runN (F := Tryz.f319) (l1_run w) Tryz.func319 (by kernel_rfl)).mono (tab_post l1_cells)
theorem l1_len : l1.length = 52 := by kernel_rfl

noncomputable def l2Rows : List (List Value) := rowsOf Tryz.f320
noncomputable def l2 : List Int := l2Rows.flatten.map numOf
theorem l2_cells : l2Rows.flatten = l2.map (Value.int .i64) := by kernel_rfl
theorem l2_run (w : World) (cs : List Frame) : runN Tryz.prog 16 (lone (Frame.enter Tryz.prog 320 #[] .normal) cs w) =
  .next (lone { fn := 320, tmps := (Value.slice (some ⟨w.heap.size, 0, none⟩) 6 6 :: l2Rows.map (fun r => Value.agg r.toArray) ++ [Value.slice (some ⟨w.heap.size, 0, none⟩) 6 6]).toArray, todo := [.code .ret], defers := [], mode := .returning, kind := .normal } cs
    (w.alloc (.cells l2Rows.flatten.toArray 149))) := by kernel_rfl
theorem l2_any (w : World) : Calls Tryz.prog 320 #[] w (TabPost w 6 .i64 l2) :=
  (calls_of_runN (F := Tryz.f320) (l2_run w) Tryz.func320 (by kernel_rfl)).mono (tab_post l2_cells)
theorem l2_len : l2.length = 12 := by kernel_rfl

noncomputable def l3Rows : List (List Value) := rowsOf Tryz.f321
noncomputable def l3 : List Int := l3Rows.flatten.map numOf
theorem l3_cells : l3Rows.flatten = l3.map (Value.int .i64) := by kernel_rfl
theorem l3_run (w : World) (cs : List Frame) : runN Tryz.prog 28 (lone (Frame.enter Tryz.prog 321 #[] .normal) cs w) =
  .next (lone { fn := 321, tmps := (Value.slice (some ⟨w.heap.size, 0, none⟩) 18 18 :: l3Rows.map (fun r => Value.agg r.toArray) ++ [Value.slice (some ⟨w.heap.size, 0, none⟩) 18 18]).toArray, todo := [.code .ret], defers := [], mode := .returning, kind := .normal } cs
    (w.alloc (.cells l3Rows.flatten.toArray 149))) := by kernel_rfl
theorem l3_any (w : World) : Calls Tryz.prog 321 #[] w (TabPost w 18 .i64 l3) :=
  (calls_of_runN (F := Tryz.f321) (l3_run w) Tryz.func321 (by kernel_rfl)).mono (tab_post l3_cells)
theorem l3_len : l3.length = 36 := by kernel_rfl

end Go.Proofs.YtjicdcmdgbcdcaaGreatDoor.ConjTab

namespace Go.Proofs.YtjicdcmdgbcdcaaGreatDoor.Conj
set_option linter.unusedSimpArgs false
set_option linter.unusedVariables false
open Go.RowKit Mem Tab

theorem ret_int {k : IntKind} {a b : Int} (h : a = b) : Ending.returned (.int k a) = .returned (.int k b) := by rw [h]
theorem ret_bool {a b : Bool} (h : a = b) : Ending.returned (.bool a) = .returned (.bool b) := by rw [h]

theorem clo_eg : ∀ args w, (callFunc 283 args).run Tryz.prog w = .ok (.enter 283 args) w := fun _ _ => by kernel_rfl

set_option maxHeartbeats 400000 in
theorem clo_any (bt br tb : Nat) (n i : Nat) (r y : Int) (w : World) (hi : (i : Int) < n) (hn : (n : Int) < 4611686018427387904) (hr1 : -2147483648 ≤ r) (hr2 : r ≤ 2147483647)
    (ht : w.cell? ⟨bt, 0, none⟩ = some (.slice (some ⟨tb, 0, none⟩) n n)) (hr : w.cell? ⟨br, 0, none⟩ = some (.int .i32 r)) (hc : w.cell? ⟨tb, i * 3 + 1, none⟩ = some (.int .i64 y)) :
    Calls Tryz.prog 283 #[.int .i64 i, .pointer (some ⟨bt, 0, none⟩), .pointer (some ⟨br, 0, none⟩)] w fun e w' => e = .returned (.bool (decide (r ≤ y))) ∧ Below w.heap.size w w' := by
  go_enter Tryz.func283, Tryz.ntmps283
  go_wp2
  go_quiet (fail)
  go_wp2
  go_ret
  exact ⟨rfl, bdrew _ _⟩

theorem good : TabLaw.Good ConjTab.conj 50 := ⟨by kernel_rfl, by kernel_rfl⟩
noncomputable def val (r : Int) : Int := TabLaw.val3 (TabLaw.trip ConjTab.conj) r

set_option maxHeartbeats 400000 in
theorem of_any (r : Int) (hr1 : -2147483648 ≤ r) (hr2 : r ≤ 2147483647) (w : World) :
    Calls Tryz.prog 229 #[.int .i32 r] w fun e w' => e = .returned (.int .i64 (val r)) ∧ Below w.heap.size w w' := by
  go_enter Tryz.func229, Tryz.ntmps229
  go_wp2_with fail
  refine (ConjTab.conj_any _).mono ?_
  rintro e w1 ⟨rfl, hb, hk, hz⟩
  have hbx : (w.alloc (.cells #[.int .i32 r] 21)).cell? ⟨w.heap.size, 0, none⟩ = some (.int .i32 r) := by simp
  have hbw : Below w.heap.size w w1 := ((Below.refl _ _).alloc (Nat.le_refl _) _).trans (hb.mono (by simp))
  have hr0 := (hb.cell (p := ⟨w.heap.size, 0, none⟩) (by simp)).trans hbx
  have hs0 : (w.alloc (.cells #[.int .i32 r] 21)).heap.size = w.heap.size + 1 := by simp
  rw [hs0] at hz hk ⊢
  clear hbx hb hs0
  go_wp2_with fail
  have f1 : (w1.alloc (.cells #[.slice (some ⟨w.heap.size + 1, 0, none⟩) 50 50] 324)).cell? ⟨w.heap.size + 1 + 1, 0, none⟩ = some (.slice (some ⟨w.heap.size + 1, 0, none⟩) 50 50) := by rw [← hz]; simp
  have hb1 : Below w1.heap.size w1 (w1.alloc (.cells #[.slice (some ⟨w.heap.size + 1, 0, none⟩) 50 50] 324)) := (Below.refl _ _).alloc (Nat.le_refl _) _
  have f5 : (w1.alloc (.cells #[.slice (some ⟨w.heap.size + 1, 0, none⟩) 50 50] 324)).heap.size = w.heap.size + 1 + 1 + 1 := by simp [hz]
  generalize w1.alloc (.cells #[.slice (some ⟨w.heap.size + 1, 0, none⟩) 50 50] 324) = W2 at *
  have f2 := (hb1.cell (p := ⟨w.heap.size, 0, none⟩) (by simp [hz]; omega)).trans hr0
  have f3 := hk.below hb1 (by omega)
  have f4 := hbw.trans (hb1.mono (by omega))
  clear hb1 hr0 hbw hk hz
  refine (Search.search_any _ _ 50 (fun t => decide (r ≤ ConjTab.conj.getD (t * 3 + 1) 0)) W2 clo_eg (by omega) ?_ ?_).mono ?_
  · intro wr i hi hbr
    refine (clo_any _ _ _ 50 i r _ wr (by omega) (by omega) hr1 hr2 ((hbr.cell (p := ⟨w.heap.size + 1 + 1, 0, none⟩) (by simp [f5])).trans f1) ((hbr.cell (p := ⟨w.heap.size, 0, none⟩) (by simp [f5]; omega)).trans f2) ?_)
    exact (hbr.cell (p := ⟨w.heap.size + 1, _, none⟩) (by simp [f5])).trans (f3.cell _ _ (getnum _ (by rw [ConjTab.conj_len]; omega)))
  · intro a b hab hb h
    exact decide_eq_true (good.mono r a b hab hb (of_decide_eq_true h))
  rintro e w3 ⟨i, hfirst, rfl, hb3⟩
  have g1 := (hb3.cell (p := ⟨w.heap.size + 1 + 1, 0, none⟩) (by simp [f5])).trans f1
  have g2 := (hb3.cell (p := ⟨w.heap.size, 0, none⟩) (by simp [f5]; omega)).trans f2
  have g3 := f3.below hb3 (by omega)
  have g4 := f4.trans (hb3.mono (by omega))
  clear f1 f2 f3 f4 f5 hb3
  obtain ⟨hi, hf1, hf2⟩ := hfirst
  have HV := Lib.hid (good.first hi hf1 hf2)
  clear hf1 hf2
  by_cases hlt : i < 50
  · have hne : ((i : Int) == 50) = false := by simp; omega
    have hi' : (i : Int) < 50 := by omega
    have c0 := g3.cell (i * 3) _ (getnum _ (by rw [ConjTab.conj_len]; omega))
    have c2 := g3.cell (i * 3 + 2) _ (getnum _ (by rw [ConjTab.conj_len]; omega))
    have HV := Lib.hid (HV.out.trans (if_pos hlt))
    clear g3
    generalize ConjTab.conj.getD (i * 3) 0 = lo at *
    generalize ConjTab.conj.getD (i * 3 + 2) 0 = v at *
    by_cases hle : lo ≤ r
    · have hd : decide (r < lo) = false := by simp; omega
      go_wp2
      go_quiet (fail)
      go_wp2
      go_ret
      exact ⟨ret_int (by unfold val; rw [HV.out, if_pos hle]), g4.trans (bdrew _ _ |>.mono g4.size)⟩
    · have hd : decide (r < lo) = true := by simp; omega
      go_wp2
      go_quiet (fail)
      go_wp2
      go_ret
      exact ⟨ret_int (by unfold val; rw [HV.out, if_neg (by omega)]), g4.trans (bdrew _ _ |>.mono g4.size)⟩
  · obtain rfl : i = 50 := by omega
    go_wp2
    go_quiet (fail)
    go_wp2
    go_ret
    exact ⟨ret_int (by unfold val; rw [HV.out]; rfl), g4.trans (bdrew _ _ |>.mono g4.size)⟩

end Go.Proofs.YtjicdcmdgbcdcaaGreatDoor.Conj

namespace Go.Proofs.YtjicdcmdgbcdcaaGreatDoor.ConjRefW
set_option linter.unusedSimpArgs false
set_option linter.unusedVariables false
open Go.RowKit Mem Tab

noncomputable def tabs : List (List Int) := [ConjTab.l1, ConjTab.l2, ConjTab.l3]
noncomputable def LL : List (List (Int × Int)) := tabs.map TabLaw.pairs

theorem l1_pairs : (TabLaw.pairs ConjTab.l1).length = 26 := by kernel_rfl
theorem l2_pairs : (TabLaw.pairs ConjTab.l2).length = 6 := by kernel_rfl
theorem l3_pairs : (TabLaw.pairs ConjTab.l3).length = 18 := by kernel_rfl

def Lists (W : World) (base blk : Nat) : Prop := ∀ k L, tabs[k]? = some L → ∃ n : Nat, W.cell? ⟨blk, k, none⟩ = some (.slice (some ⟨base + k, 0, none⟩) n n) ∧ Blk W (base + k) (L.map (Value.int .i64)) ∧ L.length = 2 * n ∧ (TabLaw.pairs L).length = n ∧ (n : Int) < 4611686018427387904

noncomputable def refv (r : Int) : Int := (match TabLaw.which LL r with | some k => (k : Int) + 1 | none => 0)

theorem LL_len : LL.length = 3 := rfl
theorem tabs_len : tabs.length = 3 := rfl

theorem which_some {r : Int} {k : Nat} {L : List Int} (h : tabs[k]? = some L) (h1 : (TabLaw.pairs L).any (TabLaw.hasP r) = true) (h2 : ∀ l ∈ LL.take k, l.any (TabLaw.hasP r) = false) : TabLaw.which LL r = some k := by
  have hk : k < LL.length := by unfold LL; rw [List.length_map]; exact (List.getElem?_eq_some_iff.1 h).1
  unfold TabLaw.which
  rw [List.findIdx?_eq_some_iff_getElem]
  refine ⟨hk, ?_, ?_⟩
  · have e : LL[k] = TabLaw.pairs L := by
      have : LL[k]? = some (TabLaw.pairs L) := by unfold LL; rw [List.getElem?_map, h]; rfl
      rw [List.getElem?_eq_getElem hk] at this
      exact Option.some.inj this
    rw [e]; exact h1
  · intro j hj
    have := h2 LL[j] (List.mem_iff_getElem?.2 ⟨j, by rw [List.getElem?_take, if_pos hj, List.getElem?_eq_getElem (by omega)]⟩)
    simp [this]

theorem which_none {r : Int} (h2 : ∀ l ∈ LL.take 3, l.any (TabLaw.hasP r) = false) : TabLaw.which LL r = none := by
  unfold TabLaw.which
  rw [List.findIdx?_eq_none_iff]
  intro l hl
  exact h2 l (by rw [List.take_of_length_le (by rw [LL_len]; exact Nat.le_refl _)]; exact hl)

theorem at_3 (W : World) (base : Nat)
    (c0 : W.cell? ⟨base + 3, 0, none⟩ = some (.slice (some ⟨base + 0, 0, none⟩) 26 26)) (k0 : Blk W (base + 0) (ConjTab.l1.map (Value.int .i64)))
    (c1 : W.cell? ⟨base + 3, 1, none⟩ = some (.slice (some ⟨base + 1, 0, none⟩) 6 6)) (k1 : Blk W (base + 1) (ConjTab.l2.map (Value.int .i64)))
    (c2 : W.cell? ⟨base + 3, 2, none⟩ = some (.slice (some ⟨base + 2, 0, none⟩) 18 18)) (k2 : Blk W (base + 2) (ConjTab.l3.map (Value.int .i64)))
    : Lists W base (base + 3) := by
  intro k L h
  have hk : k < 3 := by have := (List.getElem?_eq_some_iff.1 h).1; rwa [tabs_len] at this
  rcases (show k = 0 ∨ k = 1 ∨ k = 2 by omega) with rfl | rfl | rfl
  · obtain rfl : ConjTab.l1 = L := Option.some.inj h
    exact ⟨26, c0, k0, ConjTab.l1_len, l1_pairs, by omega⟩
  · obtain rfl : ConjTab.l2 = L := Option.some.inj h
    exact ⟨6, c1, k1, ConjTab.l2_len, l2_pairs, by omega⟩
  · obtain rfl : ConjTab.l3 = L := Option.some.inj h
    exact ⟨18, c2, k2, ConjTab.l3_len, l3_pairs, by omega⟩

set_option maxHeartbeats 2000000 in
theorem ref_any (r : Int) (hr1 : -2147483648 ≤ r) (hr2 : r ≤ 2147483647) (w : World) :
    Calls Tryz.prog 271 #[.int .i32 r] w fun e w' => e = .returned (.int .i64 (refv r)) ∧ Below w.heap.size w w' := by
  go_enter Tryz.func271, Tryz.ntmps271
  go_wp2_with fail
  refine (ConjTab.l1_any _).mono ?_
  rintro e w1 ⟨rfl, hb1, hk1, hz1⟩
  go_wp2_with fail
  refine (ConjTab.l2_any _).mono ?_
  rintro e w2 ⟨rfl, hb2, hk2, hz2⟩
  rw [hz1] at hb2 hk2 hz2
  have hk1 := hk1.below hb2 (by omega)
  have hb2 := hb1.trans (hb2.mono (by omega))
  clear hb1
  go_wp2_with fail
  refine (ConjTab.l3_any _).mono ?_
  rintro e w3 ⟨rfl, hb3, hk3, hz3⟩
  rw [hz2] at hb3 hk3 hz3
  have hk1 := hk1.below hb3 (by omega)
  have hk2 := hk2.below hb3 (by omega)
  have hb3 := hb2.trans (hb3.mono (by omega))
  clear hb2
  have hz : w3.heap.size = w.heap.size + 3 := by omega
  go_wp2_with fail
  have c0 : (w3.alloc (.cells #[.slice (some ⟨w.heap.size, 0, none⟩) 26 26, .slice (some ⟨w.heap.size + 1, 0, none⟩) 6 6, .slice (some ⟨w.heap.size + 1 + 1, 0, none⟩) 18 18] 347)).cell? ⟨w.heap.size + 1 + 1 + 1, 0, none⟩ = some (.slice (some ⟨w.heap.size, 0, none⟩) 26 26) := by rw [← hz3]; simp
  have c1 : (w3.alloc (.cells #[.slice (some ⟨w.heap.size, 0, none⟩) 26 26, .slice (some ⟨w.heap.size + 1, 0, none⟩) 6 6, .slice (some ⟨w.heap.size + 1 + 1, 0, none⟩) 18 18] 347)).cell? ⟨w.heap.size + 1 + 1 + 1, 1, none⟩ = some (.slice (some ⟨w.heap.size + 1, 0, none⟩) 6 6) := by rw [← hz3]; simp
  have c2 : (w3.alloc (.cells #[.slice (some ⟨w.heap.size, 0, none⟩) 26 26, .slice (some ⟨w.heap.size + 1, 0, none⟩) 6 6, .slice (some ⟨w.heap.size + 1 + 1, 0, none⟩) 18 18] 347)).cell? ⟨w.heap.size + 1 + 1 + 1, 2, none⟩ = some (.slice (some ⟨w.heap.size + 1 + 1, 0, none⟩) 18 18) := by rw [← hz3]; simp
  have hbW : Below w3.heap.size w3 (w3.alloc (.cells #[.slice (some ⟨w.heap.size, 0, none⟩) 26 26, .slice (some ⟨w.heap.size + 1, 0, none⟩) 6 6, .slice (some ⟨w.heap.size + 1 + 1, 0, none⟩) 18 18] 347)) := (Below.refl _ _).alloc (Nat.le_refl _) _
  generalize (w3.alloc (.cells #[.slice (some ⟨w.heap.size, 0, none⟩) 26 26, .slice (some ⟨w.heap.size + 1, 0, none⟩) 6 6, .slice (some ⟨w.heap.size + 1 + 1, 0, none⟩) 18 18] 347)) = W at *
  have hk1 := hk1.below hbW (by omega)
  have hk2 := hk2.below hbW (by omega)
  have hk3 := hk3.below hbW (by omega)
  have hL : Lists W w.heap.size (w.heap.size + 3) := at_3 W w.heap.size c0 hk1 c1 hk2 c2 hk3
  have HL := Lib.hid hL
  have hbw : Below w.heap.size w W := hb3.trans (hbW.mono (by omega))
  clear hL hbW hb3 hz hz1 hz2 hz3 c0 c1 c2 hk1 hk2 hk3
  go_loop [4] (fun i => ∃ k : Nat, k ≤ 3 ∧ i = .int .i64 k ∧ Hid (∀ l ∈ LL.take k, l.any (TabLaw.hasP r) = false)) (fun i => 3 - (intOf i).toNat)
  case atStart => exact ⟨0, Nat.zero_le _, rfl, Lib.hid (by simp)⟩
  case round =>
    obtain ⟨k, hkn, rfl, hno⟩ := hrel
    by_cases hlt : k < 3
    · have hlt' : (k : Int) < 3 := by omega
      obtain ⟨L, hLk⟩ : ∃ L, tabs[k]? = some L := ⟨_, List.getElem?_eq_getElem (by rw [tabs_len]; exact hlt)⟩
      obtain ⟨n, hc, hbk, hl, hp, hn⟩ := HL.out k L hLk
      have hc' : W.cell? ⟨w.heap.size + 1 + 1 + 1, k, none⟩ = some (.slice (some ⟨w.heap.size + k, 0, none⟩) n n) := hc
      have HBK := Lib.hid hbk
      have HLK := Lib.hid hLk
      have HC := In.in_any (w.heap.size + k) n L r W hr1 hr2 hn hp hl HBK
      clear hc hbk hl hp hLk
      cases hv : (TabLaw.pairs L).any (TabLaw.hasP r) <;> rw [hv] at HC
      · have HV := Lib.hid hv
        have HC := Lib.hid HC
        clear hv
        go_wp2_with (go_at_call 316; refine HC.out.mono ?_; rintro e w' ⟨rfl, rfl⟩)
        go_round
        case rel =>
          refine ⟨k + 1, by omega, by go_num, Lib.hid ?_⟩
          intro l hl
          rw [List.take_add_one] at hl
          rcases List.mem_append.1 hl with h | h
          · exact hno.out l h
          · have e : LL[k]? = some (TabLaw.pairs L) := by unfold LL; rw [List.getElem?_map, HLK.out]; rfl
            rw [e] at h; simp at h; subst h; exact HV.out
        case measure => simp [intOf]; omega
      · have HV := Lib.hid hv
        have HC := Lib.hid HC
        clear hv
        go_wp2_with (go_at_call 316; refine HC.out.mono ?_; rintro e w' ⟨rfl, rfl⟩)
        go_ret
        exact ⟨In.ret_int (by unfold refv; rw [which_some HLK.out HV.out hno.out]), hbw⟩
    · obtain rfl : k = 3 := by omega
      go_wp2
      go_ret
      exact ⟨In.ret_int (by unfold refv; rw [which_none hno.out]), hbw⟩

end Go.Proofs.YtjicdcmdgbcdcaaGreatDoor.ConjRefW

namespace Go.Proofs.YtjicdcmdgbcdcaaGreatDoor.Conj
set_option linter.unusedSimpArgs false
set_option linter.unusedVariables false
open Go.RowKit Mem Tab

theorem refv_eq (r : Int) : ConjRefW.refv r = val r :=
  (TabLaw.which_eq good.sorted (by kernel_rfl) (by kernel_rfl) r).1

theorem ref_val (r : Int) (hr1 : -2147483648 ≤ r) (hr2 : r ≤ 2147483647) (w : World) :
    Calls Tryz.prog 271 #[.int .i32 r] w fun e w' => e = .returned (.int .i64 (val r)) ∧ Below w.heap.size w w' := by
  rw [← refv_eq]; exact ConjRefW.ref_any r hr1 hr2 w

end Go.Proofs.YtjicdcmdgbcdcaaGreatDoor.Conj
end

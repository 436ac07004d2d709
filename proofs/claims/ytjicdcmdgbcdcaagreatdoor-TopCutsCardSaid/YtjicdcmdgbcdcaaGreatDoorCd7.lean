/-
  Functions that make tables, run by the machine to their return.
  Functions that make tables, run by the machine to their return.
  Package pict and its reference: whether a number is a picture.
-/
import Derived.Test.YtjicdcmdgbcdcaaGreatDoorCd1
import Derived.Test.YtjicdcmdgbcdcaaGreatDoorCd2
import Derived.Deep.QuietTactic
import Derived.BigQuiet
section
namespace Go.Proofs.YtjicdcmdgbcdcaaGreatDoor.PictTab
set_option linter.unusedSimpArgs false
set_option linter.unusedVariables false
open Go.RowKit Mem Tab

noncomputable def pictRows : List (List Value) := rowsOf Tryz.f280
noncomputable def pict : List Int := pictRows.flatten.map numOf
theorem pict_cells : pictRows.flatten = pict.map (Value.int .i32) := by kernel_rfl
theorem pict_run (w : World) (cs : List Frame) : runN Tryz.prog 88 (lone (Frame.enter Tryz.prog 280 #[] .normal) cs w) =
  .next (lone { fn := 280, tmps := (Value.slice (some ⟨w.heap.size, 0, none⟩) 78 78 :: pictRows.map (fun r => Value.agg r.toArray) ++ [Value.slice (some ⟨w.heap.size, 0, none⟩) 78 78]).toArray, todo := [.code .ret], defers := [], mode := .returning, kind := .normal } cs
    (w.alloc (.cells pictRows.flatten.toArray 330))) := by kernel_rfl
theorem pict_any (w : World) : Calls Tryz.prog 280 #[] w (TabPost w 78 .i32 pict) :=
  (calls_of_runN (F := Tryz.f280) (pict_run w) Tryz.func280 (by kernel_rfl)).mono (tab_post pict_cells)
theorem pict_len : pict.length = 156 := by kernel_rfl

end Go.Proofs.YtjicdcmdgbcdcaaGreatDoor.PictTab

namespace Go.Proofs.YtjicdcmdgbcdcaaGreatDoor.PictTab
set_option linter.unusedSimpArgs false
set_option linter.unusedVariables false
open Go.RowKit Mem Tab

noncomputable def l1Rows : List (List Value) := rowsOf Tryz.f318
noncomputable def l1 : List Int := l1Rows.flatten.map numOf
end Go.Proofs.YtjicdcmdgbcdcaaGreatDoor.PictTab

namespace Go.Proofs.YtjicdcmdgbcdcaaGreatDoor.Pict
set_option linter.unusedSimpArgs false
set_option linter.unusedVariables false
open Go.RowKit Mem Tab

theorem ret_bool {a b : Bool} (h : a = b) : Ending.returned (.bool a) = .returned (.bool b) := by rw [h]

theorem clo_eg : ∀ args w, (callFunc 281 args).run Tryz.prog w = .ok (.enter 281 args) w := fun _ _ => by kernel_rfl

set_option maxHeartbeats 400000 in
theorem clo_any (bt br tb : Nat) (n i : Nat) (r y : Int) (w : World) (hi : (i : Int) < n) (hn : (n : Int) < 4611686018427387904)
    (ht : w.cell? ⟨bt, 0, none⟩ = some (.slice (some ⟨tb, 0, none⟩) n n)) (hr : w.cell? ⟨br, 0, none⟩ = some (.int .i32 r)) (hc : w.cell? ⟨tb, i * 2 + 1, none⟩ = some (.int .i32 y)) :
    Calls Tryz.prog 281 #[.int .i64 i, .pointer (some ⟨bt, 0, none⟩), .pointer (some ⟨br, 0, none⟩)] w fun e w' => e = .returned (.bool (decide (r ≤ y))) ∧ Below w.heap.size w w' := by
  go_enter Tryz.func281, Tryz.ntmps281
  go_wp2
  go_quiet (fail)
  go_wp2
  go_ret
  exact ⟨rfl, bdrew _ _⟩

noncomputable def rows : List (Int × Int × Int) := (TabLaw.pairs PictTab.pict).map fun p => (p.1, p.2, 1)
theorem rows_len : rows.length = 78 := by kernel_rfl
theorem rows_sorted : TabLaw.sorted3 rows = true := by kernel_rfl
/-- whether a number is a picture -/
noncomputable def isB (r : Int) : Bool := (TabLaw.pairs PictTab.pict).any (TabLaw.hasP r)

theorem row (i : Nat) (h : i < 78) : ∃ t, rows[i]? = some t ∧ PictTab.pict.getD (i * 2) 0 = t.1 ∧ PictTab.pict.getD (i * 2 + 1) 0 = t.2.1 ∧ t.2.2 = 1 := by
  have hl : i < (TabLaw.pairs PictTab.pict).length := by have := rows_len; unfold rows at this; rw [List.length_map] at this; omega
  obtain ⟨e1, e2⟩ := TabLaw.pairs_get PictTab.pict i _ (List.getElem?_eq_getElem hl)
  rw [Nat.mul_comm 2 i] at e1 e2
  exact ⟨_, by unfold rows; rw [List.getElem?_map, List.getElem?_eq_getElem hl]; rfl, e1, e2, rfl⟩

theorem isB_val (r : Int) : isB r = decide (TabLaw.val3 rows r = 1) := by
  unfold isB
  cases h : (TabLaw.pairs PictTab.pict).any (TabLaw.hasP r) with
  | true =>
    obtain ⟨p, hp, h2⟩ := List.any_eq_true.1 h
    have := TabLaw.val3_of (T := rows) rows_sorted (t := (p.1, p.2, 1)) (List.mem_map.2 ⟨p, hp, rfl⟩) (r := r) (by simpa [TabLaw.has, TabLaw.hasP] using h2)
    rw [this]; rfl
  | false =>
    have := TabLaw.val3_none (T := rows) (r := r) (fun t ht => by
      obtain ⟨p, hp, rfl⟩ := List.mem_map.1 ht
      have := List.any_eq_false.1 h p hp
      simpa [TabLaw.has, TabLaw.hasP] using this)
    rw [this]; rfl

theorem mono (r : Int) (a b : Nat) (hab : a ≤ b) (hb : b < 78) (h : r ≤ PictTab.pict.getD (a * 2 + 1) 0) : r ≤ PictTab.pict.getD (b * 2 + 1) 0 := by
  rcases Nat.lt_or_eq_of_le hab with hlt | rfl
  · obtain ⟨t, ht, _, t2, _⟩ := row a (by omega)
    obtain ⟨u, hu, _, u2, _⟩ := row b hb
    have h1 := TabLaw.sorted3_lt _ rows_sorted a b t u hlt ht hu
    have h2 := TabLaw.sorted3_le _ rows_sorted b u hu
    omega
  · exact h

theorem first {r : Int} {i : Nat} (hi : i ≤ 78) (h1 : ∀ t, t < i → decide (r ≤ PictTab.pict.getD (t * 2 + 1) 0) = false) (h2 : ∀ t, i ≤ t → t < 78 → decide (r ≤ PictTab.pict.getD (t * 2 + 1) 0) = true) :
    isB r = if i < 78 then decide (PictTab.pict.getD (i * 2) 0 ≤ r) else false := by
  rw [isB_val, TabLaw.val3_first rows_sorted (i := i)]
  · by_cases h : i < 78
    · obtain ⟨t, ht, e1, _, e3⟩ := row i h
      rw [ht, if_pos h, e1]
      simp only [e3]
      by_cases h5 : t.1 ≤ r <;> simp [h5]
    · rw [if_neg h, List.getElem?_eq_none (by rw [rows_len]; omega)]
      rfl
  · intro t u ht hu
    obtain ⟨u', hu', _, e2, _⟩ := row t (by omega)
    rw [hu] at hu'; cases hu'
    have := h1 t ht
    simp only [decide_eq_false_iff_not] at this
    omega
  · intro t u ht hu
    have hl : t < 78 := by rw [← rows_len]; exact (List.getElem?_eq_some_iff.1 hu).1
    obtain ⟨u', hu', _, e2, _⟩ := row t hl
    rw [hu] at hu'; cases hu'
    have := h2 t ht hl
    simp only [decide_eq_true_eq] at this
    omega

set_option maxHeartbeats 400000 in
theorem is_any (r : Int) (hr1 : -2147483648 ≤ r) (hr2 : r ≤ 2147483647) (w : World) :
    Calls Tryz.prog 228 #[.int .i32 r] w fun e w' => e = .returned (.bool (isB r)) ∧ Below w.heap.size w w' := by
  go_enter Tryz.func228, Tryz.ntmps228
  go_wp2_with fail
  refine (PictTab.pict_any _).mono ?_
  rintro e w1 ⟨rfl, hb, hk, hz⟩
  have hbx : (w.alloc (.cells #[.int .i32 r] 21)).cell? ⟨w.heap.size, 0, none⟩ = some (.int .i32 r) := by simp
  have hbw : Below w.heap.size w w1 := ((Below.refl _ _).alloc (Nat.le_refl _) _).trans (hb.mono (by simp))
  have hr0 := (hb.cell (p := ⟨w.heap.size, 0, none⟩) (by simp)).trans hbx
  have hs0 : (w.alloc (.cells #[.int .i32 r] 21)).heap.size = w.heap.size + 1 := by simp
  rw [hs0] at hz hk ⊢
  clear hbx hb hs0
  go_wp2_with fail
  have f1 : (w1.alloc (.cells #[.slice (some ⟨w.heap.size + 1, 0, none⟩) 78 78] 328)).cell? ⟨w.heap.size + 1 + 1, 0, none⟩ = some (.slice (some ⟨w.heap.size + 1, 0, none⟩) 78 78) := by rw [← hz]; simp
  have hb1 : Below w1.heap.size w1 (w1.alloc (.cells #[.slice (some ⟨w.heap.size + 1, 0, none⟩) 78 78] 328)) := (Below.refl _ _).alloc (Nat.le_refl _) _
  have f5 : (w1.alloc (.cells #[.slice (some ⟨w.heap.size + 1, 0, none⟩) 78 78] 328)).heap.size = w.heap.size + 1 + 1 + 1 := by simp [hz]
  generalize w1.alloc (.cells #[.slice (some ⟨w.heap.size + 1, 0, none⟩) 78 78] 328) = W2 at *
  have f2 := (hb1.cell (p := ⟨w.heap.size, 0, none⟩) (by simp [hz]; omega)).trans hr0
  have f3 := hk.below hb1 (by omega)
  have f4 := hbw.trans (hb1.mono (by omega))
  clear hb1 hr0 hbw hk hz
  refine (Search.search_any _ _ 78 (fun t => decide (r ≤ PictTab.pict.getD (t * 2 + 1) 0)) W2 clo_eg (by omega) ?_ ?_).mono ?_
  · intro wr i hi hbr
    refine (clo_any _ _ _ 78 i r _ wr (by omega) (by omega) ((hbr.cell (p := ⟨w.heap.size + 1 + 1, 0, none⟩) (by simp [f5])).trans f1) ((hbr.cell (p := ⟨w.heap.size, 0, none⟩) (by simp [f5]; omega)).trans f2) ?_)
    exact (hbr.cell (p := ⟨w.heap.size + 1, _, none⟩) (by simp [f5])).trans (f3.cell _ _ (getnum _ (by rw [PictTab.pict_len]; omega)))
  · intro a b hab hb h
    exact decide_eq_true (mono r a b hab hb (of_decide_eq_true h))
  rintro e w3 ⟨i, hfirst, rfl, hb3⟩
  have g1 := (hb3.cell (p := ⟨w.heap.size + 1 + 1, 0, none⟩) (by simp [f5])).trans f1
  have g2 := (hb3.cell (p := ⟨w.heap.size, 0, none⟩) (by simp [f5]; omega)).trans f2
  have g3 := f3.below hb3 (by omega)
  have g4 := f4.trans (hb3.mono (by omega))
  clear f1 f2 f3 f4 f5 hb3
  obtain ⟨hi, hf1, hf2⟩ := hfirst
  have HV := Lib.hid (first hi hf1 hf2)
  clear hf1 hf2
  by_cases hlt : i < 78
  · have hne : decide ((i : Int) < 78) = true := by simp; omega
    have hi' : (i : Int) < 78 := by omega
    have c0 := g3.cell (i * 2) _ (getnum _ (by rw [PictTab.pict_len]; omega))
    have HV := Lib.hid (HV.out.trans (if_pos hlt))
    clear g3
    generalize PictTab.pict.getD (i * 2) 0 = lo at *
    by_cases hle : lo ≤ r
    · have hd : decide (lo ≤ r) = true := by simp; omega
      go_wp2
      go_quiet (fail)
      go_wp2
      go_ret
      exact ⟨ret_bool (HV.out.trans hd).symm, g4.trans (bdrew _ _ |>.mono g4.size)⟩
    · have hd : decide (lo ≤ r) = false := by simp; omega
      go_wp2
      go_quiet (fail)
      go_wp2
      go_ret
      exact ⟨ret_bool (HV.out.trans hd).symm, g4.trans (bdrew _ _ |>.mono g4.size)⟩
  · obtain rfl : i = 78 := by omega
    go_wp2
    go_quiet (fail)
    go_wp2
    go_ret
    exact ⟨ret_bool (HV.out.trans (if_neg (by omega))).symm, g4.trans (bdrew _ _ |>.mono g4.size)⟩

theorem same : PictTab.l1 = PictTab.pict := by kernel_rfl
end Go.Proofs.YtjicdcmdgbcdcaaGreatDoor.Pict
end

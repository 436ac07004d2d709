/-
  slices.Insert at cells, ahead of the end.
  Cells of a call's own, known by their block; shift.tear.
  shift.Insert, shift.Delete.
-/
import Derived.Test.YtjicdcmdgbcdcaaGreatDoorCd19
import Derived.Test.YtjicdcmdgbcdcaaGreatDoorCd38
import Derived.Shelf.Spec.SlicesInsert
section
namespace Go.Proofs.YtjicdcmdgbcdcaaGreatDoor.Scr
set_option linter.unusedSimpArgs false
set_option linter.unusedVariables false
open Go Go.RowKit Mem Turn Ring

theorem ins_list {α : Type _} (C xs vs : List α) (a n : Nat) (ha : a ≤ n) (hn : n = xs.length) (hd : C.drop (a + vs.length) = xs.drop a ++ C.drop (n + vs.length)) (ht : C.take a = xs.take a) :
    (C.take a ++ vs ++ C.drop (a + vs.length)).take (n + vs.length) = xs.take a ++ vs ++ xs.drop a := by
  subst hn
  have e1 : (xs.take a).length = a := by rw [List.length_take]; omega
  have e2 : (xs.drop a).length = xs.length - a := List.length_drop
  rw [hd, ht, show xs.length + vs.length = (xs.take a ++ vs ++ xs.drop a).length from by simp only [List.length_append, e1, e2]; omega, ← List.append_assoc, List.take_left]

/-- the ways 'there is room' and 'there is none' -/
def InsRes (B N m : Nat) (xs : List Value) (w : World) (g : Nat) (e : Ending) (w' : World) : Prop :=
  ∃ g' c, e = .returned (.slice (some ⟨g', 0, none⟩) (N + m) c) ∧ (g' = g ∨ w.heap.size ≤ g') ∧ w'.ownsRow B 80 2 (.slice (some ⟨g', 0, none⟩) (N + m) c) (N + m) xs ∧ Turn (fun b => b = g) w w'

set_option maxRecDepth 100000 in
set_option maxHeartbeats 16000000 in
theorem insert_room (B B2 g cap i N vb m vc : Nat) (rs vs : List (Int × Value)) (w : World) (h : w.ownsRow B 80 2 (.slice (some ⟨g, 0, none⟩) N cap) N (flatC rs)) (hN : N = rs.length) (h1 : ∀ r ∈ rs, r.2.oneCell' = true)
    (hv : w.ownsRow B2 80 2 (.slice (some ⟨vb, 0, none⟩) m vc) m (flatC vs)) (hm : m = vs.length) (h2 : ∀ r ∈ vs, r.2.oneCell' = true) (hne : vb ≠ g) (hi : i < N) (hm0 : 0 < m) (hroom : N + m ≤ cap)  :
    Calls Tryz.prog 197 #[.slice (some ⟨g, 0, none⟩) N cap, .int .i64 (i : Int), .slice (some ⟨vb, 0, none⟩) m vc] w
      (InsRes B N m (flatC (rs.take i ++ vs ++ rs.drop i)) w g) := by
  have hmx : Tryz.prog.follows .mixedOrders = true := by kernel_rfl
  obtain ⟨i0, hi0, hz0, hz1, hz2⟩ := info_parts info_cell
  have hsz : (Tryz.prog.info? 80).map (·.size) = some 2 := by rw [hi0]; simp [hz1]
  obtain ⟨cur, hg, hnc, hcm, hcs, hct, hB⟩ := own_block h
  have hcap : cap ≤ 9223372036854775807 := by unfold maxLen at hcm; omega
  obtain ⟨cuv, hgv, hnv, hvm, hvs, hvt, hBv⟩ := own_block hv
  obtain ⟨xs, hxs⟩ : ∃ xs, xs = flatC rs := ⟨_, rfl⟩
  obtain ⟨us, hus⟩ : ∃ us, us = flatC vs := ⟨_, rfl⟩
  have hxl : xs.length = N * 2 := by rw [hxs, flatC_len, ← hN]
  have hul : us.length = m * 2 := by rw [hus, flatC_len, ← hm]
  have hdl : (xs.drop (i * 2)).length = (N - i) * 2 := by rw [List.length_drop, hxl]; omega
  have hx1 : ∀ u ∈ xs, u.oneCell' = true := by rw [hxs]; exact flatC_one _ h1
  have hu1 : ∀ u ∈ us, u.oneCell' = true := by rw [hus]; exact flatC_one _ h2
  have hxc : ∀ t u, (xs.drop (i * 2))[t]? = some u → w.cell? ⟨g, i * 2 + t, none⟩ = some u := by
    intro t u hu
    rw [hxs, List.getElem?_drop, ← hct] at hu
    have hlt : i * 2 + t < N * 2 := by
      rw [List.getElem?_take] at hu
      split at hu
      · assumption
      · cases hu
    rw [List.getElem?_take, if_pos hlt] at hu
    simp only [World.cell?, hg]
    simpa using hu
  have huc : ∀ t u, us[t]? = some u → w.cell? ⟨vb, 0 + t, none⟩ = some u := by
    intro t u hu
    rw [hus, ← hvt] at hu
    have hlt : t < m * 2 := by
      rw [List.getElem?_take] at hu
      split at hu
      · assumption
      · cases hu
    rw [List.getElem?_take, if_pos hlt] at hu
    simp only [World.cell?, hgv]
    simpa using hu
  obtain ⟨S, hS⟩ : ∃ S, S = N + m := ⟨_, rfl⟩
  obtain ⟨T, hT⟩ : ∃ T, T = i + m := ⟨_, rfl⟩
  obtain ⟨C1, hC1⟩ : ∃ C1 : Array Value, C1 = (cur.toList.take (T * 2) ++ xs.drop (i * 2) ++ cur.toList.drop (T * 2 + (xs.drop (i * 2)).length)).toArray := ⟨_, rfl⟩
  have hC1s : C1.size = cap * 2 := by
    rw [hC1]
    simp only [List.size_toArray, List.length_append, List.length_take, List.length_drop, Array.length_toList, hcs, hxl]
    omega
  obtain ⟨C2, hC2⟩ : ∃ C2 : Array Value, C2 = (C1.toList.take (i * 2) ++ us ++ C1.toList.drop (i * 2 + us.length)).toArray := ⟨_, rfl⟩
  have hcp1 : ∀ ty dc sc, (Builtin.copy_ #[43, 43] ty #[.slice (some ⟨g, T * 2, none⟩) (S - T) dc, .slice (some ⟨g, i * 2, none⟩) (S - i) sc]).run Tryz.prog w.drew = .ok (goInt ((N - i : Nat) : Int)) (w.drew.setRow g C1) := fun ty dc sc => by
    rw [hC1]
    exact run_copy_rowk w.drew _ _ ty 80 g (T * 2) (S - T) dc ⟨g, i * 2, none⟩ (S - i) sc cur _ (xs.drop (i * 2)) (N - i) 2 Tryz.underlying43 hsz (show w.drew.heap[g]? = _ from hg) (by simp only [Nat.min_def]; split <;> omega) hdl
      (fun t u hu => by rw [Gra.add_none]; exact hxc t u hu) (by rw [hcs, hdl]; omega) (fun u hu => hx1 u (List.mem_of_mem_drop hu))
  have hg2 : (w.drew.setRow g C1).heap[g]? = some (.cells C1 80 (0, 0)) := setRow_heap w.drew g _ C1 _ _ hg
  have hcp2 : ∀ (W : World), W = w.drew.setRow g C1 → ∀ ty dc, (Builtin.copy_ #[43, 43] ty #[.slice (some ⟨g, i * 2, none⟩) (S - i) dc, .slice (some ⟨vb, 0, none⟩) m vc]).run Tryz.prog W = .ok (goInt ((m : Nat) : Int)) (W.setRow g C2) := fun W hW ty dc => by
    subst hW
    rw [hC2]
    exact run_copy_rowk _ _ _ ty 80 g (i * 2) (S - i) dc ⟨vb, 0, none⟩ m vc C1 _ us m 2 Tryz.underlying43 hsz hg2 (by simp only [Nat.min_def]; split <;> omega) hul
      (fun t u hu => by
        rw [Gra.add_none]
        exact (Turn.cell (turn_setRow w.drew g C1) (show w.drew.cell? _ = _ from huc t u hu) (fun e => hne e))) (by rw [hC1s, hul]; omega) hu1
  have hvlt : vb < w.heap.size := (Array.getElem?_eq_some_iff.1 hgv).1
  have hov : ∀ lb cb, (callFunc 247 #[.slice (some ⟨vb, 0, none⟩) m vc, .slice (some ⟨g, T * 2, none⟩) lb cb]).run Tryz.prog w = .ok (.value (.bool false)) w := fun lb cb => by
    rw [run_callFunc_extern Tryz.func247 (by kernel_rfl) (by kernel_rfl) (by kernel_rfl) (e := Extern.SlicesOverlaps.overlaps #[43, 43] #[4]) (by kernel_rfl),
      Lib.run_overlaps_apart w 43 4 80 Tryz.underlying43 2 (fun w => by simp [sizeOf, typeInfo, hi0, hz1]) ⟨vb, 0, none⟩ ⟨g, T * 2, none⟩ m vc lb cb hne 80 80 cuv.size cur.size (by simp [World.shape?, hgv]) (by simp [World.shape?, hg]) (by rw [hcs]; omega) (by simp [World.frozen?, hgv]) (by simp [World.frozen?, hgv])]
    rfl
  have HF : Hid (((w.drew.setRow g C1).setRow g C2).ownsRow B 80 2 (.slice (some ⟨g, 0, none⟩) S cap) S (flatC (rs.take i ++ vs ++ rs.drop i)) ∧ Turn (fun b => b = g) w ((w.drew.setRow g C1).setRow g C2)) := Lib.hid (by
    refine ⟨block_own (setRow_heap _ g _ C2 _ _ hg2) (by omega) hcm ?_ ?_ hB, (Turn.drew _ _).trans ((turn_setRow _ _ _).trans (turn_setRow _ _ _))⟩
    · rw [hC2]
      simp only [List.size_toArray, List.length_append, List.length_take, List.length_drop, Array.length_toList, hC1s, hul]
      omega
    · rw [hC2]
      simp only
      rw [flatC_app, flatC_app, flatC_take, flatC_drop, ← hxs, ← hus, show S * 2 = N * 2 + us.length from by rw [hul, hS]; omega]
      have q1 : (cur.toList.take (T * 2)).length = T * 2 := by rw [List.length_take, Array.length_toList, hcs]; omega
      refine ins_list _ _ _ _ _ (by omega) (by rw [hxl]) ?_ ?_
      · rw [hC1]
        simp only
        rw [show i * 2 + us.length = (cur.toList.take (T * 2)).length from by rw [q1, hul, hT]; omega, List.append_assoc, List.drop_left]
        congr 1
        conv => rhs; rw [show N * 2 + us.length = (cur.toList.take (T * 2)).length + (xs.drop (i * 2)).length from by rw [q1, hul, hT, hdl]; omega, ← List.drop_drop, List.drop_left, List.drop_left]
      · rw [hC1]
        simp only
        rw [List.append_assoc, List.take_append_of_le_length (by rw [q1]; omega), List.take_take, Nat.min_eq_left (by omega), hxs, ← hct, List.take_take, Nat.min_eq_left (by omega)])
  have HC1 := Lib.hid hcp1
  have HC2 := Lib.hid hcp2
  have HO := Lib.hid hov
  have hwS : IntKind.i64.wrap ((N : Int) + (m : Int)) = (S : Int) := by rw [IntKind.wrap_i64]; omega
  have hwT : IntKind.i64.wrap ((i : Int) + (m : Int)) = (T : Int) := by rw [IntKind.wrap_i64]; omega
  have hn1 : ¬ ((m : Int) = 0) := by omega
  have hn2 : ¬ ((i : Int) = (N : Int)) := by omega
  have hn3 : ¬ ((cap : Int) < (S : Int)) := by omega
  have hn4 : S ≤ cap := by omega
  have hn5 : T ≤ S := by omega
  have hn6 : i ≤ S := by omega
  have hn7 : ¬ (cap = T) := by omega
  have hn8 : ¬ (cap = i) := by omega
  have hn9 : (T : Int) ≤ (S : Int) := by omega
  have hn10 : (i : Int) ≤ (S : Int) := by omega
  have hn11 : (S : Int) ≤ (cap : Int) := by omega
  have hn12 : (i : Int) ≤ (N : Int) := by omega
  have hn13 : (T : Int) ≤ (N : Int) ∨ (N : Int) < (T : Int) := by omega
  unfold InsRes
  replace hS := Lib.hid hS
  rw [← hS.out]
  replace hN := Lib.hid hN
  replace hm := Lib.hid hm
  replace hT := Lib.hid hT
  clear h hv h1 h2 hg hgv hcs hct hvs hvt hxs hus hxl hul hdl hx1 hu1 hxc huc hC1 hC1s hC2 hcp1 hg2 hcp2 hov hi0 hz0 hz1 hz2 hsz hnv hvm
  go_enter Tryz.func197, Tryz.ntmps197
  go_wp2_with (simp only [HO.out])
  go_region_law_o (refine step_copy_runI rfl _ _ 43 43 rfl (.slice (some ⟨g, T * 2, none⟩) (S - T) (cap - T)) (.slice (some ⟨g, i * 2, none⟩) (S - i) (cap - i)) (by simp [Act.eval, Act.put]) (by simp [Act.eval, Act.put]) (HC1.out _ _ _) ?_)
  go_wp2_with (refine wpList_copy_run2 _ rfl _ _ 43 43 rfl (.slice (some ⟨g, i * 2, none⟩) (S - i) (cap - i)) (.slice (some ⟨vb, 0, none⟩) m vc) rfl rfl (HC2.out _ rfl _ _) ?_)
  go_ret
  exact ⟨g, cap, rfl, .inl rfl, HF.out.1, HF.out.2⟩
set_option maxRecDepth 100000 in
set_option maxHeartbeats 16000000 in
theorem insert_grow (B B2 g cap i N vb m vc : Nat) (rs vs : List (Int × Value)) (w : World) (h : w.ownsRow B 80 2 (.slice (some ⟨g, 0, none⟩) N cap) N (flatC rs)) (hN : N = rs.length) (h1 : ∀ r ∈ rs, r.2.oneCell' = true)
    (hv : w.ownsRow B2 80 2 (.slice (some ⟨vb, 0, none⟩) m vc) m (flatC vs)) (hm : m = vs.length) (h2 : ∀ r ∈ vs, r.2.oneCell' = true) (hne : vb ≠ g) (hi : i < N) (hm0 : 0 < m) (hroom : cap < N + m) (hN1 : N ≤ 1000000) (hm1 : m ≤ 1000000)  :
    Calls Tryz.prog 197 #[.slice (some ⟨g, 0, none⟩) N cap, .int .i64 (i : Int), .slice (some ⟨vb, 0, none⟩) m vc] w
      (InsRes B N m (flatC (rs.take i ++ vs ++ rs.drop i)) w g) := by
  have hmx : Tryz.prog.follows .mixedOrders = true := by kernel_rfl
  obtain ⟨i0, hi0, hz0, hz1, hz2⟩ := info_parts info_cell
  have hsz : (Tryz.prog.info? 80).map (·.size) = some 2 := by rw [hi0]; simp [hz1]
  obtain ⟨cur, hg, hnc, hcm, hcs, hct, hB⟩ := own_block h
  have hcap : cap ≤ 9223372036854775807 := by unfold maxLen at hcm; omega
  obtain ⟨cuv, hgv, hnv, hvm, hvs, hvt, hBv⟩ := own_block hv
  obtain ⟨xs, hxs⟩ : ∃ xs, xs = flatC rs := ⟨_, rfl⟩
  obtain ⟨us, hus⟩ : ∃ us, us = flatC vs := ⟨_, rfl⟩
  have hxl : xs.length = N * 2 := by rw [hxs, flatC_len, ← hN]
  have hul : us.length = m * 2 := by rw [hus, flatC_len, ← hm]
  have hdl : (xs.drop (i * 2)).length = (N - i) * 2 := by rw [List.length_drop, hxl]; omega
  have hx1 : ∀ u ∈ xs, u.oneCell' = true := by rw [hxs]; exact flatC_one _ h1
  have hu1 : ∀ u ∈ us, u.oneCell' = true := by rw [hus]; exact flatC_one _ h2
  have hxc : ∀ t u, (xs.drop (i * 2))[t]? = some u → w.cell? ⟨g, i * 2 + t, none⟩ = some u := by
    intro t u hu
    rw [hxs, List.getElem?_drop, ← hct] at hu
    have hlt : i * 2 + t < N * 2 := by
      rw [List.getElem?_take] at hu
      split at hu
      · assumption
      · cases hu
    rw [List.getElem?_take, if_pos hlt] at hu
    simp only [World.cell?, hg]
    simpa using hu
  have huc : ∀ t u, us[t]? = some u → w.cell? ⟨vb, 0 + t, none⟩ = some u := by
    intro t u hu
    rw [hus, ← hvt] at hu
    have hlt : t < m * 2 := by
      rw [List.getElem?_take] at hu
      split at hu
      · assumption
      · cases hu
    rw [List.getElem?_take, if_pos hlt] at hu
    simp only [World.cell?, hgv]
    simpa using hu
  obtain ⟨S, hS⟩ : ∃ S, S = N + m := ⟨_, rfl⟩
  obtain ⟨T, hT⟩ : ∃ T, T = i + m := ⟨_, rfl⟩
  have hSb : S ≤ 2000000 := by omega
  have hik : i + (S - i) = S := by omega
  have hold : (Builtin.firstCells i0.size i (.slice (some ⟨g, 0, none⟩) i cap)).run Tryz.prog w.drew = .ok (xs.take (i * 2)).toArray w.drew := by
    rw [hz1]
    refine run_firstCells_some w.drew 2 i ⟨g, 0, none⟩ i cap (xs.take (i * 2)) (by rw [List.length_take, hxl]; omega) (fun j v hj => ?_)
    rw [Gra.add_none, Nat.zero_add]
    rw [hxs, List.getElem?_take] at hj
    split at hj
    · rw [← hct, List.getElem?_take, if_pos (by omega)] at hj
      simp only [World.cell?, World.drew, hg]
      simpa using hj
    · cases hj
  obtain ⟨G, hG⟩ : ∃ G, G = grownCap w S cap 80 := ⟨_, rfl⟩
  have hGS : S ≤ G := by rw [hG]; exact grownCap_ge w _ _ _
  have hGm : G ≤ maxLen := by rw [hG]; exact grownCap_le_maxLen w S cap _ (by unfold maxLen; omega)
  obtain ⟨ROW, hROW⟩ : ∃ ROW : Array Value, ROW = (xs.take (i * 2)).toArray ++ Builtin.zeroCells #[Value.int .i64 0, .slice none 0 0] (S - i) ++ Builtin.zeroCells #[Value.int .i64 0, .slice none 0 0] (G - S) := ⟨_, rfl⟩
  have hrz : ∀ ty, (Builtin.append_ #[43, 3] ty #[.slice (some ⟨g, 0, none⟩) i cap, .int .i64 ((S : Int) - (i : Int))]).run Tryz.prog w =
      .ok (.slice (some ⟨w.heap.size, 0, none⟩) S G) (w.drew.alloc (.cells ROW 80)) := fun ty => by
    have h := Lib.run_append_grow_zeros w 43 3 ty 80 i0 _ .i64 .i64 Tryz.underlying43 Tryz.underlying3 hi0 hz0 (some ⟨g, 0, none⟩) i cap _ hold (S - i) (by omega) (by rw [hz1]; omega) (by omega) (by omega) (by rw [hz2]; omega) (by rw [hz2, hik]; exact growslice_fits (by omega) (by omega))
    rw [hik, ← hG] at h
    rw [show (S : Int) - (i : Int) = ((S - i : Nat) : Int) from by omega, hROW]
    exact h
  have hRl : ROW.toList = xs.take (i * 2) ++ flatC (List.replicate (S - i) zCell) ++ flatC (List.replicate (G - S) zCell) := by
    rw [hROW, Array.toList_append, Array.toList_append, zeros_flat, zeros_flat]
  have q0 : (xs.take (i * 2)).length = i * 2 := by rw [List.length_take, hxl]; omega
  have hRs : ROW.size = G * 2 := by
    rw [← Array.length_toList, hRl, List.length_append, List.length_append, flatC_len, flatC_len, List.length_replicate, List.length_replicate, q0]
    omega
  obtain ⟨C1, hC1⟩ : ∃ C1 : Array Value, C1 = (ROW.toList.take (i * 2) ++ us ++ ROW.toList.drop (i * 2 + us.length)).toArray := ⟨_, rfl⟩
  have hC1s : C1.size = G * 2 := by
    rw [hC1]
    simp only [List.size_toArray, List.length_append, List.length_take, List.length_drop, Array.length_toList, hRs, hul]
    omega
  obtain ⟨C2, hC2⟩ : ∃ C2 : Array Value, C2 = (C1.toList.take (T * 2) ++ xs.drop (i * 2) ++ C1.toList.drop (T * 2 + (xs.drop (i * 2)).length)).toArray := ⟨_, rfl⟩
  have hC2s : C2.size = G * 2 := by
    rw [hC2]
    simp only [List.size_toArray, List.length_append, List.length_take, List.length_drop, Array.length_toList, hC1s, hxl]
    omega
  obtain ⟨W1, hW1⟩ : ∃ W1, W1 = w.drew.alloc (.cells ROW 80) := ⟨_, rfl⟩
  rw [← hW1] at hrz
  have hT1 : Turn (fun b => b = g) w W1 := by rw [hW1]; exact (Turn.drew _ _).trans (Turn.alloc _ _ _)
  have hg1 : W1.heap[w.heap.size]? = some (.cells ROW 80 (0, 0)) := by rw [hW1]; exact heap_alloc_new w.drew _
  have hglt : g < w.heap.size := (Array.getElem?_eq_some_iff.1 hg).1
  have hvlt : vb < w.heap.size := (Array.getElem?_eq_some_iff.1 hgv).1
  have hk1 : ∀ t u, w.cell? ⟨g, t, none⟩ = some u → W1.cell? ⟨g, t, none⟩ = some u := fun t u hu => by
    rw [hW1]
    exact Turn.cell (T := fun _ => False) (Turn.alloc _ _ _) (show w.drew.cell? _ = _ from hu) (fun e => e)
  have hk2 : ∀ t u, w.cell? ⟨vb, t, none⟩ = some u → W1.cell? ⟨vb, t, none⟩ = some u := fun t u hu => by
    rw [hW1]
    exact Turn.cell (T := fun _ => False) (Turn.alloc _ _ _) (show w.drew.cell? _ = _ from hu) (fun e => e)
  have hcp1 : ∀ ty dc, (Builtin.copy_ #[43, 43] ty #[.slice (some ⟨w.heap.size, i * 2, none⟩) (S - i) dc, .slice (some ⟨vb, 0, none⟩) m vc]).run Tryz.prog W1 = .ok (goInt ((m : Nat) : Int)) (W1.setRow w.heap.size C1) := fun ty dc => by
    rw [hC1]
    exact run_copy_rowk _ _ _ ty 80 w.heap.size (i * 2) (S - i) dc ⟨vb, 0, none⟩ m vc ROW _ us m 2 Tryz.underlying43 hsz hg1 (by simp only [Nat.min_def]; split <;> omega) hul
      (fun t u hu => by rw [Gra.add_none]; exact hk2 _ _ (huc t u hu)) (by rw [hRs, hul]; omega) hu1
  have hg2 : ((W1.setRow w.heap.size C1).drew).heap[w.heap.size]? = some (.cells C1 80 (0, 0)) := setRow_heap W1 _ _ C1 _ _ hg1
  have hcp2 : ∀ ty, (Builtin.copy_ #[43, 43] ty #[.slice (some ⟨w.heap.size, T * 2, none⟩) (S - T) (G - T), .slice (some ⟨g, i * 2, none⟩) (N - i) (cap - i)]).run Tryz.prog (W1.setRow w.heap.size C1).drew = .ok (goInt ((N - i : Nat) : Int)) ((W1.setRow w.heap.size C1).drew.setRow w.heap.size C2) := fun ty => by
    rw [hC2]
    exact run_copy_rowk _ _ _ ty 80 w.heap.size (T * 2) (S - T) (G - T) ⟨g, i * 2, none⟩ (N - i) (cap - i) C1 _ (xs.drop (i * 2)) (N - i) 2 Tryz.underlying43 hsz hg2 (by simp only [Nat.min_def]; split <;> omega) hdl
      (fun t u hu => by
        rw [Gra.add_none]
        exact Turn.cell (p := ⟨g, i * 2 + t, none⟩) ((turn_setRow W1 w.heap.size C1).trans (Turn.drew _ _)) (hk1 _ _ (hxc t u hu)) (fun e => by have e : g = w.heap.size := e; omega)) (by rw [hC1s, hdl]; omega) (fun u hu => hx1 u (List.mem_of_mem_drop hu))
  have HF : Hid (((W1.setRow w.heap.size C1).drew.setRow w.heap.size C2).ownsRow B 80 2 (.slice (some ⟨w.heap.size, 0, none⟩) S G) S (flatC (rs.take i ++ vs ++ rs.drop i)) ∧ Turn (fun b => b = g) w ((W1.setRow w.heap.size C1).drew.setRow w.heap.size C2)) := Lib.hid (by
    have hB2 : B ≤ w.heap.size := by omega
    have hT2 : Turn (fun b => b = g ∨ b = w.heap.size) w ((W1.setRow w.heap.size C1).drew.setRow w.heap.size C2) :=
      (hT1.mono fun k _ e => .inl e).trans (((turn_setRow W1 w.heap.size C1).trans ((Turn.drew _ _).trans (turn_setRow _ _ _))).mono fun k _ e => .inr e)
    refine ⟨block_own (setRow_heap _ _ _ C2 _ _ hg2) hGS hGm hC2s ?_ hB2, hT2.mono fun k hk e => e.resolve_right (by omega)⟩
    have q1 : (ROW.toList.take (i * 2) ++ us).length = T * 2 := by rw [List.length_append, List.length_take, Array.length_toList, hRs, hul]; omega
    have q2 : C1.toList.take (T * 2) = xs.take (i * 2) ++ us := by
      rw [hC1]
      simp only
      rw [← q1, List.take_left, hRl, List.append_assoc, List.take_left' q0]
    have q3 : (xs.take (i * 2) ++ us ++ xs.drop (i * 2)).length = S * 2 := by rw [List.length_append, List.length_append, q0, hul, hdl]; omega
    rw [hC2]
    simp only
    rw [q2, flatC_app, flatC_app, flatC_take, flatC_drop, ← hxs, ← hus, ← q3, List.take_left])
  have HC0 := Lib.hid hrz
  have HC1 := Lib.hid hcp1
  have HC2 := Lib.hid hcp2
  have hwS : IntKind.i64.wrap ((N : Int) + (m : Int)) = (S : Int) := by rw [IntKind.wrap_i64]; omega
  have hwT : IntKind.i64.wrap ((i : Int) + (m : Int)) = (T : Int) := by rw [IntKind.wrap_i64]; omega
  have hn1 : ¬ ((m : Int) = 0) := by omega
  have hn2 : ¬ ((i : Int) = (N : Int)) := by omega
  have hn3 : (cap : Int) < (S : Int) := by omega
  have hn14 : ¬ (G = T) := by omega
  have hn15 : ¬ (G = i) := by omega
  have hn16 : i ≤ cap := by omega
  have hn17 : T ≤ G := by omega
  have hn18 : i ≤ G := by omega
  have hwI : IntKind.i64.wrap ((S : Int) - (i : Int)) = (S : Int) - (i : Int) := by rw [IntKind.wrap_i64]; omega
  have hn5 : T ≤ S := by omega
  have hn6 : i ≤ S := by omega
  have hn8 : ¬ (cap = i) := by omega
  have hn9 : (T : Int) ≤ (S : Int) := by omega
  have hn10 : (i : Int) ≤ (S : Int) := by omega
  have hn12 : (i : Int) ≤ (N : Int) := by omega
  have hn13 : (T : Int) ≤ (N : Int) ∨ (N : Int) < (T : Int) := by omega
  unfold InsRes
  replace hS := Lib.hid hS
  rw [← hS.out]
  replace hN := Lib.hid hN
  replace hm := Lib.hid hm
  replace hT := Lib.hid hT
  replace hW1 := Lib.hid hW1
  clear h hv h1 h2 hg hgv hcs hct hvs hvt hxs hus hxl hul hdl hx1 hu1 hxc huc hC1 hC1s hC2 hC2s hcp1 hg2 hcp2 hi0 hz0 hz1 hz2 hsz hnv hvm hold hROW hRl q0 hRs hT1 hg1 hk1 hk2 hrz hG
  go_enter Tryz.func197, Tryz.ntmps197
  go_wp2_with (first
    | (at_builtin; refine Lib.wpList_append_run _ rfl _ _ _ _ rfl (.slice (some ⟨g, 0, none⟩) i cap) (.int .i64 ((S : Int) - (i : Int))) rfl rfl _ _ (HC0.out _) ?_)
    | (refine wpList_copy_run2 _ rfl _ _ 43 43 rfl (.slice (some ⟨w.heap.size, i * 2, none⟩) (S - i) (G - i)) (.slice (some ⟨vb, 0, none⟩) m vc) rfl rfl (HC1.out _ _) ?_))
  go_region_law_o (refine step_copy_runI rfl _ _ 43 43 rfl (.slice (some ⟨w.heap.size, T * 2, none⟩) (S - T) (G - T)) (.slice (some ⟨g, i * 2, none⟩) (N - i) (cap - i)) (by simp [Act.eval, Act.put]) (by simp [Act.eval, Act.put]) (HC2.out _) ?_)
  go_wp2
  go_ret
  exact ⟨w.heap.size, G, rfl, .inr (Nat.le_refl _), HF.out.1, HF.out.2⟩

theorem insert_any (B B2 g cap i N vb m vc : Nat) (rs vs : List (Int × Value)) (w : World) (h : w.ownsRow B 80 2 (.slice (some ⟨g, 0, none⟩) N cap) N (flatC rs)) (hN : N = rs.length) (h1 : ∀ r ∈ rs, r.2.oneCell' = true)
    (hv : w.ownsRow B2 80 2 (.slice (some ⟨vb, 0, none⟩) m vc) m (flatC vs)) (hm : m = vs.length) (h2 : ∀ r ∈ vs, r.2.oneCell' = true) (hne : vb ≠ g) (hi : i < N) (hm0 : 0 < m)  (hN1 : N ≤ 1000000) (hm1 : m ≤ 1000000) :
    Calls Tryz.prog 197 #[.slice (some ⟨g, 0, none⟩) N cap, .int .i64 (i : Int), .slice (some ⟨vb, 0, none⟩) m vc] w
      (InsRes B N m (flatC (rs.take i ++ vs ++ rs.drop i)) w g) := by
  by_cases hr : N + m ≤ cap
  · exact insert_room B B2 g cap i N vb m vc rs vs w h hN h1 hv hm h2 hne hi hm0 hr
  · exact insert_grow B B2 g cap i N vb m vc rs vs w h hN h1 hv hm h2 hne hi hm0 (by omega) hN1 hm1
end Go.Proofs.YtjicdcmdgbcdcaaGreatDoor.Scr
end
section
namespace Go.Proofs.YtjicdcmdgbcdcaaGreatDoor.Scr
set_option linter.unusedSimpArgs false
set_option linter.unusedVariables false
open Go Go.RowKit Mem Turn Ring

/-- the cells cs of the call's own, in the block g -/
def CO (w : World) (B g n c : Nat) (cs : List CellC) : Prop := n = cs.length ∧ ∃ rs, w.ownsRow B 80 2 (.slice (some ⟨g, 0, none⟩) n c) n (flatC rs) ∧ Txts w rs cs
theorem CO.of_own {w : World} {B : Nat} {v : Value} {cs : List CellC} (h : OwnCells B w v cs) (h0 : 1 ≤ cs.length) : ∃ g c, v = .slice (some ⟨g, 0, none⟩) cs.length c ∧ CO w B g cs.length c cs := by
  obtain ⟨rs, h1, h2⟩ := h
  obtain ⟨a, c, rfl, h3, h4⟩ := own_form h1
  obtain ⟨g, rfl, _⟩ := h4.resolve_left (by omega)
  exact ⟨g, c, rfl, rfl, rs, h1, h2⟩
theorem CO.own {w : World} {B g n c : Nat} {cs : List CellC} (h : CO w B g n c cs) : OwnCells B w (.slice (some ⟨g, 0, none⟩) n c) cs := by
  obtain ⟨rfl, rs, h1, h2⟩ := h
  exact ⟨rs, h1, h2⟩
theorem CO.typ {w : World} {B g n c : Nat} {cs : List CellC} (h : CO w B g n c cs) : Typ w 80 g := by
  obtain ⟨rfl, rs, h1, h2⟩ := h
  exact owns_typ h1 rfl
theorem CO.lo {w : World} {B g n c : Nat} {cs : List CellC} (h : CO w B g n c cs) : B ≤ g ∧ n ≤ c ∧ c ≤ 9223372036854775807 := by
  obtain ⟨rfl, rs, h1, h2⟩ := h
  obtain ⟨cur, _, h3, h4, _, _, h5⟩ := own_block h1
  exact ⟨h5, h3, by unfold maxLen at h4; omega⟩
theorem CO.turn {w w' : World} {T : Nat → Prop} {B g n c : Nat} {cs : List CellC} (h : CO w B g n c cs) (ht : Turn T w w') (hT : Free T w 21) (hg : ¬ T g) : CO w' B g n c cs := by
  obtain ⟨rfl, rs, h1, h2⟩ := h
  exact ⟨rfl, rs, ht.kept h1 (fun j e => by injection e with e; subst e; exact hg), h2.turn ht hT⟩
theorem CO.free {w : World} {B g n c : Nat} {cs : List CellC} (h : CO w B g n c cs) : Free (fun b => b = g) w 21 := fun b e _ => by subst e; exact h.typ.not (by decide)
theorem Txts.one {w : World} {rs : List (Int × Value)} {cs : List CellC} (h : Txts w rs cs) : ∀ r ∈ rs, r.2.oneCell' = true := by
  intro r hr
  obtain ⟨j, hj, rfl⟩ := List.getElem_of_mem hr
  obtain ⟨_, h2⟩ := h.2 j _ (cs[j]'(by rw [← h.1]; exact hj)) (List.getElem?_eq_getElem hj) (List.getElem?_eq_getElem _)
  obtain ⟨a, c, e, _⟩ := h2
  rw [e]
  rfl
theorem Txts.app {w : World} {rs vs : List (Int × Value)} {cs ds : List CellC} (h : Txts w rs cs) (k : Txts w vs ds) : Txts w (rs ++ vs) (cs ++ ds) := by
  refine ⟨by rw [List.length_append, List.length_append, h.1, k.1], fun j r x hr hx => ?_⟩
  rcases Nat.lt_or_ge j rs.length with hj | hj
  · rw [List.getElem?_append_left hj] at hr
    rw [List.getElem?_append_left (by rw [← h.1]; exact hj)] at hx
    exact h.2 j r x hr hx
  · rw [List.getElem?_append_right hj] at hr
    rw [List.getElem?_append_right (by rw [← h.1]; exact hj), ← h.1] at hx
    exact k.2 _ r x hr hx
theorem Txts.take {w : World} {rs : List (Int × Value)} {cs : List CellC} (h : Txts w rs cs) (n : Nat) : Txts w (rs.take n) (cs.take n) := by
  refine ⟨by rw [List.length_take, List.length_take, h.1], fun j r x hr hx => ?_⟩
  rw [List.getElem?_take] at hr hx
  split at hr
  · rename_i hj
    rw [if_pos hj] at hx
    exact h.2 j r x hr hx
  · cases hr
theorem Txts.drop {w : World} {rs : List (Int × Value)} {cs : List CellC} (h : Txts w rs cs) (n : Nat) : Txts w (rs.drop n) (cs.drop n) := by
  refine ⟨by rw [List.length_drop, List.length_drop, h.1], fun j r x hr hx => ?_⟩
  rw [List.getElem?_drop] at hr hx
  exact h.2 _ r x hr hx
theorem CO.take {w : World} {B g n c : Nat} {cs : List CellC} (h : CO w B g n c cs) {m : Nat} (hm : m ≤ n) : CO w B g m c (cs.take m) := by
  obtain ⟨rfl, rs, h1, h2⟩ := h
  obtain ⟨cur, hg, h3, h4, h5, h6, h7⟩ := own_block h1
  refine ⟨by rw [List.length_take]; omega, rs.take m, block_own hg (by omega) h4 h5 ?_ h7, h2.take m⟩
  rw [flatC_take, ← h6, List.take_take, Nat.min_eq_left (by omega)]
theorem CO.cell {w : World} {B g n c i : Nat} {cs : List CellC} (h : CO w B g n c cs) (hi : i < n) : ∃ v, w.cell? ⟨g, i * 2, none⟩ = some (.int .i64 (kindAt cs i)) ∧ w.cell? ⟨g, i * 2 + 1, none⟩ = some v ∧ w.frozen? ⟨g, i * 2, none⟩ = false ∧ w.frozen? ⟨g, i * 2 + 1, none⟩ = false := by
  obtain ⟨rfl, rs, h1, h2⟩ := h
  obtain ⟨a, c', e, h3, h4⟩ := own_form h1
  injection e with e
  subst e
  obtain ⟨g', e, _, _, _, hf, hc⟩ := h4.resolve_left (by omega)
  injection e with e
  injection e with e
  subst e
  obtain ⟨r, hr⟩ := flatC_getD (l := rs) (k := i) (by rw [h2.1]; exact hi)
  obtain ⟨e1, e2⟩ := h2.2 i r _ hr (List.getElem?_eq_getElem hi)
  obtain ⟨g1, g2⟩ := flatC_get hr
  refine ⟨r.2, ?_, hc _ _ g2, hf _, hf _⟩
  rw [hc _ _ g1, e1]
  unfold kindAt
  rw [List.getD_eq_getElem?_getD, List.getElem?_eq_getElem hi]
  rfl
theorem heap_setA {w : World} {q : Nat} {cur : Array Value} {t : TypeId} {fr : Nat × Nat} (h : w.heap[q]? = some (.cells cur t fr)) (i : Nat) (v : Value) : (w.setCell ⟨q, i, none⟩ v).heap[q]? = some (.cells (cur.setIfInBounds i v) t fr) := by
  simp only [World.setCell, Array.getElem?_modify]
  rw [if_pos trivial, h]
  simp
theorem CO.put {w : World} {B g n c i : Nat} {cs : List CellC} {k : Int} {v : Value} {t : List Int} (h : CO w B g n c cs) (hi : i < n) (hv : TxtAt w v t) : CO (putW w g i k v) B g n c (cs.set i (k, t)) := by
  have hf := h.free
  have hv' := hv.turn (putW_turn w g i k v) hf
  obtain ⟨rfl, rs, h1, h2⟩ := h
  obtain ⟨cur, hg, h3, h4, h5, h6, h7⟩ := own_block h1
  have h2' := h2.turn (putW_turn w g i k v) hf
  refine ⟨by rw [List.length_set], rs.set i (k, v), block_own (cur := (cur.setIfInBounds (i * 2) (.int .i64 k)).setIfInBounds (i * 2 + 1) v) (heap_setA (heap_setA hg _ _) _ _) h3 h4 (by simp [h5]) ?_ h7, by rw [List.length_set, List.length_set, h2.1], fun j r x hr hx => ?_⟩
  · rw [Array.toList_setIfInBounds, Array.toList_setIfInBounds, List.take_set, List.take_set, h6, flatC_set (k, v) (by rw [h2.1]; exact hi)]
  · by_cases hj : i = j
    · subst hj
      rw [List.getElem?_set_self (by rw [h2.1]; exact hi)] at hr
      rw [List.getElem?_set_self hi] at hx
      injection hr with hr
      injection hx with hx
      subst hr hx
      exact ⟨rfl, hv'⟩
    · rw [List.getElem?_set_ne hj] at hr hx
      exact h2'.2 j r x hr hx
theorem CO.blank {w : World} {B g n c i : Nat} {cs : List CellC} (h : CO w B g n c cs) (hi : i < n) : CO (putW w g i 0 (.slice none 0 0)) B g n c (cs.set i blank) := h.put hi (TxtAt.nil w)

set_option maxRecDepth 100000 in
set_option maxHeartbeats 8000000 in
theorem CO.tear (g n c : Nat) (B : Nat) (cs : List CellC) (col : Nat) (w : World) (h : CO w B g n c cs) (h0 : kindAt cs 0 ≠ 3) (hc : col ≤ 1000000) (hn : n ≤ 1000000) :
    Calls Tryz.prog 199 #[.slice (some ⟨g, 0, none⟩) n c, .int .i64 (col : Int)] w fun e w' => e = .returned (.tuple #[]) ∧ CO w' B g n c (tearC cs col) ∧ Turn (fun b => b = g) w w' := by
  have hmx : Tryz.prog.follows .mixedOrders = true := by kernel_rfl
  obtain ⟨i0, hi0, hz0, hz1, hz2⟩ := info_parts info_cell
  have hlo := h.lo.2
  have HH := Lib.hid h
  by_cases hlt : col < n
  · obtain ⟨v, x0, x1, x2, x3⟩ := h.cell hlt
    have hlt' : (col : Int) < (n : Int) := by omega
    by_cases hk : kindAt cs col = 3
    · obtain ⟨p, rfl⟩ : ∃ p, col = p + 1 := ⟨col - 1, by have : col ≠ 0 := fun e => h0 (by rw [← e]; exact hk); omega⟩
      have hp : p < n := by omega
      have hkp : (p : Int) < (n : Int) := by omega
      obtain ⟨v0, y0, y1, y2, y3⟩ := h.cell hp
      have h1 := h.blank hp
      have h2 := h1.blank (show p + 1 < n from hlt)
      have HF : Hid (CO (putW (putW w g p 0 (.slice none 0 0)) g (p + 1) 0 (.slice none 0 0)) B g n c (tearC cs (p + 1)) ∧ Turn (fun b => b = g) w (putW (putW w g p 0 (.slice none 0 0)) g (p + 1) 0 (.slice none 0 0))) := Lib.hid (by
        refine ⟨?_, (putW_turn _ _ _ _ _).trans (putW_turn _ _ _ _ _)⟩
        unfold tearC
        rw [if_pos hk]
        exact h2)
      rw [hk] at x0
      clear h h1 h2
      go_enter Tryz.func199, Tryz.ntmps199
      go_wp2_with fail
      go_end0
      exact ⟨rfl, HF.out⟩
    · have HF : Hid (tearC cs col = cs) := Lib.hid (by unfold tearC; rw [if_neg hk])
      generalize kindAt cs col = kd at *
      clear h
      go_enter Tryz.func199, Tryz.ntmps199
      go_wp2_with fail
      go_end0
      rw [HF.out]
      exact ⟨rfl, HH.out, Turn.refl _ _⟩
  · have HF : Hid (tearC cs col = cs) := Lib.hid (by
      unfold tearC
      rw [if_neg (by unfold kindAt; rw [List.getD_eq_getElem?_getD, List.getElem?_eq_none (by rw [← h.1]; omega)]; decide)])
    have hlt' : ¬ ((col : Int) < (n : Int)) := by omega
    clear h
    go_enter Tryz.func199, Tryz.ntmps199
    go_wp2_with fail
    go_end0
    rw [HF.out]
    exact ⟨rfl, HH.out, Turn.refl _ _⟩

theorem CO.ins {w : World} {B g n c : Nat} {cs : List CellC} (h : CO w B g n c cs) (i vb m : Nat) (hi : i < n) (hm : 0 < m) (hn : n ≤ 1000000) (hm1 : m ≤ 1000000) (vc : Nat)
    (hv : CO w 0 vb m vc (blanks m)) (hne : vb ≠ g) :
    Calls Tryz.prog 197 #[.slice (some ⟨g, 0, none⟩) n c, .int .i64 (i : Int), .slice (some ⟨vb, 0, none⟩) m vc] w fun e w' =>
      ∃ g' c', e = .returned (.slice (some ⟨g', 0, none⟩) (n + m) c') ∧ (g' = g ∨ w.heap.size ≤ g') ∧ CO w' B g' (n + m) c' (cs.take i ++ (blanks m ++ cs.drop i)) ∧ Turn (fun b => b = g) w w' := by
  have hf := h.free
  obtain ⟨e1, rs, h1, h2⟩ := h
  obtain ⟨e2, vs, h3, h4⟩ := hv
  refine (insert_any B 0 g c i n vb m vc rs vs w h1 (by rw [e1, h2.1]) h2.one h3 (by rw [h4.1]; exact e2) h4.one hne hi hm hn hm1).mono ?_
  rintro e w' ⟨g', c', rfl, hg', ho, ht⟩
  refine ⟨g', c', rfl, hg', ⟨?_, rs.take i ++ vs ++ rs.drop i, ho, ?_⟩, ht⟩
  · rw [List.length_append, List.length_append, List.length_take, List.length_drop, ← e1, ← e2]
    omega
  · have := (((h2.take i).app h4).app (h2.drop i)).turn ht hf
    rwa [List.append_assoc (cs.take i)] at this
theorem CO.del {w : World} {B g n c : Nat} {cs : List CellC} (h : CO w B g n c cs) (i j : Nat) (hi : i < j) (hj : j ≤ n) :
    Calls Tryz.prog 200 #[.slice (some ⟨g, 0, none⟩) n c, .int .i64 (i : Int), .int .i64 (j : Int)] w fun e w' =>
      e = .returned (.slice (some ⟨g, 0, none⟩) (i + (n - j)) c) ∧ CO w' B g (i + (n - j)) c (cs.take i ++ cs.drop j) ∧ Turn (fun b => b = g) w w' := by
  have hf := h.free
  obtain ⟨e1, rs, h1, h2⟩ := h
  refine (delete_any B g c i j n rs w h1 (by rw [e1, h2.1]) h2.one hi hj).mono ?_
  rintro e w' ⟨rfl, ho, ht⟩
  refine ⟨rfl, ⟨?_, rs.take i ++ rs.drop j, ho, ?_⟩, ht⟩
  · rw [List.length_append, List.length_take, List.length_drop, ← e1]
    omega
  · exact ((h2.take i).app (h2.drop j)).turn ht hf
theorem blanks_len (m : Nat) : (blanks m).length = m := by simp [blanks]
theorem CO.blanks (w : World) (m : Nat) (hm : m ≤ 1024) : CO (w.alloc (.cells (flatC (List.replicate m (0, .slice none 0 0))).toArray 80)) w.heap.size w.heap.size m m (blanks m) := by
  refine ⟨(blanks_len m).symm, List.replicate m (0, .slice none 0 0), block_own (heap_alloc_new w _) (Nat.le_refl _) (by unfold maxLen; omega) ?_ ?_ (Nat.le_refl _), txts_blanks _ _⟩
  · simp [flatC_len]
  · rw [List.take_of_length_le (by simp [flatC_len])]
theorem CO.base {w : World} {B B' g n c : Nat} {cs : List CellC} (h : CO w B g n c cs) (hb : B' ≤ B) : CO w B' g n c cs := by
  obtain ⟨rfl, rs, h1, h2⟩ := h
  exact ⟨rfl, rs, owns_base h1 hb, h2⟩
end Go.Proofs.YtjicdcmdgbcdcaaGreatDoor.Scr
end
section
namespace Go.Proofs.YtjicdcmdgbcdcaaGreatDoor.Scr
set_option linter.unusedSimpArgs false
set_option linter.unusedVariables false
open Go Go.RowKit Mem Turn Ring

set_option maxRecDepth 100000 in
set_option maxHeartbeats 8000000 in
theorem ins1_any (g n c B q : Nat) (cs : List CellC) (col k : Nat) (w : World) (h : CO w B g n c cs) (hq : w.heap[q]? = some (.cells #[.int .i64 (col : Int)] 3 (0, 0))) (hc : col < n) (hn : n ≤ 1024) (hk0 : 0 < k) (hk : k ≤ 1024) :
    Calls Tryz.prog 196 #[.slice (some ⟨g, 0, none⟩) n c, .int .i64 (k : Int), .pointer (some ⟨q, 0, none⟩)] w fun e w' => ∃ v, e = .returned v ∧ OwnCells B w' v (insertC cs col k) ∧ Turn (fun b => b = g) w w' := by
  have hmx : Tryz.prog.follows .mixedOrders = true := by kernel_rfl
  obtain ⟨i0, hi0, hz0, hz1, hz2⟩ := info_parts info_cell
  have HB := Lib.hid (fun w => blanks_any (k : Int) k (by omega) w)
  have HH := Lib.hid h
  have HQ := Lib.hid hq
  have hqc : w.cell? ⟨q, 0, none⟩ = some (.int .i64 (col : Int)) := by simp [World.cell?, hq]
  have hcn : (col : Int) < (n : Int) := by omega
  have hglt := h.typ.lt
  have hqlt : q < w.heap.size := (Array.getElem?_eq_some_iff.1 hq).1
  have hqg : ¬ q = g := fun e => (show Typ w 3 q from ⟨_, _, hq⟩).ne h.typ (by decide) e
  obtain ⟨D, hD⟩ : ∃ D, D = cs.take col ++ (blanks k ++ cs.drop col) := ⟨_, rfl⟩
  have hcs := h.1
  have hDl : D.length = n + k := by
    rw [hD, List.length_append, List.length_append, List.length_take, List.length_drop, blanks_len, ← hcs]
    omega
  have HI := Lib.hid (show insertC cs col k = (if kindAt (D.take n) (n - 1) = 2 then (D.take n).set (n - 1) blank else D.take n) from by rw [hD, hcs]; rfl)
  have HD := Lib.hid hD
  clear h hq hcs hD
  go_enter Tryz.func196, Tryz.ntmps196
  go_upto_region 2 with fail
  refine region_begin3 (fun w' => w'.cell? ⟨q, 0, none⟩ = some (.int .i64 (col : Int))) (fun _ => false) 8 rfl hmx (by intro _ _ d _ _ h; cases d <;> exact h) fun hQP => ?_
  have hS : w.drew.cell? ⟨q, 0, none⟩ = some (.int .i64 (col : Int)) := hqc
  have HB0 : Hid (Below w.heap.size w w.drew) := Lib.hid ((Below.refl _ _).drew)
  clear hqc
  generalize w.drew = w0 at *
  refine take_f 0 9 rfl rfl (by kernel_rfl) (by kernel_rfl) (by kernel_rfl) (by kernel_rfl) hQP hS (.inl ⟨by kernel_rfl, fun w' hw' => by go_simp; try with_reducible rfl⟩) ?_
  refine take_f 1 10 rfl rfl (by kernel_rfl) (by kernel_rfl) (by kernel_rfl) (by kernel_rfl) hQP hS (.inl ⟨by kernel_rfl, fun w' hw' => by go_simp; try with_reducible rfl⟩) ?_
  refine take_f 2 11 rfl rfl (by kernel_rfl) (by kernel_rfl) (by kernel_rfl) (by kernel_rfl) hQP hS (.inl ⟨by kernel_rfl, fun w' hw' => by go_simp; try with_reducible rfl⟩) ?_
  refine take_f 5 14 rfl rfl (by kernel_rfl) (by kernel_rfl) (by kernel_rfl) (by kernel_rfl) hQP hS (.inl ⟨by kernel_rfl, fun w' hw' => by go_simp; try with_reducible rfl⟩) ?_
  try simp only [List.setIfInBounds_toArray, List.set_cons_succ, List.set_cons_zero]
  refine take_g (i := 3) (by kernel_rfl) rfl (by kernel_rfl) fun KQ hK => ?_
  go_wp2_with fail
  refine (HB.out _).mono ?_
  rintro e w1 ⟨rfl, rfl⟩
  have T1 : Turn (fun _ => False) w0 (w0.alloc (.cells (flatC (List.replicate k (0, .slice none 0 0))).toArray 80)) := Turn.alloc _ _ _
  have HV := Lib.hid (CO.blanks w0 k hk)
  have hS1 := T1.cell hS id
  have HT1 := Lib.hid ((Turn.of_new (T := fun b => b = g) HB0.out).trans (T1.mono fun _ _ h => h.elim))
  have hsz : w.heap.size ≤ w0.heap.size := HB0.out.size
  have HH1 := Lib.hid ((HH.out.turn (Turn.of_new HB0.out : Turn (fun _ => False) w w0) (Free.no _ _) id).turn T1 (Free.no _ _) id)
  clear hS T1
  generalize (w0.alloc (.cells (flatC (List.replicate k (0, .slice none 0 0))).toArray 80)) = w2 at *
  generalize hvb : w0.heap.size = vb at *
  refine hK _ _ (.inr hS1) ?_
  clear hK
  try simp only [List.setIfInBounds_toArray, List.set_cons_succ, List.set_cons_zero]
  have HN := Lib.hid (HH1.out.ins col vb k hc hk0 (by omega) (by omega) k (HV.out.base (Nat.zero_le _)) (by omega))
  refine take_g (i := 4) (by kernel_rfl) rfl (by kernel_rfl) fun KQ hK => ?_
  go_wp2_with fail
  refine HN.out.mono ?_
  rintro e w3 ⟨g3, c3, rfl, hg3, h3, ht3⟩
  have HG3 := Lib.hid (show g3 = g ∨ w.heap.size ≤ g3 from hg3.imp id fun h => Nat.le_trans HT1.out.size h)
  clear hg3
  have hS3 : w3.cell? ⟨q, 0, none⟩ = some (.int .i64 (col : Int)) := ht3.cell hS1 hqg
  refine hK _ _ (.inr hS3) ?_
  clear hK
  try simp only [List.setIfInBounds_toArray, List.set_cons_succ, List.set_cons_zero]
  have hlo := h3.lo.2
  have hn3 : n ≤ c3 := by omega
  have hn4 : (n : Int) ≤ (c3 : Int) := by omega
  have hS := hS3
  refine take_f 6 15 rfl rfl (by kernel_rfl) (by kernel_rfl) (by kernel_rfl) (by kernel_rfl) hQP hS (.inl ⟨by kernel_rfl, fun w' hw' => by go_simp; try with_reducible rfl⟩) ?_
  refine take_f 7 0 rfl rfl (by kernel_rfl) (by kernel_rfl) (by kernel_rfl) (by kernel_rfl) hQP hS (.inl ⟨by kernel_rfl, fun w' hw' => by go_simp; try with_reducible rfl⟩) ?_
  refine take_done (by kernel_rfl) ?_ _
  try simp only [List.setIfInBounds_toArray, List.set_cons_succ, List.set_cons_zero]
  have HE := Lib.hid (h3.take (m := n) (by omega))
  have HT3 := Lib.hid (HT1.out.trans ht3)
  rw [← HD.out] at HE
  have hne : 1 ≤ n := by omega
  obtain ⟨p, rfl⟩ : ∃ p, n = p + 1 := ⟨n - 1, by omega⟩
  rw [show p + 1 - 1 = p from rfl] at HI
  obtain ⟨v, x0, x1, x2, x3⟩ := HE.out.cell (i := p) (by omega)
  clear h3 ht3 HN HH1 HH HV hS hS1 hS3
  by_cases hk2 : kindAt (D.take (p + 1)) p = 2
  · have HF : Hid (OwnCells B (putW w3 g3 p 0 (.slice none 0 0)) (.slice (some ⟨g3, 0, none⟩) (p + 1) c3) (insertC cs col k) ∧ Turn (fun b => b = g) w (putW w3 g3 p 0 (.slice none 0 0))) := Lib.hid (by
      refine ⟨?_, ((HT3.out.mono fun _ _ e => .inl e : Turn (fun b => b = g ∨ b = g3) w w3).trans ((putW_turn _ _ _ _ _).mono fun _ _ e => .inr e)).mono fun b hb e => e.elim id fun e => ?_⟩
      · rw [HI.out, if_pos hk2]
        exact (HE.out.blank (i := p) (by omega)).own
      · have := HG3.out
        omega)
    rw [hk2] at x0
    go_wp2_with fail
    go_ret
    exact ⟨_, rfl, HF.out⟩
  · have HF : Hid (OwnCells B w3 (.slice (some ⟨g3, 0, none⟩) (p + 1) c3) (insertC cs col k)) := Lib.hid (by
      rw [HI.out, if_neg hk2]
      exact HE.out.own)
    go_wp2_with fail
    go_ret
    exact ⟨_, rfl, HF.out, HT3.out⟩

set_option maxRecDepth 100000 in
set_option maxHeartbeats 8000000 in
theorem del1_any (g n c B q : Nat) (cs : List CellC) (col k : Nat) (w : World) (h : CO w B g n c cs) (h0 : kindAt cs 0 ≠ 3) (hq : w.heap[q]? = some (.cells #[.int .i64 (col : Int)] 3 (0, 0))) (hc : col + k ≤ n) (hn : n ≤ 1024) (hk0 : 0 < k) (hk : k ≤ 1024) :
    Calls Tryz.prog 198 #[.slice (some ⟨g, 0, none⟩) n c, .int .i64 (k : Int), .pointer (some ⟨q, 0, none⟩)] w fun e w' => ∃ v, e = .returned v ∧ OwnCells B w' v (deleteC cs col k) ∧ Turn (fun b => b = g) w w' := by
  have hmx : Tryz.prog.follows .mixedOrders = true := by kernel_rfl
  obtain ⟨i0, hi0, hz0, hz1, hz2⟩ := info_parts info_cell
  have HB := Lib.hid (fun w => blanks_any (k : Int) k (by omega) w)
  have HH := Lib.hid h
  have hqc : w.cell? ⟨q, 0, none⟩ = some (.int .i64 (col : Int)) := by simp [World.cell?, hq]
  have hqg : ¬ q = g := fun e => (show Typ w 3 q from ⟨_, _, hq⟩).ne h.typ (by decide) e
  obtain ⟨j, hj⟩ : ∃ j, j = col + k := ⟨_, rfl⟩
  have hw : IntKind.i64.wrap ((col : Int) + (k : Int)) = (j : Int) := by rw [IntKind.wrap_i64]; omega
  have HD := Lib.hid (show deleteC cs col k = (tearC cs j).take col ++ (tearC cs j).drop j ++ blanks k from by rw [hj]; rfl)
  have HT := Lib.hid (h.tear g n c B cs j w h0 (by omega) (by omega))
  replace hj := Lib.hid hj
  clear h hq
  go_enter Tryz.func198, Tryz.ntmps198
  go_wp2_with fail
  refine HT.out.mono ?_
  rintro e w1 ⟨rfl, h1, ht1⟩
  replace hqc := ht1.cell hqc hqg
  have HT1 := Lib.hid ht1
  have H1 := Lib.hid (h1.del col j (by have := hj.out; omega) (by have := hj.out; omega))
  clear h1 ht1 HT
  go_wp2_with fail
  refine H1.out.mono ?_
  rintro e w2 ⟨rfl, h2, ht2⟩
  have HT2 := Lib.hid (HT1.out.trans ht2)
  have H2 := Lib.hid h2
  obtain ⟨m, hm⟩ : ∃ m, m = col + (n - j) := ⟨_, rfl⟩
  have hmk : m + k = n := by have := hj.out; omega
  rw [← hm] at H2 ⊢
  replace hm := Lib.hid hm
  clear h2 ht2 H1 HT1 hqc
  go_wp2_with fail
  refine (HB.out _).mono ?_
  rintro e w3 ⟨rfl, rfl⟩
  have T3 : Turn (fun _ => False) w2 (w2.alloc (.cells (flatC (List.replicate k (0, .slice none 0 0))).toArray 80)) := Turn.alloc _ _ _
  have HV := Lib.hid (CO.blanks w2 k hk)
  have HT3 := Lib.hid (HT2.out.trans (T3.mono fun _ _ h => h.elim))
  have H3 := Lib.hid (H2.out.turn T3 (Free.no _ _) id)
  clear T3 H2 HT2 HB
  generalize (w2.alloc (.cells (flatC (List.replicate k (0, .slice none 0 0))).toArray 80)) = w4 at *
  generalize w2.heap.size = vb at *
  obtain ⟨e1, rs, o1, t1⟩ := H3.out
  obtain ⟨e2, vs, o2, t2⟩ := HV.out
  have HO := Lib.hid o1
  have hvl : (flatC vs).length = k * 2 := o2.1
  have hvc : ∀ t u, (flatC vs)[t]? = some u → w4.cell? ((⟨vb, 0, none⟩ : Addr).add t) = some u := fun t u hu => o2.cells (g := vb) rfl t u hu
  have hv1 := flatC_one _ t2.one
  generalize hfv : flatC vs = fv at *
  have HVC := Lib.hid hvc
  have HV1 := Lib.hid hv1
  have HVL := Lib.hid hvl
  have hnc := H3.out.lo.2
  have hBs : B ≤ w4.heap.size := by have := H3.out.lo; have := H3.out.typ.lt; omega
  replace e1 := Lib.hid e1
  replace e2 := Lib.hid e2
  replace hfv := Lib.hid hfv
  clear hvc hv1 o1 o2 hvl
  go_wp2_with (at_builtin; (refine wpList_append_own _ rfl _ _ 43 rfl B 80 i0 _ 2 32 Tryz.underlying43 hi0 hz0 hz1 hz2 rfl (by decide) (.slice (some ⟨g, 0, none⟩) m c) m _ rfl HO.out ⟨vb, 0, none⟩ k k fv rfl HVL.out HVC.out HV1.out (by unfold maxLen; omega) (by omega) (by omega) ?_); intro v5 w5 hown5 hgrow5 _)
  have T5 : Turn (fun j => j = g) w4 w5 := Turn.of_grown hgrow5 (fun g' e => by injection e with e; exact e.symm)
  have HF : Hid (OwnCells B w5 v5 (deleteC cs col k) ∧ Turn (fun b => b = g) w w5) := Lib.hid (by
    refine ⟨⟨rs ++ vs, ?_, ?_⟩, HT3.out.trans T5⟩
    · rw [HD.out, flatC_app, hfv.out, List.length_append, ← e1.out, ← e2.out]
      exact hown5
    · rw [HD.out]
      exact (t1.app t2).turn T5 H3.out.free)
  go_ret
  exact ⟨_, rfl, HF.out⟩
end Go.Proofs.YtjicdcmdgbcdcaaGreatDoor.Scr
end

/-
  grids: High, Row, Wide, Set.
  cursor.Right.
  scroll: of, rows, blanks.
  bound: side, Most.
-/
import Derived.Test.YtjicdcmdgbcdcaaGreatDoorSd21

section
namespace Go.Proofs.YtjicdcmdgbcdcaaGreatDoor.Scr
set_option linter.unusedSimpArgs false
set_option linter.unusedVariables false
open Go Go.RowKit Mem Turn Ring

abbrev ptr (ρ : Nat) : Value := .pointer (some ⟨ρ, 0, none⟩)
/-- a grid: its block γ, its list's block β, its rows' blocks -/
structure GridAt (w : World) (γ β : Nat) (P : List Nat) : Prop where
  hdr : ∃ c, P.length ≤ c ∧ w.heap[γ]? = some (.cells #[.slice (some ⟨β, 0, none⟩) P.length c] 137 (0, 0))
  list : ∃ rest, w.heap[β]? = some (.cells (P.map ptr ++ rest).toArray 128 (0, 0))
  pos : 1 ≤ P.length
  le : P.length ≤ 1024
theorem GridAt.turn {w w' : World} {T : Nat → Prop} {γ β : Nat} {P : List Nat} (h : GridAt w γ β P) (ht : Turn T w w') (h1 : ¬ T γ) (h2 : ¬ T β) : GridAt w' γ β P := by
  obtain ⟨⟨c, h3, h4⟩, ⟨r, h5⟩, h6, h7⟩ := h
  exact ⟨⟨c, h3, ht.heap h4 h1⟩, ⟨r, ht.heap h5 h2⟩, h6, h7⟩
theorem GridAt.typ1 {w : World} {γ β : Nat} {P : List Nat} (h : GridAt w γ β P) : Typ w 137 γ := by
  obtain ⟨⟨c, h3, h4⟩, _⟩ := h
  exact ⟨_, _, h4⟩
theorem GridAt.typ2 {w : World} {γ β : Nat} {P : List Nat} (h : GridAt w γ β P) : Typ w 128 β := by
  obtain ⟨_, ⟨r, h5⟩, _⟩ := h
  exact ⟨_, _, h5⟩
theorem GridAt.cell {w : World} {γ β : Nat} {P : List Nat} (h : GridAt w γ β P) {i ρ : Nat} (hi : P[i]? = some ρ) : w.cell? ⟨β, i, none⟩ = some (ptr ρ) ∧ w.frozen? ⟨β, i, none⟩ = false := by
  obtain ⟨_, ⟨r, h5⟩, _⟩ := h
  have hl := (List.getElem?_eq_some_iff.1 hi).1
  refine ⟨?_, by simp [World.frozen?, h5]⟩
  have : (P.map ptr ++ r)[i]? = some (ptr ρ) := by
    rw [List.getElem?_append_left (by simpa using hl), List.getElem?_map, hi]
    rfl
  simp only [World.cell?, h5]
  simpa using this
theorem GridAt.set {w : World} {γ β : Nat} {P : List Nat} (h : GridAt w γ β P) {i : Nat} (hi : i < P.length) (ρ : Nat) : GridAt (w.setCell ⟨β, i, none⟩ (ptr ρ)) γ β (P.set i ρ) := by
  have hne : γ ≠ β := h.typ1.ne h.typ2 (by decide)
  obtain ⟨⟨c, h3, h4⟩, ⟨r, h5⟩, h6, h7⟩ := h
  have T : Turn (fun b => b = β) w (w.setCell ⟨β, i, none⟩ (ptr ρ)) := Turn.setCell _ _ rfl
  refine ⟨⟨c, by rw [List.length_set]; exact h3, by rw [List.length_set]; exact T.heap h4 hne⟩, ⟨r, ?_⟩, by rw [List.length_set]; exact h6, by rw [List.length_set]; exact h7⟩
  rw [heap_set1 h5, List.set_append_left _ _ (by simpa using hi), ← List.map_set]

theorem high_any (γ β : Nat) (P : List Nat) (w : World) (h : GridAt w γ β P) : Calls Tryz.prog 37 #[ptr γ] w fun e w' => e = .returned (.int .i64 (P.length : Int)) ∧ w = w' := by
  obtain ⟨⟨c, h3, h4⟩, _⟩ := h
  have c0 : w.cell? ⟨γ, 0, none⟩ = some (.slice (some ⟨β, 0, none⟩) P.length c) := by simp [World.cell?, h4]
  generalize P.length = n at *
  clear h4
  go_enter Tryz.func37, Tryz.ntmps37
  go_wp2
  go_ret
  exact ⟨rfl, rfl⟩
theorem row_in (γ β i ρ : Nat) (P : List Nat) (w : World) (h : GridAt w γ β P) (hi : P[i]? = some ρ) : Calls Tryz.prog 70 #[ptr γ, .int .i64 (i : Int)] w fun e w' => e = .returned (ptr ρ) ∧ w = w' := by
  have HH := Lib.hid (high_any γ β P w h)
  obtain ⟨x0, _⟩ := h.cell hi
  have hl := (List.getElem?_eq_some_iff.1 hi).1
  have hle := h.le
  obtain ⟨⟨c, h3, h4⟩, _⟩ := h
  have c0 : w.cell? ⟨γ, 0, none⟩ = some (.slice (some ⟨β, 0, none⟩) P.length c) := by simp [World.cell?, h4]
  generalize P.length = n at *
  have d1 : decide ((n : Int) ≤ (i : Int)) = false := decide_eq_false (by omega)
  have d2 : decide (n ≤ i) = false := decide_eq_false (by omega)
  clear h4 hi
  go_enter Tryz.func70, Tryz.ntmps70
  go_wp2_with fail
  refine HH.out.mono ?_
  rintro e w1 ⟨rfl, rfl⟩
  go_wp2_with fail
  go_ret
  exact ⟨rfl, rfl⟩
theorem row_out (γ β : Nat) (i : Int) (P : List Nat) (w : World) (h : GridAt w γ β P) (hi : i < 0 ∨ (P.length : Int) ≤ i) : Calls Tryz.prog 70 #[ptr γ, .int .i64 i] w fun e w' => e = .returned (.pointer none) ∧ w = w' := by
  have HH := Lib.hid (high_any γ β P w h)
  generalize P.length = n at *
  clear h
  by_cases h0 : i < 0
  · go_enter Tryz.func70, Tryz.ntmps70
    go_wp2_with fail
    go_ret
    exact ⟨rfl, rfl⟩
  · have d1 : decide ((n : Int) ≤ i) = true := decide_eq_true (by omega)
    have h1 : 0 ≤ i := by omega
    go_enter Tryz.func70, Tryz.ntmps70
    go_wp2_with fail
    refine HH.out.mono ?_
    rintro e w1 ⟨rfl, rfl⟩
    go_wp2_with fail
    go_ret
    exact ⟨rfl, rfl⟩
/-- each row is a row, all of one width -/
def AllRows (w : World) (P : List Nat) (W : Nat) : Prop := ∀ ρ ∈ P, ∃ κ l, RowAt w ρ κ l ∧ l.1.length = W
theorem gwide_any (γ β W : Nat) (P : List Nat) (w : World) (h : GridAt w γ β P) (ha : AllRows w P W) : Calls Tryz.prog 36 #[ptr γ] w fun e w' => e = .returned (.int .i64 (W : Int)) ∧ w = w' := by
  obtain ⟨ρ, hρ⟩ : ∃ ρ, P[0]? = some ρ := ⟨_, List.getElem?_eq_getElem h.pos⟩
  have HR := Lib.hid (row_in γ β 0 ρ P w h hρ)
  obtain ⟨κ, l, h1, h2⟩ := ha ρ (List.mem_of_getElem? hρ)
  have HW := Lib.hid (wide_any ρ κ l w h1)
  rw [h2] at HW
  clear h ha hρ h1 h2
  go_enter Tryz.func36, Tryz.ntmps36
  go_wp2_with fail
  refine HR.out.mono ?_
  rintro e w1 ⟨rfl, rfl⟩
  go_wp2_with fail
  refine HW.out.mono ?_
  rintro e w1 ⟨rfl, rfl⟩
  go_wp2_with fail
  go_ret
  exact ⟨rfl, rfl⟩
theorem set_any (γ β i ρ κ W : Nat) (P : List Nat) (l : LineC) (w : World) (h : GridAt w γ β P) (ha : AllRows w P W) (hi : i < P.length) (hr : RowAt w ρ κ l) (hw : l.1.length = W) : Calls Tryz.prog 71 #[ptr γ, .int .i64 (i : Int), ptr ρ] w fun e w' => e = .returned (.bool true) ∧ GridAt w' γ β (P.set i ρ) ∧ Turn (fun b => b = β) w w' := by
  obtain ⟨ρ0, hρ⟩ : ∃ ρ, P[i]? = some ρ := ⟨_, List.getElem?_eq_getElem hi⟩
  have HR := Lib.hid (row_in γ β i ρ0 P w h hρ)
  obtain ⟨κ0, l0, h1, h2⟩ := ha ρ0 (List.mem_of_getElem? hρ)
  have HW0 := Lib.hid (wide_any ρ0 κ0 l0 w h1)
  rw [h2] at HW0
  have HW1 := Lib.hid (wide_any ρ κ l w hr)
  rw [hw] at HW1
  obtain ⟨x0, y0⟩ := h.cell hρ
  have HS : Hid (GridAt (w.setCell ⟨β, i, none⟩ (ptr ρ)) γ β (P.set i ρ) ∧ Turn (fun b => b = β) w (w.setCell ⟨β, i, none⟩ (ptr ρ))) := Lib.hid ⟨h.set hi ρ, Turn.setCell _ _ rfl⟩
  have hle := h.le
  obtain ⟨⟨c, h3, h4⟩, _⟩ := h
  have c0 : w.cell? ⟨γ, 0, none⟩ = some (.slice (some ⟨β, 0, none⟩) P.length c) := by simp [World.cell?, h4]
  generalize P.length = n at *
  clear h4 hρ ha h1 h2 hr hw
  go_enter Tryz.func71, Tryz.ntmps71
  go_wp2_with fail
  refine HR.out.mono ?_
  rintro e w1 ⟨rfl, rfl⟩
  go_wp2_with fail
  refine HW0.out.mono ?_
  rintro e w1 ⟨rfl, rfl⟩
  go_wp2_with fail
  refine HW1.out.mono ?_
  rintro e w1 ⟨rfl, rfl⟩
  go_wp2_with fail
  go_ret
  exact ⟨rfl, HS.out.1, HS.out.2⟩
end Go.Proofs.YtjicdcmdgbcdcaaGreatDoor.Scr
end
section
namespace Go.Proofs.YtjicdcmdgbcdcaaGreatDoor.Scr
set_option linter.unusedSimpArgs false
set_option linter.unusedVariables false
open Go Go.RowKit Mem Turn Ring

set_option maxRecDepth 100000 in
set_option maxHeartbeats 4000000 in
theorem right_same (row col : Int) (pend : Bool) (wd ht : Int) (w : World) (he : hold ⟨row, col, pend⟩ wd ht = ⟨row, col, pend⟩) :
    Calls Tryz.prog 10 #[.agg #[.int .i64 row, .int .i64 col, .bool pend], .int .i64 wd, .int .i64 ht] w fun e w' => e = .returned (.bool true) ∧ Below w.heap.size w w' := by
  have hmx : Tryz.prog.follows .mixedOrders = true := by kernel_rfl
  have e1 := heap_alloc_new w (.cells (curA row col pend) 36)
  have HB : Hid (Below w.heap.size w (w.alloc (.cells (curA row col pend) 36)).drew) := Lib.hid ((Below.refl _ _).alloc (Nat.le_refl _) _).drew
  have HH : Hid (∀ W', Calls Tryz.prog 39 #[.agg #[.int .i64 row, .int .i64 col, .bool pend], .int .i64 wd, .int .i64 ht] W' fun e w' => e = .returned (.agg #[.int .i64 row, .int .i64 col, .bool pend]) ∧ Below W'.heap.size W' w') := Lib.hid fun W' => by
    have := hold_any row col pend wd ht W'
    rw [he] at this
    exact this
  have hsz : w.heap.size < (w.alloc (.cells (curA row col pend) 36)).drew.heap.size := by show w.heap.size < (w.alloc (.cells (curA row col pend) 36)).heap.size; simp
  obtain ⟨c0, c1, c2⟩ := cells3 e1
  clear he e1
  go_enter Tryz.func10, Tryz.ntmps10
  go_upto_region 1 with fail
  refine region_begin3 (fun w' => w'.cell? ⟨w.heap.size, 0, none⟩ = some (.int .i64 row) ∧ w'.cell? ⟨w.heap.size, 1, none⟩ = some (.int .i64 col) ∧ w'.cell? ⟨w.heap.size, 2, none⟩ = some (.bool pend)) (fun _ => false) 7 rfl hmx (by intro _ _ d _ _ h; cases d <;> exact h) fun hQP => ?_
  have hS : (w.alloc (.cells (curA row col pend) 36)).drew.cell? ⟨w.heap.size, 0, none⟩ = some (.int .i64 row) ∧ (w.alloc (.cells (curA row col pend) 36)).drew.cell? ⟨w.heap.size, 1, none⟩ = some (.int .i64 col) ∧ (w.alloc (.cells (curA row col pend) 36)).drew.cell? ⟨w.heap.size, 2, none⟩ = some (.bool pend) := ⟨c0, c1, c2⟩
  clear c0 c1 c2
  generalize (w.alloc (.cells (curA row col pend) 36)).drew = w1 at *
  refine take_f 0 7 rfl rfl (by kernel_rfl) (by kernel_rfl) (by kernel_rfl) (by kernel_rfl) hQP hS (.inl ⟨by kernel_rfl, fun w' hw' => by obtain ⟨e0, e1, e2⟩ := hw'; go_simp; try with_reducible rfl⟩) ?_
  refine take_f 1 8 rfl rfl (by kernel_rfl) (by kernel_rfl) (by kernel_rfl) (by kernel_rfl) hQP hS (.inl ⟨by kernel_rfl, fun w' hw' => by obtain ⟨e0, e1, e2⟩ := hw'; go_simp; try with_reducible rfl⟩) ?_
  refine take_f 2 9 rfl rfl (by kernel_rfl) (by kernel_rfl) (by kernel_rfl) (by kernel_rfl) hQP hS (.inl ⟨by kernel_rfl, fun w' hw' => by obtain ⟨e0, e1, e2⟩ := hw'; go_simp; try with_reducible rfl⟩) ?_
  refine take_f 3 10 rfl rfl (by kernel_rfl) (by kernel_rfl) (by kernel_rfl) (by kernel_rfl) hQP hS (.inl ⟨by kernel_rfl, fun w' hw' => by obtain ⟨e0, e1, e2⟩ := hw'; go_simp; try with_reducible rfl⟩) ?_
  refine take_g (i := 4) (by kernel_rfl) rfl (by kernel_rfl) fun KQ hK => ?_
  go_wp2_with fail
  refine (HH.out _).mono ?_
  rintro e w2 ⟨rfl, hb⟩
  have T2 : Turn (fun _ => False) w1 w2 := Turn.of_new hb
  have HB2 := Lib.hid (HB.out.trans (hb.mono HB.out.size))
  have hS : w2.cell? ⟨w.heap.size, 0, none⟩ = some (.int .i64 row) ∧ w2.cell? ⟨w.heap.size, 1, none⟩ = some (.int .i64 col) ∧ w2.cell? ⟨w.heap.size, 2, none⟩ = some (.bool pend) := ⟨T2.cell hS.1 id, T2.cell hS.2.1 id, T2.cell hS.2.2 id⟩
  refine hK _ _ (.inr hS) ?_
  clear hK T2 hb HB HH
  refine take_g (i := 5) (by kernel_rfl) rfl (by kernel_rfl) fun KQ hK => ?_
  go_wp2_with fail
  refine hK _ _ (.inr hS) ?_
  clear hK
  refine take_f 6 6 rfl rfl (by kernel_rfl) (by kernel_rfl) (by kernel_rfl) (by kernel_rfl) hQP hS (.inl ⟨by kernel_rfl, fun w' hw' => by obtain ⟨e0, e1, e2⟩ := hw'; go_simp; try with_reducible rfl⟩) ?_
  refine take_done (by kernel_rfl) ?_ _
  try simp only [List.setIfInBounds_toArray, List.set_cons_succ, List.set_cons_zero]
  go_wp2_with fail
  go_ret
  exact ⟨rfl, HB2.out⟩
end Go.Proofs.YtjicdcmdgbcdcaaGreatDoor.Scr
end
section
namespace Go.Proofs.YtjicdcmdgbcdcaaGreatDoor.Scr
set_option linter.unusedSimpArgs false
set_option linter.unusedVariables false
open Go Go.RowKit Mem Turn Ring

theorem size_str (x y z : Value) : (Tryz.prog.info? 256).map (·.size) = some (#[x, y, z] : Array Value).size := by kernel_rfl
abbrev strA (a b c : Int) : Array Value := #[.int .i64 a, .int .i64 b, .int .i64 c]
theorem one_str (a b c : Int) : (strA a b c).all (·.oneCell') = true := by simp [Value.oneCell']

set_option maxRecDepth 100000 in
set_option maxHeartbeats 8000000 in
theorem of_any (γ β : Nat) (fr n : Int) (P : List Nat) (w : World) (h : GridAt w γ β P) (hf0 : 0 ≤ fr) (hf : fr < (P.length : Int)) :
    Calls Tryz.prog 185 #[ptr γ, .int .i64 fr, .int .i64 (P.length : Int), .int .i64 n] w fun e w' => e = .returned (.tuple #[.agg (strA fr P.length (min n ((P.length : Int) - fr))), .bool (decide (0 < n))]) ∧ Below w.heap.size w w' := by
  have e1 := heap_alloc_new w (.cells (strA 0 0 0) 256)
  have T : Turn (fun _ => False) w (w.alloc (.cells (strA 0 0 0) 256)) := Turn.alloc _ _ _
  have HH := Lib.hid (high_any γ β P _ (h.turn T id id))
  have HB : Hid (Below w.heap.size w (w.alloc (.cells (strA 0 0 0) 256))) := Lib.hid ((Below.refl _ _).alloc (Nat.le_refl _) _)
  have hs : (w.alloc (.cells (strA 0 0 0) 256)).heap.size = w.heap.size + 1 := by simp
  have hle := h.le
  generalize P.length = H at *
  obtain ⟨b, hb⟩ : ∃ b, b = decide (0 < n) := ⟨_, rfl⟩
  rw [← hb]
  have HS := Lib.hid hs
  have HE1 := Lib.hid e1
  have hfd : decide (fr < (H : Int)) = true := decide_eq_true hf
  clear h T hs e1
  by_cases hn : n ≤ (H : Int) - fr
  · rw [show min n ((H : Int) - fr) = n from by omega]
    have hnd : decide (n ≤ (H : Int) - fr) = true := decide_eq_true hn
    rcases (by omega : fr = 0 ∨ 0 < fr) with hz | hfp
    · subst hz
      go_enter Tryz.func185, Tryz.ntmps185
      go_upto_region 1 with fail
      generalize (w.alloc (.cells #[.int .i64 0, .int .i64 0, .int .i64 0] 256)) = w1 at *
      go_wp2_with fail
      refine HH.out.mono ?_
      rintro e wx ⟨rfl, rfl⟩
      go_wp2_with fail
      refine HH.out.mono ?_
      rintro e wx ⟨rfl, rfl⟩
      have hnew : (w1.alloc (.cells (strA 0 0 0) 256)).heap[w1.heap.size]? = some (.cells (strA 0 0 0) 256 (0, 0)) := heap_alloc_new w1 _
      have hrow : (w1.alloc (.cells (strA 0 0 0) 256)).setRow w1.heap.size (strA 0 H n) = w1.alloc (.cells (strA 0 H n) 256) := World.setRow_alloc_new w1 _ _ _
      go_upto_region 3 with (refine wpList_store_row rfl 256 _ _ rfl w1.heap.size (strA 0 H n) rfl rfl _ _ hnew (size_str _ _ _) rfl (one_str _ _ _) ?_)
      try rw [hrow]
      have e2 := heap_alloc_new w1 (.cells (strA 0 H n) 256)
      have T2 : Turn (fun _ => False) w1 (w1.alloc (.cells (strA 0 H n) 256)) := Turn.alloc _ _ _
      have e3 := T2.heap HE1.out id
      have HB2 := Lib.hid (HB.out.trans (T2.below HB.out.size (fun _ h => h.elim)))
      clear hnew hrow T2
      generalize (w1.alloc (.cells (strA 0 H n) 256)) = w2 at *
      obtain ⟨c0, c1, c2⟩ := cells3 e2
      clear e2
      have HF := Lib.hid (setRow_heap w2 w.heap.size _ (strA 0 H n) 256 (0, 0) e3)
      go_wp2_with (refine wpList_store_row rfl 256 _ _ rfl w.heap.size (strA 0 H n) rfl rfl _ _ e3 (size_str _ _ _) rfl (one_str _ _ _) ?_)
      refine bodyPost_ret (results_ct rfl _ _ w.heap.size 256 _ (0, 0) _ rfl HF.out Tryz.underlying256 rfl (size_str _ _ _)) rfl ?_
      refine ⟨?_, HB2.out.trans ((turn_setRow _ _ _).below HB2.out.size (fun k e => by omega))⟩
      subst hb
      first | rfl | (rw [decide_eq_true (show 0 < n by omega)]; rfl)
    · skip
      go_enter Tryz.func185, Tryz.ntmps185
      go_upto_region 1 with fail
      generalize (w.alloc (.cells #[.int .i64 0, .int .i64 0, .int .i64 0] 256)) = w1 at *
      go_wp2_with fail
      refine HH.out.mono ?_
      rintro e wx ⟨rfl, rfl⟩
      go_wp2_with fail
      refine HH.out.mono ?_
      rintro e wx ⟨rfl, rfl⟩
      have hnew : (w1.alloc (.cells (strA 0 0 0) 256)).heap[w1.heap.size]? = some (.cells (strA 0 0 0) 256 (0, 0)) := heap_alloc_new w1 _
      have hrow : (w1.alloc (.cells (strA 0 0 0) 256)).setRow w1.heap.size (strA fr H n) = w1.alloc (.cells (strA fr H n) 256) := World.setRow_alloc_new w1 _ _ _
      go_upto_region 3 with (refine wpList_store_row rfl 256 _ _ rfl w1.heap.size (strA fr H n) rfl rfl _ _ hnew (size_str _ _ _) rfl (one_str _ _ _) ?_)
      try rw [hrow]
      have e2 := heap_alloc_new w1 (.cells (strA fr H n) 256)
      have T2 : Turn (fun _ => False) w1 (w1.alloc (.cells (strA fr H n) 256)) := Turn.alloc _ _ _
      have e3 := T2.heap HE1.out id
      have HB2 := Lib.hid (HB.out.trans (T2.below HB.out.size (fun _ h => h.elim)))
      clear hnew hrow T2
      generalize (w1.alloc (.cells (strA fr H n) 256)) = w2 at *
      obtain ⟨c0, c1, c2⟩ := cells3 e2
      clear e2
      have HF := Lib.hid (setRow_heap w2 w.heap.size _ (strA fr H n) 256 (0, 0) e3)
      go_wp2_with (refine wpList_store_row rfl 256 _ _ rfl w.heap.size (strA fr H n) rfl rfl _ _ e3 (size_str _ _ _) rfl (one_str _ _ _) ?_)
      refine bodyPost_ret (results_ct rfl _ _ w.heap.size 256 _ (0, 0) _ rfl HF.out Tryz.underlying256 rfl (size_str _ _ _)) rfl ?_
      refine ⟨?_, HB2.out.trans ((turn_setRow _ _ _).below HB2.out.size (fun k e => by omega))⟩
      subst hb
      first | rfl | (rw [decide_eq_true (show 0 < n by omega)]; rfl)
  · rw [show min n ((H : Int) - fr) = (H : Int) - fr from by omega]
    have hnd : decide (n ≤ (H : Int) - fr) = false := decide_eq_false hn
    rcases (by omega : fr = 0 ∨ 0 < fr) with hz | hfp
    · subst hz
      go_enter Tryz.func185, Tryz.ntmps185
      go_upto_region 1 with fail
      generalize (w.alloc (.cells #[.int .i64 0, .int .i64 0, .int .i64 0] 256)) = w1 at *
      go_wp2_with fail
      refine HH.out.mono ?_
      rintro e wx ⟨rfl, rfl⟩
      go_wp2_with fail
      refine HH.out.mono ?_
      rintro e wx ⟨rfl, rfl⟩
      have hnew : (w1.alloc (.cells (strA 0 0 0) 256)).heap[w1.heap.size]? = some (.cells (strA 0 0 0) 256 (0, 0)) := heap_alloc_new w1 _
      have hrow : (w1.alloc (.cells (strA 0 0 0) 256)).setRow w1.heap.size (strA 0 H ((H : Int) - 0)) = w1.alloc (.cells (strA 0 H ((H : Int) - 0)) 256) := World.setRow_alloc_new w1 _ _ _
      go_upto_region 3 with (refine wpList_store_row rfl 256 _ _ rfl w1.heap.size (strA 0 H ((H : Int) - 0)) rfl rfl _ _ hnew (size_str _ _ _) rfl (one_str _ _ _) ?_)
      try rw [hrow]
      have e2 := heap_alloc_new w1 (.cells (strA 0 H ((H : Int) - 0)) 256)
      have T2 : Turn (fun _ => False) w1 (w1.alloc (.cells (strA 0 H ((H : Int) - 0)) 256)) := Turn.alloc _ _ _
      have e3 := T2.heap HE1.out id
      have HB2 := Lib.hid (HB.out.trans (T2.below HB.out.size (fun _ h => h.elim)))
      clear hnew hrow T2
      generalize (w1.alloc (.cells (strA 0 H ((H : Int) - 0)) 256)) = w2 at *
      obtain ⟨c0, c1, c2⟩ := cells3 e2
      clear e2
      have HF := Lib.hid (setRow_heap w2 w.heap.size _ (strA 0 H ((H : Int) - 0)) 256 (0, 0) e3)
      go_wp2_with (refine wpList_store_row rfl 256 _ _ rfl w.heap.size (strA 0 H ((H : Int) - 0)) rfl rfl _ _ e3 (size_str _ _ _) rfl (one_str _ _ _) ?_)
      refine bodyPost_ret (results_ct rfl _ _ w.heap.size 256 _ (0, 0) _ rfl HF.out Tryz.underlying256 rfl (size_str _ _ _)) rfl ?_
      refine ⟨?_, HB2.out.trans ((turn_setRow _ _ _).below HB2.out.size (fun k e => by omega))⟩
      subst hb
      first | rfl | (rw [decide_eq_true (show 0 < n by omega)]; rfl)
    · skip
      go_enter Tryz.func185, Tryz.ntmps185
      go_upto_region 1 with fail
      generalize (w.alloc (.cells #[.int .i64 0, .int .i64 0, .int .i64 0] 256)) = w1 at *
      go_wp2_with fail
      refine HH.out.mono ?_
      rintro e wx ⟨rfl, rfl⟩
      go_wp2_with fail
      refine HH.out.mono ?_
      rintro e wx ⟨rfl, rfl⟩
      have hnew : (w1.alloc (.cells (strA 0 0 0) 256)).heap[w1.heap.size]? = some (.cells (strA 0 0 0) 256 (0, 0)) := heap_alloc_new w1 _
      have hrow : (w1.alloc (.cells (strA 0 0 0) 256)).setRow w1.heap.size (strA fr H ((H : Int) - fr)) = w1.alloc (.cells (strA fr H ((H : Int) - fr)) 256) := World.setRow_alloc_new w1 _ _ _
      go_upto_region 3 with (refine wpList_store_row rfl 256 _ _ rfl w1.heap.size (strA fr H ((H : Int) - fr)) rfl rfl _ _ hnew (size_str _ _ _) rfl (one_str _ _ _) ?_)
      try rw [hrow]
      have e2 := heap_alloc_new w1 (.cells (strA fr H ((H : Int) - fr)) 256)
      have T2 : Turn (fun _ => False) w1 (w1.alloc (.cells (strA fr H ((H : Int) - fr)) 256)) := Turn.alloc _ _ _
      have e3 := T2.heap HE1.out id
      have HB2 := Lib.hid (HB.out.trans (T2.below HB.out.size (fun _ h => h.elim)))
      clear hnew hrow T2
      generalize (w1.alloc (.cells (strA fr H ((H : Int) - fr)) 256)) = w2 at *
      obtain ⟨c0, c1, c2⟩ := cells3 e2
      clear e2
      have HF := Lib.hid (setRow_heap w2 w.heap.size _ (strA fr H ((H : Int) - fr)) 256 (0, 0) e3)
      go_wp2_with (refine wpList_store_row rfl 256 _ _ rfl w.heap.size (strA fr H ((H : Int) - fr)) rfl rfl _ _ e3 (size_str _ _ _) rfl (one_str _ _ _) ?_)
      refine bodyPost_ret (results_ct rfl _ _ w.heap.size 256 _ (0, 0) _ rfl HF.out Tryz.underlying256 rfl (size_str _ _ _)) rfl ?_
      refine ⟨?_, HB2.out.trans ((turn_setRow _ _ _).below HB2.out.size (fun k e => by omega))⟩
      subst hb
      first | rfl | (rw [decide_eq_true (show 0 < n by omega)]; rfl)

/-- pointers of the call's own -/
def OwnPtrs (B : Nat) (w : World) (v : Value) (Q : List Nat) : Prop := w.ownsRow B 128 1 v Q.length (Q.map ptr)
theorem info_ptr : (Tryz.prog.info? 128).map (fun i => (i.zero, i.size, i.bytes)) = some (some (.pointer none), 1, 8) := by kernel_rfl

set_option maxRecDepth 100000 in
set_option maxHeartbeats 4000000 in
theorem rows_any (γ β a b : Nat) (P : List Nat) (w : World) (h : GridAt w γ β P) (hab : a ≤ b) (hb : b ≤ P.length) :
    Calls Tryz.prog 187 #[ptr γ, .int .i64 (a : Int), .int .i64 (b : Int)] w fun e w' => ∃ v, e = .returned v ∧ OwnPtrs w.heap.size w' v ((P.drop a).take (b - a)) ∧ Below w.heap.size w w' := by
  obtain ⟨i0, hi, hz0, hz1, hz2⟩ := info_parts info_ptr
  have HG := Lib.hid h
  have hle := h.le
  have HPB := Lib.hid hb
  have hb1 : b ≤ 1024 := by omega
  clear h hb
  go_enter Tryz.func187, Tryz.ntmps187
  go_wp2_with fail
  go_loopg [7, 8] (b - a) (fun gg v7 i wx => ∃ k : Nat, b - a - k = gg ∧ k ≤ b - a ∧ i = .int .i64 ((a + k : Nat) : Int) ∧ Hid (OwnPtrs w.heap.size wx v7 ((P.drop a).take k) ∧ Below w.heap.size w wx))
  case atStart => exact ⟨0, rfl, Nat.zero_le _, rfl, Lib.hid ⟨World.ownsRow_nil _ _ _ _, Below.refl _ _⟩⟩
  case round =>
    obtain ⟨k, rfl, hk, rfl, H⟩ := hrel
    have hlen : ((P.drop a).take k).length = k := by have := HPB.out; rw [List.length_take, List.length_drop]; omega
    have ho := H.out.1
    unfold OwnPtrs at ho
    rw [hlen] at ho
    obtain ⟨av, cv, hav⟩ := Turn.own_slice ho
    subst hav
    by_cases hlt : k < b - a
    · obtain ⟨ρ, hρ⟩ : ∃ ρ, P[a + k]? = some ρ := ⟨_, List.getElem?_eq_getElem (by have := HPB.out; omega)⟩
      have HR := Lib.hid (row_in γ β (a + k) ρ P wr (HG.out.turn (Turn.of_new H.out.2 : Turn (fun _ => False) w wr) id id) hρ)
      have htk : (P.drop a).take (k + 1) = (P.drop a).take k ++ [ρ] := by
        rw [List.take_add_one, List.getElem?_drop, hρ]
        rfl
      have HTK := Lib.hid htk
      have HO := Lib.hid ho
      have hlt' : ((a + k : Nat) : Int) < (b : Int) := by omega
      have hsz := H.out.2.size
      clear hρ htk ho hlen
      generalize hak : a + k = ak at *
      have hak2 : ak < b := by omega
      go_wp2_with fail
      refine HR.out.mono ?_
      rintro e w1 ⟨rfl, rfl⟩
      go_wp2_with (at_builtin; (refine wpList_append_own _ rfl _ _ 135 rfl w.heap.size 128 i0 _ 1 8 Tryz.underlying135 hi hz0 hz1 hz2 rfl (by decide) (.slice av k cv) k _ rfl (HO.out.alloc _) ⟨wr.heap.size, 0, none⟩ 1 1 [ptr ρ] rfl rfl (cell_new1 _ _ _) (by simp [Value.oneCell']) (by unfold maxLen; omega) (by omega) (by simp; omega) ?_; intro v5 w5 hown5 hgrow5 _))
      have HN : Hid (OwnPtrs w.heap.size w5 v5 ((P.drop a).take (k + 1)) ∧ Below w.heap.size w w5) := Lib.hid (by
        refine ⟨?_, Below.grown (H.out.2.alloc H.out.2.size _) hgrow5 (by simp; omega) (fun g e => (HO.out.lt g e).1)⟩
        unfold OwnPtrs
        have hl2 : ((P.drop a).take (k + 1)).length = k + 1 := by have := HPB.out; rw [List.length_take, List.length_drop]; omega
        rw [hl2, HTK.out]
        simpa using hown5)
      clear hown5 hgrow5
      go_roundg (b - a - (k + 1))
      case measure => omega
      case rel => exact ⟨k + 1, rfl, by omega, by first | go_num | (congr 1; omega), HN⟩
    · obtain rfl : k = b - a := by omega
      have hnl : ¬ ((a + (b - a) : Nat) : Int) < (b : Int) := by omega
      have hnl2 : ¬ (a + (b - a) : Nat) < b := by omega
      have HF : Hid (OwnPtrs w.heap.size wr (.slice av (b - a) cv) ((P.drop a).take (b - a)) ∧ Below w.heap.size w wr) := H
      clear ho hlen
      go_wp2_with fail
      go_ret
      exact ⟨_, rfl, HF.out.1, HF.out.2⟩
end Go.Proofs.YtjicdcmdgbcdcaaGreatDoor.Scr
end
section
namespace Go.Proofs.YtjicdcmdgbcdcaaGreatDoor.Scr
set_option linter.unusedSimpArgs false
set_option linter.unusedVariables false
open Go Go.RowKit Mem Turn Ring

theorem bside_in (n : Int) (w : World) (h1 : 1 ≤ n) (h2 : n ≤ 1024) : Calls Tryz.prog 40 #[.int .i64 n] w fun e w' => e = .returned (.int .i64 n) ∧ w = w' := by
  by_cases h3 : n = 1
  · subst h3
    go_enter Tryz.func40, Tryz.ntmps40
    go_wp2_with fail
    all_goals
      go_ret
      exact ⟨rfl, rfl⟩
  · have h4 : 1 < n := by omega
    clear h3
    go_enter Tryz.func40, Tryz.ntmps40
    go_wp2_with fail
    all_goals
      go_ret
      exact ⟨rfl, rfl⟩
theorem most_in (a b : Nat) (w : World) (h1 : 1 ≤ a) (h2 : a ≤ 1024) (h3 : 1 ≤ b) (h4 : b ≤ 1024) : Calls Tryz.prog 12 #[.int .i64 (a : Int), .int .i64 (b : Int)] w fun e w' => e = .returned (.int .i64 ((a : Int) * (b : Int) * 16)) ∧ w = w' := by
  have HA := Lib.hid (bside_in a w (by omega) (by omega))
  have HB := Lib.hid (bside_in b w (by omega) (by omega))
  have hab : (a : Int) * (b : Int) ≤ 1048576 := by
    have : a * b ≤ 1024 * 1024 := Nat.mul_le_mul h2 h4
    have h5 : ((a * b : Nat) : Int) ≤ 1048576 := by omega
    rwa [Int.natCast_mul] at h5
  have hab0 : 0 ≤ (a : Int) * (b : Int) := Int.mul_nonneg (by omega) (by omega)
  have x1 : IntKind.i64.wrap ((a : Int) * (b : Int)) = (a : Int) * (b : Int) := IntWalk.i64_in _ (by omega)
  have x2 : IntKind.i64.wrap ((a : Int) * (b : Int) * 16) = (a : Int) * (b : Int) * 16 := IntWalk.i64_in _ (by omega)
  go_enter Tryz.func12, Tryz.ntmps12
  go_wp2_with fail
  refine HA.out.mono ?_
  rintro e wx ⟨rfl, rfl⟩
  go_wp2_with fail
  refine HB.out.mono ?_
  rintro e wx ⟨rfl, rfl⟩
  go_wp2_with fail
  go_ret
  exact ⟨rfl, rfl⟩
end Go.Proofs.YtjicdcmdgbcdcaaGreatDoor.Scr
end

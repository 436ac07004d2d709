/-
  cursor: side, held, Hold, Move, Return, Back.
  cursor: Move, Return, Back, Down, After.
  cursor: Back, Down.
  grids: High, Row, Wide, Set.
  cursor.Right.
-/
import Derived.Test.YtjicdcmdgbcdcaaGreatDoorCd13
import Derived.Deep.QuietTactic
import Derived.BigQuiet
section
namespace Go.Proofs.YtjicdcmdgbcdcaaGreatDoor.Scr
set_option linter.unusedSimpArgs false
set_option linter.unusedVariables false
open Go Go.RowKit Mem Turn Ring

theorem side_any (n : Int) (w : World) : Calls Tryz.prog 80 #[.int .i64 n] w fun e w' => e = .returned (.int .i64 (side n)) ∧ w = w' := by
  by_cases h1 : n ≤ 1
  · rw [show side n = 1 from by unfold side; omega]
    have h2 : n ≤ 1024 := by omega
    by_cases h3 : n = 1
    · subst h3
      clear h1 h2
      go_enter Tryz.func80, Tryz.ntmps80
      go_wp2_with fail
      go_ret
      exact ⟨rfl, rfl⟩
    · have h4 : n < 1 := by omega
      clear h3
      go_enter Tryz.func80, Tryz.ntmps80
      go_wp2_with fail
      go_ret
      exact ⟨rfl, rfl⟩
  · have h3 : 1 ≤ n := by omega
    by_cases h2 : n ≤ 1024
    · rw [show side n = n from by unfold side; omega]
      go_enter Tryz.func80, Tryz.ntmps80
      go_wp2_with fail
      go_ret
      exact ⟨rfl, rfl⟩
    · rw [show side n = 1024 from by unfold side; omega]
      go_enter Tryz.func80, Tryz.ntmps80
      go_wp2_with fail
      go_ret
      exact ⟨rfl, rfl⟩
theorem side_rng (n : Int) : 1 ≤ side n ∧ side n ≤ 1024 := by unfold side; omega
theorem held_any (n most : Int) (w : World) (h1 : 1 ≤ most) (h2 : most ≤ 1024) : Calls Tryz.prog 81 #[.int .i64 n, .int .i64 most] w fun e w' => e = .returned (.int .i64 (heldC n most)) ∧ w = w' := by
  obtain ⟨m, rfl⟩ : ∃ m : Int, most = m + 1 := ⟨most - 1, by omega⟩
  have h3 : 0 ≤ m := by omega
  by_cases h4 : n ≤ m
  · have h5 : decide (n ≤ m) = true := decide_eq_true h4
    by_cases h6 : n ≤ 0
    · rw [show heldC n (m + 1) = 0 from by unfold heldC; omega]
      by_cases h7 : n = 0
      · subst h7
        go_enter Tryz.func81, Tryz.ntmps81
        go_wp2_with fail
        go_ret
        exact ⟨rfl, rfl⟩
      · have h8 : n < 0 := by omega
        clear h7
        go_enter Tryz.func81, Tryz.ntmps81
        go_wp2_with fail
        go_ret
        exact ⟨rfl, rfl⟩
    · have h8 : 0 ≤ n := by omega
      rw [show heldC n (m + 1) = n from by unfold heldC; omega]
      go_enter Tryz.func81, Tryz.ntmps81
      go_wp2_with fail
      go_ret
      exact ⟨rfl, rfl⟩
  · have h5 : decide (n ≤ m) = false := decide_eq_false h4
    rw [show heldC n (m + 1) = m from by unfold heldC; omega]
    by_cases h9 : m = 0
    · subst h9
      have h10 : 0 < n := by omega
      go_enter Tryz.func81, Tryz.ntmps81
      go_wp2_with fail
      all_goals
        go_ret
        exact ⟨rfl, rfl⟩
    · have h10 : 0 < m := by omega
      clear h9 h3
      go_enter Tryz.func81, Tryz.ntmps81
      go_wp2_with fail
      all_goals
        go_ret
        exact ⟨rfl, rfl⟩
theorem size_cur (x y z : Value) : (Tryz.prog.info? 36).map (·.size) = some (#[x, y, z] : Array Value).size := by kernel_rfl
theorem one_cur (a b : Int) (c : Bool) : (#[.int .i64 a, .int .i64 b, .bool c] : Array Value).all (·.oneCell') = true := by simp [Value.oneCell']
abbrev curV (c : Cur) : Value := .agg #[.int .i64 c.row, .int .i64 c.col, .bool c.pend]

theorem cells3 {w : World} {q : Nat} {a b c : Value} {t : TypeId} (h : w.heap[q]? = some (.cells #[a, b, c] t (0, 0))) : w.cell? ⟨q, 0, none⟩ = some a ∧ w.cell? ⟨q, 1, none⟩ = some b ∧ w.cell? ⟨q, 2, none⟩ = some c :=
  ⟨by simp [World.cell?, h], by simp [World.cell?, h], by simp [World.cell?, h]⟩

set_option maxRecDepth 100000 in
set_option maxHeartbeats 8000000 in
theorem hold_any (row col : Int) (pend : Bool) (wd ht : Int) (w : World) :
    Calls Tryz.prog 39 #[.agg #[.int .i64 row, .int .i64 col, .bool pend], .int .i64 wd, .int .i64 ht] w fun e w' => e = .returned (curV (hold ⟨row, col, pend⟩ wd ht)) ∧ Below w.heap.size w w' := by
  have hmx : Tryz.prog.follows .mixedOrders = true := by kernel_rfl
  have HH := Lib.hid (show hold ⟨row, col, pend⟩ wd ht = ⟨heldC row (side ht), heldC col (side wd), pend && decide (col = side wd - 1)⟩ from rfl)
  have e1 := heap_alloc_new w (.cells #[.int .i64 row, .int .i64 col, .bool pend] 36)
  have e2 := hp_old (w.alloc (.cells #[.int .i64 row, .int .i64 col, .bool pend] 36)) (.cells #[.int .i64 0, .int .i64 0, .bool false] 36) w.heap.size (by simp)
  rw [e1] at e2
  have e3 := heap_alloc_new (w.alloc (.cells #[.int .i64 row, .int .i64 col, .bool pend] 36)) (.cells #[.int .i64 0, .int .i64 0, .bool false] 36)
  rw [World.size_alloc] at e3
  have HB : Hid (Below w.heap.size w ((w.alloc (.cells #[.int .i64 row, .int .i64 col, .bool pend] 36)).alloc (.cells #[.int .i64 0, .int .i64 0, .bool false] 36))) := Lib.hid (((Below.refl _ _).alloc (Nat.le_refl _) _).alloc (by simp) _)
  have HS1 := Lib.hid (fun W => side_any wd W)
  have HS2 := Lib.hid (fun W => side_any ht W)
  obtain ⟨r1, r2⟩ := side_rng wd
  obtain ⟨r3, r4⟩ := side_rng ht
  have HC1 := Lib.hid (fun W => held_any row (side ht) W r3 r4)
  have HC2 := Lib.hid (fun W => held_any col (side wd) W r1 r2)
  generalize side wd = sw at *
  generalize side ht = sh at *
  have hz : (col == sw - 1) = decide (col = sw - 1) := by rw [Bool.eq_iff_iff]; simp
  generalize hbb : decide (col = sw - 1) = bb at *
  have HZ := Lib.hid hz
  clear e1 hbb hz
  go_enter Tryz.func39, Tryz.ntmps39
  go_upto_region 1 with fail
  generalize ((w.alloc (.cells #[.int .i64 row, .int .i64 col, .bool pend] 36)).alloc (.cells #[.int .i64 0, .int .i64 0, .bool false] 36)) = w1 at *
  go_wp2_with fail
  refine (HS1.out _).mono ?_
  rintro e wx ⟨rfl, rfl⟩
  go_wp2_with fail
  refine (HS2.out _).mono ?_
  rintro e wx ⟨rfl, rfl⟩
  go_upto_region 2 with fail
  have hS : w1.drew.cell? ⟨w.heap.size, 0, none⟩ = some (.int .i64 row) ∧ w1.drew.cell? ⟨w.heap.size, 1, none⟩ = some (.int .i64 col) ∧ w1.drew.cell? ⟨w.heap.size, 2, none⟩ = some (.bool pend) := cells3 e2
  have HE3 : Hid (w1.drew.heap[w.heap.size + 1]? = some (.cells #[.int .i64 0, .int .i64 0, .bool false] 36 (0, 0))) := Lib.hid e3
  have HB1 : Hid (Below w.heap.size w w1.drew) := Lib.hid HB.out.drew
  refine region_begin3 (fun w' => w'.cell? ⟨w.heap.size, 0, none⟩ = some (.int .i64 row) ∧ w'.cell? ⟨w.heap.size, 1, none⟩ = some (.int .i64 col) ∧ w'.cell? ⟨w.heap.size, 2, none⟩ = some (.bool pend)) (fun j => j == 18) 19 rfl hmx (by intro _ _ d _ _ h; cases d <;> exact h) fun hQP => ?_
  clear e2 e3 HB HS1 HS2
  generalize w1.drew = w2 at *
  have hS' := hS
  cases pend
  all_goals (try rw [Bool.false_and] at HH); (try rw [Bool.true_and] at HH)
  · skip
    refine take_f 0 11 rfl rfl (by kernel_rfl) (by kernel_rfl) (by kernel_rfl) (by kernel_rfl) hQP hS (.inl ⟨by kernel_rfl, fun w' hw' => by obtain ⟨e0, e1, e2⟩ := hw'; go_simp; try with_reducible rfl⟩) ?_
    refine take_f 1 12 rfl rfl (by kernel_rfl) (by kernel_rfl) (by kernel_rfl) (by kernel_rfl) hQP hS (.inl ⟨by kernel_rfl, fun w' hw' => by obtain ⟨e0, e1, e2⟩ := hw'; go_simp; try with_reducible rfl⟩) ?_
    refine take_f 2 13 rfl rfl (by kernel_rfl) (by kernel_rfl) (by kernel_rfl) (by kernel_rfl) hQP hS (.inl ⟨by kernel_rfl, fun w' hw' => by obtain ⟨e0, e1, e2⟩ := hw'; go_simp; try with_reducible rfl⟩) ?_
    refine take_f 4 15 rfl rfl (by kernel_rfl) (by kernel_rfl) (by kernel_rfl) (by kernel_rfl) hQP hS (.inl ⟨by kernel_rfl, fun w' hw' => by obtain ⟨e0, e1, e2⟩ := hw'; go_simp; try with_reducible rfl⟩) ?_
    refine take_f 5 16 rfl rfl (by kernel_rfl) (by kernel_rfl) (by kernel_rfl) (by kernel_rfl) hQP hS (.inl ⟨by kernel_rfl, fun w' hw' => by obtain ⟨e0, e1, e2⟩ := hw'; go_simp; try with_reducible rfl⟩) ?_
    refine take_f 6 17 rfl rfl (by kernel_rfl) (by kernel_rfl) (by kernel_rfl) (by kernel_rfl) hQP hS (.inl ⟨by kernel_rfl, fun w' hw' => by obtain ⟨e0, e1, e2⟩ := hw'; go_simp; try with_reducible rfl⟩) ?_
    refine take_f 8 19 rfl rfl (by kernel_rfl) (by kernel_rfl) (by kernel_rfl) (by kernel_rfl) hQP hS (.inl ⟨by kernel_rfl, fun w' hw' => by obtain ⟨e0, e1, e2⟩ := hw'; go_simp; try with_reducible rfl⟩) ?_
    refine take_f 9 20 rfl rfl (by kernel_rfl) (by kernel_rfl) (by kernel_rfl) (by kernel_rfl) hQP hS (.inl ⟨by kernel_rfl, fun w' hw' => by obtain ⟨e0, e1, e2⟩ := hw'; go_simp; try with_reducible rfl⟩) ?_
    try simp only [List.setIfInBounds_toArray, List.set_cons_succ, List.set_cons_zero]
    refine take_g (i := 3) (by kernel_rfl) rfl (by kernel_rfl) fun KQ hK => ?_
    go_wp2_with fail
    refine (HC1.out _).mono ?_
    rintro e wx ⟨rfl, rfl⟩
    refine hK _ _ (.inr hS) ?_
    clear hK HC1
    refine take_g (i := 7) (by kernel_rfl) rfl (by kernel_rfl) fun KQ hK => ?_
    go_wp2_with fail
    refine (HC2.out _).mono ?_
    rintro e wx ⟨rfl, rfl⟩
    refine hK _ _ (.inr hS) ?_
    clear hK HC2
    refine take_f 10 21 rfl rfl (by kernel_rfl) (by kernel_rfl) (by kernel_rfl) (by kernel_rfl) hQP hS (.inl ⟨by kernel_rfl, fun w' hw' => by obtain ⟨e0, e1, e2⟩ := hw'; go_simp; try with_reducible rfl⟩) ?_
    refine take_f 11 22 rfl rfl (by kernel_rfl) (by kernel_rfl) (by kernel_rfl) (by kernel_rfl) hQP hS (.inr ⟨by kernel_rfl, rfl⟩) ?_
    refine take_f 12 23 rfl rfl (by kernel_rfl) (by kernel_rfl) (by kernel_rfl) (by kernel_rfl) hQP hS (.inr ⟨by kernel_rfl, rfl⟩) ?_
    refine take_f 13 24 rfl rfl (by kernel_rfl) (by kernel_rfl) (by kernel_rfl) (by kernel_rfl) hQP hS (.inr ⟨by kernel_rfl, rfl⟩) ?_
    refine take_f 14 25 rfl rfl (by kernel_rfl) (by kernel_rfl) (by kernel_rfl) (by kernel_rfl) hQP hS (.inr ⟨by kernel_rfl, rfl⟩) ?_
    refine take_f 15 26 rfl rfl (by kernel_rfl) (by kernel_rfl) (by kernel_rfl) (by kernel_rfl) hQP hS (.inr ⟨by kernel_rfl, rfl⟩) ?_
    refine take_f 16 27 rfl rfl (by kernel_rfl) (by kernel_rfl) (by kernel_rfl) (by kernel_rfl) hQP hS (.inl ⟨by kernel_rfl, fun w' hw' => by obtain ⟨e0, e1, e2⟩ := hw'; go_simp; try with_reducible rfl⟩) ?_
    refine take_one (i := 17) (by kernel_rfl) rfl rfl fun KQ hK => ?_
    go_wp2_with fail
    refine hK _ _ (.inr hS) ?_
    clear hK
    refine take_store_row 18 (by kernel_rfl) rfl rfl rfl 36 (.tmp 6) (.tmp 28) rfl (w.heap.size + 1) #[.int .i64 (heldC row sh), .int .i64 (heldC col sw), .bool false] (by rfl) (by rfl) 36 #[.int .i64 0, .int .i64 0, .bool false] HE3.out (size_cur _ _ _) rfl (one_cur _ _ _) (.inl rfl) ?_
    refine take_done (by kernel_rfl) ?_ _
    have HF := Lib.hid (setRow_heap w2 (w.heap.size + 1) _ #[.int .i64 (heldC row sh), .int .i64 (heldC col sw), .bool false] 36 (0, 0) HE3.out)
    have HP := Lib.hid (HB1.out.trans ((turn_setRow w2 (w.heap.size + 1) #[.int .i64 (heldC row sh), .int .i64 (heldC col sw), .bool false]).below HB1.out.size (fun k e => by omega)))
    generalize (w2.setRow (w.heap.size + 1) #[.int .i64 (heldC row sh), .int .i64 (heldC col sw), .bool false]) = w3 at *
    go_wp2_with fail
    refine bodyPost_ret (results_cell_row rfl _ _ (w.heap.size + 1) 36 _ (0, 0) _ rfl HF.out Tryz.underlying36 rfl (size_cur _ _ _)) rfl ?_
    rw [HH.out]
    exact ⟨rfl, HP.out⟩
  · skip
    refine take_f 0 11 rfl rfl (by kernel_rfl) (by kernel_rfl) (by kernel_rfl) (by kernel_rfl) hQP hS (.inl ⟨by kernel_rfl, fun w' hw' => by obtain ⟨e0, e1, e2⟩ := hw'; go_simp; try with_reducible rfl⟩) ?_
    refine take_f 1 12 rfl rfl (by kernel_rfl) (by kernel_rfl) (by kernel_rfl) (by kernel_rfl) hQP hS (.inl ⟨by kernel_rfl, fun w' hw' => by obtain ⟨e0, e1, e2⟩ := hw'; go_simp; try with_reducible rfl⟩) ?_
    refine take_f 2 13 rfl rfl (by kernel_rfl) (by kernel_rfl) (by kernel_rfl) (by kernel_rfl) hQP hS (.inl ⟨by kernel_rfl, fun w' hw' => by obtain ⟨e0, e1, e2⟩ := hw'; go_simp; try with_reducible rfl⟩) ?_
    refine take_f 4 15 rfl rfl (by kernel_rfl) (by kernel_rfl) (by kernel_rfl) (by kernel_rfl) hQP hS (.inl ⟨by kernel_rfl, fun w' hw' => by obtain ⟨e0, e1, e2⟩ := hw'; go_simp; try with_reducible rfl⟩) ?_
    refine take_f 5 16 rfl rfl (by kernel_rfl) (by kernel_rfl) (by kernel_rfl) (by kernel_rfl) hQP hS (.inl ⟨by kernel_rfl, fun w' hw' => by obtain ⟨e0, e1, e2⟩ := hw'; go_simp; try with_reducible rfl⟩) ?_
    refine take_f 6 17 rfl rfl (by kernel_rfl) (by kernel_rfl) (by kernel_rfl) (by kernel_rfl) hQP hS (.inl ⟨by kernel_rfl, fun w' hw' => by obtain ⟨e0, e1, e2⟩ := hw'; go_simp; try with_reducible rfl⟩) ?_
    refine take_f 8 19 rfl rfl (by kernel_rfl) (by kernel_rfl) (by kernel_rfl) (by kernel_rfl) hQP hS (.inl ⟨by kernel_rfl, fun w' hw' => by obtain ⟨e0, e1, e2⟩ := hw'; go_simp; try with_reducible rfl⟩) ?_
    refine take_f 9 20 rfl rfl (by kernel_rfl) (by kernel_rfl) (by kernel_rfl) (by kernel_rfl) hQP hS (.inl ⟨by kernel_rfl, fun w' hw' => by obtain ⟨e0, e1, e2⟩ := hw'; go_simp; try with_reducible rfl⟩) ?_
    try simp only [List.setIfInBounds_toArray, List.set_cons_succ, List.set_cons_zero]
    refine take_g (i := 3) (by kernel_rfl) rfl (by kernel_rfl) fun KQ hK => ?_
    go_wp2_with fail
    refine (HC1.out _).mono ?_
    rintro e wx ⟨rfl, rfl⟩
    refine hK _ _ (.inr hS) ?_
    clear hK HC1
    refine take_g (i := 7) (by kernel_rfl) rfl (by kernel_rfl) fun KQ hK => ?_
    go_wp2_with fail
    refine (HC2.out _).mono ?_
    rintro e wx ⟨rfl, rfl⟩
    refine hK _ _ (.inr hS) ?_
    clear hK HC2
    refine take_f 10 21 rfl rfl (by kernel_rfl) (by kernel_rfl) (by kernel_rfl) (by kernel_rfl) hQP hS (.inl ⟨by kernel_rfl, fun w' hw' => by obtain ⟨e0, e1, e2⟩ := hw'; go_simp; try with_reducible rfl⟩) ?_
    refine take_f 11 22 rfl rfl (by kernel_rfl) (by kernel_rfl) (by kernel_rfl) (by kernel_rfl) hQP hS (.inl ⟨by kernel_rfl, fun w' hw' => by obtain ⟨e0, e1, e2⟩ := hw'; go_simp; try with_reducible rfl⟩) ?_
    refine take_f 12 23 rfl rfl (by kernel_rfl) (by kernel_rfl) (by kernel_rfl) (by kernel_rfl) hQP hS (.inl ⟨by kernel_rfl, fun w' hw' => by obtain ⟨e0, e1, e2⟩ := hw'; go_simp; try with_reducible rfl⟩) ?_
    refine take_f 13 24 rfl rfl (by kernel_rfl) (by kernel_rfl) (by kernel_rfl) (by kernel_rfl) hQP hS (.inl ⟨by kernel_rfl, fun w' hw' => by obtain ⟨e0, e1, e2⟩ := hw'; go_simp; try with_reducible rfl⟩) ?_
    refine take_f 14 25 rfl rfl (by kernel_rfl) (by kernel_rfl) (by kernel_rfl) (by kernel_rfl) hQP hS (.inl ⟨by kernel_rfl, fun w' hw' => by obtain ⟨e0, e1, e2⟩ := hw'; go_simp; try with_reducible rfl⟩) ?_
    refine take_f 15 26 rfl rfl (by kernel_rfl) (by kernel_rfl) (by kernel_rfl) (by kernel_rfl) hQP hS (.inl ⟨by kernel_rfl, fun w' hw' => by obtain ⟨e0, e1, e2⟩ := hw'; go_simp; try with_reducible rfl⟩) ?_
    refine take_f 16 27 rfl rfl (by kernel_rfl) (by kernel_rfl) (by kernel_rfl) (by kernel_rfl) hQP hS (.inl ⟨by kernel_rfl, fun w' hw' => by obtain ⟨e0, e1, e2⟩ := hw'; go_simp; try with_reducible rfl⟩) ?_
    refine take_one (i := 17) (by kernel_rfl) rfl rfl fun KQ hK => ?_
    go_wp2_with fail
    refine hK _ _ (.inr hS) ?_
    clear hK
    refine take_store_row 18 (by kernel_rfl) rfl rfl rfl 36 (.tmp 6) (.tmp 28) rfl (w.heap.size + 1) #[.int .i64 (heldC row sh), .int .i64 (heldC col sw), .bool (col == sw - 1)] (by rfl) (by rfl) 36 #[.int .i64 0, .int .i64 0, .bool false] HE3.out (size_cur _ _ _) rfl (one_cur _ _ _) (.inl rfl) ?_
    refine take_done (by kernel_rfl) ?_ _
    have HF := Lib.hid (setRow_heap w2 (w.heap.size + 1) _ #[.int .i64 (heldC row sh), .int .i64 (heldC col sw), .bool (col == sw - 1)] 36 (0, 0) HE3.out)
    have HP := Lib.hid (HB1.out.trans ((turn_setRow w2 (w.heap.size + 1) #[.int .i64 (heldC row sh), .int .i64 (heldC col sw), .bool (col == sw - 1)]).below HB1.out.size (fun k e => by omega)))
    generalize (w2.setRow (w.heap.size + 1) #[.int .i64 (heldC row sh), .int .i64 (heldC col sw), .bool (col == sw - 1)]) = w3 at *
    go_wp2_with fail
    refine bodyPost_ret (results_cell_row rfl _ _ (w.heap.size + 1) 36 _ (0, 0) _ rfl HF.out Tryz.underlying36 rfl (size_cur _ _ _)) rfl ?_
    rw [HH.out, ← HZ.out]
    exact ⟨rfl, HP.out⟩
end Go.Proofs.YtjicdcmdgbcdcaaGreatDoor.Scr
end
section
namespace Go.Proofs.YtjicdcmdgbcdcaaGreatDoor.Scr
set_option linter.unusedSimpArgs false
set_option linter.unusedVariables false
open Go Go.RowKit Mem Turn Ring

abbrev curA (a b : Int) (c : Bool) : Array Value := #[.int .i64 a, .int .i64 b, .bool c]
/-- two blocks: a cursor, and room for one -/
theorem two_curs (w : World) (a b : Int) (c : Bool) (W : World) (hW : W = (w.alloc (.cells (curA a b c) 36)).alloc (.cells (curA 0 0 false) 36)) :
    W.heap[w.heap.size]? = some (.cells (curA a b c) 36 (0, 0)) ∧ W.heap[w.heap.size + 1]? = some (.cells (curA 0 0 false) 36 (0, 0)) ∧ Below w.heap.size w W ∧ W.heap.size = w.heap.size + 2 := by
  subst hW
  have e1 := heap_alloc_new w (.cells (curA a b c) 36)
  have e2 := hp_old (w.alloc (.cells (curA a b c) 36)) (.cells (curA 0 0 false) 36) w.heap.size (by simp)
  rw [e1] at e2
  have e3 := heap_alloc_new (w.alloc (.cells (curA a b c) 36)) (.cells (curA 0 0 false) 36)
  rw [World.size_alloc] at e3
  exact ⟨e2, e3, ((Below.refl _ _).alloc (Nat.le_refl _) _).alloc (by simp) _, by simp⟩

set_option maxRecDepth 100000 in
set_option maxHeartbeats 4000000 in
theorem return_any (row col : Int) (pend : Bool) (w : World) :
    Calls Tryz.prog 127 #[.agg #[.int .i64 row, .int .i64 col, .bool pend]] w fun e w' => e = .returned (curV (returnC ⟨row, col, pend⟩)) ∧ Below w.heap.size w w' := by
  obtain ⟨e2, e3, hb, hs⟩ := two_curs w row col pend _ rfl
  have HB := Lib.hid hb
  have HS := Lib.hid hs
  clear hb hs
  go_enter Tryz.func127, Tryz.ntmps127
  go_upto_region 1 with fail
  generalize ((w.alloc (.cells #[.int .i64 row, .int .i64 col, .bool pend] 36)).alloc (.cells #[.int .i64 0, .int .i64 0, .bool false] 36)) = w1 at *
  obtain ⟨c0, c1, c2⟩ := cells3 e2
  go_wp2_with (refine wpList_store_row rfl 36 _ _ rfl (w.heap.size + 1) (curA row 0 false) rfl rfl _ _ e3 (size_cur _ _ _) rfl (one_cur _ _ _) ?_)
  refine bodyPost_ret (results_cell_row rfl _ _ (w.heap.size + 1) 36 _ (0, 0) _ rfl (setRow_heap w1 (w.heap.size + 1) _ (curA row 0 false) 36 (0, 0) e3) Tryz.underlying36 rfl (size_cur _ _ _)) rfl ?_
  exact ⟨rfl, HB.out.trans ((turn_setRow _ _ _).below HB.out.size (fun k e => by omega))⟩

set_option maxRecDepth 100000 in
set_option maxHeartbeats 4000000 in
theorem move_any (row col wd ht : Int) (w : World) :
    Calls Tryz.prog 73 #[.int .i64 row, .int .i64 col, .int .i64 wd, .int .i64 ht] w fun e w' => e = .returned (curV (moveC row col wd ht)) ∧ Below w.heap.size w w' := by
  have e1 := heap_alloc_new w (.cells (curA 0 0 false) 36)
  have HB : Hid (Below w.heap.size w (w.alloc (.cells (curA 0 0 false) 36))) := Lib.hid ((Below.refl _ _).alloc (Nat.le_refl _) _)
  have hs : (w.alloc (.cells (curA 0 0 false) 36)).heap.size = w.heap.size + 1 := by simp
  have HH := Lib.hid (hold_any row col false wd ht (w.alloc (.cells (curA 0 0 false) 36)))
  have HM := Lib.hid (show moveC row col wd ht = hold ⟨row, col, false⟩ wd ht from rfl)
  generalize hold ⟨row, col, false⟩ wd ht = z at *
  obtain ⟨zr, zc, zp⟩ := z
  have HS := Lib.hid hs
  clear hs
  go_enter Tryz.func73, Tryz.ntmps73
  go_upto_region 1 with fail
  generalize (w.alloc (.cells #[.int .i64 0, .int .i64 0, .bool false] 36)) = w1 at *
  go_wp2_with fail
  refine HH.out.mono ?_
  rintro e w2 ⟨rfl, hb⟩
  have e3 := (hb.block _ (by have := HS.out; omega)).trans e1
  have HB2 := Lib.hid (HB.out.trans (hb.mono HB.out.size))
  clear hb e1
  go_wp2_with (refine wpList_store_row rfl 36 _ _ rfl w.heap.size (curA zr zc zp) rfl rfl _ _ e3 (size_cur _ _ _) rfl (one_cur _ _ _) ?_)
  refine bodyPost_ret (results_cell_row rfl _ _ w.heap.size 36 _ (0, 0) _ rfl (setRow_heap w2 w.heap.size _ (curA zr zc zp) 36 (0, 0) e3) Tryz.underlying36 rfl (size_cur _ _ _)) rfl ?_
  rw [HM.out]
  exact ⟨rfl, HB2.out.trans ((turn_setRow _ _ _).below HB2.out.size (fun k e => by omega))⟩

set_option maxRecDepth 100000 in
set_option maxHeartbeats 4000000 in
theorem after_any (row col : Int) (pend : Bool) (wide wd : Int) (auto : Bool) (w : World) (h1 : 1 ≤ wide) (h2 : wide ≤ 2) (hc1 : -1000000 ≤ col) (hc2 : col ≤ 1000000) :
    Calls Tryz.prog 163 #[.agg #[.int .i64 row, .int .i64 col, .bool pend], .int .i64 wide, .int .i64 wd, .bool auto] w fun e w' => e = .returned (curV (afterC ⟨row, col, pend⟩ wide wd auto)) ∧ Below w.heap.size w w' := by
  obtain ⟨e2, e3, hb, hs⟩ := two_curs w row col pend _ rfl
  have HB := Lib.hid hb
  have HS := Lib.hid hs
  have HSD := Lib.hid (fun W => side_any wd W)
  obtain ⟨r1, r2⟩ := side_rng wd
  have HA := Lib.hid (show afterC ⟨row, col, pend⟩ wide wd auto = if col < side wd - wide then ⟨row, col + wide, false⟩ else ⟨row, side wd - 1, auto⟩ from by
    unfold afterC
    rw [show max 1 (min wide 2) = wide from by omega])
  generalize side wd = sw at *
  clear hb hs
  have hw : wide = 1 ∨ wide = 2 := by omega
  rcases hw with rfl | rfl
  · clear h1 h2
    by_cases hlt : col < sw - 1
    · have HA2 : Hid (afterC ⟨row, col, pend⟩ 1 wd auto = ⟨row, col + 1, false⟩) := Lib.hid (by rw [HA.out, if_pos hlt])
      go_enter Tryz.func163, Tryz.ntmps163
      go_upto_region 1 with fail
      generalize ((w.alloc (.cells #[.int .i64 row, .int .i64 col, .bool pend] 36)).alloc (.cells #[.int .i64 0, .int .i64 0, .bool false] 36)) = w1 at *
      obtain ⟨c0, c1, c2⟩ := cells3 e2
      go_wp2_with fail
      all_goals
        refine (HSD.out _).mono ?_
        rintro e wx ⟨rfl, rfl⟩
        go_wp2_with (refine wpList_store_row rfl 36 _ _ rfl (w.heap.size + 1) (curA row (col + 1) false) rfl rfl _ _ e3 (size_cur _ _ _) rfl (one_cur _ _ _) ?_)
        refine bodyPost_ret (results_cell_row rfl _ _ (w.heap.size + 1) 36 _ (0, 0) _ rfl (setRow_heap w1 (w.heap.size + 1) _ (curA row (col + 1) false) 36 (0, 0) e3) Tryz.underlying36 rfl (size_cur _ _ _)) rfl ?_
        rw [HA2.out]
        exact ⟨rfl, HB.out.trans ((turn_setRow _ _ _).below HB.out.size (fun k e => by omega))⟩
    · have HA2 : Hid (afterC ⟨row, col, pend⟩ 1 wd auto = ⟨row, sw - 1, auto⟩) := Lib.hid (by rw [HA.out, if_neg hlt])
      go_enter Tryz.func163, Tryz.ntmps163
      go_upto_region 1 with fail
      generalize ((w.alloc (.cells #[.int .i64 row, .int .i64 col, .bool pend] 36)).alloc (.cells #[.int .i64 0, .int .i64 0, .bool false] 36)) = w1 at *
      obtain ⟨c0, c1, c2⟩ := cells3 e2
      go_wp2_with fail
      all_goals
        refine (HSD.out _).mono ?_
        rintro e wx ⟨rfl, rfl⟩
        go_wp2_with (refine wpList_store_row rfl 36 _ _ rfl (w.heap.size + 1) (curA row (sw - 1) auto) rfl rfl _ _ e3 (size_cur _ _ _) rfl (one_cur _ _ _) ?_)
        refine bodyPost_ret (results_cell_row rfl _ _ (w.heap.size + 1) 36 _ (0, 0) _ rfl (setRow_heap w1 (w.heap.size + 1) _ (curA row (sw - 1) auto) 36 (0, 0) e3) Tryz.underlying36 rfl (size_cur _ _ _)) rfl ?_
        rw [HA2.out]
        exact ⟨rfl, HB.out.trans ((turn_setRow _ _ _).below HB.out.size (fun k e => by omega))⟩
  · clear h1 h2
    by_cases hlt : col < sw - 2
    · have HA2 : Hid (afterC ⟨row, col, pend⟩ 2 wd auto = ⟨row, col + 2, false⟩) := Lib.hid (by rw [HA.out, if_pos hlt])
      go_enter Tryz.func163, Tryz.ntmps163
      go_upto_region 1 with fail
      generalize ((w.alloc (.cells #[.int .i64 row, .int .i64 col, .bool pend] 36)).alloc (.cells #[.int .i64 0, .int .i64 0, .bool false] 36)) = w1 at *
      obtain ⟨c0, c1, c2⟩ := cells3 e2
      go_wp2_with fail
      all_goals
        refine (HSD.out _).mono ?_
        rintro e wx ⟨rfl, rfl⟩
        go_wp2_with (refine wpList_store_row rfl 36 _ _ rfl (w.heap.size + 1) (curA row (col + 2) false) rfl rfl _ _ e3 (size_cur _ _ _) rfl (one_cur _ _ _) ?_)
        refine bodyPost_ret (results_cell_row rfl _ _ (w.heap.size + 1) 36 _ (0, 0) _ rfl (setRow_heap w1 (w.heap.size + 1) _ (curA row (col + 2) false) 36 (0, 0) e3) Tryz.underlying36 rfl (size_cur _ _ _)) rfl ?_
        rw [HA2.out]
        exact ⟨rfl, HB.out.trans ((turn_setRow _ _ _).below HB.out.size (fun k e => by omega))⟩
    · have HA2 : Hid (afterC ⟨row, col, pend⟩ 2 wd auto = ⟨row, sw - 1, auto⟩) := Lib.hid (by rw [HA.out, if_neg hlt])
      go_enter Tryz.func163, Tryz.ntmps163
      go_upto_region 1 with fail
      generalize ((w.alloc (.cells #[.int .i64 row, .int .i64 col, .bool pend] 36)).alloc (.cells #[.int .i64 0, .int .i64 0, .bool false] 36)) = w1 at *
      obtain ⟨c0, c1, c2⟩ := cells3 e2
      go_wp2_with fail
      all_goals
        refine (HSD.out _).mono ?_
        rintro e wx ⟨rfl, rfl⟩
        go_wp2_with (refine wpList_store_row rfl 36 _ _ rfl (w.heap.size + 1) (curA row (sw - 1) auto) rfl rfl _ _ e3 (size_cur _ _ _) rfl (one_cur _ _ _) ?_)
        refine bodyPost_ret (results_cell_row rfl _ _ (w.heap.size + 1) 36 _ (0, 0) _ rfl (setRow_heap w1 (w.heap.size + 1) _ (curA row (sw - 1) auto) 36 (0, 0) e3) Tryz.underlying36 rfl (size_cur _ _ _)) rfl ?_
        rw [HA2.out]
        exact ⟨rfl, HB.out.trans ((turn_setRow _ _ _).below HB.out.size (fun k e => by omega))⟩
end Go.Proofs.YtjicdcmdgbcdcaaGreatDoor.Scr
end
section
namespace Go.Proofs.YtjicdcmdgbcdcaaGreatDoor.Scr
set_option linter.unusedSimpArgs false
set_option linter.unusedVariables false
open Go Go.RowKit Mem Turn Ring

theorem heap_set3 {w : World} {q : Nat} {t : TypeId} {a b c : Value} (h : w.heap[q]? = some (.cells #[a, b, c] t (0, 0))) (v : Value) :
    (w.setCell ⟨q, 0, none⟩ v).heap[q]? = some (.cells #[v, b, c] t (0, 0)) ∧ (w.setCell ⟨q, 1, none⟩ v).heap[q]? = some (.cells #[a, v, c] t (0, 0)) ∧ (w.setCell ⟨q, 2, none⟩ v).heap[q]? = some (.cells #[a, b, v] t (0, 0)) := by
  refine ⟨?_, ?_, ?_⟩ <;>
  · simp only [World.setCell, Array.getElem?_modify]
    rw [if_pos trivial, h]
    simp

set_option maxRecDepth 100000 in
set_option maxHeartbeats 4000000 in
theorem back_any (row col : Int) (pend : Bool) (w : World) (hc1 : -1000000 ≤ col) (hc2 : col ≤ 1000000) :
    Calls Tryz.prog 166 #[.agg #[.int .i64 row, .int .i64 col, .bool pend]] w fun e w' => e = .returned (curV (backC ⟨row, col, pend⟩)) ∧ Below w.heap.size w w' := by
  obtain ⟨e2, e3, hb, hs⟩ := two_curs w row col pend _ rfl
  have HB := Lib.hid hb
  have HS := Lib.hid hs
  have HE2 := Lib.hid e2
  have HE3 := Lib.hid e3
  have HBC := Lib.hid (show backC ⟨row, col, pend⟩ = ⟨row, if 0 < col then col - 1 else col, false⟩ from rfl)
  clear hb hs e2 e3
  by_cases hp : 0 < col
  · rw [if_pos hp] at HBC
    go_enter Tryz.func166, Tryz.ntmps166
    go_upto_region 1 with fail
    generalize ((w.alloc (.cells #[.int .i64 row, .int .i64 col, .bool pend] 36)).alloc (.cells #[.int .i64 0, .int .i64 0, .bool false] 36)) = w1 at *
    obtain ⟨c0, c1, c2⟩ := cells3 HE2.out
    have f0 : w1.frozen? ⟨w.heap.size, 1, none⟩ = false := by simp [World.frozen?, HE2.out]
    have f2 : w1.frozen? ⟨w.heap.size, 2, none⟩ = false := by simp [World.frozen?, HE2.out]
    have T : Turn (fun b => b = w.heap.size) w1 ((w1.setCell ⟨w.heap.size, 2, none⟩ (.bool false)).setCell ⟨w.heap.size, 1, none⟩ (.int .i64 (col - 1))) := (Turn.setCell (T := fun b => b = w.heap.size) (p := ⟨w.heap.size, 2, none⟩) w1 _ rfl).trans (Turn.setCell (T := fun b => b = w.heap.size) (p := ⟨w.heap.size, 1, none⟩) _ _ rfl)
    have e4 := T.heap HE3.out (by omega)
    go_wp2_with (refine wpList_store_row rfl 36 _ _ rfl (w.heap.size + 1) (curA row (col - 1) false) rfl rfl _ _ e4 (size_cur _ _ _) rfl (one_cur _ _ _) ?_)
    refine bodyPost_ret (results_cell_row rfl _ _ (w.heap.size + 1) 36 _ (0, 0) _ rfl (setRow_heap _ (w.heap.size + 1) _ (curA row (col - 1) false) 36 (0, 0) e4) Tryz.underlying36 rfl (size_cur _ _ _)) rfl ?_
    rw [HBC.out]
    have hb2 := HB.out.trans (T.below HB.out.size (fun k e => by omega))
    exact ⟨rfl, hb2.trans ((turn_setRow _ _ _).below hb2.size (fun k e => by omega))⟩
  · rw [if_neg hp] at HBC
    go_enter Tryz.func166, Tryz.ntmps166
    go_upto_region 1 with fail
    generalize ((w.alloc (.cells #[.int .i64 row, .int .i64 col, .bool pend] 36)).alloc (.cells #[.int .i64 0, .int .i64 0, .bool false] 36)) = w1 at *
    obtain ⟨c0, c1, c2⟩ := cells3 HE2.out
    have f2 : w1.frozen? ⟨w.heap.size, 2, none⟩ = false := by simp [World.frozen?, HE2.out]
    have T : Turn (fun b => b = w.heap.size) w1 (w1.setCell ⟨w.heap.size, 2, none⟩ (.bool false)) := Turn.setCell (T := fun b => b = w.heap.size) (p := ⟨w.heap.size, 2, none⟩) w1 _ rfl
    have e4 := T.heap HE3.out (by omega)
    go_wp2_with (refine wpList_store_row rfl 36 _ _ rfl (w.heap.size + 1) (curA row col false) rfl rfl _ _ e4 (size_cur _ _ _) rfl (one_cur _ _ _) ?_)
    refine bodyPost_ret (results_cell_row rfl _ _ (w.heap.size + 1) 36 _ (0, 0) _ rfl (setRow_heap _ (w.heap.size + 1) _ (curA row col false) 36 (0, 0) e4) Tryz.underlying36 rfl (size_cur _ _ _)) rfl ?_
    rw [HBC.out]
    have hb2 := HB.out.trans (T.below HB.out.size (fun k e => by omega))
    exact ⟨rfl, hb2.trans ((turn_setRow _ _ _).below hb2.size (fun k e => by omega))⟩

/-- the next row, or the same: whether it is the last one -/
def downC (c : Cur) (h : Int) : Cur × Bool := if side h - 1 ≤ c.row then (⟨c.row, c.col, false⟩, true) else (⟨c.row + 1, c.col, false⟩, false)

set_option maxRecDepth 100000 in
set_option maxHeartbeats 4000000 in
theorem down_any (row col : Int) (pend : Bool) (h : Int) (w : World) (hc1 : -1000000 ≤ row) (hc2 : row ≤ 1000000) :
    Calls Tryz.prog 236 #[.agg #[.int .i64 row, .int .i64 col, .bool pend], .int .i64 h] w fun e w' => e = .returned (.tuple #[curV (downC ⟨row, col, pend⟩ h).1, .bool (downC ⟨row, col, pend⟩ h).2]) ∧ Below w.heap.size w w' := by
  obtain ⟨e2, e3, hb, hs⟩ := two_curs w row col pend _ rfl
  have HB := Lib.hid hb
  have HS := Lib.hid hs
  have HE2 := Lib.hid e2
  have HE3 := Lib.hid e3
  have HSD := Lib.hid (fun W => (side_any h W).mono (fun _ _ ⟨a, b⟩ => (⟨a, b.symm⟩ : _ ∧ _ = W)))
  obtain ⟨r1, r2⟩ := side_rng h
  have HD := Lib.hid (show downC ⟨row, col, pend⟩ h = if side h - 1 ≤ row then (⟨row, col, false⟩, true) else (⟨row + 1, col, false⟩, false) from rfl)
  generalize side h = sh at *
  clear hb hs e2 e3
  go_enter Tryz.func236, Tryz.ntmps236
  go_upto_region 1 with fail
  generalize ((w.alloc (.cells #[.int .i64 row, .int .i64 col, .bool pend] 36)).alloc (.cells #[.int .i64 0, .int .i64 0, .bool false] 36)) = w1 at *
  obtain ⟨c0, c1, c2⟩ := cells3 HE2.out
  have f2 : w1.frozen? ⟨w.heap.size, 2, none⟩ = false := by simp [World.frozen?, HE2.out]
  go_upto_region 2 with fail
  have T : Turn (fun b => b = w.heap.size) w1 (w1.setCell ⟨w.heap.size, 2, none⟩ (.bool false)) := Turn.setCell (T := fun b => b = w.heap.size) (p := ⟨w.heap.size, 2, none⟩) w1 _ rfl
  have e4 := T.heap HE3.out (by omega)
  have e5 := (heap_set3 HE2.out (.bool false)).2.2
  have HB2 := Lib.hid (HB.out.trans (T.below HB.out.size (fun k e => by omega)))
  clear T c0 c1 c2 f2
  generalize (w1.setCell ⟨w.heap.size, 2, none⟩ (.bool false)) = w2 at *
  obtain ⟨c0, c1, c2⟩ := cells3 e5
  have f0 : w2.frozen? ⟨w.heap.size, 0, none⟩ = false := by simp [World.frozen?, e5]
  have HE4 := Lib.hid e4
  have HE5 := Lib.hid e5
  clear e4 e5
  have x1 : IntKind.i64.wrap (sh - 1) = sh - 1 := IntWalk.i64_in _ (by omega)
  go_quiet ((go_at_call 80; exact Calls.quiet_of_same (HSD.out _)))
  clear x1
  have c0 : (w2.drewN nq).cell? ⟨w.heap.size, 0, none⟩ = some (.int .i64 row) := c0
  have c1 : (w2.drewN nq).cell? ⟨w.heap.size, 1, none⟩ = some (.int .i64 col) := c1
  have c2 : (w2.drewN nq).cell? ⟨w.heap.size, 2, none⟩ = some (.bool false) := c2
  have f0 : (w2.drewN nq).frozen? ⟨w.heap.size, 0, none⟩ = false := f0
  have e4 : (w2.drewN nq).heap[w.heap.size + 1]? = some (.cells (curA 0 0 false) 36 (0, 0)) := HE4.out
  have HB3 : Hid (Below w.heap.size w (w2.drewN nq)) := Lib.hid (HB2.out.trans ((bdrew w2 nq).mono HB2.out.size))
  generalize (w2.drewN nq) = w3 at *
  by_cases hl : sh - 1 ≤ row
  · rw [if_pos hl] at HD
    have d1 : decide (sh - 1 ≤ row) = true := decide_eq_true hl
    have hl2 : sh ≤ row + 1 := by omega
    go_wp2_with (refine wpList_store_row rfl 36 _ _ rfl (w.heap.size + 1) (curA row col false) rfl rfl _ _ e4 (size_cur _ _ _) rfl (one_cur _ _ _) ?_)
    refine bodyPost_ret (results_ct rfl _ _ (w.heap.size + 1) 36 _ (0, 0) _ rfl (setRow_heap _ (w.heap.size + 1) _ (curA row col false) 36 (0, 0) e4) Tryz.underlying36 rfl (size_cur _ _ _)) rfl ?_
    rw [HD.out]
    exact ⟨rfl, HB3.out.trans ((turn_setRow _ _ _).below HB3.out.size (fun k e => by omega))⟩
  · rw [if_neg hl] at HD
    have d1 : decide (sh - 1 ≤ row) = false := decide_eq_false hl
    have hl2 : row + 1 < sh := by omega
    have T : Turn (fun b => b = w.heap.size) w3 (w3.setCell ⟨w.heap.size, 0, none⟩ (.int .i64 (row + 1))) := Turn.setCell (T := fun b => b = w.heap.size) (p := ⟨w.heap.size, 0, none⟩) w3 _ rfl
    have e6 := T.heap e4 (by omega)
    clear e4
    go_wp2_with (refine wpList_store_row rfl 36 _ _ rfl (w.heap.size + 1) (curA (row + 1) col false) rfl rfl _ _ e6 (size_cur _ _ _) rfl (one_cur _ _ _) ?_)
    refine bodyPost_ret (results_ct rfl _ _ (w.heap.size + 1) 36 _ (0, 0) _ rfl (setRow_heap _ (w.heap.size + 1) _ (curA (row + 1) col false) 36 (0, 0) e6) Tryz.underlying36 rfl (size_cur _ _ _)) rfl ?_
    rw [HD.out]
    have hb2 := HB3.out.trans (T.below HB3.out.size (fun k e => by omega))
    exact ⟨rfl, hb2.trans ((turn_setRow _ _ _).below hb2.size (fun k e => by omega))⟩
end Go.Proofs.YtjicdcmdgbcdcaaGreatDoor.Scr
end
section
namespace Go.Proofs.YtjicdcmdgbcdcaaGreatDoor.Scr
set_option linter.unusedSimpArgs false
set_option linter.unusedVariables false
open Go Go.RowKit Mem Turn Ring

abbrev ptr (ρ : Nat) : Value := .pointer (some ⟨ρ, 0, none⟩)
/-- a grid: its block γ, its list's block β, its rows' blocks -/
structure GridAt (w : World) (γ β : Nat) (P : List Nat) : Prop where
  hdr : ∃ c, P.length ≤ c ∧ w.heap[γ]? = some (.cells #[.slice (some ⟨β, 0, none⟩) P.length c] 137 (0, 0))
  list : ∃ rest, w.heap[β]? = some (.cells (P.map ptr ++ rest).toArray 128 (0, 0))
  pos : 1 ≤ P.length
  le : P.length ≤ 1024
theorem GridAt.turn {w w' : World} {T : Nat → Prop} {γ β : Nat} {P : List Nat} (h : GridAt w γ β P) (ht : Turn T w w') (h1 : ¬ T γ) (h2 : ¬ T β) : GridAt w' γ β P := by
  obtain ⟨⟨c, h3, h4⟩, ⟨r, h5⟩, h6, h7⟩ := h
  exact ⟨⟨c, h3, ht.heap h4 h1⟩, ⟨r, ht.heap h5 h2⟩, h6, h7⟩
theorem GridAt.typ1 {w : World} {γ β : Nat} {P : List Nat} (h : GridAt w γ β P) : Typ w 137 γ := by
  obtain ⟨⟨c, h3, h4⟩, _⟩ := h
  exact ⟨_, _, h4⟩
theorem GridAt.typ2 {w : World} {γ β : Nat} {P : List Nat} (h : GridAt w γ β P) : Typ w 128 β := by
  obtain ⟨_, ⟨r, h5⟩, _⟩ := h
  exact ⟨_, _, h5⟩
theorem GridAt.cell {w : World} {γ β : Nat} {P : List Nat} (h : GridAt w γ β P) {i ρ : Nat} (hi : P[i]? = some ρ) : w.cell? ⟨β, i, none⟩ = some (ptr ρ) ∧ w.frozen? ⟨β, i, none⟩ = false := by
  obtain ⟨_, ⟨r, h5⟩, _⟩ := h
  have hl := (List.getElem?_eq_some_iff.1 hi).1
  refine ⟨?_, by simp [World.frozen?, h5]⟩
  have : (P.map ptr ++ r)[i]? = some (ptr ρ) := by
    rw [List.getElem?_append_left (by simpa using hl), List.getElem?_map, hi]
    rfl
  simp only [World.cell?, h5]
  simpa using this
theorem GridAt.set {w : World} {γ β : Nat} {P : List Nat} (h : GridAt w γ β P) {i : Nat} (hi : i < P.length) (ρ : Nat) : GridAt (w.setCell ⟨β, i, none⟩ (ptr ρ)) γ β (P.set i ρ) := by
  have hne : γ ≠ β := h.typ1.ne h.typ2 (by decide)
  obtain ⟨⟨c, h3, h4⟩, ⟨r, h5⟩, h6, h7⟩ := h
  have T : Turn (fun b => b = β) w (w.setCell ⟨β, i, none⟩ (ptr ρ)) := Turn.setCell _ _ rfl
  refine ⟨⟨c, by rw [List.length_set]; exact h3, by rw [List.length_set]; exact T.heap h4 hne⟩, ⟨r, ?_⟩, by rw [List.length_set]; exact h6, by rw [List.length_set]; exact h7⟩
  rw [heap_set1 h5, List.set_append_left _ _ (by simpa using hi), ← List.map_set]

theorem high_any (γ β : Nat) (P : List Nat) (w : World) (h : GridAt w γ β P) : Calls Tryz.prog 37 #[ptr γ] w fun e w' => e = .returned (.int .i64 (P.length : Int)) ∧ w = w' := by
  obtain ⟨⟨c, h3, h4⟩, _⟩ := h
  have c0 : w.cell? ⟨γ, 0, none⟩ = some (.slice (some ⟨β, 0, none⟩) P.length c) := by simp [World.cell?, h4]
  generalize P.length = n at *
  clear h4
  go_enter Tryz.func37, Tryz.ntmps37
  go_wp2
  go_ret
  exact ⟨rfl, rfl⟩
theorem row_in (γ β i ρ : Nat) (P : List Nat) (w : World) (h : GridAt w γ β P) (hi : P[i]? = some ρ) : Calls Tryz.prog 70 #[ptr γ, .int .i64 (i : Int)] w fun e w' => e = .returned (ptr ρ) ∧ w = w' := by
  have HH := Lib.hid (high_any γ β P w h)
  obtain ⟨x0, _⟩ := h.cell hi
  have hl := (List.getElem?_eq_some_iff.1 hi).1
  have hle := h.le
  obtain ⟨⟨c, h3, h4⟩, _⟩ := h
  have c0 : w.cell? ⟨γ, 0, none⟩ = some (.slice (some ⟨β, 0, none⟩) P.length c) := by simp [World.cell?, h4]
  generalize P.length = n at *
  have d1 : decide ((n : Int) ≤ (i : Int)) = false := decide_eq_false (by omega)
  have d2 : decide (n ≤ i) = false := decide_eq_false (by omega)
  clear h4 hi
  go_enter Tryz.func70, Tryz.ntmps70
  go_wp2_with fail
  refine HH.out.mono ?_
  rintro e w1 ⟨rfl, rfl⟩
  go_wp2_with fail
  go_ret
  exact ⟨rfl, rfl⟩
theorem row_out (γ β : Nat) (i : Int) (P : List Nat) (w : World) (h : GridAt w γ β P) (hi : i < 0 ∨ (P.length : Int) ≤ i) : Calls Tryz.prog 70 #[ptr γ, .int .i64 i] w fun e w' => e = .returned (.pointer none) ∧ w = w' := by
  have HH := Lib.hid (high_any γ β P w h)
  generalize P.length = n at *
  clear h
  by_cases h0 : i < 0
  · go_enter Tryz.func70, Tryz.ntmps70
    go_wp2_with fail
    go_ret
    exact ⟨rfl, rfl⟩
  · have d1 : decide ((n : Int) ≤ i) = true := decide_eq_true (by omega)
    have h1 : 0 ≤ i := by omega
    go_enter Tryz.func70, Tryz.ntmps70
    go_wp2_with fail
    refine HH.out.mono ?_
    rintro e w1 ⟨rfl, rfl⟩
    go_wp2_with fail
    go_ret
    exact ⟨rfl, rfl⟩
/-- each row is a row, all of one width -/
def AllRows (w : World) (P : List Nat) (W : Nat) : Prop := ∀ ρ ∈ P, ∃ κ l, RowAt w ρ κ l ∧ l.1.length = W
theorem gwide_any (γ β W : Nat) (P : List Nat) (w : World) (h : GridAt w γ β P) (ha : AllRows w P W) : Calls Tryz.prog 36 #[ptr γ] w fun e w' => e = .returned (.int .i64 (W : Int)) ∧ w = w' := by
  obtain ⟨ρ, hρ⟩ : ∃ ρ, P[0]? = some ρ := ⟨_, List.getElem?_eq_getElem h.pos⟩
  have HR := Lib.hid (row_in γ β 0 ρ P w h hρ)
  obtain ⟨κ, l, h1, h2⟩ := ha ρ (List.mem_of_getElem? hρ)
  have HW := Lib.hid (wide_any ρ κ l w h1)
  rw [h2] at HW
  clear h ha hρ h1 h2
  go_enter Tryz.func36, Tryz.ntmps36
  go_wp2_with fail
  refine HR.out.mono ?_
  rintro e w1 ⟨rfl, rfl⟩
  go_wp2_with fail
  refine HW.out.mono ?_
  rintro e w1 ⟨rfl, rfl⟩
  go_wp2_with fail
  go_ret
  exact ⟨rfl, rfl⟩
theorem set_any (γ β i ρ κ W : Nat) (P : List Nat) (l : LineC) (w : World) (h : GridAt w γ β P) (ha : AllRows w P W) (hi : i < P.length) (hr : RowAt w ρ κ l) (hw : l.1.length = W) : Calls Tryz.prog 71 #[ptr γ, .int .i64 (i : Int), ptr ρ] w fun e w' => e = .returned (.bool true) ∧ GridAt w' γ β (P.set i ρ) ∧ Turn (fun b => b = β) w w' := by
  obtain ⟨ρ0, hρ⟩ : ∃ ρ, P[i]? = some ρ := ⟨_, List.getElem?_eq_getElem hi⟩
  have HR := Lib.hid (row_in γ β i ρ0 P w h hρ)
  obtain ⟨κ0, l0, h1, h2⟩ := ha ρ0 (List.mem_of_getElem? hρ)
  have HW0 := Lib.hid (wide_any ρ0 κ0 l0 w h1)
  rw [h2] at HW0
  have HW1 := Lib.hid (wide_any ρ κ l w hr)
  rw [hw] at HW1
  obtain ⟨x0, y0⟩ := h.cell hρ
  have HS : Hid (GridAt (w.setCell ⟨β, i, none⟩ (ptr ρ)) γ β (P.set i ρ) ∧ Turn (fun b => b = β) w (w.setCell ⟨β, i, none⟩ (ptr ρ))) := Lib.hid ⟨h.set hi ρ, Turn.setCell _ _ rfl⟩
  have hle := h.le
  obtain ⟨⟨c, h3, h4⟩, _⟩ := h
  have c0 : w.cell? ⟨γ, 0, none⟩ = some (.slice (some ⟨β, 0, none⟩) P.length c) := by simp [World.cell?, h4]
  generalize P.length = n at *
  clear h4 hρ ha h1 h2 hr hw
  go_enter Tryz.func71, Tryz.ntmps71
  go_wp2_with fail
  refine HR.out.mono ?_
  rintro e w1 ⟨rfl, rfl⟩
  go_wp2_with fail
  refine HW0.out.mono ?_
  rintro e w1 ⟨rfl, rfl⟩
  go_wp2_with fail
  refine HW1.out.mono ?_
  rintro e w1 ⟨rfl, rfl⟩
  go_wp2_with fail
  go_ret
  exact ⟨rfl, HS.out.1, HS.out.2⟩
end Go.Proofs.YtjicdcmdgbcdcaaGreatDoor.Scr
end
section
namespace Go.Proofs.YtjicdcmdgbcdcaaGreatDoor.Scr
set_option linter.unusedSimpArgs false
set_option linter.unusedVariables false
open Go Go.RowKit Mem Turn Ring

end Go.Proofs.YtjicdcmdgbcdcaaGreatDoor.Scr
end

/-
  scroll: Up.
  scroll: Down.
-/
import Derived.Test.YtjicdcmdgbcdcaaGreatDoorCd2
import Derived.Test.YtjicdcmdgbcdcaaGreatDoorCd15

section
namespace Go.Proofs.YtjicdcmdgbcdcaaGreatDoor.Scr
set_option linter.unusedSimpArgs false
set_option linter.unusedVariables false
open Go Go.RowKit Mem Turn Ring

set_option maxRecDepth 100000 in
set_option maxHeartbeats 8000000 in
theorem up_any (γ β W f : Nat) (n : Int) (X : Nat → Prop) (Q : List (Nat × Nat)) (L : List LineC) (w : World) (h : GridAt w γ β (Q.map (·.1))) (hr : RowsAt w X Q L W) (hf : f < Q.length) (hW1 : 1 ≤ W) (hW2 : W ≤ 1024) :
    Calls Tryz.prog 125 #[ptr γ, .int .i64 (f : Int), .int .i64 (Q.length : Int), .int .i64 n] w fun e w' => e = .returned (.tuple #[]) ∧ Scrolled w X γ β W (upR L f n W) w' := by
  obtain ⟨i0, hi, hz0, hz1, hz2⟩ := info_parts info_ptr
  have hmx : Tryz.prog.follows .mixedOrders = true := by kernel_rfl
  have hle := h.le
  rw [List.length_map] at hle
  have HOF : Hid (Calls Tryz.prog 185 #[ptr γ, .int .i64 (f : Int), .int .i64 (Q.length : Int), .int .i64 n] w fun e w' => e = .returned (.tuple #[.agg (strA f Q.length (min n ((Q.length : Int) - (f : Int)))), .bool (decide (0 < n))]) ∧ Below w.heap.size w w') := Lib.hid (by
    have := of_any γ β (f : Int) n _ w h (by omega) (by rw [List.length_map]; omega)
    rw [List.length_map] at this
    exact this)
  have HG := Lib.hid h
  have HRS := Lib.hid hr
  have HLL : Hid (L.length = Q.length) := Lib.hid hr.len.symm
  obtain ⟨H, hH⟩ : ∃ H, H = Q.length := ⟨_, rfl⟩
  rw [← hH] at hf hle HOF ⊢
  have HH := Lib.hid hH
  obtain ⟨m, hm⟩ : ∃ m, m = min n ((H : Int) - (f : Int)) := ⟨_, rfl⟩
  rw [← hm] at HOF
  have HM := Lib.hid hm
  have hβ := h.typ2.lt
  clear h hr hH hm
  by_cases hn : 0 < n
  · obtain ⟨k, rfl⟩ : ∃ k : Nat, m = (k : Int) := ⟨m.toNat, by have := HM.out; omega⟩
    have hk1 : 1 ≤ k := by have := HM.out; omega
    have hk2 : f + k ≤ H := by have := HM.out; omega
    have HUP : Hid (upR L f n W = cutAt f (L.take f ++ (L.drop (f + k) ++ List.replicate k (blanks W, false)))) := Lib.hid (by
      unfold upR
      rw [if_neg (by omega), HLL.out, ← HH.out, ← HM.out, Int.toNat_natCast])
    have dn : decide (0 < n) = true := decide_eq_true hn
    rw [dn] at HOF
    go_enter Tryz.func125, Tryz.ntmps125
    go_wp2_with fail
    refine HOF.out.mono ?_
    rintro e w1 ⟨rfl, hb1⟩
    have hnew : (w1.alloc (.cells (strA 0 0 0) 256)).heap[w1.heap.size]? = some (.cells (strA 0 0 0) 256 (0, 0)) := heap_alloc_new w1 _
    have hrow : (w1.alloc (.cells (strA 0 0 0) 256)).setRow w1.heap.size (strA f H k) = w1.alloc (.cells (strA f H k) 256) := World.setRow_alloc_new w1 _ _ _
    go_upto_region 2 with (refine wpList_store_row rfl 256 _ _ rfl w1.heap.size (strA f H k) rfl rfl _ _ hnew (size_str _ _ _) rfl (one_str _ _ _) ?_)
    try rw [hrow]
    have e2 := heap_alloc_new w1 (.cells (strA f H k) 256)
    have T2 : Turn (fun _ => False) w (w1.alloc (.cells (strA f H k) 256)).drew := ((Turn.of_new hb1).trans (Turn.alloc _ _ _)).trans (Turn.drew _ _)
    have hs1 := hb1.size
    have hsz2 : w1.heap.size < (w1.alloc (.cells (strA f H k) 256)).drew.heap.size := by show w1.heap.size < (w1.alloc (.cells (strA f H k) 256)).heap.size; simp
    obtain ⟨c0, c1, c2⟩ := cells3 e2
    have HT2 := Lib.hid T2
    clear hnew hrow T2 HOF hb1
    have xw : IntKind.i64.wrap ((f : Int) + (k : Int)) = (f : Int) + (k : Int) := IntWalk.i64_in _ (by omega)
    refine region_begin3 (fun w' => w'.cell? ⟨w1.heap.size, 0, none⟩ = some (.int .i64 (f : Int)) ∧ w'.cell? ⟨w1.heap.size, 1, none⟩ = some (.int .i64 (H : Int)) ∧ w'.cell? ⟨w1.heap.size, 2, none⟩ = some (.int .i64 (k : Int))) (fun _ => false) 17 rfl hmx (by intro _ _ d _ _ h; cases d <;> exact h) fun hQP => ?_
    have hS : (w1.alloc (.cells (strA f H k) 256)).drew.cell? ⟨w1.heap.size, 0, none⟩ = some (.int .i64 (f : Int)) ∧ (w1.alloc (.cells (strA f H k) 256)).drew.cell? ⟨w1.heap.size, 1, none⟩ = some (.int .i64 (H : Int)) ∧ (w1.alloc (.cells (strA f H k) 256)).drew.cell? ⟨w1.heap.size, 2, none⟩ = some (.int .i64 (k : Int)) := ⟨c0, c1, c2⟩
    clear c0 c1 c2 e2
    generalize (w1.alloc (.cells (strA f H k) 256)).drew = w2 at *
    refine take_f 0 19 rfl rfl (by kernel_rfl) (by kernel_rfl) (by kernel_rfl) (by kernel_rfl) hQP hS (.inl ⟨by kernel_rfl, fun w' hw' => by obtain ⟨e0, e1, e2⟩ := hw'; go_simp; try with_reducible rfl⟩) ?_
    refine take_f 1 20 rfl rfl (by kernel_rfl) (by kernel_rfl) (by kernel_rfl) (by kernel_rfl) hQP hS (.inl ⟨by kernel_rfl, fun w' hw' => by obtain ⟨e0, e1, e2⟩ := hw'; go_simp; try with_reducible rfl⟩) ?_
    refine take_f 2 21 rfl rfl (by kernel_rfl) (by kernel_rfl) (by kernel_rfl) (by kernel_rfl) hQP hS (.inl ⟨by kernel_rfl, fun w' hw' => by obtain ⟨e0, e1, e2⟩ := hw'; go_simp; try with_reducible rfl⟩) ?_
    refine take_f 3 22 rfl rfl (by kernel_rfl) (by kernel_rfl) (by kernel_rfl) (by kernel_rfl) hQP hS (.inl ⟨by kernel_rfl, fun w' hw' => by obtain ⟨e0, e1, e2⟩ := hw'; go_simp; try with_reducible rfl⟩) ?_
    refine take_f 4 23 rfl rfl (by kernel_rfl) (by kernel_rfl) (by kernel_rfl) (by kernel_rfl) hQP hS (.inl ⟨by kernel_rfl, fun w' hw' => by obtain ⟨e0, e1, e2⟩ := hw'; go_simp; try with_reducible rfl⟩) ?_
    refine take_f 5 24 rfl rfl (by kernel_rfl) (by kernel_rfl) (by kernel_rfl) (by kernel_rfl) hQP hS (.inl ⟨by kernel_rfl, fun w' hw' => by obtain ⟨e0, e1, e2⟩ := hw'; go_simp; try with_reducible rfl⟩) ?_
    refine take_f 6 25 rfl rfl (by kernel_rfl) (by kernel_rfl) (by kernel_rfl) (by kernel_rfl) hQP hS (.inl ⟨by kernel_rfl, fun w' hw' => by obtain ⟨e0, e1, e2⟩ := hw'; go_simp; try with_reducible rfl⟩) ?_
    refine take_f 7 26 rfl rfl (by kernel_rfl) (by kernel_rfl) (by kernel_rfl) (by kernel_rfl) hQP hS (.inl ⟨by kernel_rfl, fun w' hw' => by obtain ⟨e0, e1, e2⟩ := hw'; go_simp; try with_reducible rfl⟩) ?_
    refine take_f 8 27 rfl rfl (by kernel_rfl) (by kernel_rfl) (by kernel_rfl) (by kernel_rfl) hQP hS (.inl ⟨by kernel_rfl, fun w' hw' => by obtain ⟨e0, e1, e2⟩ := hw'; go_simp; try with_reducible rfl⟩) ?_
    refine take_f 9 28 rfl rfl (by kernel_rfl) (by kernel_rfl) (by kernel_rfl) (by kernel_rfl) hQP hS (.inl ⟨by kernel_rfl, fun w' hw' => by obtain ⟨e0, e1, e2⟩ := hw'; go_simp; try with_reducible rfl⟩) ?_
    refine take_f 11 30 rfl rfl (by kernel_rfl) (by kernel_rfl) (by kernel_rfl) (by kernel_rfl) hQP hS (.inl ⟨by kernel_rfl, fun w' hw' => by obtain ⟨e0, e1, e2⟩ := hw'; go_simp; try with_reducible rfl⟩) ?_
    refine take_f 12 31 rfl rfl (by kernel_rfl) (by kernel_rfl) (by kernel_rfl) (by kernel_rfl) hQP hS (.inl ⟨by kernel_rfl, fun w' hw' => by obtain ⟨e0, e1, e2⟩ := hw'; go_simp; try with_reducible rfl⟩) ?_
    refine take_f 13 32 rfl rfl (by kernel_rfl) (by kernel_rfl) (by kernel_rfl) (by kernel_rfl) hQP hS (.inl ⟨by kernel_rfl, fun w' hw' => by obtain ⟨e0, e1, e2⟩ := hw'; go_simp; try with_reducible rfl⟩) ?_
    clear xw
    try simp only [List.setIfInBounds_toArray, List.set_cons_succ, List.set_cons_zero]
    have hG2 := HG.out.turn HT2.out id id
    have HRO := Lib.hid (rows_any γ β (f + k) H _ w2 hG2 hk2 (by rw [List.length_map, ← HH.out]; omega))
    rw [show ((f + k : Nat) : Int) = (f : Int) + (k : Int) from by omega] at HRO
    have hmd : ((Q.map (·.1)).drop (f + k)).take (H - (f + k)) = (Q.drop (f + k)).map (·.1) := by
      rw [← List.map_drop, List.take_of_length_le (by rw [List.length_map, List.length_drop, ← HH.out]; exact Nat.le_refl _)]
    rw [hmd] at HRO
    have HG2 := Lib.hid hG2
    clear hG2 hmd
    refine take_g (i := 10) (by kernel_rfl) rfl (by kernel_rfl) fun KQ hK => ?_
    go_wp2_with fail
    refine HRO.out.mono ?_
    rintro e w3 ⟨v3, rfl, ho3, hb3⟩
    have T3 : Turn (fun _ => False) w2 w3 := Turn.of_new hb3
    have hS : w3.cell? ⟨w1.heap.size, 0, none⟩ = some (.int .i64 (f : Int)) ∧ w3.cell? ⟨w1.heap.size, 1, none⟩ = some (.int .i64 (H : Int)) ∧ w3.cell? ⟨w1.heap.size, 2, none⟩ = some (.int .i64 (k : Int)) := ⟨T3.cell hS.1 id, T3.cell hS.2.1 id, T3.cell hS.2.2 id⟩
    refine hK _ _ (.inr hS) ?_
    obtain ⟨a3, c3, hav3⟩ := Turn.own_slice ho3
    have hl3 : ((Q.drop (f + k)).map (·.1)).length = H - (f + k) := by rw [List.length_map, List.length_drop, ← HH.out]
    unfold OwnPtrs at ho3
    rw [hl3] at hav3 ho3
    subst hav3
    have HO3 := Lib.hid ho3
    have HT3 := Lib.hid T3
    have HB3 := Lib.hid hb3
    clear hK ho3 hb3 T3 HRO hl3
    have hrs3 := (HRS.out.turn (HT2.out.trans HT3.out) (Free.no _ _) (fun _ _ => ⟨id, id⟩))
    have HBL := Lib.hid (sblanks_any γ β W k _ w3 (HG2.out.turn HT3.out id id) hrs3.all hW1 hW2 (by omega))
    have HRS3 := Lib.hid hrs3
    clear hrs3
    try simp only [List.setIfInBounds_toArray, List.set_cons_succ, List.set_cons_zero]
    refine take_g (i := 14) (by kernel_rfl) rfl (by kernel_rfl) fun KQ hK => ?_
    go_wp2_with fail
    refine HBL.out.mono ?_
    rintro e w4 ⟨v4, R, rfl, ho4, hr4, hb4⟩
    have T4 : Turn (fun _ => False) w3 w4 := Turn.of_new hb4
    have hS : w4.cell? ⟨w1.heap.size, 0, none⟩ = some (.int .i64 (f : Int)) ∧ w4.cell? ⟨w1.heap.size, 1, none⟩ = some (.int .i64 (H : Int)) ∧ w4.cell? ⟨w1.heap.size, 2, none⟩ = some (.int .i64 (k : Int)) := ⟨T4.cell hS.1 id, T4.cell hS.2.1 id, T4.cell hS.2.2 id⟩
    refine hK _ _ (.inr hS) ?_
    have hRk : R.length = k := by rw [hr4.len, List.length_replicate]
    have ho4' : w4.ownsRow w3.heap.size 128 1 v4 k ((R.map (·.1)).map ptr) := by
      have := ho4
      unfold OwnPtrs at this
      rw [List.length_map, hRk] at this
      exact this
    obtain ⟨q0, hq0⟩ : ∃ q, (R.map (·.1))[0]? = some q := ⟨_, List.getElem?_eq_getElem (by rw [List.length_map]; omega)⟩
    obtain ⟨g4, c4, hv4, _, hg4, _⟩ := own_ptr ho4' hq0
    subst hv4
    have hown3 := T4.kept HO3.out (fun _ _ => id)
    have hrows4 : RowsAt w4 (fun b => (X b ∧ b < w.heap.size) ∨ w2.heap.size ≤ b) (Q.drop (f + k) ++ R) (L.drop (f + k) ++ List.replicate k (blanks W, false)) W := by
      have hs3 := HT3.out.size
      refine (((HRS.out.mono (X' := (fun b => (X b ∧ b < w.heap.size) ∨ w2.heap.size ≤ b)) (fun b hb hl => .inl ⟨hb, hl⟩)).turn ((HT2.out.trans HT3.out).trans T4) (Free.no _ _) (fun _ _ => ⟨id, id⟩)).drop (f + k)).app (hr4.mono (fun b hb _ => .inr (by have := HB3.out.size; omega))) (fun p hp q hq => ?_)
      obtain ⟨i, hi⟩ := List.getElem?_of_mem hp
      obtain ⟨l, _, g1, _⟩ := (HRS3.out.drop (f + k)).line hi
      obtain ⟨j, hj⟩ := List.getElem?_of_mem hq
      obtain ⟨l', _, _, _, x1, x2⟩ := hr4.line hj
      have := g1.typ.lt
      have := g1.cells.typ.lt
      exact ⟨by omega, by omega⟩
    have hdis4 : ∀ p ∈ Q.take f, ∀ q ∈ (Q.drop (f + k) ++ R), p.1 ≠ q.1 ∧ p.2 ≠ q.2 := by
      intro p hp q hq
      obtain ⟨i, hi⟩ := List.getElem?_of_mem hp
      have hil := (List.getElem?_eq_some_iff.1 hi).1
      rw [List.length_take] at hil
      rw [List.getElem?_take, if_pos (by omega)] at hi
      rcases List.mem_append.1 hq with hq | hq
      · obtain ⟨j, hj⟩ := List.getElem?_of_mem hq
        rw [List.getElem?_drop] at hj
        exact HRS.out.dis i (f + k + j) p q hi hj (by omega)
      · obtain ⟨j, hj⟩ := List.getElem?_of_mem hq
        obtain ⟨l', _, _, _, x1, x2⟩ := hr4.line hj
        obtain ⟨l, _, g1, _⟩ := HRS3.out.line hi
        have := g1.typ.lt
        have := g1.cells.typ.lt
        exact ⟨by omega, by omega⟩
    have HO4 := Lib.hid ho4'
    have HR4 := Lib.hid hrows4
    have HD4 := Lib.hid hdis4
    have HT4 := Lib.hid T4
    have HRK := Lib.hid hRk
    have hs34 := hb4.size
    have hs23 := HB3.out.size
    clear hK ho4 ho4' hr4 hb4 T4 hrows4 hdis4 hRk HBL hq0
    refine take_append_at 15 34 (by kernel_rfl) rfl rfl rfl (.tmp 29) (.tmp 33) 135 rfl w2.heap.size 128 i0 _ 1 8 Tryz.underlying135 hi hz0 hz1 hz2 rfl (by decide) (.slice a3 (H - (f + k)) c3) (H - (f + k)) (((Q.drop (f + k)).map (·.1)).map ptr) (by rfl) hown3 ⟨g4, 0, none⟩ k c4 ((R.map (·.1)).map ptr) (by rfl) (by rw [List.length_map, List.length_map, HRK.out, Nat.mul_one]) (HO4.out.cells rfl) (by intro u hu; obtain ⟨x, _, rfl⟩ := List.mem_map.1 hu; rfl) (by unfold maxLen; omega) (by omega) (by omega) ?_
    intro v5 w5 hown5 hgrow5 _
    have T5 : Turn (fun j => (Value.slice a3 (H - (f + k)) c3).ownBlock = some j) w4 w5 := Turn.of_grown hgrow5 (fun g e => e)
    have hty5 : ∀ g, (Value.slice a3 (H - (f + k)) c3).ownBlock = some g → w2.heap.size ≤ g ∧ Typ w4 128 g := fun g hg => ⟨(hown3.lt g hg).1, owns_typ hown3 hg⟩
    have hS : w5.cell? ⟨w1.heap.size, 0, none⟩ = some (.int .i64 (f : Int)) ∧ w5.cell? ⟨w1.heap.size, 1, none⟩ = some (.int .i64 (H : Int)) ∧ w5.cell? ⟨w1.heap.size, 2, none⟩ = some (.int .i64 (k : Int)) := ⟨T5.cell hS.1 (fun e => by have := (hty5 _ e).1; simp only at this; omega), T5.cell hS.2.1 (fun e => by have := (hty5 _ e).1; simp only at this; omega), T5.cell hS.2.2 (fun e => by have := (hty5 _ e).1; simp only at this; omega)⟩
    refine ⟨.inr hS, ?_⟩
    have hfree5 : Free (fun j => (Value.slice a3 (H - (f + k)) c3).ownBlock = some j) w4 21 := fun b hb _ => (hty5 b hb).2.not (by decide)
    have hTw : Below w.heap.size w w5 := by
      have hb4 : Below w.heap.size w w4 := ((HT2.out.trans HT3.out).trans HT4.out).below (Nat.le_refl _) (fun _ h => h.elim)
      exact hb4.trans (T5.below hb4.size (fun j e => by have := (hty5 _ e).1; have := HT2.out.size; omega))
    have hr5 : RowsAt w5 (fun b => (X b ∧ b < w.heap.size) ∨ w2.heap.size ≤ b) Q L W := (HRS.out.mono (fun b hb hl => .inl ⟨hb, hl⟩)).below hTw
    have hR5 : RowsAt w5 (fun b => (X b ∧ b < w.heap.size) ∨ w2.heap.size ≤ b) (Q.drop (f + k) ++ R) (L.drop (f + k) ++ List.replicate k (blanks W, false)) W := HR4.out.turn T5 hfree5 (fun p hp => by
      obtain ⟨i, hi⟩ := List.getElem?_of_mem hp
      obtain ⟨l, _, g1, _⟩ := HR4.out.line hi
      exact ⟨fun e => (hty5 _ e).2.not (by decide) g1.typ, fun e => (hty5 _ e).2.not (by decide) g1.cells.typ⟩)
    have hG5 : GridAt w5 γ β (Q.map (·.1)) := HG.out.turn (Turn.of_new hTw : Turn (fun _ => False) w w5) id id
    have ho5 : OwnPtrs w2.heap.size w5 v5 ((Q.drop (f + k) ++ R).map (·.1)) := by
      unfold OwnPtrs
      rw [List.length_map, List.length_append, List.length_drop, HRK.out, ← HH.out, List.map_append, List.map_append]
      exact hown5
    have hlen5 : f + (Q.drop (f + k) ++ R).length = Q.length := by rw [List.length_append, List.length_drop, HRK.out, ← HH.out]; omega
    have HLAY := Lib.hid (lay_rows γ β W w2.heap.size f (H : Int) (k : Int) (fun b => (X b ∧ b < w.heap.size) ∨ w2.heap.size ≤ b) Q (Q.drop (f + k) ++ R) L _ v5 w5 hG5 hr5 hR5 hlen5 ho5 (by have := HT2.out.size; omega) HD4.out)
    have HTW := Lib.hid hTw
    obtain ⟨a5, c5, hv5⟩ := Turn.own_slice hown5
    subst hv5
    clear hown5 hgrow5 T5 hty5 hfree5 hTw hr5 hR5 hG5 ho5 hlen5 hown3
    refine take_g (i := 16) (by kernel_rfl) rfl (by kernel_rfl) fun KQ hK => ?_
    go_wp2_with fail
    refine HLAY.out.mono ?_
    rintro e w6 ⟨rfl, hg6, hr6, ht6⟩
    have HF : Hid (Scrolled w X γ β W (upR L f n W) w6) := Lib.hid (by
      have hsw := HT2.out.size
      refine ⟨_, hg6, by rw [HUP.out]; exact hr6.mono (fun b hb _ => hb.elim (fun e => .inl e.1) (fun e => .inr (by omega))), ?_⟩
      have h1 : Turn (fun b => b = β ∨ ((X b ∧ b < w.heap.size) ∨ w2.heap.size ≤ b)) w w5 := (Turn.of_new HTW.out : Turn (fun _ => False) w w5).mono (fun _ _ h => h.elim)
      exact (h1.trans ht6).mono (fun b hb e => by
        rcases e with e | e | e
        · exact .inl e
        · exact .inr e.1
        · omega))
    have hS : w6.cell? ⟨w1.heap.size, 0, none⟩ = some (.int .i64 (f : Int)) ∧ w6.cell? ⟨w1.heap.size, 1, none⟩ = some (.int .i64 (H : Int)) ∧ w6.cell? ⟨w1.heap.size, 2, none⟩ = some (.int .i64 (k : Int)) := by
      have hno : ¬ (w1.heap.size = β ∨ ((X w1.heap.size ∧ w1.heap.size < w.heap.size) ∨ w2.heap.size ≤ w1.heap.size)) := by
        rintro (e | e | e)
        · omega
        · have := e.2; omega
        · omega
      exact ⟨ht6.cell hS.1 hno, ht6.cell hS.2.1 hno, ht6.cell hS.2.2 hno⟩
    refine hK _ _ (.inr hS) ?_
    clear hK hg6 hr6 ht6 HLAY
    refine take_done (by kernel_rfl) ?_ _
    go_wp2_with fail
    go_end0
    exact ⟨rfl, HF.out⟩
  · have dn : decide (0 < n) = false := decide_eq_false hn
    rw [dn] at HOF
    have HF : Hid (∀ w', Below w.heap.size w w' → Scrolled w X γ β W (upR L f n W) w') := Lib.hid fun w' hb => by
      have T : Turn (fun _ => False) w w' := Turn.of_new hb
      refine ⟨Q, HG.out.turn T id id, ?_, T.mono (fun _ _ h => h.elim)⟩
      rw [show upR L f n W = L from if_pos (by omega)]
      exact (HRS.out.below hb).mono (fun b hb _ => .inl hb)
    go_enter Tryz.func125, Tryz.ntmps125
    go_wp2_with fail
    refine HOF.out.mono ?_
    rintro e w1 ⟨rfl, hb1⟩
    have hnew : (w1.alloc (.cells (strA 0 0 0) 256)).heap[w1.heap.size]? = some (.cells (strA 0 0 0) 256 (0, 0)) := heap_alloc_new w1 _
    have hrow : (w1.alloc (.cells (strA 0 0 0) 256)).setRow w1.heap.size (strA f H m) = w1.alloc (.cells (strA f H m) 256) := World.setRow_alloc_new w1 _ _ _
    have HB1 := Lib.hid (hb1.alloc hb1.size (.cells (strA f H m) 256))
    clear hb1
    go_wp2_with (refine wpList_store_row rfl 256 _ _ rfl w1.heap.size (strA f H m) rfl rfl _ _ hnew (size_str _ _ _) rfl (one_str _ _ _) ?_)
    go_end0
    refine ⟨rfl, ?_⟩
    first | exact HF.out _ HB1.out | (rw [hrow]; exact HF.out _ HB1.out)
end Go.Proofs.YtjicdcmdgbcdcaaGreatDoor.Scr
end
section
namespace Go.Proofs.YtjicdcmdgbcdcaaGreatDoor.Scr
set_option linter.unusedSimpArgs false
set_option linter.unusedVariables false
open Go Go.RowKit Mem Turn Ring

theorem src_own {w : World} {B : Nat} {e : TypeId} {a : Option Addr} {n c : Nat} {xs : List Value} (h : w.ownsRow B e 1 (.slice a n c) n xs) : Turn.Src w a n 1 xs := by
  rcases h.2 with ⟨h1, h2⟩ | ⟨g, cap, cur, h1, _⟩
  · injection h1 with h1 h3 h4
    have := h.1
    exact .inl ⟨h1, h3, List.eq_nil_of_length_eq_zero (by omega)⟩
  · injection h1 with h1 h3 h4
    subst h1
    exact .inr ⟨_, rfl, h.1, h.cells rfl⟩
/-- rows moved down -/
def downR (L : List LineC) (f : Nat) (n : Int) (W : Nat) : List LineC :=
  if n ≤ 0 then L else cutAt L.length (cutAt f (L.take f ++ (List.replicate (min n ((L.length : Int) - f)).toNat (blanks W, false) ++ (L.drop f).take (L.length - f - (min n ((L.length : Int) - f)).toNat))))

set_option maxRecDepth 100000 in
set_option maxHeartbeats 8000000 in
theorem down_rows_any (γ β W f : Nat) (n : Int) (X : Nat → Prop) (Q : List (Nat × Nat)) (L : List LineC) (w : World) (h : GridAt w γ β (Q.map (·.1))) (hr : RowsAt w X Q L W) (hf : f < Q.length) (hW1 : 1 ≤ W) (hW2 : W ≤ 1024) :
    Calls Tryz.prog 126 #[ptr γ, .int .i64 (f : Int), .int .i64 (Q.length : Int), .int .i64 n] w fun e w' => e = .returned (.tuple #[]) ∧ Scrolled w X γ β W (downR L f n W) w' := by
  obtain ⟨i0, hi, hz0, hz1, hz2⟩ := info_parts info_ptr
  have hmx : Tryz.prog.follows .mixedOrders = true := by kernel_rfl
  have hle := h.le
  rw [List.length_map] at hle
  have HOF : Hid (Calls Tryz.prog 185 #[ptr γ, .int .i64 (f : Int), .int .i64 (Q.length : Int), .int .i64 n] w fun e w' => e = .returned (.tuple #[.agg (strA f Q.length (min n ((Q.length : Int) - (f : Int)))), .bool (decide (0 < n))]) ∧ Below w.heap.size w w') := Lib.hid (by
    have := of_any γ β (f : Int) n _ w h (by omega) (by rw [List.length_map]; omega)
    rw [List.length_map] at this
    exact this)
  have HG := Lib.hid h
  have HRS := Lib.hid hr
  have HLL : Hid (L.length = Q.length) := Lib.hid hr.len.symm
  obtain ⟨H, hH⟩ : ∃ H, H = Q.length := ⟨_, rfl⟩
  rw [← hH] at hf hle HOF ⊢
  have HH := Lib.hid hH
  obtain ⟨m, hm⟩ : ∃ m, m = min n ((H : Int) - (f : Int)) := ⟨_, rfl⟩
  rw [← hm] at HOF
  have HM := Lib.hid hm
  have hβ := h.typ2.lt
  clear h hr hH hm
  by_cases hn : 0 < n
  · obtain ⟨k, rfl⟩ : ∃ k : Nat, m = (k : Int) := ⟨m.toNat, by have := HM.out; omega⟩
    have hk1 : 1 ≤ k := by have := HM.out; omega
    have hk2 : f + k ≤ H := by have := HM.out; omega
    have HUP : Hid (downR L f n W = cutAt H (cutAt f (L.take f ++ (List.replicate k (blanks W, false) ++ (L.drop f).take (H - f - k))))) := Lib.hid (by
      unfold downR
      rw [if_neg (by omega), HLL.out, ← HH.out, ← HM.out, Int.toNat_natCast])
    have dn : decide (0 < n) = true := decide_eq_true hn
    rw [dn] at HOF
    go_enter Tryz.func126, Tryz.ntmps126
    go_wp2_with fail
    refine HOF.out.mono ?_
    rintro e w1 ⟨rfl, hb1⟩
    have hnew : (w1.alloc (.cells (strA 0 0 0) 256)).heap[w1.heap.size]? = some (.cells (strA 0 0 0) 256 (0, 0)) := heap_alloc_new w1 _
    have hrow : (w1.alloc (.cells (strA 0 0 0) 256)).setRow w1.heap.size (strA f H k) = w1.alloc (.cells (strA f H k) 256) := World.setRow_alloc_new w1 _ _ _
    go_upto_region 2 with (refine wpList_store_row rfl 256 _ _ rfl w1.heap.size (strA f H k) rfl rfl _ _ hnew (size_str _ _ _) rfl (one_str _ _ _) ?_)
    try rw [hrow]
    have e2 := heap_alloc_new w1 (.cells (strA f H k) 256)
    have T2 : Turn (fun _ => False) w (w1.alloc (.cells (strA f H k) 256)).drew := ((Turn.of_new hb1).trans (Turn.alloc _ _ _)).trans (Turn.drew _ _)
    have hs1 := hb1.size
    have hsz2 : w1.heap.size < (w1.alloc (.cells (strA f H k) 256)).drew.heap.size := by show w1.heap.size < (w1.alloc (.cells (strA f H k) 256)).heap.size; simp
    obtain ⟨c0, c1, c2⟩ := cells3 e2
    have HT2 := Lib.hid T2
    clear hnew hrow T2 HOF hb1
    have xw : IntKind.i64.wrap ((H : Int) - (k : Int)) = (H : Int) - (k : Int) := IntWalk.i64_in _ (by omega)
    refine region_begin3 (fun w' => w'.cell? ⟨w1.heap.size, 0, none⟩ = some (.int .i64 (f : Int)) ∧ w'.cell? ⟨w1.heap.size, 1, none⟩ = some (.int .i64 (H : Int)) ∧ w'.cell? ⟨w1.heap.size, 2, none⟩ = some (.int .i64 (k : Int))) (fun _ => false) 17 rfl hmx (by intro _ _ d _ _ h; cases d <;> exact h) fun hQP => ?_
    have hS : (w1.alloc (.cells (strA f H k) 256)).drew.cell? ⟨w1.heap.size, 0, none⟩ = some (.int .i64 (f : Int)) ∧ (w1.alloc (.cells (strA f H k) 256)).drew.cell? ⟨w1.heap.size, 1, none⟩ = some (.int .i64 (H : Int)) ∧ (w1.alloc (.cells (strA f H k) 256)).drew.cell? ⟨w1.heap.size, 2, none⟩ = some (.int .i64 (k : Int)) := ⟨c0, c1, c2⟩
    clear c0 c1 c2 e2
    generalize (w1.alloc (.cells (strA f H k) 256)).drew = w2 at *
    refine take_f 0 19 rfl rfl (by kernel_rfl) (by kernel_rfl) (by kernel_rfl) (by kernel_rfl) hQP hS (.inl ⟨by kernel_rfl, fun w' hw' => by obtain ⟨e0, e1, e2⟩ := hw'; go_simp; try with_reducible rfl⟩) ?_
    refine take_f 1 20 rfl rfl (by kernel_rfl) (by kernel_rfl) (by kernel_rfl) (by kernel_rfl) hQP hS (.inl ⟨by kernel_rfl, fun w' hw' => by obtain ⟨e0, e1, e2⟩ := hw'; go_simp; try with_reducible rfl⟩) ?_
    refine take_f 2 21 rfl rfl (by kernel_rfl) (by kernel_rfl) (by kernel_rfl) (by kernel_rfl) hQP hS (.inl ⟨by kernel_rfl, fun w' hw' => by obtain ⟨e0, e1, e2⟩ := hw'; go_simp; try with_reducible rfl⟩) ?_
    refine take_f 3 22 rfl rfl (by kernel_rfl) (by kernel_rfl) (by kernel_rfl) (by kernel_rfl) hQP hS (.inl ⟨by kernel_rfl, fun w' hw' => by obtain ⟨e0, e1, e2⟩ := hw'; go_simp; try with_reducible rfl⟩) ?_
    refine take_f 4 23 rfl rfl (by kernel_rfl) (by kernel_rfl) (by kernel_rfl) (by kernel_rfl) hQP hS (.inl ⟨by kernel_rfl, fun w' hw' => by obtain ⟨e0, e1, e2⟩ := hw'; go_simp; try with_reducible rfl⟩) ?_
    refine take_f 6 25 rfl rfl (by kernel_rfl) (by kernel_rfl) (by kernel_rfl) (by kernel_rfl) hQP hS (.inl ⟨by kernel_rfl, fun w' hw' => by obtain ⟨e0, e1, e2⟩ := hw'; go_simp; try with_reducible rfl⟩) ?_
    refine take_f 7 26 rfl rfl (by kernel_rfl) (by kernel_rfl) (by kernel_rfl) (by kernel_rfl) hQP hS (.inl ⟨by kernel_rfl, fun w' hw' => by obtain ⟨e0, e1, e2⟩ := hw'; go_simp; try with_reducible rfl⟩) ?_
    refine take_f 8 27 rfl rfl (by kernel_rfl) (by kernel_rfl) (by kernel_rfl) (by kernel_rfl) hQP hS (.inl ⟨by kernel_rfl, fun w' hw' => by obtain ⟨e0, e1, e2⟩ := hw'; go_simp; try with_reducible rfl⟩) ?_
    refine take_f 9 28 rfl rfl (by kernel_rfl) (by kernel_rfl) (by kernel_rfl) (by kernel_rfl) hQP hS (.inl ⟨by kernel_rfl, fun w' hw' => by obtain ⟨e0, e1, e2⟩ := hw'; go_simp; try with_reducible rfl⟩) ?_
    refine take_f 10 29 rfl rfl (by kernel_rfl) (by kernel_rfl) (by kernel_rfl) (by kernel_rfl) hQP hS (.inl ⟨by kernel_rfl, fun w' hw' => by obtain ⟨e0, e1, e2⟩ := hw'; go_simp; try with_reducible rfl⟩) ?_
    refine take_f 11 30 rfl rfl (by kernel_rfl) (by kernel_rfl) (by kernel_rfl) (by kernel_rfl) hQP hS (.inl ⟨by kernel_rfl, fun w' hw' => by obtain ⟨e0, e1, e2⟩ := hw'; go_simp; try with_reducible rfl⟩) ?_
    refine take_f 12 31 rfl rfl (by kernel_rfl) (by kernel_rfl) (by kernel_rfl) (by kernel_rfl) hQP hS (.inl ⟨by kernel_rfl, fun w' hw' => by obtain ⟨e0, e1, e2⟩ := hw'; go_simp; try with_reducible rfl⟩) ?_
    refine take_f 13 32 rfl rfl (by kernel_rfl) (by kernel_rfl) (by kernel_rfl) (by kernel_rfl) hQP hS (.inl ⟨by kernel_rfl, fun w' hw' => by obtain ⟨e0, e1, e2⟩ := hw'; go_simp; try with_reducible rfl⟩) ?_
    clear xw
    try simp only [List.setIfInBounds_toArray, List.set_cons_succ, List.set_cons_zero]
    have HG2 := Lib.hid (HG.out.turn HT2.out id id)
    have hrs2 := (HRS.out.turn HT2.out (Free.no _ _) (fun _ _ => ⟨id, id⟩))
    have HBL := Lib.hid (sblanks_any γ β W k _ w2 HG2.out hrs2.all hW1 hW2 (by omega))
    clear hrs2
    refine take_g (i := 5) (by kernel_rfl) rfl (by kernel_rfl) fun KQ hK => ?_
    go_wp2_with fail
    refine HBL.out.mono ?_
    rintro e w3 ⟨v3, R, rfl, ho3, hr3, hb3⟩
    have T3 : Turn (fun _ => False) w2 w3 := Turn.of_new hb3
    have hS : w3.cell? ⟨w1.heap.size, 0, none⟩ = some (.int .i64 (f : Int)) ∧ w3.cell? ⟨w1.heap.size, 1, none⟩ = some (.int .i64 (H : Int)) ∧ w3.cell? ⟨w1.heap.size, 2, none⟩ = some (.int .i64 (k : Int)) := ⟨T3.cell hS.1 id, T3.cell hS.2.1 id, T3.cell hS.2.2 id⟩
    refine hK _ _ (.inr hS) ?_
    have hRk : R.length = k := by rw [hr3.len, List.length_replicate]
    obtain ⟨a3, c3, hav3⟩ := Turn.own_slice ho3
    unfold OwnPtrs at ho3
    rw [List.length_map, hRk] at hav3 ho3
    subst hav3
    have HO3 := Lib.hid ho3
    have HT3 := Lib.hid T3
    have HB3 := Lib.hid hb3
    have HR3 := Lib.hid hr3
    have HRK := Lib.hid hRk
    clear hK ho3 hb3 T3 hr3 hRk HBL
    have HRO := Lib.hid (rows_any γ β f (H - k) _ w3 (HG2.out.turn HT3.out id id) (by omega) (by rw [List.length_map, ← HH.out]; omega))
    have hmd : ((Q.map (·.1)).drop f).take (H - k - f) = ((Q.drop f).take (H - f - k)).map (·.1) := by
      rw [← List.map_drop, ← List.map_take, show H - k - f = H - f - k from by omega]
    rw [show ((H - k : Nat) : Int) = (H : Int) - (k : Int) from by omega, hmd] at HRO
    clear hmd
    refine take_g (i := 14) (by kernel_rfl) rfl (by kernel_rfl) fun KQ hK => ?_
    go_wp2_with fail
    refine HRO.out.mono ?_
    rintro e w4 ⟨v4, rfl, ho4, hb4⟩
    have T4 : Turn (fun _ => False) w3 w4 := Turn.of_new hb4
    have hS : w4.cell? ⟨w1.heap.size, 0, none⟩ = some (.int .i64 (f : Int)) ∧ w4.cell? ⟨w1.heap.size, 1, none⟩ = some (.int .i64 (H : Int)) ∧ w4.cell? ⟨w1.heap.size, 2, none⟩ = some (.int .i64 (k : Int)) := ⟨T4.cell hS.1 id, T4.cell hS.2.1 id, T4.cell hS.2.2 id⟩
    refine hK _ _ (.inr hS) ?_
    obtain ⟨a4, c4, hav4⟩ := Turn.own_slice ho4
    have hl4 : (((Q.drop f).take (H - f - k)).map (·.1)).length = H - f - k := by rw [List.length_map, List.length_take, List.length_drop, ← HH.out]; omega
    unfold OwnPtrs at ho4
    rw [hl4] at hav4 ho4
    subst hav4
    have HS4 := Lib.hid (src_own ho4)
    have hown3 := T4.kept HO3.out (fun _ _ => id)
    have hrows4 : RowsAt w4 (fun b => (X b ∧ b < w.heap.size) ∨ w2.heap.size ≤ b) (R ++ (Q.drop f).take (H - f - k)) (List.replicate k (blanks W, false) ++ (L.drop f).take (H - f - k)) W := by
      refine (((HR3.out.turn T4 (Free.no _ _) (fun _ _ => ⟨id, id⟩)).mono (fun b hb _ => .inr hb))).app (((((HRS.out.mono (X' := (fun b => (X b ∧ b < w.heap.size) ∨ w2.heap.size ≤ b)) (fun b hb hl => .inl ⟨hb, hl⟩)).turn ((HT2.out.trans HT3.out).trans T4) (Free.no _ _) (fun _ _ => ⟨id, id⟩)).drop f).take (H - f - k))) (fun q hq p hp => ?_)
      obtain ⟨i, hi⟩ := List.getElem?_of_mem (List.mem_of_mem_drop (List.mem_of_mem_take hp))
      obtain ⟨l, _, g1, _⟩ := HRS.out.line hi
      obtain ⟨j, hj⟩ := List.getElem?_of_mem hq
      obtain ⟨l', _, _, _, x1, x2⟩ := HR3.out.line hj
      have := g1.typ.lt
      have := g1.cells.typ.lt
      have := HT2.out.size
      exact ⟨by omega, by omega⟩
    have hdis4 : ∀ p ∈ Q.take f, ∀ q ∈ (R ++ (Q.drop f).take (H - f - k)), p.1 ≠ q.1 ∧ p.2 ≠ q.2 := by
      intro p hp q hq
      obtain ⟨i, hi⟩ := List.getElem?_of_mem hp
      have hil := (List.getElem?_eq_some_iff.1 hi).1
      rw [List.length_take] at hil
      rw [List.getElem?_take, if_pos (by omega)] at hi
      rcases List.mem_append.1 hq with hq | hq
      · obtain ⟨j, hj⟩ := List.getElem?_of_mem hq
        obtain ⟨l', _, _, _, x1, x2⟩ := HR3.out.line hj
        obtain ⟨l, _, g1, _⟩ := HRS.out.line hi
        have := g1.typ.lt
        have := g1.cells.typ.lt
        have := HT2.out.size
        exact ⟨by omega, by omega⟩
      · obtain ⟨j, hj⟩ := List.getElem?_of_mem (List.mem_of_mem_take hq)
        rw [List.getElem?_drop] at hj
        exact HRS.out.dis i (f + j) p q hi hj (by omega)
    have HR4 := Lib.hid hrows4
    have HD4 := Lib.hid hdis4
    have HT4 := Lib.hid T4
    have HL4 := Lib.hid hl4
    have hs34 := hb4.size
    have hs23 := HB3.out.size
    clear hK ho4 hb4 T4 hrows4 hdis4 HRO hl4
    refine take_one (i := 15) (by kernel_rfl) rfl rfl fun KQ hK => ?_
    refine wp_append_src _ _ _ 135 rfl w2.heap.size 128 i0 _ 1 8 Tryz.underlying135 hi hz0 hz1 hz2 rfl (by decide) (.slice a3 k c3) k ((R.map (·.1)).map ptr) (by rfl) hown3 a4 (H - f - k) c4 ((((Q.drop f).take (H - f - k)).map (·.1)).map ptr) (by rfl) HS4.out (by intro u hu; obtain ⟨x, _, rfl⟩ := List.mem_map.1 hu; rfl) (by unfold maxLen; omega) (by omega) (by omega) ?_
    intro v5 w5 hown5 hgrow5
    have T5 : Turn (fun j => (Value.slice a3 k c3).ownBlock = some j) w4 w5 := Turn.of_grown hgrow5 (fun g e => e)
    have hty5 : ∀ g, (Value.slice a3 k c3).ownBlock = some g → w2.heap.size ≤ g ∧ Typ w4 128 g := fun g hg => ⟨(hown3.lt g hg).1, owns_typ hown3 hg⟩
    have hS : w5.cell? ⟨w1.heap.size, 0, none⟩ = some (.int .i64 (f : Int)) ∧ w5.cell? ⟨w1.heap.size, 1, none⟩ = some (.int .i64 (H : Int)) ∧ w5.cell? ⟨w1.heap.size, 2, none⟩ = some (.int .i64 (k : Int)) := ⟨T5.cell hS.1 (fun e => by have := (hty5 _ e).1; simp only at this; omega), T5.cell hS.2.1 (fun e => by have := (hty5 _ e).1; simp only at this; omega), T5.cell hS.2.2 (fun e => by have := (hty5 _ e).1; simp only at this; omega)⟩
    refine hK _ _ (.inr hS) ?_
    clear hK
    have hfree5 : Free (fun j => (Value.slice a3 k c3).ownBlock = some j) w4 21 := fun b hb _ => (hty5 b hb).2.not (by decide)
    have hTw : Below w.heap.size w w5 := by
      have hb4 : Below w.heap.size w w4 := ((HT2.out.trans HT3.out).trans HT4.out).below (Nat.le_refl _) (fun _ h => h.elim)
      exact hb4.trans (T5.below hb4.size (fun j e => by have := (hty5 _ e).1; have := HT2.out.size; omega))
    have hr5 : RowsAt w5 (fun b => (X b ∧ b < w.heap.size) ∨ w2.heap.size ≤ b) Q L W := (HRS.out.mono (fun b hb hl => .inl ⟨hb, hl⟩)).below hTw
    have hR5 : RowsAt w5 (fun b => (X b ∧ b < w.heap.size) ∨ w2.heap.size ≤ b) (R ++ (Q.drop f).take (H - f - k)) (List.replicate k (blanks W, false) ++ (L.drop f).take (H - f - k)) W := HR4.out.turn T5 hfree5 (fun p hp => by
      obtain ⟨i, hi⟩ := List.getElem?_of_mem hp
      obtain ⟨l, _, g1, _⟩ := HR4.out.line hi
      exact ⟨fun e => (hty5 _ e).2.not (by decide) g1.typ, fun e => (hty5 _ e).2.not (by decide) g1.cells.typ⟩)
    have hG5 : GridAt w5 γ β (Q.map (·.1)) := HG.out.turn (Turn.of_new hTw : Turn (fun _ => False) w w5) id id
    have hl5 : (R ++ (Q.drop f).take (H - f - k)).length = k + (H - f - k) := by
      have := HL4.out
      rw [List.length_map] at this
      rw [List.length_append, HRK.out, this]
    have ho5 : OwnPtrs w2.heap.size w5 v5 ((R ++ (Q.drop f).take (H - f - k)).map (·.1)) := by
      unfold OwnPtrs
      rw [List.length_map, hl5, List.map_append, List.map_append]
      exact hown5
    have hlen5 : f + (R ++ (Q.drop f).take (H - f - k)).length = Q.length := by rw [hl5, ← HH.out]; omega
    have HLAY := Lib.hid (lay_rows γ β W w2.heap.size f (H : Int) (k : Int) (fun b => (X b ∧ b < w.heap.size) ∨ w2.heap.size ≤ b) Q (R ++ (Q.drop f).take (H - f - k)) L _ v5 w5 hG5 hr5 hR5 hlen5 ho5 (by have := HT2.out.size; omega) HD4.out)
    have HTW := Lib.hid hTw
    have HL5 := Lib.hid hlen5
    obtain ⟨a5, c5, hv5⟩ := Turn.own_slice hown5
    subst hv5
    clear hown5 hgrow5 T5 hty5 hfree5 hTw hr5 hR5 hG5 ho5 hlen5 hown3 hl5
    refine take_g (i := 16) (by kernel_rfl) rfl (by kernel_rfl) fun KQ hK => ?_
    go_wp2_with fail
    refine HLAY.out.mono ?_
    rintro e w6 ⟨rfl, hg6, hr6, ht6⟩
    have hS : w6.cell? ⟨w1.heap.size, 0, none⟩ = some (.int .i64 (f : Int)) ∧ w6.cell? ⟨w1.heap.size, 1, none⟩ = some (.int .i64 (H : Int)) ∧ w6.cell? ⟨w1.heap.size, 2, none⟩ = some (.int .i64 (k : Int)) := by
      have hno : ¬ (w1.heap.size = β ∨ ((X w1.heap.size ∧ w1.heap.size < w.heap.size) ∨ w2.heap.size ≤ w1.heap.size)) := by
        rintro (e | e | e)
        · omega
        · have := e.2; omega
        · omega
      exact ⟨ht6.cell hS.1 hno, ht6.cell hS.2.1 hno, ht6.cell hS.2.2 hno⟩
    refine hK _ _ (.inr hS) ?_
    obtain ⟨_, s1, _⟩ := hS
    have hsw := HT2.out.size
    generalize hQQ : Q.take f ++ (R ++ (Q.drop f).take (H - f - k)) = QQ at *
    have hQl : QQ.length = H := by
      have h1 := HL5.out
      have h2 := HH.out
      rw [← hQQ, List.length_append, List.length_take]
      omega
    obtain ⟨p, hp⟩ : ∃ p, QQ[H - 1]? = some p := ⟨_, List.getElem?_eq_getElem (by omega)⟩
    obtain ⟨l, hl, g1, g2, g3, g4⟩ := hr6.line hp
    have HROW := Lib.hid (row_in γ β (H - 1) p.1 _ w6 hg6 (by rw [List.getElem?_map, hp]; rfl))
    rw [show ((H - 1 : Nat) : Int) = (H : Int) - 1 from by omega] at HROW
    have HGO := Lib.hid (goOn_any p.1 p.2 l false w6 g1)
    have HF : Hid (∀ w7, RowAt w7 p.1 p.2 (l.1, false) → Turn (fun j => j = p.1) w6 w7 → Scrolled w X γ β W (downR L f n W) w7) := Lib.hid fun w7 hr7 ht7 => by
      have hn1 : γ ≠ p.1 := hg6.typ1.ne g1.typ (by decide)
      have hn2 : β ≠ p.1 := hg6.typ2.ne g1.typ (by decide)
      refine ⟨QQ, hg6.turn ht7 hn1 hn2, ?_, ?_⟩
      · rw [HUP.out]
        have hc : cutAt H (cutAt f (L.take f ++ (List.replicate k (blanks W, false) ++ (L.drop f).take (H - f - k)))) = (cutAt f (L.take f ++ (List.replicate k (blanks W, false) ++ (L.drop f).take (H - f - k)))).set (H - 1) (l.1, false) := by
          show (if H = 0 then _ else _) = _
          rw [if_neg (by omega), List.getD_eq_getElem?_getD, hl]
          rfl
        rw [hc]
        exact (hr6.set hp hr7 g2 (ht7.mono (fun _ _ e => .inl e))).mono (fun b hb _ => hb.elim (fun e => .inl e.1) (fun e => .inr (by omega)))
      · have h1 : Turn (fun b => b = β ∨ ((X b ∧ b < w.heap.size) ∨ w2.heap.size ≤ b)) w w5 := (Turn.of_new HTW.out : Turn (fun _ => False) w w5).mono (fun _ _ h => h.elim)
        refine ((h1.trans ht6).trans (ht7.mono (fun b _ e => .inr (by rw [e]; exact g3)))).mono (fun b hb e => ?_)
        rcases e with e | e | e
        · exact .inl e
        · exact .inr e.1
        · omega
    clear hK hg6 hr6 ht6 HLAY hQQ hQl hp hl g1 g2 g3 g4
    refine take_done (by kernel_rfl) ?_ _
    go_wp2_with fail
    refine HROW.out.mono ?_
    rintro e w7 ⟨rfl, rfl⟩
    go_wp2_with fail
    refine HGO.out.mono ?_
    rintro e w7 ⟨rfl, hr7, ht7⟩
    have HF7 := Lib.hid (HF.out w7 hr7 ht7)
    clear hr7 ht7 HF
    go_wp2_with fail
    go_end0
    exact ⟨rfl, HF7.out⟩
  · have dn : decide (0 < n) = false := decide_eq_false hn
    rw [dn] at HOF
    have HF : Hid (∀ w', Below w.heap.size w w' → Scrolled w X γ β W (downR L f n W) w') := Lib.hid fun w' hb => by
      have T : Turn (fun _ => False) w w' := Turn.of_new hb
      refine ⟨Q, HG.out.turn T id id, ?_, T.mono (fun _ _ h => h.elim)⟩
      rw [show downR L f n W = L from if_pos (by omega)]
      exact (HRS.out.below hb).mono (fun b hb _ => .inl hb)
    go_enter Tryz.func126, Tryz.ntmps126
    go_wp2_with fail
    refine HOF.out.mono ?_
    rintro e w1 ⟨rfl, hb1⟩
    have hnew : (w1.alloc (.cells (strA 0 0 0) 256)).heap[w1.heap.size]? = some (.cells (strA 0 0 0) 256 (0, 0)) := heap_alloc_new w1 _
    have hrow : (w1.alloc (.cells (strA 0 0 0) 256)).setRow w1.heap.size (strA f H m) = w1.alloc (.cells (strA f H m) 256) := World.setRow_alloc_new w1 _ _ _
    have HB1 := Lib.hid (hb1.alloc hb1.size (.cells (strA f H m) 256))
    clear hb1
    go_wp2_with (refine wpList_store_row rfl 256 _ _ rfl w1.heap.size (strA f H m) rfl rfl _ _ hnew (size_str _ _ _) rfl (one_str _ _ _) ?_)
    go_end0
    refine ⟨rfl, ?_⟩
    first | exact HF.out _ HB1.out | (rw [hrow]; exact HF.out _ HB1.out)
end Go.Proofs.YtjicdcmdgbcdcaaGreatDoor.Scr
end

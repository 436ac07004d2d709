/-
  scroll: of, rows, blanks.
  bound: side, Most.
  rows of a grid, apart; scroll.blanks.
  octet: Lead.
  scroll: lay.
  scroll: Up.
-/
import Derived.Test.YtjicdcmdgbcdcaaGreatDoorCd14

section
namespace Go.Proofs.YtjicdcmdgbcdcaaGreatDoor.Scr
set_option linter.unusedSimpArgs false
set_option linter.unusedVariables false
open Go Go.RowKit Mem Turn Ring

theorem size_str (x y z : Value) : (Tryz.prog.info? 256).map (·.size) = some (#[x, y, z] : Array Value).size := by kernel_rfl
abbrev strA (a b c : Int) : Array Value := #[.int .i64 a, .int .i64 b, .int .i64 c]
theorem one_str (a b c : Int) : (strA a b c).all (·.oneCell') = true := by simp [Value.oneCell']

set_option maxRecDepth 100000 in
set_option maxHeartbeats 8000000 in
theorem of_any (γ β : Nat) (fr n : Int) (P : List Nat) (w : World) (h : GridAt w γ β P) (hf0 : 0 ≤ fr) (hf : fr < (P.length : Int)) :
    Calls Tryz.prog 185 #[ptr γ, .int .i64 fr, .int .i64 (P.length : Int), .int .i64 n] w fun e w' => e = .returned (.tuple #[.agg (strA fr P.length (min n ((P.length : Int) - fr))), .bool (decide (0 < n))]) ∧ Below w.heap.size w w' := by
  have e1 := heap_alloc_new w (.cells (strA 0 0 0) 256)
  have T : Turn (fun _ => False) w (w.alloc (.cells (strA 0 0 0) 256)) := Turn.alloc _ _ _
  have HH := Lib.hid (high_any γ β P _ (h.turn T id id))
  have HB : Hid (Below w.heap.size w (w.alloc (.cells (strA 0 0 0) 256))) := Lib.hid ((Below.refl _ _).alloc (Nat.le_refl _) _)
  have hs : (w.alloc (.cells (strA 0 0 0) 256)).heap.size = w.heap.size + 1 := by simp
  have hle := h.le
  generalize P.length = H at *
  obtain ⟨b, hb⟩ : ∃ b, b = decide (0 < n) := ⟨_, rfl⟩
  rw [← hb]
  have HS := Lib.hid hs
  have HE1 := Lib.hid e1
  have hfd : decide (fr < (H : Int)) = true := decide_eq_true hf
  clear h T hs e1
  by_cases hn : n ≤ (H : Int) - fr
  · rw [show min n ((H : Int) - fr) = n from by omega]
    have hnd : decide (n ≤ (H : Int) - fr) = true := decide_eq_true hn
    rcases (by omega : fr = 0 ∨ 0 < fr) with hz | hfp
    · subst hz
      go_enter Tryz.func185, Tryz.ntmps185
      go_upto_region 1 with fail
      generalize (w.alloc (.cells #[.int .i64 0, .int .i64 0, .int .i64 0] 256)) = w1 at *
      go_wp2_with fail
      refine HH.out.mono ?_
      rintro e wx ⟨rfl, rfl⟩
      go_wp2_with fail
      refine HH.out.mono ?_
      rintro e wx ⟨rfl, rfl⟩
      have hnew : (w1.alloc (.cells (strA 0 0 0) 256)).heap[w1.heap.size]? = some (.cells (strA 0 0 0) 256 (0, 0)) := heap_alloc_new w1 _
      have hrow : (w1.alloc (.cells (strA 0 0 0) 256)).setRow w1.heap.size (strA 0 H n) = w1.alloc (.cells (strA 0 H n) 256) := World.setRow_alloc_new w1 _ _ _
      go_upto_region 3 with (refine wpList_store_row rfl 256 _ _ rfl w1.heap.size (strA 0 H n) rfl rfl _ _ hnew (size_str _ _ _) rfl (one_str _ _ _) ?_)
      try rw [hrow]
      have e2 := heap_alloc_new w1 (.cells (strA 0 H n) 256)
      have T2 : Turn (fun _ => False) w1 (w1.alloc (.cells (strA 0 H n) 256)) := Turn.alloc _ _ _
      have e3 := T2.heap HE1.out id
      have HB2 := Lib.hid (HB.out.trans (T2.below HB.out.size (fun _ h => h.elim)))
      clear hnew hrow T2
      generalize (w1.alloc (.cells (strA 0 H n) 256)) = w2 at *
      obtain ⟨c0, c1, c2⟩ := cells3 e2
      clear e2
      have HF := Lib.hid (setRow_heap w2 w.heap.size _ (strA 0 H n) 256 (0, 0) e3)
      go_wp2_with (refine wpList_store_row rfl 256 _ _ rfl w.heap.size (strA 0 H n) rfl rfl _ _ e3 (size_str _ _ _) rfl (one_str _ _ _) ?_)
      refine bodyPost_ret (results_ct rfl _ _ w.heap.size 256 _ (0, 0) _ rfl HF.out Tryz.underlying256 rfl (size_str _ _ _)) rfl ?_
      refine ⟨?_, HB2.out.trans ((turn_setRow _ _ _).below HB2.out.size (fun k e => by omega))⟩
      subst hb
      first | rfl | (rw [decide_eq_true (show 0 < n by omega)]; rfl)
    · skip
      go_enter Tryz.func185, Tryz.ntmps185
      go_upto_region 1 with fail
      generalize (w.alloc (.cells #[.int .i64 0, .int .i64 0, .int .i64 0] 256)) = w1 at *
      go_wp2_with fail
      refine HH.out.mono ?_
      rintro e wx ⟨rfl, rfl⟩
      go_wp2_with fail
      refine HH.out.mono ?_
      rintro e wx ⟨rfl, rfl⟩
      have hnew : (w1.alloc (.cells (strA 0 0 0) 256)).heap[w1.heap.size]? = some (.cells (strA 0 0 0) 256 (0, 0)) := heap_alloc_new w1 _
      have hrow : (w1.alloc (.cells (strA 0 0 0) 256)).setRow w1.heap.size (strA fr H n) = w1.alloc (.cells (strA fr H n) 256) := World.setRow_alloc_new w1 _ _ _
      go_upto_region 3 with (refine wpList_store_row rfl 256 _ _ rfl w1.heap.size (strA fr H n) rfl rfl _ _ hnew (size_str _ _ _) rfl (one_str _ _ _) ?_)
      try rw [hrow]
      have e2 := heap_alloc_new w1 (.cells (strA fr H n) 256)
      have T2 : Turn (fun _ => False) w1 (w1.alloc (.cells (strA fr H n) 256)) := Turn.alloc _ _ _
      have e3 := T2.heap HE1.out id
      have HB2 := Lib.hid (HB.out.trans (T2.below HB.out.size (fun _ h => h.elim)))
      clear hnew hrow T2
      generalize (w1.alloc (.cells (strA fr H n) 256)) = w2 at *
      obtain ⟨c0, c1, c2⟩ := cells3 e2
      clear e2
      have HF := Lib.hid (setRow_heap w2 w.heap.size _ (strA fr H n) 256 (0, 0) e3)
      go_wp2_with (refine wpList_store_row rfl 256 _ _ rfl w.heap.size (strA fr H n) rfl rfl _ _ e3 (size_str _ _ _) rfl (one_str _ _ _) ?_)
      refine bodyPost_ret (results_ct rfl _ _ w.heap.size 256 _ (0, 0) _ rfl HF.out Tryz.underlying256 rfl (size_str _ _ _)) rfl ?_
      refine ⟨?_, HB2.out.trans ((turn_setRow _ _ _).below HB2.out.size (fun k e => by omega))⟩
      subst hb
      first | rfl | (rw [decide_eq_true (show 0 < n by omega)]; rfl)
  · rw [show min n ((H : Int) - fr) = (H : Int) - fr from by omega]
    have hnd : decide (n ≤ (H : Int) - fr) = false := decide_eq_false hn
    rcases (by omega : fr = 0 ∨ 0 < fr) with hz | hfp
    · subst hz
      go_enter Tryz.func185, Tryz.ntmps185
      go_upto_region 1 with fail
      generalize (w.alloc (.cells #[.int .i64 0, .int .i64 0, .int .i64 0] 256)) = w1 at *
      go_wp2_with fail
      refine HH.out.mono ?_
      rintro e wx ⟨rfl, rfl⟩
      go_wp2_with fail
      refine HH.out.mono ?_
      rintro e wx ⟨rfl, rfl⟩
      have hnew : (w1.alloc (.cells (strA 0 0 0) 256)).heap[w1.heap.size]? = some (.cells (strA 0 0 0) 256 (0, 0)) := heap_alloc_new w1 _
      have hrow : (w1.alloc (.cells (strA 0 0 0) 256)).setRow w1.heap.size (strA 0 H ((H : Int) - 0)) = w1.alloc (.cells (strA 0 H ((H : Int) - 0)) 256) := World.setRow_alloc_new w1 _ _ _
      go_upto_region 3 with (refine wpList_store_row rfl 256 _ _ rfl w1.heap.size (strA 0 H ((H : Int) - 0)) rfl rfl _ _ hnew (size_str _ _ _) rfl (one_str _ _ _) ?_)
      try rw [hrow]
      have e2 := heap_alloc_new w1 (.cells (strA 0 H ((H : Int) - 0)) 256)
      have T2 : Turn (fun _ => False) w1 (w1.alloc (.cells (strA 0 H ((H : Int) - 0)) 256)) := Turn.alloc _ _ _
      have e3 := T2.heap HE1.out id
      have HB2 := Lib.hid (HB.out.trans (T2.below HB.out.size (fun _ h => h.elim)))
      clear hnew hrow T2
      generalize (w1.alloc (.cells (strA 0 H ((H : Int) - 0)) 256)) = w2 at *
      obtain ⟨c0, c1, c2⟩ := cells3 e2
      clear e2
      have HF := Lib.hid (setRow_heap w2 w.heap.size _ (strA 0 H ((H : Int) - 0)) 256 (0, 0) e3)
      go_wp2_with (refine wpList_store_row rfl 256 _ _ rfl w.heap.size (strA 0 H ((H : Int) - 0)) rfl rfl _ _ e3 (size_str _ _ _) rfl (one_str _ _ _) ?_)
      refine bodyPost_ret (results_ct rfl _ _ w.heap.size 256 _ (0, 0) _ rfl HF.out Tryz.underlying256 rfl (size_str _ _ _)) rfl ?_
      refine ⟨?_, HB2.out.trans ((turn_setRow _ _ _).below HB2.out.size (fun k e => by omega))⟩
      subst hb
      first | rfl | (rw [decide_eq_true (show 0 < n by omega)]; rfl)
    · skip
      go_enter Tryz.func185, Tryz.ntmps185
      go_upto_region 1 with fail
      generalize (w.alloc (.cells #[.int .i64 0, .int .i64 0, .int .i64 0] 256)) = w1 at *
      go_wp2_with fail
      refine HH.out.mono ?_
      rintro e wx ⟨rfl, rfl⟩
      go_wp2_with fail
      refine HH.out.mono ?_
      rintro e wx ⟨rfl, rfl⟩
      have hnew : (w1.alloc (.cells (strA 0 0 0) 256)).heap[w1.heap.size]? = some (.cells (strA 0 0 0) 256 (0, 0)) := heap_alloc_new w1 _
      have hrow : (w1.alloc (.cells (strA 0 0 0) 256)).setRow w1.heap.size (strA fr H ((H : Int) - fr)) = w1.alloc (.cells (strA fr H ((H : Int) - fr)) 256) := World.setRow_alloc_new w1 _ _ _
      go_upto_region 3 with (refine wpList_store_row rfl 256 _ _ rfl w1.heap.size (strA fr H ((H : Int) - fr)) rfl rfl _ _ hnew (size_str _ _ _) rfl (one_str _ _ _) ?_)
      try rw [hrow]
      have e2 := heap_alloc_new w1 (.cells (strA fr H ((H : Int) - fr)) 256)
      have T2 : Turn (fun _ => False) w1 (w1.alloc (.cells (strA fr H ((H : Int) - fr)) 256)) := Turn.alloc _ _ _
      have e3 := T2.heap HE1.out id
      have HB2 := Lib.hid (HB.out.trans (T2.below HB.out.size (fun _ h => h.elim)))
      clear hnew hrow T2
      generalize (w1.alloc (.cells (strA fr H ((H : Int) - fr)) 256)) = w2 at *
      obtain ⟨c0, c1, c2⟩ := cells3 e2
      clear e2
      have HF := Lib.hid (setRow_heap w2 w.heap.size _ (strA fr H ((H : Int) - fr)) 256 (0, 0) e3)
      go_wp2_with (refine wpList_store_row rfl 256 _ _ rfl w.heap.size (strA fr H ((H : Int) - fr)) rfl rfl _ _ e3 (size_str _ _ _) rfl (one_str _ _ _) ?_)
      refine bodyPost_ret (results_ct rfl _ _ w.heap.size 256 _ (0, 0) _ rfl HF.out Tryz.underlying256 rfl (size_str _ _ _)) rfl ?_
      refine ⟨?_, HB2.out.trans ((turn_setRow _ _ _).below HB2.out.size (fun k e => by omega))⟩
      subst hb
      first | rfl | (rw [decide_eq_true (show 0 < n by omega)]; rfl)

/-- pointers of the call's own -/
def OwnPtrs (B : Nat) (w : World) (v : Value) (Q : List Nat) : Prop := w.ownsRow B 128 1 v Q.length (Q.map ptr)
theorem info_ptr : (Tryz.prog.info? 128).map (fun i => (i.zero, i.size, i.bytes)) = some (some (.pointer none), 1, 8) := by kernel_rfl

set_option maxRecDepth 100000 in
set_option maxHeartbeats 4000000 in
theorem rows_any (γ β a b : Nat) (P : List Nat) (w : World) (h : GridAt w γ β P) (hab : a ≤ b) (hb : b ≤ P.length) :
    Calls Tryz.prog 187 #[ptr γ, .int .i64 (a : Int), .int .i64 (b : Int)] w fun e w' => ∃ v, e = .returned v ∧ OwnPtrs w.heap.size w' v ((P.drop a).take (b - a)) ∧ Below w.heap.size w w' := by
  obtain ⟨i0, hi, hz0, hz1, hz2⟩ := info_parts info_ptr
  have HG := Lib.hid h
  have hle := h.le
  have HPB := Lib.hid hb
  have hb1 : b ≤ 1024 := by omega
  clear h hb
  go_enter Tryz.func187, Tryz.ntmps187
  go_wp2_with fail
  go_loopg [7, 8] (b - a) (fun gg v7 i wx => ∃ k : Nat, b - a - k = gg ∧ k ≤ b - a ∧ i = .int .i64 ((a + k : Nat) : Int) ∧ Hid (OwnPtrs w.heap.size wx v7 ((P.drop a).take k) ∧ Below w.heap.size w wx))
  case atStart => exact ⟨0, rfl, Nat.zero_le _, rfl, Lib.hid ⟨World.ownsRow_nil _ _ _ _, Below.refl _ _⟩⟩
  case round =>
    obtain ⟨k, rfl, hk, rfl, H⟩ := hrel
    have hlen : ((P.drop a).take k).length = k := by have := HPB.out; rw [List.length_take, List.length_drop]; omega
    have ho := H.out.1
    unfold OwnPtrs at ho
    rw [hlen] at ho
    obtain ⟨av, cv, hav⟩ := Turn.own_slice ho
    subst hav
    by_cases hlt : k < b - a
    · obtain ⟨ρ, hρ⟩ : ∃ ρ, P[a + k]? = some ρ := ⟨_, List.getElem?_eq_getElem (by have := HPB.out; omega)⟩
      have HR := Lib.hid (row_in γ β (a + k) ρ P wr (HG.out.turn (Turn.of_new H.out.2 : Turn (fun _ => False) w wr) id id) hρ)
      have htk : (P.drop a).take (k + 1) = (P.drop a).take k ++ [ρ] := by
        rw [List.take_add_one, List.getElem?_drop, hρ]
        rfl
      have HTK := Lib.hid htk
      have HO := Lib.hid ho
      have hlt' : ((a + k : Nat) : Int) < (b : Int) := by omega
      have hsz := H.out.2.size
      clear hρ htk ho hlen
      generalize hak : a + k = ak at *
      have hak2 : ak < b := by omega
      go_wp2_with fail
      refine HR.out.mono ?_
      rintro e w1 ⟨rfl, rfl⟩
      go_wp2_with (at_builtin; (refine wpList_append_own _ rfl _ _ 135 rfl w.heap.size 128 i0 _ 1 8 Tryz.underlying135 hi hz0 hz1 hz2 rfl (by decide) (.slice av k cv) k _ rfl (HO.out.alloc _) ⟨wr.heap.size, 0, none⟩ 1 1 [ptr ρ] rfl rfl (cell_new1 _ _ _) (by simp [Value.oneCell']) (by unfold maxLen; omega) (by omega) (by simp; omega) ?_; intro v5 w5 hown5 hgrow5 _))
      have HN : Hid (OwnPtrs w.heap.size w5 v5 ((P.drop a).take (k + 1)) ∧ Below w.heap.size w w5) := Lib.hid (by
        refine ⟨?_, Below.grown (H.out.2.alloc H.out.2.size _) hgrow5 (by simp; omega) (fun g e => (HO.out.lt g e).1)⟩
        unfold OwnPtrs
        have hl2 : ((P.drop a).take (k + 1)).length = k + 1 := by have := HPB.out; rw [List.length_take, List.length_drop]; omega
        rw [hl2, HTK.out]
        simpa using hown5)
      clear hown5 hgrow5
      go_roundg (b - a - (k + 1))
      case measure => omega
      case rel => exact ⟨k + 1, rfl, by omega, by first | go_num | (congr 1; omega), HN⟩
    · obtain rfl : k = b - a := by omega
      have hnl : ¬ ((a + (b - a) : Nat) : Int) < (b : Int) := by omega
      have hnl2 : ¬ (a + (b - a) : Nat) < b := by omega
      have HF : Hid (OwnPtrs w.heap.size wr (.slice av (b - a) cv) ((P.drop a).take (b - a)) ∧ Below w.heap.size w wr) := H
      clear ho hlen
      go_wp2_with fail
      go_ret
      exact ⟨_, rfl, HF.out.1, HF.out.2⟩
end Go.Proofs.YtjicdcmdgbcdcaaGreatDoor.Scr
end
section
namespace Go.Proofs.YtjicdcmdgbcdcaaGreatDoor.Scr
set_option linter.unusedSimpArgs false
set_option linter.unusedVariables false
open Go Go.RowKit Mem Turn Ring

end Go.Proofs.YtjicdcmdgbcdcaaGreatDoor.Scr
end
section
namespace Go.Proofs.YtjicdcmdgbcdcaaGreatDoor.Scr
set_option linter.unusedSimpArgs false
set_option linter.unusedVariables false
open Go Go.RowKit Mem Turn Ring

/-- rows, each with its two blocks, all apart, in X -/
structure RowsAt (w : World) (X : Nat → Prop) (Q : List (Nat × Nat)) (Ls : List LineC) (W : Nat) : Prop where
  len : Q.length = Ls.length
  row : ∀ (i : Nat) (p : Nat × Nat) (l : LineC), Q[i]? = some p → Ls[i]? = some l → RowAt w p.1 p.2 l ∧ l.1.length = W ∧ X p.1 ∧ X p.2
  dis : ∀ (i j : Nat) (p q : Nat × Nat), Q[i]? = some p → Q[j]? = some q → i ≠ j → p.1 ≠ q.1 ∧ p.2 ≠ q.2
theorem RowsAt.line {w : World} {X : Nat → Prop} {Q : List (Nat × Nat)} {Ls : List LineC} {W : Nat} (h : RowsAt w X Q Ls W) {i : Nat} {p : Nat × Nat} (hp : Q[i]? = some p) : ∃ l, Ls[i]? = some l ∧ RowAt w p.1 p.2 l ∧ l.1.length = W ∧ X p.1 ∧ X p.2 := by
  have hl := (List.getElem?_eq_some_iff.1 hp).1
  obtain ⟨l, hl⟩ : ∃ l, Ls[i]? = some l := ⟨_, List.getElem?_eq_getElem (by rw [← h.len]; exact hl)⟩
  exact ⟨l, hl, h.row i p l hp hl⟩
theorem RowsAt.turn {w w' : World} {X T : Nat → Prop} {Q : List (Nat × Nat)} {Ls : List LineC} {W : Nat} (h : RowsAt w X Q Ls W) (ht : Turn T w w') (hf : Free T w 21) (hX : ∀ p ∈ Q, ¬ T p.1 ∧ ¬ T p.2) : RowsAt w' X Q Ls W :=
  ⟨h.len, fun i p l hp hl => by
    obtain ⟨h1, h2, h3, h4⟩ := h.row i p l hp hl
    obtain ⟨g1, g2⟩ := hX p (List.mem_of_getElem? hp)
    exact ⟨h1.turn ht hf g1 g2, h2, h3, h4⟩, h.dis⟩
theorem RowsAt.below {w w' : World} {X : Nat → Prop} {Q : List (Nat × Nat)} {Ls : List LineC} {W : Nat} (h : RowsAt w X Q Ls W) (hb : Below w.heap.size w w') : RowsAt w' X Q Ls W :=
  h.turn (Turn.of_new hb : Turn (fun _ => False) w w') (Free.no _ _) (fun _ _ => ⟨id, id⟩)
theorem RowsAt.mono {w : World} {X X' : Nat → Prop} {Q : List (Nat × Nat)} {Ls : List LineC} {W : Nat} (h : RowsAt w X Q Ls W) (hX : ∀ b, X b → b < w.heap.size → X' b) : RowsAt w X' Q Ls W :=
  ⟨h.len, fun i p l hp hl => by
    obtain ⟨h1, h2, h3, h4⟩ := h.row i p l hp hl
    exact ⟨h1, h2, hX _ h3 h1.typ.lt, hX _ h4 h1.cells.typ.lt⟩, h.dis⟩
theorem RowsAt.nil (w : World) (X : Nat → Prop) (W : Nat) : RowsAt w X [] [] W := ⟨rfl, (fun i p l h => by cases h), (fun i j p q h => by cases h)⟩
theorem RowsAt.all {w : World} {X : Nat → Prop} {Q : List (Nat × Nat)} {Ls : List LineC} {W : Nat} (h : RowsAt w X Q Ls W) : AllRows w (Q.map (·.1)) W := by
  intro ρ hρ
  obtain ⟨p, hp, rfl⟩ := List.mem_map.1 hρ
  obtain ⟨i, hi⟩ := List.getElem?_of_mem hp
  obtain ⟨l, _, h1, h2, _⟩ := h.line hi
  exact ⟨p.2, l, h1, h2⟩
theorem RowsAt.app {w : World} {X : Nat → Prop} {Q Q' : List (Nat × Nat)} {Ls Ls' : List LineC} {W : Nat} (h : RowsAt w X Q Ls W) (h' : RowsAt w X Q' Ls' W) (hd : ∀ p ∈ Q, ∀ q ∈ Q', p.1 ≠ q.1 ∧ p.2 ≠ q.2) : RowsAt w X (Q ++ Q') (Ls ++ Ls') W := by
  refine ⟨by simp [h.len, h'.len], fun i p l hp hl => ?_, fun i j p q hp hq hne => ?_⟩
  · rcases Nat.lt_or_ge i Q.length with hi | hi
    · rw [List.getElem?_append_left hi] at hp
      rw [List.getElem?_append_left (by rw [← h.len]; exact hi)] at hl
      exact h.row i p l hp hl
    · rw [List.getElem?_append_right hi] at hp
      rw [List.getElem?_append_right (by rw [← h.len]; exact hi), ← h.len] at hl
      exact h'.row _ p l hp hl
  · rcases Nat.lt_or_ge i Q.length with hi | hi <;> rcases Nat.lt_or_ge j Q.length with hj | hj
    · rw [List.getElem?_append_left hi] at hp
      rw [List.getElem?_append_left hj] at hq
      exact h.dis i j p q hp hq hne
    · rw [List.getElem?_append_left hi] at hp
      rw [List.getElem?_append_right hj] at hq
      exact hd p (List.mem_of_getElem? hp) q (List.mem_of_getElem? hq)
    · rw [List.getElem?_append_right hi] at hp
      rw [List.getElem?_append_left hj] at hq
      have := hd q (List.mem_of_getElem? hq) p (List.mem_of_getElem? hp)
      exact ⟨fun e => this.1 e.symm, fun e => this.2 e.symm⟩
    · rw [List.getElem?_append_right hi] at hp
      rw [List.getElem?_append_right hj] at hq
      exact h'.dis _ _ p q hp hq (by omega)
theorem RowsAt.take {w : World} {X : Nat → Prop} {Q : List (Nat × Nat)} {Ls : List LineC} {W : Nat} (h : RowsAt w X Q Ls W) (k : Nat) : RowsAt w X (Q.take k) (Ls.take k) W := by
  have ht : ∀ {α : Type} {l : List α} {i : Nat} {x : α}, (l.take k)[i]? = some x → l[i]? = some x := by
    intro α l i x hx
    rw [List.getElem?_take] at hx
    split at hx
    · exact hx
    · cases hx
  exact ⟨by simp [h.len], fun i p l hp hl => h.row i p l (ht hp) (ht hl), fun i j p q hp hq hne => h.dis i j p q (ht hp) (ht hq) hne⟩
theorem RowsAt.drop {w : World} {X : Nat → Prop} {Q : List (Nat × Nat)} {Ls : List LineC} {W : Nat} (h : RowsAt w X Q Ls W) (k : Nat) : RowsAt w X (Q.drop k) (Ls.drop k) W := by
  refine ⟨by simp [h.len], fun i p l hp hl => ?_, fun i j p q hp hq hne => ?_⟩
  · rw [List.getElem?_drop] at hp hl
    exact h.row _ p l hp hl
  · rw [List.getElem?_drop] at hp hq
    exact h.dis _ _ p q hp hq (by omega)
/-- one row turned by its own call -/
theorem RowsAt.set {w w' : World} {X : Nat → Prop} {Q : List (Nat × Nat)} {Ls : List LineC} {W i : Nat} {p : Nat × Nat} {l' : LineC} (h : RowsAt w X Q Ls W) (hp : Q[i]? = some p) (hr : RowAt w' p.1 p.2 l') (hl : l'.1.length = W) (ht : Turn (fun b => b = p.1 ∨ b = p.2) w w') : RowsAt w' X Q (Ls.set i l') W := by
  obtain ⟨l, hl0, h1, h2, h3, h4⟩ := h.line hp
  refine ⟨by simp [h.len], fun j q x hq hx => ?_, h.dis⟩
  by_cases hj : i = j
  · subst hj
    rw [hp] at hq
    injection hq with hq
    subst hq
    rw [List.getElem?_set_self (List.getElem?_eq_some_iff.1 hl0).1] at hx
    injection hx with hx
    subst hx
    exact ⟨hr, hl, h3, h4⟩
  · rw [List.getElem?_set_ne hj] at hx
    obtain ⟨g1, g2, g3, g4⟩ := h.row j q x hq hx
    obtain ⟨d1, d2⟩ := h.dis i j p q hp hq hj
    refine ⟨g1.turn ht h1.free ?_ ?_, g2, g3, g4⟩
    · rintro (e | e)
      · exact d1 e.symm
      · exact g1.typ.ne h1.cells.typ (by decide) e
    · rintro (e | e)
      · exact h1.typ.ne g1.cells.typ (by decide) e.symm
      · exact d2 e.symm

set_option maxRecDepth 100000 in
set_option maxHeartbeats 4000000 in
theorem sblanks_any (γ β W m : Nat) (P : List Nat) (w : World) (h : GridAt w γ β P) (ha : AllRows w P W) (hW1 : 1 ≤ W) (hW2 : W ≤ 1024) (hm : m ≤ 1024) :
    Calls Tryz.prog 188 #[ptr γ, .int .i64 (m : Int)] w fun e w' => ∃ v Q, e = .returned v ∧ OwnPtrs w.heap.size w' v (Q.map (·.1)) ∧ RowsAt w' (fun b => w.heap.size ≤ b) Q (List.replicate m (blanks W, false)) W ∧ Below w.heap.size w w' := by
  obtain ⟨i0, hi, hz0, hz1, hz2⟩ := info_parts info_ptr
  have HG := Lib.hid h
  have HA := Lib.hid ha
  clear h ha
  go_enter Tryz.func188, Tryz.ntmps188
  go_wp2_with fail
  go_loopg [5, 7] m (fun gg v5 i wx => ∃ k : Nat, m - k = gg ∧ k ≤ m ∧ i = .int .i64 k ∧ Hid (∃ Q : List (Nat × Nat), wx.ownsRow w.heap.size 128 1 v5 k ((Q.map (·.1)).map ptr) ∧ Q.length = k ∧ RowsAt wx (fun b => w.heap.size ≤ b) Q (List.replicate k (blanks W, false)) W ∧ Below w.heap.size w wx))
  case atStart => exact ⟨0, rfl, Nat.zero_le _, rfl, Lib.hid ⟨[], World.ownsRow_nil _ _ _ _, rfl, RowsAt.nil _ _ _, Below.refl _ _⟩⟩
  case round =>
    obtain ⟨k, rfl, hk, rfl, H⟩ := hrel
    obtain ⟨Q, ho, hql, hrs, hb⟩ := H.out
    obtain ⟨av, cv, hav⟩ := Turn.own_slice ho
    subst hav
    by_cases hlt : k < m
    · have T0 : Turn (fun _ => False) w wr := Turn.of_new hb
      have HW := Lib.hid (gwide_any γ β W P wr (HG.out.turn T0 id id) (fun ρ hρ => by
        obtain ⟨κ, l, h1, h2⟩ := HA.out ρ hρ
        exact ⟨κ, l, h1.turn T0 (Free.no _ _) id id, h2⟩))
      have HN := Lib.hid (new_any (W : Int) W (by omega) wr)
      have hlt' : (k : Int) < (m : Int) := by omega
      have HO := Lib.hid ho
      have HRS := Lib.hid hrs
      have HB := Lib.hid hb
      have hsz := hb.size
      have HQL := Lib.hid hql
      clear ho hrs hb T0 hql H
      go_wp2_with fail
      refine HW.out.mono ?_
      rintro e w1 ⟨rfl, rfl⟩
      go_wp2_with fail
      refine HN.out.mono ?_
      rintro e w2 ⟨rfl, hr2, hb2, hs2⟩
      have HR2 := Lib.hid hr2
      have HB2 := Lib.hid hb2
      have HS2 := Lib.hid hs2
      have hsz2 : w.heap.size ≤ w2.heap.size := by omega
      clear hs2
      have HO2 := Lib.hid ((Turn.of_new hb2 : Turn (fun _ => False) wr w2).kept HO.out (fun _ _ => id))
      clear hr2 hb2 HN HW
      go_wp2_with (at_builtin; (refine wpList_append_own _ rfl _ _ 135 rfl w.heap.size 128 i0 _ 1 8 Tryz.underlying135 hi hz0 hz1 hz2 rfl (by decide) (.slice av k cv) k _ rfl (HO2.out.alloc _) ⟨w2.heap.size, 0, none⟩ 1 1 [ptr (wr.heap.size + 1)] rfl rfl (cell_new1 _ _ _) (by simp [Value.oneCell']) (by unfold maxLen; omega) (by omega) (by simp; omega) ?_; intro v5 w5 hown5 hgrow5 _))
      have HNX : Hid (∃ Q : List (Nat × Nat), w5.ownsRow w.heap.size 128 1 v5 (k + 1) ((Q.map (·.1)).map ptr) ∧ Q.length = k + 1 ∧ RowsAt w5 (fun b => w.heap.size ≤ b) Q (List.replicate (k + 1) (blanks W, false)) W ∧ Below w.heap.size w w5) := Lib.hid (by
        have hs9 : ∀ g, (Value.slice av k cv).ownBlock = some g → Typ (w2.alloc (.cells #[ptr (wr.heap.size + 1)] 128)) 128 g := fun g hg => owns_typ (HO2.out.alloc _) hg
        have T5 : Turn (fun j => (Value.slice av k cv).ownBlock = some j) (w2.alloc (.cells #[ptr (wr.heap.size + 1)] 128)) w5 := Turn.of_grown hgrow5 (fun g e => e)
        have hf5 : Free (fun j => (Value.slice av k cv).ownBlock = some j) (w2.alloc (.cells #[ptr (wr.heap.size + 1)] 128)) 21 := fun b hb _ => (hs9 b hb).not (by decide)
        have TA : Turn (fun _ => False) w2 (w2.alloc (.cells #[ptr (wr.heap.size + 1)] 128)) := Turn.alloc _ _ _
        have hrsA := (HRS.out.below HB2.out).turn TA (Free.no _ _) (fun _ _ => ⟨id, id⟩)
        have hr2A := HR2.out.turn TA (Free.no _ _) id id
        have hd : ∀ p ∈ Q, p.1 < wr.heap.size ∧ p.2 < wr.heap.size := fun p hp => by
          obtain ⟨i, hi⟩ := List.getElem?_of_mem hp
          obtain ⟨l, _, h1, _⟩ := HRS.out.line hi
          exact ⟨h1.typ.lt, h1.cells.typ.lt⟩
        have hone : RowsAt (w2.alloc (.cells #[ptr (wr.heap.size + 1)] 128)) (fun b => w.heap.size ≤ b) [(wr.heap.size + 1, wr.heap.size)] [(blanks W, false)] W := by
          refine ⟨rfl, fun i p l hp hl => ?_, fun i j p q hp hq hne => ?_⟩
          · have hi0 : i = 0 := by have := (List.getElem?_eq_some_iff.1 hp).1; simp at this; exact this
            subst hi0
            simp at hp hl
            subst hp hl
            exact ⟨hr2A, by simp [blanks], by omega, hsz⟩
          · have h1 := (List.getElem?_eq_some_iff.1 hp).1
            have h2 := (List.getElem?_eq_some_iff.1 hq).1
            simp at h1 h2
            omega
        have happ := hrsA.app hone (fun p hp q hq => by
          simp at hq
          subst hq
          have := hd p hp
          exact ⟨by simp only; omega, by simp only; omega⟩)
        refine ⟨Q ++ [(wr.heap.size + 1, wr.heap.size)], by simpa using hown5, by simp [HQL.out], ?_, ?_⟩
        · rw [List.replicate_succ']
          exact happ.turn T5 hf5 (fun p hp => by
            obtain ⟨i, hi⟩ := List.getElem?_of_mem hp
            obtain ⟨l, _, h1, _⟩ := happ.line hi
            exact ⟨fun e => (hs9 _ e).not (by decide) h1.typ, fun e => (hs9 _ e).not (by decide) h1.cells.typ⟩)
        · exact ((HB.out.trans (HB2.out.mono hsz)).trans (TA.below (by omega) (fun _ h => h.elim))).trans (T5.below (by have := TA.size; omega) (fun j e => (HO2.out.lt j e).1)))
      clear hown5 hgrow5
      go_roundg (m - (k + 1))
      case measure => omega
      case rel => exact ⟨k + 1, rfl, by omega, by go_num, HNX⟩
    · obtain rfl : k = m := by omega
      clear ho hrs hb
      have HF := H
      have HQL := Lib.hid hql
      clear hql
      go_wp2_with fail
      go_ret
      obtain ⟨Q, h1, h2, h3, h4⟩ := HF.out
      exact ⟨_, Q, rfl, by unfold OwnPtrs; rw [List.length_map, h2]; exact h1, h3, h4⟩
end Go.Proofs.YtjicdcmdgbcdcaaGreatDoor.Scr
end
section
namespace Go.Proofs.YtjicdcmdgbcdcaaGreatDoor.Scr
set_option linter.unusedSimpArgs false
set_option linter.unusedVariables false
open Go Go.RowKit Mem Turn Ring

/-- how many bytes a form has that begins so -/
def leadN (b : Int) : Int := if 240 ≤ b ∧ b ≤ 244 then 4 else if 224 ≤ b ∧ b < 240 then 3 else if 194 ≤ b ∧ b < 224 then 2 else if b < 128 then 1 else 0
theorem lead_any (b : Int) (w : World) (h1 : 0 ≤ b) (h2 : b ≤ 255) : Calls Tryz.prog 181 #[.int .u8 b] w fun e w' => e = .returned (.int .i64 (leadN b)) ∧ w = w' := by
  have hc : (b < 128 ∧ leadN b = 1) ∨ (128 ≤ b ∧ b < 194 ∧ leadN b = 0) ∨ (194 ≤ b ∧ b < 224 ∧ leadN b = 2) ∨ (224 ≤ b ∧ b < 240 ∧ leadN b = 3) ∨ (240 ≤ b ∧ b ≤ 244 ∧ leadN b = 4) ∨ (244 < b ∧ leadN b = 0) := by
    unfold leadN
    omega
  rcases hc with ⟨a1, hl⟩ | ⟨a1, a2, hl⟩ | ⟨a1, a2, hl⟩ | ⟨a1, a2, hl⟩ | ⟨a1, a2, hl⟩ | ⟨a1, hl⟩
  all_goals
    rw [hl]
    clear hl
    go_enter Tryz.func181, Tryz.ntmps181
    go_wp2
    go_ret
    exact ⟨rfl, rfl⟩

/-- between which the second byte must be -/
def secondN (b : Int) : Int × Int := if leadN b < 2 then (0, 0) else if b = 224 then (160, 191) else if b = 237 then (128, 159) else if b = 240 then (144, 191) else if b = 244 then (128, 143) else (128, 191)
set_option maxHeartbeats 2000000 in
theorem second_any (b : Int) (w : World) (h1 : 0 ≤ b) (h2 : b ≤ 255) : Calls Tryz.prog 183 #[.int .u8 b] w fun e w' => e = .returned (.tuple #[.int .u8 (secondN b).1, .int .u8 (secondN b).2]) ∧ w = w' := by
  have HL := Lib.hid (lead_any b w h1 h2)
  have HS := Lib.hid (show secondN b = if leadN b < 2 then (0, 0) else if b = 224 then (160, 191) else if b = 237 then (128, 159) else if b = 240 then (144, 191) else if b = 244 then (128, 143) else (128, 191) from rfl)
  generalize hl : leadN b = l at *
  have HLL := Lib.hid hl
  clear hl
  by_cases hl2 : l < 2
  · rw [if_pos hl2] at HS
    have d : decide (l < 2) = true := decide_eq_true hl2
    go_enter Tryz.func183, Tryz.ntmps183
    go_wp2_with fail
    refine HL.out.mono ?_
    rintro e wx ⟨rfl, rfl⟩
    go_wp2_with fail
    go_ret2
    rw [HS.out]
    exact ⟨rfl, rfl⟩
  · rw [if_neg hl2] at HS
    have d : decide (l < 2) = false := decide_eq_false hl2
    have hl3 : 2 ≤ l := by omega
    rcases (by omega : b = 224 ∨ b = 237 ∨ b = 240 ∨ b = 244 ∨ (b ≠ 224 ∧ b ≠ 237 ∧ b ≠ 240 ∧ b ≠ 244)) with rfl | rfl | rfl | rfl | ⟨z1, z2, z3, z4⟩
    · clear hl2
      go_enter Tryz.func183, Tryz.ntmps183
      go_wp2_with fail
      refine HL.out.mono ?_
      rintro e wx ⟨rfl, rfl⟩
      go_wp2_with fail
      go_ret2
      rw [HS.out]
      exact ⟨rfl, rfl⟩
    · clear hl2
      go_enter Tryz.func183, Tryz.ntmps183
      go_wp2_with fail
      refine HL.out.mono ?_
      rintro e wx ⟨rfl, rfl⟩
      go_wp2_with fail
      go_ret2
      rw [HS.out]
      exact ⟨rfl, rfl⟩
    · clear hl2
      go_enter Tryz.func183, Tryz.ntmps183
      go_wp2_with fail
      refine HL.out.mono ?_
      rintro e wx ⟨rfl, rfl⟩
      go_wp2_with fail
      go_ret2
      rw [HS.out]
      exact ⟨rfl, rfl⟩
    · clear hl2
      go_enter Tryz.func183, Tryz.ntmps183
      go_wp2_with fail
      refine HL.out.mono ?_
      rintro e wx ⟨rfl, rfl⟩
      go_wp2_with fail
      go_ret2
      rw [HS.out]
      exact ⟨rfl, rfl⟩
    · rw [if_neg z1, if_neg z2, if_neg z3, if_neg z4] at HS
      have y1 : (b == 224) = false := beq_eq_false_iff_ne.2 z1
      have y2 : (b == 237) = false := beq_eq_false_iff_ne.2 z2
      have y3 : (b == 240) = false := beq_eq_false_iff_ne.2 z3
      have y4 : (b == 244) = false := beq_eq_false_iff_ne.2 z4
      clear hl2 z1 z2 z3 z4
      go_enter Tryz.func183, Tryz.ntmps183
      go_wp2_with fail
      refine HL.out.mono ?_
      rintro e wx ⟨rfl, rfl⟩
      go_wp2_with fail
      go_ret2
      rw [HS.out]
      exact ⟨rfl, rfl⟩
end Go.Proofs.YtjicdcmdgbcdcaaGreatDoor.Scr
end
section
namespace Go.Proofs.YtjicdcmdgbcdcaaGreatDoor.Scr
set_option linter.unusedSimpArgs false
set_option linter.unusedVariables false
open Go Go.RowKit Mem Turn Ring

theorem lay_set (P Q : List Nat) (f k : Nat) (hf : f ≤ P.length) (hk : k < Q.length) (hl : f + k < P.length) {q : Nat} (hq : Q[k]? = some q) :
    (P.take f ++ Q.take k ++ P.drop (f + k)).set (f + k) q = P.take f ++ Q.take (k + 1) ++ P.drop (f + (k + 1)) := by
  have h1 : (P.take f ++ Q.take k).length = f + k := by rw [List.length_append, List.length_take, List.length_take]; omega
  obtain ⟨x, hx⟩ : ∃ x, P.drop (f + k) = x :: P.drop (f + k + 1) := ⟨P[f + k], List.drop_eq_getElem_cons hl⟩
  rw [List.set_append_right _ _ (by omega), h1, Nat.sub_self, hx, List.set_cons_zero, List.take_add_one, hq]
  simp [List.append_assoc, Nat.add_assoc]
theorem own_ptr {w : World} {B n : Nat} {v : Value} {Q : List Nat} (h : w.ownsRow B 128 1 v n (Q.map ptr)) {k q : Nat} (hq : Q[k]? = some q) : ∃ g c, v = .slice (some ⟨g, 0, none⟩) n c ∧ n ≤ c ∧ B ≤ g ∧ w.cell? ⟨g, k, none⟩ = some (ptr q) := by
  obtain ⟨a, c, rfl, h2, h3⟩ := own_form h
  have hn : n = Q.length := by have := h.1; simp at this; omega
  obtain ⟨g, e, _, hb, _, _, hc⟩ := h3.resolve_left (by have := (List.getElem?_eq_some_iff.1 hq).1; omega)
  subst e
  exact ⟨g, c, rfl, h2, hb, hc k _ (by rw [List.getElem?_map, hq]; rfl)⟩

/-- the list's part of 'lay' -/
def LayIs (w : World) (γ β f : Nat) (P Q : List Nat) (k : Nat) (wx : World) : Prop := GridAt wx γ β (P.take f ++ Q.take k ++ P.drop (f + k)) ∧ Turn (fun b => b = β) w wx

/-- the row ahead of a stretch, if there is one -/
def LayPre (w : World) (P : List Nat) (f : Nat) : Option (Nat × Nat × LineC) → Prop
  | none => f = 0
  | some (ρ, κ, l) => 1 ≤ f ∧ P[f - 1]? = some ρ ∧ RowAt w ρ κ l
/-- what 'lay' turns: the list, and that row's mark -/
def LayPost (w : World) (β : Nat) (w' : World) : Option (Nat × Nat × LineC) → Prop
  | none => Turn (fun b => b = β) w w'
  | some (ρ, κ, l) => RowAt w' ρ κ (l.1, false) ∧ Turn (fun b => b = β ∨ b = ρ) w w'

set_option maxRecDepth 100000 in
set_option maxHeartbeats 4000000 in
theorem lay_any (γ β W B : Nat) (f : Nat) (to_ n_ : Int) (P Q : List Nat) (v : Value) (w : World) (h : GridAt w γ β P) (ha : AllRows w P W) (hq : AllRows w Q W) (hf : f + Q.length = P.length) (ho : OwnPtrs B w v Q) (hB : β < B)
    (lo : Option (Nat × Nat × LineC)) (hlo : LayPre w P f lo) :
    Calls Tryz.prog 186 #[.agg (strA f to_ n_), ptr γ, v] w fun e w' => e = .returned (.tuple #[]) ∧ GridAt w' γ β (P.take f ++ Q) ∧ LayPost w β w' lo := by
  have e1 := heap_alloc_new w (.cells (strA f to_ n_) 256)
  have T1 : Turn (fun _ => False) w (w.alloc (.cells (strA f to_ n_) 256)) := Turn.alloc _ _ _
  have HT1 := Lib.hid T1
  have HG := Lib.hid h
  have HA := Lib.hid ha
  have HQ := Lib.hid hq
  have HO : Hid (w.ownsRow B 128 1 v Q.length (Q.map ptr)) := Lib.hid ho
  have HLO := Lib.hid hlo
  have hsz : w.heap.size < (w.alloc (.cells (strA f to_ n_) 256)).heap.size := by simp
  have hle := h.le
  have hβ := h.typ2.lt
  obtain ⟨av, cv, hav⟩ := Turn.own_slice ho
  subst hav
  obtain ⟨n, hn⟩ : ∃ n, n = Q.length := ⟨_, rfl⟩
  rw [← hn] at hf
  have HN := Lib.hid hn
  have HF := Lib.hid hf
  have hfn : f + n ≤ 1024 := by omega
  rw [← hn] at HO
  have hslot : Value.slice av Q.length cv = .slice av n cv := by rw [hn]
  rw [hslot]
  clear h ha hq ho hlo T1 hn hslot hf
  obtain ⟨W1, hW1⟩ : ∃ W1, W1 = w.alloc (.cells (strA f to_ n_) 256) := ⟨_, rfl⟩
  have HST : Hid (LayIs W1 γ β f P Q 0 W1) := Lib.hid (by
    refine ⟨?_, Turn.refl _ _⟩
    rw [List.take_zero, List.append_nil, Nat.add_zero, List.take_append_drop, hW1]
    exact HG.out.turn HT1.out id id)
  rw [← hW1] at e1 HT1 hsz
  have HW1 := Lib.hid hW1
  clear hW1
  go_enter Tryz.func186, Tryz.ntmps186
  go_upto_region 1 with fail
  rw [← HW1.out]
  go_wp2_with fail
  go_loopg [6, 7, 10] n (fun gg v6 v7 i wx => ∃ k : Nat, n - k = gg ∧ k ≤ n ∧ i = .int .i64 k ∧ Hid (LayIs W1 γ β f P Q k wx))
  case atStart => exact ⟨0, rfl, Nat.zero_le _, rfl, HST⟩
  case round =>
    obtain ⟨k, rfl, hk, rfl, H⟩ := hrel
    have TW : Turn (fun b => b = β) w wr := (HT1.out.mono (fun _ _ h => h.elim)).trans H.out.2
    have e2 := H.out.2.heap e1 (by omega)
    obtain ⟨c0, _, _⟩ := cells3 e2
    have hfr : Free (fun b => b = β) w 21 := fun b e _ => by subst e; exact HG.out.typ2.not (by decide)
    have hrows : ∀ ρ κ l, RowAt w ρ κ l → RowAt wr ρ κ l := fun ρ κ l hr => hr.turn TW hfr (fun e => hr.typ.ne HG.out.typ2 (by decide) e) (fun e => hr.cells.typ.ne HG.out.typ2 (by decide) e)
    by_cases hlt : k < n
    · obtain ⟨q, hq⟩ : ∃ q, Q[k]? = some q := ⟨_, List.getElem?_eq_getElem (by rw [← HN.out]; exact hlt)⟩
      have hmem : q ∈ Q := List.mem_of_getElem? hq
      obtain ⟨κq, lq, hr1, hr2⟩ := HQ.out q hmem
      have hown : wr.ownsRow B 128 1 (.slice av n cv) n (Q.map ptr) := TW.kept HO.out (fun g hg e => by have := (HO.out.lt g hg).1; omega)
      obtain ⟨g, c', e', hnc, _, x0⟩ := own_ptr hown hq
      injection e' with e' _ e''
      subst e' e''
      have hall : AllRows wr (P.take f ++ Q.take k ++ P.drop (f + k)) W := fun ρ hρ => by
        have h9 : ρ ∈ P ∨ ρ ∈ Q := by
          rcases List.mem_append.1 hρ with h9 | h9
          · rcases List.mem_append.1 h9 with h9 | h9
            · exact .inl (List.mem_of_mem_take h9)
            · exact .inr (List.mem_of_mem_take h9)
          · exact .inl (List.mem_of_mem_drop h9)
        rcases h9 with h9 | h9
        · obtain ⟨κ, l, g1, g2⟩ := HA.out ρ h9
          exact ⟨κ, l, hrows _ _ _ g1, g2⟩
        · obtain ⟨κ, l, g1, g2⟩ := HQ.out ρ h9
          exact ⟨κ, l, hrows _ _ _ g1, g2⟩
      have hlen : (P.take f ++ Q.take k ++ P.drop (f + k)).length = P.length := by
        have := HF.out; have := HN.out
        simp only [List.length_append, List.length_take, List.length_drop]; omega
      have HS := Lib.hid (set_any γ β (f + k) q κq W _ lq wr H.out.1 hall (by rw [hlen, ← HF.out]; omega) (hrows _ _ _ hr1) hr2)
      have HLS := Lib.hid (lay_set P Q f k (by have := HF.out; omega) (by rw [← HN.out]; exact hlt) (by have := HF.out; omega) hq)
      rw [show ((f + k : Nat) : Int) = (f : Int) + (k : Int) from by omega] at HS
      have hlt' : (k : Int) < (n : Int) := by omega
      have HTR := Lib.hid H.out.2
      clear hq hmem hr1 hr2 hown hall hlen hrows hfr TW e2 H
      go_wp2_with fail
      refine HS.out.mono ?_
      rintro e w2 ⟨rfl, hg2, ht2⟩
      have HX : Hid (LayIs W1 γ β f P Q (k + 1) w2) := Lib.hid ⟨by rw [← HLS.out]; exact hg2, HTR.out.trans ht2⟩
      clear hg2 ht2 x0 c0
      go_wp2_with fail
      go_roundg (n - (k + 1))
      case measure => omega
      case rel => exact ⟨k + 1, rfl, by omega, by go_num, HX⟩
    · obtain rfl : k = n := by omega
      have hP : P.take f ++ Q.take k ++ P.drop (f + k) = P.take f ++ Q := by
        have := HF.out; have := HN.out
        rw [List.take_of_length_le (l := Q) (by omega), List.drop_of_length_le (by omega), List.append_nil]
      have hG : GridAt wr γ β (P.take f ++ Q) := by have := H.out.1; rw [hP] at this; exact this
      have HGF := Lib.hid hG
      have HTW := Lib.hid TW
      have hlo := HLO.out
      cases lo with
      | none =>
        have hlo : f = 0 := hlo
        subst hlo
        have HR := Lib.hid (row_out γ β (-1) _ wr hG (.inl (by omega)))
        have HGO := Lib.hid (goOn_nil false wr)
        clear hG hP hrows hfr TW e2 HLO H
        go_wp2_with fail
        refine HR.out.mono ?_
        rintro e w2 ⟨rfl, rfl⟩
        go_wp2_with fail
        refine HGO.out.mono ?_
        rintro e w2 ⟨rfl, rfl⟩
        go_wp2_with fail
        go_end0
        exact ⟨rfl, HGF.out, HTW.out⟩
      | some x =>
        obtain ⟨ρ, κ, l⟩ := x
        obtain ⟨hf1, hρ, hr⟩ : 1 ≤ f ∧ P[f - 1]? = some ρ ∧ RowAt w ρ κ l := hlo
        have hPi : (P.take f ++ Q)[f - 1]? = some ρ := by
          rw [List.getElem?_append_left (by rw [List.length_take]; have := HF.out; omega), List.getElem?_take, if_pos (by omega)]
          exact hρ
        have HR := Lib.hid (row_in γ β (f - 1) ρ _ wr hG hPi)
        rw [show ((f - 1 : Nat) : Int) = (f : Int) - 1 from by omega] at HR
        have hr2 := hrows _ _ _ hr
        have HGO := Lib.hid (goOn_any ρ κ l false wr hr2)
        have hn1 : γ ≠ ρ := hG.typ1.ne hr2.typ (by decide)
        have hn2 : β ≠ ρ := hG.typ2.ne hr2.typ (by decide)
        clear hG hP hrows hfr TW e2 HLO H hρ hr hPi hr2
        go_wp2_with fail
        refine HR.out.mono ?_
        rintro e w2 ⟨rfl, rfl⟩
        go_wp2_with fail
        refine HGO.out.mono ?_
        rintro e w2 ⟨rfl, hr3, ht3⟩
        have HX := Lib.hid (And.intro (HGF.out.turn ht3 hn1 hn2) (And.intro hr3 ((HTW.out.mono (fun _ _ e => .inl e) : Turn (fun b => b = β ∨ b = ρ) w wr).trans (ht3.mono (fun _ _ e => .inr e)))))
        clear hr3 ht3
        go_wp2_with fail
        go_end0
        exact ⟨rfl, HX.out⟩
end Go.Proofs.YtjicdcmdgbcdcaaGreatDoor.Scr
end
section
namespace Go.Proofs.YtjicdcmdgbcdcaaGreatDoor.Scr
set_option linter.unusedSimpArgs false
set_option linter.unusedVariables false
open Go Go.RowKit Mem Turn Ring

/-- the row ahead goes on no more -/
def cutAt (f : Nat) (L : List LineC) : List LineC := if f = 0 then L else L.set (f - 1) ((L.getD (f - 1) ([], false)).1, false)
/-- rows moved up -/
def upR (L : List LineC) (f : Nat) (n : Int) (W : Nat) : List LineC :=
  if n ≤ 0 then L else cutAt f (L.take f ++ (L.drop (f + (min n ((L.length : Int) - f)).toNat) ++ List.replicate (min n ((L.length : Int) - f)).toNat (blanks W, false)))

/-- the call turned the grid's list and rows, and laid some -/
def Scrolled (w : World) (X : Nat → Prop) (γ β W : Nat) (L' : List LineC) (w' : World) : Prop :=
  ∃ Q', GridAt w' γ β (Q'.map (·.1)) ∧ RowsAt w' (fun b => X b ∨ w.heap.size ≤ b) Q' L' W ∧ Turn (fun b => b = β ∨ X b) w w'

/-- 'lay' at pairs: the stretch's rows are R now -/
theorem lay_rows (γ β W B f : Nat) (to_ n_ : Int) (X : Nat → Prop) (Q R : List (Nat × Nat)) (L M : List LineC) (v : Value) (w : World) (h : GridAt w γ β (Q.map (·.1))) (hr : RowsAt w X Q L W) (hR : RowsAt w X R M W) (hf : f + R.length = Q.length) (ho : OwnPtrs B w v (R.map (·.1))) (hB : β < B)
    (hd : ∀ p ∈ Q.take f, ∀ q ∈ R, p.1 ≠ q.1 ∧ p.2 ≠ q.2) :
    Calls Tryz.prog 186 #[.agg (strA f to_ n_), ptr γ, v] w fun e w' => e = .returned (.tuple #[]) ∧ GridAt w' γ β ((Q.take f ++ R).map (·.1)) ∧ RowsAt w' X (Q.take f ++ R) (cutAt f (L.take f ++ M)) W ∧ Turn (fun b => b = β ∨ X b) w w' := by
  have hmap : (Q.map (·.1)).take f ++ R.map (·.1) = (Q.take f ++ R).map (·.1) := by rw [List.map_append, List.map_take]
  have hall := (hr.take f).app hR hd
  have hβ := h.typ2
  have hfr : Free (fun b => b = β) w 21 := fun b e _ => by subst e; exact hβ.not (by decide)
  by_cases hf0 : f = 0
  · refine (lay_any γ β W B f to_ n_ _ _ v w h hr.all hR.all (by simpa using hf) ho hB none hf0).mono ?_
    rintro e w' ⟨h1, h2, h3⟩
    rw [hmap] at h2
    have h3 : Turn (fun b => b = β) w w' := h3
    refine ⟨h1, h2, ?_, h3.mono (fun _ _ e => .inl e)⟩
    have : cutAt f (L.take f ++ M) = L.take f ++ M := if_pos hf0
    rw [this]
    refine hall.turn h3 hfr (fun p hp => ?_)
    obtain ⟨i, hi⟩ := List.getElem?_of_mem hp
    obtain ⟨l, _, g1, _⟩ := hall.line hi
    exact ⟨g1.typ.ne hβ (by decide), g1.cells.typ.ne hβ (by decide)⟩
  · have hfl : f - 1 < Q.length := by omega
    obtain ⟨p, hp⟩ : ∃ p, Q[f - 1]? = some p := ⟨_, List.getElem?_eq_getElem hfl⟩
    obtain ⟨l, hl, g1, g2, g3, g4⟩ := hr.line hp
    refine (lay_any γ β W B f to_ n_ _ _ v w h hr.all hR.all (by simpa using hf) ho hB (some (p.1, p.2, l)) ⟨by omega, by rw [List.getElem?_map, hp]; rfl, g1⟩).mono ?_
    rintro e w' ⟨h1, h2, h3, h4⟩
    rw [hmap] at h2
    refine ⟨h1, h2, ?_, h4.mono (fun b _ e => e.elim .inl (fun e => .inr (by rw [e]; exact g3)))⟩
    have hcl : (L.take f ++ M)[f - 1]? = some l := by
      have : f ≤ L.length := by rw [← hr.len]; omega
      rw [List.getElem?_append_left (by rw [List.length_take]; omega), List.getElem?_take, if_pos (by omega)]
      exact hl
    have hpl : (Q.take f ++ R)[f - 1]? = some p := by
      rw [List.getElem?_append_left (by rw [List.length_take]; omega), List.getElem?_take, if_pos (by omega)]
      exact hp
    have : cutAt f (L.take f ++ M) = (L.take f ++ M).set (f - 1) (l.1, false) := by
      unfold cutAt
      rw [if_neg hf0, List.getD_eq_getElem?_getD, hcl]
      rfl
    rw [this]
    -- the rows behind the list's stores, then the mark
    refine ⟨by rw [List.length_set]; exact hall.len, fun j q x hq hx => ?_, hall.dis⟩
    by_cases hj : f - 1 = j
    · subst hj
      rw [hpl] at hq
      injection hq with hq
      subst hq
      rw [List.getElem?_set_self (List.getElem?_eq_some_iff.1 hcl).1] at hx
      injection hx with hx
      subst hx
      exact ⟨h3, g2, g3, g4⟩
    · rw [List.getElem?_set_ne hj] at hx
      obtain ⟨k1, k2, k3, k4⟩ := hall.row j q x hq hx
      obtain ⟨d1, d2⟩ := hall.dis (f - 1) j p q hpl hq hj
      refine ⟨k1.turn h4 (fun b e _ => ?_) ?_ ?_, k2, k3, k4⟩
      · rcases e with e | e
        · subst e; exact hβ.not (by decide)
        · subst e; exact g1.typ.not (by decide)
      · rintro (e | e)
        · exact k1.typ.ne hβ (by decide) e
        · exact d1 e.symm
      · rintro (e | e)
        · exact k1.cells.typ.ne hβ (by decide) e
        · exact k1.cells.typ.ne g1.typ (by decide) e
end Go.Proofs.YtjicdcmdgbcdcaaGreatDoor.Scr
end

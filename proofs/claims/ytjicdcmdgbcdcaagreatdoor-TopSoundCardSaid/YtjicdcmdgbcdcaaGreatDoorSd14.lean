/-
  Package cluster: a block of seventeen cells.
  row.put, Wide, kind, Wrap, GoOn.
-/
import Derived.Test.YtjicdcmdgbcdcaaGreatDoorSd3
import Derived.Test.YtjicdcmdgbcdcaaGreatDoorSd4
import Derived.Test.YtjicdcmdgbcdcaaGreatDoorSd13
import Derived.Laws.CopyOwn
import Derived.RegionTactic
import Derived.IntWalk
import Derived.Deep.MidRow
section
namespace Go.Proofs.YtjicdcmdgbcdcaaGreatDoor.Clu
set_option linter.unusedSimpArgs false
set_option linter.unusedVariables false
open Go Go.RowKit Mem Seg Turn Gra

/-- the cells of the cluster of these numbers (sixteen at most) -/
def cv (l : List Int) : List Value := l.map (Value.int .i32) ++ (List.replicate (16 - l.length) (.int .i32 0) ++ [.int .i64 l.length])
theorem cv_len {l : List Int} (h : l.length ≤ 16) : (cv l).length = 17 := by simp [cv]; omega
theorem cv_num {l : List Int} (h : l.length ≤ 16) : (cv l)[16]? = some (.int .i64 l.length) := by
  unfold cv
  rw [List.getElem?_append_right (by simpa using h), List.getElem?_append_right (by simp)]
  simp
theorem cv_text {l : List Int} {i : Nat} {x : Int} (h : l[i]? = some x) : (cv l)[i]? = some (.int .i32 x) := by
  unfold cv
  rw [List.getElem?_append_left (by simpa using (List.getElem?_eq_some_iff.1 h).1)]
  simp [h]
theorem cv_add {l : List Int} (h : l.length < 16) (r : Int) : ((cv l).set l.length (.int .i32 r)).set 16 (.int .i64 (l.length + 1)) = cv (l ++ [r]) := by
  obtain ⟨m, hm⟩ : ∃ m, 16 - l.length = m + 1 := ⟨15 - l.length, by omega⟩
  have hm' : 16 - (l.length + 1) = m := by omega
  unfold cv
  rw [hm, List.replicate_succ, List.set_append_right _ _ (by simp), List.length_map, Nat.sub_self]
  simp only [List.cons_append, List.set_cons_zero]
  rw [List.set_append_right _ _ (by simp; omega), List.length_map, hm]
  simp only [List.set_cons_succ]
  rw [List.set_append_right _ _ (by simp)]
  simp [hm']

def addL (l : List Int) (r : Int) : List Int := if l.length < 16 then l ++ [r] else l
theorem addL_take (l : List Int) (k : Nat) {x : Int} (h : l[k]? = some x) : addL ((l.take k).take 16) x = (l.take (k + 1)).take 16 := by
  have hk := (List.getElem?_eq_some_iff.1 h).1
  unfold addL
  rw [List.take_take, List.take_take]
  split
  · rename_i h1
    rw [List.length_take] at h1
    have e1 : min 16 k = k := by omega
    have e2 : min 16 (k + 1) = k + 1 := by omega
    rw [e1, e2, List.take_add_one, h]
    rfl
  · rename_i h1
    rw [List.length_take] at h1
    have e1 : min 16 k = 16 := by omega
    have e2 : min 16 (k + 1) = 16 := by omega
    rw [e1, e2]

/-- block q holds the cluster of these numbers -/
def CAt (w : World) (q : Nat) (l : List Int) : Prop := l.length ≤ 16 ∧ ∃ T, w.heap[q]? = some (.cells (cv l).toArray T (0, 0))
theorem CAt.lt {w : World} {q : Nat} {l : List Int} (h : CAt w q l) : q < w.heap.size := by
  obtain ⟨_, T, h⟩ := h
  exact Blk.lt (xs := _) ⟨T, (0, 0), h⟩
theorem CAt.below {w w' : World} {q B : Nat} {l : List Int} (h : CAt w q l) (hb : Below B w w') (hq : q < B) : CAt w' q l := by
  obtain ⟨h1, T, h⟩ := h
  exact ⟨h1, T, by rw [hb.block q hq, h]⟩
theorem CAt.num {w : World} {q : Nat} {l : List Int} (h : CAt w q l) : w.cell? ⟨q, 16, none⟩ = some (.int .i64 l.length) := by
  obtain ⟨h1, T, h⟩ := h
  simp [World.cell?, h, cv_num h1]
theorem CAt.text {w : World} {q : Nat} {l : List Int} (h : CAt w q l) {i : Nat} {x : Int} (hx : l[i]? = some x) : w.cell? ⟨q, i, none⟩ = some (.int .i32 x) := by
  obtain ⟨h1, T, h⟩ := h
  simp [World.cell?, h, cv_text hx]
theorem CAt.some {w : World} {q : Nat} {l : List Int} (h : CAt w q l) {i : Nat} (hi : i < 17) : ∃ v, w.cell? ⟨q, i, none⟩ = some v := by
  obtain ⟨h1, T, h⟩ := h
  exact ⟨_, by simp only [World.cell?, h]; simpa using List.getElem?_eq_getElem (by rw [cv_len h1]; exact hi)⟩
theorem CAt.frozen {w : World} {q : Nat} {l : List Int} (h : CAt w q l) (i : Nat) : w.frozen? ⟨q, i, none⟩ = false := by
  obtain ⟨h1, T, h⟩ := h
  simp [World.frozen?, h]
theorem CAt.add {w : World} {q : Nat} {l : List Int} (h : CAt w q l) (hl : l.length < 16) (r : Int) : CAt ((w.setCell ⟨q, l.length, none⟩ (.int .i32 r)).setCell ⟨q, 16, none⟩ (.int .i64 (l.length + 1))) q (l ++ [r]) := by
  obtain ⟨h1, T, h⟩ := h
  refine ⟨by simp; omega, T, ?_⟩
  rw [heap_setCell (heap_setCell h)]
  rw [← cv_add hl r]
  simp
theorem cat_new (w : World) (T : TypeId) (cs : Array Value) (h : cs = (cv []).toArray) : CAt (w.alloc (.cells cs T)) w.heap.size [] := ⟨by simp, T, by subst h; show (w.heap.push _)[w.heap.size]? = _; simp⟩

set_option maxHeartbeats 1000000 in
theorem len_any (q : Nat) (l : List Int) (w : World) (h : CAt w q l) :
    Calls Tryz.prog 292 #[.pointer (some ⟨q, 0, none⟩)] w fun e w' => e = .returned (.int .i64 l.length) ∧ w = w' := by
  have c16 := h.num
  clear h
  go_enter Tryz.func292, Tryz.ntmps292
  go_wp2
  go_ret
  exact ⟨rfl, rfl⟩

set_option maxHeartbeats 1000000 in
theorem full_any (q : Nat) (l : List Int) (w : World) (h : CAt w q l) :
    Calls Tryz.prog 243 #[.pointer (some ⟨q, 0, none⟩)] w fun e w' => e = .returned (.bool ((l.length : Int) == 16)) ∧ w = w' := by
  have H := Lib.hid h
  clear h
  go_enter Tryz.func243, Tryz.ntmps243
  go_wp2_with fail
  refine (len_any q l w H.out).mono ?_
  rintro e w1 ⟨rfl, rfl⟩
  go_wp2
  go_ret
  exact ⟨rfl, rfl⟩

set_option maxRecDepth 100000 in
set_option maxHeartbeats 4000000 in
theorem add_any (q : Nat) (l : List Int) (r : Int) (w : World) (h : CAt w q l) :
    Calls Tryz.prog 286 #[.pointer (some ⟨q, 0, none⟩), .int .i32 r] w fun e w' => e = .returned (.bool (decide (l.length < 16))) ∧ CAt w' q (addL l r) ∧ But q w w' := by
  have hl := h.1
  have H := Lib.hid h
  have HF := Lib.hid (full_any q l w h)
  by_cases h16 : l.length < 16
  · have d0 : ((l.length : Int) == 16) = false := by simp; omega
    have d1 : Hid (decide (l.length < 16) = true) := Lib.hid (by simpa using h16)
    have c16 := h.num
    have f16 := h.frozen 16
    have fl := h.frozen l.length
    obtain ⟨v, cl⟩ := h.some (i := l.length) (by omega)
    have x1 : (l.length : Int) < 16 := by omega
    have HA : Hid (CAt ((w.setCell ⟨q, l.length, none⟩ (.int .i32 r)).drew.setCell ⟨q, 16, none⟩ (.int .i64 (l.length + 1))) q (addL l r)) := by
      unfold addL; rw [if_pos h16]; exact Lib.hid (h.add h16 r)
    have HB : Hid (But q w ((w.setCell ⟨q, l.length, none⟩ (.int .i32 r)).drew.setCell ⟨q, 16, none⟩ (.int .i64 (l.length + 1)))) := (((But.refl q w).setCell _ _).trans (But.of_below ((Below.refl _ _).drew))).setCell _ _
    have c16' : (w.setCell ⟨q, l.length, none⟩ (.int .i32 r)).drew.cell? ⟨q, 16, none⟩ = Option.some (.int .i64 l.length) := by
      obtain ⟨_, T, h⟩ := h
      show (w.setCell ⟨q, l.length, none⟩ (.int .i32 r)).cell? ⟨q, 16, none⟩ = _
      have := heap_setCell (i := l.length) (v := .int .i32 r) h
      simp only [World.cell?, this]
      have h9 := cv_num hl
      simp only [List.setIfInBounds_toArray, List.getElem?_toArray]
      rw [List.getElem?_set_ne (by omega)]
      exact h9
    have f16' : (w.setCell ⟨q, l.length, none⟩ (.int .i32 r)).drew.frozen? ⟨q, 16, none⟩ = false := by
      obtain ⟨_, T, h⟩ := h
      show (w.setCell ⟨q, l.length, none⟩ (.int .i32 r)).frozen? ⟨q, 16, none⟩ = _
      have := heap_setCell (i := l.length) (v := .int .i32 r) h
      simp [World.frozen?, this]
    have x2 : IntKind.i64.wrap ((l.length : Int) + 1) = (l.length : Int) + 1 := IntWalk.i64_in _ (by omega)
    clear h
    generalize l.length = n at *
    go_enter Tryz.func286, Tryz.ntmps286
    go_wp2_with fail
    refine HF.out.mono ?_
    rintro e w1 ⟨rfl, rfl⟩
    go_wp2_with fail
    go_region
    clear c16 f16 fl cl H HF
    generalize (w.setCell ⟨q, n, none⟩ (.int .i32 r)).drew = w1 at *
    go_wp2
    go_ret
    exact ⟨by rw [d1.out]; rfl, HA.out, HB.out⟩
  · have e16 : l.length = 16 := by omega
    have HA : Hid (CAt w q (addL l r)) := by unfold addL; rw [if_neg h16]; exact Lib.hid h
    have d1 : Hid (decide (l.length < 16) = false) := Lib.hid (by simpa using h16)
    have d0 : ((l.length : Int) == 16) = true := by simp; omega
    clear h h16 e16
    go_enter Tryz.func286, Tryz.ntmps286
    go_wp2_with fail
    refine HF.out.mono ?_
    rintro e w1 ⟨rfl, rfl⟩
    go_wp2
    go_ret
    exact ⟨by rw [d1.out]; rfl, HA.out, But.refl _ _⟩

set_option maxRecDepth 100000 in
set_option maxHeartbeats 4000000 in
theorem text_any (q : Nat) (l : List Int) (w : World) (h : CAt w q l) :
    Calls Tryz.prog 178 #[.pointer (some ⟨q, 0, none⟩)] w fun e w' => Fresh w w' 21 1 l.length (l.map (Value.int .i32)) e := by
  have c16 := h.num
  have H := Lib.hid h
  have hl := h.1
  have hlt := h.lt
  have hmx : Tryz.prog.follows .mixedOrders = true := by kernel_rfl
  have hl' : (l.length : Int) ≤ 16 := by omega
  clear h
  go_enter Tryz.func178, Tryz.ntmps178
  go_wp2_with fail
  refine region_begin (fun w' => w'.cell? ⟨q, 16, none⟩ = Option.some (.int .i64 l.length)) (fun j => j == 9) hmx ?_
  refine take_first (i := 0) rfl (by kernel_rfl) (by kernel_rfl) (by kernel_rfl) (by kernel_rfl) (fun _ _ _ h => h) c16 (.inl ⟨by rfl, fun w' hw' => by have hw2 : w'.cell? ⟨q, 16, none⟩ = Option.some (.int .i64 l.length) := hw'; go_simp; try with_reducible rfl⟩) ?_
  refine take_first (i := 3) rfl (by kernel_rfl) (by kernel_rfl) (by kernel_rfl) (by kernel_rfl) (fun _ _ _ h => h) c16 (.inl ⟨by rfl, fun w' hw' => by have hw2 : w'.cell? ⟨q, 16, none⟩ = Option.some (.int .i64 l.length) := hw'; go_simp; try with_reducible rfl⟩) ?_
  refine take_first (i := 1) rfl (by kernel_rfl) (by kernel_rfl) (by kernel_rfl) (by kernel_rfl) (fun _ _ _ h => h) c16 (.inl ⟨by rfl, fun w' hw' => by have hw2 : w'.cell? ⟨q, 16, none⟩ = Option.some (.int .i64 l.length) := hw'; go_simp; try with_reducible rfl⟩) ?_
  refine take_first (i := 4) rfl (by kernel_rfl) (by kernel_rfl) (by kernel_rfl) (by kernel_rfl) (fun _ _ _ h => h) c16 (.inl ⟨by rfl, fun w' hw' => by have hw2 : w'.cell? ⟨q, 16, none⟩ = Option.some (.int .i64 l.length) := hw'; go_simp; try with_reducible rfl⟩) ?_
  refine take_first (i := 2) rfl (by kernel_rfl) (by kernel_rfl) (by kernel_rfl) (by kernel_rfl) (fun _ _ _ h => h) c16 (.inl ⟨by rfl, fun w' hw' => by have hw2 : w'.cell? ⟨q, 16, none⟩ = Option.some (.int .i64 l.length) := hw'; go_simp; try with_reducible rfl⟩) ?_
  refine take_first (i := 5) rfl (by kernel_rfl) (by kernel_rfl) (by kernel_rfl) (by kernel_rfl) (fun _ _ _ h => h) c16 (.inl ⟨by rfl, fun w' hw' => by have hw2 : w'.cell? ⟨q, 16, none⟩ = Option.some (.int .i64 l.length) := hw'; go_simp; try with_reducible rfl⟩) ?_
  refine take_first (i := 6) rfl (by kernel_rfl) (by kernel_rfl) (by kernel_rfl) (by kernel_rfl) (fun _ _ _ h => h) c16 (.inl ⟨by rfl, fun w' hw' => by have hw2 : w'.cell? ⟨q, 16, none⟩ = Option.some (.int .i64 l.length) := hw'; go_simp; try with_reducible rfl⟩) ?_
  refine take_first (i := 7) rfl (by kernel_rfl) (by kernel_rfl) (by kernel_rfl) (by kernel_rfl) (fun _ _ _ h => h) c16 (.inl ⟨by rfl, fun w' hw' => by have hw2 : w'.cell? ⟨q, 16, none⟩ = Option.some (.int .i64 l.length) := hw'; go_simp; try with_reducible rfl⟩) ?_
  refine take_one (i := 8) (by kernel_rfl) rfl rfl fun K hK => ?_
  go_wp2_with fail
  refine (clone_any q 0 l.length 16 l _ rfl ?_ ?_ (by omega)).mono ?_
  · exact hlt
  · intro i x hx
    have := H.out.text hx
    rw [Nat.zero_add]
    exact this
  rintro e w1 ⟨v, rfl, ho, hb⟩
  have hb : Below w.heap.size w w1 := ((Below.refl w.heap.size w).drew).trans hb
  have HO := Lib.hid ho
  have HB := Lib.hid hb
  clear ho hb
  refine hK _ _ (.inr ((HB.out.cell (p := ⟨q, 16, none⟩) hlt).trans c16)) ?_
  clear hK
  refine take_one (i := 9) (by kernel_rfl) rfl rfl fun K hK => ?_
  go_wp2
  refine hK _ _ (.inl rfl) ?_
  clear hK
  refine take_done (by kernel_rfl) ?_ _
  go_wp2
  go_ret
  exact ⟨v, rfl, HO.out, HB.out⟩

theorem size_clu {l : List Int} (h : l.length ≤ 16) : (Tryz.prog.info? 243).map (·.size) = Option.some (cv l).toArray.size := by
  rw [List.size_toArray, cv_len h]; kernel_rfl
theorem cv_one (l : List Int) : (cv l).toArray.all (·.oneCell') = true := by
  simp only [List.all_toArray, List.all_eq_true]
  intro u hu
  unfold cv at hu
  rcases List.mem_append.1 hu with hu | hu
  · obtain ⟨x, _, rfl⟩ := List.mem_map.1 hu; rfl
  · rcases List.mem_append.1 hu with hu | hu
    · rw [List.eq_of_mem_replicate hu]; rfl
    · simp at hu; subst hu; rfl
theorem take_full (xs : List Int) {k : Nat} (h : ¬ ((xs.take k).take 16).length < 16) : (xs.take k).take 16 = xs.take 16 := by
  rw [List.length_take, List.length_take] at h
  rw [List.take_take]
  congr 1; omega

theorem CAt.but {w w' : World} {q g : Nat} {l : List Int} (h : CAt w g l) (hb : But q w w') (hn : g ≠ q) : CAt w' g l := by
  have hlt := h.lt
  obtain ⟨h1, T, h⟩ := h
  exact ⟨h1, T, by rw [hb.block g hlt hn, h]⟩

set_option maxRecDepth 100000 in
set_option maxHeartbeats 4000000 in
theorem of_any (a : Option Addr) (n c : Nat) (xs : List Int) (w : World) (h : Same.Ints .i32 w a n xs) (hn : n ≤ 9223372036854775807) :
    Calls Tryz.prog 231 #[.slice a n c] w fun e w' => e = .returned (.agg (cv (xs.take 16)).toArray) ∧ Below w.heap.size w w' := by
  have HI := Lib.hid h
  have HL := Lib.hid h.1
  clear h
  go_enter Tryz.func231, Tryz.ntmps231
  go_wp2
  have R0 := cat_new w 243 #[.int .i32 0, .int .i32 0, .int .i32 0, .int .i32 0, .int .i32 0, .int .i32 0, .int .i32 0, .int .i32 0, .int .i32 0, .int .i32 0, .int .i32 0, .int .i32 0, .int .i32 0, .int .i32 0, .int .i32 0, .int .i32 0, .int .i64 0] (by rfl)
  have B0 : Below w.heap.size w (w.alloc (.cells #[.int .i32 0, .int .i32 0, .int .i32 0, .int .i32 0, .int .i32 0, .int .i32 0, .int .i32 0, .int .i32 0, .int .i32 0, .int .i32 0, .int .i32 0, .int .i32 0, .int .i32 0, .int .i32 0, .int .i32 0, .int .i32 0, .int .i64 0] 243)) := (Below.refl _ _).alloc (Nat.le_refl _) _
  have z0 : (w.alloc (.cells #[.int .i32 0, .int .i32 0, .int .i32 0, .int .i32 0, .int .i32 0, .int .i32 0, .int .i32 0, .int .i32 0, .int .i32 0, .int .i32 0, .int .i32 0, .int .i32 0, .int .i32 0, .int .i32 0, .int .i32 0, .int .i32 0, .int .i64 0] 243)).heap.size = w.heap.size + 1 := by simp
  generalize (w.alloc (.cells #[.int .i32 0, .int .i32 0, .int .i32 0, .int .i32 0, .int .i32 0, .int .i32 0, .int .i32 0, .int .i32 0, .int .i32 0, .int .i32 0, .int .i32 0, .int .i32 0, .int .i32 0, .int .i32 0, .int .i32 0, .int .i32 0, .int .i64 0] 243)) = w1 at *
  have C0 := cat_new w1 243 #[.int .i32 0, .int .i32 0, .int .i32 0, .int .i32 0, .int .i32 0, .int .i32 0, .int .i32 0, .int .i32 0, .int .i32 0, .int .i32 0, .int .i32 0, .int .i32 0, .int .i32 0, .int .i32 0, .int .i32 0, .int .i32 0, .int .i64 0] (by rfl)
  rw [z0] at C0
  have R0 := R0.below (B := w1.heap.size) ((Below.refl _ _).alloc (Nat.le_refl _) (.cells #[.int .i32 0, .int .i32 0, .int .i32 0, .int .i32 0, .int .i32 0, .int .i32 0, .int .i32 0, .int .i32 0, .int .i32 0, .int .i32 0, .int .i32 0, .int .i32 0, .int .i32 0, .int .i32 0, .int .i32 0, .int .i32 0, .int .i64 0] 243)) (by omega)
  have B0 := B0.alloc B0.size (.cells #[.int .i32 0, .int .i32 0, .int .i32 0, .int .i32 0, .int .i32 0, .int .i32 0, .int .i32 0, .int .i32 0, .int .i32 0, .int .i32 0, .int .i32 0, .int .i32 0, .int .i32 0, .int .i32 0, .int .i32 0, .int .i32 0, .int .i64 0] 243)
  generalize (w1.alloc (.cells #[.int .i32 0, .int .i32 0, .int .i32 0, .int .i32 0, .int .i32 0, .int .i32 0, .int .i32 0, .int .i32 0, .int .i32 0, .int .i32 0, .int .i32 0, .int .i32 0, .int .i32 0, .int .i32 0, .int .i32 0, .int .i32 0, .int .i64 0] 243)) = w0 at *
  have R0 := Lib.hid R0
  have C0 := Lib.hid C0
  have B0 := Lib.hid B0
  clear z0
  go_loopw [8] (fun i wr => ∃ k : Nat, k ≤ n ∧ i = .int .i64 k ∧ Hid (CAt wr (w.heap.size + 1) ((xs.take k).take 16) ∧ CAt wr w.heap.size [] ∧ Below w.heap.size w wr)) (fun i _ => n - (intOf i).toNat)
  case atStart => exact ⟨0, Nat.zero_le _, rfl, C0.out, R0.out, B0.out⟩
  case round =>
    obtain ⟨k, hk, rfl, H⟩ := hrel
    by_cases hlt : k < n
    · obtain ⟨x, hx⟩ : ∃ x, xs[k]? = Option.some x := ⟨_, List.getElem?_eq_getElem (by rw [HL.out]; exact hlt)⟩
      obtain ⟨hl, h0 | ⟨b, off, rfl, hb, hc⟩⟩ := HI.out
      · omega
      have hcx := (H.out.2.2.cell (p := ⟨b, off + k, none⟩) hb).trans (hc k x hx)
      have hlt' : (k : Int) < n := by omega
      have hne : (k : Int) + 1 < 9223372036854775808 := by omega
      have HAX := Lib.hid (addL_take xs k hx)
      clear hc hl hx
      go_wp2_with fail
      refine (add_any (w.heap.size + 1) ((xs.take k).take 16) x wr H.out.1).mono ?_
      rintro e w3 ⟨rfl, hA, hB⟩
      rw [HAX.out] at hA
      have HC := Lib.hid hA
      have HR := Lib.hid (H.out.2.1.but hB (by omega))
      have HB := Lib.hid (H.out.2.2.trans (hB.below (by omega) H.out.2.2.size))
      clear hA hB hcx HAX
      by_cases h16 : ((xs.take k).take 16).length < 16
      · have d1 : decide (((xs.take k).take 16).length < 16) = true := by simpa using h16
        rw [d1]
        clear d1 h16
        go_wp2
        go_roundw
        case rel => exact ⟨k + 1, by omega, by go_num, HC.out, HR.out, HB.out⟩
        case measure => simp [intOf]; omega
      · have d1 : decide (((xs.take k).take 16).length < 16) = false := by simpa using h16
        have e16 : (xs.take (k + 1)).take 16 = xs.take 16 := by
          rw [List.length_take, List.length_take] at h16
          rw [List.take_take]; congr 1; omega
        rw [e16] at HC
        rw [d1]
        clear d1 h16 e16 H
        obtain ⟨hz1, T1, hT1⟩ := HC.out
        obtain ⟨hz2, T2, hT2⟩ := HR.out
        have hsz := size_clu hz1
        have hold : (cv []).toArray.size = (cv (xs.take 16)).toArray.size := by rw [List.size_toArray, List.size_toArray, cv_len hz1, cv_len (by simp)]
        have hone := cv_one (xs.take 16)
        generalize hcs : (cv (xs.take 16)).toArray = cs at *
        generalize hco : (cv []).toArray = co at *
        go_wp2_with (first | (refine wpList_load_row rfl 243 _ rfl (w.heap.size + 1) rfl T1 cs (0, 0) _ hT1 Tryz.underlying243 rfl hsz ?_) | (refine wpList_store_row rfl 243 _ _ rfl w.heap.size cs rfl rfl T2 co hT2 hsz hold hone ?_))
        have HF := setRow_heap _ w.heap.size co cs T2 (0, 0) hT2
        refine bodyPost_ret (results_cell_row rfl _ _ w.heap.size T2 cs (0, 0) _ rfl HF Tryz.underlying243 rfl hsz) rfl ?_
        exact ⟨by rw [hcs], below_setRow HB.out (Nat.le_refl _) cs⟩
    · obtain rfl : k = n := by omega
      have HC := Lib.hid H.out.1
      have HR := Lib.hid H.out.2.1
      have HB := Lib.hid H.out.2.2
      have e16 : (xs.take k).take 16 = xs.take 16 := by rw [← HL.out, List.take_length]
      rw [e16] at HC
      clear H e16 hlt
      obtain ⟨hz1, T1, hT1⟩ := HC.out
      obtain ⟨hz2, T2, hT2⟩ := HR.out
      have hsz := size_clu hz1
      have hold : (cv []).toArray.size = (cv (xs.take 16)).toArray.size := by rw [List.size_toArray, List.size_toArray, cv_len hz1, cv_len (by simp)]
      have hone := cv_one (xs.take 16)
      generalize hcs : (cv (xs.take 16)).toArray = cs at *
      generalize hco : (cv []).toArray = co at *
      go_wp2_with (first | (refine wpList_load_row rfl 243 _ rfl (w.heap.size + 1) rfl T1 cs (0, 0) _ hT1 Tryz.underlying243 rfl hsz ?_) | (refine wpList_store_row rfl 243 _ _ rfl w.heap.size cs rfl rfl T2 co hT2 hsz hold hone ?_))
      have HF := setRow_heap _ w.heap.size co cs T2 (0, 0) hT2
      refine bodyPost_ret (results_cell_row rfl _ _ w.heap.size T2 cs (0, 0) _ rfl HF Tryz.underlying243 rfl hsz) rfl ?_
      exact ⟨by rw [hcs], below_setRow HB.out (Nat.le_refl _) cs⟩

end Go.Proofs.YtjicdcmdgbcdcaaGreatDoor.Clu
end
section
namespace Go.Proofs.YtjicdcmdgbcdcaaGreatDoor.Scr
set_option linter.unusedSimpArgs false
set_option linter.unusedVariables false
open Go Go.RowKit Mem Turn Ring

theorem flatC_set {l : List (Int × Value)} {k : Nat} (r : Int × Value) (h : k < l.length) : ((flatC l).set (k * 2) (.int .i64 r.1)).set (k * 2 + 1) r.2 = flatC (l.set k r) := by
  induction l generalizing k with
  | nil => cases h
  | cons x l ih =>
    cases k with
    | zero => simp [flatC]
    | succ k =>
      have := ih (k := k) (by simpa using h)
      rw [show (k + 1) * 2 = k * 2 + 1 + 1 from by omega, show k * 2 + 1 + 1 + 1 = (k * 2 + 1) + 1 + 1 from by omega]
      simp [flatC, this]
theorem flatC_getD {l : List (Int × Value)} {k : Nat} (h : k < l.length) : ∃ r, l[k]? = some r := ⟨_, List.getElem?_eq_getElem h⟩

theorem heap_set1 {w : World} {q : Nat} {cs : List Value} {t : TypeId} {fr : Nat × Nat} (h : w.heap[q]? = some (.cells cs.toArray t fr)) (i : Nat) (v : Value) : (w.setCell ⟨q, i, none⟩ v).heap[q]? = some (.cells (cs.set i v).toArray t fr) := by
  simp only [World.setCell, Array.getElem?_modify]
  rw [if_pos trivial, h]
  simp

/-- the two stores of a cell -/
def putW (w : World) (κ i : Nat) (k : Int) (v : Value) : World := (w.setCell ⟨κ, i * 2, none⟩ (.int .i64 k)).setCell ⟨κ, i * 2 + 1, none⟩ v
theorem putW_turn (w : World) (κ i : Nat) (k : Int) (v : Value) : Turn (fun b => b = κ) w (putW w κ i k v) :=
  (Turn.setCell (T := fun b => b = κ) (p := ⟨κ, i * 2, none⟩) w _ rfl).trans (Turn.setCell (T := fun b => b = κ) (p := ⟨κ, i * 2 + 1, none⟩) _ v rfl)
theorem CellsIn.put {w : World} {κ i : Nat} {cs : List CellC} {k : Int} {v : Value} {t : List Int} (h : CellsIn w κ cs) (hi : i < cs.length) (hv : TxtAt w v t) : CellsIn (putW w κ i k v) κ (cs.set i (k, t)) := by
  have hf : Free (fun b => b = κ) w 21 := fun b e _ => by subst e; exact h.typ.not (by decide)
  have hv' := hv.turn (putW_turn w κ i k v) hf
  obtain ⟨rs, h1, h2⟩ := h
  have h2' := h2.turn (putW_turn w κ i k v) hf
  refine ⟨rs.set i (k, v), ?_, by rw [List.length_set, List.length_set, h2.1], fun j r x hr hx => ?_⟩
  · unfold putW
    rw [heap_set1 (heap_set1 h1 _ _) _ _, flatC_set (k, v) (by rw [h2.1]; exact hi)]
  · by_cases hj : i = j
    · subst hj
      rw [List.getElem?_set_self (by rw [h2.1]; exact hi)] at hr
      rw [List.getElem?_set_self hi] at hx
      injection hr with hr
      injection hx with hx
      subst hr hx
      exact ⟨rfl, hv'⟩
    · rw [List.getElem?_set_ne hj] at hr hx
      exact h2'.2 j r x hr hx
theorem CellsIn.cell {w : World} {κ i : Nat} {cs : List CellC} (h : CellsIn w κ cs) (hi : i < cs.length) : ∃ v, w.cell? ⟨κ, i * 2, none⟩ = some (.int .i64 (cs.getD i blank).1) ∧ w.cell? ⟨κ, i * 2 + 1, none⟩ = some v ∧ TxtAt w v (cs.getD i blank).2 ∧ w.frozen? ⟨κ, i * 2, none⟩ = false ∧ w.frozen? ⟨κ, i * 2 + 1, none⟩ = false := by
  obtain ⟨rs, h1, h2⟩ := h
  obtain ⟨r, hr⟩ := flatC_getD (l := rs) (k := i) (by rw [h2.1]; exact hi)
  have hx : cs[i]? = some (cs.getD i blank) := by rw [List.getD_eq_getElem?_getD, List.getElem?_eq_getElem hi]; rfl
  obtain ⟨e1, e2⟩ := h2.2 i r _ hr hx
  obtain ⟨g1, g2⟩ := flatC_get hr
  refine ⟨r.2, ?_, ?_, e2, by simp [World.frozen?, h1], by simp [World.frozen?, h1]⟩
  · rw [← e1]; simp [World.cell?, h1, g1]
  · simp [World.cell?, h1, g2]
theorem RowAt.hdr0 {w : World} {ρ κ : Nat} {l : LineC} (h : RowAt w ρ κ l) : w.cell? ⟨ρ, 0, none⟩ = some (.slice (some ⟨κ, 0, none⟩) l.1.length l.1.length) ∧ w.cell? ⟨ρ, 1, none⟩ = some (.bool l.2) ∧ w.frozen? ⟨ρ, 1, none⟩ = false := by
  have := h.hdr
  exact ⟨by simp [World.cell?, this], by simp [World.cell?, this], by simp [World.frozen?, this]⟩

theorem wide_any (ρ κ : Nat) (l : LineC) (w : World) (h : RowAt w ρ κ l) : Calls Tryz.prog 77 #[.pointer (some ⟨ρ, 0, none⟩)] w fun e w' => e = .returned (.int .i64 (l.1.length : Int)) ∧ w = w' := by
  obtain ⟨c0, _, _⟩ := h.hdr0
  generalize l.1.length = n at *
  clear h
  go_enter Tryz.func77, Tryz.ntmps77
  go_wp2
  go_ret
  exact ⟨rfl, rfl⟩
theorem wide_nil (w : World) : Calls Tryz.prog 77 #[.pointer none] w fun e w' => e = .returned (.int .i64 0) ∧ w = w' := by
  go_enter Tryz.func77, Tryz.ntmps77
  go_wp2
  go_ret
  exact ⟨rfl, rfl⟩
theorem wrap_any (ρ κ : Nat) (l : LineC) (w : World) (h : RowAt w ρ κ l) : Calls Tryz.prog 79 #[.pointer (some ⟨ρ, 0, none⟩)] w fun e w' => e = .returned (.bool l.2) ∧ w = w' := by
  obtain ⟨_, c1, _⟩ := h.hdr0
  generalize l.2 = b at *
  clear h
  go_enter Tryz.func79, Tryz.ntmps79
  go_wp2
  go_ret
  exact ⟨rfl, rfl⟩
theorem RowAt.wrap {w : World} {ρ κ : Nat} {l : LineC} (h : RowAt w ρ κ l) (b : Bool) : RowAt (w.setCell ⟨ρ, 1, none⟩ (.bool b)) ρ κ (l.1, b) := by
  have T : Turn (fun j => j = ρ) w (w.setCell ⟨ρ, 1, none⟩ (.bool b)) := Turn.setCell _ _ rfl
  refine ⟨?_, h.cells.turn T (fun j e _ => by subst e; exact h.typ.not (by decide)) (fun e => h.ne e.symm), h.pos, h.le⟩
  have := heap_set1 (cs := [.slice (some ⟨κ, 0, none⟩) l.1.length l.1.length, .bool l.2]) (t := 198) (fr := (0, 0)) h.hdr 1 (.bool b)
  simpa using this
theorem goOn_any (ρ κ : Nat) (l : LineC) (b : Bool) (w : World) (h : RowAt w ρ κ l) : Calls Tryz.prog 189 #[.pointer (some ⟨ρ, 0, none⟩), .bool b] w fun e w' => e = .returned (.tuple #[]) ∧ RowAt w' ρ κ (l.1, b) ∧ Turn (fun j => j = ρ) w w' := by
  obtain ⟨_, c1, f1⟩ := h.hdr0
  have HX : Hid (RowAt (w.setCell ⟨ρ, 1, none⟩ (.bool b)) ρ κ (l.1, b) ∧ Turn (fun j => j = ρ) w (w.setCell ⟨ρ, 1, none⟩ (.bool b))) := Lib.hid ⟨h.wrap b, Turn.setCell _ _ rfl⟩
  clear h
  go_enter Tryz.func189, Tryz.ntmps189
  go_wp2
  go_end0
  exact ⟨rfl, HX.out.1, HX.out.2⟩
theorem goOn_nil (b : Bool) (w : World) : Calls Tryz.prog 189 #[.pointer none, .bool b] w fun e w' => e = .returned (.tuple #[]) ∧ w = w' := by
  go_enter Tryz.func189, Tryz.ntmps189
  go_wp2
  go_end0
  exact ⟨rfl, rfl⟩
theorem kind_in (ρ κ i : Nat) (l : LineC) (w : World) (h : RowAt w ρ κ l) (hi : i < l.1.length) : Calls Tryz.prog 288 #[.pointer (some ⟨ρ, 0, none⟩), .int .i64 (i : Int)] w fun e w' => e = .returned (.int .i64 (kindAt l.1 i)) ∧ w = w' := by
  obtain ⟨c0, _, _⟩ := h.hdr0
  obtain ⟨v, k0, _⟩ := h.cells.cell hi
  have HW := Lib.hid (wide_any ρ κ l w h)
  have hle := h.le
  unfold kindAt
  generalize (l.1.getD i blank).1 = k at *
  generalize l.1.length = n at *
  have d1 : decide ((n : Int) ≤ (i : Int)) = false := decide_eq_false (by omega)
  have d2 : decide (n ≤ i) = false := decide_eq_false (by omega)
  clear h
  go_enter Tryz.func288, Tryz.ntmps288
  go_wp2_with fail
  refine HW.out.mono ?_
  rintro e w1 ⟨rfl, rfl⟩
  go_wp2_with fail
  go_ret
  exact ⟨rfl, rfl⟩
theorem kind_out (ρ κ : Nat) (i : Int) (l : LineC) (w : World) (h : RowAt w ρ κ l) (hi : i < 0 ∨ (l.1.length : Int) ≤ i) : Calls Tryz.prog 288 #[.pointer (some ⟨ρ, 0, none⟩), .int .i64 i] w fun e w' => e = .returned (.int .i64 0) ∧ w = w' := by
  have HW := Lib.hid (wide_any ρ κ l w h)
  generalize l.1.length = n at *
  clear h
  by_cases h0 : i < 0
  · go_enter Tryz.func288, Tryz.ntmps288
    go_wp2_with fail
    go_ret
    exact ⟨rfl, rfl⟩
  · have d1 : decide ((n : Int) ≤ i) = true := decide_eq_true (by omega)
    have h1 : 0 ≤ i := by omega
    go_enter Tryz.func288, Tryz.ntmps288
    go_wp2_with fail
    refine HW.out.mono ?_
    rintro e w1 ⟨rfl, rfl⟩
    go_wp2_with fail
    go_ret
    exact ⟨rfl, rfl⟩
end Go.Proofs.YtjicdcmdgbcdcaaGreatDoor.Scr
end

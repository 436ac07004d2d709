/-
  Package cluster: a block of seventeen cells.
  measure.piece.
  measure.Items.
  measure.Columns; the reference's First, Wide.
  The plain law of measure.Head: pieces of a row cut at a border.
  measure.Head.
  The reference's Items, Columns.
  works of layer 21.
-/
import Derived.Test.YtcbfmokafmagpaaGreatClone
import Derived.Test.YtcbfmokafmagpaaGreatSegLaw
import Derived.Test.YtcbfmokafmagpaaGreatRound
import Derived.Test.YtcbfmokafmagpaaGreatCwAll
import Derived.Test.YtcbfmokafmagpaaGreatClus
import Derived.Test.YtcbfmokafmagpaaGreatGraCut
import Derived.Test.YtcbfmokafmagpaaGreatRef16
import Derived.Test.YtcbfmokafmagpaaGreatGraWorks
import Derived.Laws.CopyOwn
import Derived.RegionTactic
import Derived.IntWalk
import Derived.Deep.WholeRow
namespace Go.Proofs.YtcbfmokafmagpaaGreat.Clu
set_option linter.unusedSimpArgs false
set_option linter.unusedVariables false
open Go Go.RowKit Mem Seg Turn Gra

/-- the cells of the cluster of these numbers (sixteen at most) -/
def cv (l : List Int) : List Value := l.map (Value.int .i32) ++ (List.replicate (16 - l.length) (.int .i32 0) ++ [.int .i64 l.length])
theorem cv_len {l : List Int} (h : l.length ≤ 16) : (cv l).length = 17 := by simp [cv]; omega
theorem cv_num {l : List Int} (h : l.length ≤ 16) : (cv l)[16]? = some (.int .i64 l.length) := by
  unfold cv
  rw [List.getElem?_append_right (by simpa using h), List.getElem?_append_right (by simp)]
  simp
theorem cv_text {l : List Int} {i : Nat} {x : Int} (h : l[i]? = some x) : (cv l)[i]? = some (.int .i32 x) := by
  unfold cv
  rw [List.getElem?_append_left (by simpa using (List.getElem?_eq_some_iff.1 h).1)]
  simp [h]
theorem cv_add {l : List Int} (h : l.length < 16) (r : Int) : ((cv l).set l.length (.int .i32 r)).set 16 (.int .i64 (l.length + 1)) = cv (l ++ [r]) := by
  obtain ⟨m, hm⟩ : ∃ m, 16 - l.length = m + 1 := ⟨15 - l.length, by omega⟩
  have hm' : 16 - (l.length + 1) = m := by omega
  unfold cv
  rw [hm, List.replicate_succ, List.set_append_right _ _ (by simp), List.length_map, Nat.sub_self]
  simp only [List.cons_append, List.set_cons_zero]
  rw [List.set_append_right _ _ (by simp; omega), List.length_map, hm]
  simp only [List.set_cons_succ]
  rw [List.set_append_right _ _ (by simp)]
  simp [hm']

def addL (l : List Int) (r : Int) : List Int := if l.length < 16 then l ++ [r] else l
theorem addL_take (l : List Int) (k : Nat) {x : Int} (h : l[k]? = some x) : addL ((l.take k).take 16) x = (l.take (k + 1)).take 16 := by
  have hk := (List.getElem?_eq_some_iff.1 h).1
  unfold addL
  rw [List.take_take, List.take_take]
  split
  · rename_i h1
    rw [List.length_take] at h1
    have e1 : min 16 k = k := by omega
    have e2 : min 16 (k + 1) = k + 1 := by omega
    rw [e1, e2, List.take_add_one, h]
    rfl
  · rename_i h1
    rw [List.length_take] at h1
    have e1 : min 16 k = 16 := by omega
    have e2 : min 16 (k + 1) = 16 := by omega
    rw [e1, e2]

/-- block q holds the cluster of these numbers -/
def CAt (w : World) (q : Nat) (l : List Int) : Prop := l.length ≤ 16 ∧ ∃ T, w.heap[q]? = some (.cells (cv l).toArray T (0, 0))
theorem CAt.lt {w : World} {q : Nat} {l : List Int} (h : CAt w q l) : q < w.heap.size := by
  obtain ⟨_, T, h⟩ := h
  exact Blk.lt (xs := _) ⟨T, (0, 0), h⟩
theorem CAt.below {w w' : World} {q B : Nat} {l : List Int} (h : CAt w q l) (hb : Below B w w') (hq : q < B) : CAt w' q l := by
  obtain ⟨h1, T, h⟩ := h
  exact ⟨h1, T, by rw [hb.block q hq, h]⟩
theorem CAt.num {w : World} {q : Nat} {l : List Int} (h : CAt w q l) : w.cell? ⟨q, 16, none⟩ = some (.int .i64 l.length) := by
  obtain ⟨h1, T, h⟩ := h
  simp [World.cell?, h, cv_num h1]
theorem CAt.text {w : World} {q : Nat} {l : List Int} (h : CAt w q l) {i : Nat} {x : Int} (hx : l[i]? = some x) : w.cell? ⟨q, i, none⟩ = some (.int .i32 x) := by
  obtain ⟨h1, T, h⟩ := h
  simp [World.cell?, h, cv_text hx]
theorem CAt.some {w : World} {q : Nat} {l : List Int} (h : CAt w q l) {i : Nat} (hi : i < 17) : ∃ v, w.cell? ⟨q, i, none⟩ = some v := by
  obtain ⟨h1, T, h⟩ := h
  exact ⟨_, by simp only [World.cell?, h]; simpa using List.getElem?_eq_getElem (by rw [cv_len h1]; exact hi)⟩
theorem CAt.frozen {w : World} {q : Nat} {l : List Int} (h : CAt w q l) (i : Nat) : w.frozen? ⟨q, i, none⟩ = false := by
  obtain ⟨h1, T, h⟩ := h
  simp [World.frozen?, h]
theorem CAt.add {w : World} {q : Nat} {l : List Int} (h : CAt w q l) (hl : l.length < 16) (r : Int) : CAt ((w.setCell ⟨q, l.length, none⟩ (.int .i32 r)).setCell ⟨q, 16, none⟩ (.int .i64 (l.length + 1))) q (l ++ [r]) := by
  obtain ⟨h1, T, h⟩ := h
  refine ⟨by simp; omega, T, ?_⟩
  rw [heap_setCell (heap_setCell h)]
  rw [← cv_add hl r]
  simp
theorem cat_new (w : World) (T : TypeId) (cs : Array Value) (h : cs = (cv []).toArray) : CAt (w.alloc (.cells cs T)) w.heap.size [] := ⟨by simp, T, by subst h; show (w.heap.push _)[w.heap.size]? = _; simp⟩

set_option maxHeartbeats 1000000 in
theorem len_any (q : Nat) (l : List Int) (w : World) (h : CAt w q l) :
    Calls Tryz.prog 132 #[.pointer (some ⟨q, 0, none⟩)] w fun e w' => e = .returned (.int .i64 l.length) ∧ w = w' := by
  have c16 := h.num
  clear h
  go_enter Tryz.func132, Tryz.ntmps132
  go_wp2
  go_ret
  exact ⟨rfl, rfl⟩

set_option maxHeartbeats 1000000 in
theorem full_any (q : Nat) (l : List Int) (w : World) (h : CAt w q l) :
    Calls Tryz.prog 106 #[.pointer (some ⟨q, 0, none⟩)] w fun e w' => e = .returned (.bool ((l.length : Int) == 16)) ∧ w = w' := by
  have H := Lib.hid h
  clear h
  go_enter Tryz.func106, Tryz.ntmps106
  go_wp2_with fail
  refine (len_any q l w H.out).mono ?_
  rintro e w1 ⟨rfl, rfl⟩
  go_wp2
  go_ret
  exact ⟨rfl, rfl⟩

set_option maxRecDepth 100000 in
set_option maxHeartbeats 4000000 in
theorem add_any (q : Nat) (l : List Int) (r : Int) (w : World) (h : CAt w q l) :
    Calls Tryz.prog 83 #[.pointer (some ⟨q, 0, none⟩), .int .i32 r] w fun e w' => e = .returned (.bool (decide (l.length < 16))) ∧ CAt w' q (addL l r) ∧ But q w w' := by
  have hl := h.1
  have H := Lib.hid h
  have HF := Lib.hid (full_any q l w h)
  by_cases h16 : l.length < 16
  · have d0 : ((l.length : Int) == 16) = false := by simp; omega
    have d1 : Hid (decide (l.length < 16) = true) := Lib.hid (by simpa using h16)
    have c16 := h.num
    have f16 := h.frozen 16
    have fl := h.frozen l.length
    obtain ⟨v, cl⟩ := h.some (i := l.length) (by omega)
    have x1 : (l.length : Int) < 16 := by omega
    have HA : Hid (CAt ((w.setCell ⟨q, l.length, none⟩ (.int .i32 r)).drew.setCell ⟨q, 16, none⟩ (.int .i64 (l.length + 1))) q (addL l r)) := by
      unfold addL; rw [if_pos h16]; exact Lib.hid (h.add h16 r)
    have HB : Hid (But q w ((w.setCell ⟨q, l.length, none⟩ (.int .i32 r)).drew.setCell ⟨q, 16, none⟩ (.int .i64 (l.length + 1)))) := (((But.refl q w).setCell _ _).trans (But.of_below ((Below.refl _ _).drew))).setCell _ _
    have c16' : (w.setCell ⟨q, l.length, none⟩ (.int .i32 r)).drew.cell? ⟨q, 16, none⟩ = Option.some (.int .i64 l.length) := by
      obtain ⟨_, T, h⟩ := h
      show (w.setCell ⟨q, l.length, none⟩ (.int .i32 r)).cell? ⟨q, 16, none⟩ = _
      have := heap_setCell (i := l.length) (v := .int .i32 r) h
      simp only [World.cell?, this]
      have h9 := cv_num hl
      simp only [List.setIfInBounds_toArray, List.getElem?_toArray]
      rw [List.getElem?_set_ne (by omega)]
      exact h9
    have f16' : (w.setCell ⟨q, l.length, none⟩ (.int .i32 r)).drew.frozen? ⟨q, 16, none⟩ = false := by
      obtain ⟨_, T, h⟩ := h
      show (w.setCell ⟨q, l.length, none⟩ (.int .i32 r)).frozen? ⟨q, 16, none⟩ = _
      have := heap_setCell (i := l.length) (v := .int .i32 r) h
      simp [World.frozen?, this]
    have x2 : IntKind.i64.wrap ((l.length : Int) + 1) = (l.length : Int) + 1 := IntWalk.i64_in _ (by omega)
    clear h
    generalize l.length = n at *
    go_enter Tryz.func83, Tryz.ntmps83
    go_wp2_with fail
    refine HF.out.mono ?_
    rintro e w1 ⟨rfl, rfl⟩
    go_wp2_with fail
    go_region
    clear c16 f16 fl cl H HF
    generalize (w.setCell ⟨q, n, none⟩ (.int .i32 r)).drew = w1 at *
    go_wp2
    go_ret
    exact ⟨by rw [d1.out]; rfl, HA.out, HB.out⟩
  · have e16 : l.length = 16 := by omega
    have HA : Hid (CAt w q (addL l r)) := by unfold addL; rw [if_neg h16]; exact Lib.hid h
    have d1 : Hid (decide (l.length < 16) = false) := Lib.hid (by simpa using h16)
    have d0 : ((l.length : Int) == 16) = true := by simp; omega
    clear h h16 e16
    go_enter Tryz.func83, Tryz.ntmps83
    go_wp2_with fail
    refine HF.out.mono ?_
    rintro e w1 ⟨rfl, rfl⟩
    go_wp2
    go_ret
    exact ⟨by rw [d1.out]; rfl, HA.out, But.refl _ _⟩

set_option maxRecDepth 100000 in
set_option maxHeartbeats 4000000 in
theorem text_any (q : Nat) (l : List Int) (w : World) (h : CAt w q l) :
    Calls Tryz.prog 64 #[.pointer (some ⟨q, 0, none⟩)] w fun e w' => Fresh w w' 21 1 l.length (l.map (Value.int .i32)) e := by
  have c16 := h.num
  have H := Lib.hid h
  have hl := h.1
  have hlt := h.lt
  have hmx : Tryz.prog.follows .mixedOrders = true := by kernel_rfl
  have hl' : (l.length : Int) ≤ 16 := by omega
  clear h
  go_enter Tryz.func64, Tryz.ntmps64
  go_wp2_with fail
  refine region_begin (fun w' => w'.cell? ⟨q, 16, none⟩ = Option.some (.int .i64 l.length)) (fun j => j == 9) hmx ?_
  refine take_first (i := 0) rfl (by kernel_rfl) (by kernel_rfl) (by kernel_rfl) (by kernel_rfl) (fun _ _ _ h => h) c16 (.inl ⟨by rfl, fun w' hw' => by have hw2 : w'.cell? ⟨q, 16, none⟩ = Option.some (.int .i64 l.length) := hw'; go_simp; try with_reducible rfl⟩) ?_
  refine take_first (i := 3) rfl (by kernel_rfl) (by kernel_rfl) (by kernel_rfl) (by kernel_rfl) (fun _ _ _ h => h) c16 (.inl ⟨by rfl, fun w' hw' => by have hw2 : w'.cell? ⟨q, 16, none⟩ = Option.some (.int .i64 l.length) := hw'; go_simp; try with_reducible rfl⟩) ?_
  refine take_first (i := 1) rfl (by kernel_rfl) (by kernel_rfl) (by kernel_rfl) (by kernel_rfl) (fun _ _ _ h => h) c16 (.inl ⟨by rfl, fun w' hw' => by have hw2 : w'.cell? ⟨q, 16, none⟩ = Option.some (.int .i64 l.length) := hw'; go_simp; try with_reducible rfl⟩) ?_
  refine take_first (i := 4) rfl (by kernel_rfl) (by kernel_rfl) (by kernel_rfl) (by kernel_rfl) (fun _ _ _ h => h) c16 (.inl ⟨by rfl, fun w' hw' => by have hw2 : w'.cell? ⟨q, 16, none⟩ = Option.some (.int .i64 l.length) := hw'; go_simp; try with_reducible rfl⟩) ?_
  refine take_first (i := 2) rfl (by kernel_rfl) (by kernel_rfl) (by kernel_rfl) (by kernel_rfl) (fun _ _ _ h => h) c16 (.inl ⟨by rfl, fun w' hw' => by have hw2 : w'.cell? ⟨q, 16, none⟩ = Option.some (.int .i64 l.length) := hw'; go_simp; try with_reducible rfl⟩) ?_
  refine take_first (i := 5) rfl (by kernel_rfl) (by kernel_rfl) (by kernel_rfl) (by kernel_rfl) (fun _ _ _ h => h) c16 (.inl ⟨by rfl, fun w' hw' => by have hw2 : w'.cell? ⟨q, 16, none⟩ = Option.some (.int .i64 l.length) := hw'; go_simp; try with_reducible rfl⟩) ?_
  refine take_first (i := 6) rfl (by kernel_rfl) (by kernel_rfl) (by kernel_rfl) (by kernel_rfl) (fun _ _ _ h => h) c16 (.inl ⟨by rfl, fun w' hw' => by have hw2 : w'.cell? ⟨q, 16, none⟩ = Option.some (.int .i64 l.length) := hw'; go_simp; try with_reducible rfl⟩) ?_
  refine take_first (i := 7) rfl (by kernel_rfl) (by kernel_rfl) (by kernel_rfl) (by kernel_rfl) (fun _ _ _ h => h) c16 (.inl ⟨by rfl, fun w' hw' => by have hw2 : w'.cell? ⟨q, 16, none⟩ = Option.some (.int .i64 l.length) := hw'; go_simp; try with_reducible rfl⟩) ?_
  refine take_one (i := 8) (by kernel_rfl) rfl rfl fun K hK => ?_
  go_wp2_with fail
  refine (clone_any q 0 l.length 16 l _ rfl ?_ ?_ (by omega)).mono ?_
  · exact hlt
  · intro i x hx
    have := H.out.text hx
    rw [Nat.zero_add]
    exact this
  rintro e w1 ⟨v, rfl, ho, hb⟩
  have hb : Below w.heap.size w w1 := ((Below.refl w.heap.size w).drew).trans hb
  have HO := Lib.hid ho
  have HB := Lib.hid hb
  clear ho hb
  refine hK _ _ (.inr ((HB.out.cell (p := ⟨q, 16, none⟩) hlt).trans c16)) ?_
  clear hK
  refine take_one (i := 9) (by kernel_rfl) rfl rfl fun K hK => ?_
  go_wp2
  refine hK _ _ (.inl rfl) ?_
  clear hK
  refine take_done (by kernel_rfl) ?_ _
  go_wp2
  go_ret
  exact ⟨v, rfl, HO.out, HB.out⟩

theorem size_clu {l : List Int} (h : l.length ≤ 16) : (Tryz.prog.info? 93).map (·.size) = Option.some (cv l).toArray.size := by
  rw [List.size_toArray, cv_len h]; kernel_rfl
theorem cv_one (l : List Int) : (cv l).toArray.all (·.oneCell') = true := by
  simp only [List.all_toArray, List.all_eq_true]
  intro u hu
  unfold cv at hu
  rcases List.mem_append.1 hu with hu | hu
  · obtain ⟨x, _, rfl⟩ := List.mem_map.1 hu; rfl
  · rcases List.mem_append.1 hu with hu | hu
    · rw [List.eq_of_mem_replicate hu]; rfl
    · simp at hu; subst hu; rfl
theorem take_full (xs : List Int) {k : Nat} (h : ¬ ((xs.take k).take 16).length < 16) : (xs.take k).take 16 = xs.take 16 := by
  rw [List.length_take, List.length_take] at h
  rw [List.take_take]
  congr 1; omega

theorem CAt.but {w w' : World} {q g : Nat} {l : List Int} (h : CAt w g l) (hb : But q w w') (hn : g ≠ q) : CAt w' g l := by
  have hlt := h.lt
  obtain ⟨h1, T, h⟩ := h
  exact ⟨h1, T, by rw [hb.block g hlt hn, h]⟩

set_option maxRecDepth 100000 in
set_option maxHeartbeats 4000000 in
theorem of_any (a : Option Addr) (n c : Nat) (xs : List Int) (w : World) (h : Same.Ints .i32 w a n xs) (hn : n ≤ 9223372036854775807) :
    Calls Tryz.prog 63 #[.slice a n c] w fun e w' => e = .returned (.agg (cv (xs.take 16)).toArray) ∧ Below w.heap.size w w' := by
  have HI := Lib.hid h
  have HL := Lib.hid h.1
  clear h
  go_enter Tryz.func63, Tryz.ntmps63
  go_wp2
  have R0 := cat_new w 93 #[.int .i32 0, .int .i32 0, .int .i32 0, .int .i32 0, .int .i32 0, .int .i32 0, .int .i32 0, .int .i32 0, .int .i32 0, .int .i32 0, .int .i32 0, .int .i32 0, .int .i32 0, .int .i32 0, .int .i32 0, .int .i32 0, .int .i64 0] (by rfl)
  have B0 : Below w.heap.size w (w.alloc (.cells #[.int .i32 0, .int .i32 0, .int .i32 0, .int .i32 0, .int .i32 0, .int .i32 0, .int .i32 0, .int .i32 0, .int .i32 0, .int .i32 0, .int .i32 0, .int .i32 0, .int .i32 0, .int .i32 0, .int .i32 0, .int .i32 0, .int .i64 0] 93)) := (Below.refl _ _).alloc (Nat.le_refl _) _
  have z0 : (w.alloc (.cells #[.int .i32 0, .int .i32 0, .int .i32 0, .int .i32 0, .int .i32 0, .int .i32 0, .int .i32 0, .int .i32 0, .int .i32 0, .int .i32 0, .int .i32 0, .int .i32 0, .int .i32 0, .int .i32 0, .int .i32 0, .int .i32 0, .int .i64 0] 93)).heap.size = w.heap.size + 1 := by simp
  generalize (w.alloc (.cells #[.int .i32 0, .int .i32 0, .int .i32 0, .int .i32 0, .int .i32 0, .int .i32 0, .int .i32 0, .int .i32 0, .int .i32 0, .int .i32 0, .int .i32 0, .int .i32 0, .int .i32 0, .int .i32 0, .int .i32 0, .int .i32 0, .int .i64 0] 93)) = w1 at *
  have C0 := cat_new w1 93 #[.int .i32 0, .int .i32 0, .int .i32 0, .int .i32 0, .int .i32 0, .int .i32 0, .int .i32 0, .int .i32 0, .int .i32 0, .int .i32 0, .int .i32 0, .int .i32 0, .int .i32 0, .int .i32 0, .int .i32 0, .int .i32 0, .int .i64 0] (by rfl)
  rw [z0] at C0
  have R0 := R0.below (B := w1.heap.size) ((Below.refl _ _).alloc (Nat.le_refl _) (.cells #[.int .i32 0, .int .i32 0, .int .i32 0, .int .i32 0, .int .i32 0, .int .i32 0, .int .i32 0, .int .i32 0, .int .i32 0, .int .i32 0, .int .i32 0, .int .i32 0, .int .i32 0, .int .i32 0, .int .i32 0, .int .i32 0, .int .i64 0] 93)) (by omega)
  have B0 := B0.alloc B0.size (.cells #[.int .i32 0, .int .i32 0, .int .i32 0, .int .i32 0, .int .i32 0, .int .i32 0, .int .i32 0, .int .i32 0, .int .i32 0, .int .i32 0, .int .i32 0, .int .i32 0, .int .i32 0, .int .i32 0, .int .i32 0, .int .i32 0, .int .i64 0] 93)
  generalize (w1.alloc (.cells #[.int .i32 0, .int .i32 0, .int .i32 0, .int .i32 0, .int .i32 0, .int .i32 0, .int .i32 0, .int .i32 0, .int .i32 0, .int .i32 0, .int .i32 0, .int .i32 0, .int .i32 0, .int .i32 0, .int .i32 0, .int .i32 0, .int .i64 0] 93)) = w0 at *
  have R0 := Lib.hid R0
  have C0 := Lib.hid C0
  have B0 := Lib.hid B0
  clear z0
  go_loopw [8] (fun i wr => ∃ k : Nat, k ≤ n ∧ i = .int .i64 k ∧ Hid (CAt wr (w.heap.size + 1) ((xs.take k).take 16) ∧ CAt wr w.heap.size [] ∧ Below w.heap.size w wr)) (fun i _ => n - (intOf i).toNat)
  case atStart => exact ⟨0, Nat.zero_le _, rfl, C0.out, R0.out, B0.out⟩
  case round =>
    obtain ⟨k, hk, rfl, H⟩ := hrel
    by_cases hlt : k < n
    · obtain ⟨x, hx⟩ : ∃ x, xs[k]? = Option.some x := ⟨_, List.getElem?_eq_getElem (by rw [HL.out]; exact hlt)⟩
      obtain ⟨hl, h0 | ⟨b, off, rfl, hb, hc⟩⟩ := HI.out
      · omega
      have hcx := (H.out.2.2.cell (p := ⟨b, off + k, none⟩) hb).trans (hc k x hx)
      have hlt' : (k : Int) < n := by omega
      have hne : (k : Int) + 1 < 9223372036854775808 := by omega
      have HAX := Lib.hid (addL_take xs k hx)
      clear hc hl hx
      go_wp2_with fail
      refine (add_any (w.heap.size + 1) ((xs.take k).take 16) x wr H.out.1).mono ?_
      rintro e w3 ⟨rfl, hA, hB⟩
      rw [HAX.out] at hA
      have HC := Lib.hid hA
      have HR := Lib.hid (H.out.2.1.but hB (by omega))
      have HB := Lib.hid (H.out.2.2.trans (hB.below (by omega) H.out.2.2.size))
      clear hA hB hcx HAX
      by_cases h16 : ((xs.take k).take 16).length < 16
      · have d1 : decide (((xs.take k).take 16).length < 16) = true := by simpa using h16
        rw [d1]
        clear d1 h16
        go_wp2
        go_roundw
        case rel => exact ⟨k + 1, by omega, by go_num, HC.out, HR.out, HB.out⟩
        case measure => simp [intOf]; omega
      · have d1 : decide (((xs.take k).take 16).length < 16) = false := by simpa using h16
        have e16 : (xs.take (k + 1)).take 16 = xs.take 16 := by
          rw [List.length_take, List.length_take] at h16
          rw [List.take_take]; congr 1; omega
        rw [e16] at HC
        rw [d1]
        clear d1 h16 e16 H
        obtain ⟨hz1, T1, hT1⟩ := HC.out
        obtain ⟨hz2, T2, hT2⟩ := HR.out
        have hsz := size_clu hz1
        have hold : (cv []).toArray.size = (cv (xs.take 16)).toArray.size := by rw [List.size_toArray, List.size_toArray, cv_len hz1, cv_len (by simp)]
        have hone := cv_one (xs.take 16)
        generalize hcs : (cv (xs.take 16)).toArray = cs at *
        generalize hco : (cv []).toArray = co at *
        go_wp2_with (first | (refine wpList_load_row rfl 93 _ rfl (w.heap.size + 1) rfl T1 cs (0, 0) _ hT1 Tryz.underlying93 rfl hsz ?_) | (refine wpList_store_row rfl 93 _ _ rfl w.heap.size cs rfl rfl T2 co hT2 hsz hold hone ?_))
        have HF := setRow_heap _ w.heap.size co cs T2 (0, 0) hT2
        refine bodyPost_ret (results_cell_row rfl _ _ w.heap.size T2 cs (0, 0) _ rfl HF Tryz.underlying93 rfl hsz) rfl ?_
        exact ⟨by rw [hcs], below_setRow HB.out (Nat.le_refl _) cs⟩
    · obtain rfl : k = n := by omega
      have HC := Lib.hid H.out.1
      have HR := Lib.hid H.out.2.1
      have HB := Lib.hid H.out.2.2
      have e16 : (xs.take k).take 16 = xs.take 16 := by rw [← HL.out, List.take_length]
      rw [e16] at HC
      clear H e16 hlt
      obtain ⟨hz1, T1, hT1⟩ := HC.out
      obtain ⟨hz2, T2, hT2⟩ := HR.out
      have hsz := size_clu hz1
      have hold : (cv []).toArray.size = (cv (xs.take 16)).toArray.size := by rw [List.size_toArray, List.size_toArray, cv_len hz1, cv_len (by simp)]
      have hone := cv_one (xs.take 16)
      generalize hcs : (cv (xs.take 16)).toArray = cs at *
      generalize hco : (cv []).toArray = co at *
      go_wp2_with (first | (refine wpList_load_row rfl 93 _ rfl (w.heap.size + 1) rfl T1 cs (0, 0) _ hT1 Tryz.underlying93 rfl hsz ?_) | (refine wpList_store_row rfl 93 _ _ rfl w.heap.size cs rfl rfl T2 co hT2 hsz hold hone ?_))
      have HF := setRow_heap _ w.heap.size co cs T2 (0, 0) hT2
      refine bodyPost_ret (results_cell_row rfl _ _ w.heap.size T2 cs (0, 0) _ rfl HF Tryz.underlying93 rfl hsz) rfl ?_
      exact ⟨by rw [hcs], below_setRow HB.out (Nat.le_refl _) cs⟩

end Go.Proofs.YtcbfmokafmagpaaGreat.Clu

namespace Go.Proofs.YtcbfmokafmagpaaGreat.Mea
set_option linter.unusedSimpArgs false
set_option linter.unusedVariables false
open Go Go.RowKit Mem Seg Turn Gra Clu Same

theorem results_cell_tmp {P : Program} {fn : Func} {p q : Tmp} {ty : TypeId} (h : fn.results = #[.cell p ty, .tmp q]) (tmps : Array Value) (w : World) (g : Nat) (t : TypeId) (cs : Array Value) (fr : Nat × Nat) (d : TypeDesc)
    (hp : tmps.getD p undef = .pointer (some ⟨g, 0, none⟩)) (hg : w.heap[g]? = some (.cells cs t fr))
    (hu : P.underlying ty = some d) (hd : (match d with | .struct _ | .array _ _ => true | _ => false) = true) (hi : (P.info? ty).map (·.size) = some cs.size) :
    (results fn tmps).run P w = .ok (.tuple #[.agg cs, tmps.getD q undef]) w := by
  have hp' : tmps[p]?.getD undef = .pointer (some ⟨g, 0, none⟩) := by simpa using hp
  simp [results, h, hp', asAddr, run_loadVar_row w g t ty cs fr d hg hu hd hi]

/-- what piece hands out: whether the cluster is shown, and then its width and a copy of its first sixteen numbers -/
def PieceP (xs : List Int) (w : World) (e : Ending) (w' : World) : Prop :=
  Below w.heap.size w w' ∧
  ((Basew.silentB (xs.getD 0 0) = true ∧ e = .returned (.tuple #[.agg #[.int .i64 0, .slice none 0 0], .bool false])) ∨
   (Basew.silentB (xs.getD 0 0) = false ∧ ∃ A C, e = .returned (.tuple #[.agg #[.int .i64 (Cw.width (xs.take 16)), .slice A (xs.take 16).length C], .bool true]) ∧
      w'.ownsRow w.heap.size 21 1 (.slice A (xs.take 16).length C) (xs.take 16).length ((xs.take 16).map (Value.int .i32))))

theorem r32_take {xs : List Int} (h : R32 xs) (k : Nat) : R32 (xs.take k) := fun x hx => h x (List.mem_of_mem_take hx)

theorem runes_own {w : World} {base : Nat} {a : Option Addr} {n c : Nat} {xs : List Int} (h : w.ownsRow base 21 1 (.slice a n c) n (xs.map (Value.int .i32))) (hr : R32 xs) : Runes w a n c xs := by
  refine ⟨ints_of_own h, hr, ?_, ?_⟩
  · rcases h.2 with ⟨h1, h2⟩ | ⟨g, cap, cur, h1, h2, h3, h4, h5, h6⟩
    · injection h1 with _ _ h1; omega
    · injection h1 with _ _ h1; omega
  · rcases h.2 with ⟨h1, h2⟩ | ⟨g, cap, cur, h1, h2, h3, h4, h5, h6⟩
    · injection h1 with _ _ h1; omega
    · injection h1 with _ _ h1
      have : maxLen ≤ 9223372036854775807 := by unfold maxLen; omega
      omega

theorem size_item (x y : Value) : (Tryz.prog.info? 71).map (·.size) = some (#[x, y] : Array Value).size := by
  show _ = some 2
  kernel_rfl

theorem turn_row (w : World) (g : Nat) (cs : Array Value) : Turn (fun j => j = g) w (w.setRow g cs) :=
  ⟨rfl, rfl, rfl, by simp, fun k _ hn => setRow_other w g k cs hn⟩

theorem item_one (k : IntKind) (x : Int) (a : Option Addr) (n c : Nat) : (#[.int k x, .slice a n c] : Array Value).all (·.oneCell') = true := by simp [Value.oneCell']

set_option maxRecDepth 100000 in
set_option maxHeartbeats 4000000 in
theorem piece_any (a : Option Addr) (n c : Nat) (xs : List Int) (w : World) (h : Ints .i32 w a n xs) (hr : R32 xs) (h0 : 0 < n) (hn : n ≤ 100000) :
    Calls Tryz.prog 49 #[.slice a n c] w (PieceP xs w) := by
  have HI := Lib.hid h
  have HR := Lib.hid hr
  obtain ⟨hl, h9 | ⟨b, off, rfl, hb, hc⟩⟩ := h
  · omega
  obtain ⟨x, hx⟩ : ∃ x, xs[0]? = some x := ⟨_, List.getElem?_eq_getElem (by omega)⟩
  have HX : Hid (xs.getD 0 0 = x) := by rw [List.getD_eq_getElem?_getD, hx]; exact Lib.hid rfl
  have hn' : (0 : Int) < n := by omega
  have hc0 := hc 0 x hx
  rw [Nat.add_zero] at hc0
  have B0 : Hid (Below w.heap.size w (w.alloc (.cells #[.int .i64 0, .slice none 0 0] 71))) := (Below.refl _ _).alloc (Nat.le_refl _) _
  have hg0 : (w.alloc (.cells #[.int .i64 0, .slice none 0 0] 71)).heap[w.heap.size]? = some (.cells #[.int .i64 0, .slice none 0 0] 71 (0, 0)) := World.alloc_heap_new w _
  have hz0 : (w.alloc (.cells #[.int .i64 0, .slice none 0 0] 71)).heap.size = w.heap.size + 1 := by simp
  have hcx := (B0.out.cell (p := ⟨b, off, none⟩) hb).trans hc0
  clear hc hx hl hc0
  go_enter Tryz.func49, Tryz.ntmps49
  go_wp2_with fail
  generalize (w.alloc (.cells #[.int .i64 0, .slice none 0 0] 71)) = w0 at *
  refine (Basew.silent_any x w0).mono ?_
  rintro e w1 ⟨rfl, rfl⟩
  rcases hs : Basew.silentB x with _ | _
  · have HS := Lib.hid hs
    clear hs
    go_wp2_with fail
    refine (Clu.of_any (some ⟨b, off, none⟩) n c xs w0 (HI.out.below B0.out) (by omega)).mono ?_
    rintro e w1 ⟨rfl, hb1⟩
    have B1 : Hid (Below w.heap.size w w1) := B0.out.trans (hb1.mono B0.out.size)
    have hg1 := (hb1.block w.heap.size (by omega)).trans hg0
    have hs1 := hb1.size
    have hle : (xs.take 16).length ≤ 16 := by rw [List.length_take]; omega
    have HRY : Hid (R32 (xs.take 16)) := r32_take HR.out 16
    generalize hys : xs.take 16 = ys at *
    have hsz := size_clu hle
    have hone := cv_one ys
    have hold : (#[.int .i32 0, .int .i32 0, .int .i32 0, .int .i32 0, .int .i32 0, .int .i32 0, .int .i32 0, .int .i32 0, .int .i32 0, .int .i32 0, .int .i32 0, .int .i32 0, .int .i32 0, .int .i32 0, .int .i32 0, .int .i32 0, .int .i64 0] : Array Value).size = (cv ys).toArray.size := by
      have e2 : (cv ys).toArray.size = 17 := by rw [List.size_toArray, cv_len hle]
      rw [e2]
      rfl
    have HCA : Hid (CAt (w1.alloc (.cells (cv ys).toArray 93)) w1.heap.size ys) := ⟨hle, _, World.alloc_heap_new w1 _⟩
    have B2 : Hid (Below w.heap.size w (w1.alloc (.cells (cv ys).toArray 93))) := B1.out.alloc (by omega) _
    have hg2 : (w1.alloc (.cells (cv ys).toArray 93)).heap[w.heap.size]? = some (.cells #[.int .i64 0, .slice none 0 0] 71 (0, 0)) := by
      rw [← hg1]; exact ((Below.refl w1.heap.size w1).alloc (Nat.le_refl _) _).block _ (by omega)
    have hs2 : (w1.alloc (.cells (cv ys).toArray 93)).heap.size = w1.heap.size + 1 := by simp
    have hnew : (w1.alloc (.cells #[.int .i32 0, .int .i32 0, .int .i32 0, .int .i32 0, .int .i32 0, .int .i32 0, .int .i32 0, .int .i32 0, .int .i32 0, .int .i32 0, .int .i32 0, .int .i32 0, .int .i32 0, .int .i32 0, .int .i32 0, .int .i32 0, .int .i64 0] 93)).heap[w1.heap.size]? = some (.cells #[.int .i32 0, .int .i32 0, .int .i32 0, .int .i32 0, .int .i32 0, .int .i32 0, .int .i32 0, .int .i32 0, .int .i32 0, .int .i32 0, .int .i32 0, .int .i32 0, .int .i32 0, .int .i32 0, .int .i32 0, .int .i32 0, .int .i64 0] 93 (0, 0)) := World.alloc_heap_new w1 _
    have hrow := World.setRow_alloc_new w1 #[.int .i32 0, .int .i32 0, .int .i32 0, .int .i32 0, .int .i32 0, .int .i32 0, .int .i32 0, .int .i32 0, .int .i32 0, .int .i32 0, .int .i32 0, .int .i32 0, .int .i32 0, .int .i32 0, .int .i32 0, .int .i32 0, .int .i64 0] (cv ys).toArray 93
    clear hb1 hg0 hg1 hcx
    generalize (cv ys).toArray = cs at *
    go_wp2_with (refine wpList_store_row rfl 93 _ _ rfl w1.heap.size cs rfl rfl _ _ hnew hsz hold hone ?_)
    clear hnew hrow hold hone hsz
    generalize w1.alloc (.cells cs 93) = w2 at *
    refine (Clu.text_any w1.heap.size ys w2 HCA.out).mono ?_
    rintro e w3 ⟨v, rfl, ho3, hb3⟩
    obtain ⟨A3, C3, rfl⟩ := own_slice ho3
    have B3 : Hid (Below w.heap.size w w3) := B2.out.trans (hb3.mono B2.out.size)
    have hg3 := (hb3.block w.heap.size (by omega)).trans hg2
    have hs3 := hb3.size
    have HO := Lib.hid (ho3.mono (base' := w.heap.size + 1) (by omega))
    clear ho3 hb3 hg2 HCA
    generalize hN : ys.length = N at *
    go_wp2_with fail
    refine (Cw.of_any A3 N C3 ys w3 (runes_own HO.out HRY.out)).mono ?_
    rintro e w4 ⟨rfl, hb4⟩
    have B4 : Hid (Below w.heap.size w w4) := B3.out.trans (hb4.mono B3.out.size)
    have hg4 := (hb4.block w.heap.size (by omega)).trans hg3
    have HO4 := Lib.hid ((Turn.of_new hb4 : Turn (fun _ => False) _ _).kept HO.out (fun _ _ => id))
    clear hb4 hg3 HO
    generalize hW : Cw.width ys = W at *
    go_wp2_with (refine wpList_store_row rfl 71 _ _ rfl w.heap.size #[.int .i64 W, .slice A3 N C3] rfl rfl _ _ hg4 (size_item _ _) rfl (item_one _ _ _ _ _) ?_)
    refine bodyPost_ret (results_cell_tmp rfl _ _ w.heap.size _ _ (0, 0) _ rfl (setRow_heap _ w.heap.size _ _ _ (0, 0) hg4) Tryz.underlying71 rfl (size_item _ _)) rfl ?_
    refine ⟨below_setRow B4.out (Nat.le_refl _) _, .inr ⟨by rw [HX.out, HS.out], A3, C3, by rw [hys, hW, hN]; rfl, ?_⟩⟩
    rw [hys, hN]
    exact ((turn_row w4 w.heap.size _).kept HO4.out (fun g hg e => by have := (HO4.out.lt g hg).1; omega)).mono (by omega)
  · have HS := Lib.hid hs
    clear hs
    go_wp2_with (refine wpList_store_row rfl 71 _ _ rfl w.heap.size #[.int .i64 0, .slice none 0 0] rfl rfl _ _ hg0 (size_item _ _) rfl (item_one _ _ _ _ _) ?_)
    refine bodyPost_ret (results_cell_tmp rfl _ _ w.heap.size _ _ (0, 0) _ rfl (setRow_heap _ w.heap.size _ _ _ (0, 0) hg0) Tryz.underlying71 rfl (size_item _ _)) rfl ?_
    exact ⟨below_setRow B0.out (Nat.le_refl _) _, .inl ⟨by rw [HX.out, HS.out], rfl⟩⟩

end Go.Proofs.YtcbfmokafmagpaaGreat.Mea

namespace Go.Proofs.YtcbfmokafmagpaaGreat.Turn
set_option linter.unusedSimpArgs false
set_option linter.unusedVariables false
open Go Go.RowKit
section
variable {P : Program}
theorem wpIn_of_wp {l n : Nat} {o : Oper} {K : Act → World → Prop} {Q : Exit → Act → World → Prop} {a : Act} {w : World} (hnd : ∀ c, o.op ≠ .defer c) (h : o.wp P a w K Q) : o.wpIn (Fence.wide.inRound l) n P a w K Q := by
  refine ⟨fun _ _ => trivial, ?_⟩
  rw [Oper.semAt_eq _ _ _ hnd]
  unfold Oper.wp at h
  generalize (execOp a.eval o).run P w = r at *
  cases r with
  | ok x w' =>
    cases x <;> simp only [Oper.upon] at h <;> simp only [Oper.uponIn]
    case value => exact h
    case skip => exact h
    case defer => exact h
    case enter => exact ⟨(fun h => by cases h), CallsIn.inRound l (callsIn_wide.2 h)⟩
    case row => exact ⟨(fun h => by cases h), rowsIn_round h⟩
  | halt x w' =>
    cases x <;> simp only [Oper.upon] at h <;> simp only [Oper.uponIn]
    case panic => exact h

/-- one operation of a region in a round, by a plain law -/
theorem wpListIn_of_plain {l n : Nat} {ops : Array Oper} {rest : List Oper} {o : Oper} {a : Act} {w : World} {Q : Exit → Act → World → Prop} (hg : o.guard = none) (hnd : ∀ c, o.op ≠ .defer c)
    (h : ∀ K : Act → World → Prop, (∀ a' w', wpListIn (Fence.wide.inRound l) n P ops Q rest a' w' → K a' w') → o.wp P a w K Q) : wpListIn (Fence.wide.inRound l) n P ops Q (o :: rest) a w :=
  wpListIn_plain hg fun K hK => wpIn_of_wp hnd (h K hK)
end
end Go.Proofs.YtcbfmokafmagpaaGreat.Turn
namespace Go.Proofs.YtcbfmokafmagpaaGreat.Mea
open Go Go.RowKit Go.Shelf Mem Seg Turn Gra Clu Same GraLaw
attribute [local go_sem] Oper.semAt_some

theorem info_item : (Tryz.prog.info? 71).map (fun i => (i.zero, i.size, i.bytes)) = some (some (.agg #[.int .i64 0, .slice none 0 0]), 2, 32) := by kernel_rfl

/-- is a cluster shown? -/
def shown (ys : List Int) : Bool := !(Basew.silentB (ys.getD 0 0))
/-- the texts of the pieces of the first k clusters -/
def its (f : Nat → List Int) : Nat → List (List Int)
  | 0 => []
  | k + 1 => its f k ++ if shown (f k) then [(f k).take 16] else []
/-- the cells of pieces -/
noncomputable def icl : List (List Int) → List Value → List Value
  | ys :: yss, v :: vs => .int .i64 (Cw.width ys) :: v :: icl yss vs
  | _, _ => []
theorem icl_add : ∀ (yss : List (List Int)) (vs : List Value) (ys : List Int) (v : Value), vs.length = yss.length → icl (yss ++ [ys]) (vs ++ [v]) = icl yss vs ++ [.int .i64 (Cw.width ys), v]
  | [], [], _, _, _ => rfl
  | [], _ :: _, _, _, h => by simp at h
  | _ :: _, [], _, _, h => by simp at h
  | y :: yss, u :: vs, ys, v, h => by
    show _ :: _ :: icl (yss ++ [ys]) (vs ++ [v]) = _
    rw [icl_add yss vs ys v (by simpa using h)]
    rfl

/-- a row of pieces, each text a row of its own -/
def PItems (w : World) (base : Nat) (v : Value) (yss : List (List Int)) : Prop :=
  ∃ vs : List Value, vs.length = yss.length ∧ w.ownsRow base 71 2 v yss.length (icl yss vs) ∧
    ∀ (i : Nat) (ys : List Int), yss[i]? = some ys → ∃ a n c, vs[i]? = some (.slice a n c) ∧ w.ownsRow base 21 1 (.slice a n c) n (ys.map (Value.int .i32))

theorem its_len (f : Nat → List Int) (k : Nat) : (its f k).length ≤ k := by
  induction k with
  | zero => simp [its]
  | succ k ih => simp only [its]; split <;> simp <;> omega
theorem its_yes {f : Nat → List Int} {k : Nat} (h : Basew.silentB ((f k).getD 0 0) = false) : its f (k + 1) = its f k ++ [(f k).take 16] := by
  simp only [its, shown, h]; rfl
theorem its_no {f : Nat → List Int} {k : Nat} (h : Basew.silentB ((f k).getD 0 0) = true) : its f (k + 1) = its f k := by
  simp only [its, shown, h]; simp
theorem cell_new2 (w : World) (v0 v1 : Value) (t : TypeId) : ∀ j u, [v0, v1][j]? = some u → (w.alloc (.cells #[v0, v1] t)).cell? ((⟨w.heap.size, 0, none⟩ : Addr).add j) = some u := by
  intro j u hj
  match j, hj with
  | 0, hj => simp at hj; subst hj; simp [Addr.add]
  | 1, hj => simp at hj; subst hj; simp [Addr.add]
theorem cl_r32 {xs : List Int} (h : R32 xs) (k : Nat) : R32 (cl xs k) := fun x hx => h x (List.mem_of_mem_drop (List.mem_of_mem_take hx))

set_option maxRecDepth 100000 in
set_option maxHeartbeats 4000000 in
theorem items_any (a : Option Addr) (n c : Nat) (xs : List Int) (w : World) (h : Runes w a n c xs) (hn : n ≤ 100000) :
    Calls Tryz.prog 46 #[.slice a n c] w fun e w' => ∃ v, e = .returned v ∧ PItems w' w.heap.size v (its (cl xs) (cnt (Jn xs) xs.length)) ∧ Below w.heap.size w w' := by
  obtain ⟨i0, hi, hz0, hz1, hz2⟩ := info_parts info_item
  obtain ⟨b, off, hab, hG⟩ := gives_any h
  have hlen := h.ints.1
  have HG := Lib.hid hG
  have HL := Lib.hid hlen
  have HA := Lib.hid hab
  have HR := Lib.hid h.r32
  clear hab hG h hlen
  refine (callsIn_wide (n := 6)).1 ?_
  refine callsIn_of_wp_marks Tryz.func46 rfl trivial ?_ rfl
  simp only [Tryz.ntmps46, List.size_toArray, List.length_cons, List.length_nil, Nat.reduceAdd, Nat.reduceSub, Array.replicate_succ, Array.replicate_zero, List.push_toArray, List.append_toArray, List.nil_append, List.cons_append]
  gi_wp2_with fail
  refine ⟨trivial, callsIn_wide.2 ?_⟩
  refine (all_any _ _ _ _).mono ?_
  rintro e w1 ⟨rfl, rfl⟩
  gi_wp2_with fail
  have hb1 := Boxed.new w 68 (.slice none 0 0)
  have hbw : Below w.heap.size w ((w.alloc (.cells #[.slice none 0 0] 68)).alloc (.cells #[.slice a n c] 22)) := ((Below.refl _ _).alloc (Nat.le_refl _) _).alloc (by simp) _
  have hb2 := Boxed.new (w.alloc (.cells #[.slice none 0 0] 68)) 22 (.slice a n c)
  have hb1 := hb1.alloc (.cells #[.slice a n c] 22)
  have hs2 : ((w.alloc (.cells #[.slice none 0 0] 68)).alloc (.cells #[.slice a n c] 22)).heap.size = w.heap.size + 2 := by simp
  have hs1 : (w.alloc (.cells #[.slice none 0 0] 68)).heap.size = w.heap.size + 1 := by simp
  rw [hs1] at hb2
  clear hs1
  generalize ((w.alloc (.cells #[.slice none 0 0] 68)).alloc (.cells #[.slice a n c] 22)) = w2 at *
  refine wpIn_range (gf := 55) (lb := #[.pointer (some ⟨w.heap.size + 1, 0, none⟩)]) rfl (enters_of Tryz.func55 (by kernel_rfl) rfl)
    (HG.out (w.heap.size + 1) w.heap.size w2 (Nat.le_refl _) (by omega) hbw (by omega) hb2.cell) (Below.refl _ _) (by omega) (by omega) (fun _ => rfl)
    (fun k W => (∃ v, Boxed W w.heap.size 68 v ∧ PItems W (w2.heap.size + 3) v (its (cl xs) k)) ∧ Below w.heap.size w W)
    (fun _ _ _ => False) ?hI (fun _ _ _ _ h _ => h) ?h0
    (fun k => { tmps := #[.slice a n c, undef, .slice none 0 0, .pointer (some ⟨w.heap.size, 0, none⟩), undef, pieceV xs b off k, undef, undef, .slice a n c, .func (.func 55) #[] #[.pointer (some ⟨w.heap.size + 1, 0, none⟩)], .int .i64 (st (Jn xs) xs.length k), pieceV xs b off k, undef, undef, undef, undef, undef, undef, undef, undef, undef, undef, undef], defers := [] }) ?assign ?body ?done ?stop
  case hI =>
    rintro k X Y ⟨⟨v, h1, vs, h2, h4, h5⟩, h3⟩ ht
    refine ⟨⟨v, ht.boxed h1 (fun h => by have := h.1; omega), vs, h2, ht.own3 h4, fun i ys hi => ?_⟩, h3.trans (ht.below h3.size (fun j hj => by have := hj.1; omega))⟩
    obtain ⟨a, n, c, e1, e2⟩ := h5 i ys hi
    exact ⟨a, n, c, e1, ht.own3 e2⟩
  case h0 => exact ⟨⟨_, hb1, [], rfl, World.ownsRow_nil _ _ _ _, fun i ys hi => by simp [its] at hi⟩, hbw⟩
  case assign =>
    intro l k W K hK
    unfold piece
    gi_wp2
    exact hK
  case body =>
    rintro l k W hk ⟨⟨v, h1, vs, h2, h4, h5⟩, h3⟩ hsz
    have hyl := cl_len xs hk
    have hmo := st_mono (J := Jn xs) (n := xs.length) (j := k) (k := k + 1) (by omega) hk
    have hle := st_le (J := Jn xs) (n := xs.length) (k := k + 1) hk
    have hkn : k < n := by have := cnt_le (J := Jn xs) xs.length; have h9 := HL.out; omega
    have hil := its_len (cl xs) k
    have HYR := Lib.hid (cl_r32 HR.out k)
    have hbb := (HA.out (by omega)).2.1
    have HYI : Hid (∀ (i : Nat) (x : Int), (cl xs k)[i]? = some x → W.cell? ⟨b, off + st (Jn xs) xs.length k + i, none⟩ = some (.int .i32 x)) := by
      refine Lib.hid fun i x hx => ?_
      have hx' : xs[st (Jn xs) xs.length k + i]? = some x := by
        unfold cl at hx
        rw [List.getElem?_take] at hx
        split at hx
        · rwa [List.getElem?_drop] at hx
        · cases hx
      have := (h3.cell (p := ⟨b, off + (st (Jn xs) xs.length k + i), none⟩) hbb).trans ((HA.out (by omega)).2.2 _ _ hx')
      rw [Nat.add_assoc]
      exact this
    have HYes := Lib.hid (its_yes (f := cl xs) (k := k))
    have HNo := Lib.hid (its_no (f := cl xs) (k := k))
    have hc1 := h1.cell
    have H5 := Lib.hid h5
    have HLK : Hid (xs.length = n) := HL
    have hmn : st (Jn xs) xs.length (k + 1) - st (Jn xs) xs.length k ≤ 100000 := by have h9 := HL.out; omega
    have hm0 : 0 < st (Jn xs) xs.length (k + 1) - st (Jn xs) xs.length k := by omega
    unfold pieceV
    clear h5 hle hmo
    generalize hI1 : its (cl xs) (k + 1) = I1 at *
    generalize hI0 : its (cl xs) k = I0 at *
    generalize hys : cl xs k = ys at *
    generalize hmm : st (Jn xs) xs.length (k + 1) - st (Jn xs) xs.length k = m at *
    generalize hss : st (Jn xs) xs.length k = s0 at *
    clear hmm hss
    have HYI2 : Hid (Ints .i32 W (some ⟨b, off + s0, none⟩) m ys) := ⟨hyl, .inr ⟨b, off + s0, rfl, Nat.lt_of_lt_of_le hbb h3.size, HYI.out⟩⟩
    obtain ⟨Av, Cv, rfl⟩ := own_slice h4
    gi_wp2_with fail
    refine ⟨trivial, CallsIn.inRound l (callsIn_wide.2 ?_)⟩
    refine (piece_any (some ⟨b, off + s0, none⟩) m m ys W HYI2.out HYR.out hm0 hmn).mono ?_
    rintro e W1 ⟨hB1, ⟨hs, rfl⟩ | ⟨hs, A1, C1, rfl, ho1⟩⟩
    · have e1 := HNo.out hs
      have hW := hB1.size
      have hnew : (W1.alloc (.cells #[.int .i64 0, .slice none 0 0] 71)).heap[W1.heap.size]? = some (.cells #[.int .i64 0, .slice none 0 0] 71 (0, 0)) := World.alloc_heap_new W1 _
      have hrow := World.setRow_alloc_new W1 #[.int .i64 0, .slice none 0 0] #[.int .i64 0, .slice none 0 0] 71
      have hT : Turn (fun _ => False) W (W1.alloc (.cells #[.int .i64 0, .slice none 0 0] 71)) := Turn.of_new (hB1.alloc hW _)
      have hTR : Turn (Rnd w.heap.size (w.heap.size + 1) w2.heap.size) W (W1.alloc (.cells #[.int .i64 0, .slice none 0 0] 71)) := Turn.of_new (hB1.alloc hW _)
      have F1 : Hid (Turn (Rnd w.heap.size (w.heap.size + 1) w2.heap.size) W (W1.alloc (.cells #[.int .i64 0, .slice none 0 0] 71)) ∧ ((∃ v, Boxed (W1.alloc (.cells #[.int .i64 0, .slice none 0 0] 71)) w.heap.size 68 v ∧ PItems (W1.alloc (.cells #[.int .i64 0, .slice none 0 0] 71)) (w2.heap.size + 3) v I1) ∧ Below w.heap.size w (W1.alloc (.cells #[.int .i64 0, .slice none 0 0] 71)))) := by
        refine ⟨hTR, ⟨_, hT.boxed h1 id, ?_⟩, h3.trans (hT.below h3.size (fun j hj => hj.elim))⟩
        rw [e1]
        refine ⟨vs, h2, hT.kept h4 (fun _ _ => id), fun i ys hi => ?_⟩
        obtain ⟨a', n', c', e1, e2⟩ := H5.out i ys hi
        exact ⟨a', n', c', e1, hT.kept e2 (fun _ _ => id)⟩
      clear hT hTR hc1 H5 HYes HNo HYI HYI2 HYR h1 h4 h3 hB1
      gi_wp2_with (refine wpListIn_of_plain rfl (by intro c h; cases h) fun K hK => ?_; refine wp_store_row 71 _ _ rfl W1.heap.size #[.int .i64 0, .slice none 0 0] rfl rfl _ _ hnew (size_item _ _) rfl (item_one _ _ _ _ _) (hK _ _ ?_))
      have F := F1.out
      rw [← hI1] at F
      exact F
    · have e1 := HYes.out hs
      have hW := hB1.size
      generalize hzs : ys.take 16 = zs at *
      generalize hwd : Cw.width zs = wd at *
      obtain ⟨W2, hW2⟩ : ∃ W2, W2 = W1.alloc (.cells #[.int .i64 wd, .slice A1 zs.length C1] 71) := ⟨_, rfl⟩
      have hnew : (W1.alloc (.cells #[.int .i64 0, .slice none 0 0] 71)).heap[W1.heap.size]? = some (.cells #[.int .i64 0, .slice none 0 0] 71 (0, 0)) := World.alloc_heap_new W1 _
      have hrow : (W1.alloc (.cells #[.int .i64 0, .slice none 0 0] 71)).setRow W1.heap.size #[.int .i64 wd, .slice A1 zs.length C1] = W2 := by rw [hW2]; exact World.setRow_alloc_new W1 _ _ _
      have hl2 : W2.heap[W1.heap.size]? = some (.cells #[.int .i64 wd, .slice A1 zs.length C1] 71 (0, 0)) := by rw [hW2]; exact World.alloc_heap_new W1 _
      have hs2 : W2.heap.size = W1.heap.size + 1 := by rw [hW2]; simp
      have hT1 : Turn (fun _ => False) W1 W2 := by rw [hW2]; exact Turn.of_new ((Below.refl _ _).alloc (Nat.le_refl _) _)
      have hBW : Below W.heap.size W W2 := by rw [hW2]; exact hB1.alloc hW _
      have HT : Hid (Turn (fun _ => False) W W2) := Turn.of_new hBW
      have HTR : Hid (Turn (Rnd w.heap.size (w.heap.size + 1) w2.heap.size) W W2) := Turn.of_new hBW
      have HO1 : Hid (W2.ownsRow (w2.heap.size + 3) 21 1 (.slice A1 zs.length C1) zs.length (zs.map (Value.int .i32))) := hT1.kept (ho1.mono (by omega)) (fun _ _ => id)
      have h1' := HT.out.boxed h1 id
      have h4' := HT.out.kept h4 (fun _ _ => id)
      have hc2 := h1'.cell
      have HB3 := Lib.hid h3
      have H4 := Lib.hid h4
      clear hW2 hT1 hBW ho1 h1 h3 hc1 HYes HNo HYI HYI2 HYR h4 hB1
      have hs2' : w2.heap.size + 3 ≤ W2.heap.size := by omega
      have HS2 := Lib.hid hs2
      clear hs2
      generalize hL0 : I0.length = L0 at *
      generalize hN : zs.length = N at *
      gi_wp2_with (first | (refine wpListIn_of_plain rfl (by intro c h; cases h) fun K hK => ?_; refine wp_store_row 71 _ _ rfl W1.heap.size #[.int .i64 wd, .slice A1 N C1] rfl rfl _ _ hnew (size_item _ _) rfl (item_one _ _ _ _ _) (hK _ _ ?_)) | (refine wpListIn_of_plain rfl (by intro c h; cases h) fun K hK => ?_; refine wp_load_row 71 _ rfl W1.heap.size rfl _ _ (0, 0) _ hl2 Tryz.underlying71 rfl (size_item _ _) (hK _ _ ?_)) | (gi_at_builtin; refine wpListIn_append_own _ rfl _ _ 68 rfl (w2.heap.size + 3) 71 i0 _ 2 32 Tryz.underlying68 hi hz0 hz1 hz2 rfl (by decide) (.slice Av L0 Cv) L0 _ rfl (h4'.alloc _) ⟨W2.heap.size, 0, none⟩ 1 1 [.int .i64 wd, .slice A1 N C1] rfl rfl (cell_new2 _ _ _ _) (by simp [Value.oneCell']) (by unfold maxLen; omega) (by omega) (by simp; omega) ?_; intro v' w3 hown' hgrow _; obtain ⟨g', cap', rfl⟩ := ownsRow_succ hown'; obtain ⟨hv1, hv2, hr2, hT2⟩ := appended (HTR.out.trans (Turn.alloc _ _ _)) (h1'.alloc _) (by decide) (h4'.alloc _) (by omega) (Nat.le_refl _) (by omega) (by omega) hown' hgrow; have hc3 := hv1.cell; have hf3 := hv1.frozen))
      have hT6 : Hid (Turn (fun j => (Value.slice Av L0 Cv).ownBlock = some j ∨ j = w.heap.size) W (w3.setCell ⟨w.heap.size, 0, none⟩ (.slice (some ⟨g', 0, none⟩) (L0 + 1) cap'))) :=
        (((HT.out.mono (fun _ _ h => h.elim)).trans (Turn.alloc _ _ _)).trans (Turn.of_grown hgrow (fun _ e => .inl e))).trans (Turn.setCell _ _ (.inr rfl))
      have hT7 : Hid (Turn (fun j => (Value.slice Av L0 Cv).ownBlock = some j ∨ j = w.heap.size) W2 (w3.setCell ⟨w.heap.size, 0, none⟩ (.slice (some ⟨g', 0, none⟩) (L0 + 1) cap'))) :=
        ((Turn.alloc _ _ _).trans (Turn.of_grown hgrow (fun _ e => .inl e))).trans (Turn.setCell _ _ (.inr rfl))
      have F : Turn (Rnd w.heap.size (w.heap.size + 1) w2.heap.size) W (w3.setCell ⟨w.heap.size, 0, none⟩ (.slice (some ⟨g', 0, none⟩) (L0 + 1) cap')) ∧ ((∃ v, Boxed (w3.setCell ⟨w.heap.size, 0, none⟩ (.slice (some ⟨g', 0, none⟩) (L0 + 1) cap')) w.heap.size 68 v ∧ PItems (w3.setCell ⟨w.heap.size, 0, none⟩ (.slice (some ⟨g', 0, none⟩) (L0 + 1) cap')) (w2.heap.size + 3) v I1) ∧ Below w.heap.size w (w3.setCell ⟨w.heap.size, 0, none⟩ (.slice (some ⟨g', 0, none⟩) (L0 + 1) cap'))) := by
        refine ⟨hT2, ⟨_, hv2, ?_⟩, HB3.out.trans (hT2.below HB3.out.size (fun j hj => hj.1))⟩
        rw [e1]
        refine ⟨vs ++ [.slice A1 N C1], by simp [h2, hL0], ?_, fun i ys hi => ?_⟩
        · rw [icl_add I0 vs zs _ (by rw [h2, hL0]), hwd, List.length_append, hL0]
          exact hr2
        · rcases Nat.lt_or_ge i I0.length with hik | hik
          · rw [List.getElem?_append_left hik] at hi
            obtain ⟨a', n', c', q1, q2⟩ := H5.out i ys hi
            refine ⟨a', n', c', by rw [List.getElem?_append_left (by omega)]; exact q1, hT6.out.kept q2 (fun g hg hx => ?_)⟩
            rcases hx with hx | hx
            · exact rows_ne H4.out q2 (by decide) hx hg
            · have := (q2.lt g hg).1; omega
          · rw [List.getElem?_append_right hik] at hi
            have hi0 : i - I0.length = 0 := by
              have := (List.getElem?_eq_some_iff.1 hi).1
              simp at this; omega
            rw [hi0] at hi
            simp at hi
            subst hi
            refine ⟨A1, N, C1, by rw [List.getElem?_append_right (by omega)]; simp [h2, ← hL0, hi0], hT7.out.kept HO1.out (fun g hg hx => ?_)⟩
            rcases hx with hx | hx
            · exact rows_ne h4' HO1.out (by decide) hx hg
            · have := (HO1.out.lt g hg).1; omega
      rw [← hI1] at F
      exact F
  case done =>
    rintro W ⟨⟨v, h1, vs, h2, h4, h5⟩, h3⟩ hK
    have hc1 := h1.cell
    gi_wp2
    refine ⟨by simp, .inl ⟨_, _, rfl, run_takeDeferred hK, ?_⟩⟩
    refine ⟨_, results_tmp rfl _ _ _, v, rfl, ⟨vs, h2, (ownsRow_putObj h4 _ hK rfl).mono (by omega), fun i ys hi => ?_⟩, below_shut h3 (Nat.le_refl _) (by omega) _⟩
    obtain ⟨a', n', c', e1, e2⟩ := h5 i ys hi
    exact ⟨a', n', c', e1, (ownsRow_putObj e2 _ hK rfl).mono (by omega)⟩
  case stop =>
    rintro c k W _ h _
    exact h.elim

end Go.Proofs.YtcbfmokafmagpaaGreat.Mea

namespace Go.Proofs.YtcbfmokafmagpaaGreat.Mea
set_option linter.unusedSimpArgs false
set_option linter.unusedVariables false
open Go Go.RowKit Mem Seg Turn Gra Clu Same GraLaw

/-- how wide pieces are together -/
noncomputable def wsum : List (List Int) → Int
  | [] => 0
  | y :: ys => Cw.width y + wsum ys
theorem wsum_app (a b : List (List Int)) : wsum (a ++ b) = wsum a + wsum b := by
  induction a with
  | nil => simp [wsum]
  | cons y a ih => simp only [List.cons_append, wsum, ih]; omega
theorem width_one (ys : List Int) : Cw.width ys = 1 ∨ Cw.width ys = 2 := by
  unfold Cw.width Cw.wid
  split
  · exact .inr rfl
  · exact .inl rfl
theorem wsum_le (a : List (List Int)) : 0 ≤ wsum a ∧ wsum a ≤ 2 * a.length := by
  induction a with
  | nil => simp [wsum]
  | cons y a ih =>
    have := width_one y
    simp only [wsum, List.length_cons]; omega
theorem wsum_next (yss : List (List Int)) (k : Nat) (ys : List Int) (h : yss[k]? = some ys) : wsum (yss.take (k + 1)) = wsum (yss.take k) + Cw.width ys := by
  rw [List.take_add_one, h, wsum_app]
  simp [wsum]

theorem icl_wide : ∀ (yss : List (List Int)) (vs : List Value) (k : Nat) (ys : List Int) (v : Value), yss[k]? = some ys → vs[k]? = some v → (icl yss vs)[k * 2]? = some (.int .i64 (Cw.width ys)) ∧ (icl yss vs)[k * 2 + 1]? = some v
  | [], _, _, _, _, h, _ => by simp at h
  | _ :: _, [], _, _, _, _, h => by simp at h
  | y :: yss, u :: vs, 0, ys, v, h, h' => by
    simp at h h'
    subst h h'
    exact ⟨rfl, rfl⟩
  | y :: yss, u :: vs, k + 1, ys, v, h, h' => by
    have := icl_wide yss vs k ys v (by simpa using h) (by simpa using h')
    have e : (k + 1) * 2 = k * 2 + 2 := by omega
    rw [e]
    exact this

theorem pitems_slice {w : World} {base : Nat} {v : Value} {yss : List (List Int)} (h : PItems w base v yss) : ∃ a c, v = .slice a yss.length c := by
  obtain ⟨vs, _, h, _⟩ := h
  exact own_slice h

theorem pitems_at {w : World} {base : Nat} {a : Option Addr} {m c : Nat} {yss : List (List Int)} (h : PItems w base (.slice a m c) yss) (hn : 0 < yss.length) :
    ∃ g, a = some ⟨g, 0, none⟩ ∧ base ≤ g ∧ g < w.heap.size ∧ ∀ (k : Nat) (ys : List Int), yss[k]? = some ys → w.cell? ⟨g, k * 2, none⟩ = some (.int .i64 (Cw.width ys)) ∧ ∃ a' n' c', w.cell? ⟨g, k * 2 + 1, none⟩ = some (.slice a' n' c') ∧ w.ownsRow base 21 1 (.slice a' n' c') n' (ys.map (Value.int .i32)) := by
  obtain ⟨vs, hl, h, hv⟩ := h
  rcases h.2 with ⟨_, h0⟩ | ⟨g, cap, cur, h1, h2, h3, _⟩
  · omega
  · injection h1 with h1 _
    subst h1
    refine ⟨g, rfl, h2, (Array.getElem?_eq_some_iff.1 h3).1, fun k ys hx => ?_⟩
    obtain ⟨a', n', c', e1, e2⟩ := hv k ys hx
    obtain ⟨q1, q2⟩ := icl_wide yss vs k ys _ hx e1
    have t1 := h.cells (g := g) rfl _ _ q1
    have t2 := h.cells (g := g) rfl _ _ q2
    rw [add_none, Nat.zero_add] at t1 t2
    exact ⟨t1, a', n', c', t2, e2⟩

theorem its_all (f : Nat → List Int) (k : Nat) : (its f k).length ≤ k := its_len f k

/-- the texts of a text's pieces -/
noncomputable def itms (xs : List Int) : List (List Int) := its (cl xs) (cnt (Jn xs) xs.length)
theorem itms_len (xs : List Int) : (itms xs).length ≤ xs.length := Nat.le_trans (its_len _ _) (cnt_le _)

set_option maxRecDepth 100000 in
set_option maxHeartbeats 4000000 in
theorem cols_any (a : Option Addr) (n c : Nat) (xs : List Int) (w : World) (h : Runes w a n c xs) (hn : n ≤ 100000) :
    Calls Tryz.prog 27 #[.slice a n c] w fun e w' => e = .returned (.int .i64 (wsum (itms xs))) ∧ Below w.heap.size w w' := by
  have HIT := Lib.hid (items_any a n c xs w h hn)
  have hil : (itms xs).length ≤ 100000 := by have := itms_len xs; have := h.ints.1; omega
  clear h
  go_enter Tryz.func27, Tryz.ntmps27
  go_wp2_with fail
  refine HIT.out.mono ?_
  rintro e w1 ⟨v, rfl, hP, hb1⟩
  have hP : PItems w1 w.heap.size v (itms xs) := hP
  generalize hyy : itms xs = yss at *
  have HYY := Lib.hid hyy
  clear hyy
  obtain ⟨A1, C1, rfl⟩ := pitems_slice hP
  have HP := Lib.hid hP
  have HB := Lib.hid hb1
  have hs1 := hb1.size
  clear hP hb1 HIT
  generalize hm : yss.length = m at *
  have HM := Lib.hid hm
  clear hm
  go_wp2
  go_loopw [3, 9] (fun s i wr => ∃ k : Nat, k ≤ m ∧ i = .int .i64 k ∧ s = .int .i64 (wsum (yss.take k)) ∧ Hid (Below w1.heap.size w1 wr)) (fun _ i _ => m - (intOf i).toNat)
  case atStart => exact ⟨0, Nat.zero_le _, rfl, rfl, Below.refl _ _⟩
  case round =>
    obtain ⟨k, hk, rfl, rfl, H⟩ := hrel
    by_cases hlt : k < m
    · obtain ⟨ys, hy⟩ : ∃ ys, yss[k]? = some ys := ⟨_, List.getElem?_eq_getElem (by rw [HM.out]; exact hlt)⟩
      obtain ⟨g, rfl, _, hg, hat⟩ := pitems_at HP.out (by rw [HM.out]; omega)
      obtain ⟨p0, a', n', c', p1, _⟩ := hat k ys hy
      have p0 := (H.out.cell (p := ⟨g, k * 2, none⟩) hg).trans p0
      have p1 := (H.out.cell (p := ⟨g, k * 2 + 1, none⟩) hg).trans p1
      have hlt' : (k : Int) < m := by omega
      have hnx := Lib.hid (wsum_next yss k ys hy)
      have hbd := wsum_le (yss.take k)
      have hwd := width_one ys
      have htl : (yss.take k).length ≤ m := by rw [List.length_take, HM.out]; omega
      generalize wsum (yss.take k) = s0 at *
      generalize Cw.width ys = wd at *
      have x1 : IntKind.i64.wrap (s0 + wd) = s0 + wd := IntWalk.i64_in _ (by omega)
      obtain ⟨W2, hW2⟩ : ∃ W2, W2 = wr.alloc (.cells #[.int .i64 wd, .slice a' n' c'] 71) := ⟨_, rfl⟩
      have hnew : (wr.alloc (.cells #[.int .i64 0, .slice none 0 0] 71)).heap[wr.heap.size]? = some (.cells #[.int .i64 0, .slice none 0 0] 71 (0, 0)) := World.alloc_heap_new wr _
      have hrow : (wr.alloc (.cells #[.int .i64 0, .slice none 0 0] 71)).setRow wr.heap.size #[.int .i64 wd, .slice a' n' c'] = W2 := by rw [hW2]; exact World.setRow_alloc_new wr _ _ _
      have hc2 : W2.cell? ⟨wr.heap.size, 0, none⟩ = some (.int .i64 wd) := by
        have : W2.heap[wr.heap.size]? = some (.cells #[.int .i64 wd, .slice a' n' c'] 71 (0, 0)) := by rw [hW2]; exact World.alloc_heap_new wr _
        simp [World.cell?, this]
      have R : Hid (Below w1.heap.size w1 W2) := by rw [hW2]; exact Lib.hid (H.out.alloc H.out.size _)
      clear hat hy hbd hwd htl hW2 H
      go_wp2_with (refine wpList_store_row rfl 71 _ _ rfl wr.heap.size #[.int .i64 wd, .slice a' n' c'] rfl rfl _ _ hnew (size_item _ _) rfl (item_one _ _ _ _ _) ?_)
      go_roundw
      case rel => exact ⟨k + 1, by omega, by go_num, by rw [hnx.out], R⟩
      case measure => simp [intOf]; omega
    · obtain rfl : k = m := by omega
      have e1 : yss.take k = yss := List.take_of_length_le (by rw [HM.out]; exact Nat.le_refl _)
      rw [e1]
      clear e1 hlt
      go_wp2
      go_ret
      exact ⟨by rw [HYY.out]; rfl, HB.out.trans (H.out.mono hs1)⟩

set_option maxRecDepth 100000 in
set_option maxHeartbeats 1000000 in
theorem first_any (b off n c : Nat) (ys : List Int) (w : World) (hl : ys.length = n) (hb : b < w.heap.size) (hc : ∀ i x, ys[i]? = some x → w.cell? ⟨b, off + i, none⟩ = some (.int .i32 x)) (hn : n ≤ 100000) (hnc : n ≤ c) :
    Calls Tryz.prog 61 #[.slice (some ⟨b, off, none⟩) n c] w fun e w' => Fresh w w' 21 1 (ys.take 16).length ((ys.take 16).map (Value.int .i32)) e := by
  obtain ⟨i0, hi, hz0, hz1, hz2⟩ := info_parts info_i32
  generalize hN : (ys.take 16).length = N at *
  have hN' : N = min n 16 := by rw [← hN, List.length_take, hl]; omega
  have H1 : Hid (∀ j u, ((ys.take 16).map (Value.int .i32))[j]? = some u → (w.alloc (.cells #[] 21)).cell? ((⟨b, off, none⟩ : Addr).add j) = some u) := by
    refine Lib.hid fun j u hj => ?_
    rw [List.getElem?_map, Option.map_eq_some_iff] at hj
    obtain ⟨x, hx, rfl⟩ := hj
    rw [List.getElem?_take] at hx
    split at hx
    · rw [add_none, World.cell?_alloc_lt _ _ _ (by exact hb)]
      exact hc j x hx
    · cases hx
  have H2 : Hid (((ys.take 16).map (Value.int .i32)).length = N * 1) := by rw [List.length_map, hN]; exact Lib.hid (by omega)
  have H3 : Hid ((w.alloc (.cells #[] 21)).ownsRow w.heap.size 21 1 (.slice (some ⟨w.heap.size, 0, none⟩) 0 0) 0 []) := World.ownsRow_made w #[] 0 (Nat.le_refl _) (by unfold maxLen; omega) rfl
  have H4 : Hid (∀ u ∈ (ys.take 16).map (Value.int .i32), u.oneCell' = true) := Lib.hid (one_cells _ _)
  have hNs : N ≤ 16 := by omega
  clear hc hl
  generalize (ys.take 16).map (Value.int .i32) = cs at *
  by_cases h16 : 16 < n
  · obtain rfl : N = 16 := by omega
    have hi16 : (16 : Int) < n := by omega
    have hc16 : (16 : Int) ≤ c := by omega
    clear hN'
    go_enter Tryz.func61, Tryz.ntmps61
    go_wp2_with (at_builtin; refine wpList_append_own _ rfl _ _ 22 rfl w.heap.size 21 i0 _ 1 4 Tryz.underlying22 hi hz0 hz1 hz2 rfl (by decide) _ 0 _ rfl H3.out ⟨b, off, none⟩ 16 c cs rfl H2.out H1.out H4.out (by unfold maxLen; omega) (by omega) (by simp) ?_; intro v' w3 hown' hgrow _)
    go_ret
    refine ⟨v', rfl, ?_, ((Below.refl _ _).alloc (Nat.le_refl _) _).grown hgrow (by simp) (fun k e => by injection (show some w.heap.size = some k from e) with e; omega)⟩
    rw [Nat.zero_add, List.nil_append] at hown'
    exact hown'
  · obtain rfl : N = n := by omega
    have hi16 : ¬ (16 : Int) < N := by omega
    have hc16 : (N : Int) ≤ c := by omega
    clear hN' h16
    go_enter Tryz.func61, Tryz.ntmps61
    go_wp2_with (at_builtin; refine wpList_append_own _ rfl _ _ 22 rfl w.heap.size 21 i0 _ 1 4 Tryz.underlying22 hi hz0 hz1 hz2 rfl (by decide) _ 0 _ rfl H3.out ⟨b, off, none⟩ N c cs rfl H2.out H1.out H4.out (by unfold maxLen; omega) (by omega) (by simp) ?_; intro v' w3 hown' hgrow _)
    go_ret
    refine ⟨v', rfl, ?_, ((Below.refl _ _).alloc (Nat.le_refl _) _).grown hgrow (by simp) (fun k e => by injection (show some w.heap.size = some k from e) with e; omega)⟩
    rw [Nat.zero_add, List.nil_append] at hown'
    exact hown'

/-- how wide a cluster is shown -/
noncomputable def wideV (ys : List Int) : Int := if Basew.silentB (ys.getD 0 0) then 0 else Cw.width (ys.take 16)

set_option maxRecDepth 100000 in
set_option maxHeartbeats 1000000 in
theorem wide_ref (b off n c : Nat) (ys : List Int) (w : World) (hl : ys.length = n) (hb : b < w.heap.size) (hc : ∀ i x, ys[i]? = some x → w.cell? ⟨b, off + i, none⟩ = some (.int .i32 x)) (hr : R32 ys) (h0 : 0 < n) (hn : n ≤ 100000) (hnc : n ≤ c) :
    Calls Tryz.prog 45 #[.slice (some ⟨b, off, none⟩) n c] w fun e w' => e = .returned (.int .i64 (wideV ys)) ∧ Below w.heap.size w w' := by
  obtain ⟨x, hx⟩ : ∃ x, ys[0]? = some x := ⟨_, List.getElem?_eq_getElem (by omega)⟩
  have HX : Hid (ys.getD 0 0 = x) := by rw [List.getD_eq_getElem?_getD, hx]; exact Lib.hid rfl
  have hn' : (0 : Int) < n := by omega
  have hc0 := hc 0 x hx
  rw [Nat.add_zero] at hc0
  have HF := Lib.hid (first_any b off n c ys w hl hb hc hn hnc)
  have HRT := Lib.hid (r32_take hr 16)
  have HV : Hid (∀ s, Basew.silentB x = s → wideV ys = if s then 0 else Cw.width (ys.take 16)) := Lib.hid fun s hs => by unfold wideV; rw [HX.out, hs]
  clear hc hx hl
  generalize hzs : ys.take 16 = zs at *
  go_enter Tryz.func45, Tryz.ntmps45
  go_wp2_with fail
  refine (Basew.rsilent_any x w).mono ?_
  rintro e w1 ⟨rfl, rfl⟩
  rcases hs : Basew.silentB x with _ | _
  · have HS := Lib.hid hs
    clear hs
    go_wp2_with fail
    refine HF.out.mono ?_
    rintro e w1 ⟨v, rfl, ho, hb1⟩
    obtain ⟨A1, C1, rfl⟩ := own_slice ho
    have HO := Lib.hid ho
    have HB := Lib.hid hb1
    have hN : zs.length ≤ 100000 := by rw [← hzs, List.length_take]; omega
    clear ho hb1 HF hzs
    generalize hNN : zs.length = N at *
    go_wp2_with fail
    refine (Cw.ref_of A1 N C1 zs w1 (runes_own HO.out HRT.out) hN).mono ?_
    rintro e w2 ⟨rfl, hb2⟩
    have HB2 := Lib.hid (HB.out.trans (hb2.mono HB.out.size))
    have HVV := Lib.hid (HV.out false HS.out)
    clear hb2 HB HV
    generalize Cw.width zs = wd at *
    go_wp2
    go_ret
    exact ⟨by rw [HVV.out]; rfl, HB2.out⟩
  · have HS := Lib.hid hs
    clear hs
    go_wp2
    go_ret
    exact ⟨by rw [HV.out true HS.out]; rfl, Below.refl _ _⟩

end Go.Proofs.YtcbfmokafmagpaaGreat.Mea

namespace Go.Proofs.YtcbfmokafmagpaaGreat.Mea
set_option linter.unusedSimpArgs false
set_option linter.unusedVariables false
open Gra GraLaw

/-- the pieces of these clusters -/
noncomputable def pieces (cs : List (List Int)) : List (List Int) := (cs.filter shown).map (List.take 16)
theorem pieces_app (a b : List (List Int)) : pieces (a ++ b) = pieces a ++ pieces b := by simp [pieces]
theorem its_pieces (f : Nat → List Int) (k : Nat) : its f k = pieces ((List.range k).map f) := by
  induction k with
  | zero => rfl
  | succ k ih =>
    rw [List.range_succ, List.map_append, pieces_app, ← ih]
    simp only [its, pieces, List.map_cons, List.map_nil]
    cases h : shown (f k) <;> simp [h]
theorem itms_pieces (xs : List Int) : itms xs = pieces (cls xs) := its_pieces _ _
theorem itms_append (a b : List Int) (h : b = [] ∨ Jn (a ++ b) a.length = false) : itms (a ++ b) = itms a ++ itms b := by
  rw [itms_pieces, cls_append a b h, pieces_app, ← itms_pieces, ← itms_pieces]
theorem cls_take (xs : List Int) {k : Nat} (hk : k ≤ cnt (Jn xs) xs.length) : cls (xs.take (st (Jn xs) xs.length k)) = (cls xs).take k := by
  have hle := st_le hk
  have hlen : (xs.take (st (Jn xs) xs.length k)).length = st (Jn xs) xs.length k := by rw [List.length_take]; omega
  have hb : xs.drop (st (Jn xs) xs.length k) = [] ∨ Jn (xs.take (st (Jn xs) xs.length k) ++ xs.drop (st (Jn xs) xs.length k)) (xs.take (st (Jn xs) xs.length k)).length = false := by
    rw [List.take_append_drop, hlen]
    rcases Nat.lt_or_ge k (cnt (Jn xs) xs.length) with h | h
    · exact .inr (J_st h)
    · left
      have : k = cnt (Jn xs) xs.length := by omega
      subst this
      rw [st_cnt]; simp
  have e := cls_append _ _ hb
  rw [List.take_append_drop] at e
  have hc : (cls (xs.take (st (Jn xs) xs.length k))).length = k := by
    have h1 : cnt (Jn (xs.take (st (Jn xs) xs.length k))) (st (Jn xs) xs.length k) = cnt (Jn xs) (st (Jn xs) xs.length k) := by
      unfold cnt
      congr 1
      refine starts_congr fun i hi => ?_
      refine Jn_congr fun j hj => ?_
      unfold props
      rw [List.getD_eq_getElem?_getD, List.getD_eq_getElem?_getD, List.getElem?_take_of_lt (by omega)]
    simp only [cls, List.length_map, List.length_range]
    rw [hlen, h1, cnt_st hk]
  rw [e]
  exact (List.take_left' hc).symm
theorem its_take (xs : List Int) {k : Nat} (hk : k ≤ cnt (Jn xs) xs.length) : itms (xs.take (st (Jn xs) xs.length k)) = its (cl xs) k := by
  rw [itms_pieces, cls_take xs hk, its_pieces]
  congr 1
  unfold cls
  rw [← List.map_take, List.take_range, Nat.min_eq_left hk]
theorem wsum_its (f : Nat → List Int) (k : Nat) : wsum (its f (k + 1)) = wsum (its f k) + wideV (f k) := by
  unfold wideV
  cases h : Basew.silentB ((f k).getD 0 0)
  · rw [its_yes h, wsum_app]; simp [wsum]
  · rw [its_no h]; simp

/-- the beginning that Head finds: k clusters -/
def HeadP (xs : List Int) (w : Int) (k : Nat) : Prop :=
  k ≤ cnt (Jn xs) xs.length ∧ wsum (its (cl xs) k) ≤ w ∧ (k = cnt (Jn xs) xs.length ∨ w < wsum (its (cl xs) (k + 1)))

end Go.Proofs.YtcbfmokafmagpaaGreat.Mea

namespace Go.Proofs.YtcbfmokafmagpaaGreat.Mea
set_option linter.unusedSimpArgs false
set_option linter.unusedVariables false
open Go Go.RowKit Go.Shelf Mem Seg Turn Gra Clu Same GraLaw
attribute [local go_sem] Oper.semAt_some

/-- what a round of Head keeps -/
def HdI (x : Int) (w : World) (xs : List Int) (k : Nat) (W : World) : Prop :=
  Boxed W w.heap.size 3 (.int .i64 x) ∧ Boxed W (w.heap.size + 1) 3 (.int .i64 (st (Jn xs) xs.length k)) ∧ Boxed W (w.heap.size + 2) 3 (.int .i64 (wsum (its (cl xs) k))) ∧ Below w.heap.size w W ∧ wsum (its (cl xs) k) ≤ x

theorem hd_own {x : Int} {w : World} {xs : List Int} {k B : Nat} {X Y : World} (h : HdI x w xs k X) (ht : Turn (Own3 B) X Y) (hB : w.heap.size + 3 ≤ B) : HdI x w xs k Y := by
  obtain ⟨h1, h2, h3, h4, h5⟩ := h
  exact ⟨ht.boxed h1 (fun h => by have := h.1; omega), ht.boxed h2 (fun h => by have := h.1; omega), ht.boxed h3 (fun h => by have := h.1; omega), h4.trans (ht.below h4.size (fun j hj => by have := hj.1; omega)), h5⟩

theorem piece_one {xs : List Int} {w w' : World} {e : Ending} (h : PieceP xs w e w') : ∃ A N C ok, e = .returned (.tuple #[.agg #[.int .i64 (wideV xs), .slice A N C], .bool ok]) ∧ Below w.heap.size w w' := by
  obtain ⟨hB, ⟨hs, rfl⟩ | ⟨hs, A1, C1, rfl, _⟩⟩ := h
  · exact ⟨none, 0, 0, false, by unfold wideV; rw [hs]; rfl, hB⟩
  · exact ⟨A1, _, C1, true, by unfold wideV; rw [hs]; rfl, hB⟩
theorem wideV_bd (xs : List Int) : 0 ≤ wideV xs ∧ wideV xs ≤ 2 := by
  unfold wideV
  have := width_one (xs.take 16)
  split <;> omega

def RetH (xs : List Int) (x : Int) (w : World) (e : Ending) (w' : World) : Prop :=
  ∃ k, e = .returned (.tuple #[.int .i64 (st (Jn xs) xs.length k), .int .i64 (wsum (its (cl xs) k))]) ∧ HeadP xs x k ∧ Below w.heap.size w w'

set_option maxRecDepth 100000 in
set_option maxHeartbeats 4000000 in
theorem head_any (a : Option Addr) (n c : Nat) (xs : List Int) (w : World) (h : Runes w a n c xs) (hn : n ≤ 100000) (x : Int) (hx1 : 0 ≤ x) (hx2 : x ≤ 9223372036854775807) :
    Calls Tryz.prog 31 #[.slice a n c, .int .i64 x] w (RetH xs x w) := by
  obtain ⟨b, off, hab, hG⟩ := gives_any h
  have hlen := h.ints.1
  have HG := Lib.hid hG
  have HL := Lib.hid hlen
  have HA := Lib.hid hab
  have HR := Lib.hid h.r32
  have d0 : decide (x < 0) = false := by simp; omega
  clear hab hG h hlen
  refine (callsIn_wide (n := 6)).1 ?_
  refine callsIn_of_wp_marks Tryz.func31 rfl trivial ?_ rfl
  simp only [Tryz.ntmps31, List.size_toArray, List.length_cons, List.length_nil, Nat.reduceAdd, Nat.reduceSub, Array.replicate_succ, Array.replicate_zero, List.push_toArray, List.append_toArray, List.nil_append, List.cons_append]
  gi_wp2_with fail
  refine ⟨trivial, callsIn_wide.2 ?_⟩
  refine (all_any _ _ _ _).mono ?_
  rintro e w1 ⟨rfl, rfl⟩
  gi_wp2_with fail
  have X1 := ((((Boxed.new w 3 (.int .i64 x)).alloc (.cells #[.int .i64 0] 3)).alloc (.cells #[.int .i64 0] 3)).alloc (.cells #[.slice a n c] 22))
  have X2 := (((Boxed.new (w.alloc (.cells #[.int .i64 x] 3)) 3 (.int .i64 0)).alloc (.cells #[.int .i64 0] 3)).alloc (.cells #[.slice a n c] 22))
  have X3 := ((Boxed.new ((w.alloc (.cells #[.int .i64 x] 3)).alloc (.cells #[.int .i64 0] 3)) 3 (.int .i64 0)).alloc (.cells #[.slice a n c] 22))
  have X4 := Boxed.new (((w.alloc (.cells #[.int .i64 x] 3)).alloc (.cells #[.int .i64 0] 3)).alloc (.cells #[.int .i64 0] 3)) 22 (.slice a n c)
  have z1 : (w.alloc (.cells #[.int .i64 x] 3)).heap.size = w.heap.size + 1 := by simp
  have z2 : ((w.alloc (.cells #[.int .i64 x] 3)).alloc (.cells #[.int .i64 0] 3)).heap.size = w.heap.size + 2 := by simp
  have z3 : (((w.alloc (.cells #[.int .i64 x] 3)).alloc (.cells #[.int .i64 0] 3)).alloc (.cells #[.int .i64 0] 3)).heap.size = w.heap.size + 3 := by simp
  have z4 : ((((w.alloc (.cells #[.int .i64 x] 3)).alloc (.cells #[.int .i64 0] 3)).alloc (.cells #[.int .i64 0] 3)).alloc (.cells #[.slice a n c] 22)).heap.size = w.heap.size + 4 := by simp
  have hbw : Below w.heap.size w ((((w.alloc (.cells #[.int .i64 x] 3)).alloc (.cells #[.int .i64 0] 3)).alloc (.cells #[.int .i64 0] 3)).alloc (.cells #[.slice a n c] 22)) := ((((Below.refl _ _).alloc (Nat.le_refl _) _).alloc (by simp) _).alloc (by simp; omega) _).alloc (by simp; omega) _
  rw [z1] at X2
  rw [z2] at X3
  rw [z3] at X4
  clear z1 z2 z3
  generalize ((((w.alloc (.cells #[.int .i64 x] 3)).alloc (.cells #[.int .i64 0] 3)).alloc (.cells #[.int .i64 0] 3)).alloc (.cells #[.slice a n c] 22)) = w2 at *
  refine wpIn_range (gf := 55) (lb := #[.pointer (some ⟨w.heap.size + 3, 0, none⟩)]) rfl (enters_of Tryz.func55 (by kernel_rfl) rfl)
    (HG.out (w.heap.size + 3) w.heap.size w2 (Nat.le_refl _) (by omega) hbw (by omega) X4.cell) (Below.refl _ _) (by omega) (by omega) (fun _ => rfl)
    (HdI x w xs)
    (fun c k W => c = .exit 0 ∧ HdI x w xs k W ∧ x < wsum (its (cl xs) (k + 1))) ?hI ?hIx ?h0
    (fun k => { tmps := #[.slice a n c, .int .i64 x, undef, .pointer (some ⟨w.heap.size, 0, none⟩), .pointer (some ⟨w.heap.size + 1, 0, none⟩), .pointer (some ⟨w.heap.size + 2, 0, none⟩), .int .i64 (st (Jn xs) xs.length k), pieceV xs b off k, undef, undef, .int .i64 x, .bool false, .slice a n c, .func (.func 55) #[] #[.pointer (some ⟨w.heap.size + 3, 0, none⟩)], .int .i64 (st (Jn xs) xs.length k), pieceV xs b off k, undef, undef, undef, undef, undef, undef, undef, undef, undef, undef, undef, undef, undef, undef, undef, undef, undef, undef, undef, undef, undef], defers := [] }) ?assign ?body ?done ?stop
  case hI => exact fun k X Y h ht => hd_own h ht (by omega)
  case hIx => rintro c k X Y ⟨h1, h2, h3⟩ ht; exact ⟨h1, hd_own h2 ht (by omega), h3⟩
  case h0 =>
    refine ⟨X1, ?_, X3, hbw, hx1⟩
    rw [st_zero (Jn_zero xs)]
    exact X2
  case assign =>
    intro l k W K hK
    unfold piece
    gi_wp2
    exact hK
  case body =>
    rintro l k W hk ⟨h1, h2, h3, h4, h5⟩ hsz
    have hyl := cl_len xs hk
    have hmo := st_mono (J := Jn xs) (n := xs.length) (j := k) (k := k + 1) (by omega) hk
    have hle := st_le (J := Jn xs) (n := xs.length) (k := k + 1) hk
    have hkn : k < n := by have := cnt_le (J := Jn xs) xs.length; have h9 := HL.out; omega
    have HYR := Lib.hid (cl_r32 HR.out k)
    have hbb := (HA.out (by omega)).2.1
    have HYI : Hid (∀ (i : Nat) (x : Int), (cl xs k)[i]? = some x → W.cell? ⟨b, off + st (Jn xs) xs.length k + i, none⟩ = some (.int .i32 x)) := by
      refine Lib.hid fun i x hx => ?_
      have hx' : xs[st (Jn xs) xs.length k + i]? = some x := by
        unfold cl at hx
        rw [List.getElem?_take] at hx
        split at hx
        · rwa [List.getElem?_drop] at hx
        · cases hx
      have := (h4.cell (p := ⟨b, off + (st (Jn xs) xs.length k + i), none⟩) hbb).trans ((HA.out (by omega)).2.2 _ _ hx')
      rw [Nat.add_assoc]
      exact this
    have hmn : st (Jn xs) xs.length (k + 1) - st (Jn xs) xs.length k ≤ 100000 := by have h9 := HL.out; omega
    have hm0 : 0 < st (Jn xs) xs.length (k + 1) - st (Jn xs) xs.length k := by omega
    have hsm : Hid (st (Jn xs) xs.length (k + 1) = st (Jn xs) xs.length k + (st (Jn xs) xs.length (k + 1) - st (Jn xs) xs.length k)) := Lib.hid (by omega)
    have hs0n : st (Jn xs) xs.length k ≤ 100000 := by have h9 := HL.out; omega
    have HU := Lib.hid (wsum_its (cl xs) k)
    have hub := wsum_le (its (cl xs) k)
    have hil := its_len (cl xs) k
    have hwv := wideV_bd (cl xs k)
    have H1 := Lib.hid h1
    have H2 := Lib.hid h2
    have H3 := Lib.hid h3
    have H4 := Lib.hid h4
    unfold pieceV
    clear hle hmo
    have HDI : Hid (∀ W', Boxed W' w.heap.size 3 (.int .i64 x) → Boxed W' (w.heap.size + 1) 3 (.int .i64 (st (Jn xs) xs.length (k + 1))) → Boxed W' (w.heap.size + 2) 3 (.int .i64 (wsum (its (cl xs) (k + 1)))) → Below w.heap.size w W' → wsum (its (cl xs) (k + 1)) ≤ x → HdI x w xs (k + 1) W') := Lib.hid fun W' a1 a2 a3 a4 a5 => ⟨a1, a2, a3, a4, a5⟩
    have HDS : Hid (∀ W', Boxed W' w.heap.size 3 (.int .i64 x) → Boxed W' (w.heap.size + 1) 3 (.int .i64 (st (Jn xs) xs.length k)) → Boxed W' (w.heap.size + 2) 3 (.int .i64 (wsum (its (cl xs) k))) → Below w.heap.size w W' → HdI x w xs k W') := Lib.hid fun W' a1 a2 a3 a4 => ⟨a1, a2, a3, a4, h5⟩
    generalize hys : cl xs k = ys at *
    generalize hmm : st (Jn xs) xs.length (k + 1) - st (Jn xs) xs.length k = m at *
    generalize hs1 : st (Jn xs) xs.length (k + 1) = s1 at *
    generalize hss : st (Jn xs) xs.length k = s0 at *
    generalize hu1 : wsum (its (cl xs) (k + 1)) = u1 at *
    generalize hu0 : wsum (its (cl xs) k) = u0 at *
    have HU1 := Lib.hid hu1
    clear hmm hss hs1 hu1 hu0 h1 h2 h3 h4 hys
    have HYI2 : Hid (Ints .i32 W (some ⟨b, off + s0, none⟩) m ys) := ⟨hyl, .inr ⟨b, off + s0, rfl, Nat.lt_of_lt_of_le hbb H4.out.size, HYI.out⟩⟩
    gi_wp2_with fail
    refine ⟨trivial, CallsIn.inRound l (callsIn_wide.2 ?_)⟩
    refine (piece_any (some ⟨b, off + s0, none⟩) m m ys W HYI2.out HYR.out hm0 hmn).mono ?_
    rintro e W1 hpp
    obtain ⟨A1, N, C1, ok, rfl, hB1⟩ := piece_one hpp
    generalize wideV ys = wd at *
    have hW := hB1.size
    obtain ⟨W2, hW2⟩ : ∃ W2, W2 = W1.alloc (.cells #[.int .i64 wd, .slice A1 N C1] 71) := ⟨_, rfl⟩
    have hnew : (W1.alloc (.cells #[.int .i64 0, .slice none 0 0] 71)).heap[W1.heap.size]? = some (.cells #[.int .i64 0, .slice none 0 0] 71 (0, 0)) := World.alloc_heap_new W1 _
    have hrow : (W1.alloc (.cells #[.int .i64 0, .slice none 0 0] 71)).setRow W1.heap.size #[.int .i64 wd, .slice A1 N C1] = W2 := by rw [hW2]; exact World.setRow_alloc_new W1 _ _ _
    have hc2 : W2.cell? ⟨W1.heap.size, 0, none⟩ = some (.int .i64 wd) := by
      have : W2.heap[W1.heap.size]? = some (.cells #[.int .i64 wd, .slice A1 N C1] 71 (0, 0)) := by rw [hW2]; exact World.alloc_heap_new W1 _
      simp [World.cell?, this]
    have hBW : Below W.heap.size W W2 := by rw [hW2]; exact hB1.alloc hW _
    have HT : Hid (Turn (fun _ => False) W W2) := Turn.of_new hBW
    have HTR : Hid (Turn (Rnd w.heap.size (w.heap.size + 3) w2.heap.size) W W2) := Turn.of_new hBW
    have X1 := HT.out.boxed H1.out id
    have X2 := HT.out.boxed H2.out id
    have X3 := HT.out.boxed H3.out id
    have HB2 := Lib.hid (H4.out.trans (hBW.mono H4.out.size))
    have q1 := X1.cell
    have q2 := X2.cell
    have q3 := X3.cell
    have g2 := X2.frozen
    have g3 := X3.frozen
    have x1 : IntKind.i64.wrap (x - u0) = x - u0 := IntWalk.i64_in _ (by omega)
    have x2 : IntKind.i64.wrap (u0 + wd) = u0 + wd := IntWalk.i64_in _ (by omega)
    have x3 : IntKind.i64.wrap ((s0 : Int) + m) = (s0 : Int) + m := IntWalk.i64_in _ (by omega)
    clear hW2 hBW hpp hB1 HYI HYI2 HYR
    by_cases hbr : x - u0 < wd
    · have d1 : decide (x - u0 < wd) = true := by simp; omega
      gi_wp2_with (refine wpListIn_of_plain rfl (by intro c h; cases h) fun K hK => ?_; refine wp_store_row 71 _ _ rfl W1.heap.size #[.int .i64 wd, .slice A1 N C1] rfl rfl _ _ hnew (size_item _ _) rfl (item_one _ _ _ _ _) (hK _ _ ?_))
      show Turn _ _ _ ∧ _
      refine ⟨HTR.out, rfl, HDS.out W2 X1 X2 X3 HB2.out, ?_⟩
      rw [HU1.out, HU.out]; omega
    · have d1 : decide (x - u0 < wd) = false := by simp; omega
      gi_wp2_with (refine wpListIn_of_plain rfl (by intro c h; cases h) fun K hK => ?_; refine wp_store_row 71 _ _ rfl W1.heap.size #[.int .i64 wd, .slice A1 N C1] rfl rfl _ _ hnew (size_item _ _) rfl (item_one _ _ _ _ _) (hK _ _ ?_))
      have e1 : (.int .i64 ((s0 : Int) + m) : Value) = .int .i64 (s1 : Int) := by rw [hsm.out]; simp
      have e2 : (.int .i64 (u0 + wd) : Value) = .int .i64 u1 := by rw [HU.out]
      show Turn _ _ _ ∧ HdI x w xs (k + 1) _
      rw [e1, e2]
      have Y1 := (Turn.setCell (T := fun j => j = w.heap.size + 1) (p := ⟨w.heap.size + 1, 0, none⟩) (W2.setCell ⟨w.heap.size + 2, 0, none⟩ (.int .i64 u1)) (.int .i64 (s1 : Int)) rfl).boxed ((Turn.setCell (T := fun j => j = w.heap.size + 2) (p := ⟨w.heap.size + 2, 0, none⟩) W2 (.int .i64 u1) rfl).boxed X1 (by omega)) (by omega)
      have Y2 := ((Turn.setCell (T := fun j => j = w.heap.size + 2) (p := ⟨w.heap.size + 2, 0, none⟩) W2 (.int .i64 u1) rfl).boxed X2 (by omega)).set (.int .i64 (s1 : Int))
      have Y3 := (Turn.setCell (T := fun j => j = w.heap.size + 1) (p := ⟨w.heap.size + 1, 0, none⟩) (W2.setCell ⟨w.heap.size + 2, 0, none⟩ (.int .i64 u1)) (.int .i64 (s1 : Int)) rfl).boxed (X3.set (.int .i64 u1)) (by omega)
      have T2 : Turn (fun j => w.heap.size + 1 ≤ j) W2 ((W2.setCell ⟨w.heap.size + 2, 0, none⟩ (.int .i64 u1)).setCell ⟨w.heap.size + 1, 0, none⟩ (.int .i64 (s1 : Int))) :=
        (Turn.setCell (p := ⟨w.heap.size + 2, 0, none⟩) _ _ (by show w.heap.size + 1 ≤ w.heap.size + 2; omega)).trans (Turn.setCell (p := ⟨w.heap.size + 1, 0, none⟩) _ _ (Nat.le_refl _))
      refine ⟨(HTR.out.trans (Turn.setCell (p := ⟨w.heap.size + 2, 0, none⟩) _ _ ⟨by show w.heap.size ≤ w.heap.size + 2; omega, by show w.heap.size + 2 ≠ w.heap.size + 3; omega, .inl (by show w.heap.size + 2 < w2.heap.size; omega)⟩)).trans (Turn.setCell (p := ⟨w.heap.size + 1, 0, none⟩) _ _ ⟨by show w.heap.size ≤ w.heap.size + 1; omega, by show w.heap.size + 1 ≠ w.heap.size + 3; omega, .inl (by show w.heap.size + 1 < w2.heap.size; omega)⟩), ?_⟩
      exact HDI.out _ Y1 Y2 Y3 (HB2.out.trans (T2.below HB2.out.size (fun j hj => by omega))) (by rw [HU.out]; omega)
  case done =>
    rintro W ⟨h1, h2, h3, h4, h5⟩ hK
    have HH5 : Hid (HeadP xs x (cnt (Jn xs) xs.length)) := ⟨Nat.le_refl _, h5, .inl rfl⟩
    generalize hs : st (Jn xs) xs.length (cnt (Jn xs) xs.length) = s at *
    generalize hu : wsum (its (cl xs) (cnt (Jn xs) xs.length)) = u at *
    have c2 := h2.cell
    have c3 := h3.cell
    have f2 := h2.frozen
    have f3 := h3.frozen
    have HK := Lib.hid hK
    clear hK
    gi_wp2
    refine wpIn_wide.2 ?_
    go_region
    have T : Turn (fun j => j = w.heap.size + 1 ∨ j = w.heap.size + 1 + 1) W ((W.setCell ⟨w.heap.size + 1, 0, none⟩ (.int .i64 (s : Int))).setCell ⟨w.heap.size + 1 + 1, 0, none⟩ (.int .i64 u)).drew := ((Turn.setCell (p := ⟨w.heap.size + 1, 0, none⟩) W (.int .i64 (s : Int)) (.inl rfl)).trans (Turn.setCell (p := ⟨w.heap.size + 1 + 1, 0, none⟩) _ (.int .i64 u) (.inr rfl))).trans (Turn.of_new ((Below.refl _ _).drew))
    have x2 : Boxed ((W.setCell ⟨w.heap.size + 1, 0, none⟩ (.int .i64 (s : Int))).setCell ⟨w.heap.size + 1 + 1, 0, none⟩ (.int .i64 u)).drew (w.heap.size + 1) 3 (.int .i64 (s : Int)) := (Turn.setCell (T := fun j => j = w.heap.size + 1 + 1) (p := ⟨w.heap.size + 1 + 1, 0, none⟩) _ (.int .i64 u) rfl).boxed (h2.set (.int .i64 (s : Int))) (by omega)
    have x3 : Boxed ((W.setCell ⟨w.heap.size + 1, 0, none⟩ (.int .i64 (s : Int))).setCell ⟨w.heap.size + 1 + 1, 0, none⟩ (.int .i64 u)).drew (w.heap.size + 1 + 1) 3 (.int .i64 u) := ((Turn.setCell (T := fun j => j = w.heap.size + 1) (p := ⟨w.heap.size + 1, 0, none⟩) W (.int .i64 (s : Int)) rfl).boxed h3 (by omega)).set _
    have hK8 := T.heap HK.out (by omega)
    have HB8 := h4.trans (T.below h4.size (fun j hj => by omega))
    clear T c2 c3 f2 f3 h1 h2 h3 h4
    generalize ((W.setCell ⟨w.heap.size + 1, 0, none⟩ (.int .i64 (s : Int))).setCell ⟨w.heap.size + 1 + 1, 0, none⟩ (.int .i64 u)).drew = wz at *
    gi_wp2
    refine ⟨by simp, .inl ⟨_, _, rfl, run_takeDeferred hK8, ?_⟩⟩
    have c7 := ((Turn.putObj (T := fun j => j = w2.heap.size) wz w2.heap.size (.deferred none) rfl).boxed x2 (by omega)).cell
    have c8 := ((Turn.putObj (T := fun j => j = w2.heap.size) wz w2.heap.size (.deferred none) rfl).boxed x3 (by omega)).cell
    refine ⟨.tuple #[.int .i64 (s : Int), .int .i64 u], ?_, _, by rw [hs, hu], HH5.out, below_shut HB8 (Nat.le_refl _) (by omega) _⟩
    simp [results, Tryz.f31, go_sem, c7, c8]
  case stop =>
    rintro cc k W hk ⟨rfl, ⟨h1, h2, h3, h4, h5⟩, h6⟩ hK
    have HH5 : Hid (HeadP xs x k) := ⟨Nat.le_of_lt hk, h5, .inr h6⟩
    generalize hs : st (Jn xs) xs.length k = s at *
    generalize hu : wsum (its (cl xs) k) = u at *
    have c2 := h2.cell
    have c3 := h3.cell
    have f2 := h2.frozen
    have f3 := h3.frozen
    have HK := Lib.hid hK
    clear hK h6
    gi_wp2
    refine wpIn_wide.2 ?_
    go_region
    have T : Turn (fun j => j = w.heap.size + 1 ∨ j = w.heap.size + 1 + 1) W ((W.setCell ⟨w.heap.size + 1, 0, none⟩ (.int .i64 (s : Int))).setCell ⟨w.heap.size + 1 + 1, 0, none⟩ (.int .i64 u)).drew := ((Turn.setCell (p := ⟨w.heap.size + 1, 0, none⟩) W (.int .i64 (s : Int)) (.inl rfl)).trans (Turn.setCell (p := ⟨w.heap.size + 1 + 1, 0, none⟩) _ (.int .i64 u) (.inr rfl))).trans (Turn.of_new ((Below.refl _ _).drew))
    have x2 : Boxed ((W.setCell ⟨w.heap.size + 1, 0, none⟩ (.int .i64 (s : Int))).setCell ⟨w.heap.size + 1 + 1, 0, none⟩ (.int .i64 u)).drew (w.heap.size + 1) 3 (.int .i64 (s : Int)) := (Turn.setCell (T := fun j => j = w.heap.size + 1 + 1) (p := ⟨w.heap.size + 1 + 1, 0, none⟩) _ (.int .i64 u) rfl).boxed (h2.set (.int .i64 (s : Int))) (by omega)
    have x3 : Boxed ((W.setCell ⟨w.heap.size + 1, 0, none⟩ (.int .i64 (s : Int))).setCell ⟨w.heap.size + 1 + 1, 0, none⟩ (.int .i64 u)).drew (w.heap.size + 1 + 1) 3 (.int .i64 u) := ((Turn.setCell (T := fun j => j = w.heap.size + 1) (p := ⟨w.heap.size + 1, 0, none⟩) W (.int .i64 (s : Int)) rfl).boxed h3 (by omega)).set _
    have hK8 := T.heap HK.out (by omega)
    have HB8 := h4.trans (T.below h4.size (fun j hj => by omega))
    clear T c2 c3 f2 f3 h1 h2 h3 h4
    generalize ((W.setCell ⟨w.heap.size + 1, 0, none⟩ (.int .i64 (s : Int))).setCell ⟨w.heap.size + 1 + 1, 0, none⟩ (.int .i64 u)).drew = wz at *
    gi_wp2
    refine ⟨by simp, .inl ⟨_, _, rfl, run_takeDeferred hK8, ?_⟩⟩
    have c7 := ((Turn.putObj (T := fun j => j = w2.heap.size) wz w2.heap.size (.deferred none) rfl).boxed x2 (by omega)).cell
    have c8 := ((Turn.putObj (T := fun j => j = w2.heap.size) wz w2.heap.size (.deferred none) rfl).boxed x3 (by omega)).cell
    refine ⟨.tuple #[.int .i64 (s : Int), .int .i64 u], ?_, _, by rw [hs, hu], HH5.out, below_shut HB8 (Nat.le_refl _) (by omega) _⟩
    simp [results, Tryz.f31, go_sem, c7, c8]

end Go.Proofs.YtcbfmokafmagpaaGreat.Mea

namespace Go.Proofs.YtcbfmokafmagpaaGreat.Mea
set_option linter.unusedSimpArgs false
set_option linter.unusedVariables false
open Go Go.RowKit Mem Seg Turn Gra Clu Same GraLaw

theorem lists_slice {w : World} {base : Nat} {v : Value} {xss : List (List Int)} (h : Lists w base v xss) : ∃ a c, v = .slice a xss.length c := by
  obtain ⟨vs, _, h, _⟩ := h
  exact own_slice h

theorem lists_own {w : World} {base : Nat} {a : Option Addr} {n c : Nat} {xss : List (List Int)} (h : Lists w base (.slice a n c) xss) (hn : 0 < xss.length) :
    ∃ g, a = some ⟨g, 0, none⟩ ∧ g < w.heap.size ∧ ∀ (k : Nat) (xs : List Int), xss[k]? = some xs → ∃ a' n' c', w.cell? ⟨g, k, none⟩ = some (.slice a' n' c') ∧ w.ownsRow base 21 1 (.slice a' n' c') n' (xs.map (Value.int .i32)) := by
  obtain ⟨vs, hl, h, hv⟩ := h
  rcases h.2 with ⟨_, h0⟩ | ⟨g, cap, cur, h1, h2, h3, _⟩
  · omega
  · injection h1 with h1 _
    subst h1
    refine ⟨g, rfl, (Array.getElem?_eq_some_iff.1 h3).1, fun k xs hx => ?_⟩
    obtain ⟨a', n', c', e1, e2⟩ := hv k xs hx
    have := h.cells (g := g) rfl k _ e1
    rw [add_none, Nat.zero_add] at this
    exact ⟨a', n', c', this, e2⟩

set_option maxRecDepth 100000 in
set_option maxHeartbeats 4000000 in
theorem items_ref (a : Option Addr) (n c : Nat) (xs : List Int) (w : World) (h : Runes w a n c xs) (hn : n ≤ 100000) :
    Calls Tryz.prog 48 #[.slice a n c] w fun e w' => ∃ v, e = .returned v ∧ PItems w' w.heap.size v (itms xs) ∧ Below w.heap.size w w' := by
  obtain ⟨i0, hi, hz0, hz1, hz2⟩ := info_parts info_item
  have HC := Lib.hid (clusters_ref a n c xs w h hn)
  have HL := Lib.hid h.ints.1
  have HR := Lib.hid h.r32
  clear h
  go_enter Tryz.func48, Tryz.ntmps48
  go_wp2_with fail
  refine HC.out.mono ?_
  rintro e w1 ⟨v, rfl, hl, hb1⟩
  obtain ⟨A1, C1, rfl⟩ := lists_slice hl
  have HLS := Lib.hid hl
  have HB := Lib.hid hb1
  have hs1 := hb1.size
  have hcl : (cls xs).length = cnt (Jn xs) xs.length := by simp [cls]
  rw [hcl]
  have hcn : cnt (Jn xs) xs.length ≤ 100000 := by have := cnt_le (J := Jn xs) xs.length; have h9 := HL.out; omega
  clear hl hb1 HC
  generalize hm : cnt (Jn xs) xs.length = m at *
  have HM := Lib.hid hm
  have HIT : Hid (itms xs = its (cl xs) m) := by unfold itms; rw [HM.out]; exact Lib.hid rfl
  clear hm
  have HCL := Lib.hid hcl
  clear hcl
  go_wp2
  go_loopw [3, 5] (fun v i wr => ∃ k : Nat, k ≤ m ∧ i = .int .i64 k ∧ Hid (PItems wr w1.heap.size v (its (cl xs) k) ∧ Below w1.heap.size w1 wr)) (fun _ i _ => m - (intOf i).toNat)
  case atStart => exact ⟨0, Nat.zero_le _, rfl, ⟨[], rfl, World.ownsRow_nil _ _ _ _, fun i ys hi => by simp [its] at hi⟩, Below.refl _ _⟩
  case round =>
    obtain ⟨k, hk, rfl, H⟩ := hrel
    by_cases hlt : k < m
    · have hyk : (cls xs)[k]? = some (cl xs k) := by
        simp only [cls, List.getElem?_map]
        rw [List.getElem?_range (by rw [HM.out]; exact hlt)]
        rfl
      obtain ⟨g, rfl, hg, hat⟩ := lists_own HLS.out (by rw [HCL.out]; omega)
      obtain ⟨a', n', c', q1, q2⟩ := hat k _ hyk
      have hyl := cl_len xs (k := k) (by rw [HM.out]; exact hlt)
      have hmo := st_mono (J := Jn xs) (n := xs.length) (j := k) (k := k + 1) (by omega) (by rw [HM.out]; exact hlt)
      have hle := st_le (J := Jn xs) (n := xs.length) (k := k + 1) (by rw [HM.out]; exact hlt)
      have hRu := runes_own q2 (cl_r32 HR.out k)
      have hn' : n' = (cl xs k).length := hRu.ints.1.symm
      have hn0 : 0 < n' := by omega
      have hn1 : n' ≤ 100000 := by have h9 := HL.out; omega
      have hnc := hRu.le
      have HRY := Lib.hid (cl_r32 HR.out k)
      have hlt' : (k : Int) < m := by omega
      have HYes := Lib.hid (its_yes (f := cl xs) (k := k))
      have HNo := Lib.hid (its_no (f := cl xs) (k := k))
      have hil := its_len (cl xs) k
      obtain ⟨hIl, h0 | ⟨b, off, rfl, hb, hc⟩⟩ := hRu.ints
      · omega
      have hcx := (H.out.2.cell (p := ⟨g, k, none⟩) hg).trans q1
      have HCC : Hid (∀ W, Below w1.heap.size w1 W → b < W.heap.size ∧ ∀ i x, (cl xs k)[i]? = some x → W.cell? ⟨b, off + i, none⟩ = some (.int .i32 x)) :=
        Lib.hid fun W hW => ⟨Nat.lt_of_lt_of_le hb hW.size, fun i x hx => (hW.cell (p := ⟨b, off + i, none⟩) hb).trans (hc i x hx)⟩
      have HIL := Lib.hid hIl
      have HQ1 := Lib.hid q1
      clear hyk hat q1 q2 hyl hmo hle hRu hc hn' hIl
      generalize hI1 : its (cl xs) (k + 1) = I1 at *
      generalize hI0 : its (cl xs) k = I0 at *
      generalize hys : cl xs k = ys at *
      have HI1 := Lib.hid hI1
      clear hI1 hI0 hys
      obtain ⟨Av, Cv, rfl⟩ := pitems_slice H.out.1
      go_wp2_with fail
      refine (wide_ref b off n' c' ys wr HIL.out (HCC.out _ H.out.2).1 (HCC.out _ H.out.2).2 HRY.out hn0 hn1 hnc).mono ?_
      rintro e w2 ⟨rfl, hb2⟩
      have HB2 := Lib.hid (H.out.2.trans (hb2.mono H.out.2.size))
      have HP2 : Hid (PItems w2 w1.heap.size (.slice Av I0.length Cv) I0) := by
        obtain ⟨vs, p1, p2, p3⟩ := H.out.1
        have T : Turn (fun _ => False) wr w2 := Turn.of_new hb2
        refine Lib.hid ⟨vs, p1, T.kept p2 (fun _ _ => id), fun i zs hz => ?_⟩
        obtain ⟨a, n, c, e1, e2⟩ := p3 i zs hz
        exact ⟨a, n, c, e1, T.kept e2 (fun _ _ => id)⟩
      have hcx2 := (hb2.cell (p := ⟨g, k, none⟩) (Nat.lt_of_lt_of_le hg H.out.2.size)).trans hcx
      clear hb2 hcx H
      rcases hsb : Basew.silentB (ys.getD 0 0) with _ | _
      · have hwv : wideV ys = Cw.width (ys.take 16) := by unfold wideV; rw [hsb]; rfl
        have HSB := Lib.hid hsb
        rw [hwv]
        have HWV := Lib.hid hwv
        have hwd := width_one (ys.take 16)
        generalize hwdd : Cw.width (ys.take 16) = wd at *
        have d1 : decide (0 < wd) = true := by simp; omega
        have d2 : 0 < wd := by omega
        clear hsb hwv
        go_wp2_with fail
        have hmx : Tryz.prog.follows .mixedOrders = true := by kernel_rfl
        have HBd : Hid (Below w1.heap.size w1 w2.drew) := HB2.out.trans (((Below.refl _ _).drew).mono HB2.out.size)
        have HKC : Hid (∀ W, Below w1.heap.size w1 W → W.cell? ⟨g, k, none⟩ = some (.slice (some ⟨b, off, none⟩) n' c')) := Lib.hid fun W hW => (hW.cell (p := ⟨g, k, none⟩) hg).trans HQ1.out
        refine region_begin (fun w' => w'.cell? ⟨g, k, none⟩ = some (.slice (some ⟨b, off, none⟩) n' c')) (fun j => j == 14) hmx ?_
        refine take_first (i := 0) rfl (by kernel_rfl) (by kernel_rfl) (by kernel_rfl) (by kernel_rfl) (fun _ _ _ h => h) hcx2 (.inl ⟨by rfl, fun w' hw' => by have hw2 : w'.cell? ⟨g, k, none⟩ = some (.slice (some ⟨b, off, none⟩) n' c') := hw'; go_simp; try with_reducible rfl⟩) ?_
        refine take_first (i := 1) rfl (by kernel_rfl) (by kernel_rfl) (by kernel_rfl) (by kernel_rfl) (fun _ _ _ h => h) hcx2 (.inl ⟨by rfl, fun w' hw' => by have hw2 : w'.cell? ⟨g, k, none⟩ = some (.slice (some ⟨b, off, none⟩) n' c') := hw'; go_simp; try with_reducible rfl⟩) ?_
        refine take_first (i := 2) rfl (by kernel_rfl) (by kernel_rfl) (by kernel_rfl) (by kernel_rfl) (fun _ _ _ h => h) hcx2 (.inl ⟨by rfl, fun w' hw' => by have hw2 : w'.cell? ⟨g, k, none⟩ = some (.slice (some ⟨b, off, none⟩) n' c') := hw'; go_simp; try with_reducible rfl⟩) ?_
        refine take_first (i := 6) rfl (by kernel_rfl) (by kernel_rfl) (by kernel_rfl) (by kernel_rfl) (fun _ _ _ h => h) hcx2 (.inl ⟨by rfl, fun w' hw' => by have hw2 : w'.cell? ⟨g, k, none⟩ = some (.slice (some ⟨b, off, none⟩) n' c') := hw'; go_simp; try with_reducible rfl⟩) ?_
        refine take_first (i := 7) rfl (by kernel_rfl) (by kernel_rfl) (by kernel_rfl) (by kernel_rfl) (fun _ _ _ h => h) hcx2 (.inl ⟨by rfl, fun w' hw' => by have hw2 : w'.cell? ⟨g, k, none⟩ = some (.slice (some ⟨b, off, none⟩) n' c') := hw'; go_simp; try with_reducible rfl⟩) ?_
        refine take_first (i := 3) rfl (by kernel_rfl) (by kernel_rfl) (by kernel_rfl) (by kernel_rfl) (fun _ _ _ h => h) hcx2 (.inl ⟨by rfl, fun w' hw' => by have hw2 : w'.cell? ⟨g, k, none⟩ = some (.slice (some ⟨b, off, none⟩) n' c') := hw'; go_simp; try with_reducible rfl⟩) ?_
        refine take_first (i := 8) rfl (by kernel_rfl) (by kernel_rfl) (by kernel_rfl) (by kernel_rfl) (fun _ _ _ h => h) hcx2 (.inl ⟨by rfl, fun w' hw' => by have hw2 : w'.cell? ⟨g, k, none⟩ = some (.slice (some ⟨b, off, none⟩) n' c') := hw'; go_simp; try with_reducible rfl⟩) ?_
        refine take_first (i := 4) rfl (by kernel_rfl) (by kernel_rfl) (by kernel_rfl) (by kernel_rfl) (fun _ _ _ h => h) hcx2 (.inl ⟨by rfl, fun w' hw' => by have hw2 : w'.cell? ⟨g, k, none⟩ = some (.slice (some ⟨b, off, none⟩) n' c') := hw'; go_simp; try with_reducible rfl⟩) ?_
        refine take_first (i := 9) rfl (by kernel_rfl) (by kernel_rfl) (by kernel_rfl) (by kernel_rfl) (fun _ _ _ h => h) hcx2 (.inl ⟨by rfl, fun w' hw' => by have hw2 : w'.cell? ⟨g, k, none⟩ = some (.slice (some ⟨b, off, none⟩) n' c') := hw'; go_simp; try with_reducible rfl⟩) ?_
        refine take_one (i := 5) (by kernel_rfl) rfl rfl fun K hK => ?_
        go_wp2_with fail
        refine (wide_ref b off n' c' ys _ HIL.out (HCC.out _ HBd.out).1 (HCC.out _ HBd.out).2 HRY.out hn0 hn1 hnc).mono ?_
        rintro e w3 ⟨rfl, hb3⟩
        rw [HWV.out]
        have B3 : Hid (Below w2.heap.size w2 w3) := ((Below.refl w2.heap.size w2).drew).trans hb3
        have BB3 : Hid (Below w1.heap.size w1 w3) := HB2.out.trans (B3.out.mono HB2.out.size)
        refine hK _ _ (.inr (HKC.out _ BB3.out)) ?_
        clear hK hb3
        refine take_one (i := 10) (by kernel_rfl) rfl rfl fun K hK => ?_
        go_wp2_with fail
        refine (first_any b off n' c' ys w3 HIL.out (HCC.out _ BB3.out).1 (HCC.out _ BB3.out).2 hn1 hnc).mono ?_
        rintro e w4 ⟨v4, rfl, ho4, hb4⟩
        obtain ⟨A4, C4, rfl⟩ := own_slice ho4
        have B4 : Hid (Below w2.heap.size w2 w4) := B3.out.trans (hb4.mono B3.out.size)
        have HO4 := Lib.hid (ho4.mono (base' := w1.heap.size) BB3.out.size)
        have BB4 : Hid (Below w1.heap.size w1 w4) := BB3.out.trans (hb4.mono BB3.out.size)
        have hs4 := BB4.out.size
        clear ho4 hb4
        generalize hzs : ys.take 16 = zs at *
        generalize hN : zs.length = N at *
        have HP4 : Hid (PItems w4 w1.heap.size (.slice Av I0.length Cv) I0) := by
          obtain ⟨vs, p1, p2, p3⟩ := HP2.out
          have T : Turn (fun _ => False) w2 w4 := Turn.of_new B4.out
          refine Lib.hid ⟨vs, p1, T.kept p2 (fun _ _ => id), fun i zs hz => ?_⟩
          obtain ⟨a, n, c, e1, e2⟩ := p3 i zs hz
          exact ⟨a, n, c, e1, T.kept e2 (fun _ _ => id)⟩
        refine hK _ _ (.inr (HKC.out _ BB4.out)) ?_
        clear hK
        refine take_one (i := 11) (by kernel_rfl) rfl rfl fun K hK => ?_
        go_wp2
        refine hK _ _ (.inr (HKC.out _ BB4.out)) ?_
        clear hK
        refine take_one (i := 12) (by kernel_rfl) rfl rfl fun K hK => ?_
        go_wp2
        refine hK _ _ (.inr (HKC.out _ (BB4.out.alloc hs4 _))) ?_
        clear hK
        refine take_one (i := 13) (by kernel_rfl) rfl rfl fun K hK => ?_
        obtain ⟨vs, p1, p2, p3⟩ := HP4.out
        refine wp_append_own _ _ _ 68 rfl w1.heap.size 71 i0 _ 2 32 Tryz.underlying68 hi hz0 hz1 hz2 rfl (by decide) (.slice Av I0.length Cv) I0.length _ rfl (p2.alloc _) ⟨w4.heap.size, 0, none⟩ 1 1 [.int .i64 wd, .slice A4 N C4] rfl rfl (cell_new2 _ _ _ _) (by simp [Value.oneCell']) (by unfold maxLen; omega) (by omega) (by simp; omega) ?_
        intro v6 w6 hown6 hgrow6 _
        have B6 : Hid (Below w1.heap.size w1 w6) := (BB4.out.alloc hs4 _).grown hgrow6 (by simp; omega) (fun g e => (p2.lt g e).1)
        have hT : Turn (fun j => (Value.slice Av I0.length Cv).ownBlock = some j) w4 w6 := (Turn.alloc _ _ _).trans (Turn.of_grown hgrow6 (fun _ e => e))
        have e1 := HYes.out HSB.out
        have P6 : Hid (PItems w6 w1.heap.size v6 I1) := by
          rw [e1]
          refine Lib.hid ⟨vs ++ [.slice A4 N C4], by simp [p1], ?_, fun i ys hi => ?_⟩
          · rw [icl_add I0 vs zs _ p1, hwdd, List.length_append]
            exact hown6
          · rcases Nat.lt_or_ge i I0.length with hik | hik
            · rw [List.getElem?_append_left hik] at hi
              obtain ⟨a', n', c', q1, q2⟩ := p3 i ys hi
              exact ⟨a', n', c', by rw [List.getElem?_append_left (by omega)]; exact q1, hT.kept q2 (fun g hg hx => rows_ne p2 q2 (by decide) hx hg)⟩
            · rw [List.getElem?_append_right hik] at hi
              have hi0 : i - I0.length = 0 := by
                have := (List.getElem?_eq_some_iff.1 hi).1
                simp at this; omega
              rw [hi0] at hi
              simp at hi
              subst hi
              exact ⟨A4, N, C4, by rw [List.getElem?_append_right (by omega)]; simp [p1, hi0], hT.kept HO4.out (fun g hg hx => rows_ne p2 HO4.out (by decide) hx hg)⟩
        refine hK _ _ (.inr (HKC.out _ B6.out)) ?_
        clear hK p1 p2 p3 hown6 hgrow6 hT
        refine take_one (i := 14) (by kernel_rfl) rfl rfl fun K hK => ?_
        go_wp2
        refine hK _ _ (.inl rfl) ?_
        clear hK
        refine take_done (by kernel_rfl) ?_ _
        go_wp2
        go_roundw
        case rel =>
          refine ⟨k + 1, by omega, by go_num, ?_, B6.out⟩
          rw [HI1.out]
          exact P6.out
        case measure => simp [intOf]; omega
      · have hwv : wideV ys = 0 := by unfold wideV; rw [hsb]; rfl
        have HSB := Lib.hid hsb
        rw [hwv]
        clear hwv hsb
        go_wp2
        go_roundw
        case rel =>
          have e1 := HNo.out HSB.out
          refine ⟨k + 1, by omega, by go_num, ?_, HB2.out⟩
          rw [HI1.out, e1]
          exact HP2.out
        case measure => simp [intOf]; omega
    · obtain rfl : k = m := by omega
      go_wp2
      go_ret
      refine ⟨_, rfl, ?_, HB.out.trans (H.out.2.mono hs1)⟩
      rw [HIT.out]
      obtain ⟨vs, p1, p2, p3⟩ := H.out.1
      refine ⟨vs, p1, p2.mono hs1, fun i zs hz => ?_⟩
      obtain ⟨a, n, c, e1, e2⟩ := p3 i zs hz
      exact ⟨a, n, c, e1, e2.mono hs1⟩

set_option maxRecDepth 100000 in
set_option maxHeartbeats 4000000 in
theorem cols_ref (a : Option Addr) (n c : Nat) (xs : List Int) (w : World) (h : Runes w a n c xs) (hn : n ≤ 100000) :
    Calls Tryz.prog 30 #[.slice a n c] w fun e w' => e = .returned (.int .i64 (wsum (itms xs))) ∧ Below w.heap.size w w' := by
  have HIT := Lib.hid (items_ref a n c xs w h hn)
  have hil : (itms xs).length ≤ 100000 := by have := itms_len xs; have := h.ints.1; omega
  clear h
  go_enter Tryz.func30, Tryz.ntmps30
  go_wp2_with fail
  refine HIT.out.mono ?_
  rintro e w1 ⟨v, rfl, hP, hb1⟩
  generalize hyy : itms xs = yss at *
  have HYY := Lib.hid hyy
  clear hyy
  obtain ⟨A1, C1, rfl⟩ := pitems_slice hP
  have HP := Lib.hid hP
  have HB := Lib.hid hb1
  have hs1 := hb1.size
  clear hP hb1 HIT
  generalize hm : yss.length = m at *
  have HM := Lib.hid hm
  clear hm
  go_wp2
  go_loopw [3, 5] (fun s i wr => ∃ k : Nat, k ≤ m ∧ i = .int .i64 k ∧ s = .int .i64 (wsum (yss.take k)) ∧ Hid (Below w1.heap.size w1 wr)) (fun _ i _ => m - (intOf i).toNat)
  case atStart => exact ⟨0, Nat.zero_le _, rfl, rfl, Below.refl _ _⟩
  case round =>
    obtain ⟨k, hk, rfl, rfl, H⟩ := hrel
    by_cases hlt : k < m
    · obtain ⟨ys, hy⟩ : ∃ ys, yss[k]? = some ys := ⟨_, List.getElem?_eq_getElem (by rw [HM.out]; exact hlt)⟩
      obtain ⟨g, rfl, _, hg, hat⟩ := pitems_at HP.out (by rw [HM.out]; omega)
      obtain ⟨p0, a', n', c', p1, _⟩ := hat k ys hy
      have p0 := (H.out.cell (p := ⟨g, k * 2, none⟩) hg).trans p0
      have hlt' : (k : Int) < m := by omega
      have hnx := Lib.hid (wsum_next yss k ys hy)
      have hbd := wsum_le (yss.take k)
      have hwd := width_one ys
      have htl : (yss.take k).length ≤ m := by rw [List.length_take, HM.out]; omega
      generalize wsum (yss.take k) = s0 at *
      generalize Cw.width ys = wd at *
      have x1 : IntKind.i64.wrap (s0 + wd) = s0 + wd := IntWalk.i64_in _ (by omega)
      clear hat hy hbd hwd htl p1
      go_wp2
      go_roundw
      case rel => exact ⟨k + 1, by omega, by go_num, by rw [hnx.out], H.out⟩
      case measure => simp [intOf]; omega
    · obtain rfl : k = m := by omega
      have e1 : yss.take k = yss := List.take_of_length_le (by rw [HM.out]; exact Nat.le_refl _)
      rw [e1]
      clear e1 hlt
      go_wp2
      go_ret
      exact ⟨by rw [HYY.out]; rfl, HB.out.trans (H.out.mono hs1)⟩

theorem pitems_below {w w' : World} {base : Nat} {v : Value} {yss : List (List Int)} (h : PItems w base v yss) (hb : Below w.heap.size w w') : PItems w' base v yss := by
  obtain ⟨vs, p1, p2, p3⟩ := h
  have T : Turn (fun _ => False) w w' := Turn.of_new hb
  refine ⟨vs, p1, T.kept p2 (fun _ _ => id), fun i zs hz => ?_⟩
  obtain ⟨a, n, c, e1, e2⟩ := p3 i zs hz
  exact ⟨a, n, c, e1, T.kept e2 (fun _ _ => id)⟩

end Go.Proofs.YtcbfmokafmagpaaGreat.Mea

namespace Go.Proofs.YtcbfmokafmagpaaGreat.Mea
set_option linter.unusedSimpArgs false
set_option linter.unusedVariables false
open Go Go.RowKit Go.Shelf Mem Seg Turn Gra Clu Same GraLaw

theorem g1 : wsum (its (cl [97, 19968, 98]) 1) = 1 := by kernel_rfl
theorem g2 : wsum (its (cl [97, 19968, 98]) 2) = 3 := by kernel_rfl
theorem g3 : wsum (its (cl [97, 19968, 98]) 3) = 4 := by kernel_rfl
theorem g4 : cnt (Jn [97, 19968, 98]) ([97, 19968, 98] : List Int).length = 3 := by kernel_rfl
theorem g5 : st (Jn [97, 19968, 98]) ([97, 19968, 98] : List Int).length 1 = 1 := by kernel_rfl
theorem g6 : wsum (itms [97, 19968, 10]) = 3 := by kernel_rfl
theorem g7 {k : Nat} (h : HeadP [97, 19968, 98] 2 k) : k = 1 := by
  obtain ⟨h1, h2, h3⟩ := h
  rw [g4] at h1 h3
  match k, h1, h2, h3 with
  | 0, _, _, h3 => rw [g1] at h3; omega
  | 1, _, _, _ => rfl
  | 2, _, h2, _ => rw [g2] at h2; omega
  | 3, _, h2, _ => rw [g3] at h2; omega
  | k + 4, h1, _, _ => omega

end Go.Proofs.YtcbfmokafmagpaaGreat.Mea

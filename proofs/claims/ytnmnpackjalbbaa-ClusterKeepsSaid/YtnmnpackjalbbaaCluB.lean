/-
  Package cluster: a block of seventeen cells.
-/
import Derived.Test.YtnmnpackjalbbaaCluA
import Derived.Test.YtnmnpackjalbbaaSegLaw
import Derived.Test.YtnmnpackjalbbaaRound
import Derived.Laws.CopyOwn
import Derived.RegionTactic
import Derived.IntWalk
namespace Go.Proofs.Ytnmnpackjalbbaa.Clu
set_option linter.unusedSimpArgs false
set_option linter.unusedVariables false
open Go Go.RowKit Mem Seg Turn Gra

/-- the cells of the cluster of these numbers (sixteen at most) -/
def cv (l : List Int) : List Value := l.map (Value.int .i32) ++ (List.replicate (16 - l.length) (.int .i32 0) ++ [.int .i64 l.length])
theorem cv_len {l : List Int} (h : l.length ≤ 16) : (cv l).length = 17 := by simp [cv]; omega
theorem cv_num {l : List Int} (h : l.length ≤ 16) : (cv l)[16]? = some (.int .i64 l.length) := by
  unfold cv
  rw [List.getElem?_append_right (by simpa using h), List.getElem?_append_right (by simp)]
  simp
theorem cv_text {l : List Int} {i : Nat} {x : Int} (h : l[i]? = some x) : (cv l)[i]? = some (.int .i32 x) := by
  unfold cv
  rw [List.getElem?_append_left (by simpa using (List.getElem?_eq_some_iff.1 h).1)]
  simp [h]
theorem cv_add {l : List Int} (h : l.length < 16) (r : Int) : ((cv l).set l.length (.int .i32 r)).set 16 (.int .i64 (l.length + 1)) = cv (l ++ [r]) := by
  obtain ⟨m, hm⟩ : ∃ m, 16 - l.length = m + 1 := ⟨15 - l.length, by omega⟩
  have hm' : 16 - (l.length + 1) = m := by omega
  unfold cv
  rw [hm, List.replicate_succ, List.set_append_right _ _ (by simp), List.length_map, Nat.sub_self]
  simp only [List.cons_append, List.set_cons_zero]
  rw [List.set_append_right _ _ (by simp; omega), List.length_map, hm]
  simp only [List.set_cons_succ]
  rw [List.set_append_right _ _ (by simp)]
  simp [hm']

def addL (l : List Int) (r : Int) : List Int := if l.length < 16 then l ++ [r] else l
theorem addL_take (l : List Int) (k : Nat) {x : Int} (h : l[k]? = some x) : addL ((l.take k).take 16) x = (l.take (k + 1)).take 16 := by
  have hk := (List.getElem?_eq_some_iff.1 h).1
  unfold addL
  rw [List.take_take, List.take_take]
  split
  · rename_i h1
    rw [List.length_take] at h1
    have e1 : min 16 k = k := by omega
    have e2 : min 16 (k + 1) = k + 1 := by omega
    rw [e1, e2, List.take_add_one, h]
    rfl
  · rename_i h1
    rw [List.length_take] at h1
    have e1 : min 16 k = 16 := by omega
    have e2 : min 16 (k + 1) = 16 := by omega
    rw [e1, e2]

/-- block q holds the cluster of these numbers -/
def CAt (w : World) (q : Nat) (l : List Int) : Prop := l.length ≤ 16 ∧ ∃ T, w.heap[q]? = some (.cells (cv l).toArray T (0, 0))
theorem CAt.lt {w : World} {q : Nat} {l : List Int} (h : CAt w q l) : q < w.heap.size := by
  obtain ⟨_, T, h⟩ := h
  exact Blk.lt (xs := _) ⟨T, (0, 0), h⟩
theorem CAt.below {w w' : World} {q B : Nat} {l : List Int} (h : CAt w q l) (hb : Below B w w') (hq : q < B) : CAt w' q l := by
  obtain ⟨h1, T, h⟩ := h
  exact ⟨h1, T, by rw [hb.block q hq, h]⟩
theorem CAt.num {w : World} {q : Nat} {l : List Int} (h : CAt w q l) : w.cell? ⟨q, 16, none⟩ = some (.int .i64 l.length) := by
  obtain ⟨h1, T, h⟩ := h
  simp [World.cell?, h, cv_num h1]
theorem CAt.text {w : World} {q : Nat} {l : List Int} (h : CAt w q l) {i : Nat} {x : Int} (hx : l[i]? = some x) : w.cell? ⟨q, i, none⟩ = some (.int .i32 x) := by
  obtain ⟨h1, T, h⟩ := h
  simp [World.cell?, h, cv_text hx]
theorem CAt.some {w : World} {q : Nat} {l : List Int} (h : CAt w q l) {i : Nat} (hi : i < 17) : ∃ v, w.cell? ⟨q, i, none⟩ = some v := by
  obtain ⟨h1, T, h⟩ := h
  exact ⟨_, by simp only [World.cell?, h]; simpa using List.getElem?_eq_getElem (by rw [cv_len h1]; exact hi)⟩
theorem CAt.frozen {w : World} {q : Nat} {l : List Int} (h : CAt w q l) (i : Nat) : w.frozen? ⟨q, i, none⟩ = false := by
  obtain ⟨h1, T, h⟩ := h
  simp [World.frozen?, h]
theorem CAt.add {w : World} {q : Nat} {l : List Int} (h : CAt w q l) (hl : l.length < 16) (r : Int) : CAt ((w.setCell ⟨q, l.length, none⟩ (.int .i32 r)).setCell ⟨q, 16, none⟩ (.int .i64 (l.length + 1))) q (l ++ [r]) := by
  obtain ⟨h1, T, h⟩ := h
  refine ⟨by simp; omega, T, ?_⟩
  rw [heap_setCell (heap_setCell h)]
  rw [← cv_add hl r]
  simp
theorem cat_new (w : World) (T : TypeId) (cs : Array Value) (h : cs = (cv []).toArray) : CAt (w.alloc (.cells cs T)) w.heap.size [] := ⟨by simp, T, by subst h; show (w.heap.push _)[w.heap.size]? = _; simp⟩

set_option maxHeartbeats 1000000 in
theorem len_any (q : Nat) (l : List Int) (w : World) (h : CAt w q l) :
    Calls Try.prog 23 #[.pointer (some ⟨q, 0, none⟩)] w fun e w' => e = .returned (.int .i64 l.length) ∧ w = w' := by
  have c16 := h.num
  clear h
  go_enter Try.func23, Try.ntmps23
  go_wp2
  go_ret
  exact ⟨rfl, rfl⟩

set_option maxHeartbeats 1000000 in
theorem full_any (q : Nat) (l : List Int) (w : World) (h : CAt w q l) :
    Calls Try.prog 24 #[.pointer (some ⟨q, 0, none⟩)] w fun e w' => e = .returned (.bool ((l.length : Int) == 16)) ∧ w = w' := by
  have H := Lib.hid h
  clear h
  go_enter Try.func24, Try.ntmps24
  go_wp2_with fail
  refine (len_any q l w H.out).mono ?_
  rintro e w1 ⟨rfl, rfl⟩
  go_wp2
  go_ret
  exact ⟨rfl, rfl⟩

set_option maxRecDepth 100000 in
set_option maxHeartbeats 4000000 in
theorem add_any (q : Nat) (l : List Int) (r : Int) (w : World) (h : CAt w q l) :
    Calls Try.prog 22 #[.pointer (some ⟨q, 0, none⟩), .int .i32 r] w fun e w' => e = .returned (.bool (decide (l.length < 16))) ∧ CAt w' q (addL l r) ∧ But q w w' := by
  have hl := h.1
  have H := Lib.hid h
  have HF := Lib.hid (full_any q l w h)
  by_cases h16 : l.length < 16
  · have d0 : ((l.length : Int) == 16) = false := by simp; omega
    have d1 : Hid (decide (l.length < 16) = true) := Lib.hid (by simpa using h16)
    have c16 := h.num
    have f16 := h.frozen 16
    have fl := h.frozen l.length
    obtain ⟨v, cl⟩ := h.some (i := l.length) (by omega)
    have x1 : (l.length : Int) < 16 := by omega
    have HA : Hid (CAt ((w.setCell ⟨q, l.length, none⟩ (.int .i32 r)).drew.setCell ⟨q, 16, none⟩ (.int .i64 (l.length + 1))) q (addL l r)) := by
      unfold addL; rw [if_pos h16]; exact Lib.hid (h.add h16 r)
    have HB : Hid (But q w ((w.setCell ⟨q, l.length, none⟩ (.int .i32 r)).drew.setCell ⟨q, 16, none⟩ (.int .i64 (l.length + 1)))) := (((But.refl q w).setCell _ _).trans (But.of_below ((Below.refl _ _).drew))).setCell _ _
    have c16' : (w.setCell ⟨q, l.length, none⟩ (.int .i32 r)).drew.cell? ⟨q, 16, none⟩ = Option.some (.int .i64 l.length) := by
      obtain ⟨_, T, h⟩ := h
      show (w.setCell ⟨q, l.length, none⟩ (.int .i32 r)).cell? ⟨q, 16, none⟩ = _
      have := heap_setCell (i := l.length) (v := .int .i32 r) h
      simp only [World.cell?, this]
      have h9 := cv_num hl
      simp only [List.setIfInBounds_toArray, List.getElem?_toArray]
      rw [List.getElem?_set_ne (by omega)]
      exact h9
    have f16' : (w.setCell ⟨q, l.length, none⟩ (.int .i32 r)).drew.frozen? ⟨q, 16, none⟩ = false := by
      obtain ⟨_, T, h⟩ := h
      show (w.setCell ⟨q, l.length, none⟩ (.int .i32 r)).frozen? ⟨q, 16, none⟩ = _
      have := heap_setCell (i := l.length) (v := .int .i32 r) h
      simp [World.frozen?, this]
    have x2 : IntKind.i64.wrap ((l.length : Int) + 1) = (l.length : Int) + 1 := IntWalk.i64_in _ (by omega)
    clear h
    generalize l.length = n at *
    go_enter Try.func22, Try.ntmps22
    go_wp2_with fail
    refine HF.out.mono ?_
    rintro e w1 ⟨rfl, rfl⟩
    go_wp2_with fail
    go_region
    clear c16 f16 fl cl H HF
    generalize (w.setCell ⟨q, n, none⟩ (.int .i32 r)).drew = w1 at *
    go_wp2
    go_ret
    exact ⟨by rw [d1.out]; rfl, HA.out, HB.out⟩
  · have e16 : l.length = 16 := by omega
    have HA : Hid (CAt w q (addL l r)) := by unfold addL; rw [if_neg h16]; exact Lib.hid h
    have d1 : Hid (decide (l.length < 16) = false) := Lib.hid (by simpa using h16)
    have d0 : ((l.length : Int) == 16) = true := by simp; omega
    clear h h16 e16
    go_enter Try.func22, Try.ntmps22
    go_wp2_with fail
    refine HF.out.mono ?_
    rintro e w1 ⟨rfl, rfl⟩
    go_wp2
    go_ret
    exact ⟨by rw [d1.out]; rfl, HA.out, But.refl _ _⟩

set_option maxRecDepth 100000 in
set_option maxHeartbeats 4000000 in
theorem text_any (q : Nat) (l : List Int) (w : World) (h : CAt w q l) :
    Calls Try.prog 26 #[.pointer (some ⟨q, 0, none⟩)] w fun e w' => Fresh w w' 21 1 l.length (l.map (Value.int .i32)) e := by
  have c16 := h.num
  have H := Lib.hid h
  have hl := h.1
  have hlt := h.lt
  have hmx : Try.prog.follows .mixedOrders = true := by kernel_rfl
  have hl' : (l.length : Int) ≤ 16 := by omega
  clear h
  go_enter Try.func26, Try.ntmps26
  go_wp2_with fail
  refine region_begin (fun w' => w'.cell? ⟨q, 16, none⟩ = Option.some (.int .i64 l.length)) (fun j => j == 9) hmx ?_
  refine take_first (i := 0) rfl (by kernel_rfl) (by kernel_rfl) (by kernel_rfl) (by kernel_rfl) (fun _ _ _ h => h) c16 (.inl ⟨by rfl, fun w' hw' => by have hw2 : w'.cell? ⟨q, 16, none⟩ = Option.some (.int .i64 l.length) := hw'; go_simp; try with_reducible rfl⟩) ?_
  refine take_first (i := 3) rfl (by kernel_rfl) (by kernel_rfl) (by kernel_rfl) (by kernel_rfl) (fun _ _ _ h => h) c16 (.inl ⟨by rfl, fun w' hw' => by have hw2 : w'.cell? ⟨q, 16, none⟩ = Option.some (.int .i64 l.length) := hw'; go_simp; try with_reducible rfl⟩) ?_
  refine take_first (i := 1) rfl (by kernel_rfl) (by kernel_rfl) (by kernel_rfl) (by kernel_rfl) (fun _ _ _ h => h) c16 (.inl ⟨by rfl, fun w' hw' => by have hw2 : w'.cell? ⟨q, 16, none⟩ = Option.some (.int .i64 l.length) := hw'; go_simp; try with_reducible rfl⟩) ?_
  refine take_first (i := 4) rfl (by kernel_rfl) (by kernel_rfl) (by kernel_rfl) (by kernel_rfl) (fun _ _ _ h => h) c16 (.inl ⟨by rfl, fun w' hw' => by have hw2 : w'.cell? ⟨q, 16, none⟩ = Option.some (.int .i64 l.length) := hw'; go_simp; try with_reducible rfl⟩) ?_
  refine take_first (i := 2) rfl (by kernel_rfl) (by kernel_rfl) (by kernel_rfl) (by kernel_rfl) (fun _ _ _ h => h) c16 (.inl ⟨by rfl, fun w' hw' => by have hw2 : w'.cell? ⟨q, 16, none⟩ = Option.some (.int .i64 l.length) := hw'; go_simp; try with_reducible rfl⟩) ?_
  refine take_first (i := 5) rfl (by kernel_rfl) (by kernel_rfl) (by kernel_rfl) (by kernel_rfl) (fun _ _ _ h => h) c16 (.inl ⟨by rfl, fun w' hw' => by have hw2 : w'.cell? ⟨q, 16, none⟩ = Option.some (.int .i64 l.length) := hw'; go_simp; try with_reducible rfl⟩) ?_
  refine take_first (i := 6) rfl (by kernel_rfl) (by kernel_rfl) (by kernel_rfl) (by kernel_rfl) (fun _ _ _ h => h) c16 (.inl ⟨by rfl, fun w' hw' => by have hw2 : w'.cell? ⟨q, 16, none⟩ = Option.some (.int .i64 l.length) := hw'; go_simp; try with_reducible rfl⟩) ?_
  refine take_first (i := 7) rfl (by kernel_rfl) (by kernel_rfl) (by kernel_rfl) (by kernel_rfl) (fun _ _ _ h => h) c16 (.inl ⟨by rfl, fun w' hw' => by have hw2 : w'.cell? ⟨q, 16, none⟩ = Option.some (.int .i64 l.length) := hw'; go_simp; try with_reducible rfl⟩) ?_
  refine take_one (i := 8) (by kernel_rfl) rfl rfl fun K hK => ?_
  go_wp2_with fail
  refine (clone_any q 0 l.length 16 l _ rfl ?_ ?_ (by omega)).mono ?_
  · exact hlt
  · intro i x hx
    have := H.out.text hx
    rw [Nat.zero_add]
    exact this
  rintro e w1 ⟨v, rfl, ho, hb⟩
  have hb : Below w.heap.size w w1 := ((Below.refl w.heap.size w).drew).trans hb
  have HO := Lib.hid ho
  have HB := Lib.hid hb
  clear ho hb
  refine hK _ _ (.inr ((HB.out.cell (p := ⟨q, 16, none⟩) hlt).trans c16)) ?_
  clear hK
  refine take_one (i := 9) (by kernel_rfl) rfl rfl fun K hK => ?_
  go_wp2
  refine hK _ _ (.inl rfl) ?_
  clear hK
  refine take_done (by kernel_rfl) ?_ _
  go_wp2
  go_ret
  exact ⟨v, rfl, HO.out, HB.out⟩

theorem size_clu {l : List Int} (h : l.length ≤ 16) : (Try.prog.info? 35).map (·.size) = Option.some (cv l).toArray.size := by
  rw [List.size_toArray, cv_len h]; kernel_rfl
theorem cv_one (l : List Int) : (cv l).toArray.all (·.oneCell') = true := by
  simp only [List.all_toArray, List.all_eq_true]
  intro u hu
  unfold cv at hu
  rcases List.mem_append.1 hu with hu | hu
  · obtain ⟨x, _, rfl⟩ := List.mem_map.1 hu; rfl
  · rcases List.mem_append.1 hu with hu | hu
    · rw [List.eq_of_mem_replicate hu]; rfl
    · simp at hu; subst hu; rfl
theorem take_full (xs : List Int) {k : Nat} (h : ¬ ((xs.take k).take 16).length < 16) : (xs.take k).take 16 = xs.take 16 := by
  rw [List.length_take, List.length_take] at h
  rw [List.take_take]
  congr 1; omega

theorem CAt.but {w w' : World} {q g : Nat} {l : List Int} (h : CAt w g l) (hb : But q w w') (hn : g ≠ q) : CAt w' g l := by
  have hlt := h.lt
  obtain ⟨h1, T, h⟩ := h
  exact ⟨h1, T, by rw [hb.block g hlt hn, h]⟩

set_option maxRecDepth 100000 in
set_option maxHeartbeats 4000000 in
theorem of_any (a : Option Addr) (n c : Nat) (xs : List Int) (w : World) (h : Same.Ints .i32 w a n xs) (hn : n ≤ 9223372036854775807) :
    Calls Try.prog 25 #[.slice a n c] w fun e w' => e = .returned (.agg (cv (xs.take 16)).toArray) ∧ Below w.heap.size w w' := by
  have HI := Lib.hid h
  have HL := Lib.hid h.1
  clear h
  go_enter Try.func25, Try.ntmps25
  go_wp2
  have R0 := cat_new w 35 #[.int .i32 0, .int .i32 0, .int .i32 0, .int .i32 0, .int .i32 0, .int .i32 0, .int .i32 0, .int .i32 0, .int .i32 0, .int .i32 0, .int .i32 0, .int .i32 0, .int .i32 0, .int .i32 0, .int .i32 0, .int .i32 0, .int .i64 0] (by rfl)
  have B0 : Below w.heap.size w (w.alloc (.cells #[.int .i32 0, .int .i32 0, .int .i32 0, .int .i32 0, .int .i32 0, .int .i32 0, .int .i32 0, .int .i32 0, .int .i32 0, .int .i32 0, .int .i32 0, .int .i32 0, .int .i32 0, .int .i32 0, .int .i32 0, .int .i32 0, .int .i64 0] 35)) := (Below.refl _ _).alloc (Nat.le_refl _) _
  have z0 : (w.alloc (.cells #[.int .i32 0, .int .i32 0, .int .i32 0, .int .i32 0, .int .i32 0, .int .i32 0, .int .i32 0, .int .i32 0, .int .i32 0, .int .i32 0, .int .i32 0, .int .i32 0, .int .i32 0, .int .i32 0, .int .i32 0, .int .i32 0, .int .i64 0] 35)).heap.size = w.heap.size + 1 := by simp
  generalize (w.alloc (.cells #[.int .i32 0, .int .i32 0, .int .i32 0, .int .i32 0, .int .i32 0, .int .i32 0, .int .i32 0, .int .i32 0, .int .i32 0, .int .i32 0, .int .i32 0, .int .i32 0, .int .i32 0, .int .i32 0, .int .i32 0, .int .i32 0, .int .i64 0] 35)) = w1 at *
  have C0 := cat_new w1 35 #[.int .i32 0, .int .i32 0, .int .i32 0, .int .i32 0, .int .i32 0, .int .i32 0, .int .i32 0, .int .i32 0, .int .i32 0, .int .i32 0, .int .i32 0, .int .i32 0, .int .i32 0, .int .i32 0, .int .i32 0, .int .i32 0, .int .i64 0] (by rfl)
  rw [z0] at C0
  have R0 := R0.below (B := w1.heap.size) ((Below.refl _ _).alloc (Nat.le_refl _) (.cells #[.int .i32 0, .int .i32 0, .int .i32 0, .int .i32 0, .int .i32 0, .int .i32 0, .int .i32 0, .int .i32 0, .int .i32 0, .int .i32 0, .int .i32 0, .int .i32 0, .int .i32 0, .int .i32 0, .int .i32 0, .int .i32 0, .int .i64 0] 35)) (by omega)
  have B0 := B0.alloc B0.size (.cells #[.int .i32 0, .int .i32 0, .int .i32 0, .int .i32 0, .int .i32 0, .int .i32 0, .int .i32 0, .int .i32 0, .int .i32 0, .int .i32 0, .int .i32 0, .int .i32 0, .int .i32 0, .int .i32 0, .int .i32 0, .int .i32 0, .int .i64 0] 35)
  generalize (w1.alloc (.cells #[.int .i32 0, .int .i32 0, .int .i32 0, .int .i32 0, .int .i32 0, .int .i32 0, .int .i32 0, .int .i32 0, .int .i32 0, .int .i32 0, .int .i32 0, .int .i32 0, .int .i32 0, .int .i32 0, .int .i32 0, .int .i32 0, .int .i64 0] 35)) = w0 at *
  have R0 := Lib.hid R0
  have C0 := Lib.hid C0
  have B0 := Lib.hid B0
  clear z0
  go_loopw [8] (fun i wr => ∃ k : Nat, k ≤ n ∧ i = .int .i64 k ∧ Hid (CAt wr (w.heap.size + 1) ((xs.take k).take 16) ∧ CAt wr w.heap.size [] ∧ Below w.heap.size w wr)) (fun i _ => n - (intOf i).toNat)
  case atStart => exact ⟨0, Nat.zero_le _, rfl, C0.out, R0.out, B0.out⟩
  case round =>
    obtain ⟨k, hk, rfl, H⟩ := hrel
    by_cases hlt : k < n
    · obtain ⟨x, hx⟩ : ∃ x, xs[k]? = Option.some x := ⟨_, List.getElem?_eq_getElem (by rw [HL.out]; exact hlt)⟩
      obtain ⟨hl, h0 | ⟨b, off, rfl, hb, hc⟩⟩ := HI.out
      · omega
      have hcx := (H.out.2.2.cell (p := ⟨b, off + k, none⟩) hb).trans (hc k x hx)
      have hlt' : (k : Int) < n := by omega
      have hne : (k : Int) + 1 < 9223372036854775808 := by omega
      have HAX := Lib.hid (addL_take xs k hx)
      clear hc hl hx
      go_wp2_with fail
      refine (add_any (w.heap.size + 1) ((xs.take k).take 16) x wr H.out.1).mono ?_
      rintro e w3 ⟨rfl, hA, hB⟩
      rw [HAX.out] at hA
      have HC := Lib.hid hA
      have HR := Lib.hid (H.out.2.1.but hB (by omega))
      have HB := Lib.hid (H.out.2.2.trans (hB.below (by omega) H.out.2.2.size))
      clear hA hB hcx HAX
      by_cases h16 : ((xs.take k).take 16).length < 16
      · have d1 : decide (((xs.take k).take 16).length < 16) = true := by simpa using h16
        rw [d1]
        clear d1 h16
        go_wp2
        go_roundw
        case rel => exact ⟨k + 1, by omega, by go_num, HC.out, HR.out, HB.out⟩
        case measure => simp [intOf]; omega
      · have d1 : decide (((xs.take k).take 16).length < 16) = false := by simpa using h16
        have e16 : (xs.take (k + 1)).take 16 = xs.take 16 := by
          rw [List.length_take, List.length_take] at h16
          rw [List.take_take]; congr 1; omega
        rw [e16] at HC
        rw [d1]
        clear d1 h16 e16 H
        obtain ⟨hz1, T1, hT1⟩ := HC.out
        obtain ⟨hz2, T2, hT2⟩ := HR.out
        have hsz := size_clu hz1
        have hold : (cv []).toArray.size = (cv (xs.take 16)).toArray.size := by rw [List.size_toArray, List.size_toArray, cv_len hz1, cv_len (by simp)]
        have hone := cv_one (xs.take 16)
        generalize hcs : (cv (xs.take 16)).toArray = cs at *
        generalize hco : (cv []).toArray = co at *
        go_wp2_with (first | (refine wpList_load_row rfl 35 _ rfl (w.heap.size + 1) rfl T1 cs (0, 0) _ hT1 Try.underlying35 rfl hsz ?_) | (refine wpList_store_row rfl 35 _ _ rfl w.heap.size cs rfl rfl T2 co hT2 hsz hold hone ?_))
        have HF := setRow_heap _ w.heap.size co cs T2 (0, 0) hT2
        refine bodyPost_ret (results_cell_row rfl _ _ w.heap.size T2 cs (0, 0) _ rfl HF Try.underlying35 rfl hsz) rfl ?_
        exact ⟨by rw [hcs], below_setRow HB.out (Nat.le_refl _) cs⟩
    · obtain rfl : k = n := by omega
      have HC := Lib.hid H.out.1
      have HR := Lib.hid H.out.2.1
      have HB := Lib.hid H.out.2.2
      have e16 : (xs.take k).take 16 = xs.take 16 := by rw [← HL.out, List.take_length]
      rw [e16] at HC
      clear H e16 hlt
      obtain ⟨hz1, T1, hT1⟩ := HC.out
      obtain ⟨hz2, T2, hT2⟩ := HR.out
      have hsz := size_clu hz1
      have hold : (cv []).toArray.size = (cv (xs.take 16)).toArray.size := by rw [List.size_toArray, List.size_toArray, cv_len hz1, cv_len (by simp)]
      have hone := cv_one (xs.take 16)
      generalize hcs : (cv (xs.take 16)).toArray = cs at *
      generalize hco : (cv []).toArray = co at *
      go_wp2_with (first | (refine wpList_load_row rfl 35 _ rfl (w.heap.size + 1) rfl T1 cs (0, 0) _ hT1 Try.underlying35 rfl hsz ?_) | (refine wpList_store_row rfl 35 _ _ rfl w.heap.size cs rfl rfl T2 co hT2 hsz hold hone ?_))
      have HF := setRow_heap _ w.heap.size co cs T2 (0, 0) hT2
      refine bodyPost_ret (results_cell_row rfl _ _ w.heap.size T2 cs (0, 0) _ rfl HF Try.underlying35 rfl hsz) rfl ?_
      exact ⟨by rw [hcs], below_setRow HB.out (Nat.le_refl _) cs⟩

end Go.Proofs.Ytnmnpackjalbbaa.Clu

/-
  The reference of layer 16: Props, Starts.
  The reference of layer 16: Clusters.
-/
import Derived.Test.YtcbfmokafmagpaaGreatClone
import Derived.Test.YtcbfmokafmagpaaGreatSegH
import Derived.Test.YtcbfmokafmagpaaGreatClus
import Derived.IntWalk
namespace Go.Proofs.YtcbfmokafmagpaaGreat.Gra
set_option linter.unusedSimpArgs false
set_option linter.unusedVariables false
open Go Go.RowKit Go.Shelf Mem Turn GraLaw Same

set_option maxHeartbeats 4000000 in
theorem props_any (a : Option Addr) (n c : Nat) (xs : List Int) (w : World) (h : Runes w a n c xs) (hn : n ≤ 100000) :
    Calls Tryz.prog 66 #[.slice a n c] w fun e w' => Fresh w w' 88 4 n (pcells xs n) e := by
  obtain ⟨i0, hi, hz0, hz1, hz2⟩ := info_parts info_prop
  have HI := Lib.hid h.ints
  have HR := Lib.hid h.r32
  have HL := Lib.hid h.ints.1
  clear h
  go_enter Tryz.func66, Tryz.ntmps66
  go_wp2
  go_loopw [3, 4] (fun v i wr => ∃ k : Nat, k ≤ n ∧ i = .int .i64 k ∧ Hid (wr.ownsRow w.heap.size 88 4 v k (pcells xs k) ∧ Below w.heap.size w wr)) (fun _ i _ => n - (intOf i).toNat)
  case atStart => exact ⟨0, Nat.zero_le _, rfl, World.ownsRow_nil _ _ _ _, Below.refl _ _⟩
  case round =>
    obtain ⟨k, hk, rfl, H⟩ := hrel
    by_cases hlt : k < n
    · obtain ⟨x, hx⟩ : ∃ x, xs[k]? = some x := ⟨_, List.getElem?_eq_getElem (by rw [HL.out]; exact hlt)⟩
      obtain ⟨hl, h0 | ⟨b, off, rfl, hb, hc⟩⟩ := HI.out
      · omega
      have hcx := (H.out.2.cell (p := ⟨b, off + k, none⟩) hb).trans (hc k x hx)
      obtain ⟨hr1, hr2⟩ := HR.out.at hx
      have hlt' : (k : Int) < n := by omega
      have HP : Hid (props xs k = prop x) := by unfold props; rw [List.getD_eq_getElem?_getD, hx]; exact Lib.hid rfl
      clear hx hc hl
      go_wp2_with fail
      refine (Ucd.ref_any x hr1 hr2 _).mono ?_
      rintro e w1 ⟨rfl, hb1⟩
      have hown := (Turn.of_new hb1 : Turn (fun _ => False) wr w1).kept H.out.1 (fun _ _ => id)
      have hB1 := H.out.2.trans (hb1.mono H.out.2.size)
      have hz1' := hB1.size
      clear hb1 hcx
      unfold Ucd.ofV Ucd.propV
      have HB := Lib.hid hB1
      clear hB1
      go_wp2_with (at_builtin; refine wpList_append_own _ rfl _ _ 96 rfl w.heap.size 88 i0 _ 4 32 Tryz.underlying96 hi hz0 hz1 hz2 rfl (by decide) _ k _ rfl (hown.alloc _) ⟨w1.heap.size, 0, none⟩ 1 1 [.int .i64 (Gcb.val x), .bool (Pict.isB x), .int .i64 (Conj.val x), .int .i64 (East.val x)] rfl rfl (cell_new4 _ _ _ _ _ _) (by simp [Value.oneCell']) (by unfold maxLen; omega) (by omega) (by simp; omega) ?_; intro v' w3 hown' hgrow _)
      go_roundw
      case rel =>
        refine ⟨k + 1, by omega, by go_num, ?_, (HB.out.alloc hz1' _).grown hgrow (by simp; omega) (fun g e => (hown.lt g e).1)⟩
        have e : pc xs k = [.int .i64 (Gcb.val x), .bool (Pict.isB x), .int .i64 (Conj.val x), .int .i64 (East.val x)] := by unfold pc; rw [HP.out]; rfl
        show World.ownsRow w3 _ _ _ _ _ (pcells xs k ++ pc xs k)
        rw [e]
        exact hown'
      case measure => simp [intOf]; omega
    · obtain rfl : k = n := by omega
      go_wp2
      go_ret
      exact ⟨_, rfl, H.out.1, H.out.2⟩

set_option maxHeartbeats 4000000 in
theorem starts_ref (a : Option Addr) (n c : Nat) (xs : List Int) (w : World) (h : Runes w a n c xs) (hn : n ≤ 100000) :
    Calls Tryz.prog 50 #[.slice a n c] w fun e w' => Fresh w w' 3 1 (cnt (Jn xs) n) (nums (starts (Jn xs) n)) e := by
  obtain ⟨i0, hi, hz0, hz1, hz2⟩ := info_parts info_int
  have HH := Lib.hid h
  clear h
  go_enter Tryz.func50, Tryz.ntmps50
  go_wp2_with fail
  refine (props_any a n c xs w HH.out hn).mono ?_
  rintro e w1 ⟨v, rfl, hown, hb1⟩
  obtain ⟨A1, C1, rfl⟩ := own_slice hown
  have HO := Lib.hid hown
  have hs1 := hb1.size
  have HB := Lib.hid hb1
  clear hown hb1 HH
  go_wp2
  go_loopw [3, 5] (fun v i wr => ∃ k : Nat, k ≤ n ∧ i = .int .i64 k ∧ Hid (wr.ownsRow w1.heap.size 3 1 v (cnt (Jn xs) k) (nums (starts (Jn xs) k)) ∧ Below w1.heap.size w1 wr)) (fun _ i _ => n - (intOf i).toNat)
  case atStart => exact ⟨0, Nat.zero_le _, rfl, World.ownsRow_nil _ _ _ _, Below.refl _ _⟩
  case round =>
    obtain ⟨k, hk, rfl, H⟩ := hrel
    by_cases hlt : k < n
    · obtain ⟨g, rfl, hg, hC⟩ := cells_of_own HO.out (by omega)
      have hC2 := Seg.Cells.below hC H.out.2 hg
      have hlt' : (k : Int) < n := by omega
      go_wp2_with fail
      refine (Seg.joins_ref g 0 n C1 (props xs) k wr hC2 (Nat.lt_of_lt_of_le hg H.out.2.size) hlt (by omega)).mono ?_
      rintro e w2 ⟨rfl, hb2⟩
      have hown := (Turn.of_new hb2 : Turn (fun _ => False) wr w2).kept H.out.1 (fun _ _ => id)
      have hB1 := H.out.2.trans (hb2.mono H.out.2.size)
      have hz1' := hB1.size
      have hcl := cnt_le (J := Jn xs) k
      have HB1 := Lib.hid hB1
      clear hb2 hB1 hC hC2
      have ej : Seg.joinsR (props xs) k = Jn xs k := rfl
      rw [ej]
      clear ej
      rcases hj : Jn xs k with _ | _
      · have HJ := Lib.hid hj
        clear hj
        go_wp2_with (at_builtin; refine wpList_append_own _ rfl _ _ 33 rfl w1.heap.size 3 i0 _ 1 8 Tryz.underlying33 hi hz0 hz1 hz2 rfl (by decide) _ (cnt (Jn xs) k) _ rfl (hown.alloc _) ⟨w2.heap.size, 0, none⟩ 1 1 [.int .i64 k] rfl rfl (cell_new1 _ _ _) (by simp [Value.oneCell']) (by unfold maxLen; omega) (by omega) (by simp; omega) ?_; intro v' w3 hown' hgrow _)
        go_roundw
        case rel =>
          refine ⟨k + 1, by omega, by go_num, ?_, (HB1.out.alloc hz1' _).grown hgrow (by simp; omega) (fun g e => (hown.lt g e).1)⟩
          have e : nums (starts (Jn xs) (k + 1)) = nums (starts (Jn xs) k) ++ [.int .i64 (k : Int)] := by simp [starts, HJ.out, nums]
          rw [e, cnt_new HJ.out]
          exact hown'
        case measure => simp [intOf]; omega
      · have HJ := Lib.hid hj
        clear hj
        go_wp2
        go_roundw
        case rel =>
          refine ⟨k + 1, by omega, by go_num, ?_, HB1.out⟩
          have e : starts (Jn xs) (k + 1) = starts (Jn xs) k := by simp [starts, HJ.out]
          rw [e, cnt_join HJ.out]
          exact hown
        case measure => simp [intOf]; omega
    · obtain rfl : k = n := by omega
      go_wp2
      go_ret
      exact ⟨_, rfl, H.out.1.mono hs1, HB.out.trans (H.out.2.mono hs1)⟩

end Go.Proofs.YtcbfmokafmagpaaGreat.Gra

namespace Go.Proofs.YtcbfmokafmagpaaGreat.Gra
set_option linter.unusedSimpArgs false
set_option linter.unusedVariables false
open Go Go.RowKit Go.Shelf Mem Turn GraLaw Same

theorem bnd_nums (J : Nat → Bool) (n : Nat) : nums (starts J n) ++ [.int .i64 (n : Int)] = nums (bnd J n) := by simp [nums, bnd]
theorem nums_get {l : List Nat} {k x : Nat} (h : l[k]? = some x) : (nums l)[k]? = some (.int .i64 (x : Int)) := by simp [nums, h]

set_option maxRecDepth 100000 in
set_option maxHeartbeats 8000000 in
theorem clusters_ref (a : Option Addr) (n c : Nat) (xs : List Int) (w : World) (h : Runes w a n c xs) (hn : n ≤ 100000) :
    Calls Tryz.prog 43 #[.slice a n c] w fun e w' => ∃ v, e = .returned v ∧ Lists w' w.heap.size v (cls xs) ∧ Below w.heap.size w w' := by
  obtain ⟨i0, hi, hz0, hz1, hz2⟩ := info_parts info_int
  obtain ⟨i1, hi1, hy0, hy1, hy2⟩ := info_parts info_i32
  obtain ⟨i2, hi2, hx0, hx1, hx2⟩ := info_parts info_sl
  have hmx : Tryz.prog.follows .mixedOrders = true := by kernel_rfl
  have HH := Lib.hid h
  have hcn := h.le
  have hcm := h.max
  have hcl := cnt_le (J := Jn xs) n
  have HL := Lib.hid h.ints.1
  clear h
  go_enter Tryz.func43, Tryz.ntmps43
  go_wp2_with fail
  refine (starts_ref a n c xs w HH.out hn).mono ?_
  rintro e w1 ⟨v, rfl, hown, hb1⟩
  have hs1 := hb1.size
  go_wp2_with (at_builtin; refine wpList_append_own _ rfl _ _ 33 rfl w.heap.size 3 i0 _ 1 8 Tryz.underlying33 hi hz0 hz1 hz2 rfl (by decide) _ (cnt (Jn xs) n) _ rfl (hown.alloc _) ⟨w1.heap.size, 0, none⟩ 1 1 [.int .i64 n] rfl rfl (cell_new1 _ _ _) (by simp [Value.oneCell']) (by unfold maxLen; omega) (by omega) (by simp; omega) ?_; intro v2 w2 hown2 hgrow2 _)
  rw [bnd_nums] at hown2
  obtain ⟨g, C2, rfl⟩ := ownsRow_succ hown2
  have hB2 : Below w.heap.size w w2 := (hb1.alloc hs1 _).grown hgrow2 (by simp; omega) (fun g e => (hown.lt g e).1)
  have hs2 := hB2.size
  have hg2 : g < w2.heap.size := (hown2.lt g rfl).2
  have hgc : Hid (∀ k x : Nat, (bnd (Jn xs) n)[k]? = some x → w2.cell? ⟨g, k, none⟩ = some (.int .i64 (x : Int))) := fun k x hx => by
    have := hown2.cells (g := g) rfl k _ (nums_get hx)
    rw [add_none, Nat.zero_add] at this
    exact this
  have HR2 := Lib.hid (HH.out.below hB2)
  have HB2 := Lib.hid hB2
  clear hown hb1 hgrow2 hown2 hB2 HH
  go_wp2
  go_loopw [3, 5] (fun v i wr => ∃ k : Nat, k ≤ cnt (Jn xs) n ∧ i = .int .i64 k ∧ Hid (Part wr w2.heap.size v k (cl xs) ∧ Below w2.heap.size w2 wr)) (fun _ i _ => cnt (Jn xs) n - (intOf i).toNat)
  case atStart => exact ⟨0, Nat.zero_le _, rfl, ⟨[], rfl, World.ownsRow_nil _ _ _ _, fun i hi => absurd hi (by omega)⟩, Below.refl _ _⟩
  case round =>
    obtain ⟨k, hk, rfl, H⟩ := hrel
    by_cases hlt : k < cnt (Jn xs) n
    · have hk0 := st_get (J := Jn xs) (n := n) (k := k) hk
      have hk1 := st_get (J := Jn xs) (n := n) (k := k + 1) hlt
      have hmo := st_mono (J := Jn xs) (n := n) (j := k) (k := k + 1) (by omega) hlt
      have hle := st_le (J := Jn xs) (n := n) (k := k + 1) hlt
      have c0 := (H.out.2.cell (p := ⟨g, k, none⟩) hg2).trans (hgc.out _ _ hk0)
      have c1 := (H.out.2.cell (p := ⟨g, k + 1, none⟩) hg2).trans (hgc.out _ _ hk1)
      have hcle : cl xs k = (xs.drop (st (Jn xs) n k)).take (st (Jn xs) n (k + 1) - st (Jn xs) n k) := by unfold cl; rw [HL.out]
      have hcll := cl_len xs (k := k) (by rw [HL.out]; exact hlt)
      rw [HL.out] at hcll
      obtain ⟨hl, h0 | ⟨b, off, rfl, hb, hc⟩⟩ := HR2.out.ints
      · omega
      obtain ⟨⟨vs, hv1, hv2, hv3⟩, hBr⟩ := H.out
      have hbr := hBr.size
      have hbw : b < wr.heap.size := by omega
      generalize st (Jn xs) n (k + 1) = s1 at *
      generalize st (Jn xs) n k = s0 at *
      have HC : Hid (∀ j u, ((cl xs k).map (Value.int .i32))[j]? = some u → wr.cell? ⟨b, off + s0 + j, none⟩ = some u) := by
        intro j u hj
        rw [List.getElem?_map, Option.map_eq_some_iff] at hj
        obtain ⟨x, hx, rfl⟩ := hj
        rw [hcle, List.getElem?_take] at hx
        split at hx
        · rw [List.getElem?_drop] at hx
          have := (hBr.cell (p := ⟨b, off + (s0 + j), none⟩) hb).trans (hc _ _ hx)
          rw [Nat.add_assoc]; exact this
        · cases hx
      have HV3 := Lib.hid hv3
      have HV1 := Lib.hid hv1
      have HBr := Lib.hid hBr
      have HCL := Lib.hid hcll
      clear hk0 hk1 hcle hc hl hv3 H hBr hv1 hcll
      have hlt' : (k : Int) + 1 < (cnt (Jn xs) n : Int) + 1 := by omega
      generalize hcnt : cnt (Jn xs) n = cn at *
      have HCN := Lib.hid hcnt
      clear hcnt
      have x1 : IntKind.i64.wrap ((k : Int) + 1) = (k : Int) + 1 := IntWalk.i64_in _ (by omega)
      go_wp2
      refine region_begin (fun w' => w'.cell? ⟨g, k, none⟩ = some (.int .i64 (s0 : Int)) ∧ w'.cell? ⟨g, k + 1, none⟩ = some (.int .i64 (s1 : Int))) (fun j => j == 16) hmx ?_
      have hS : wr.drew.cell? ⟨g, k, none⟩ = some (.int .i64 (s0 : Int)) ∧ wr.drew.cell? ⟨g, k + 1, none⟩ = some (.int .i64 (s1 : Int)) := ⟨c0, c1⟩
      have hn9 : (n : Int) ≤ c := by omega
      have hs9 : (s0 : Int) ≤ s1 := by omega
      have hs8 : (s1 : Int) ≤ c := by omega
      have hs7 : (s0 : Int) < c := by omega
      have hk9 : (k : Int) < (cn : Int) + 1 := by omega
      have hk8 : (k : Int) + 1 < (cn : Int) + 1 := by omega
      have hk7 : (0 : Int) ≤ (k : Int) + 1 := by omega
      refine take_first (i := 0) rfl (by kernel_rfl) (by kernel_rfl) (by kernel_rfl) (by kernel_rfl) (fun _ _ _ h => h) hS (.inl ⟨by rfl, fun w' hw' => by obtain ⟨e0, e1⟩ := hw'; go_simp; try with_reducible rfl⟩) ?_
      refine take_first (i := 2) rfl (by kernel_rfl) (by kernel_rfl) (by kernel_rfl) (by kernel_rfl) (fun _ _ _ h => h) hS (.inl ⟨by rfl, fun w' hw' => by obtain ⟨e0, e1⟩ := hw'; go_simp; try with_reducible rfl⟩) ?_
      refine take_first (i := 3) rfl (by kernel_rfl) (by kernel_rfl) (by kernel_rfl) (by kernel_rfl) (fun _ _ _ h => h) hS (.inl ⟨by rfl, fun w' hw' => by obtain ⟨e0, e1⟩ := hw'; go_simp; try with_reducible rfl⟩) ?_
      refine take_first (i := 4) rfl (by kernel_rfl) (by kernel_rfl) (by kernel_rfl) (by kernel_rfl) (fun _ _ _ h => h) hS (.inl ⟨by rfl, fun w' hw' => by obtain ⟨e0, e1⟩ := hw'; go_simp; try with_reducible rfl⟩) ?_
      refine take_first (i := 5) rfl (by kernel_rfl) (by kernel_rfl) (by kernel_rfl) (by kernel_rfl) (fun _ _ _ h => h) hS (.inl ⟨by rfl, fun w' hw' => by obtain ⟨e0, e1⟩ := hw'; go_simp; try with_reducible rfl⟩) ?_
      refine take_first (i := 6) rfl (by kernel_rfl) (by kernel_rfl) (by kernel_rfl) (by kernel_rfl) (fun _ _ _ h => h) hS (.inl ⟨by rfl, fun w' hw' => by obtain ⟨e0, e1⟩ := hw'; go_simp; try with_reducible rfl⟩) ?_
      refine take_first (i := 7) rfl (by kernel_rfl) (by kernel_rfl) (by kernel_rfl) (by kernel_rfl) (fun _ _ _ h => h) hS (.inl ⟨by rfl, fun w' hw' => by obtain ⟨e0, e1⟩ := hw'; go_simp; try with_reducible rfl⟩) ?_
      refine take_first (i := 8) rfl (by kernel_rfl) (by kernel_rfl) (by kernel_rfl) (by kernel_rfl) (fun _ _ _ h => h) hS (.inl ⟨by rfl, fun w' hw' => by obtain ⟨e0, e1⟩ := hw'; go_simp; try with_reducible rfl⟩) ?_
      refine take_first (i := 9) rfl (by kernel_rfl) (by kernel_rfl) (by kernel_rfl) (by kernel_rfl) (fun _ _ _ h => h) hS (.inl ⟨by rfl, fun w' hw' => by obtain ⟨e0, e1⟩ := hw'; go_simp; try with_reducible rfl⟩) ?_
      refine take_first (i := 10) rfl (by kernel_rfl) (by kernel_rfl) (by kernel_rfl) (by kernel_rfl) (fun _ _ _ h => h) hS (.inl ⟨by rfl, fun w' hw' => by obtain ⟨e0, e1⟩ := hw'; go_simp; try with_reducible rfl⟩) ?_
      refine take_first (i := 11) rfl (by kernel_rfl) (by kernel_rfl) (by kernel_rfl) (by kernel_rfl) (fun _ _ _ h => h) hS (.inl ⟨by rfl, fun w' hw' => by obtain ⟨e0, e1⟩ := hw'; go_simp; try with_reducible rfl⟩) ?_
      refine take_first (i := 12) rfl (by kernel_rfl) (by kernel_rfl) (by kernel_rfl) (by kernel_rfl) (fun _ _ _ h => h) hS (.inl ⟨by rfl, fun w' hw' => by obtain ⟨e0, e1⟩ := hw'; go_simp; try with_reducible rfl⟩) ?_
      generalize hm : s1 - s0 = m at *
      have HM := Lib.hid hm
      clear hm
      have hmn : m ≤ 100000 := by have := HM.out; omega
      have H3 : Hid ((wr.alloc (.cells #[] 21)).ownsRow wr.heap.size 21 1 (.slice (some ⟨wr.heap.size, 0, none⟩) 0 0) 0 []) := World.ownsRow_made wr #[] 0 (Nat.le_refl _) (by unfold maxLen; omega) rfl
      have hCL : Hid (((cl xs k).map (Value.int .i32)).length = m * 1) := by rw [List.length_map, HCL.out]; exact Lib.hid (by omega)
      refine take_one (i := 1) (by kernel_rfl) rfl rfl fun K hK => ?_
      go_wp2
      have S1 : (wr.alloc (.cells #[] 21)).drew.cell? ⟨g, k, none⟩ = some (.int .i64 (s0 : Int)) ∧ (wr.alloc (.cells #[] 21)).drew.cell? ⟨g, k + 1, none⟩ = some (.int .i64 (s1 : Int)) := by
        refine ⟨?_, ?_⟩
        · show (wr.alloc _).cell? _ = _
          rw [World.cell?_alloc_lt _ _ _ (by show g < _; omega)]; exact c0
        · show (wr.alloc _).cell? _ = _
          rw [World.cell?_alloc_lt _ _ _ (by show g < _; omega)]; exact c1
      refine hK _ _ (.inr S1) ?_
      clear hK
      refine take_one (i := 13) (by kernel_rfl) rfl rfl fun K hK => ?_
      refine wp_append_own _ _ _ 22 rfl wr.heap.size 21 i1 _ 1 4 Tryz.underlying22 hi1 hy0 hy1 hy2 rfl (by decide) (.slice (some ⟨wr.heap.size, 0, none⟩) 0 0) 0 [] rfl H3.out ⟨b, off + s0, none⟩ m (c - s0) ((cl xs k).map (Value.int .i32)) rfl hCL.out ?_ (one_cells _ _) (by unfold maxLen; omega) (by omega) (by simp) ?_
      · intro j u hj
        rw [add_none]
        show (wr.alloc _).cell? _ = _
        rw [World.cell?_alloc_lt _ _ _ (by show b < _; omega)]
        exact HC.out j u hj
      intro v1 w3 hown1 hgrow1 _
      rw [Nat.zero_add, List.nil_append] at hown1
      obtain ⟨A1, C1, rfl⟩ := own_slice hown1
      have T1 : Turn (fun j => wr.heap.size ≤ j) wr w3 := ((Turn.alloc _ _ _).trans (Turn.drew _ _)).trans (Turn.of_grown hgrow1 (fun j e => by injection (show some wr.heap.size = some j from e) with e; omega))
      have S2 : w3.cell? ⟨g, k, none⟩ = some (.int .i64 (s0 : Int)) ∧ w3.cell? ⟨g, k + 1, none⟩ = some (.int .i64 (s1 : Int)) := ⟨T1.cell c0 (by show ¬ _ ≤ g; omega), T1.cell c1 (by show ¬ _ ≤ g; omega)⟩
      have hw3 := T1.size
      have hv3 := T1.kept hv2 (fun g' hg' h => by have := (hv2.lt g' hg').2; omega)
      have HT1 := Lib.hid T1
      have HO1 := Lib.hid hown1
      refine hK _ _ (.inr S2) ?_
      clear hK hgrow1 T1 hown1 S1 H3
      refine take_one (i := 14) (by kernel_rfl) rfl rfl fun K hK => ?_
      go_wp2
      refine hK _ _ (.inr ?_) ?_
      · refine ⟨?_, ?_⟩
        · show (w3.alloc _).cell? _ = _
          rw [World.cell?_alloc_lt _ _ _ (by show g < _; omega)]; exact S2.1
        · show (w3.alloc _).cell? _ = _
          rw [World.cell?_alloc_lt _ _ _ (by show g < _; omega)]; exact S2.2
      clear hK
      refine take_one (i := 15) (by kernel_rfl) rfl rfl fun K hK => ?_
      refine wp_append_own _ _ _ 35 rfl w2.heap.size 22 i2 _ 1 24 Tryz.underlying35 hi2 hx0 hx1 hx2 rfl (by decide) _ k vs rfl (hv3.alloc _) ⟨w3.heap.size, 0, none⟩ 1 1 [.slice A1 m C1] rfl rfl (cell_new1 _ _ _) (by simp [Value.oneCell']) (by unfold maxLen; have := HCN.out; omega) (by have := HCN.out; omega) (by simp; omega) ?_
      intro v4 w4 hown4 hgrow4 _
      have T4 : Turn (fun j => Value.ownBlock u3 = some j) w3 w4 := (Turn.alloc _ _ _).trans (Turn.of_grown hgrow4 (fun j e => e))
      have hv5 : ∀ j, Value.ownBlock u3 = some j → w2.heap.size ≤ j ∧ j < wr.heap.size := hv2.lt
      have R : Hid (Part w4 w2.heap.size v4 (k + 1) (cl xs) ∧ Below w2.heap.size w2 w4) := by
        refine ⟨⟨vs ++ [.slice A1 m C1], by simp [HV1.out], hown4, fun i hi => ?_⟩, (HBr.out.trans (HT1.out.below (by omega) (fun j hj => Nat.le_trans hbr hj))).trans (T4.below (by omega) (fun j hj => (hv5 j hj).1))⟩
        rcases Nat.lt_or_ge i k with hik | hik
        · obtain ⟨a', n', c', e1, e2⟩ := HV3.out i hik
          have e3 := HT1.out.kept e2 (fun g' hg' h => by have := (e2.lt g' hg').2; omega)
          refine ⟨a', n', c', by rw [List.getElem?_append_left (by rw [HV1.out]; exact hik)]; exact e1, T4.kept e3 (fun g' hg' hx => rows_ne hv2 e2 (by decide) hx hg')⟩
        · have : i = k := by omega
          subst this
          refine ⟨A1, m, C1, by rw [List.getElem?_append_right (by rw [HV1.out]; exact Nat.le_refl _)]; simp [HV1.out], (T4.kept HO1.out (fun g' hg' hx => by have := (HO1.out.lt g' hg').1; have := (hv5 _ hx).2; omega)).mono (by omega)⟩
      refine hK _ _ (.inr ⟨T4.cell S2.1 (fun h => by have := (hv5 _ h).1; simp at this; omega), T4.cell S2.2 (fun h => by have := (hv5 _ h).1; simp at this; omega)⟩) ?_
      clear hK hgrow4 T4 hown4 S2 c0 c1 hS
      refine take_one (i := 16) (by kernel_rfl) rfl rfl fun K hK => ?_
      go_wp2
      refine hK _ _ (.inl rfl) ?_
      refine take_done (by kernel_rfl) ?_ _
      clear hK
      go_wp2
      go_roundw
      case rel => exact ⟨k + 1, by omega, by go_num, R⟩
      case measure => simp [intOf]; omega
    · obtain rfl : k = cnt (Jn xs) n := by omega
      go_wp2
      go_ret
      obtain ⟨⟨vs, h2, h4, h5⟩, hBr⟩ := H.out
      have hll : (cls xs).length = cnt (Jn xs) n := by simp [cls, HL.out]
      refine ⟨_, rfl, ⟨vs, by rw [h2, hll], by rw [hll]; exact h4.mono hs2, fun i ys hi => ?_⟩, HB2.out.trans (hBr.mono hs2)⟩
      have hil : i < cnt (Jn xs) n := by
        have := (List.getElem?_eq_some_iff.1 hi).1
        rwa [hll] at this
      have hy : cl xs i = ys := by
        simp only [cls, List.getElem?_map, HL.out, List.getElem?_range hil] at hi
        injection hi
      subst hy
      obtain ⟨a', n', c', e1, e2⟩ := h5 i hil
      exact ⟨a', n', c', e1, e2.mono hs2⟩

end Go.Proofs.YtcbfmokafmagpaaGreat.Gra

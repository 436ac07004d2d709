/-
  The reference of layer 16: Props, Starts.
-/
import Derived.Test.YtihanlahegngoaaClone
import Derived.Test.YtihanlahegngoaaSegH
namespace Go.Proofs.Ytihanlahegngoaa.Gra
set_option linter.unusedSimpArgs false
set_option linter.unusedVariables false
open Go Go.RowKit Go.Shelf Mem Turn GraLaw Same

set_option maxHeartbeats 4000000 in
theorem props_any (a : Option Addr) (n c : Nat) (xs : List Int) (w : World) (h : Runes w a n c xs) (hn : n ≤ 100000) :
    Calls Try.prog 61 #[.slice a n c] w fun e w' => Fresh w w' 29 4 n (pcells xs n) e := by
  obtain ⟨i0, hi, hz0, hz1, hz2⟩ := info_parts info_prop
  have HI := Lib.hid h.ints
  have HR := Lib.hid h.r32
  have HL := Lib.hid h.ints.1
  clear h
  go_enter Try.func61, Try.ntmps61
  go_wp2
  go_loopw [3, 4] (fun v i wr => ∃ k : Nat, k ≤ n ∧ i = .int .i64 k ∧ Hid (wr.ownsRow w.heap.size 29 4 v k (pcells xs k) ∧ Below w.heap.size w wr)) (fun _ i _ => n - (intOf i).toNat)
  case atStart => exact ⟨0, Nat.zero_le _, rfl, World.ownsRow_nil _ _ _ _, Below.refl _ _⟩
  case round =>
    obtain ⟨k, hk, rfl, H⟩ := hrel
    by_cases hlt : k < n
    · obtain ⟨x, hx⟩ : ∃ x, xs[k]? = some x := ⟨_, List.getElem?_eq_getElem (by rw [HL.out]; exact hlt)⟩
      obtain ⟨hl, h0 | ⟨b, off, rfl, hb, hc⟩⟩ := HI.out
      · omega
      have hcx := (H.out.2.cell (p := ⟨b, off + k, none⟩) hb).trans (hc k x hx)
      obtain ⟨hr1, hr2⟩ := HR.out.at hx
      have hlt' : (k : Int) < n := by omega
      have HP : Hid (props xs k = prop x) := by unfold props; rw [List.getD_eq_getElem?_getD, hx]; exact Lib.hid rfl
      clear hx hc hl
      go_wp2_with fail
      refine (Ucd.ref_any x hr1 hr2 _).mono ?_
      rintro e w1 ⟨rfl, hb1⟩
      have hown := (Turn.of_new hb1 : Turn (fun _ => False) wr w1).kept H.out.1 (fun _ _ => id)
      have hB1 := H.out.2.trans (hb1.mono H.out.2.size)
      have hz1' := hB1.size
      clear hb1 hcx
      unfold Ucd.ofV Ucd.propV
      have HB := Lib.hid hB1
      clear hB1
      go_wp2_with (at_builtin; refine wpList_append_own _ rfl _ _ 27 rfl w.heap.size 29 i0 _ 4 32 Try.underlying27 hi hz0 hz1 hz2 rfl (by decide) _ k _ rfl (hown.alloc _) ⟨w1.heap.size, 0, none⟩ 1 1 [.int .i64 (Gcb.val x), .bool (Pict.isB x), .int .i64 (Conj.val x), .int .i64 (East.val x)] rfl rfl (cell_new4 _ _ _ _ _ _) (by simp [Value.oneCell']) (by unfold maxLen; omega) (by omega) (by simp; omega) ?_; intro v' w3 hown' hgrow _)
      go_roundw
      case rel =>
        refine ⟨k + 1, by omega, by go_num, ?_, (HB.out.alloc hz1' _).grown hgrow (by simp; omega) (fun g e => (hown.lt g e).1)⟩
        have e : pc xs k = [.int .i64 (Gcb.val x), .bool (Pict.isB x), .int .i64 (Conj.val x), .int .i64 (East.val x)] := by unfold pc; rw [HP.out]; rfl
        show World.ownsRow w3 _ _ _ _ _ (pcells xs k ++ pc xs k)
        rw [e]
        exact hown'
      case measure => simp [intOf]; omega
    · obtain rfl : k = n := by omega
      go_wp2
      go_ret
      exact ⟨_, rfl, H.out.1, H.out.2⟩

set_option maxHeartbeats 4000000 in
theorem starts_ref (a : Option Addr) (n c : Nat) (xs : List Int) (w : World) (h : Runes w a n c xs) (hn : n ≤ 100000) :
    Calls Try.prog 23 #[.slice a n c] w fun e w' => Fresh w w' 3 1 (cnt (Jn xs) n) (nums (starts (Jn xs) n)) e := by
  obtain ⟨i0, hi, hz0, hz1, hz2⟩ := info_parts info_int
  have HH := Lib.hid h
  clear h
  go_enter Try.func23, Try.ntmps23
  go_wp2_with fail
  refine (props_any a n c xs w HH.out hn).mono ?_
  rintro e w1 ⟨v, rfl, hown, hb1⟩
  obtain ⟨A1, C1, rfl⟩ := own_slice hown
  have HO := Lib.hid hown
  have hs1 := hb1.size
  have HB := Lib.hid hb1
  clear hown hb1 HH
  go_wp2
  go_loopw [3, 5] (fun v i wr => ∃ k : Nat, k ≤ n ∧ i = .int .i64 k ∧ Hid (wr.ownsRow w1.heap.size 3 1 v (cnt (Jn xs) k) (nums (starts (Jn xs) k)) ∧ Below w1.heap.size w1 wr)) (fun _ i _ => n - (intOf i).toNat)
  case atStart => exact ⟨0, Nat.zero_le _, rfl, World.ownsRow_nil _ _ _ _, Below.refl _ _⟩
  case round =>
    obtain ⟨k, hk, rfl, H⟩ := hrel
    by_cases hlt : k < n
    · obtain ⟨g, rfl, hg, hC⟩ := cells_of_own HO.out (by omega)
      have hC2 := Seg.Cells.below hC H.out.2 hg
      have hlt' : (k : Int) < n := by omega
      go_wp2_with fail
      refine (Seg.joins_ref g 0 n C1 (props xs) k wr hC2 (Nat.lt_of_lt_of_le hg H.out.2.size) hlt (by omega)).mono ?_
      rintro e w2 ⟨rfl, hb2⟩
      have hown := (Turn.of_new hb2 : Turn (fun _ => False) wr w2).kept H.out.1 (fun _ _ => id)
      have hB1 := H.out.2.trans (hb2.mono H.out.2.size)
      have hz1' := hB1.size
      have hcl := cnt_le (J := Jn xs) k
      have HB1 := Lib.hid hB1
      clear hb2 hB1 hC hC2
      have ej : Seg.joinsR (props xs) k = Jn xs k := rfl
      rw [ej]
      clear ej
      rcases hj : Jn xs k with _ | _
      · have HJ := Lib.hid hj
        clear hj
        go_wp2_with (at_builtin; refine wpList_append_own _ rfl _ _ 37 rfl w1.heap.size 3 i0 _ 1 8 Try.underlying37 hi hz0 hz1 hz2 rfl (by decide) _ (cnt (Jn xs) k) _ rfl (hown.alloc _) ⟨w2.heap.size, 0, none⟩ 1 1 [.int .i64 k] rfl rfl (cell_new1 _ _ _) (by simp [Value.oneCell']) (by unfold maxLen; omega) (by omega) (by simp; omega) ?_; intro v' w3 hown' hgrow _)
        go_roundw
        case rel =>
          refine ⟨k + 1, by omega, by go_num, ?_, (HB1.out.alloc hz1' _).grown hgrow (by simp; omega) (fun g e => (hown.lt g e).1)⟩
          have e : nums (starts (Jn xs) (k + 1)) = nums (starts (Jn xs) k) ++ [.int .i64 (k : Int)] := by simp [starts, HJ.out, nums]
          rw [e, cnt_new HJ.out]
          exact hown'
        case measure => simp [intOf]; omega
      · have HJ := Lib.hid hj
        clear hj
        go_wp2
        go_roundw
        case rel =>
          refine ⟨k + 1, by omega, by go_num, ?_, HB1.out⟩
          have e : starts (Jn xs) (k + 1) = starts (Jn xs) k := by simp [starts, HJ.out]
          rw [e, cnt_join HJ.out]
          exact hown
        case measure => simp [intOf]; omega
    · obtain rfl : k = n := by omega
      go_wp2
      go_ret
      exact ⟨_, rfl, H.out.1.mono hs1, HB.out.trans (H.out.2.mono hs1)⟩

end Go.Proofs.Ytihanlahegngoaa.Gra

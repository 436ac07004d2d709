/-
  The reference of layer 19, Of; works.
-/
import Derived.Test.YtihanlahegngoaaCwOf
import Derived.OwnWalk
namespace Go.Proofs.Ytihanlahegngoaa.Cw
set_option linter.unusedSimpArgs false
set_option linter.unusedVariables false
open Go Go.RowKit Mem Seg Gra Turn

theorem isProps_of_own {w : World} {base : Nat} {a : Option Addr} {n c : Nat} {xs : List Int} (h : w.ownsRow base 29 4 (.slice a n c) n (pcells xs n)) : IsProps w a n c (props xs) := by
  rcases Nat.eq_zero_or_pos n with h0 | h0
  · exact .inl h0
  · obtain ⟨g, rfl, hg, hC⟩ := cells_of_own h h0
    refine .inr ⟨g, 0, rfl, ?_, ?_, hg, hC⟩
    · rcases h.2 with ⟨_, h1⟩ | ⟨g', cap, cur, h1, _, _, h4, _⟩
      · omega
      · injection h1 with _ _ h1; omega
    · rcases h.2 with ⟨_, h1⟩ | ⟨g', cap, cur, h1, _, _, h4, h5, _⟩
      · omega
      · injection h1 with _ _ h1; omega

set_option maxHeartbeats 4000000 in
theorem ref_of (a : Option Addr) (n c : Nat) (xs : List Int) (w : World) (h : Runes w a n c xs) (hn : n ≤ 100000) :
    Calls Try.prog 17 #[.slice a n c] w fun e w' => e = .returned (.int .i64 (width xs)) ∧ Below w.heap.size w w' := by
  obtain ⟨i0, hi, hz0, hz1, hz2⟩ := info_parts info_prop
  have HI := Lib.hid h.ints
  have HR := Lib.hid h.r32
  have HL := Lib.hid h.ints.1
  have HW : Hid (width xs = wid (wideTo (num xs) (props xs) n)) := by unfold width; rw [HL.out]; exact Lib.hid rfl
  clear h
  go_enter Try.func17, Try.ntmps17
  go_wp2
  go_loopw [3, 4] (fun v i wr => ∃ k : Nat, k ≤ n ∧ i = .int .i64 k ∧ Hid (wr.ownsRow w.heap.size 29 4 v k (pcells xs k) ∧ Below w.heap.size w wr)) (fun _ i _ => n - (intOf i).toNat)
  case atStart => exact ⟨0, Nat.zero_le _, rfl, World.ownsRow_nil _ _ _ _, Below.refl _ _⟩
  case round =>
    obtain ⟨k, hk, rfl, H⟩ := hrel
    by_cases hlt : k < n
    · obtain ⟨x, hx⟩ : ∃ x, xs[k]? = some x := ⟨_, List.getElem?_eq_getElem (by rw [HL.out]; exact hlt)⟩
      obtain ⟨hl, h0 | ⟨b, off, rfl, hb, hc⟩⟩ := HI.out
      · omega
      have hcx := (H.out.2.cell (p := ⟨b, off + k, none⟩) hb).trans (hc k x hx)
      obtain ⟨hr1, hr2⟩ := HR.out.at hx
      have hlt' : (k : Int) < n := by omega
      have HP : Hid (props xs k = prop x) := by unfold props; rw [List.getD_eq_getElem?_getD, hx]; exact Lib.hid rfl
      clear hx hc hl
      go_wp2_with fail
      refine (Ucd.ref_any x hr1 hr2 _).mono ?_
      rintro e w1 ⟨rfl, hb1⟩
      have hown := (Turn.of_new hb1 : Turn (fun _ => False) wr w1).kept H.out.1 (fun _ _ => id)
      have hB1 := H.out.2.trans (hb1.mono H.out.2.size)
      have hz1' := hB1.size
      clear hb1 hcx
      unfold Ucd.ofV Ucd.propV
      have HB := Lib.hid hB1
      clear hB1
      go_wp2_with (at_builtin; refine wpList_append_own _ rfl _ _ 27 rfl w.heap.size 29 i0 _ 4 32 Try.underlying27 hi hz0 hz1 hz2 rfl (by decide) _ k _ rfl (hown.alloc _) ⟨w1.heap.size, 0, none⟩ 1 1 [.int .i64 (Gcb.val x), .bool (Pict.isB x), .int .i64 (Conj.val x), .int .i64 (East.val x)] rfl rfl (cell_new4 _ _ _ _ _ _) (by simp [Value.oneCell']) (by unfold maxLen; omega) (by omega) (by simp; omega) ?_; intro v' w3 hown' hgrow _)
      go_roundw
      case rel =>
        refine ⟨k + 1, by omega, by go_num, ?_, (HB.out.alloc hz1' _).grown hgrow (by simp; omega) (fun g e => (hown.lt g e).1)⟩
        have e : pc xs k = [.int .i64 (Gcb.val x), .bool (Pict.isB x), .int .i64 (Conj.val x), .int .i64 (East.val x)] := by unfold pc; rw [HP.out]; rfl
        show World.ownsRow w3 _ _ _ _ _ (pcells xs k ++ pc xs k)
        rw [e]
        exact hown'
      case measure => simp [intOf]; omega
    · obtain rfl : k = n := by omega
      have hown := H.out.1
      obtain ⟨A1, C1, rfl⟩ := own_slice hown
      have HO := Lib.hid (isProps_of_own hown)
      have HB := Lib.hid H.out.2
      have HI2 := Lib.hid (HI.out.below HB.out)
      clear hown H
      go_wp2_with fail
      refine (row_any a _ c xs A1 C1 (props xs) wr HI2.out HO.out (by omega)).mono ?_
      rintro e w1 ⟨rfl, hb1⟩
      have HB1 := Lib.hid (HB.out.trans (hb1.mono HB.out.size))
      clear hb1
      go_wp2
      go_ret
      exact ⟨by rw [HW.out]; rfl, HB1.out⟩

theorem runes_new (w : World) (xs : List Int) (n : Nat) (hx : xs.length = n) (hr : R32 xs) (hn : n ≤ 100000) (cs : Array Value) (hcs : cs = (xs.map (Value.int .i32)).toArray) (T : TypeId) :
    Runes (w.alloc (.cells cs T)) (some ⟨w.heap.size, 0, none⟩) n n xs := by
  subst hcs
  refine ⟨⟨hx, .inr ⟨_, _, rfl, by simp, fun i x hi => ?_⟩⟩, hr, Nat.le_refl _, by omega⟩
  show (w.alloc _).cell? ⟨w.heap.size, 0 + i, none⟩ = _
  have h1 : (w.alloc (.cells (xs.map (Value.int .i32)).toArray T)).heap[w.heap.size]? = some (.cells (xs.map (Value.int .i32)).toArray T) := World.alloc_heap_new w _
  rw [Nat.zero_add]
  simp only [World.cell?, h1]
  simp [hi]

theorem runes_nil (w : World) : Runes w none 0 0 [] := ⟨⟨rfl, .inl rfl⟩, fun _ h => by simp at h, Nat.le_refl _, by omega⟩

theorem f1 : width [10084] = 1 := by kernel_rfl
theorem f2 : width [10084, 65039] = 2 := by kernel_rfl
theorem f3 : width [127465, 127466] = 2 := by kernel_rfl
theorem f4 : width [101, 769] = 1 := by kernel_rfl
theorem f5 : width [] = 1 := by kernel_rfl

set_option maxHeartbeats 2000000 in
theorem works_any (w : World) :
    Calls Try.prog 15 #[] w fun e w' => e = .returned (.bool true) ∧ Below w.heap.size w w' := by
  go_enter Try.func15, Try.ntmps15
  go_wp2_with fail
  have R1 := runes_new w [10084] 1 rfl (by intro x hx; simp at hx; omega) (by omega) #[.int .i32 10084] rfl 21
  have B1 : Below w.heap.size w (w.alloc (.cells #[.int .i32 10084] 21)) := (Below.refl _ _).alloc (Nat.le_refl _) _
  generalize (w.alloc (.cells #[.int .i32 10084] 21)) = w1 at *
  refine (of_any _ _ _ _ _ R1).mono ?_; rintro e w2 ⟨rfl, h2⟩; rw [f1]
  have B2 := B1.trans (h2.mono B1.size)
  clear R1 B1 h2
  go_wp2_with fail
  have R1 := runes_new w2 [10084, 65039] 2 rfl (by intro x hx; simp at hx; omega) (by omega) #[.int .i32 10084, .int .i32 65039] rfl 21
  have B1 := B2.alloc B2.size (.cells #[.int .i32 10084, .int .i32 65039] 21)
  generalize (w2.alloc (.cells #[.int .i32 10084, .int .i32 65039] 21)) = w3 at *
  refine (of_any _ _ _ _ _ R1).mono ?_; rintro e w4 ⟨rfl, h2⟩; rw [f2]
  have B4 := B1.trans (h2.mono B1.size)
  clear R1 B1 h2 B2
  go_wp2_with fail
  have R1 := runes_new w4 [127465, 127466] 2 rfl (by intro x hx; simp at hx; omega) (by omega) #[.int .i32 127465, .int .i32 127466] rfl 21
  have B1 := B4.alloc B4.size (.cells #[.int .i32 127465, .int .i32 127466] 21)
  generalize (w4.alloc (.cells #[.int .i32 127465, .int .i32 127466] 21)) = w5 at *
  refine (of_any _ _ _ _ _ R1).mono ?_; rintro e w6 ⟨rfl, h2⟩; rw [f3]
  have B6 := B1.trans (h2.mono B1.size)
  clear R1 B1 h2 B4
  go_wp2_with fail
  have R1 := runes_new w6 [101, 769] 2 rfl (by intro x hx; simp at hx; omega) (by omega) #[.int .i32 101, .int .i32 769] rfl 21
  have B1 := B6.alloc B6.size (.cells #[.int .i32 101, .int .i32 769] 21)
  generalize (w6.alloc (.cells #[.int .i32 101, .int .i32 769] 21)) = w7 at *
  refine (of_any _ _ _ _ _ R1).mono ?_; rintro e w8 ⟨rfl, h2⟩; rw [f4]
  have B8 := B1.trans (h2.mono B1.size)
  clear R1 B1 h2 B6
  go_wp2_with fail
  refine (of_any _ _ _ _ _ (runes_nil w8)).mono ?_; rintro e w9 ⟨rfl, h2⟩; rw [f5]
  have B9 := B8.trans (h2.mono B8.size)
  clear h2 B8
  go_wp2
  go_ret
  exact ⟨rfl, B9⟩

set_option maxHeartbeats 2000000 in
theorem tells_any (w : World) (a : Option Addr) (n c : Nat) (zs : List Int) (hs : Runes w a n c zs) :
    Calls Try.prog 3 #[.slice a n c] w fun e w' => e = .returned (.bool true) ∧ Below w.heap.size w w' := by
  have hm : n ≤ 9223372036854775807 := Nat.le_trans hs.le hs.max
  have HS := Lib.hid hs
  clear hs
  by_cases h1 : 1000 < n
  · have d1 : decide (1000 < (n : Int)) = true := by simp; omega
    go_enter Try.func3, Try.ntmps3
    go_wp2_with fail
    refine (works_any _).mono ?_; rintro e w1 ⟨rfl, hb1⟩
    go_wp2
    go_ret
    exact ⟨rfl, hb1⟩
  · have d1 : decide (1000 < (n : Int)) = false := by simp; omega
    go_enter Try.func3, Try.ntmps3
    go_wp2_with fail
    refine (of_any _ _ _ zs _ HS.out).mono ?_; rintro e w1 ⟨rfl, hb1⟩
    have hr1 := Lib.hid (HS.out.below hb1)
    have hb1 := Lib.hid hb1
    go_wp2_with fail
    refine (ref_of _ _ _ zs _ hr1.out (by omega)).mono ?_; rintro e w2 ⟨rfl, hb2⟩
    have hb2 := Lib.hid (hb1.out.trans (hb2.mono hb1.out.size))
    generalize width zs = x at *
    have exx : (x == x) = true := by simp
    clear hr1 hb1
    go_wp2_with fail
    refine (works_any _).mono ?_; rintro e w3 ⟨rfl, hb3⟩
    have hb3 := Lib.hid (hb2.out.trans (hb3.mono hb2.out.size))
    clear hb2
    go_wp2
    go_ret
    exact ⟨rfl, hb3.out⟩

end Go.Proofs.Ytihanlahegngoaa.Cw

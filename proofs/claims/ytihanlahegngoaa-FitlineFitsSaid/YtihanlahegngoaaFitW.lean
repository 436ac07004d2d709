/-
  fitline.Count; works of layer 22.
-/
import Derived.Test.YtihanlahegngoaaFitL
namespace Go.Proofs.Ytihanlahegngoaa.Fit
set_option linter.unusedSimpArgs false
set_option linter.unusedVariables false
open Go Go.RowKit Go.Shelf Mem Seg Turn Gra Same GraLaw Mea

set_option maxHeartbeats 2000000 in
theorem count22_any (a : Option Addr) (n c : Nat) (xs : List Int) (w : World) (h : Runes w a n c xs) (hn : n ≤ 1000) (x W m0 : Int) (hx1 : -9223372036854775808 ≤ x) (hx2 : x ≤ 9223372036854775807) (hm0 : (if (1024 : Int) < x then (1024 : Int) else x) = m0) (hW : (if (1 : Int) < m0 then m0 else (1 : Int)) = W) :
    Calls Try.prog 53 #[.slice a n c, .int .i64 x] w fun e w' => e = .returned (.int .i64 (fl W xs).length) ∧ Below w.heap.size w w' := by
  have HC := Lib.hid (lines_any a n c xs w h hn x W m0 hx1 hx2 hm0 hW)
  clear hm0 hW h
  go_enter Try.func53, Try.ntmps53
  go_wp2_with fail
  refine HC.out.mono ?_
  rintro e w1 ⟨v, rfl, hl, hb⟩
  obtain ⟨a1, c1, rfl⟩ := lists_slice hl
  obtain ⟨L, hL⟩ : ∃ L, (fl W xs).length = L := ⟨_, rfl⟩
  have HLL := Lib.hid hL
  rw [hL]
  clear hL hl
  go_wp2
  go_ret
  exact ⟨by rw [HLL.out]; rfl, hb⟩

theorem h1 : fl 2 [97, 19968, 98] = [[97], [19968], [98]] := by kernel_rfl
theorem h2 : fl 5 [] = [[]] := by kernel_rfl

set_option maxRecDepth 100000 in
set_option maxHeartbeats 4000000 in
theorem works22_any (w : World) :
    Calls Try.prog 50 #[] w fun e w' => e = .returned (.bool true) ∧ Below w.heap.size w w' := by
  go_enter Try.func50, Try.ntmps50
  go_wp2_with fail
  have R1 := runes_new w [97, 19968, 98] 3 rfl (by intro x hx; simp at hx; omega) (by omega) #[.int .i32 97, .int .i32 19968, .int .i32 98] rfl 21
  have B1 : Below w.heap.size w (w.alloc (.cells #[.int .i32 97, .int .i32 19968, .int .i32 98] 21)) := (Below.refl _ _).alloc (Nat.le_refl _) _
  generalize (w.alloc (.cells #[.int .i32 97, .int .i32 19968, .int .i32 98] 21)) = w1 at *
  have HL := Lib.hid (lines_any _ _ _ _ _ R1 (by omega) 2 2 2 (by omega) (by omega) rfl rfl)
  rw [h1] at HL
  have HB1 := Lib.hid B1
  clear R1 B1
  refine HL.out.mono ?_
  rintro e w2 ⟨v, rfl, hl, hb⟩
  obtain ⟨a1, c1, rfl⟩ := lists_slice hl
  obtain ⟨g, rfl, hg, hat⟩ := lists_own hl (by decide)
  obtain ⟨a', n', c', q1, q2⟩ := hat 1 [19968] rfl
  have hn' : 1 = n' := by have := q2.1; simpa using this
  subst hn'
  obtain ⟨hl9, h0 | ⟨b, off, rfl, hb9, hc9⟩⟩ := (ints_of_own q2 : Ints .i32 w2 a' 1 [19968])
  · omega
  have c0 := hc9 0 19968 rfl
  rw [Nat.add_zero] at c0
  have HB2 := Lib.hid (HB1.out.trans (hb.mono HB1.out.size))
  clear hl hat q2 hc9 hb HL
  rw [show ([[97], [19968], [98]] : List (List Int)).length = 3 from rfl]
  have HC := Lib.hid (count22_any none 0 0 [] w2 (runes_nil w2) (by omega) 5 5 5 (by omega) (by omega) rfl rfl)
  rw [h2] at HC
  go_wp2_with fail
  refine HC.out.mono ?_
  rintro e w3 ⟨rfl, hb3⟩
  have HB3 := Lib.hid (HB2.out.trans (hb3.mono HB2.out.size))
  go_wp2
  go_ret
  exact ⟨rfl, HB3.out⟩

end Go.Proofs.Ytihanlahegngoaa.Fit

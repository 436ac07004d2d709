/-
  linotypelaw07.works.
-/
import Derived.Test.YtpeniadomjijcaaPackT
import Derived.Test.YtpeniadomjijcaaPackR
namespace Go.Proofs.Ytpeniadomjijcaa.Pack
set_option linter.unusedSimpArgs false
set_option linter.unusedVariables false
open Go Go.RowKit Mem Turn Sp TabLaw

theorem TabOf.drewN {w : World} {v : Value} {l : List S3} (h : TabOf w v l) (n : Nat) : TabOf (w.drewN n) v l := h.below (bdrew w n)
theorem LAt.drewN {w : World} {a : Option Addr} {n c : Nat} {l : List S3} (h : LAt w a n c l) (d : Nat) : LAt (w.drewN d) a n c l := h.below (bdrew w d)

theorem one_span_at {W : World} {g : Nat} {s : S3} (hh : W.heap[g]? = some (.cells #[.int .i64 s.1, .int .i64 s.2.1, .int .i64 s.2.2] 29 (0, 0))) : LAt W (some ⟨g, 0, none⟩) 1 1 [s] := by
  refine ⟨rfl, Nat.le_refl _, .inr ⟨g, 0, rfl, (Array.getElem?_eq_some_iff.1 hh).1, fun k t hk => ?_⟩⟩
  match k, hk with
  | 0, hk =>
    simp at hk
    subst hk
    exact ⟨by simp [World.cell?, hh], by simp [World.cell?, hh], by simp [World.cell?, hh]⟩

/-- Build at a right list, the words put together -/
theorem build_of (a : Option Addr) (n c : Nat) (l : List S3) (hr : Right l) (hn : n ≤ 100000) (w : World) (hl : LAt w a n c l) :
    Calls Try.prog 8 #[.slice a n c] w fun e w' => ∃ qt, e = .returned (.pointer (some ⟨qt, 0, none⟩)) ∧ w.heap.size ≤ qt ∧ TabOf w' (.pointer (some ⟨qt, 0, none⟩)) l ∧ Below w.heap.size w w' :=
  (build_any a n c l hr hn w hl (right_yes a n c l w hl hr hn)).mono fun e w' ⟨qt, base, h1, h2, h3, h4, h5, h6⟩ => ⟨qt, h1, h2, ⟨qt, base, rfl, h5⟩, h6⟩

set_option maxRecDepth 100000 in
set_option maxHeartbeats 4000000 in
theorem build_not (a : Option Addr) (n c : Nat) (l : List S3) (hr : ¬ Right l) (hn : n ≤ 100000) (w : World) (hl : LAt w a n c l) :
    Calls Try.prog 8 #[.slice a n c] w fun e w' => e = .returned (.pointer none) ∧ Below w.heap.size w w' := by
  have HC := Lib.hid (right_no a n c l w hl hr hn)
  clear hr hl
  go_enter Try.func8, Try.ntmps8
  go_wp2_with fail
  refine HC.out.mono ?_
  rintro e w1 ⟨rfl, hb1⟩
  have HB1 := Lib.hid hb1
  clear hb1 HC
  go_wp2_with fail
  go_ret
  exact ⟨rfl, HB1.out⟩

set_option maxRecDepth 100000 in
set_option maxHeartbeats 4000000 in
theorem works_ok (w : World) : Calls Try.prog 6 #[] w fun e w' => e = .returned (.bool true) ∧ Below w.heap.size w w' := by
  have G1 : Hid (∀ v X, TabOf X v l0 → Calls Try.prog 11 #[v] X fun e w' => e = .returned (.int .i64 3) ∧ X = w') := Lib.hid fun v X h => by
    have := blocks_any v l0 X h
    rwa [tab_l0_len] at this
  have G2 : Hid (∀ v X, TabOf X v l0 → Calls Try.prog 12 #[v, .int .i64 300] X fun e w' => e = .returned (.int .i64 7) ∧ ∃ d, w' = X.drewN d) := Lib.hid fun v X h => by
    have := get_any v l0 right_l0 300 X h
    rwa [val_l0, if_pos (by omega)] at this
  have G3 : Hid (∀ v X, TabOf X v l0 → Calls Try.prog 12 #[v, .int .i64 301] X fun e w' => e = .returned (.int .i64 0) ∧ ∃ d, w' = X.drewN d) := Lib.hid fun v X h => by
    have := get_any v l0 right_l0 301 X h
    rwa [val_l0, if_neg (by omega)] at this
  have G4 : Hid (∀ v X, TabOf X v l0 → Calls Try.prog 9 #[v, .int .i64 2] X fun e w' => e = .returned (.int .i64 2) ∧ X = w') := Lib.hid fun v X h => by
    have := block_any v l0 2 X h
    rwa [show (2 : Int) = ((2 : Nat) : Int) from rfl, blk_l0 2 (by omega) (by omega)] at this
  have G5 : Hid (∀ v X, TabOf X v l0 → Calls Try.prog 9 #[v, .int .i64 4351] X fun e w' => e = .returned (.int .i64 2) ∧ X = w') := Lib.hid fun v X h => by
    have := block_any v l0 4351 X h
    rwa [show (4351 : Int) = ((4351 : Nat) : Int) from rfl, blk_l0 4351 (by omega) (by omega)] at this
  have G6 : Hid (∀ v X, TabOf X v l0 → Calls Try.prog 9 #[v, .int .i64 4352] X fun e w' => e = .returned (.int .i64 (-1)) ∧ X = w') := Lib.hid fun v X h => by
    have := block_any v l0 4352 X h
    rwa [blk_out] at this
  have HBd : Hid (Below w.heap.size w (w.alloc (.cells #[.int .i64 1, .int .i64 300, .int .i64 7] 29))) := Lib.hid ((Below.refl _ _).alloc (Nat.le_refl _) _)
  have HLA : Hid (LAt (w.alloc (.cells #[.int .i64 1, .int .i64 300, .int .i64 7] 29)) (some ⟨w.heap.size, 0, none⟩) 1 1 l0) := Lib.hid (by
    exact one_span_at (heap_alloc_new w _))
  go_enter Try.func6, Try.ntmps6
  go_wp2_with fail
  refine (build_of (some ⟨w.heap.size, 0, none⟩) 1 1 l0 right_l0 (by omega) _ HLA.out).mono ?_
  rintro e w1 ⟨qt, rfl, hq, ht, hb⟩
  have HT := Lib.hid ht
  have HB := Lib.hid (HBd.out.trans (hb.mono HBd.out.size))
  clear ht hb hq HBd HLA
  go_wp2_with fail
  refine (G1.out _ w1 HT.out).mono ?_
  rintro e w2 ⟨rfl, rfl⟩
  go_wp2_with fail
  refine (G2.out _ w1 HT.out).mono ?_
  rintro e w2 ⟨rfl, d1, rfl⟩
  go_wp2_with fail
  refine (G3.out _ _ (HT.out.drewN d1)).mono ?_
  rintro e w2 ⟨rfl, d2, rfl⟩
  have HT2 := Lib.hid ((HT.out.drewN d1).drewN d2)
  have HB2 := Lib.hid (HB.out.trans ((bdrew _ _).trans ((bdrew (w1.drewN d1) d2)) |>.mono HB.out.size))
  generalize (w1.drewN d1).drewN d2 = w2 at *
  go_wp2_with fail
  refine (G4.out _ w2 HT2.out).mono ?_
  rintro e w3 ⟨rfl, rfl⟩
  go_wp2_with fail
  refine (G5.out _ w2 HT2.out).mono ?_
  rintro e w3 ⟨rfl, rfl⟩
  go_wp2_with fail
  refine (G6.out _ w2 HT2.out).mono ?_
  rintro e w3 ⟨rfl, rfl⟩
  go_wp2_with fail
  go_ret
  exact ⟨rfl, HB2.out⟩
end Go.Proofs.Ytpeniadomjijcaa.Pack

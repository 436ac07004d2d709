/-
  works of layer 57.
-/
import Derived.Test.YtcbfmokafmagpaaGreatExp
namespace Go.Proofs.YtcbfmokafmagpaaGreat.Stops
set_option linter.unusedSimpArgs false
set_option linter.unusedVariables false
open Go Go.RowKit Go.Shelf Mem Turn Gra Same GraLaw Mea

theorem mem_ev {N k : Nat} {y : Int} : y ∈ ev N k ↔ ∃ i, i < k ∧ y = (((i + 1) * N : Nat) : Int) := by
  unfold ev
  rw [List.mem_map]
  constructor
  · rintro ⟨i, hi, rfl⟩
    exact ⟨i, List.mem_range.1 hi, rfl⟩
  · rintro ⟨i, hi, rfl⟩
    exact ⟨i, List.mem_range.2 hi, rfl⟩

theorem v1 : NextQ (· ∈ ev 4 255) 1 4 := by
  refine .inl ⟨mem_ev.2 ⟨0, by omega, by rfl⟩, by omega, ?_⟩
  intro y hy h1
  obtain ⟨i, hi, rfl⟩ := mem_ev.1 hy
  omega
theorem v2 : NextQ (· ∈ ev 4 255) 4 8 := by
  refine .inl ⟨mem_ev.2 ⟨1, by omega, by rfl⟩, by omega, ?_⟩
  intro y hy h1
  obtain ⟨i, hi, rfl⟩ := mem_ev.1 hy
  omega
theorem v3 : PrevQ (· ∈ ev 4 255) 4 0 := by
  refine .inr ⟨rfl, ?_⟩
  intro y hy h1
  obtain ⟨i, hi, rfl⟩ := mem_ev.1 hy
  omega
theorem v4 : cnt (Jn [97, 9, 98]) ([97, 9, 98] : List Int).length = 3 := by kernel_rfl
theorem v5 : cl [97, 9, 98] 0 = [97] := by kernel_rfl
theorem v6 : cl [97, 9, 98] 1 = [9] := by kernel_rfl
theorem v7 : cl [97, 9, 98] 2 = [98] := by kernel_rfl
theorem v8 : wideV [97] = 1 := by kernel_rfl
theorem v9 : wideV [98] = 1 := by kernel_rfl
theorem v10 : gapN (· ∈ ev 4 255) 1 = 3 := by
  unfold gapN
  rw [nxt_eq v1]
  rfl
theorem v11 : (xE (· ∈ ev 4 255) (cl [97, 9, 98]) (cnt (Jn [97, 9, 98]) ([97, 9, 98] : List Int).length)).1 = [97, 32, 32, 32, 98] := by
  rw [v4]
  have e1 : xE (· ∈ ev 4 255) (cl [97, 9, 98]) 1 = ([97], 1) := by
    show stepE _ ([], 0) (cl [97, 9, 98] 0) = _
    rw [v5, step_else (by decide) (by decide), v8]
    rfl
  have e2 : xE (· ∈ ev 4 255) (cl [97, 9, 98]) 2 = ([97, 32, 32, 32], 4) := by
    show stepE _ (xE _ _ 1) (cl [97, 9, 98] 1) = _
    rw [e1, v6, step_tab (by decide)]
    simp only [v10]
    rfl
  have e3 : xE (· ∈ ev 4 255) (cl [97, 9, 98]) 3 = ([97, 32, 32, 32, 98], 5) := by
    show stepE _ (xE _ _ 2) (cl [97, 9, 98] 2) = _
    rw [e2, v7, step_else (by decide) (by decide), v9]
    rfl
  rw [e3]
theorem v12 {K : Nat} (h1 : K * 4 ≤ 1023) (h2 : 1023 < (K + 1) * 4) : K = 255 := by omega

theorem fresh_ints {w w' : World} {n : Nat} {xs : List Int} {e : Ending} (h : Fresh w w' 21 1 n (xs.map (Value.int .i32)) e) : ∃ a c, e = .returned (.slice a n c) ∧ Ints .i32 w' a n xs ∧ Below w.heap.size w w' := by
  obtain ⟨v, rfl, ho, hb⟩ := h
  obtain ⟨a, c, rfl⟩ := own_slice ho
  exact ⟨a, c, rfl, ints_of_own ho, hb⟩

set_option maxRecDepth 100000 in
set_option maxHeartbeats 2000000 in
theorem works_any (w : World) :
    Calls Tryz.prog 20 #[] w fun e w' => e = .returned (.bool true) ∧ Below w.heap.size w w' := by
  go_enter Tryz.func20, Tryz.ntmps20
  go_wp2_with fail
  refine (every_any 4 4 (by decide) w).mono ?_
  rintro e w1 ⟨rfl, ⟨K, hK1, hK2, hst⟩, hb1⟩
  obtain rfl := v12 hK1 hK2
  have hsz : w1.heap.size ≥ w.heap.size + 1 := hst.2.1
  have HST := Lib.hid hst
  have hr : Rise (ev 4 255) := ev_rise (by omega) (by omega)
  clear hK1 hK2 hst
  go_wp2_with fail
  have R1 := runes_new w1 [97, 9, 98] 3 rfl (by intro x hx; simp at hx; omega) (by omega) #[.int .i32 97, .int .i32 9, .int .i32 98] rfl 21
  have B1 : Below w1.heap.size w1 (w1.alloc (.cells #[.int .i32 97, .int .i32 9, .int .i32 98] 21)) := (Below.refl _ _).alloc (Nat.le_refl _) _
  have HB1 := Lib.hid (hb1.trans (B1.mono hb1.size))
  have HST1 := Lib.hid (HST.out.below B1)
  clear hb1 B1 HST
  generalize (w1.alloc (.cells #[.int .i32 97, .int .i32 9, .int .i32 98] 21)) = w2 at *
  refine (expand_any w.heap.size (w.heap.size + 1) (ev 4 255) hr w2 HST1.out _ _ _ _ R1 (by omega)).mono ?_
  rintro e w3 ⟨o, ho, -, hF⟩
  rw [v11] at ho
  subst ho
  obtain ⟨a3, c3, rfl, hi3, hb3⟩ := fresh_ints hF
  have HI3 := Lib.hid hi3
  have HB3 := Lib.hid (HB1.out.trans (hb3.mono HB1.out.size))
  have HST3 := Lib.hid (HST1.out.below hb3)
  clear hF hi3 hb3 HB1 HST1 R1
  simp only [List.length_cons, List.length_nil] at HI3 ⊢
  go_wp2_with fail
  have R1 := runes_new w3 [97, 32, 32, 32, 98] 5 rfl (by intro x hx; simp at hx; omega) (by omega) #[.int .i32 97, .int .i32 32, .int .i32 32, .int .i32 32, .int .i32 98] rfl 21
  have B4 : Below w3.heap.size w3 (w3.alloc (.cells #[.int .i32 97, .int .i32 32, .int .i32 32, .int .i32 32, .int .i32 98] 21)) := (Below.refl _ _).alloc (Nat.le_refl _) _
  have HI4 := Lib.hid (HI3.out.below B4)
  have HB4 := Lib.hid (HB3.out.trans (B4.mono HB3.out.size))
  have HST4 := Lib.hid (HST3.out.below B4)
  clear B4 HI3 HB3 HST3
  generalize (w3.alloc (.cells #[.int .i32 97, .int .i32 32, .int .i32 32, .int .i32 32, .int .i32 98] 21)) = w4 at *
  refine (same_true _ _ _ _ _ _ _ w4 HI4.out R1.ints (by omega)).mono ?_
  rintro e w5 ⟨rfl, hb5⟩
  have HB5 := Lib.hid (HB4.out.trans (hb5.mono HB4.out.size))
  have HST5 := Lib.hid (HST4.out.below hb5)
  clear hb5 R1 HI4 HB4 HST4
  go_wp2_with fail
  refine (next_any _ _ _ hr w5 HST5.out 4).mono ?_
  rintro e w6 ⟨⟨r, rfl, hr1⟩, rfl⟩
  obtain rfl := nextQ_one hr1 v2
  clear hr1
  go_wp2_with fail
  refine (prev_any _ _ _ hr w5 HST5.out 4).mono ?_
  rintro e w6 ⟨⟨r, rfl, hr1⟩, rfl⟩
  obtain rfl := prevQ_one hr1 v3
  clear hr1
  go_wp2_with fail
  refine (all_any _ _ _ hr w5 HST5.out).mono ?_
  rintro e w6 ⟨v, rfl, hown, hb6⟩
  rw [ev_len] at hown
  obtain ⟨a6, c6, rfl⟩ := own_slice hown
  have HB6 := Lib.hid (HB5.out.trans (hb6.mono HB5.out.size))
  clear hown hb6 HB5 HST5
  go_wp2
  go_ret
  exact ⟨rfl, HB6.out⟩

end Go.Proofs.YtcbfmokafmagpaaGreat.Stops

/-
  The walk of a reference that looks through its lists, one by one.
-/
import Derived.Test.YtihanlahegngoaaIn
import Derived.Test.YtihanlahegngoaaConjRef
namespace Go.Proofs.Ytihanlahegngoaa.ConjRefW
set_option linter.unusedSimpArgs false
set_option linter.unusedVariables false
open Go.RowKit Mem Tab

noncomputable def tabs : List (List Int) := [ConjTab.l1, ConjTab.l2, ConjTab.l3]
noncomputable def LL : List (List (Int × Int)) := tabs.map TabLaw.pairs

theorem l1_pairs : (TabLaw.pairs ConjTab.l1).length = 26 := by kernel_rfl
theorem l2_pairs : (TabLaw.pairs ConjTab.l2).length = 6 := by kernel_rfl
theorem l3_pairs : (TabLaw.pairs ConjTab.l3).length = 18 := by kernel_rfl

def Lists (W : World) (base blk : Nat) : Prop := ∀ k L, tabs[k]? = some L → ∃ n : Nat, W.cell? ⟨blk, k, none⟩ = some (.slice (some ⟨base + k, 0, none⟩) n n) ∧ Blk W (base + k) (L.map (Value.int .i64)) ∧ L.length = 2 * n ∧ (TabLaw.pairs L).length = n ∧ (n : Int) < 4611686018427387904

noncomputable def refv (r : Int) : Int := (match TabLaw.which LL r with | some k => (k : Int) + 1 | none => 0)

theorem LL_len : LL.length = 3 := rfl
theorem tabs_len : tabs.length = 3 := rfl

theorem which_some {r : Int} {k : Nat} {L : List Int} (h : tabs[k]? = some L) (h1 : (TabLaw.pairs L).any (TabLaw.hasP r) = true) (h2 : ∀ l ∈ LL.take k, l.any (TabLaw.hasP r) = false) : TabLaw.which LL r = some k := by
  have hk : k < LL.length := by unfold LL; rw [List.length_map]; exact (List.getElem?_eq_some_iff.1 h).1
  unfold TabLaw.which
  rw [List.findIdx?_eq_some_iff_getElem]
  refine ⟨hk, ?_, ?_⟩
  · have e : LL[k] = TabLaw.pairs L := by
      have : LL[k]? = some (TabLaw.pairs L) := by unfold LL; rw [List.getElem?_map, h]; rfl
      rw [List.getElem?_eq_getElem hk] at this
      exact Option.some.inj this
    rw [e]; exact h1
  · intro j hj
    have := h2 LL[j] (List.mem_iff_getElem?.2 ⟨j, by rw [List.getElem?_take, if_pos hj, List.getElem?_eq_getElem (by omega)]⟩)
    simp [this]

theorem which_none {r : Int} (h2 : ∀ l ∈ LL.take 3, l.any (TabLaw.hasP r) = false) : TabLaw.which LL r = none := by
  unfold TabLaw.which
  rw [List.findIdx?_eq_none_iff]
  intro l hl
  exact h2 l (by rw [List.take_of_length_le (by rw [LL_len]; exact Nat.le_refl _)]; exact hl)

theorem at_3 (W : World) (base : Nat)
    (c0 : W.cell? ⟨base + 3, 0, none⟩ = some (.slice (some ⟨base + 0, 0, none⟩) 26 26)) (k0 : Blk W (base + 0) (ConjTab.l1.map (Value.int .i64)))
    (c1 : W.cell? ⟨base + 3, 1, none⟩ = some (.slice (some ⟨base + 1, 0, none⟩) 6 6)) (k1 : Blk W (base + 1) (ConjTab.l2.map (Value.int .i64)))
    (c2 : W.cell? ⟨base + 3, 2, none⟩ = some (.slice (some ⟨base + 2, 0, none⟩) 18 18)) (k2 : Blk W (base + 2) (ConjTab.l3.map (Value.int .i64)))
    : Lists W base (base + 3) := by
  intro k L h
  have hk : k < 3 := by have := (List.getElem?_eq_some_iff.1 h).1; rwa [tabs_len] at this
  rcases (show k = 0 ∨ k = 1 ∨ k = 2 by omega) with rfl | rfl | rfl
  · obtain rfl : ConjTab.l1 = L := Option.some.inj h
    exact ⟨26, c0, k0, ConjTab.l1_len, l1_pairs, by omega⟩
  · obtain rfl : ConjTab.l2 = L := Option.some.inj h
    exact ⟨6, c1, k1, ConjTab.l2_len, l2_pairs, by omega⟩
  · obtain rfl : ConjTab.l3 = L := Option.some.inj h
    exact ⟨18, c2, k2, ConjTab.l3_len, l3_pairs, by omega⟩

set_option maxHeartbeats 2000000 in
theorem ref_any (r : Int) (hr1 : -2147483648 ≤ r) (hr2 : r ≤ 2147483647) (w : World) :
    Calls Try.prog 57 #[.int .i32 r] w fun e w' => e = .returned (.int .i64 (refv r)) ∧ Below w.heap.size w w' := by
  go_enter Try.func57, Try.ntmps57
  go_wp2_with fail
  refine (ConjTab.l1_any _).mono ?_
  rintro e w1 ⟨rfl, hb1, hk1, hz1⟩
  go_wp2_with fail
  refine (ConjTab.l2_any _).mono ?_
  rintro e w2 ⟨rfl, hb2, hk2, hz2⟩
  rw [hz1] at hb2 hk2 hz2
  have hk1 := hk1.below hb2 (by omega)
  have hb2 := hb1.trans (hb2.mono (by omega))
  clear hb1
  go_wp2_with fail
  refine (ConjTab.l3_any _).mono ?_
  rintro e w3 ⟨rfl, hb3, hk3, hz3⟩
  rw [hz2] at hb3 hk3 hz3
  have hk1 := hk1.below hb3 (by omega)
  have hk2 := hk2.below hb3 (by omega)
  have hb3 := hb2.trans (hb3.mono (by omega))
  clear hb2
  have hz : w3.heap.size = w.heap.size + 3 := by omega
  go_wp2_with fail
  have c0 : (w3.alloc (.cells #[.slice (some ⟨w.heap.size, 0, none⟩) 26 26, .slice (some ⟨w.heap.size + 1, 0, none⟩) 6 6, .slice (some ⟨w.heap.size + 1 + 1, 0, none⟩) 18 18] 70)).cell? ⟨w.heap.size + 1 + 1 + 1, 0, none⟩ = some (.slice (some ⟨w.heap.size, 0, none⟩) 26 26) := by rw [← hz3]; simp
  have c1 : (w3.alloc (.cells #[.slice (some ⟨w.heap.size, 0, none⟩) 26 26, .slice (some ⟨w.heap.size + 1, 0, none⟩) 6 6, .slice (some ⟨w.heap.size + 1 + 1, 0, none⟩) 18 18] 70)).cell? ⟨w.heap.size + 1 + 1 + 1, 1, none⟩ = some (.slice (some ⟨w.heap.size + 1, 0, none⟩) 6 6) := by rw [← hz3]; simp
  have c2 : (w3.alloc (.cells #[.slice (some ⟨w.heap.size, 0, none⟩) 26 26, .slice (some ⟨w.heap.size + 1, 0, none⟩) 6 6, .slice (some ⟨w.heap.size + 1 + 1, 0, none⟩) 18 18] 70)).cell? ⟨w.heap.size + 1 + 1 + 1, 2, none⟩ = some (.slice (some ⟨w.heap.size + 1 + 1, 0, none⟩) 18 18) := by rw [← hz3]; simp
  have hbW : Below w3.heap.size w3 (w3.alloc (.cells #[.slice (some ⟨w.heap.size, 0, none⟩) 26 26, .slice (some ⟨w.heap.size + 1, 0, none⟩) 6 6, .slice (some ⟨w.heap.size + 1 + 1, 0, none⟩) 18 18] 70)) := (Below.refl _ _).alloc (Nat.le_refl _) _
  generalize (w3.alloc (.cells #[.slice (some ⟨w.heap.size, 0, none⟩) 26 26, .slice (some ⟨w.heap.size + 1, 0, none⟩) 6 6, .slice (some ⟨w.heap.size + 1 + 1, 0, none⟩) 18 18] 70)) = W at *
  have hk1 := hk1.below hbW (by omega)
  have hk2 := hk2.below hbW (by omega)
  have hk3 := hk3.below hbW (by omega)
  have hL : Lists W w.heap.size (w.heap.size + 3) := at_3 W w.heap.size c0 hk1 c1 hk2 c2 hk3
  have HL := Lib.hid hL
  have hbw : Below w.heap.size w W := hb3.trans (hbW.mono (by omega))
  clear hL hbW hb3 hz hz1 hz2 hz3 c0 c1 c2 hk1 hk2 hk3
  go_loop [4] (fun i => ∃ k : Nat, k ≤ 3 ∧ i = .int .i64 k ∧ Hid (∀ l ∈ LL.take k, l.any (TabLaw.hasP r) = false)) (fun i => 3 - (intOf i).toNat)
  case atStart => exact ⟨0, Nat.zero_le _, rfl, Lib.hid (by simp)⟩
  case round =>
    obtain ⟨k, hkn, rfl, hno⟩ := hrel
    by_cases hlt : k < 3
    · have hlt' : (k : Int) < 3 := by omega
      obtain ⟨L, hLk⟩ : ∃ L, tabs[k]? = some L := ⟨_, List.getElem?_eq_getElem (by rw [tabs_len]; exact hlt)⟩
      obtain ⟨n, hc, hbk, hl, hp, hn⟩ := HL.out k L hLk
      have hc' : W.cell? ⟨w.heap.size + 1 + 1 + 1, k, none⟩ = some (.slice (some ⟨w.heap.size + k, 0, none⟩) n n) := hc
      have HBK := Lib.hid hbk
      have HLK := Lib.hid hLk
      have HC := In.in_any (w.heap.size + k) n L r W hr1 hr2 hn hp hl HBK
      clear hc hbk hl hp hLk
      cases hv : (TabLaw.pairs L).any (TabLaw.hasP r) <;> rw [hv] at HC
      · have HV := Lib.hid hv
        have HC := Lib.hid HC
        clear hv
        go_wp2_with (go_at_call 74; refine HC.out.mono ?_; rintro e w' ⟨rfl, rfl⟩)
        go_round
        case rel =>
          refine ⟨k + 1, by omega, by go_num, Lib.hid ?_⟩
          intro l hl
          rw [List.take_add_one] at hl
          rcases List.mem_append.1 hl with h | h
          · exact hno.out l h
          · have e : LL[k]? = some (TabLaw.pairs L) := by unfold LL; rw [List.getElem?_map, HLK.out]; rfl
            rw [e] at h; simp at h; subst h; exact HV.out
        case measure => simp [intOf]; omega
      · have HV := Lib.hid hv
        have HC := Lib.hid HC
        clear hv
        go_wp2_with (go_at_call 74; refine HC.out.mono ?_; rintro e w' ⟨rfl, rfl⟩)
        go_ret
        exact ⟨In.ret_int (by unfold refv; rw [which_some HLK.out HV.out hno.out]), hbw⟩
    · obtain rfl : k = 3 := by omega
      go_wp2
      go_ret
      exact ⟨In.ret_int (by unfold refv; rw [which_none hno.out]), hbw⟩

end Go.Proofs.Ytihanlahegngoaa.ConjRefW

/-
  The walk of a reference that looks through one list of pairs.
-/
import Derived.Test.YtcbfmokafmagpaaGreatTabLaw
import Derived.Test.YtcbfmokafmagpaaGreatMem
namespace Go.Proofs.YtcbfmokafmagpaaGreat.In
set_option linter.unusedSimpArgs false
set_option linter.unusedVariables false
open Go.RowKit Mem

theorem ret_int {k : IntKind} {a b : Int} (h : a = b) : Ending.returned (.int k a) = .returned (.int k b) := by rw [h]
theorem ret_bool {a b : Bool} (h : a = b) : Ending.returned (.bool a) = .returned (.bool b) := by rw [h]


set_option maxHeartbeats 1000000 in
theorem in_any (b n : Nat) (L : List Int) (r : Int) (w : World) (hr1 : -2147483648 ≤ r) (hr2 : r ≤ 2147483647) (hn : (n : Int) < 4611686018427387904) (hL : (TabLaw.pairs L).length = n) (hl : L.length = 2 * n)
    (hk : Hid (Blk w b (L.map (Value.int .i64)))) :
    Calls Tryz.prog 123 #[.slice (some ⟨b, 0, none⟩) n n, .int .i32 r] w fun e w' => e = .returned (.bool ((TabLaw.pairs L).any (TabLaw.hasP r))) ∧ w = w' := by
  have HL := Lib.hid hL
  have Hl := Lib.hid hl
  clear hL hl
  go_enter Tryz.func123, Tryz.ntmps123
  go_wp2
  go_loop [5] (fun i => ∃ k : Nat, k ≤ n ∧ i = .int .i64 k ∧ Hid (∀ t ∈ (TabLaw.pairs L).take k, TabLaw.hasP r t = false)) (fun i => n - (intOf i).toNat)
  case atStart => exact ⟨0, Nat.zero_le _, rfl, Lib.hid (by simp)⟩
  case round =>
    obtain ⟨k, hkn, rfl, hno⟩ := hrel
    by_cases hlt : k < n
    · have hlt' : (k : Int) < n := by omega
      obtain ⟨t, ht⟩ : ∃ t, (TabLaw.pairs L)[k]? = some t := ⟨_, List.getElem?_eq_getElem (by rw [HL.out]; exact hlt)⟩
      obtain ⟨e1, e2⟩ := TabLaw.pairs_get L k t ht
      rw [Nat.mul_comm 2 k] at e1 e2
      have c0 := hk.out.cell (k * 2) _ (getnum _ (by rw [Hl.out]; omega))
      have c1 := hk.out.cell (k * 2 + 1) _ (getnum _ (by rw [Hl.out]; omega))
      rw [e1] at c0
      rw [e2] at c1
      clear e1 e2
      obtain ⟨lo, hi⟩ := t
      have HT := Lib.hid ht
      clear ht
      simp only at c0 c1
      by_cases h1 : lo ≤ r
      · have d1 : decide (lo ≤ r) = true := by simp; omega
        by_cases h2 : r ≤ hi
        · have d2 : decide (r ≤ hi) = true := by simp; omega
          go_wp2
          go_ret
          refine ⟨ret_bool ?_, rfl⟩
          exact (List.any_eq_true.2 ⟨(lo, hi), List.mem_iff_getElem?.2 ⟨k, HT.out⟩, by simp [TabLaw.hasP, d1, d2]⟩).symm
        · have d2 : decide (r ≤ hi) = false := by simp; omega
          go_wp2
          go_round
          case rel =>
            refine ⟨k + 1, by omega, by go_num, Lib.hid ?_⟩
            intro t ht
            rw [List.take_add_one, HT.out] at ht
            rcases List.mem_append.1 ht with h | h
            · exact hno.out t h
            · simp at h; subst h; simp [TabLaw.hasP, d2]
          case measure => simp [intOf]; omega
      · have d1 : decide (lo ≤ r) = false := by simp; omega
        go_wp2
        go_round
        case rel =>
          refine ⟨k + 1, by omega, by go_num, Lib.hid ?_⟩
          intro t ht
          rw [List.take_add_one, HT.out] at ht
          rcases List.mem_append.1 ht with h | h
          · exact hno.out t h
          · simp at h; subst h; simp [TabLaw.hasP, d1]
        case measure => simp [intOf]; omega
    · obtain rfl : k = n := by omega
      go_wp2
      go_ret
      refine ⟨ret_bool ?_, rfl⟩
      refine (List.any_eq_false.2 fun t ht => ?_).symm
      have := hno.out t (by rw [List.take_of_length_le (by rw [HL.out]; exact Nat.le_refl _)]; exact ht)
      simp [this]

end Go.Proofs.YtcbfmokafmagpaaGreat.In

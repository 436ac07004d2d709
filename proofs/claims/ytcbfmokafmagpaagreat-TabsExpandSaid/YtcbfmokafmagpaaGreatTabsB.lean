/-
  The plain law of TabsKeep. No Go in sight.
  linotyperef57: Has, Next, Prev.
-/
import Derived.Test.YtcbfmokafmagpaaGreatTabsA
namespace Go.Proofs.YtcbfmokafmagpaaGreat.Stops
set_option linter.unusedSimpArgs false
set_option linter.unusedVariables false

def wantL (off cols : List Int) (k : Nat) : List Int := (cols.take k).filter fun y => !off.contains y
theorem wantL_in {off cols : List Int} {k : Nat} {y : Int} (h : cols[k]? = some y) (hy : off.contains y = true) : wantL off cols (k + 1) = wantL off cols k := by
  unfold wantL
  rw [List.take_add_one, h, List.filter_append, Option.toList_some, List.filter_cons, hy]
  simp
theorem wantL_out {off cols : List Int} {k : Nat} {y : Int} (h : cols[k]? = some y) (hy : off.contains y = false) : wantL off cols (k + 1) = wantL off cols k ++ [y] := by
  unfold wantL
  rw [List.take_add_one, h, List.filter_append, Option.toList_some, List.filter_cons, hy]
  simp
theorem wantL_len (off cols : List Int) (k : Nat) : (wantL off cols k).length ≤ k := by
  unfold wantL
  have h1 := List.length_filter_le (fun y => !off.contains y) (cols.take k)
  have h2 : (cols.take k).length ≤ k := by rw [List.length_take]; omega
  omega
theorem given_want {off cols : List Int} {n : Nat} (hn : cols.length ≤ n) (y : Int) : Given (wantL off cols n) y ↔ Given cols y ∧ y ∉ off := by
  unfold Given wantL
  rw [List.take_of_length_le hn, List.mem_filter]
  simp only [Bool.not_eq_true', List.contains_eq_mem, decide_eq_false_iff_not]
  constructor
  · rintro ⟨⟨h1, h2⟩, h3⟩
    exact ⟨⟨h1, h3⟩, h2⟩
  · rintro ⟨⟨h1, h3⟩, h2⟩
    exact ⟨⟨h1, h2⟩, h3⟩

theorem count_next (k : Int) : ∀ {cs : List Int}, cs.Pairwise (· < ·) → cs.countP (· < k + 1) = cs.countP (· < k) + (if k ∈ cs then 1 else 0)
  | [], _ => by simp
  | a :: l, h => by
    rw [List.pairwise_cons] at h
    have ih := count_next k h.2
    rw [List.countP_cons, List.countP_cons, ih]
    by_cases h1 : a = k
    · subst h1
      have h2 : a ∉ l := fun hm => by have := h.1 a hm; omega
      simp [h2]
      omega
    · have h3 : (k ∈ a :: l) ↔ k ∈ l := by
        rw [List.mem_cons]
        constructor
        · rintro (h | h)
          · exact absurd h.symm h1
          · exact h
        · exact .inr
      simp only [h3]
      have h4 : decide (a < k + 1) = decide (a < k) := by
        by_cases h5 : a < k
        · simp [h5]; omega
        · simp [h5]; omega
      rw [h4]
      omega
theorem count_first {cs : List Int} (h : Rise cs) : cs.countP (· < (1 : Int)) = 0 := by
  rw [List.countP_eq_zero]
  intro a ha
  have := (h.2 a ha).1
  simp; omega
theorem count_last {cs : List Int} (h : Rise cs) : cs.countP (· < (1024 : Int)) = cs.length := by
  rw [List.countP_eq_length]
  intro a ha
  have := (h.2 a ha).2
  simp; omega
theorem rise_at {cs : List Int} (h : Rise cs) {k : Nat} {x y : Int} (hx : cs[k]? = some x) (hy : cs[k + 1]? = some y) : x < y := by
  obtain ⟨h1, rfl⟩ := List.getElem?_eq_some_iff.1 hx
  obtain ⟨h2, rfl⟩ := List.getElem?_eq_some_iff.1 hy
  exact List.pairwise_iff_getElem.1 h.1 k (k + 1) h1 h2 (by omega)

end Go.Proofs.YtcbfmokafmagpaaGreat.Stops

namespace Go.Proofs.YtcbfmokafmagpaaGreat.Stops
set_option linter.unusedSimpArgs false
set_option linter.unusedVariables false
open Go Go.RowKit Go.Shelf Mem Turn Gra Same GraLaw Mea

noncomputable def hasB (xs : List Int) (x : Int) : Bool := @decide (Given xs x) (Classical.propDecidable _)
theorem hasB_true {xs : List Int} {x : Int} (h : Given xs x) : hasB xs x = true := by unfold hasB; exact @decide_eq_true _ (Classical.propDecidable _) h
theorem hasB_false {xs : List Int} {x : Int} (h : ¬ Given xs x) : hasB xs x = false := by unfold hasB; exact @decide_eq_false _ (Classical.propDecidable _) h

set_option maxHeartbeats 1000000 in
theorem has_any (a : Option Addr) (n c : Nat) (xs : List Int) (w : World) (h : Ints .i64 w a n xs) (hn : n ≤ 100000) (x : Int) :
    Calls Tryz.prog 58 #[.slice a n c, .int .i64 x] w fun e w' => e = .returned (.bool (hasB xs x)) ∧ w = w' := by
  have HI := Lib.hid h
  have HL := Lib.hid h.1
  clear h
  go_enter Tryz.func58, Tryz.ntmps58
  go_wp2
  go_loopw [5] (fun i wr => ∃ k : Nat, k ≤ n ∧ i = .int .i64 k ∧ Hid (∀ y ∈ xs.take k, ¬ (y = x ∧ 1 ≤ x ∧ x ≤ 1023)) ∧ w = wr) (fun i _ => n - (intOf i).toNat)
  case atStart => exact ⟨0, Nat.zero_le _, rfl, (fun y hy => by simp at hy : Hid _), rfl⟩
  case round =>
    obtain ⟨k, hk, rfl, H, rfl⟩ := hrel
    by_cases hlt : k < n
    · have hlt1 : (k : Int) < n := by omega
      have dlt : decide ((k : Int) < (n : Int)) = true := decide_eq_true hlt1
      have u1 : IntKind.i64.wrap ((k : Int) + 1) = (k : Int) + 1 := IntWalk.i64_in _ (by omega)
      obtain ⟨y, b, off, hy, rfl, hb, hcell⟩ := ints_at HI.out hlt
      have HY := Lib.hid hy
      clear hy
      have HN : ¬ (y = x ∧ 1 ≤ x ∧ x ≤ 1023) → Hid (∀ z ∈ xs.take (k + 1), ¬ (z = x ∧ 1 ≤ x ∧ x ≤ 1023)) := fun hq => Lib.hid fun z hz => by
        rw [List.take_add_one, HY.out] at hz
        rcases List.mem_append.1 hz with hz | hz
        · exact H.out z hz
        · simp only [Option.toList_some, List.mem_singleton] at hz
          rw [hz]
          exact hq
      have HN' := Lib.hid HN
      clear HN
      by_cases h1 : y = x
      · have d1 : (y == x) = true := by simp [h1]
        by_cases h2 : 1 ≤ x
        · have d2 : decide (1 ≤ x) = true := decide_eq_true h2
          by_cases h3 : x ≤ 1023
          · have d3 : decide (x ≤ 1023) = true := decide_eq_true h3
            have HP : Hid (hasB xs x = true) := Lib.hid (hasB_true ⟨h1 ▸ List.mem_of_getElem? HY.out, h2, h3⟩)
            clear h1 h2 h3
            go_wp2
            go_ret
            rw [HP.out]
            exact ⟨rfl, rfl⟩
          · have d3 : decide (x ≤ 1023) = false := decide_eq_false h3
            have HQ := HN'.out (fun h => h3 h.2.2)
            clear h1 h2 h3
            go_wp2
            go_roundw
            case rel => exact ⟨k + 1, by omega, by go_num, HQ, trivial⟩
            case measure => simp [intOf]; omega
        · have d2 : decide (1 ≤ x) = false := decide_eq_false h2
          have HQ := HN'.out (fun h => h2 h.2.1)
          clear h1 h2
          go_wp2
          go_roundw
          case rel => exact ⟨k + 1, by omega, by go_num, HQ, trivial⟩
          case measure => simp [intOf]; omega
      · have d1 : (y == x) = false := by simp [h1]
        have HQ := HN'.out (fun h => h1 h.1)
        clear h1
        go_wp2
        go_roundw
        case rel => exact ⟨k + 1, by omega, by go_num, HQ, trivial⟩
        case measure => simp [intOf]; omega
    · obtain rfl : k = n := by omega
      have dlt : decide ((k : Int) < (k : Int)) = false := decide_eq_false (by omega)
      have HP : Hid (hasB xs x = false) := Lib.hid (hasB_false fun hg => H.out x (by rw [List.take_of_length_le (by rw [HL.out]; exact Nat.le_refl _)]; exact hg.1) ⟨rfl, hg.2.1, hg.2.2⟩)
      go_wp2
      go_ret
      rw [HP.out]
      exact ⟨rfl, rfl⟩

set_option maxHeartbeats 1000000 in
theorem rnext_any (a : Option Addr) (n c : Nat) (xs : List Int) (w : World) (h : Ints .i64 w a n xs) (hn : n ≤ 100000) (x : Int) :
    Calls Tryz.prog 44 #[.slice a n c, .int .i64 x] w fun e w' => (∃ r, e = .returned (.int .i64 r) ∧ NextQ (Given xs) x r) ∧ w = w' := by
  have HC := Lib.hid (has_any a n c xs w h hn)
  clear h
  go_enter Tryz.func44, Tryz.ntmps44
  go_wp2
  go_loopw [5] (fun i wr => ∃ k : Nat, 1 ≤ k ∧ k ≤ 1024 ∧ i = .int .i64 k ∧ Hid (∀ y, Given xs y → y < k → ¬ x < y) ∧ w = wr) (fun i _ => 1024 - (intOf i).toNat)
  case atStart => exact ⟨1, Nat.le_refl _, by omega, rfl, (fun y hy h => by have := hy.2.1; omega : Hid _), rfl⟩
  case round =>
    obtain ⟨k, hk1, hk, rfl, H, rfl⟩ := hrel
    by_cases hlt : k ≤ 1023
    · have hlt1 : (k : Int) ≤ 1023 := by omega
      have dlt : decide ((k : Int) ≤ 1023) = true := decide_eq_true hlt1
      have u1 : IntKind.i64.wrap ((k : Int) + 1) = (k : Int) + 1 := IntWalk.i64_in _ (by omega)
      by_cases h1 : x < (k : Int)
      · have d1 : decide (x < (k : Int)) = true := decide_eq_true h1
        by_cases h2 : Given xs (k : Int)
        · have HP : Hid (NextQ (Given xs) x (k : Int)) := Lib.hid (.inl ⟨h2, h1, fun y hy hxy => by
            rcases Int.lt_or_le y k with h3 | h3
            · exact absurd hxy (H.out y hy h3)
            · exact h3⟩)
          have e1 := hasB_true h2
          clear h1 h2
          go_wp2_with fail
          refine (HC.out _).mono ?_
          rw [e1]
          rintro e w1 ⟨rfl, rfl⟩
          go_wp2
          go_ret
          exact ⟨⟨_, rfl, HP.out⟩, rfl⟩
        · have HQ : Hid (∀ y, Given xs y → y < ((k + 1 : Nat) : Int) → ¬ x < y) := Lib.hid fun y hy h3 => by
            rcases Int.lt_or_le y k with h4 | h4
            · exact H.out y hy h4
            · have : y = k := by omega
              subst this
              exact absurd hy h2
          have e1 := hasB_false h2
          clear h1 h2
          go_wp2_with fail
          refine (HC.out _).mono ?_
          rw [e1]
          rintro e w1 ⟨rfl, rfl⟩
          go_wp2
          go_roundw
          case rel => exact ⟨k + 1, by omega, by omega, by go_num, Lib.hid (fun y hy h3 => by have := HQ.out y hy h3; omega), trivial⟩
          case measure => simp [intOf]; omega
      · have d1 : decide (x < (k : Int)) = false := decide_eq_false h1
        have HQ : Hid (∀ y, Given xs y → y < ((k + 1 : Nat) : Int) → ¬ x < y) := Lib.hid fun y hy h3 => by omega
        clear h1
        go_wp2
        go_roundw
        case rel => exact ⟨k + 1, by omega, by omega, by go_num, HQ, trivial⟩
        case measure => simp [intOf]; omega
    · obtain rfl : k = 1024 := by omega
      have HP : Hid (NextQ (Given xs) x 1023) := Lib.hid (.inr ⟨rfl, fun y hy => H.out y hy (by have := hy.2.2; omega)⟩)
      go_wp2
      go_ret
      exact ⟨⟨_, rfl, HP.out⟩, rfl⟩

end Go.Proofs.YtcbfmokafmagpaaGreat.Stops

/-
  Two lists of numbers compared: linotyperef01.Same.
-/
import Derived.Test.YtediledehhcicaaMem
import Derived.Deep.QuietTactic
import Derived.BigQuiet
namespace Go.Proofs.Ytediledehhcicaa.Same
set_option linter.unusedSimpArgs false
set_option linter.unusedVariables false
open Go.RowKit Mem

theorem ret_bool {a b : Bool} (h : a = b) : Ending.returned (.bool a) = .returned (.bool b) := by rw [h]

/-- the slice (a, its length, its room) reads as these numbers -/
def Ints (k : IntKind) (w : World) (a : Option Addr) (n : Nat) (xs : List Int) : Prop :=
  xs.length = n ∧ (n = 0 ∨ ∃ b off, a = some ⟨b, off, none⟩ ∧ b < w.heap.size ∧ ∀ i x, xs[i]? = some x → w.cell? ⟨b, off + i, none⟩ = some (.int k x))

theorem Ints.below {k : IntKind} {w w' : World} {a : Option Addr} {n : Nat} {xs : List Int} (h : Ints k w a n xs) (hb : Below w.heap.size w w') : Ints k w' a n xs := by
  obtain ⟨h1, h2⟩ := h
  refine ⟨h1, h2.imp_right ?_⟩
  rintro ⟨b, off, rfl, hl, hc⟩
  exact ⟨b, off, rfl, Nat.lt_of_lt_of_le hl hb.size, fun i x hx => (hb.cell (p := ⟨b, off + i, none⟩) hl).trans (hc i x hx)⟩

theorem take_ne {xs ys : List Int} {k : Nat} {x y : Int} (hx : xs[k]? = some x) (hy : ys[k]? = some y) (h : x ≠ y) : xs ≠ ys := by
  rintro rfl
  rw [hx] at hy
  exact h (Option.some.inj hy)

set_option maxHeartbeats 1000000 in
theorem same_any (a1 : Option Addr) (n1 c1 : Nat) (xs : List Int) (a2 : Option Addr) (n2 c2 : Nat) (ys : List Int) (w : World) (h1 : Ints .i32 w a1 n1 xs) (h2 : Ints .i32 w a2 n2 ys) (hm : n1 ≤ 9223372036854775807) :
    Calls Try.prog 20 #[.slice a1 n1 c1, .slice a2 n2 c2] w fun e w' => e = .returned (.bool (decide (xs = ys))) ∧ Below w.heap.size w w' := by
  obtain ⟨l1, h1⟩ := h1
  obtain ⟨l2, h2⟩ := h2
  have L1 := Lib.hid l1
  have L2 := Lib.hid l2
  clear l1 l2
  by_cases hn : n1 = n2
  · subst hn
    have e0 : ((n1 : Int) != n1) = false := by simp
    have H1 := Lib.hid h1
    have H2 := Lib.hid h2
    clear h1 h2
    go_enter Try.func20, Try.ntmps20
    go_wp2
    go_loopw [5] (fun i wr => ∃ k : Nat, k ≤ n1 ∧ i = .int .i64 k ∧ Hid (xs.take k = ys.take k ∧ Below w.heap.size w wr)) (fun i _ => n1 - (intOf i).toNat)
    case atStart => exact ⟨0, Nat.zero_le _, rfl, by simp, Below.refl _ _⟩
    case round =>
      obtain ⟨k, hk, rfl, HR⟩ := hrel
      by_cases hlt : k < n1
      · rcases H1.out with h0 | ⟨b1, o1, rfl, hb1, hc1⟩
        · omega
        rcases H2.out with h0 | ⟨b2, o2, rfl, hb2, hc2⟩
        · omega
        obtain ⟨x, hx⟩ : ∃ x, xs[k]? = some x := ⟨_, List.getElem?_eq_getElem (by rw [L1.out]; exact hlt)⟩
        obtain ⟨y, hy⟩ : ∃ y, ys[k]? = some y := ⟨_, List.getElem?_eq_getElem (by rw [L2.out]; exact hlt)⟩
        have q1 := (HR.out.2.cell (p := ⟨b1, o1 + k, none⟩) hb1).trans (hc1 k x hx)
        have q2 := (HR.out.2.cell (p := ⟨b2, o2 + k, none⟩) hb2).trans (hc2 k y hy)
        have HX := Lib.hid hx
        have HY := Lib.hid hy
        have hlt' : (k : Int) < n1 := by omega
        clear hc1 hc2 hx hy
        by_cases hxy : x = y
        · subst hxy
          have exy : (x != x) = false := by simp
          go_wp2
          go_quiet (fail)
          go_wp2
          go_roundw
          case rel =>
            refine ⟨k + 1, by omega, by go_num, ?_, HR.out.2.trans ((bdrew _ _).mono HR.out.2.size)⟩
            rw [List.take_add_one, List.take_add_one, HR.out.1, HX.out, HY.out]
          case measure => simp [intOf]; omega
        · have exy : (x != y) = true := by simp [hxy]
          go_wp2
          go_quiet (fail)
          go_wp2
          go_ret
          exact ⟨ret_bool (by rw [decide_eq_false (take_ne HX.out HY.out hxy)]), HR.out.2.trans ((bdrew _ _).mono HR.out.2.size)⟩
      · obtain rfl : k = n1 := by omega
        go_wp2
        go_ret
        refine ⟨ret_bool ?_, HR.out.2⟩
        have e := HR.out.1
        rw [List.take_of_length_le (by rw [L1.out]; exact Nat.le_refl _), List.take_of_length_le (by rw [L2.out]; exact Nat.le_refl _)] at e
        rw [decide_eq_true e]
  · have e0 : ((n1 : Int) != n2) = true := by simp; omega
    clear h1 h2
    go_enter Try.func20, Try.ntmps20
    go_wp2
    go_ret
    refine ⟨ret_bool ?_, Below.refl _ _⟩
    rw [decide_eq_false]
    rintro rfl
    exact hn (L1.out.symm.trans L2.out)

end Go.Proofs.Ytediledehhcicaa.Same

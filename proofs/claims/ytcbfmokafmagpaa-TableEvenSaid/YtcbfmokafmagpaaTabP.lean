/-
  The law's plain of layer 60.
-/
import Derived.Test.YtcbfmokafmagpaaTabA
import Derived.Test.YtcbfmokafmagpaaEven
namespace Go.Proofs.Ytcbfmokafmagpaa.Tbl
set_option linter.unusedSimpArgs false
set_option linter.unusedVariables false
open Go Go.RowKit Go.Shelf Mem Turn Gra Same GraLaw Mea Rep Just

theorem noPre_next {xs : List Int} {k : Nat} {x : Int} (h : NoPre (xs.take k)) (hx : xs[k]? = some x) (hv : Gcb.val x ≠ 7) : NoPre (xs.take (k + 1)) := by
  rw [List.take_add_one, hx]
  exact noPre_app h (fun y hy => by simp at hy; subst hy; exact hv)

def PlainR (xs : List Int) (e : Ending) : Prop := ∃ b, e = .returned (.bool b) ∧ (b = true → NoPre xs ∧ Beg xs)
theorem plainR_mk {xs : List Int} (b : Bool) (h : b = true → NoPre xs ∧ Beg xs) : PlainR xs (.returned (.bool b)) := ⟨b, rfl, h⟩

set_option maxRecDepth 100000 in
set_option maxHeartbeats 2000000 in
theorem plain_any (a : Option Addr) (n c : Nat) (xs : List Int) (w : World) (h : Runes w a n c xs) :
    Calls Try.prog 12 #[.slice a n c] w fun e w' => PlainR xs e ∧ Below w.heap.size w w' := by
  have HR := Lib.hid h.r32
  have hl := h.ints.1
  have HL := Lib.hid hl
  have hmn : n ≤ 9223372036854775807 := Nat.le_trans h.le h.max
  have HH := Lib.hid h.ints.2
  clear h hl
  go_enter Try.func12, Try.ntmps12
  go_wp2
  go_loopw [3] (fun i wr => ∃ k : Nat, k ≤ n ∧ i = .int .i64 k ∧ Hid (NoPre (xs.take k) ∧ Below w.heap.size w wr)) (fun i _ => n - (intOf i).toNat)
  case atStart => exact ⟨0, Nat.zero_le _, rfl, fun x hx => by simp at hx, Below.refl _ _⟩
  case round =>
    obtain ⟨k, hk, rfl, H⟩ := hrel
    by_cases hlt : k < n
    · have hlt1 : (k : Int) < n := by omega
      rcases HH.out with h0 | ⟨b, off, rfl, hb, hc⟩
      · omega
      obtain ⟨x, hx⟩ : ∃ x, xs[k]? = some x := ⟨_, List.getElem?_eq_getElem (by rw [HL.out]; exact hlt)⟩
      have hcell := (H.out.2.cell (p := ⟨b, off + k, none⟩) hb).trans (hc k x hx)
      have hr := HR.out x (List.mem_of_getElem? hx)
      have HX := Lib.hid hx
      clear hc hx
      go_wp2_with fail
      refine (Gcb.ref_val x hr.1 hr.2 wr).mono ?_
      rintro e w1 ⟨rfl, hb1⟩
      have HB := Lib.hid (H.out.2.trans (hb1.mono H.out.2.size))
      have HN : Hid (Gcb.val x ≠ 7 → NoPre (xs.take (k + 1))) := Lib.hid fun hv => noPre_next H.out.1 HX.out hv
      clear hb1 H
      generalize Gcb.val x = v at *
      rcases (by omega : v < 1 ∨ (1 ≤ v ∧ v ≤ 3) ∨ (3 < v ∧ v < 6) ∨ (6 ≤ v ∧ v ≤ 7) ∨ 7 < v) with hv | hv | hv | hv | hv
      · have d1 : decide (1 ≤ v) = false := by simp; omega
        have d2 : decide (6 ≤ v) = false := by simp; omega
        have HN := Lib.hid (HN.out (by omega))
        go_wp2
        go_roundw
        case rel => exact ⟨k + 1, by omega, by go_num, HN.out, HB.out⟩
        case measure => simp [intOf]; omega
      · have d1 : decide (1 ≤ v) = true := by simp; omega
        have d2 : decide (v ≤ 3) = true := by simp; omega
        go_wp2
        go_ret
        exact ⟨plainR_mk false (fun h => by cases h), HB.out⟩
      · have d1 : decide (1 ≤ v) = true := by simp; omega
        have d2 : decide (v ≤ 3) = false := by simp; omega
        have d3 : decide (6 ≤ v) = false := by simp; omega
        have HN := Lib.hid (HN.out (by omega))
        go_wp2
        go_roundw
        case rel => exact ⟨k + 1, by omega, by go_num, HN.out, HB.out⟩
        case measure => simp [intOf]; omega
      · have d1 : decide (1 ≤ v) = true := by simp; omega
        have d2 : decide (v ≤ 3) = false := by simp; omega
        have d3 : decide (6 ≤ v) = true := by simp; omega
        have d4 : decide (v ≤ 7) = true := by simp; omega
        go_wp2
        go_ret
        exact ⟨plainR_mk false (fun h => by cases h), HB.out⟩
      · have d1 : decide (1 ≤ v) = true := by simp; omega
        have d2 : decide (v ≤ 3) = false := by simp; omega
        have d3 : decide (6 ≤ v) = true := by simp; omega
        have d4 : decide (v ≤ 7) = false := by simp; omega
        have HN := Lib.hid (HN.out (by omega))
        go_wp2
        go_roundw
        case rel => exact ⟨k + 1, by omega, by go_num, HN.out, HB.out⟩
        case measure => simp [intOf]; omega
    · obtain rfl : k = n := by omega
      have HN : Hid (NoPre xs) := by have := H.out.1; rw [List.take_of_length_le (by rw [HL.out]; exact Nat.le_refl _)] at this; exact this
      have HB := Lib.hid H.out.2
      clear H
      by_cases h0 : k = 0
      · subst h0
        have HBG : Hid (Beg xs) := Lib.hid fun y hy => by
          have := (List.getElem?_eq_some_iff.1 hy).1
          rw [HL.out] at this; omega
        have d5 : (((0 : Nat) : Int) == 0) = true := rfl
        go_wp2
        go_ret
        exact ⟨plainR_mk _ (fun _ => ⟨HN.out, HBG.out⟩), HB.out⟩
      · have d5 : ((k : Int) == 0) = false := by simp; omega
        rcases HH.out with h0' | ⟨b, off, rfl, hb, hc⟩
        · omega
        obtain ⟨x, hx⟩ : ∃ x, xs[0]? = some x := ⟨_, List.getElem?_eq_getElem (by rw [HL.out]; omega)⟩
        have hcell := (HB.out.cell (p := ⟨b, off + 0, none⟩) hb).trans (hc 0 x hx)
        rw [Nat.add_zero] at hcell
        have hr := HR.out x (List.mem_of_getElem? hx)
        have HX := Lib.hid hx
        have hk0 : (0 : Int) < k := by omega
        clear hc hx hlt
        go_wp2_with fail
        refine (Gcb.ref_val x hr.1 hr.2 wr).mono ?_
        rintro e w1 ⟨rfl, hb1⟩
        have HBG : Hid ((Gcb.val x == 0) = true → Beg xs) := Lib.hid fun h y hy => by
          rw [HX.out] at hy
          injection hy with hy
          rw [← hy]; exact eq_of_beq h
        have HB2 := Lib.hid (HB.out.trans (hb1.mono HB.out.size))
        clear hb1 HB
        generalize Gcb.val x = v at *
        go_wp2
        go_ret
        exact ⟨plainR_mk _ (fun h => ⟨HN.out, HBG.out h⟩), HB2.out⟩

end Go.Proofs.Ytcbfmokafmagpaa.Tbl

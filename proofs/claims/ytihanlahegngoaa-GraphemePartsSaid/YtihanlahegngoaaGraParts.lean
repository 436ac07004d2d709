/-
  The walk of the statement GraphemeParts.
-/
import Derived.Test.YtihanlahegngoaaRef16C
import Derived.Test.YtihanlahegngoaaGraWorks
namespace Go.Proofs.Ytihanlahegngoaa.Gra
set_option linter.unusedSimpArgs false
set_option linter.unusedVariables false
open Go Go.RowKit Go.Shelf Mem Turn GraLaw Same

theorem nums_at {w : World} {base : Nat} {a : Option Addr} {n c : Nat} {l : List Nat} (h : w.ownsRow base 3 1 (.slice a n c) n (nums l)) (hn : 0 < n) :
    ∃ g, a = some ⟨g, 0, none⟩ ∧ g < w.heap.size ∧ ∀ k x : Nat, l[k]? = some x → w.cell? ⟨g, k, none⟩ = some (.int .i64 (x : Int)) := by
  rcases h.2 with ⟨_, h0⟩ | ⟨g, cap, cur, h1, h2, h3, _⟩
  · omega
  · injection h1 with h1 _
    subst h1
    refine ⟨g, rfl, (Array.getElem?_eq_some_iff.1 h3).1, fun k x hx => ?_⟩
    have := h.cells (g := g) rfl k _ (nums_get hx)
    rwa [add_none, Nat.zero_add] at this

theorem lists_slice {w : World} {base : Nat} {v : Value} {xss : List (List Int)} (h : Lists w base v xss) : ∃ a c, v = .slice a xss.length c := by
  obtain ⟨vs, _, h, _⟩ := h
  exact own_slice h

theorem lists_at {w : World} {base : Nat} {a : Option Addr} {n c : Nat} {xss : List (List Int)} (h : Lists w base (.slice a n c) xss) (hn : 0 < xss.length) :
    ∃ g, a = some ⟨g, 0, none⟩ ∧ g < w.heap.size ∧ ∀ (k : Nat) (xs : List Int), xss[k]? = some xs → ∃ a' n' c', w.cell? ⟨g, k, none⟩ = some (.slice a' n' c') ∧ Ints .i32 w a' n' xs := by
  obtain ⟨vs, hl, h, hv⟩ := h
  rcases h.2 with ⟨_, h0⟩ | ⟨g, cap, cur, h1, h2, h3, _⟩
  · omega
  · injection h1 with h1 _
    subst h1
    refine ⟨g, rfl, (Array.getElem?_eq_some_iff.1 h3).1, fun k xs hx => ?_⟩
    obtain ⟨a', n', c', e1, e2⟩ := hv k xs hx
    have := h.cells (g := g) rfl k _ e1
    rw [add_none, Nat.zero_add] at this
    exact ⟨a', n', c', this, ints_of_own e2⟩

set_option maxRecDepth 100000 in
set_option maxHeartbeats 8000000 in
theorem parts_any (w : World) (a : Option Addr) (n c : Nat) (xs : List Int) (h : Runes w a n c xs) :
    Calls Try.prog 5 #[.slice a n c] w fun e w' => e = .returned (.bool true) ∧ Below w.heap.size w w' := by
  have hm : n ≤ 9223372036854775807 := Nat.le_trans h.le h.max
  have HL := Lib.hid h.ints.1
  have HH := Lib.hid h
  clear h
  by_cases h1 : 300 < n
  · have d1 : decide (300 < (n : Int)) = true := by simp; omega
    go_enter Try.func5, Try.ntmps5
    go_wp2_with fail
    refine (works_any _).mono ?_; rintro e w1 ⟨rfl, hb1⟩
    go_wp2_with fail
    refine (works_any _).mono ?_; rintro e w2 ⟨rfl, hb2⟩
    have hb2 := hb1.trans (hb2.mono hb1.size)
    go_wp2
    go_ret
    exact ⟨rfl, hb2⟩
  · have d1 : decide (300 < (n : Int)) = false := by simp; omega
    have hcl := cnt_le (J := Jn xs) n
    go_enter Try.func5, Try.ntmps5
    go_wp2_with fail
    refine (works_any _).mono ?_; rintro e w1 ⟨rfl, hb1⟩
    have B1 := Lib.hid hb1
    clear hb1
    go_wp2_with fail
    refine (starts_ref a n c xs _ (HH.out.below B1.out) (by omega)).mono ?_; rintro e w2 ⟨v1, rfl, ho1, hb2⟩
    obtain ⟨A1, C1, rfl⟩ := own_slice ho1
    have B2 := Lib.hid (B1.out.trans (hb2.mono B1.out.size))
    have O1 := Lib.hid ho1
    clear hb2 ho1
    go_wp2_with fail
    refine (starts_any a n c xs _ (HH.out.below B2.out) (by omega)).mono ?_; rintro e w3 ⟨v2, rfl, ho2, hb3⟩
    obtain ⟨A2, C2, rfl⟩ := own_slice ho2
    have B3 := Lib.hid (B2.out.trans (hb3.mono B2.out.size))
    have O2 := Lib.hid ho2
    have P1 : Hid (w3.ownsRow w1.heap.size 3 1 (.slice A1 (cnt (Jn xs) n) C1) (cnt (Jn xs) n) (nums (starts (Jn xs) n))) := (Turn.of_new hb3 : Turn (fun _ => False) _ _).kept O1.out (fun _ _ => id)
    clear hb3 ho2 O1
    go_wp2_with fail
    refine (clusters_any a n c xs _ (HH.out.below B3.out) (by omega)).mono ?_; rintro e w4 ⟨v3, rfl, ho3, hb4⟩
    obtain ⟨A3, C3, rfl⟩ := lists_slice ho3
    have B4 := Lib.hid (B3.out.trans (hb4.mono B3.out.size))
    have O3 := Lib.hid ho3
    have P1 : Hid (w4.ownsRow w1.heap.size 3 1 (.slice A1 (cnt (Jn xs) n) C1) (cnt (Jn xs) n) (nums (starts (Jn xs) n))) := (Turn.of_new hb4 : Turn (fun _ => False) _ _).kept P1.out (fun _ _ => id)
    have P2 : Hid (w4.ownsRow w2.heap.size 3 1 (.slice A2 (cnt (Jn xs) n) C2) (cnt (Jn xs) n) (nums (starts (Jn xs) n))) := (Turn.of_new hb4 : Turn (fun _ => False) _ _).kept O2.out (fun _ _ => id)
    clear hb4 ho3 O2
    go_wp2_with fail
    refine (clusters_ref a n c xs _ (HH.out.below B4.out) (by omega)).mono ?_; rintro e w5 ⟨v4, rfl, ho4, hb5⟩
    obtain ⟨A4, C4, rfl⟩ := lists_slice ho4
    have B5 := Lib.hid (B4.out.trans (hb5.mono B4.out.size))
    have O4 := Lib.hid ho4
    have P1 : Hid (w5.ownsRow w1.heap.size 3 1 (.slice A1 (cnt (Jn xs) n) C1) (cnt (Jn xs) n) (nums (starts (Jn xs) n))) := (Turn.of_new hb5 : Turn (fun _ => False) _ _).kept P1.out (fun _ _ => id)
    have P2 : Hid (w5.ownsRow w2.heap.size 3 1 (.slice A2 (cnt (Jn xs) n) C2) (cnt (Jn xs) n) (nums (starts (Jn xs) n))) := (Turn.of_new hb5 : Turn (fun _ => False) _ _).kept P2.out (fun _ _ => id)
    have P3 := Lib.hid (lists_below O3.out hb5)
    clear hb5 ho4 O3
    have hcl2 : (cls xs).length = cnt (Jn xs) n := by simp [cls, HL.out]
    rw [hcl2]
    have HCL := Lib.hid hcl2
    clear hcl2
    generalize hcnt : cnt (Jn xs) n = cn at *
    have HCN := Lib.hid hcnt
    clear hcnt
    have e1 : ((cn : Int) != cn) = false := by simp
    go_wp2_with fail
    refine (count_any a n c xs _ (HH.out.below B5.out) (by omega)).mono ?_
    rw [HCN.out]
    rintro e w6 ⟨rfl, hb6⟩
    have B6 := Lib.hid (B5.out.trans (hb6.mono B5.out.size))
    have P1 : Hid (w6.ownsRow w1.heap.size 3 1 (.slice A1 cn C1) cn (nums (starts (Jn xs) n))) := (Turn.of_new hb6 : Turn (fun _ => False) _ _).kept P1.out (fun _ _ => id)
    have P2 : Hid (w6.ownsRow w2.heap.size 3 1 (.slice A2 cn C2) cn (nums (starts (Jn xs) n))) := (Turn.of_new hb6 : Turn (fun _ => False) _ _).kept P2.out (fun _ _ => id)
    have P3 := Lib.hid (lists_below P3.out hb6)
    have P4 := Lib.hid (lists_below O4.out hb6)
    clear hb6 O4
    go_wp2
    go_loopw [7] (fun i wr => ∃ k : Nat, k ≤ cn ∧ i = .int .i64 k ∧ Hid (Below w6.heap.size w6 wr)) (fun i _ => cn - (intOf i).toNat)
    case atStart => exact ⟨0, Nat.zero_le _, rfl, Below.refl _ _⟩
    case round =>
      obtain ⟨k, hk, rfl, H⟩ := hrel
      by_cases hlt : k < cn
      · have hst := st_start (J := Jn xs) (n := n) (k := k) (by rw [HCN.out]; exact hlt)
        obtain ⟨g1, rfl, hg1, k1⟩ := nums_at P1.out (by omega)
        obtain ⟨g2, rfl, hg2, k2⟩ := nums_at P2.out (by omega)
        have hcx : (cls xs)[k]? = some (cl xs k) := by simp [cls, HL.out, HCN.out, hlt]
        obtain ⟨g3, rfl, hg3, k3⟩ := lists_at P3.out (by rw [HCL.out]; omega)
        obtain ⟨g4, rfl, hg4, k4⟩ := lists_at P4.out (by rw [HCL.out]; omega)
        obtain ⟨a3, n3, c3, f3, i3⟩ := k3 k _ hcx
        obtain ⟨a4, n4, c4, f4, i4⟩ := k4 k _ hcx
        have q1 := (H.out.cell (p := ⟨g1, k, none⟩) hg1).trans (k1 _ _ hst)
        have q2 := (H.out.cell (p := ⟨g2, k, none⟩) hg2).trans (k2 _ _ hst)
        have q3 := (H.out.cell (p := ⟨g3, k, none⟩) hg3).trans f3
        have q4 := (H.out.cell (p := ⟨g4, k, none⟩) hg4).trans f4
        have j3 := Lib.hid (i3.below H.out)
        have j4 := Lib.hid (i4.below H.out)
        have h3l : n3 ≤ 9223372036854775807 := by have := i3.1; have := cl_len xs (k := k) (by rw [HL.out, HCN.out]; exact hlt); have := st_le (J := Jn xs) (n := xs.length) (k := k + 1) (by rw [HL.out, HCN.out]; exact hlt); have h7 := HL.out; omega
        clear k1 k2 k3 k4 f3 f4 i3 i4 hst hcx
        generalize cl xs k = ys at *
        generalize st (Jn xs) n k = s0 at *
        have hlt' : (k : Int) < cn := by omega
        have e2 : ((s0 : Int) != s0) = false := by simp
        go_wp2_with fail
        have cS := Lib.hid fun d os => Calls.regrown_of (w := wr) (d := d) (os := os) (same_true a3 n3 c3 ys a4 n4 c4 (Go.Sort.grow (redrawn wr d) os) (j3.out.below (below_regrown wr d os)) (j4.out.below (below_regrown wr d os)) h3l)
        have r1 := cell_regrown q1
        have r2 := cell_regrown q2
        have r3 := cell_regrown q3
        have r4 := cell_regrown q4
        refine wp_region_quiet_below (by kernel_rfl) (by kernel_rfl) ?_
        repeat (quiet_step (exact cS.out _ _))
        refine wpQuiet_nil ?_
        intro _ hw'
        obtain ⟨⟨dq, osq⟩, hw''⟩ := hw'
        subst hw''
        have R : Hid (Below w6.heap.size w6 (Go.Sort.grow (redrawn wr dq) osq)) := H.out.trans ((below_regrown wr dq osq).mono H.out.size)
        clear r1 r2 r3 r4 q1 q2 q3 q4 j3 j4 cS H
        generalize Go.Sort.grow (redrawn wr dq) osq = wn at *
        go_wp2
        go_roundw
        case rel => exact ⟨k + 1, by omega, by go_num, R⟩
        case measure => simp [intOf]; omega
      · obtain rfl : k = cn := by omega
        go_wp2
        go_ret
        exact ⟨rfl, B6.out.trans (H.out.mono B6.out.size)⟩

end Go.Proofs.Ytihanlahegngoaa.Gra

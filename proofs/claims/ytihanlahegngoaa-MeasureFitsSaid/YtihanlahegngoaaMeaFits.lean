/-
  The walk of the statement MeasureFits.
-/
import Derived.Test.YtihanlahegngoaaFitLaw
namespace Go.Proofs.Ytihanlahegngoaa.Mea
set_option linter.unusedSimpArgs false
set_option linter.unusedVariables false
open Go Go.RowKit Go.Shelf Mem Seg Turn Gra Clu Same GraLaw

set_option maxRecDepth 100000 in
set_option maxHeartbeats 8000000 in
theorem fits_any (w : World) (a : Option Addr) (n c : Nat) (xs : List Int) (h : Runes w a n c xs) (x : Int) (hx1 : -9223372036854775808 ≤ x) (hx2 : x ≤ 9223372036854775807) :
    Calls Try.prog 14 #[.slice a n c, .int .i64 x] w fun e w' => e = .returned (.bool true) ∧ Below w.heap.size w w' := by
  have hm : n ≤ 9223372036854775807 := Nat.le_trans h.le h.max
  have hnc := h.le
  have HL := Lib.hid h.ints.1
  have HH := Lib.hid h
  clear h
  by_cases h1 : 1000 < n
  · have d1 : decide (1000 < (n : Int)) = true := by simp; omega
    go_enter Try.func14, Try.ntmps14
    go_wp2_with fail
    refine (works_any _).mono ?_; rintro e w1 ⟨rfl, hb1⟩
    go_wp2_with fail
    refine (works_any _).mono ?_; rintro e w2 ⟨rfl, hb2⟩
    have hb2 := hb1.trans (hb2.mono hb1.size)
    go_wp2
    go_ret
    exact ⟨rfl, hb2⟩
  have d1 : decide (1000 < (n : Int)) = false := by simp; omega
  by_cases h2 : x < 0
  · have d2 : decide (x < 0) = true := by simpa using h2
    go_enter Try.func14, Try.ntmps14
    go_wp2_with fail
    refine (works_any _).mono ?_; rintro e w1 ⟨rfl, hb1⟩
    go_wp2_with fail
    refine (works_any _).mono ?_; rintro e w2 ⟨rfl, hb2⟩
    have hb2 := hb1.trans (hb2.mono hb1.size)
    go_wp2
    go_ret
    exact ⟨rfl, hb2⟩
  have d2 : decide (x < 0) = false := by simpa using h2
  have hn : n ≤ 100000 := by omega
  go_enter Try.func14, Try.ntmps14
  go_wp2_with fail
  refine (works_any _).mono ?_; rintro e w1 ⟨rfl, hb1⟩
  have B1 := Lib.hid hb1
  clear hb1
  go_wp2_with fail
  refine (head_any a n c xs _ (HH.out.below B1.out) hn x (by omega) hx2).mono ?_
  rintro e w2 ⟨k, rfl, ⟨hk, hku, hkn⟩, hb2⟩
  have B2 := Lib.hid (B1.out.trans (hb2.mono B1.out.size))
  clear hb2
  have hle : st (Jn xs) xs.length k ≤ n := by have h1 := st_le hk; have h2 := HL.out; omega
  have hu0 := (wsum_le (its (cl xs) k)).1
  have HIT := Lib.hid (its_take xs hk)
  have HMO : Hid (k < cnt (Jn xs) xs.length → st (Jn xs) xs.length k < n) := fun h => by
    have := st_mono (J := Jn xs) (n := xs.length) h (Nat.le_refl _)
    rw [st_cnt, HL.out] at this; rw [HL.out]; exact this
  have HEND : Hid (¬ k < cnt (Jn xs) xs.length → st (Jn xs) xs.length k = n) := fun h => by
    have : k = cnt (Jn xs) xs.length := by omega
    rw [this, st_cnt, HL.out]
  have HDR := Lib.hid (cls_drop xs hk)
  generalize hM : st (Jn xs) xs.length k = m at *
  have HW := Lib.hid (wsum_its (cl xs) k)
  generalize hU : wsum (its (cl xs) k) = u at *
  have HU := Lib.hid hU
  have HM := Lib.hid hM
  clear hU hM
  have d3 : decide ((m : Int) < 0) = false := by simp
  have d4 : decide ((n : Int) < m) = false := by simp; omega
  have d4' : decide (n < m) = false := by simp; omega
  have d5 : decide (x < u) = false := by simp; omega
  have HT := Lib.hid (runes_take (HH.out.below B2.out) hle)
  have d6 : (u != u) = false := by simp
  have hmc : m ≤ c := by omega
  go_wp2_with fail
  refine (cols_any a m c (xs.take m) _ HT.out (by omega)).mono ?_
  rintro e w3 ⟨rfl, hb3⟩
  rw [HIT.out, HU.out]
  have B3 := Lib.hid (B2.out.trans (hb3.mono B2.out.size))
  clear hb3 HT
  by_cases hend : k < cnt (Jn xs) xs.length
  · have hlt := HMO.out hend
    have d7 : ((m : Int) == n) = false := by simp; omega
    have hR3 := HH.out.below B3.out
    have HW := Lib.hid (HW.out)
    have HK := Lib.hid hend
    have HDN := Lib.hid (hkn.resolve_left (by omega))
    clear hkn hend
    obtain ⟨hl0, h0 | ⟨b, off, rfl, hb, hc⟩⟩ := hR3.ints
    · omega
    have HD := Lib.hid (runes_drop hR3 hle)
    have HDR := Lib.hid HDR.out
    clear hl0 hc hb hR3
    generalize xs.drop m = zs at *
    go_wp2_with fail
    have hzl : n - m ≤ 100000 := by omega
    refine (clusters_any _ _ _ zs _ HD.out hzl).mono ?_
    rintro e w4 ⟨v, rfl, hls, hb4⟩
    rw [HDR.out] at hls
    obtain ⟨A4, C4, rfl⟩ := lists_slice hls
    have hlen : ((cls xs).drop k).length = cnt (Jn xs) xs.length - k := by rw [List.length_drop, cls_len]
    have hk := HK.out
    obtain ⟨g4, rfl, hg4, hat⟩ := lists_own hls (by omega)
    have h0 : ((cls xs).drop k)[0]? = some (cl xs k) := by rw [List.getElem?_drop, Nat.add_zero]; exact cls_get xs hk
    obtain ⟨a5, n5, c5, q1, q2⟩ := hat 0 _ h0
    have q1 : w4.cell? ⟨g4, 0, none⟩ = some (.slice a5 n5 c5) := q1
    have B4 := Lib.hid (B3.out.trans (hb4.mono B3.out.size))
    have HR5 := Lib.hid (runes_own q2 (cl_r32 HH.out.r32 k))
    have hn5 : n5 ≤ 100000 := by
      have h1 := q2.1
      have h2 := cl_len xs hk
      have h3 := st_le (J := Jn xs) (n := xs.length) (k := k + 1) hk
      have h4 := HL.out
      simp at h1
      omega
    have d8 : decide ((0 : Int) < (((cls xs).drop k).length : Int)) = true := decide_eq_true (by omega)
    have d9 : decide (x - u < wideV (cl xs k)) = true := by have h1 := HDN.out; have h2 := HW.out; simp; omega
    have x1 : IntKind.i64.wrap (x - u) = x - u := IntWalk.i64_in _ (by omega)
    have hpos : (0 : Int) < (((cls xs).drop k).length : Int) := by omega
    have HWO := Lib.hid (wide_one xs hk)
    generalize wideV (cl xs k) = wv at *
    generalize ((cls xs).drop k).length = L at *
    clear hls hat q2 h0 hlen hb4
    go_wp2_with fail
    refine (cols_any _ _ _ _ _ HR5.out hn5).mono ?_
    rintro e w5 ⟨rfl, hb5⟩
    rw [HWO.out]
    have B5 := Lib.hid (B4.out.trans (hb5.mono B4.out.size))
    clear hb5
    go_wp2
    go_ret
    exact ⟨rfl, B5.out⟩
  · obtain rfl : m = n := HEND.out hend
    have d7 : ((m : Int) == m) = true := by simp
    go_wp2
    go_ret
    exact ⟨rfl, B3.out⟩

end Go.Proofs.Ytihanlahegngoaa.Mea

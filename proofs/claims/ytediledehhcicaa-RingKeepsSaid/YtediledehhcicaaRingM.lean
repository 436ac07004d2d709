/-
  RingKeeps walked.
-/
import Derived.Test.YtediledehhcicaaRingK
import Derived.Test.YtediledehhcicaaRingS
import Derived.Test.YtediledehhcicaaRingN
import Derived.Deep.CutBlock
import Derived.Deep.DeepCutAuto
namespace Go.Proofs.Ytediledehhcicaa.Ring
set_option linter.unusedSimpArgs false
set_option linter.unusedVariables false
open Go Go.RowKit Mem Turn

set_option maxRecDepth 100000 in
set_option maxHeartbeats 80000000 in
theorem ring_keeps (most : Int) (hm1 : -9223372036854775808 ≤ most) (hm2 : most ≤ 9223372036854775807) (av : Option Addr) (K cv : Nat) (acs : List ActC) (n : Int) (hn1 : -9223372036854775808 ≤ n) (hn2 : n ≤ 9223372036854775807) (w : World) (h : IsActs w av K cv acs) :
    Calls Try.prog 4 #[.int .i64 most, .slice av K cv, .int .i64 n] w fun e w' => e = .returned (.bool true) ∧ Below w.heap.size w w' := by
  obtain ⟨i3, hi3, hw0, hw1, hw2⟩ := info_parts info_line
  have hmx : Try.prog.follows .mixedOrders = true := by kernel_rfl
  obtain ⟨hlen, hKc, hacts⟩ := h
  have HL := Lib.hid hlen
  have HA := Lib.hid hacts
  obtain ⟨M, hM⟩ : ∃ M : Nat, (M : Int) = max 1 (min most 65536) := ⟨(max 1 (min most 65536)).toNat, by omega⟩
  have hM1 : 1 ≤ M := by omega
  have hM2 : M ≤ 65536 := by omega
  have HM := Lib.hid hM
  have HWK : Hid (∀ X, Calls Try.prog 5 #[] X fun e w' => e = .returned (.bool true) ∧ Below X.heap.size X w') := Lib.hid fun X => works_ok X
  clear hacts hM hlen
  by_cases h60 : K ≤ 60
  · have d1 : decide (60 < K) = false := decide_eq_false (by omega)
    have d2 : decide ((60 : Int) < (K : Int)) = false := decide_eq_false (by omega)
    go_enter Try.func4, Try.ntmps4
    go_wp2_with fail
    refine (HWK.out _).mono ?_
    rintro e w1 ⟨rfl, hb1⟩
    have HB1 := Lib.hid hb1
    clear hb1
    go_wp2_with fail
    refine (new_any most M HM.out w1 hm1 hm2).mono ?_
    rintro e w2 ⟨rfl, hw2', hb2, hs2⟩
    have HW2 := Lib.hid hw2'
    have HB2 := Lib.hid (HB1.out.trans (hb2.mono HB1.out.size))
    have HS2 := Lib.hid hs2
    have HQR := Lib.hid HB1.out.size
    clear hw2' hb2 hs2
    generalize hqr : w1.heap.size = qr at *
    go_upto_region 4 with fail
    go_cut [0] (fun s wx => s = .int .i64 (M : Int) ∧ w2 = wx)
    case first =>
      go_wp2_with fail
      all_goals
        go_meet
        exact ⟨by congr 1; have := HM.out; omega, rfl⟩
    case rest =>
      obtain ⟨rfl, rfl⟩ := hcut
      have HR2 := Lib.hid (ring_of_new (lo' := qr + 1) HW2.out (Below.refl _ _) hM1 hM2 (by omega) (by rw [HS2.out]; exact Nat.le_refl _))
      have HSTART : Hid (Keep w qr (qr + 1) M (40 * 0) [] 0 (.slice none 0 0) w2.heap.size w2) := Lib.hid ⟨Lines2.nil _ _ _, by simpa using HR2.out, RB.lt HR2.out, HB2.out, Nat.le_refl _, by rw [HS2.out]; exact Nat.le_refl _, Nat.le_refl _⟩
      clear HR2 HW2
      go_wp2_with fail
      go_loopg [8, 9, 10, 11, 12, 13] K (fun gg v8 v9 v10 v11 v12 v13 wx => ∃ k : Nat, K - k = gg ∧ k ≤ K ∧ v10 = .int .i64 (k : Int) ∧ Hid (∃ (ls : List LineC) (gone X : Nat), v9 = .int .i64 (gone : Int) ∧ ls.length ≤ M ∧ Keep w qr (qr + 1) M (40 * k) ls gone v8 X wx))
      case atStart => exact ⟨0, rfl, Nat.zero_le _, rfl, Lib.hid ⟨[], 0, _, rfl, Nat.zero_le _, HSTART.out⟩⟩
      case round =>
        obtain ⟨k, rfl, hk, rfl, H⟩ := hrel
        obtain ⟨ls, gone, X, rfl, hlsM, hKP⟩ := H.out
        have HKP := Lib.hid hKP
        clear H
        by_cases hlt : k < K
        · obtain ⟨b1, o1, rfl, hb1s, c1⟩ := HA.out.resolve_left (by omega)
          obtain ⟨x, hx⟩ : ∃ x, acs[k]? = some x := ⟨_, List.getElem?_eq_getElem (by rw [HL.out]; exact hlt)⟩
          obtain ⟨q1, lv, q2, q3⟩ := c1 k x hx
          obtain ⟨kind, xs⟩ := x
          simp only at q1 q2 q3
          obtain ⟨a1, c1', rfl, hc1, _⟩ := id q3
          obtain ⟨nx, hnx⟩ : ∃ nx, nx = xs.length := ⟨_, rfl⟩
          have HNX := Lib.hid hnx
          have HQ3 := Lib.hid q3
          rw [← hnx] at q2 hc1
          have y1 := (hKP.below.cell (p := ⟨b1, o1 + k * 2, none⟩) hb1s).trans q1
          have y2 := (hKP.below.cell (p := ⟨b1, o1 + k * 2 + 1, none⟩) hb1s).trans q2
          have hlt' : (k : Int) < (K : Int) := by omega
          clear c1 hx q1 q2 q3 hnx hKP
          by_cases h40 : nx ≤ 40
          · have d3 : decide (40 < nx) = false := decide_eq_false (by omega)
            have d4 : decide ((40 : Int) < (nx : Int)) = false := decide_eq_false (by omega)
            go_upto_if 48 with fail
            have HG := Lib.hid hk
            obtain ⟨a8, c8, hv8, hc8, ha8⟩ := HKP.out.lines.form
            obtain ⟨N, hN⟩ : ∃ N, ls.length = N := ⟨_, rfl⟩
            have HN := Lib.hid hN
            have HA8 := Lib.hid ha8
            have hNM : N ≤ M := by omega
            have hgN : gone + N ≤ 2400 := by have := HKP.out.tot; omega
            rw [hN] at hv8 hc8
            subst hv8
            clear hN ha8 hlsM
            go_cut [8, 9] (fun v8 v9 wx => ∃ (ls' : List LineC) (gone' X' : Nat), v9 = .int .i64 (gone' : Int) ∧ Hid (Keep w qr (qr + 1) M (40 * (k + 1)) ls' gone' v8 X' wx))
            case first =>
              by_cases hkd : kind = 2
              · have dk : decide (kind = 2) = true := decide_eq_true hkd
                subst hkd
                have hrg := HKP.out.ring
                have e0 : N - M = 0 := by omega
                rw [HN.out, e0, List.drop_zero, Nat.add_zero] at hrg
                have HRG := Lib.hid hrg
                clear hrg e0
                go_wp2_with fail
                refine (clear_any qr (qr + 1) M gone ls _ HRG.out).mono ?_
                rintro e w3 ⟨rfl, hr3, ht3⟩
                have HR3 := Lib.hid hr3
                have HT3 := Lib.hid ht3
                clear hr3 ht3
                go_wp2_with fail
                go_meet
                have hbb := HKP.out.below.trans (HT3.out.below HKP.out.below.size (fun k e => by have := HQR.out; omega))
                have htt := HKP.out.tot
                have hgg := HG.out
                rw [HN.out] at htt
                refine ⟨[], gone + N, w3.heap.size, by go_num, Lib.hid ⟨Lines2.nil _ _ _, ?_, RB.lt HR3.out, hbb, Nat.le_refl _, ?_, ?_⟩⟩
                · have h3 := HR3.out
                  rw [HN.out, Nat.min_eq_left (by omega)] at h3
                  simpa using h3
                · obtain ⟨_, _, _, _, h9, _⟩ := HR3.out
                  exact h9.2.2.2.2
                · simp only [List.length_nil]
                  omega
              · have dk : decide (kind = 2) = false := decide_eq_false hkd
                have hrg := HKP.out.ring
                have e0 : N - M = 0 := by omega
                rw [HN.out, e0, List.drop_zero, Nat.add_zero] at hrg
                have HRG := Lib.hid hrg
                have HXS : Hid (LinesAt (fun b => b < w.heap.size) False wr (.slice a1 nx c1') xs) := Lib.hid (by
                  rw [HNX.out]
                  exact HQ3.out.turn (Turn.of_below HKP.out.below (T := fun b => w.heap.size ≤ b) (fun _ h _ => h)) (fun b h1 _ h2 => by omega))
                have hqlt := HQR.out
                clear hrg e0
                go_wp2_with fail
                refine (push_anyC (fun b => b < w.heap.size) False qr (qr + 1) M gone X ls xs _ wr HRG.out HXS.out (fun b hb => by omega) (by rw [← HNX.out]; omega) HKP.out.blk).mono ?_
                rintro e w3 ⟨rfl, hr3, ht3, hb3⟩
                rw [pushes_eq (by omega) xs (by rw [HN.out]; exact hNM) (by rw [← HNX.out]; simp only; omega)] at hr3
                simp only at hr3
                have HR3 := Lib.hid hr3
                have hhx := HKP.out.hX
                have hhl := HKP.out.hlo
                have HB3 := Lib.hid (HKP.out.below.trans (ht3.below HKP.out.below.size (fun k e => by omega)))
                have HL3 := Lib.hid (HKP.out.lines.turn ht3 (fun b h1 h2 h3 => by omega) (fun b h1 h2 h3 => by omega))
                have HX3 := Lib.hid (HXS.out.turn ht3 (fun b h1 h2 h3 => by omega))
                have hb1q : b1 < qr := by omega
                have y2' := ht3.cell y2 (fun e => by simp only at e; omega)
                clear hr3 ht3 hb3 HXS
                go_upto_region 17 with fail
                obtain ⟨R1, hsrc1, hof1, hone1⟩ := HL3.out.rows
                obtain ⟨R2, hsrc2, hof2, hone2⟩ := HX3.out.two.rows
                have HSRC1 := Lib.hid hsrc1
                have HSRC2 := Lib.hid hsrc2
                have HOF1 := Lib.hid hof1
                have HOF2 := Lib.hid hof2
                have HONE1 := Lib.hid hone1
                have HONE2 := Lib.hid hone2
                clear hsrc1 hsrc2 hof1 hof2 hone1 hone2 hhx hhl
                refine region_begin3 (fun w' => w'.cell? ⟨b1, o1 + k * 2 + 1, none⟩ = some (.slice a1 nx c1')) (fun _ => false) 10 rfl hmx (by intro _ _ d _ _ h; cases d <;> exact h) fun hQP => ?_
                have hS : w3.drew.cell? ⟨b1, o1 + k * 2 + 1, none⟩ = some (.slice a1 nx c1') := y2'
                refine take_first2 1 (some 63) rfl rfl (by kernel_rfl) (by kernel_rfl) (by kernel_rfl) (by kernel_rfl) hQP hS (.inl ⟨by rfl, fun w' hw' => by go_simp; try with_reducible rfl⟩) ?_
                refine take_first2 3 (some 65) rfl rfl (by kernel_rfl) (by kernel_rfl) (by kernel_rfl) (by kernel_rfl) hQP hS (.inl ⟨by rfl, fun w' hw' => by go_simp; try with_reducible rfl⟩) ?_
                refine take_first2 4 (some 66) rfl rfl (by kernel_rfl) (by kernel_rfl) (by kernel_rfl) (by kernel_rfl) hQP hS (.inl ⟨by rfl, fun w' hw' => by go_simp; try with_reducible rfl⟩) ?_
                refine take_first2 5 (some 67) rfl rfl (by kernel_rfl) (by kernel_rfl) (by kernel_rfl) (by kernel_rfl) hQP hS (.inl ⟨by rfl, fun w' hw' => by go_simp; try with_reducible rfl⟩) ?_
                refine take_first2 6 (some 68) rfl rfl (by kernel_rfl) (by kernel_rfl) (by kernel_rfl) (by kernel_rfl) hQP hS (.inl ⟨by rfl, fun w' hw' => by go_simp; try with_reducible rfl⟩) ?_
                refine take_first2 7 (some 69) rfl rfl (by kernel_rfl) (by kernel_rfl) (by kernel_rfl) (by kernel_rfl) hQP hS (.inl ⟨by rfl, fun w' hw' => by go_simp; try with_reducible rfl⟩) ?_
                refine take_one (i := 0) (by kernel_rfl) rfl rfl fun KQ hK => ?_
                go_wp2_with fail
                have T4 : Turn (fun _ => False) w3 (w3.alloc (.cells #[] 28)).drew := (Turn.alloc _ _ _).trans (Turn.drew _ _)
                have hOWN4 : ((w3.alloc (.cells #[] 28)).drew).ownsRow w3.heap.size 28 2 (.slice (some ⟨w3.heap.size, 0, none⟩) 0 0) 0 [] := World.ownsRow_made w3.drew #[] 0 (Nat.le_refl _) (by unfold maxLen; omega) rfl
                have hS : (w3.alloc (.cells #[] 28)).drew.cell? ⟨b1, o1 + k * 2 + 1, none⟩ = some (.slice a1 nx c1') := T4.cell y2' id
                have hs4 : (w3.alloc (.cells #[] 28)).drew.heap.size = w3.heap.size + 1 := by simp
                refine hK _ _ (.inr hS) ?_
                clear hK
                generalize (w3.alloc (.cells #[] 28)).drew = w4 at *
                have HB4 : Hid (Below w3.heap.size w3 w4) := Lib.hid (Turn.below T4 (Nat.le_refl _) (fun _ h => h.elim))
                have HS1 := Lib.hid (HSRC1.out.keep HB4.out)
                refine take_one (i := 2) (by kernel_rfl) rfl rfl fun KQ hK => ?_
                refine wp_append_src _ _ _ 22 rfl w3.heap.size 28 i3 _ 2 32 Try.underlying22 hi3 hw0 hw1 hw2 rfl (by decide) (.slice (some ⟨w3.heap.size, 0, none⟩) 0 0) 0 [] (by rfl) hOWN4 a8 N c8 (flatL R1) (by rfl) HS1.out HONE1.out (by unfold maxLen; omega) (by omega) (by omega) ?_
                intro v5 w5 hown5 hgrow5
                rw [Nat.zero_add, List.nil_append] at hown5
                have HB5 : Hid (Below w3.heap.size w3 w5) := Lib.hid ((HB4.out.grown hgrow5 (by omega) (fun k e => by injection (show some w3.heap.size = some k from e) with e; omega)))
                have hS : w5.cell? ⟨b1, o1 + k * 2 + 1, none⟩ = some (.slice a1 nx c1') := (HB5.out.cell (World.block_lt_of_cell? _ _ y2')).trans y2'
                have hs5 := HB5.out.size
                refine hK _ _ (.inr hS) ?_
                clear hK hgrow5 hOWN4 T4 hs4
                obtain ⟨a5, c5, rfl⟩ := Turn.own_slice hown5
                have HS2 := Lib.hid (HSRC2.out.keep HB5.out)
                refine take_one (i := 8) (by kernel_rfl) rfl rfl fun KQ hK => ?_
                refine wp_append_src _ _ _ 22 rfl w3.heap.size 28 i3 _ 2 32 Try.underlying22 hi3 hw0 hw1 hw2 rfl (by decide) (.slice a5 N c5) N (flatL R1) (by rfl) hown5 a1 nx c1' (flatL R2) (by rfl) HS2.out HONE2.out (by unfold maxLen; omega) (by omega) (by omega) ?_
                intro v6 w6 hown6 hgrow6
                have HB6 : Hid (Below w3.heap.size w3 w6) := Lib.hid ((HB5.out.grown hgrow6 (by omega) (fun k e => (hown5.lt k e).1)))
                have hS : w6.cell? ⟨b1, o1 + k * 2 + 1, none⟩ = some (.slice a1 nx c1') := (HB6.out.cell (World.block_lt_of_cell? _ _ y2')).trans y2'
                refine hK _ _ (.inr hS) ?_
                clear hK hgrow6
                have HOWN6 := Lib.hid hown6
                obtain ⟨a6, c6, rfl⟩ := Turn.own_slice hown6
                clear hown5 hown6
                refine take_one (i := 9) (by kernel_rfl) rfl rfl fun KQ hK => ?_
                go_wp2_with fail
                refine hK _ _ (.inr hS) ?_
                clear hK
                refine take_done (by kernel_rfl) ?_ _
                go_wp2_with fail
                go_meet
                have htt := HKP.out.tot
                have hgg := HG.out
                have hnx := HNX.out
                have hTN : Turn (fun _ => False) w3 w6 := Turn.of_new HB6.out
                have hlo3 : qr + 1 ≤ w3.heap.size := by
                  obtain ⟨_, _, _, _, h9, _⟩ := HR3.out
                  exact h9.2.2.2.2
                refine ⟨ls ++ xs, gone, w3.heap.size, rfl, Lib.hid ⟨?_, HR3.out.below HB6.out, (RB.lt HR3.out).turn hTN id (by omega), HB3.out.trans (HB6.out.mono HB3.out.size), HB6.out.size, hlo3, ?_⟩⟩
                · exact lines2_of_own (rs := R1 ++ R2) (by rw [flatL_app]; exact HOWN6.out) ((HOF1.out.turn hTN (fun _ _ _ => id)).app (HOF2.out.turn hTN (fun _ _ _ => id))) (fun g hg => (HOWN6.out.lt g hg).1)
                · rw [List.length_append]
                  omega
            case rest =>
              obtain ⟨ls2, gone2, X2, rfl, H2⟩ := hcut
              clear HG HA8 HKP HQ3 HN hNM hgN y1 y2 hc8 hc1 h40 d3 d4
              obtain ⟨a9, c9, hv9, hc9, ha9⟩ := H2.out.lines.form
              obtain ⟨N2, hN2⟩ : ∃ N, ls2.length = N := ⟨_, rfl⟩
              have HN2 := Lib.hid hN2
              have HA9 := Lib.hid ha9
              have hgN2 : gone2 + N2 ≤ 2400 := by have := H2.out.tot; omega
              rw [hN2] at hv9 hc9
              subst hv9
              clear hN2 ha9
              go_upto_if 74 with fail
              go_cut [8, 9] (fun v8 v9 wx => ∃ (ls' : List LineC) (gone' X' : Nat), v9 = .int .i64 (gone' : Int) ∧ Hid (ls'.length ≤ M ∧ Keep w qr (qr + 1) M (40 * (k + 1)) ls' gone' v8 X' wx))
              case first =>
                by_cases hgt : M < N2
                · have e1 : decide (M < N2) = true := decide_eq_true hgt
                  have e2 : decide ((M : Int) < (N2 : Int)) = true := decide_eq_true (by omega)
                  go_wp2_with fail
                  go_meet
                  have htr := H2.out.trunc HN2.out hgt hc9
                  exact ⟨_, gone2 + (N2 - M), X2, by go_num, Lib.hid htr⟩
                · have e1 : decide (M < N2) = false := decide_eq_false hgt
                  have e2 : decide ((M : Int) < (N2 : Int)) = false := decide_eq_false (by omega)
                  go_wp2_with fail
                  go_meet
                  exact ⟨ls2, gone2, X2, rfl, Lib.hid ⟨by rw [HN2.out]; omega, H2.out⟩⟩
              case rest =>
                obtain ⟨ls3, gone3, X3, rfl, H3⟩ := hcut
                clear HA9 H2 hgN2 hc9 HN2
                obtain ⟨a9, c9, hv9, hc9, ha9⟩ := H3.out.2.lines.form
                obtain ⟨N, hN⟩ : ∃ N, ls3.length = N := ⟨_, rfl⟩
                have HN := Lib.hid hN
                have HA9 := Lib.hid ha9
                have hgN : gone3 + N ≤ 2400 := by have := H3.out.2.tot; omega
                have hNM : N ≤ M := by have := H3.out.1; omega
                rw [hN] at hv9 hc9
                subst hv9
                have hrg := H3.out.2.ring
                have e0 : N - M = 0 := by omega
                rw [hN, e0, List.drop_zero, Nat.add_zero] at hrg
                have HRG := Lib.hid hrg
                have HLN := Lib.hid H3.out.2.lines
                obtain ⟨kk, hkk⟩ : ∃ kk : Nat, (kk : Int) = max 0 (min n (N : Int)) := ⟨(max 0 (min n (N : Int))).toNat, by omega⟩
                have hkN : kk ≤ N := by omega
                have HKK := Lib.hid hkk
                clear hN ha9 e0 hrg hkk
                go_upto_region 21 with fail
                go_cut [11] (fun s wx => s = .int .i64 (kk : Int) ∧ wc = wx)
                case first =>
                  go_wp2_with fail
                  all_goals
                    go_meet
                    exact ⟨by congr 1; have := HKK.out; omega, rfl⟩
                case rest =>
                  obtain ⟨rfl, rfl⟩ := hcut
                  generalize wc = wv at *
                  have HRGd := Lib.hid (HRG.out.turn (Turn.drew (fun _ => False) wv) id (fun _ _ _ => id))
                  have HLEN : Hid (Calls Try.prog 11 #[.pointer (some ⟨qr, 0, none⟩)] wv.drew fun e w' => e = .returned (.int .i64 (N : Int)) ∧ wv.drew = w') := Lib.hid (by rw [← HN.out]; exact len_any qr (qr + 1) M gone3 ls3 wv.drew HRGd.out)
                  have HGONE := Lib.hid (gone_any qr (qr + 1) M gone3 ls3 wv.drew HRGd.out)
                  have HLA1 := Lib.hid (last_any qr (qr + 1) M gone3 ls3 ((N : Int) + 1) (by omega) (by omega) 0 (by rw [HN.out]; omega) wv.drew HRGd.out)
                  go_upto_region 22 with fail
                  go_cut [125] (fun s wx => s = .bool false ∧ Hid (RingIs wx qr (qr + 1) M gone3 ls3 ∧ Lines2 (fun b => X3 ≤ b) (fun b => b < w.heap.size) wx (.slice a9 N c9) ls3 ∧ Below wv.heap.size wv wx))
                  case first =>
                    refine keeps22 hn1 hn2 HN hc9 hgN hNM hkN HKK hM2 HLN HRGd HLEN HGONE HLA1 (by intro _ _ d _ _ h; cases d <;> exact h) ?_
                    intro t92 t93 t94 t95 t96 t97 t98 t99 t100 t101 t102 t103 t104 t105 t106 t107 t108 t109 t110 t111 t112 t113 t114 t115 t116 t117 t118 t119 t120 t121 t122 t123 t124 w7 HP
                    go_wp2_with fail
                    go_meet
                    exact ⟨rfl, HP⟩
                  case rest =>
                    obtain ⟨rfl, HW⟩ := hcut
                    clear HLEN HGONE HLA1 HRGd HRG HLN
                    have HBW : Hid (Below w.heap.size w wc) := Lib.hid (H3.out.2.below.trans (HW.out.2.2.mono H3.out.2.below.size))
                    by_cases hin : 0 ≤ n ∧ n < (N : Int)
                    · skip
                      obtain ⟨m, rfl⟩ : ∃ m : Nat, n = (m : Int) := ⟨n.toNat, by omega⟩
                      have hmN : m < N := by omega
                      obtain ⟨x, hx⟩ : ∃ x, ls3[m]? = some x := ⟨_, List.getElem?_eq_getElem (by rw [HN.out]; exact hmN)⟩
                      have HX := Lib.hid hx
                      have dA1 : decide ((0 : Int) ≤ (m : Int)) = true := decide_eq_true (by omega)
                      have dA2 : decide ((m : Int) < (N : Int)) = true := decide_eq_true (by omega)
                      have dA3 : decide (m < N) = true := decide_eq_true (by omega)
                      have HAT := Lib.hid (at_in qr (qr + 1) M gone3 m ls3 x wc HW.out.1 hx)
                      clear hx
                      go_wp2_with fail
                      refine HAT.out.mono ?_
                      rintro e w4 ⟨v4, rfl, hc4, hb4⟩
                      obtain ⟨xc, xw⟩ := x
                      obtain ⟨a4, c4, hv4, _⟩ := id hc4
                      simp only at hv4 hc4
                      obtain ⟨xl, hxl⟩ : ∃ xl, xl = xc.length := ⟨_, rfl⟩
                      rw [← hxl] at hv4
                      subst hv4
                      have HC4 := Lib.hid hc4
                      have HB4 := Lib.hid hb4
                      clear hc4 hb4 HAT hxl
                      obtain ⟨W5, hW5⟩ : ∃ W5, W5 = w4.alloc (.cells #[.slice a4 xl c4, .bool xw] 28) := ⟨_, rfl⟩
                      have hnew : (w4.alloc (.cells #[.slice none 0 0, .bool false] 28)).heap[w4.heap.size]? = some (.cells #[.slice none 0 0, .bool false] 28 (0, 0)) := heap_alloc_new w4 _
                      have hrow : (w4.alloc (.cells #[.slice none 0 0, .bool false] 28)).setRow w4.heap.size #[.slice a4 xl c4, .bool xw] = W5 := by rw [hW5]; exact World.setRow_alloc_new w4 _ _ _
                      have hh5 : W5.heap[w4.heap.size]? = some (.cells #[.slice a4 xl c4, .bool xw] 28 (0, 0)) := by rw [hW5]; exact heap_alloc_new w4 _
                      have HB5 : Hid (Below wc.heap.size wc W5) := Lib.hid (by rw [hW5]; exact HB4.out.alloc HB4.out.size _)
                      have HC5 := Lib.hid (HC4.out.turn (by rw [hW5]; exact Turn.alloc (fun _ => False) _ _ : Turn (fun _ => False) w4 W5) (fun _ _ _ => id))
                      clear hW5 HC4
                      go_upto_region 25 with (refine wpList_store_row rfl 28 _ _ rfl w4.heap.size #[.slice a4 xl c4, .bool xw] rfl rfl _ _ hnew (size_line _ _) rfl (one_line _ _ _ _) ?_; rw [hrow])
                      refine keeps25A HN hc9 hgN hmN HX dA1 dA2 dA3 (Lib.hid ⟨HW.out.1, HW.out.2.1, trivial⟩) hh5 HB5 HC5 (by intro _ _ d _ _ h; cases d <;> exact h) ?_
                      intro t132 t133 t134 t135 t136 t137 t138 t139 t140 t141 t142 t143 t144 t145 t146 t147 t148 t149 t150 t151 t152 t153 t154 t155 t156 t157 t158 t159 t160 t161 t162 t163 t164 t165 t166 t167 t168 w7 HB7
                      go_wp2_with fail
                      go_roundg (K - (k + 1))
                      case measure => omega
                      case rel => exact ⟨k + 1, rfl, by omega, by go_num, Lib.hid ⟨ls3, gone3, X3, rfl, H3.out.1, H3.out.2.step (HW.out.2.2.trans (HB7.out.mono HW.out.2.2.size))⟩⟩
                    · have HAO := Lib.hid (at_out (.pointer (some ⟨qr, 0, none⟩)) N n (by omega) wc (by omega) (fun Y hY => by rw [← HN.out]; exact len_any qr (qr + 1) M gone3 ls3 Y (HW.out.1.below hY)))
                      go_wp2_with fail
                      refine HAO.out.mono ?_
                      rintro e w4 ⟨rfl, hb4⟩
                      have HB4 := Lib.hid hb4
                      clear hb4 HAO
                      obtain ⟨W5, hW5⟩ : ∃ W5, W5 = w4.alloc (.cells #[.slice none 0 0, .bool false] 28) := ⟨_, rfl⟩
                      have hnew : (w4.alloc (.cells #[.slice none 0 0, .bool false] 28)).heap[w4.heap.size]? = some (.cells #[.slice none 0 0, .bool false] 28 (0, 0)) := heap_alloc_new w4 _
                      have hrow : (w4.alloc (.cells #[.slice none 0 0, .bool false] 28)).setRow w4.heap.size #[.slice none 0 0, .bool false] = W5 := by rw [hW5]; exact World.setRow_alloc_new w4 _ _ _
                      have hh5 : W5.heap[w4.heap.size]? = some (.cells #[.slice none 0 0, .bool false] 28 (0, 0)) := by rw [hW5]; exact heap_alloc_new w4 _
                      have HB5 : Hid (Below wc.heap.size wc W5) := Lib.hid (by rw [hW5]; exact HB4.out.alloc HB4.out.size _)
                      obtain ⟨q1, q2⟩ := line_cells hh5
                      have HB6 : Hid (Below wc.heap.size wc W5.drew) := Lib.hid (HB5.out.trans ((Turn.drew (fun _ => False) W5).below HB5.out.size (fun _ h => h.elim)))
                      clear hW5 hh5
                      go_upto_region 25 with (refine wpList_store_row rfl 28 _ _ rfl w4.heap.size #[.slice none 0 0, .bool false] rfl rfl _ _ hnew (size_line _ _) rfl (one_line _ _ _ _) ?_; rw [hrow])
                      by_cases hneg : n < 0
                      · skip
                        have dB1 : decide ((0 : Int) ≤ n) = false := decide_eq_false (by omega)
                        refine keeps25N q1 q2 dB1 (by intro _ _ d _ _ h; cases d <;> exact h) ?_
                        intro t132 t133 t134 t135 t136 t137 t138 t139 t140 t141 t142 t143 t144 t145 t146 t147 t148 t149 t150 t151 t152 t153 t154 t155 t156 t157 t158 t159 t160 t161 t162 t163 t164 t165 t166 t167 t168
                        go_wp2_with fail
                        go_roundg (K - (k + 1))
                        case measure => omega
                        case rel => exact ⟨k + 1, rfl, by omega, by go_num, Lib.hid ⟨ls3, gone3, X3, rfl, H3.out.1, H3.out.2.step (HW.out.2.2.trans (HB6.out.mono HW.out.2.2.size))⟩⟩
                      · skip
                        have dB1 : decide ((0 : Int) ≤ n) = true := decide_eq_true (by omega)
                        have dB2 : decide (n < (N : Int)) = false := decide_eq_false (by omega)
                        refine keeps25P q1 q2 dB1 dB2 (by intro _ _ d _ _ h; cases d <;> exact h) ?_
                        intro t132 t133 t134 t135 t136 t137 t138 t139 t140 t141 t142 t143 t144 t145 t146 t147 t148 t149 t150 t151 t152 t153 t154 t155 t156 t157 t158 t159 t160 t161 t162 t163 t164 t165 t166 t167 t168
                        go_wp2_with fail
                        go_roundg (K - (k + 1))
                        case measure => omega
                        case rel => exact ⟨k + 1, rfl, by omega, by go_num, Lib.hid ⟨ls3, gone3, X3, rfl, H3.out.1, H3.out.2.step (HW.out.2.2.trans (HB6.out.mono HW.out.2.2.size))⟩⟩
          · have d3 : decide (40 < nx) = true := decide_eq_true (by omega)
            have d4 : decide ((40 : Int) < (nx : Int)) = true := decide_eq_true (by omega)
            have HB9 := Lib.hid HKP.out.below
            go_wp2_with fail
            go_ret
            exact ⟨rfl, HB9.out⟩
        · obtain rfl : k = K := by omega
          have HB9 := Lib.hid HKP.out.below
          have hz := (zero_of_info (P := Try.prog) (t := 28) (v := .agg #[.slice none 0 0, .bool false]) (n := 2) (by kernel_rfl)).1
          have HB8 : Hid (Below w.heap.size w (wr.alloc (.cells #[.slice none 0 0, .bool false] 28))) := Lib.hid (HB9.out.alloc HB9.out.size _)
          clear HKP
          go_wp2_with fail
          refine (push_nil (.pointer none) 1 _ 1 _).mono ?_
          rintro e w3 ⟨rfl, rfl⟩
          generalize wr.alloc (.cells #[.slice none 0 0, .bool false] 28) = w3 at *
          go_wp2_with fail
          refine (clear_nil _).mono ?_
          rintro e w4 ⟨rfl, rfl⟩
          have HAO := Lib.hid (at_out (.pointer none) 0 0 (.inr (by omega)) w3 (by omega) (fun Y hY => len_nil Y))
          go_wp2_with fail
          refine HAO.out.mono ?_
          rintro e w4 ⟨rfl, hb4⟩
          have HB4 := Lib.hid (HB8.out.trans (hb4.mono HB8.out.size))
          clear hb4 HAO
          obtain ⟨W5, hW5⟩ : ∃ W5, W5 = w4.alloc (.cells #[.slice none 0 0, .bool false] 28) := ⟨_, rfl⟩
          have hnew : (w4.alloc (.cells #[.slice none 0 0, .bool false] 28)).heap[w4.heap.size]? = some (.cells #[.slice none 0 0, .bool false] 28 (0, 0)) := heap_alloc_new w4 _
          have hrow : (w4.alloc (.cells #[.slice none 0 0, .bool false] 28)).setRow w4.heap.size #[.slice none 0 0, .bool false] = W5 := by rw [hW5]; exact World.setRow_alloc_new w4 _ _ _
          have HB5 : Hid (Below w.heap.size w W5) := Lib.hid (by rw [hW5]; exact HB4.out.alloc HB4.out.size _)
          clear hW5
          go_wp2_with (refine wpList_store_row rfl 28 _ _ rfl w4.heap.size #[.slice none 0 0, .bool false] rfl rfl _ _ hnew (size_line _ _) rfl (one_line _ _ _ _) ?_; rw [hrow])
          refine (len_nil _).mono ?_
          rintro e w6 ⟨rfl, rfl⟩
          go_wp2_with fail
          refine (gone_nil _).mono ?_
          rintro e w6 ⟨rfl, rfl⟩
          go_wp2_with fail
          refine (last_nil _).mono ?_
          rintro e w6 ⟨rfl, hb6⟩
          have HB6 := Lib.hid (HB5.out.trans (hb6.mono HB5.out.size))
          clear hb6
          go_wp2_with fail
          go_ret
          exact ⟨rfl, HB6.out⟩
  · have d1 : decide (60 < K) = true := decide_eq_true (by omega)
    have d2 : decide ((60 : Int) < (K : Int)) = true := decide_eq_true (by omega)
    go_enter Try.func4, Try.ntmps4
    go_wp2_with fail
    refine (HWK.out _).mono ?_
    rintro e w1 ⟨rfl, hb1⟩
    have HB1 := Lib.hid hb1
    clear hb1
    go_wp2_with fail
    refine (HWK.out _).mono ?_
    rintro e w2 ⟨rfl, hb2⟩
    have HB2 := Lib.hid (HB1.out.trans (hb2.mono HB1.out.size))
    clear hb2
    go_wp2_with fail
    go_ret
    exact ⟨rfl, HB2.out⟩
theorem keeps_law (w : World) (most : Int) (hm1 : -9223372036854775808 ≤ most) (hm2 : most ≤ 9223372036854775807) (av : Option Addr) (K cv : Nat) (acs : List ActC) (h : IsActs w av K cv acs) (n : Int) (hn1 : -9223372036854775808 ≤ n) (hn2 : n ≤ 9223372036854775807) :
    Calls Try.prog 4 #[.int .i64 most, .slice av K cv, .int .i64 n] w fun e w' => e = .returned (.bool true) ∧ Below w.heap.size w w' := ring_keeps most hm1 hm2 av K cv acs n hn1 hn2 w h
end Go.Proofs.Ytediledehhcicaa.Ring

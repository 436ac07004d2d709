/-
  linotyperef57.Expand.
-/
import Derived.Test.YtcbfmokafmagpaaGreatTabsB
import Derived.Test.YtcbfmokafmagpaaGreatExp
namespace Go.Proofs.YtcbfmokafmagpaaGreat.Stops
set_option linter.unusedSimpArgs false
set_option linter.unusedVariables false
open Go Go.RowKit Go.Shelf Mem Turn Gra Same GraLaw Mea Seg

theorem t1 : Gcb.val 9 = 3 := by kernel_rfl
theorem t2 : Conj.val 9 = 0 := by kernel_rfl
theorem t3 : Pict.isB 9 = false := by kernel_rfl

theorem pj_ctrl (x : Int) : Pairs.pj (Pairs.cls 3) x = 0 := by
  have e : Pairs.cls 3 = 3 := by decide
  rw [e]
  unfold Pairs.pj Pairs.brkB
  simp

/-- behind a tab begins a cluster -/
theorem jn_tab (xs : List Int) (i : Nat) (h : xs.getD i 0 = 9) : Jn xs (i + 1) = false := by
  show joinsR (props xs) (i + 1) = false
  have hp : props xs i = prop 9 := by unfold props; rw [h]
  have c0 : (prop 9).co = 0 := t2
  have c1 : (prop 9).br = 3 := t1
  unfold joinsR
  have e1 : conjR (props xs) (i + 1) = false := by
    unfold conjR conjDown
    rw [hp, c0]
    simp
  have e2 : pictR (props xs) (i + 1) = false := by
    unfold pictR
    rw [Nat.add_sub_cancel, hp, c1]
    simp
  rw [e1, e2, Nat.add_sub_cancel, hp, c1, pj_ctrl]
  simp

theorem cl_first (xs : List Int) {k : Nat} (hk : k < cnt (Jn xs) xs.length) : (cl xs k).getD 0 0 = xs.getD (st (Jn xs) xs.length k) 0 := by
  have hmo := st_mono (J := Jn xs) (n := xs.length) (j := k) (k := k + 1) (by omega) hk
  unfold cl
  rw [List.getD_eq_getElem?_getD, List.getD_eq_getElem?_getD, List.getElem?_take, if_pos (by omega), List.getElem?_drop, Nat.add_zero]

/-- a tab stands alone -/
theorem tab_alone (xs : List Int) {k : Nat} (hk : k < cnt (Jn xs) xs.length) (h9 : (cl xs k).getD 0 0 = 9) : (cl xs k).length = 1 := by
  have hmo := st_mono (J := Jn xs) (n := xs.length) (j := k) (k := k + 1) (by omega) hk
  have hyl := cl_len xs hk
  rw [hyl]
  rcases Nat.lt_or_ge (st (Jn xs) xs.length k + 1) (st (Jn xs) xs.length (k + 1)) with h | h
  · have h1 := J_mid (J := Jn xs) (i := st (Jn xs) xs.length k + 1) hk (by omega) h
    rw [cl_first xs hk] at h9
    rw [jn_tab xs _ h9] at h1
    cases h1
  · omega

theorem gapG {cols : List Int} {c r : Int} (h : NextQ (Given cols) c r) (hc : 0 ≤ c) : max r (c + 1) = c + (gapN (Given cols) c : Int) ∧ 1 ≤ gapN (Given cols) c ∧ gapN (Given cols) c ≤ 1023 := by
  have hr : r ≤ 1023 := by
    rcases h with ⟨h1, _, _⟩ | ⟨h1, _⟩
    · exact h1.2.2
    · omega
  unfold gapN
  rw [nxt_eq h]
  omega

set_option maxRecDepth 100000 in
set_option maxHeartbeats 8000000 in
theorem rexpand_any (a1 : Option Addr) (n1 c1 : Nat) (cols : List Int) (w : World) (h1 : Ints .i64 w a1 n1 cols) (hn1 : n1 ≤ 100000) (a : Option Addr) (n c : Nat) (xs : List Int) (h : Runes w a n c xs) (hn : n ≤ 1000) :
    Calls Tryz.prog 25 #[.slice a1 n1 c1, .slice a n c] w fun e w' => ∃ o, o = (xE (Given cols) (cl xs) (cnt (Jn xs) xs.length)).1 ∧ o.length ≤ 2000000 ∧ Fresh w w' 21 1 o.length (o.map (Value.int .i32)) e := by
  obtain ⟨i1, hi1, hy0, hy1, hy2⟩ := info_parts info_i32
  have HR := Lib.hid h.r32
  have HL := Lib.hid h.ints.1
  have HH := Lib.hid h
  have H1 := Lib.hid h1
  clear h h1
  go_enter Tryz.func25, Tryz.ntmps25
  go_wp2_with fail
  refine (clusters_ref a n c xs w HH.out (by omega)).mono ?_
  rintro e w1 ⟨v1, rfl, hls, hb1⟩
  obtain ⟨al, cl1, rfl⟩ := lists_slice hls
  have hs1 := hb1.size
  have HB1 := Lib.hid hb1
  have HLS := Lib.hid hls
  have hcn : (cls xs).length = cnt (Jn xs) xs.length := cls_len xs
  clear hls hb1
  rw [hcn]
  have hcx := cnt_le (J := Jn xs) xs.length
  have hln := HL.out
  generalize hcnn : cnt (Jn xs) xs.length = cn at *
  have HCN := Lib.hid hcnn
  have hcn1 : cn ≤ 1000 := by omega
  clear hcnn hcx hln
  go_wp2
  go_loopw [5, 6, 8, 9, 10] (fun v cv i _ _ wr => ∃ k : Nat, k ≤ cn ∧ i = .int .i64 k ∧ cv = .int .i64 (xE (Given cols) (cl xs) k).2 ∧ Hid (wr.ownsRow w1.heap.size 21 1 v (xE (Given cols) (cl xs) k).1.length ((xE (Given cols) (cl xs) k).1.map (Value.int .i32)) ∧ Below w1.heap.size w1 wr ∧ Sm (xE (Given cols) (cl xs) k) k (st (Jn xs) xs.length k))) (fun _ _ i _ _ _ => cn - (intOf i).toNat)
  case atStart => exact ⟨0, Nat.zero_le _, rfl, rfl, World.ownsRow_nil _ _ _ _, Below.refl _ _, by show (0 : Int) ≤ 0; omega, by show (0 : Int) ≤ _; omega, Nat.zero_le _⟩
  case round =>
    obtain ⟨k, hk, rfl, rfl, H⟩ := hrel
    by_cases hlt : k < cn
    · have hlt' : (k : Int) < cn := by omega
      have dlt : decide ((k : Int) < (cn : Int)) = true := decide_eq_true hlt'
      have u0 : IntKind.i64.wrap ((k : Int) + 1) = (k : Int) + 1 := IntWalk.i64_in _ (by omega)
      have hlt2 : k < cnt (Jn xs) xs.length := by rw [HCN.out]; exact hlt
      obtain ⟨g1, rfl, hg1, hat⟩ := lists_own HLS.out (by rw [hcn]; omega)
      obtain ⟨a2, m, ci, hcc, q2⟩ := hat k _ (cls_get xs hlt2)
      have hyl := cl_len xs hlt2
      have hmo := st_mono (J := Jn xs) (n := xs.length) (j := k) (k := k + 1) (by omega) hlt2
      have hle := st_le (J := Jn xs) (n := xs.length) (k := k + 1) hlt2
      have hln := HL.out
      have hmeq : (cl xs k).length = m := by have := q2.1; simpa using this
      have HYR := Lib.hid (cl_r32 HR.out k)
      have hRY := runes_own q2 HYR.out
      obtain ⟨hyl2, h0 | ⟨gi, oi, rfl, hgi, hyc⟩⟩ := hRY.ints
      · omega
      have hmc := hRY.le
      have hmm := hRY.max
      have hcell := ((H.out.2.1).cell (p := ⟨g1, k, none⟩) hg1).trans hcc
      obtain ⟨hown, hbw, hsm⟩ := H.out
      have HYI : Hid (∀ (i : Nat) (x : Int), (cl xs k)[i]? = some x → wr.cell? ⟨gi, oi + i, none⟩ = some (.int .i32 x)) := Lib.hid fun i x hx => (hbw.cell (p := ⟨gi, oi + i, none⟩) hgi).trans (hyc i x hx)
      have HT1 : Hid (st (Jn xs) xs.length (k + 1) = st (Jn xs) xs.length k + m) := Lib.hid (by omega)
      have hm1000 : m ≤ 1000 := by omega
      have hm0 : 0 < m := by omega
      have hmi : (0 : Int) < (m : Int) := by omega
      have hs0n : st (Jn xs) xs.length k ≤ 1000 := by omega
      have hwv := wideV_bd (cl xs k)
      have HYC := Lib.hid hyc
      have HTA := Lib.hid (tab_alone xs hlt2)
      have HSTEP : Hid (xE (Given cols) (cl xs) (k + 1) = stepE (Given cols) (xE (Given cols) (cl xs) k) (cl xs k)) := Lib.hid rfl
      have HOWN := Lib.hid hown
      have HBW := Lib.hid hbw
      have HGI : Hid (gi < w1.heap.size) := Lib.hid hgi
      have HYL := Lib.hid hmeq
      clear hown hbw H hyc q2 hat hcc hRY hyl hyl2 hmo hle hln hmeq
      generalize hS : xE (Given cols) (cl xs) k = s at *
      generalize hys : cl xs k = ys at *
      generalize hss : st (Jn xs) xs.length k = s0 at *
      clear hS hys hss hlt2
      obtain ⟨o, col⟩ := s
      obtain ⟨hc0, hc1, hol⟩ := hsm
      simp only at HOWN hc0 hc1 hol ⊢
      obtain ⟨ol, hoo⟩ : ∃ ol, o.length = ol := ⟨_, rfl⟩
      have HOL := Lib.hid hoo
      rw [hoo] at HOWN hol
      clear hoo
      obtain ⟨av, cv, rfl⟩ := own_slice HOWN.out
      obtain ⟨x0, hx0⟩ : ∃ x0, ys[0]? = some x0 := ⟨_, List.getElem?_eq_getElem (by rw [HYL.out]; exact hm0)⟩
      have hg0 : ys.getD 0 0 = x0 := by simp [List.getD_eq_getElem?_getD, hx0]
      have c0 := HYI.out 0 x0 hx0
      rw [Nat.add_zero] at c0
      have HG0 := Lib.hid hg0
      have HRY : Hid (Ints .i32 wr (some ⟨gi, oi, none⟩) m ys) := Lib.hid ⟨HYL.out, .inr ⟨gi, oi, rfl, Nat.lt_of_lt_of_le HGI.out HBW.out.size, HYI.out⟩⟩
      clear hx0 hg0
      have hkk : k ≤ 1000 := by omega
      by_cases h9 : x0 = 9
      · have d9 : (x0 == 9) = true := by simp [h9]
        obtain rfl : m = 1 := by rw [← HYL.out]; exact HTA.out (by rw [HG0.out]; exact h9)
        have HSE : Hid (xE (Given cols) (cl xs) (k + 1) = (o ++ List.replicate (gapN (Given cols) col) 32, col + gapN (Given cols) col)) := by rw [HSTEP.out]; exact Lib.hid (step_tab (by rw [HG0.out]; exact h9))
        clear h9 HSTEP
        have u1 : IntKind.i64.wrap (col + 1) = col + 1 := IntWalk.i64_in _ (by omega)
        go_wp2_with fail
        refine (rnext_any a1 n1 c1 cols wr ((H1.out.below HB1.out).below (HBW.out.mono (Nat.le_refl _))) (by omega) col).mono ?_
        rintro e w3 ⟨⟨r, rfl, hP⟩, rfl⟩
        obtain ⟨hto, hN1, hN2⟩ := gapG hP hc0
        clear hP
        generalize gapN (Given cols) col = N at *
        obtain ⟨to, hto2⟩ : ∃ to, col + (N : Int) = to := ⟨_, rfl⟩
        rw [hto2] at hto
        have HTO := Lib.hid hto2
        clear hto2
        go_wp2
        go_loopw [5, 6] (fun v cv wr => ∃ j : Nat, j ≤ N ∧ cv = .int .i64 (col + (j : Int)) ∧ Hid (wr.ownsRow w1.heap.size 21 1 v (ol + j) ((o ++ List.replicate j (32 : Int)).map (Value.int .i32)) ∧ Below w1.heap.size w1 wr)) (fun _ cv _ => N - (intOf cv - col).toNat)
        case atStart => exact ⟨0, Nat.zero_le _, by simp, by simpa using HOWN.out, HBW.out⟩
        case round =>
          obtain ⟨j, hj, rfl, HQ⟩ := hrel
          obtain ⟨q1, q2⟩ := HQ.out
          obtain ⟨av2, cv2, rfl⟩ := own_slice q1
          have HO2 := Lib.hid q1
          have HB2 := Lib.hid q2
          have hs2 := q2.size
          clear q1 q2 HQ
          by_cases hjl : j < N
          · have djl : decide (col + (j : Int) < to) = true := decide_eq_true (by have := HTO.out; omega)
            have hjl' : col + (j : Int) < to := by have := HTO.out; omega
            have u2 : IntKind.i64.wrap (col + (j : Int) + 1) = col + (j : Int) + 1 := IntWalk.i64_in _ (by omega)
            go_wp2_with (at_builtin; (refine wpList_append_own _ rfl _ _ 22 rfl w1.heap.size 21 i1 _ 1 4 Tryz.underlying22 hi1 hy0 hy1 hy2 rfl (by decide) (.slice av2 (ol + j) cv2) (ol + j) _ rfl (HO2.out.alloc _) ⟨wr.heap.size, 0, none⟩ 1 1 [.int .i32 32] rfl rfl (cell_new1 _ _ _) (by simp [Value.oneCell']) (by unfold maxLen; omega) (by omega) (by simp; omega) ?_; intro v5 w5 hown5 hgrow5 _))
            have R : Hid (w5.ownsRow w1.heap.size 21 1 v5 (ol + (j + 1)) ((o ++ List.replicate (j + 1) (32 : Int)).map (Value.int .i32)) ∧ Below w1.heap.size w1 w5) := by
              rw [List.replicate_succ', ← List.append_assoc, List.map_append]
              exact Lib.hid ⟨hown5, (HB2.out.alloc hs2 _).grown hgrow5 (by simp; omega) (fun j e => (HO2.out.lt j e).1)⟩
            clear hown5 hgrow5 HO2
            go_roundw
            case rel => exact ⟨j + 1, by omega, by congr 1; omega, R⟩
            case measure => simp [intOf]; omega
          · obtain rfl : N = j := by omega
            have djl : decide (col + (N : Int) < to) = false := decide_eq_false (by have := HTO.out; omega)
            have hjl' : ¬ col + (N : Int) < to := by have := HTO.out; omega
            have R : Hid (wr.ownsRow w1.heap.size 21 1 (.slice av2 (ol + N) cv2) (o ++ List.replicate N (32 : Int)).length ((o ++ List.replicate N (32 : Int)).map (Value.int .i32)) ∧ Below w1.heap.size w1 wr ∧ Sm (o ++ List.replicate N (32 : Int), col + (N : Int)) (k + 1) (st (Jn xs) xs.length (k + 1))) := by
              refine Lib.hid ⟨?_, HB2.out, ?_⟩
              · rw [List.length_append, HOL.out, List.length_replicate]; exact HO2.out
              · refine ⟨by show (0 : Int) ≤ col + N; omega, by show col + (N : Int) ≤ _; omega, ?_⟩
                show (o ++ List.replicate N (32 : Int)).length ≤ _
                rw [List.length_append, HOL.out, List.length_replicate, HT1.out]
                omega
            clear HO2 HB2
            go_wp2
            go_roundw
            case rel => exact ⟨k + 1, by omega, by go_num, by rw [HSE.out], by rw [HSE.out]; exact R⟩
            case measure => simp [intOf]; omega
      · have d9 : (x0 == 9) = false := by simp [h9]
        obtain ⟨x1, hx1⟩ : ∃ x1, ys[m - 1]? = some x1 := ⟨_, List.getElem?_eq_getElem (by rw [HYL.out]; omega)⟩
        have hgl : ys.getD (ys.length - 1) 0 = x1 := by rw [HYL.out]; simp [List.getD_eq_getElem?_getD, hx1]
        have HX1 := Lib.hid hx1
        have HGL := Lib.hid hgl
        have HN9 := Lib.hid h9
        have u3 : IntKind.i64.wrap ((m : Int) - 1) = (m : Int) - 1 := IntWalk.i64_in _ (by omega)
        have u4 : IntKind.i64.wrap (col + wideV ys) = col + wideV ys := IntWalk.i64_in _ (by omega)
        have e3 : ((m : Int) - 1).toNat = m - 1 := by omega
        have g3 : (0 : Int) ≤ (m : Int) - 1 := by omega
        have g4 : (m : Int) - 1 < (m : Int) := by omega
        have HSRC : Hid (Turn.Src wr (some ⟨gi, oi, none⟩) m 1 (ys.map (Value.int .i32))) := Lib.hid (Just.src_ints HRY.out)
        have hs2 := HBW.out.size
        clear hx1 hgl h9
        rcases Bool.eq_false_or_eq_true ((m : Int) == 1) with dm | dm
        all_goals
          go_wp2_with (at_builtin; (refine wpList_append_src _ rfl _ _ 22 rfl w1.heap.size 21 i1 _ 1 4 Tryz.underlying22 hi1 hy0 hy1 hy2 rfl (by decide) (.slice av ol cv) ol _ rfl HOWN.out (some ⟨gi, oi, none⟩) m ci (ys.map (Value.int .i32)) rfl HSRC.out (one_cells _ _) (by unfold maxLen; omega) (by omega) hs2 ?_; intro v5 w5 hown5 hgrow5))
          have hb5 : Below w1.heap.size w1 w5 := HBW.out.grown hgrow5 hs2 (fun j e => (HOWN.out.lt j e).1)
          refine (wide_ref gi oi m ci ys w5 HYL.out (Nat.lt_of_lt_of_le HGI.out hb5.size) (fun i x hx => (hb5.cell (p := ⟨gi, oi + i, none⟩) HGI.out).trans (HYC.out i x hx)) HYR.out hm0 (by omega) hmc).mono ?_
          rintro e w6 ⟨rfl, hb6⟩
          rw [← List.map_append] at hown5
          have hb6' : Below w1.heap.size w1 w6 := hb5.trans (hb6.mono hb5.size)
          have R1 : Hid (w6.ownsRow w1.heap.size 21 1 v5 (ol + m) ((o ++ ys).map (Value.int .i32)) ∧ Below w1.heap.size w1 w6) := Lib.hid ⟨(Turn.of_new hb6 : Turn (fun _ => False) w5 w6).kept hown5 (fun _ _ => id), hb6'⟩
          have c1 : w6.cell? ⟨gi, oi + (m - 1), none⟩ = some (.int .i32 x1) := (hb6'.cell (p := ⟨gi, oi + (m - 1), none⟩) HGI.out).trans (HYC.out (m - 1) x1 HX1.out)
          clear hown5 hgrow5 hb5 hb6 hb6' HSRC c0
          have hlen : Hid ((o ++ ys).length = ol + m) := Lib.hid (by rw [List.length_append, HOL.out, HYL.out])
          by_cases h10 : x1 = 10
          · have d10 : (x1 == 10) = true := by simp [h10]
            have HSE : Hid (xE (Given cols) (cl xs) (k + 1) = (o ++ ys, 0)) := by rw [HSTEP.out]; exact Lib.hid (step_nl (by rw [HG0.out]; exact HN9.out) (by rw [HGL.out]; exact h10))
            have R : Hid (w6.ownsRow w1.heap.size 21 1 v5 (o ++ ys).length ((o ++ ys).map (Value.int .i32)) ∧ Below w1.heap.size w1 w6 ∧ Sm (o ++ ys, (0 : Int)) (k + 1) (st (Jn xs) xs.length (k + 1))) := by
              refine Lib.hid ⟨by rw [hlen.out]; exact R1.out.1, R1.out.2, by show (0 : Int) ≤ 0; omega, by show (0 : Int) ≤ _; omega, ?_⟩
              show (o ++ ys).length ≤ _
              rw [hlen.out, HT1.out]; omega
            clear h10 HSTEP R1
            go_wp2
            go_roundw
            case rel => exact ⟨k + 1, by omega, by go_num, by rw [HSE.out], by rw [HSE.out]; exact R⟩
            case measure => simp [intOf]; omega
          · have d10 : (x1 == 10) = false := by simp [h10]
            have HSE : Hid (xE (Given cols) (cl xs) (k + 1) = (o ++ ys, col + wideV ys)) := by rw [HSTEP.out]; exact Lib.hid (step_else (by rw [HG0.out]; exact HN9.out) (by rw [HGL.out]; exact h10))
            have R : Hid (w6.ownsRow w1.heap.size 21 1 v5 (o ++ ys).length ((o ++ ys).map (Value.int .i32)) ∧ Below w1.heap.size w1 w6 ∧ Sm (o ++ ys, col + wideV ys) (k + 1) (st (Jn xs) xs.length (k + 1))) := by
              refine Lib.hid ⟨by rw [hlen.out]; exact R1.out.1, R1.out.2, by show (0 : Int) ≤ col + wideV ys; omega, by show col + wideV ys ≤ _; omega, ?_⟩
              show (o ++ ys).length ≤ _
              rw [hlen.out, HT1.out]; omega
            clear h10 HSTEP R1
            go_wp2
            go_roundw
            case rel => exact ⟨k + 1, by omega, by go_num, by rw [HSE.out], by rw [HSE.out]; exact R⟩
            case measure => simp [intOf]; omega
    · obtain rfl : cn = k := by omega
      obtain ⟨hown, hbw, hsm⟩ := H.out
      have hol := hsm.2.2
      rw [← HCN.out, st_cnt] at hol
      have hln := HL.out
      have hco : cnt (Jn xs) xs.length ≤ 1000 := by rw [HCN.out]; exact hcn1
      have hol2 : (xE (Given cols) (cl xs) cn).1.length ≤ 2000000 := by rw [← HCN.out]; omega
      have HF : Hid (wr.ownsRow w.heap.size 21 1 u5 (xE (Given cols) (cl xs) cn).1.length ((xE (Given cols) (cl xs) cn).1.map (Value.int .i32)) ∧ Below w.heap.size w wr) := Lib.hid ⟨hown.mono HB1.out.size, HB1.out.trans (hbw.mono HB1.out.size)⟩
      clear hown hbw hsm hol H
      generalize hgo : (xE (Given cols) (cl xs) cn).1 = o at *
      have HGO : Hid (o = (xE (Given cols) (cl xs) (cnt (Jn xs) xs.length)).1) := Lib.hid (by rw [HCN.out]; exact hgo.symm)
      clear hgo
      have dlt : decide ((cn : Int) < (cn : Int)) = false := decide_eq_false (by omega)
      go_wp2
      go_ret
      exact ⟨o, HGO.out, hol2, _, rfl, HF.out.1, HF.out.2⟩

end Go.Proofs.YtcbfmokafmagpaaGreat.Stops

/-
  linotypetop.TopSound.
-/
import Derived.Test.YtjicdcmdgbcdcaaGreatDoorSd22
import Derived.Test.YtjicdcmdgbcdcaaGreatDoorSd50
import Derived.Deep.DeepCutAuto
import Derived.Deep.CutRange
import Derived.Outline
section
namespace Go.Proofs.YtjicdcmdgbcdcaaGreatDoor.Scr
set_option linter.unusedSimpArgs false
set_option linter.unusedVariables false
open Go Go.RowKit Mem Turn Ring

/-- what is asked of a view, as contracts -/
structure ViewOK (W H : Nat) (r c : Int) (pb au : Bool) (L : List LineC) (u : Nat) : Prop where
  lenL : L.length = H
  hH : H ≤ 1024
  right : ∀ w, Calls Tryz.prog 10 #[.agg #[.int .i64 r, .int .i64 c, .bool pb], .int .i64 (W : Int), .int .i64 (H : Int)] w fun e w' => e = .returned (.bool true) ∧ Below w.heap.size w w'
  used : ∀ (B : Nat) (v : Value) w, OwnLines B w v L → Calls Tryz.prog 11 #[.agg (viewA W H v r c pb au)] w fun e w' => e = .returned (.int .i64 (u : Int)) ∧ Below w.heap.size w w'
  most : ∀ w, Calls Tryz.prog 12 #[.int .i64 (W : Int), .int .i64 (H : Int)] w fun e w' => e = .returned (.int .i64 ((W : Int) * (H : Int) * 16)) ∧ w = w'
  le : decide ((W : Int) * (H : Int) * 16 < (u : Int)) = false
  rows : RowsOK L W
theorem view_ok {s : ScrC} (h : FeedOK s.f s.W) : ViewOK s.W s.f.pen.rows.length s.f.pen.at_.row s.f.pen.at_.col s.f.pen.at_.pend s.f.pen.auto s.f.pen.rows (usedR s.f.pen.rows) := by
  have hp := h.pen
  have hu := usedR_le hp.rows
  have hm : s.f.pen.rows.length * (s.W * 16) ≤ 1024 * (1024 * 16) := Nat.mul_le_mul hp.h2 (Nat.mul_le_mul_right _ hp.w2)
  refine ⟨rfl, hp.h2, fun w => right_same _ _ _ _ _ w hp.held.symm, fun B v w hv => used_any B _ _ v _ _ _ _ _ w hv (by omega) (by have := hp.h2; omega), fun w => most_in _ _ w hp.w1 hp.w2 hp.h1 hp.h2, decide_eq_false ?_, hp.rows⟩
  have h1 : ((s.f.pen.rows.length * (s.W * 16) : Nat) : Int) = (s.W : Int) * (s.f.pen.rows.length : Int) * 16 := by
    rw [Int.natCast_mul, Int.natCast_mul, Int.mul_comm (s.W : Int) (s.f.pen.rows.length : Int), Int.mul_assoc]
    rfl
  omega

set_option maxRecDepth 100000 in
set_option maxHeartbeats 16000000 in
theorem top_sound (dw dh : Int) (a : Option Addr) (n c : Nat) (ops : List OpC) (w : World) (hv : VarsN w.heap.size w) (ho : IsOps w a n c ops) :
    Calls Tryz.prog 3 #[.agg #[.int .i64 dw, .int .i64 dh], .slice a n c] w fun e w' => e = .returned (.bool true) ∧ Below w.heap.size w w' := by
  have hmx : Tryz.prog.follows .mixedOrders = true := by kernel_rfl
  have hb1 : Below w.heap.size w (w.alloc (.cells #[.int .i64 dw, .int .i64 dh] 23)) := (Below.refl _ _).alloc (Nat.le_refl _) _
  have hn1 := heap_alloc_new w (.cells #[.int .i64 dw, .int .i64 dh] 23)
  have hs1 : (w.alloc (.cells #[.int .i64 dw, .int .i64 dh] 23)).heap.size = w.heap.size + 1 := by simp
  have HV := Lib.hid hv
  have HO := Lib.hid ho
  have HB1 := Lib.hid hb1
  have HN1 := Lib.hid hn1
  have HS1 := Lib.hid hs1
  have hnb := ho.2.2.1
  clear hv ho hb1 hn1 hs1
  go_enter Tryz.func3, Tryz.ntmps3
  go_upto_region 1 with fail
  generalize (w.alloc (.cells #[.int .i64 dw, .int .i64 dh] 23)) = w1 at *
  have HPL := Lib.hid (fun (w2 : World) (hb : Below w.heap.size w w2) => plays_ok w2 (HV.out.up hb hb.size (Nat.le_refl _)))
  go_cut [25] (fun s wx => s = .bool (decide ((60 : Int) < (n : Int)) || (decide ((60 : Int) < dw) && decide ((60 : Int) < dh))) ∧ Hid (Below w.heap.size w wx ∧ wx.heap[w.heap.size]? = some (.cells #[.int .i64 dw, .int .i64 dh] 23 (0, 0))))
  case first =>
    go_wp2_with fail
    refine (HPL.out w1 HB1.out).mono ?_
    rintro e w2 ⟨rfl, hb2⟩
    have hn2 := (Turn.of_new hb2 : Turn (fun _ => False) w1 w2).heap HN1.out id
    have HF : Hid (Below w.heap.size w w2 ∧ w2.heap[w.heap.size]? = some (.cells #[.int .i64 dw, .int .i64 dh] 23 (0, 0))) := Lib.hid ⟨HB1.out.trans (hb2.mono (by have := HS1.out; omega)), hn2⟩
    have c0 : w2.cell? ⟨w.heap.size, 0, none⟩ = some (.int .i64 dw) := by simp [World.cell?, hn2]
    have c1 : w2.cell? ⟨w.heap.size, 1, none⟩ = some (.int .i64 dh) := by simp [World.cell?, hn2]
    clear hb2 hn2
    rcases hd0 : decide ((60 : Int) < (n : Int)) with _ | _
    · rcases hd1 : decide ((60 : Int) < dw) with _ | _
      · go_wp2_with fail
        go_meet
        exact ⟨by rw [hd0, hd1]; rfl, HF⟩
      · go_wp2_with fail
        go_meet
        exact ⟨by rw [hd0, hd1]; rfl, HF⟩
    · go_wp2_with fail
      go_meet
      exact ⟨by rw [hd0]; rfl, HF⟩
  case rest =>
    obtain ⟨rfl, hwc⟩ := hcut
    obtain ⟨hbc, hnc⟩ := hwc.out
    have HBC := Lib.hid hbc
    have c0 : wc.cell? ⟨w.heap.size, 0, none⟩ = some (.int .i64 dw) := by simp [World.cell?, hnc]
    have c1 : wc.cell? ⟨w.heap.size, 1, none⟩ = some (.int .i64 dh) := by simp [World.cell?, hnc]
    clear hbc hnc hwc HB1 HN1 HS1
    obtain ⟨big, hbig⟩ : ∃ big, (decide ((60 : Int) < (n : Int)) || (decide ((60 : Int) < dw) && decide ((60 : Int) < dh))) = big := ⟨_, rfl⟩
    rw [hbig]
    cases big
    · have hn60 : n ≤ 60 := by
        simp only [Bool.or_eq_false_iff, decide_eq_false_iff_not] at hbig
        omega
      clear hbig
      have HNW := Lib.hid (live_new dw dh wc)
      obtain ⟨s0, hs0⟩ : ∃ s0, s0 = newS dw dh := ⟨_, rfl⟩
      rw [← hs0] at HNW
      have HS0 := Lib.hid hs0
      clear hs0
      go_wp2_with fail
      refine HNW.out.mono ?_
      rintro e w2 ⟨σ, rfl, hl, hσ⟩
      have HL := Lib.hid hl
      have HVC := Lib.hid (HV.out.up HBC.out HBC.out.size (Nat.le_refl _))
      have HOC := Lib.hid (HO.out.below HBC.out)
      clear hl hσ HNW c0 c1
      go_wp2_with fail
      have HL0 : Hid (Live wc.heap.size wc w2 σ s0) := HL
      clear HL HPL
      go_loopg [4, 6, 7, 8] n (fun gg v4 v6 v7 v8 wx => ∃ (k : Nat) (s : ScrC), n - k = gg ∧ k ≤ n ∧ v6 = .int .i64 (k : Int) ∧ Hid (Live wc.heap.size wc wx σ s))
      case atStart => exact ⟨0, s0, rfl, Nat.zero_le _, rfl, HL0⟩
      case round =>
        obtain ⟨k, s, rfl, hk, rfl, H⟩ := hrel
        by_cases hlt : k < n
        · have hlt' : (k : Int) < (n : Int) := by omega
          obtain ⟨o, hok⟩ : ∃ o, ops[k]? = some o := ⟨_, List.getElem?_eq_getElem (by rw [HOC.out.1]; exact hlt)⟩
          obtain ⟨b, off, ba, bc, rfl, hb, hrg, hin, hr⟩ := HOC.out.lies hok
          obtain ⟨m, hm⟩ : ∃ m, o.bytes.length = m := ⟨_, rfl⟩
          rw [hm] at hrg hin
          have hrr := hrg wr H.out.bel
          have x0 : wr.cell? ⟨b, off + k * 4, none⟩ = some (.int .i64 o.kind) := hrr 0 _ rfl
          have x1 : wr.cell? ⟨b, off + k * 4 + 1, none⟩ = some (.int .i64 o.a) := hrr 1 _ rfl
          have x2 : wr.cell? ⟨b, off + k * 4 + 2, none⟩ = some (.int .i64 o.b) := hrr 2 _ rfl
          have x3 : wr.cell? ⟨b, off + k * 4 + 3, none⟩ = some (.slice ba m bc) := hrr 3 _ rfl
          have HRR := Lib.hid hrr
          have HDO := Lib.hid (live_do H.out HVC.out o ba m bc hm hin hr)
          have HLV := Lib.hid H.out
          clear hok hrg hin hr hm hrr H
          go_upto_region 7 with fail
          go_cut [68] (fun s68 wx => s68 = .bool (decide ((2000 : Int) < (m : Int)) || ((o.kind == 13) && (decide ((60 : Int) < o.a) && decide ((60 : Int) < o.b)))) ∧ wr = wx)
          case first =>
            rcases hd0 : decide ((2000 : Int) < (m : Int)) with _ | _
            · rcases hd1 : (o.kind == 13) with _ | _
              · go_wp2_with fail
                go_meet
                exact ⟨by rw [hd0, hd1]; rfl, rfl⟩
              · rcases hd2 : decide ((60 : Int) < o.a) with _ | _
                · go_wp2_with fail
                  go_meet
                  exact ⟨by rw [hd0, hd1, hd2]; rfl, rfl⟩
                · go_wp2_with fail
                  go_meet
                  exact ⟨by rw [hd0, hd1, hd2]; rfl, rfl⟩
            · go_wp2_with fail
              go_meet
              exact ⟨by rw [hd0]; rfl, rfl⟩
          case rest =>
            obtain ⟨rfl, rfl⟩ := hcut
            obtain ⟨big2, hbig2⟩ : ∃ big2, (decide ((2000 : Int) < (m : Int)) || ((o.kind == 13) && (decide ((60 : Int) < o.a) && decide ((60 : Int) < o.b)))) = big2 := ⟨_, rfl⟩
            rw [hbig2]
            clear hbig2 x0 x1 x2 x3
            cases big2
            · have hrr := HRR.out
              go_wp2_with (refine wpList_load_mid rfl 30 _ rfl b (off + k * 4) rfl [.int .i64 o.kind, .int .i64 o.a, .int .i64 o.b, .slice ba m bc] _ hrr Tryz.underlying30 rfl (size_op _ _ _ _) ?_)
              refine HDO.out.mono ?_
              rintro e w3 ⟨⟨v0, rfl, -⟩, hl3⟩
              obtain ⟨s3, hs3⟩ : ∃ s3, s3 = doS s o := ⟨_, rfl⟩
              rw [← hs3] at hl3
              have HL3 := Lib.hid hl3
              have HVW := Lib.hid (live_view hl3)
              have hvok := view_ok hl3.ok
              clear hl3 hs3 HDO HRR hrr HLV
              go_upto_region 10 with fail
              generalize hWn : s3.W = Wn at *
              generalize hLn : s3.f.pen.rows = L at *
              generalize hHn : L.length = Hn at *
              generalize hr0 : s3.f.pen.at_.row = r0 at *
              generalize hc0 : s3.f.pen.at_.col = c0 at *
              generalize hp0 : s3.f.pen.at_.pend = pb at *
              generalize ha0 : s3.f.pen.auto = au at *
              generalize hu0 : usedR L = u0 at *
              have HVV : Hid (∀ v, viewV s3 v = .agg (viewA Wn Hn v r0 c0 pb au)) := Lib.hid fun v => by
                unfold viewV
                rw [hWn, hLn, hHn, hr0, hc0, hp0, ha0]
              have HVO := Lib.hid hvok
              have HHN := Lib.hid hHn
              clear hWn hLn hHn hr0 hc0 hp0 ha0 hu0 hvok
              go_wp2_with fail
              refine HVW.out.mono ?_
              rintro e w4 ⟨v, rfl, hov, hb4⟩
              rw [HVV.out v]
              obtain ⟨av, cv, rfl, _, hrows⟩ := hov.at_
              rw [HHN.out] at hov ⊢
              have hnew : (w4.alloc (.cells (viewA 0 0 (.slice none 0 0) 0 0 false false) 38)).heap[w4.heap.size]? = some (.cells (viewA 0 0 (.slice none 0 0) 0 0 false false) 38 (0, 0)) := heap_alloc_new w4 _
              have hrow : (w4.alloc (.cells (viewA 0 0 (.slice none 0 0) 0 0 false false) 38)).setRow w4.heap.size (viewA Wn Hn (.slice av Hn cv) r0 c0 pb au) = w4.alloc (.cells (viewA Wn Hn (.slice av Hn cv) r0 c0 pb au) 38) := World.setRow_alloc_new w4 _ _ _
              have HOV := Lib.hid hov
              have HB4 := Lib.hid hb4
              clear hov hb4 hrows
              go_upto_region 11 with (refine wpList_store_row rfl 38 _ _ rfl w4.heap.size (viewA Wn Hn (.slice av Hn cv) r0 c0 pb au) rfl rfl _ _ hnew (size_view _ _ _ _ _ _ _) rfl (one_view _ _ _ _ _ _ _ _ _) ?_)
              try rw [hrow]
              have hb5 : Below w4.heap.size w4 (w4.alloc (.cells (viewA Wn Hn (.slice av Hn cv) r0 c0 pb au) 38)) := (Below.refl _ _).alloc (Nat.le_refl _) _
              have hn5 := heap_alloc_new w4 (.cells (viewA Wn Hn (.slice av Hn cv) r0 c0 pb au) 38)
              have HL5 := Lib.hid ((HL3.out.below (Nat.le_refl _) HB4.out).below (Nat.le_refl _) hb5)
              have HOV5 := Lib.hid (HOV.out.below hb5)
              generalize (w4.alloc (.cells (viewA Wn Hn (.slice av Hn cv) r0 c0 pb au) 38)) = w5 at *
              obtain ⟨q, hq⟩ : ∃ q, w4.heap.size = q := ⟨_, rfl⟩
              rw [hq] at hn5
              simp only [hq]
              clear hnew hrow hb5 HOV HB4 HL3 HVW hq
              have s0 : w5.cell? ⟨q, 0, none⟩ = some (.int .i64 Wn) := by simp [World.cell?, hn5]
              have s1 : w5.cell? ⟨q, 1, none⟩ = some (.int .i64 Hn) := by simp [World.cell?, hn5]
              have s2 : w5.cell? ⟨q, 2, none⟩ = some (.slice av Hn cv) := by simp [World.cell?, hn5]
              have s3 : w5.cell? ⟨q, 3, none⟩ = some (.int .i64 r0) := by simp [World.cell?, hn5]
              have s4 : w5.cell? ⟨q, 4, none⟩ = some (.int .i64 c0) := by simp [World.cell?, hn5]
              have s5 : w5.cell? ⟨q, 5, none⟩ = some (.bool pb) := by simp [World.cell?, hn5]
              change Code.wp _ _ _ ⟨_, _⟩ _
              go_cut [102] (fun s102 wx => s102 = .bool false ∧ Hid (Below w5.heap.size w5 wx))
              case first =>
                refine region_begin3 (fun w' => w'.cell? ⟨q, 0, none⟩ = some (.int .i64 Wn) ∧ w'.cell? ⟨q, 1, none⟩ = some (.int .i64 Hn) ∧ w'.cell? ⟨q, 2, none⟩ = some (.slice av Hn cv) ∧ w'.cell? ⟨q, 3, none⟩ = some (.int .i64 r0) ∧ w'.cell? ⟨q, 4, none⟩ = some (.int .i64 c0) ∧ w'.cell? ⟨q, 5, none⟩ = some (.bool pb) ∧ w'.heap[q]? = some (.cells (viewA Wn Hn (.slice av Hn cv) r0 c0 pb au) 38 (0, 0))) (fun _ => false) 26 rfl hmx (by intro _ _ d _ _ h; cases d <;> exact h) fun hQP => ?_
                have hS : w5.drew.cell? ⟨q, 0, none⟩ = some (.int .i64 Wn) ∧ w5.drew.cell? ⟨q, 1, none⟩ = some (.int .i64 Hn) ∧ w5.drew.cell? ⟨q, 2, none⟩ = some (.slice av Hn cv) ∧ w5.drew.cell? ⟨q, 3, none⟩ = some (.int .i64 r0) ∧ w5.drew.cell? ⟨q, 4, none⟩ = some (.int .i64 c0) ∧ w5.drew.cell? ⟨q, 5, none⟩ = some (.bool pb) ∧ w5.drew.heap[q]? = some (.cells (viewA Wn Hn (.slice av Hn cv) r0 c0 pb au) 38 (0, 0)) := ⟨s0, s1, s2, s3, s4, s5, hn5⟩
                have HD5 : Hid (Below w5.heap.size w5 w5.drew) := Lib.hid (Below.refl _ _).drew
                clear s0 s1 s2 s3 s4 s5 hn5
                generalize w5.drew = w6 at *
                refine take_f 0 77 rfl rfl (by kernel_rfl) (by kernel_rfl) (by kernel_rfl) (by kernel_rfl) hQP hS (.inl ⟨by kernel_rfl, fun w' hw' => by obtain ⟨e0, e1, e2, e3, e4, e5, eh⟩ := hw'; go_simp; try with_reducible rfl⟩) ?_
                refine take_f 1 78 rfl rfl (by kernel_rfl) (by kernel_rfl) (by kernel_rfl) (by kernel_rfl) hQP hS (.inl ⟨by kernel_rfl, fun w' hw' => by obtain ⟨e0, e1, e2, e3, e4, e5, eh⟩ := hw'; go_simp; try with_reducible rfl⟩) ?_
                refine take_f 2 79 rfl rfl (by kernel_rfl) (by kernel_rfl) (by kernel_rfl) (by kernel_rfl) hQP hS (.inl ⟨by kernel_rfl, fun w' hw' => by obtain ⟨e0, e1, e2, e3, e4, e5, eh⟩ := hw'; go_simp; try with_reducible rfl⟩) ?_
                refine take_f 3 80 rfl rfl (by kernel_rfl) (by kernel_rfl) (by kernel_rfl) (by kernel_rfl) hQP hS (.inl ⟨by kernel_rfl, fun w' hw' => by obtain ⟨e0, e1, e2, e3, e4, e5, eh⟩ := hw'; go_simp; try with_reducible rfl⟩) ?_
                refine take_f 4 81 rfl rfl (by kernel_rfl) (by kernel_rfl) (by kernel_rfl) (by kernel_rfl) hQP hS (.inl ⟨by kernel_rfl, fun w' hw' => by obtain ⟨e0, e1, e2, e3, e4, e5, eh⟩ := hw'; go_simp; try with_reducible rfl⟩) ?_
                refine take_f 5 82 rfl rfl (by kernel_rfl) (by kernel_rfl) (by kernel_rfl) (by kernel_rfl) hQP hS (.inl ⟨by kernel_rfl, fun w' hw' => by obtain ⟨e0, e1, e2, e3, e4, e5, eh⟩ := hw'; go_simp; try with_reducible rfl⟩) ?_
                refine take_f 6 83 rfl rfl (by kernel_rfl) (by kernel_rfl) (by kernel_rfl) (by kernel_rfl) hQP hS (.inl ⟨by kernel_rfl, fun w' hw' => by obtain ⟨e0, e1, e2, e3, e4, e5, eh⟩ := hw'; go_simp; try with_reducible rfl⟩) ?_
                refine take_f 7 84 rfl rfl (by kernel_rfl) (by kernel_rfl) (by kernel_rfl) (by kernel_rfl) hQP hS (.inl ⟨by kernel_rfl, fun w' hw' => by obtain ⟨e0, e1, e2, e3, e4, e5, eh⟩ := hw'; go_simp; try with_reducible rfl⟩) ?_
                refine take_f 8 85 rfl rfl (by kernel_rfl) (by kernel_rfl) (by kernel_rfl) (by kernel_rfl) hQP hS (.inl ⟨by kernel_rfl, fun w' hw' => by obtain ⟨e0, e1, e2, e3, e4, e5, eh⟩ := hw'; go_simp; try with_reducible rfl⟩) ?_
                refine take_f 9 86 rfl rfl (by kernel_rfl) (by kernel_rfl) (by kernel_rfl) (by kernel_rfl) hQP hS (.inl ⟨by kernel_rfl, fun w' hw' => by obtain ⟨e0, e1, e2, e3, e4, e5, eh⟩ := hw'; go_simp; try with_reducible rfl⟩) ?_
                refine take_f 10 87 rfl rfl (by kernel_rfl) (by kernel_rfl) (by kernel_rfl) (by kernel_rfl) hQP hS (.inl ⟨by kernel_rfl, fun w' hw' => by obtain ⟨e0, e1, e2, e3, e4, e5, eh⟩ := hw'; go_simp; try with_reducible rfl⟩) ?_
                refine take_f 11 88 rfl rfl (by kernel_rfl) (by kernel_rfl) (by kernel_rfl) (by kernel_rfl) hQP hS (.inl ⟨by kernel_rfl, fun w' hw' => by obtain ⟨e0, e1, e2, e3, e4, e5, eh⟩ := hw'; go_simp; try with_reducible rfl⟩) ?_
                refine take_f 12 89 rfl rfl (by kernel_rfl) (by kernel_rfl) (by kernel_rfl) (by kernel_rfl) hQP hS (.inl ⟨by kernel_rfl, fun w' hw' => by obtain ⟨e0, e1, e2, e3, e4, e5, eh⟩ := hw'; go_simp; try with_reducible rfl⟩) ?_
                try simp only [List.setIfInBounds_toArray, List.set_cons_succ, List.set_cons_zero]
                refine take_g (i := 13) (by kernel_rfl) rfl (by kernel_rfl) fun KQ hK => ?_
                go_wp2_with fail
                refine (HVO.out.right _).mono ?_
                rintro e w7 ⟨rfl, hb7⟩
                have T7 : Turn (fun _ => False) w6 w7 := Turn.of_new hb7
                have hS7 := And.intro (T7.cell hS.1 id) (And.intro (T7.cell hS.2.1 id) (And.intro (T7.cell hS.2.2.1 id) (And.intro (T7.cell hS.2.2.2.1 id) (And.intro (T7.cell hS.2.2.2.2.1 id) (And.intro (T7.cell hS.2.2.2.2.2.1 id) (T7.heap hS.2.2.2.2.2.2 id))))))
                have HD7 := Lib.hid (HD5.out.trans (hb7.mono HD5.out.size))
                refine hK _ _ (.inr hS7) ?_
                clear hK T7 hb7 HD5 hS
                have hS := hS7
                refine take_f 14 91 rfl rfl (by kernel_rfl) (by kernel_rfl) (by kernel_rfl) (by kernel_rfl) hQP hS (.inl ⟨by kernel_rfl, fun w' hw' => by obtain ⟨e0, e1, e2, e3, e4, e5, eh⟩ := hw'; go_simp; try with_reducible rfl⟩) ?_
                refine take_f 15 92 rfl rfl (by kernel_rfl) (by kernel_rfl) (by kernel_rfl) (by kernel_rfl) hQP hS (.inl ⟨by kernel_rfl, fun w' hw' => by obtain ⟨e0, e1, e2, e3, e4, e5, eh⟩ := hw'; go_simp; try with_reducible rfl⟩) ?_
                refine take_f 16 93 rfl rfl (by kernel_rfl) (by kernel_rfl) (by kernel_rfl) (by kernel_rfl) hQP hS (.inl ⟨by kernel_rfl, fun w' hw' => by obtain ⟨e0, e1, e2, e3, e4, e5, eh⟩ := hw'; go_simp; try with_reducible rfl⟩) ?_
                refine take_f 19 96 rfl rfl (by kernel_rfl) (by kernel_rfl) (by kernel_rfl) (by kernel_rfl) hQP hS (.inl ⟨by kernel_rfl, fun w' hw' => by obtain ⟨e0, e1, e2, e3, e4, e5, eh⟩ := hw'; go_simp; try with_reducible rfl⟩) ?_
                refine take_f 20 97 rfl rfl (by kernel_rfl) (by kernel_rfl) (by kernel_rfl) (by kernel_rfl) hQP hS (.inl ⟨by kernel_rfl, fun w' hw' => by obtain ⟨e0, e1, e2, e3, e4, e5, eh⟩ := hw'; go_simp; try with_reducible rfl⟩) ?_
                refine take_f 21 98 rfl rfl (by kernel_rfl) (by kernel_rfl) (by kernel_rfl) (by kernel_rfl) hQP hS (.inl ⟨by kernel_rfl, fun w' hw' => by obtain ⟨e0, e1, e2, e3, e4, e5, eh⟩ := hw'; go_simp; try with_reducible rfl⟩) ?_
                refine take_f 22 99 rfl rfl (by kernel_rfl) (by kernel_rfl) (by kernel_rfl) (by kernel_rfl) hQP hS (.inl ⟨by kernel_rfl, fun w' hw' => by obtain ⟨e0, e1, e2, e3, e4, e5, eh⟩ := hw'; go_simp; try with_reducible rfl⟩) ?_
                try simp only [List.setIfInBounds_toArray, List.set_cons_succ, List.set_cons_zero]
                refine take_f 17 94 rfl rfl (by kernel_rfl) (by kernel_rfl) (by kernel_rfl) (by kernel_rfl) hQP hS (yields_load_row 38 (.tmp 7) rfl (by kernel_rfl) q (by rfl) _ (viewA Wn Hn (.slice av Hn cv) r0 c0 pb au) _ _ (fun w' hw' => hw'.2.2.2.2.2.2) Tryz.underlying38 rfl (size_view _ _ _ _ _ _ _)) ?_
                try simp only [List.setIfInBounds_toArray, List.set_cons_succ, List.set_cons_zero]
                refine take_g (i := 18) (by kernel_rfl) rfl (by kernel_rfl) fun KQ hK => ?_
                go_wp2_with fail
                refine (HVO.out.used _ _ _ (HOV5.out.below HD7.out)).mono ?_
                rintro e w8 ⟨rfl, hb8⟩
                have T8 : Turn (fun _ => False) w7 w8 := Turn.of_new hb8
                have hS8 := And.intro (T8.cell hS.1 id) (And.intro (T8.cell hS.2.1 id) (And.intro (T8.cell hS.2.2.1 id) (And.intro (T8.cell hS.2.2.2.1 id) (And.intro (T8.cell hS.2.2.2.2.1 id) (And.intro (T8.cell hS.2.2.2.2.2.1 id) (T8.heap hS.2.2.2.2.2.2 id))))))
                have HD8 := Lib.hid (HD7.out.trans (hb8.mono HD7.out.size))
                refine hK _ _ (.inr hS8) ?_
                clear hK T8 hb8 HD7 hS hS7
                have hS := hS8
                try simp only [List.setIfInBounds_toArray, List.set_cons_succ, List.set_cons_zero]
                refine take_g (i := 23) (by kernel_rfl) rfl (by kernel_rfl) fun KQ hK => ?_
                go_wp2_with fail
                refine (HVO.out.most _).mono ?_
                rintro e w9 ⟨rfl, rfl⟩
                refine hK _ _ (.inr hS) ?_
                clear hK
                have hle := HVO.out.le
                refine take_f 24 101 rfl rfl (by kernel_rfl) (by kernel_rfl) (by kernel_rfl) (by kernel_rfl) hQP hS (.inl ⟨by kernel_rfl, fun w' hw' => by obtain ⟨e0, e1, e2, e3, e4, e5, eh⟩ := hw'; go_simp; try with_reducible rfl⟩) ?_
                refine take_f 25 102 rfl rfl (by kernel_rfl) (by kernel_rfl) (by kernel_rfl) (by kernel_rfl) hQP hS (.inl ⟨by kernel_rfl, fun w' hw' => by obtain ⟨e0, e1, e2, e3, e4, e5, eh⟩ := hw'; go_simp; try with_reducible rfl⟩) ?_
                refine take_done (by kernel_rfl) ?_ _
                try simp only [List.setIfInBounds_toArray, List.set_cons_succ, List.set_cons_zero]
                clear hS hS8
                go_wp2_with fail
                go_meet
                exact ⟨rfl, HD8⟩
              case rest =>
                obtain ⟨rfl, hwc⟩ := hcut
                generalize wc = w10 at *
                have hb10 := hwc.out
                have T10 : Turn (fun _ => False) w5 w10 := Turn.of_new hb10
                have HN10 := Lib.hid (T10.heap hn5 id)
                have HL10 := Lib.hid (HL5.out.below (Nat.le_refl _) hb10)
                have HOV10 := Lib.hid (HOV5.out.below hb10)
                clear hwc T10 hb10 HL5 HOV5 s0 s1 s2 s3 s4 s5 hn5
                generalize wr = wq at *
                have t0 : w10.cell? ⟨q, 0, none⟩ = some (.int .i64 Wn) := by simp [World.cell?, HN10.out]
                have t2 : w10.cell? ⟨q, 2, none⟩ = some (.slice av Hn cv) := by simp [World.cell?, HN10.out]
                go_wp2_with fail
                clear t0 t2
                go_loopg [4, 8] Hn (fun gg v4 v8 wx => ∃ j : Nat, Hn - j = gg ∧ j ≤ Hn ∧ v8 = .int .i64 (j : Int) ∧ Hid (Below w10.heap.size w10 wx))
                case atStart => exact ⟨0, rfl, Nat.zero_le _, rfl, Lib.hid (Below.refl _ _)⟩
                case round =>
                  obtain ⟨j, rfl, hj, rfl, H⟩ := hrel
                  have T11 : Turn (fun _ => False) w10 wr := Turn.of_new H.out
                  have hn11 := T11.heap HN10.out id
                  have t0 : wr.cell? ⟨q, 0, none⟩ = some (.int .i64 Wn) := by simp [World.cell?, hn11]
                  have t2 : wr.cell? ⟨q, 2, none⟩ = some (.slice av Hn cv) := by simp [World.cell?, hn11]
                  by_cases hjn : j < Hn
                  · have hjn' : (j : Int) < (Hn : Int) := by omega
                    have hH := HVO.out.hH
                    obtain ⟨l, hl⟩ : ∃ l, L[j]? = some l := ⟨_, List.getElem?_eq_getElem (by rw [HHN.out]; exact hjn)⟩
                    obtain ⟨a', c', e, _, hg⟩ := (HOV10.out.below H.out).at_
                    injection e with e eq1 eq2
                    subst e
                    clear eq1 eq2
                    obtain ⟨g, cvl, rfl, y0, _, hct⟩ := hg j l hl
                    obtain ⟨hlw, hls⟩ := HVO.out.rows l (List.mem_of_getElem? hl)
                    obtain ⟨ac, cc, rfl, hcc, _⟩ := hct.get2
                    rw [hlw] at hcc hct y0
                    have HSD := Lib.hid (fun (w' : World) (hb : Below wr.heap.size wr w') => sound23 _ l.1 w' (hct.below hb) hls)
                    have HH := Lib.hid H.out
                    clear hg hct hls hlw hl T11 hn11 H
                    go_upto_region 16 with fail
                    refine region_begin3 (fun w' => w'.cell? ⟨q, 0, none⟩ = some (.int .i64 Wn) ∧ w'.cell? ⟨q, 2, none⟩ = some (.slice (some ⟨g, 0, none⟩) Hn cv) ∧ w'.cell? ⟨g, j * 2, none⟩ = some (.slice ac Wn cc)) (fun _ => false) 20 rfl hmx (by intro _ _ d _ _ h; cases d <;> exact h) fun hQP => ?_
                    have hS : wr.drew.cell? ⟨q, 0, none⟩ = some (.int .i64 Wn) ∧ wr.drew.cell? ⟨q, 2, none⟩ = some (.slice (some ⟨g, 0, none⟩) Hn cv) ∧ wr.drew.cell? ⟨g, j * 2, none⟩ = some (.slice ac Wn cc) := ⟨t0, t2, y0⟩
                    have HD11 : Hid (Below wr.heap.size wr wr.drew) := Lib.hid (Below.refl _ _).drew
                    clear t0 t2 y0
                    generalize wr.drew = w12 at *
                    refine take_f 0 110 rfl rfl (by kernel_rfl) (by kernel_rfl) (by kernel_rfl) (by kernel_rfl) hQP hS (.inl ⟨by kernel_rfl, fun w' hw' => by obtain ⟨e0, e1, e2⟩ := hw'; go_simp; try with_reducible rfl⟩) ?_
                    refine take_f 1 111 rfl rfl (by kernel_rfl) (by kernel_rfl) (by kernel_rfl) (by kernel_rfl) hQP hS (.inl ⟨by kernel_rfl, fun w' hw' => by obtain ⟨e0, e1, e2⟩ := hw'; go_simp; try with_reducible rfl⟩) ?_
                    refine take_f 2 112 rfl rfl (by kernel_rfl) (by kernel_rfl) (by kernel_rfl) (by kernel_rfl) hQP hS (.inl ⟨by kernel_rfl, fun w' hw' => by obtain ⟨e0, e1, e2⟩ := hw'; go_simp; try with_reducible rfl⟩) ?_
                    refine take_f 3 113 rfl rfl (by kernel_rfl) (by kernel_rfl) (by kernel_rfl) (by kernel_rfl) hQP hS (.inl ⟨by kernel_rfl, fun w' hw' => by obtain ⟨e0, e1, e2⟩ := hw'; go_simp; try with_reducible rfl⟩) ?_
                    refine take_f 4 114 rfl rfl (by kernel_rfl) (by kernel_rfl) (by kernel_rfl) (by kernel_rfl) hQP hS (.inl ⟨by kernel_rfl, fun w' hw' => by obtain ⟨e0, e1, e2⟩ := hw'; go_simp; try with_reducible rfl⟩) ?_
                    refine take_f 5 115 rfl rfl (by kernel_rfl) (by kernel_rfl) (by kernel_rfl) (by kernel_rfl) hQP hS (.inl ⟨by kernel_rfl, fun w' hw' => by obtain ⟨e0, e1, e2⟩ := hw'; go_simp; try with_reducible rfl⟩) ?_
                    refine take_f 6 116 rfl rfl (by kernel_rfl) (by kernel_rfl) (by kernel_rfl) (by kernel_rfl) hQP hS (.inl ⟨by kernel_rfl, fun w' hw' => by obtain ⟨e0, e1, e2⟩ := hw'; go_simp; try with_reducible rfl⟩) ?_
                    refine take_f 7 117 rfl rfl (by kernel_rfl) (by kernel_rfl) (by kernel_rfl) (by kernel_rfl) hQP hS (.inl ⟨by kernel_rfl, fun w' hw' => by obtain ⟨e0, e1, e2⟩ := hw'; go_simp; try with_reducible rfl⟩) ?_
                    refine take_f 8 118 rfl rfl (by kernel_rfl) (by kernel_rfl) (by kernel_rfl) (by kernel_rfl) hQP hS (.inl ⟨by kernel_rfl, fun w' hw' => by obtain ⟨e0, e1, e2⟩ := hw'; go_simp; try with_reducible rfl⟩) ?_
                    refine take_f 9 119 rfl rfl (by kernel_rfl) (by kernel_rfl) (by kernel_rfl) (by kernel_rfl) hQP hS (.inl ⟨by kernel_rfl, fun w' hw' => by obtain ⟨e0, e1, e2⟩ := hw'; go_simp; try with_reducible rfl⟩) ?_
                    refine take_f 10 120 rfl rfl (by kernel_rfl) (by kernel_rfl) (by kernel_rfl) (by kernel_rfl) hQP hS (.inl ⟨by kernel_rfl, fun w' hw' => by obtain ⟨e0, e1, e2⟩ := hw'; go_simp; try with_reducible rfl⟩) ?_
                    refine take_f 11 121 rfl rfl (by kernel_rfl) (by kernel_rfl) (by kernel_rfl) (by kernel_rfl) hQP hS (.inl ⟨by kernel_rfl, fun w' hw' => by obtain ⟨e0, e1, e2⟩ := hw'; go_simp; try with_reducible rfl⟩) ?_
                    refine take_f 12 122 rfl rfl (by kernel_rfl) (by kernel_rfl) (by kernel_rfl) (by kernel_rfl) hQP hS (.inl ⟨by kernel_rfl, fun w' hw' => by obtain ⟨e0, e1, e2⟩ := hw'; go_simp; try with_reducible rfl⟩) ?_
                    refine take_f 13 123 rfl rfl (by kernel_rfl) (by kernel_rfl) (by kernel_rfl) (by kernel_rfl) hQP hS (.inl ⟨by kernel_rfl, fun w' hw' => by obtain ⟨e0, e1, e2⟩ := hw'; go_simp; try with_reducible rfl⟩) ?_
                    refine take_f 14 124 rfl rfl (by kernel_rfl) (by kernel_rfl) (by kernel_rfl) (by kernel_rfl) hQP hS (.inl ⟨by kernel_rfl, fun w' hw' => by obtain ⟨e0, e1, e2⟩ := hw'; go_simp; try with_reducible rfl⟩) ?_
                    refine take_f 15 125 rfl rfl (by kernel_rfl) (by kernel_rfl) (by kernel_rfl) (by kernel_rfl) hQP hS (.inl ⟨by kernel_rfl, fun w' hw' => by obtain ⟨e0, e1, e2⟩ := hw'; go_simp; try with_reducible rfl⟩) ?_
                    refine take_f 16 126 rfl rfl (by kernel_rfl) (by kernel_rfl) (by kernel_rfl) (by kernel_rfl) hQP hS (.inl ⟨by kernel_rfl, fun w' hw' => by obtain ⟨e0, e1, e2⟩ := hw'; go_simp; try with_reducible rfl⟩) ?_
                    try simp only [List.setIfInBounds_toArray, List.set_cons_succ, List.set_cons_zero]
                    refine take_g (i := 17) (by kernel_rfl) rfl (by kernel_rfl) fun KQ hK => ?_
                    go_wp2_with fail
                    refine (HSD.out _ HD11.out).mono ?_
                    rintro e w13 ⟨rfl, hb13⟩
                    have T13 : Turn (fun _ => False) w12 w13 := Turn.of_new hb13
                    have hS13 := And.intro (T13.cell hS.1 id) (And.intro (T13.cell hS.2.1 id) (T13.cell hS.2.2 id))
                    have HD13 := Lib.hid (HD11.out.trans (hb13.mono HD11.out.size))
                    refine hK _ _ (.inr hS13) ?_
                    clear hK T13 hb13 HD11 hS HSD
                    have hS := hS13
                    refine take_f 18 128 rfl rfl (by kernel_rfl) (by kernel_rfl) (by kernel_rfl) (by kernel_rfl) hQP hS (.inl ⟨by kernel_rfl, fun w' hw' => by obtain ⟨e0, e1, e2⟩ := hw'; go_simp; try with_reducible rfl⟩) ?_
                    refine take_f 19 129 rfl rfl (by kernel_rfl) (by kernel_rfl) (by kernel_rfl) (by kernel_rfl) hQP hS (.inl ⟨by kernel_rfl, fun w' hw' => by obtain ⟨e0, e1, e2⟩ := hw'; go_simp; try with_reducible rfl⟩) ?_
                    refine take_done (by kernel_rfl) ?_ _
                    try simp only [List.setIfInBounds_toArray, List.set_cons_succ, List.set_cons_zero]
                    clear hS hS13
                    have HB14 := Lib.hid (HH.out.trans (HD13.out.mono HH.out.size))
                    go_wp2_with fail
                    go_roundg (Hn - (j + 1))
                    case measure => omega
                    case rel => exact ⟨j + 1, rfl, by omega, by go_num, HB14⟩
                  · obtain rfl : j = Hn := by omega
                    have HLN := Lib.hid (HL10.out.below (Nat.le_refl _) H.out)
                    have hge : ¬ (j : Int) < (j : Int) := by omega
                    clear T11 hn11 H
                    go_wp2_with fail
                    go_roundg (n - (k + 1))
                    case measure => omega
                    case rel => exact ⟨k + 1, _, rfl, by omega, by go_num, HLN⟩
            · have HB := Lib.hid (HBC.out.trans (HLV.out.bel.mono HBC.out.size))
              go_wp2_with fail
              go_ret
              exact ⟨rfl, HB.out⟩
        · have HB := Lib.hid (HBC.out.trans (H.out.bel.mono HBC.out.size))
          have hge : ¬ (k : Int) < (n : Int) := by omega
          clear H
          go_wp2_with fail
          go_ret
          exact ⟨rfl, HB.out⟩
    · go_wp2_with fail
      refine (HPL.out wc HBC.out).mono ?_
      rintro e w2 ⟨rfl, hb2⟩
      have HB2 := Lib.hid (HBC.out.trans (hb2.mono HBC.out.size))
      clear hb2
      go_wp2_with fail
      go_ret
      exact ⟨rfl, HB2.out⟩
end Go.Proofs.YtjicdcmdgbcdcaaGreatDoor.Scr
end

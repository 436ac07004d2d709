/-
  utfdec within a feeder: Step.
-/
import Derived.Test.YtjicdcmdgbcdcaaGreatDoorCd16
import Derived.Test.YtjicdcmdgbcdcaaGreatDoorCd22
import Derived.Laws.BitsLemmas
section
namespace Go.Proofs.YtjicdcmdgbcdcaaGreatDoor.Scr
set_option linter.unusedSimpArgs false
set_option linter.unusedVariables false
open Go Go.RowKit Mem Turn Ring

set_option maxRecDepth 100000 in
set_option maxHeartbeats 8000000 in
theorem dstep_any (K : DFr) (q : Nat) (d : DecC) (b : Int) (w : World) (h : DecAt K w q d) (hd : DecOK d) (h1 : 0 ≤ b) (h2 : b ≤ 255) :
    Calls Tryz.prog 67 #[.pointer (some ⟨q, 1, none⟩), .int .u8 b] w (DecRes K w q (stepD d b).2 (stepD d b).1) := by
  obtain ⟨i0, hi, hz0, hz1, hz2⟩ := info_parts info_rune
  have HS := Lib.hid (show stepD d b = if d.held = 0 then beginD d b else if b < d.lo ∨ d.hi < b then ((beginD .zero b).1, 65533 :: (beginD .zero b).2)
    else if 1 < d.needs then (⟨d.held + 1, d.needs - 1, 128, 191, d.bits * 64 + b % 64⟩, []) else (.zero, [d.bits * 64 + b % 64]) from rfl)
  obtain ⟨sd1, hs1⟩ : ∃ z, z = (stepD d b).1 := ⟨_, rfl⟩
  obtain ⟨sd2, hs2⟩ : ∃ z, z = (stepD d b).2 := ⟨_, rfl⟩
  rw [← hs1, ← hs2]
  obtain ⟨c1, c2, c3, c4, c5, f⟩ := h.cells
  by_cases e0 : d.held = 0
  · have HB : Hid (Calls Tryz.prog 121 #[.pointer (some ⟨q, 1, none⟩), .int .u8 b] w (DecRes K w q sd2 sd1)) := Lib.hid (by
      rw [hs1, hs2, HS.out, if_pos e0]
      exact dbegin_any K q d b w h h1 h2)
    rw [e0] at c1
    clear h f c2 c3 c4 c5 e0 hs1 hs2 HS hd
    go_enter Tryz.func67, Tryz.ntmps67
    go_wp2_with fail
    refine HB.out.mono ?_
    rintro e w2 ⟨v, rfl, h⟩
    have HF := Lib.hid h
    clear h
    go_wp2_with fail
    go_ret
    exact ⟨_, rfl, HF.out⟩
  · have z0 : (d.held == 0) = false := by simpa using e0
    by_cases e1 : b < d.lo ∨ d.hi < b
    · have HFL := Lib.hid (dflush_any K q d w h hd)
      have HBE : Hid (∀ W, DecAt K W q .zero → Calls Tryz.prog 121 #[.pointer (some ⟨q, 1, none⟩), .int .u8 b] W (DecRes K W q (beginD .zero b).2 (beginD .zero b).1)) := Lib.hid fun W hW => dbegin_any K q .zero b W hW h1 h2
      have hfd : flushD d = [65533] := by unfold flushD; rw [if_neg e0]
      rw [hfd] at HFL
      have HQ : Hid (sd1 = (beginD .zero b).1 ∧ sd2 = 65533 :: (beginD .zero b).2) := Lib.hid (by rw [hs1, hs2, HS.out, if_neg e0, if_pos e1]; exact ⟨rfl, rfl⟩)
      have hlo : b < d.lo ∨ (¬ b < d.lo ∧ d.hi < b) := by omega
      have HT := Lib.hid h.typ
      have hbl : (beginD .zero b).2.length ≤ 1 := by
        unfold beginD
        split
        · simp
        · split <;> simp
      generalize d.held = hh at *
      generalize d.lo = lo_ at *
      generalize d.hi = hi_ at *
      generalize (beginD .zero b).1 = bd1 at *
      generalize (beginD .zero b).2 = bd2 at *
      clear h f c2 c5 e0 hs1 hs2 HS hd e1 hfd
      rcases hlo with hl | ⟨hl, hl'⟩
      all_goals
        go_enter Tryz.func67, Tryz.ntmps67
        go_wp2_with fail
        refine HFL.out.mono ?_
        rintro e w2 ⟨v1, rfl, ho1, hd1, ht1⟩
        have HBE2 := Lib.hid (HBE.out w2 hd1)
        have HT1 := Lib.hid ht1
        have HT2 := Lib.hid hd1.typ
        have HO1 := Lib.hid ho1
        clear hd1 ht1 ho1 c1 c3 c4 HFL HBE
        go_wp2_with fail
        refine HBE2.out.mono ?_
        rintro e w3 ⟨v2, rfl, ho2, hd2, ht2⟩
        have hnq : ∀ g, v1.ownBlock = some g → ¬ g = q := fun g hg e => (owns_typ HO1.out.1 hg).not (by decide) (e ▸ HT2.out)
        have hown1 := ht2.kept HO1.out.1 hnq
        obtain ⟨a2, c2', hv2⟩ := Turn.own_slice ho2.1
        subst hv2
        have hsrc := src_own ho2.1
        have HD2 := Lib.hid hd2
        have HTT : Hid (Turn (fun b => b = q) w w3) := Lib.hid (HT1.out.trans ht2)
        have HNQ := Lib.hid hnq
        have hsz : w.heap.size ≤ w3.heap.size := HTT.out.size
        generalize hbn : bd2.length = bn at *
        have HBN := Lib.hid hbn
        clear hd2 ht2 hnq hbn ho2
        go_wp2_with (at_builtin; (refine wpList_append_src _ rfl _ _ 55 rfl w.heap.size 21 i0 _ 1 4 Tryz.underlying55 hi hz0 hz1 hz2 rfl (by decide) v1 1 [.int .i32 65533] rfl hown1 a2 bn c2' (bd2.map (Value.int .i32)) rfl hsrc (one_cells _) (by unfold maxLen; omega) (by omega) hsz ?_; intro v' w4 hown' hgrow))
        have HF : Hid (OwnTxt w w4 v' sd2 ∧ DecTo K w q sd1 w4) := Lib.hid (by
          have T4 : Turn (fun j => v1.ownBlock = some j) w3 w4 := Turn.of_grown hgrow (fun g e => e)
          obtain ⟨q1, q2⟩ := HQ.out
          rw [q1, q2]
          refine ⟨⟨by have h9 := HBN.out; simpa [h9, Nat.add_comm] using hown', by have h9 := HBN.out; simp; omega⟩, HD2.out.turn T4 (fun e => HNQ.out _ e rfl), ?_⟩
          exact ((HTT.out.mono (T' := fun b => b = q ∨ w.heap.size ≤ b) (fun b _ e => .inl e)).trans (T4.mono (fun b _ e => .inr (hown1.lt b e).1))).mono (fun b hb e => e.elim id (fun e => by omega)))
        clear hown' hgrow hown1 hsrc
        go_ret
        exact ⟨_, rfl, HF.out⟩
    · rcases hd with rfl | ⟨a1, a2, a3, a4, a5, a6, a7, a8, a9, a10, a11, a12, a13⟩
      · exact absurd rfl e0
      have f1 := f 1
      have f2 := f 2
      have f3 := f 3
      have f4 := f 4
      have f5 := f 5
      have hl1 : ¬ b < d.lo := fun x => e1 (.inl x)
      have hl2 : ¬ d.hi < b := fun x => e1 (.inr x)
      have hbt : d.bits < 32768 := by
        by_cases x : d.needs = 1
        · exact a13 x
        · by_cases y : d.needs = 2
          · have := a12 y; omega
          · have := a11 (by omega); omega
      have HH := Lib.hid h
      have HS2 : Hid ((sd1, sd2) = if 1 < d.needs then (⟨d.held + 1, d.needs - 1, 128, 191, d.bits * 64 + b % 64⟩, []) else (.zero, [d.bits * 64 + b % 64])) := Lib.hid (by rw [hs1, hs2, HS.out, if_neg e0, if_neg e1])
      have HFR : Hid (∀ i v j, (w.setCell ⟨q, i, none⟩ v).frozen? ⟨q, j, none⟩ = false) := Lib.hid fun i v j => by
        have := heap_set1 (cs := decL K d) h i v
        simp [World.frozen?, this]
      generalize d.held = hh at *
      generalize d.needs = nn at *
      generalize d.lo = lo_ at *
      generalize d.hi = hi_ at *
      generalize d.bits = bt at *
      have hor : bits .or .i64 (bt * 64) (b % 64) = bt * 64 + b % 64 := bits_join .i64 40 (by decide) (fun n h1 h2 => by rw [IntKind.wrap_i64]; omega) 6 (bt * 64) (b % 64) (by omega) (by omega) (by omega) (by omega) (by omega) (by omega)
      have HD5 : Hid (DecAt K (((((w.setCell ⟨q, 5, none⟩ (.int .i64 (bt * 64 + b % 64))).setCell ⟨q, 3, none⟩ (.int .u8 128)).setCell ⟨q, 4, none⟩ (.int .u8 191)).setCell ⟨q, 1, none⟩ (.int .i64 (hh + 1))).setCell ⟨q, 2, none⟩ (.int .i64 (nn - 1))) q ⟨hh + 1, nn - 1, 128, 191, bt * 64 + b % 64⟩ ∧ Turn (fun b => b = q) w (((((w.setCell ⟨q, 5, none⟩ (.int .i64 (bt * 64 + b % 64))).setCell ⟨q, 3, none⟩ (.int .u8 128)).setCell ⟨q, 4, none⟩ (.int .u8 191)).setCell ⟨q, 1, none⟩ (.int .i64 (hh + 1))).setCell ⟨q, 2, none⟩ (.int .i64 (nn - 1)))) := Lib.hid
        ⟨((((HH.out.setBits _).setLo _).setHi _).setHeld _).setNeeds _, ((((turn_set5 _ _ _ _).trans (turn_set5 _ _ _ _)).trans (turn_set5 _ _ _ _)).trans (turn_set5 _ _ _ _)).trans (turn_set5 _ _ _ _)⟩
      clear h f hs1 hs2 HS e0 e1 a11 a12 a13
      go_enter Tryz.func67, Tryz.ntmps67
      go_upto_region 11 with fail
      generalize (((((w.setCell ⟨q, 5, none⟩ (.int .i64 (bt * 64 + b % 64))).setCell ⟨q, 3, none⟩ (.int .u8 128)).setCell ⟨q, 4, none⟩ (.int .u8 191)).setCell ⟨q, 1, none⟩ (.int .i64 (hh + 1))).setCell ⟨q, 2, none⟩ (.int .i64 (nn - 1))) = w5 at *
      clear hor c1 c2 c3 c4 c5 f1 f2 f3 f4 f5 HFR HH z0
      obtain ⟨c1, c2, c3, c4, c5, f⟩ := HD5.out.1.cells
      have f1 := f 1
      have f2 := f 2
      have f3 := f 3
      have f4 := f 4
      have f5 := f 5
      simp only at c1 c2 c3 c4 c5
      have hbb : 0 ≤ bt * 64 + b % 64 := by omega
      have hbb2 : bt * 64 + b % 64 ≤ 2097151 := by omega
      by_cases hn : 1 < nn
      · have hn1 : 0 < nn - 1 := by omega
        have HF : Hid (OwnTxt w w5 (.slice none 0 0) sd2 ∧ DecTo K w q sd1 w5) := Lib.hid (by
          have := HS2.out
          rw [if_pos hn] at this
          injection this with e1 e2
          rw [e1, e2]
          exact ⟨OwnTxt.nil _ _, HD5.out⟩)
        clear f hn
        go_wp2_with fail
        go_ret
        exact ⟨_, rfl, HF.out⟩
      · have hn1 : ¬ 0 < nn - 1 := by omega
        have hw : IntKind.i32.wrap (bt * 64 + b % 64) = bt * 64 + b % 64 := by rw [IntKind.wrap_i32]; omega
        have HF : Hid (OwnTxt w ((zeroW w5 q).alloc (.cells #[.int .i32 (bt * 64 + b % 64)] 21)) (.slice (some ⟨(zeroW w5 q).heap.size, 0, none⟩) 1 1) sd2 ∧ DecTo K w q sd1 ((zeroW w5 q).alloc (.cells #[.int .i32 (bt * 64 + b % 64)] 21))) := Lib.hid (by
          have := HS2.out
          rw [if_neg hn] at this
          injection this with e1 e2
          rw [e1, e2]
          have T : Turn (fun _ => False) (zeroW w5 q) ((zeroW w5 q).alloc (.cells #[.int .i32 (bt * 64 + b % 64)] 21)) := Turn.alloc _ _ _
          exact ⟨OwnTxt.lit w _ _ (HD5.out.2.trans (zeroW_turn w5 q)).size, HD5.out.1.zeroed.turn T id, (HD5.out.2.trans (zeroW_turn w5 q)).trans (T.mono (fun _ _ h => h.elim))⟩)
        clear f hn
        generalize bt * 64 + b % 64 = rr at *
        go_upto_region 15 with fail
        have hz : ((((w5.setCell ⟨q, 1, none⟩ (.int .i64 0)).setCell ⟨q, 2, none⟩ (.int .i64 0)).setCell ⟨q, 3, none⟩ (.int .u8 0)).setCell ⟨q, 4, none⟩ (.int .u8 0)).setCell ⟨q, 5, none⟩ (.int .i64 0) = zeroW w5 q := rfl
        first | rw [hz] | skip
        clear hz
        generalize zeroW w5 q = w6 at *
        clear c1 c2 c3 c4 c5 f1 f2 f3 f4 f5
        go_wp2_with fail
        go_ret
        exact ⟨_, rfl, HF.out⟩
end Go.Proofs.YtjicdcmdgbcdcaaGreatDoor.Scr
end

/-
  Package pict: its spans; how many numbers the reference's lists have.
-/
import Derived.Test.YtdfocobcchmjfaaSpX
import Derived.Test.YtdfocobcchmjfaaPictAll
import Derived.Test.YtdfocobcchmjfaaSpM
import Derived.Deep.Onto
namespace Go.Proofs.Ytdfocobcchmjfaa.PictSp
set_option linter.unusedSimpArgs false
set_option linter.unusedVariables false
open Go Go.RowKit Mem Tab TabLaw Sp

noncomputable def tbl : List S3 := Pict.rows
theorem tbl_len : tbl.length = 78 := by kernel_rfl
theorem tbl_right : Right tbl := right_of (by kernel_rfl)
theorem few_right : Right (fewest tbl) := right_of (by kernel_rfl)
theorem few_few : Few (fewest tbl) := few_of (by kernel_rfl)
theorem few_pos : 0 < (fewest tbl).length ∧ (fewest tbl).length ≤ 78 := by
  have : (decide (0 < (fewest tbl).length) && decide ((fewest tbl).length ≤ 78)) = true := by kernel_rfl
  simpa using this
theorem row (k : Nat) (h : k < 78) : ∃ t, tbl[k]? = some t ∧ PictTab.pict.getD (k * 2) 0 = t.1 ∧ PictTab.pict.getD (k * 2 + 1) 0 = t.2.1 ∧ t.2.2 = 1 := Pict.row k h

set_option maxRecDepth 100000 in
set_option maxHeartbeats 4000000 in
theorem spans_any (w : World) :
    Calls Try.prog 23 #[] w (OwnP w.heap.size w (fewest tbl)) := by
  obtain ⟨i0, hi, hz0, hz1, hz2⟩ := info_parts info_span
  go_enter Try.func23, Try.ntmps23
  go_wp2_with fail
  refine (PictTab.pict_any _).mono ?_
  rintro e w1 ⟨rfl, hb, hk, hz⟩
  go_wp2_with fail
  have HK := Lib.hid hk
  have HBB := Lib.hid hb
  clear hk
  go_loopw [1, 6] (fun v i wr => ∃ k : Nat, k ≤ 78 ∧ i = .int .i64 k ∧ Hid (wr.ownsRow (w.heap.size + 1) 44 3 v (tbl.take k).length (cells (tbl.take k)) ∧ Below (w.heap.size + 1) w1 wr)) (fun _ i _ => 78 - (intOf i).toNat)
  case atStart => exact ⟨0, Nat.zero_le _, rfl, World.ownsRow_nil _ _ _ _, Below.refl _ _⟩
  case round =>
    obtain ⟨k, hk, rfl, HR⟩ := hrel
    obtain ⟨av, cv, rfl⟩ := own_sl HR.out.1
    by_cases hlt : k < 78
    · have hlt' : (k : Int) < 78 := by omega
      have hbk := HK.out.below HR.out.2 (by omega)
      obtain ⟨s, hs, e0, e1, e2⟩ := row k hlt
      have c0 := hbk.cell (k * 2) _ (getnum _ (by rw [PictTab.pict_len]; omega))
      have c1 := hbk.cell (k * 2 + 1) _ (getnum _ (by rw [PictTab.pict_len]; omega))
      rw [e0] at c0
      rw [e1] at c1
      have HT : Hid ((tbl.take (k + 1)).length = k + 1 ∧ cells (tbl.take (k + 1)) = cells (tbl.take k) ++ [.int .i64 s.1, .int .i64 s.2.1, .int .i64 s.2.2]) :=
        ⟨by rw [List.length_take, tbl_len]; omega, by rw [List.take_add_one, hs, cells_app]; rfl⟩
      have hl : (tbl.take k).length = k := by rw [List.length_take, tbl_len]; omega
      have hown := HR.out.1
      rw [hl] at hown ⊢
      have hown := Lib.hid hown
      have HBW := Lib.hid HR.out.2
      have hsz := HBW.out.size
      obtain ⟨r1, r2, r3, _⟩ := right_le tbl_right hs
      obtain ⟨s0, s1, s2⟩ := s
      simp only at c0 c1 e2 r1 r2 r3
      subst e2
      have x1 : IntKind.i64.wrap s0 = s0 := IntWalk.i64_in _ (by omega)
      have x2 : IntKind.i64.wrap s1 = s1 := IntWalk.i64_in _ (by omega)
      clear hs e0 e1 HR hbk
      generalize cells (tbl.take k) = L at *
      go_wp2_with (at_builtin; go_must (refine wpList_append_own _ rfl _ _ 22 rfl (w.heap.size + 1) 44 i0 _ 3 24 Try.underlying22 hi hz0 hz1 hz2 rfl (by decide) _ _ _ rfl ((hown.out.alloc _).alloc _) ⟨wr.heap.size + 1, 0, none⟩ 1 1 [.int .i64 s0, .int .i64 s1, .int .i64 1] rfl rfl ?d1 ?d2 ?d3 ?d4 ?d5 ?_))
      case d2 => exact ⟨rfl, rfl, rfl⟩
      case d3 => unfold maxLen; omega
      case d4 => omega
      case d5 => omega
      intro v2 w2 hown2 hgrow2 _
      have R : Hid (w2.ownsRow (w.heap.size + 1) 44 3 v2 (tbl.take (k + 1)).length (cells (tbl.take (k + 1))) ∧ Below (w.heap.size + 1) w1 w2) := by
        rw [HT.out.1, HT.out.2]
        exact ⟨hown2, ((HBW.out.alloc (by omega) _).alloc (by simp; omega) _).grown hgrow2 (by simp; omega) (fun g e => (hown.out.lt g e).1)⟩
      clear hown2 hgrow2 HT hown HBW
      go_wp2
      go_roundw
      case rel => exact ⟨k + 1, by omega, by go_num, R⟩
      case measure => simp [intOf]; omega
    · obtain rfl : k = 78 := by omega
      have e1 : tbl.take 78 = tbl := List.take_of_length_le (by rw [tbl_len]; exact Nat.le_refl _)
      have ho := HR.out.1
      rw [e1, tbl_len] at ho ⊢
      obtain ⟨g, rfl, hg, hgc⟩ := own_some ho (by omega)
      have hsz := HR.out.2.size
      have hB : Below w.heap.size w wr := HBB.out.trans (HR.out.2.mono (by omega))
      have HF := Lib.hid (fewest_any g 0 78 cv tbl wr tbl_len (own_at ho) tbl_right (by omega))
      clear ho HR HK HBB
      go_wp2_with fail
      refine HF.out.mono ?_
      rintro e w3 ⟨v3, rfl, ho3, hb3⟩
      have ho3 := ho3.mono hB.size
      have hb3 := hB.trans (hb3.mono hB.size)
      clear hB
      go_wp2
      go_ret
      exact ⟨v3, rfl, ho3, hb3⟩

theorem l1_ok : (TabLaw.pairs PictTab.l1).all okP = true := by kernel_rfl
theorem many_eq : many (fewest tbl) (fewest tbl).length = msum (TabLaw.pairs PictTab.l1) := by kernel_rfl

set_option maxRecDepth 100000 in
set_option maxHeartbeats 8000000 in
theorem many_any (w : World) :
    Calls Try.prog 25 #[] w fun e w' => e = .returned (.int .i64 (msum (TabLaw.pairs PictTab.l1))) ∧ Below w.heap.size w w' := by
  have HP : Hid ((TabLaw.pairs PictTab.l1).length = 78) := Lib.hid Pict.pairs_len
  have HFL := Lib.hid (flat_ok (LL := [TabLaw.pairs PictTab.l1]) (k := 0) rfl (by simpa using l1_ok) (by simp [Pict.pairs_len]))
  go_enter Try.func25, Try.ntmps25
  go_wp2_with fail
  refine (PictTab.l1_any _).mono ?_
  rintro e w1 ⟨rfl, hb1, hk1, hz1⟩
  have HBK := Lib.hid hk1
  have HB1 := Lib.hid hb1
  have hsz := hb1.size
  clear hk1 hb1
  go_wp2
  go_loopw [1, 3] (fun s j wb => ∃ q : Nat, q ≤ 78 ∧ j = .int .i64 q ∧ s = .int .i64 (msum ((TabLaw.pairs PictTab.l1).take q)) ∧ Hid (Below w1.heap.size w1 wb)) (fun _ j _ => 78 - (intOf j).toNat)
  case atStart => exact ⟨0, Nat.zero_le _, rfl, rfl, Below.refl _ _⟩
  case round =>
    obtain ⟨q, hq, rfl, rfl, HI⟩ := hrel
    by_cases hqn : q < 78
    · have hqn' : (q : Int) < 78 := by omega
      obtain ⟨p, hpq⟩ : ∃ p, (TabLaw.pairs PictTab.l1)[q]? = some p := ⟨_, List.getElem?_eq_getElem (by rw [HP.out]; exact hqn)⟩
      obtain ⟨e0, e1⟩ := TabLaw.pairs_get PictTab.l1 q p hpq
      rw [Nat.mul_comm 2 q] at e0 e1
      have hbk := HBK.out.below HI.out (by omega)
      have c1 := hbk.cell (q * 2) _ (getnum _ (by rw [PictTab.l1_len]; omega))
      have c2 := hbk.cell (q * 2 + 1) _ (getnum _ (by rw [PictTab.l1_len]; omega))
      rw [e0] at c1
      rw [e1] at c2
      have hfl := HFL.out q p hpq
      simp only [List.take_zero, List.flatten_nil, List.nil_append] at hfl
      obtain ⟨b1, b2, p1, p2, p3⟩ := hfl
      have HS : Hid (msum ((TabLaw.pairs PictTab.l1).take (q + 1)) = msum ((TabLaw.pairs PictTab.l1).take q) + (p.2 - p.1 + 1)) := by
        have := msum_next (A := []) hpq
        simpa using Lib.hid this
      generalize msum ((TabLaw.pairs PictTab.l1).take q) = m0 at *
      obtain ⟨lo, hi⟩ := p
      simp only at c1 c2 p1 p2 p3 HS
      have x1 : IntKind.i64.wrap (m0 + hi) = m0 + hi := IntWalk.i64_in _ (by omega)
      have x2 : IntKind.i64.wrap (m0 + hi - lo) = m0 + hi - lo := IntWalk.i64_in _ (by omega)
      have x3 : IntKind.i64.wrap (m0 + hi - lo + 1) = m0 + hi - lo + 1 := IntWalk.i64_in _ (by omega)
      have HB2 := Lib.hid HI.out
      clear e0 e1 hbk hpq HI b1 b2 p1 p2 p3
      go_wp2
      go_quiet (fail)
      go_wp2
      go_roundw
      case rel => exact ⟨q + 1, by omega, by go_num, by rw [HS.out, show m0 + hi - lo + 1 = m0 + (hi - lo + 1) from by omega], HB2.out.trans ((bdrew _ _).mono HB2.out.size)⟩
      case measure => simp [intOf]; omega
    · obtain rfl : q = 78 := by omega
      have e9 : (TabLaw.pairs PictTab.l1).take 78 = TabLaw.pairs PictTab.l1 := List.take_of_length_le (by rw [HP.out]; exact Nat.le_refl _)
      rw [e9]
      go_wp2
      go_ret
      exact ⟨rfl, HB1.out.trans (HI.out.mono hsz)⟩

end Go.Proofs.Ytdfocobcchmjfaa.PictSp

/-
  grapheme.All: the iterator hands out the clusters of a row, one by one.
-/
import Derived.Test.YtcbfmokafmagpaaGreatTurn
import Derived.Test.YtcbfmokafmagpaaGreatGraLaw
import Derived.Test.YtcbfmokafmagpaaGreatProps
import Derived.Test.YtcbfmokafmagpaaGreatSegPlain
import Derived.Test.YtcbfmokafmagpaaGreatSame
import Derived.OwnWalkIn
import Derived.TacticsInMore
import Derived.LoopNIn
import Derived.LoopIn
import Derived.Deep.DeepMust
namespace Go.Proofs.YtcbfmokafmagpaaGreat.Gra
set_option linter.unusedSimpArgs false
set_option linter.unusedVariables false
open Go Go.RowKit Mem Turn GraLaw Same

/-- does the number at place i join the one ahead of it? -/
noncomputable def Jn (xs : List Int) (i : Nat) : Bool := Seg.joinsR (props xs) i
theorem Jn_zero (xs : List Int) : Jn xs 0 = false := by simp [Jn, Seg.joinsR]

/-- cluster number k as the iterator hands it out: its place, and the piece of the row -/
noncomputable def piece (xs : List Int) (b off : Nat) (k : Nat) : Array Value :=
  #[.int .i64 (st (Jn xs) xs.length k), .slice (some ⟨b, off + st (Jn xs) xs.length k, none⟩) (st (Jn xs) xs.length (k + 1) - st (Jn xs) xs.length k) (st (Jn xs) xs.length (k + 1) - st (Jn xs) xs.length k)]

theorem all_any (a : Option Addr) (len cap : Nat) (w : World) :
    Calls Tryz.prog 42 #[.slice a len cap] w fun e w' => e = .returned (.func (.func 55) #[] #[.pointer (some ⟨w.heap.size, 0, none⟩)]) ∧ w' = w.alloc (.cells #[.slice a len cap] 22) := by
  go_enter Tryz.func42, Tryz.ntmps42
  go_wp2
  go_ret
  exact ⟨rfl, rfl⟩

set_option maxRecDepth 100000 in
set_option maxHeartbeats 4000000 in
theorem all_gives (Bs b off len cap n₀ : Nat) (xs : List Int) (hr : R32 xs) (hlen : xs.length = len) (h0 : 0 < len) (hm : len ≤ 9223372036854775807) (hb : b < n₀) (w : World) (hn₀ : n₀ ≤ w.heap.size) (hBs : Bs < w.heap.size) (hcap : len ≤ cap)
    (hbox : w.cell? ⟨Bs, 0, none⟩ = some (.slice (some ⟨b, off, none⟩) len cap)) (hc : ∀ i x, xs[i]? = some x → w.cell? ⟨b, off + i, none⟩ = some (.int .i32 x)) :
    Gives Tryz.prog 55 #[.pointer (some ⟨Bs, 0, none⟩)] (piece xs b off) (cnt (Jn xs) xs.length) n₀ Bs w := by
  intro n l J Jx W hW hJ hJx hY hJ0
  have hbox1 := (hW.cell (p := ⟨Bs, 0, none⟩) (hBs)).trans hbox
  have HC : Hid (∀ i x, xs[i]? = some x → W.cell? ⟨b, off + i, none⟩ = some (.int .i32 x)) := fun i x hx => (hW.cell (p := ⟨b, off + i, none⟩) (by show b < _; omega)).trans (hc i x hx)
  have HW := hW.size
  have hBW : Bs < W.heap.size := by omega
  have hbW : b < W.heap.size := by omega
  have HY := Lib.hid hY
  have HJ := Lib.hid hJ
  have HJx := Lib.hid hJx
  have HL := Lib.hid hlen
  have HR := Lib.hid hr
  clear hbox hc hY hJ hJx hlen hr hW
  refine callsIn_of_wp Tryz.func55 rfl trivial ?_ rfl
  simp only [Tryz.ntmps55, List.size_toArray, List.length_cons, List.length_nil, Nat.reduceAdd, Nat.reduceSub, Array.replicate_succ, Array.replicate_zero, List.push_toArray, List.append_toArray, List.nil_append, List.cons_append]
  gi_wp2
  have A0 := Seg.at_new W 85
  have B0 : Below W.heap.size W (W.alloc (.cells #[.bool false, .int .i64 0, .int .i64 0, .int .i64 0, .bool false] 85)) := (Below.refl _ _).alloc (Nat.le_refl _) _
  have J0 : J 0 (W.alloc (.cells #[.bool false, .int .i64 0, .int .i64 0, .int .i64 0, .bool false] 85)) := HJ.out _ _ _ hJ0 (Turn.alloc _ _ _)
  have S0 : W.heap.size < (W.alloc (.cells #[.bool false, .int .i64 0, .int .i64 0, .int .i64 0, .bool false] 85)).heap.size := by simp
  generalize (W.alloc (.cells #[.bool false, .int .i64 0, .int .i64 0, .int .i64 0, .bool false] 85)) = W0 at *
  have X0 := Lib.hid ((B0.cell (p := ⟨Bs, 0, none⟩) hBW).trans hbox1)
  have HA0 := Lib.hid A0
  have HB0 := Lib.hid B0
  have HJ0 := Lib.hid J0
  clear A0 B0 J0 hJ0
  gi_loopw [4, 9] (fun f i wr => ∃ k : Nat, k ≤ len ∧ i = .int .i64 k ∧ f = .int .i64 (frm (Jn xs) k) ∧ Hid (Seg.At wr W.heap.size (Seg.sAt (props xs) k) ∧ Below n₀ W wr ∧ J (cnt (Jn xs) k - 1) wr ∧ W.heap.size < wr.heap.size ∧ wr.cell? ⟨Bs, 0, none⟩ = some (.slice (some ⟨b, off, none⟩) len cap))) (fun _ i _ => len - (intOf i).toNat)
  case atStart => exact ⟨0, Nat.zero_le _, rfl, rfl, HA0.out, HB0.out.mono (by omega), HJ0.out, S0, X0.out⟩
  case round =>
    clear HA0 HB0 HJ0 S0 X0
    obtain ⟨k, hk, rfl, rfl, H⟩ := hrel
    obtain ⟨A, B, Jk, S, hbx⟩ := H.out
    have HA := Lib.hid A
    have HB := Lib.hid B
    have HJk := Lib.hid Jk
    clear H A B Jk
    by_cases hlt : k < len
    · obtain ⟨x, hx⟩ : ∃ x, xs[k]? = some x := ⟨_, List.getElem?_eq_getElem (by rw [HL.out]; exact hlt)⟩
      have hcx := (HB.out.cell (p := ⟨b, off + k, none⟩) hb).trans (HC.out k x hx)
      obtain ⟨hr1, hr2⟩ := HR.out.at hx
      have hlt' : (k : Int) < len := by omega
      have hpr : props xs k = prop x := by unfold props; rw [List.getD_eq_getElem?_getD, hx]; rfl
      have HX := Lib.hid hx
      have HP := Lib.hid hpr
      clear hx hpr
      gi_wp2_with fail
      refine ⟨trivial, (fun h => by cases h), callsIn_wide.2 ?_⟩
      refine (Ucd.of_any x hr1 hr2 _).mono ?_
      rintro e w1 ⟨rfl, hb1⟩
      have HA1 := Lib.hid (HA.out.below hb1)
      have HB1 := Lib.hid (HB.out.trans (hb1.mono (by have := HB.out.size; omega)))
      have HJ1 := Lib.hid (HJ.out _ _ _ HJk.out (Turn.of_new hb1))
      have S1 : W.heap.size < w1.heap.size := Nat.lt_of_lt_of_le S hb1.size
      have hbx1 := (hb1.cell (p := ⟨Bs, 0, none⟩) (by show Bs < _; omega)).trans hbx
      clear HA HB HJk hb1 hbx hcx
      have HJL : Hid (Seg.joinB (Seg.sAt (props xs) k) (props xs k).br (props xs k).pi (props xs k).co = Jn xs k) := Seg.joins_law (props xs) k
      gi_wp2_with fail
      refine ⟨trivial, (fun h => by cases h), callsIn_wide.2 ?_⟩
      refine (Seg.step_core W.heap.size (Seg.sAt (props xs) k) (Gcb.val x) (Pict.isB x) (Conj.val x) (East.val x) w1 HA1.out (Jn xs k) (Seg.sAt (props xs) (k + 1)) (by rw [← HJL.out, HP.out]; exact Lib.hid rfl) (by show Hid (_ = Seg.next _ _ _ _); rw [HP.out]; exact Lib.hid rfl)).mono ?_
      rintro e w2 ⟨rfl, hA2, hB2⟩
      have HA2 := Lib.hid hA2
      have HB2 := Lib.hid (HB1.out.trans (hB2.below (by omega) (by omega)))
      have HJ2 := Lib.hid (HJ.out _ _ _ HJ1.out (⟨hB2.os, hB2.tape, hB2.output, hB2.size, hB2.block⟩ : Turn (fun j => j = W.heap.size) w1 w2))
      have S2 : W.heap.size < w2.heap.size := Nat.lt_of_lt_of_le S1 hB2.size
      have hbx2 := (World.cell?_of_block (hB2.block Bs (by omega) (by omega))).trans hbx1
      clear HA1 HB1 HJ1 S1 S hbx1 hA2 hB2 HJL HP HX
      rcases hj : Jn xs k with _ | _
      · by_cases hk0 : k = 0
        · subst hk0
          clear hj
          gi_wp2
          go_roundw
          case rel => exact ⟨1, by omega, rfl, by rw [frm_one (Jn_zero xs)]; rfl, HA2.out, HB2.out, by rw [cnt_one (Jn_zero xs)]; exact HJ2.out, S2, hbx2⟩
          case measure => simp [intOf]; omega
        · have hk0' : (k : Int) ≠ 0 := by omega
          have e0 : ((k : Int) == 0) = false := by simp; omega
          have hst := st_at (J := Jn xs) (n := xs.length) (i := k) (by rw [HL.out]; exact hlt) hj
          have hcp := cnt_pos (J := Jn xs) (n := k) (Jn_zero xs) (by omega)
          have hfl := frm_lt (J := Jn xs) (i := k) (Jn_zero xs) (by omega)
          have hfs := frm_st (J := Jn xs) (n := xs.length) (i := k) (Jn_zero xs) (by omega) (by rw [HL.out]; exact hk)
          have hfn := frm_new (J := Jn xs) (i := k) hj
          have hcn := cnt_new (J := Jn xs) (i := k) hj
          have hpc : piece xs b off (cnt (Jn xs) k - 1) = #[.int .i64 (frm (Jn xs) k), .slice (some ⟨b, off + frm (Jn xs) k, none⟩) (k - frm (Jn xs) k) (k - frm (Jn xs) k)] := by
            unfold piece
            rw [← hfs, show cnt (Jn xs) k - 1 + 1 = cnt (Jn xs) k from by omega, hst.1]
          obtain ⟨fn, tmps, assign, body, hy, hRd⟩ := HY.out (cnt (Jn xs) k - 1) w2 (by omega) HJ2.out S2
          rw [hpc] at hy
          have HR1 := Lib.hid hRd
          have HF := Lib.hid hfn
          have HN := Lib.hid hcn
          have HP := Lib.hid hcp
          have HQ := Lib.hid hst.2
          clear hRd hst hfs hfn hcn hpc hj hcp
          generalize frm (Jn xs) k = f0 at *
          gi_wp2
          refine ⟨(fun h => by cases h), HR1.out.mono ?_⟩
          rintro e w3 (⟨rfl, hJ3, hT3⟩ | ⟨rfl, hX3⟩)
          · have R : Hid (Seg.At w3 W.heap.size (Seg.sAt (props xs) (k + 1)) ∧ Below n₀ W w3 ∧ J (cnt (Jn xs) (k + 1) - 1) w3 ∧ W.heap.size < w3.heap.size ∧ w3.cell? ⟨Bs, 0, none⟩ = some (.slice (some ⟨b, off, none⟩) len cap)) := by
              obtain ⟨T, hT⟩ := HA2.out
              refine ⟨⟨T, hT3.heap hT (by simp)⟩, HB2.out.trans (hT3.below (by omega) (fun k h => h.1)), ?_, Nat.lt_of_lt_of_le S2 hT3.size, hT3.cell hbx2 (by simp)⟩
              have hc := HP.out
              rw [HN.out, show cnt (Jn xs) k + 1 - 1 = cnt (Jn xs) k - 1 + 1 from by omega]
              exact hJ3
            clear hJ3 hT3 HJ2 HB2 HA2 hbx2 hy HR1
            gi_wp2
            go_roundw
            case rel => exact ⟨k + 1, by omega, by go_num, by rw [HF.out], R⟩
            case measure => simp [intOf]; omega
          · gi_wp2
            refine bodyPost_ret (results_none rfl _ _ _) rfl ?_
            exact ⟨⟨_, rfl⟩, .inr ⟨_, by have := HP.out; have := HQ.out; omega, hX3⟩⟩
      · have hk0 : 0 < k := by
          rcases Nat.eq_zero_or_pos k with h | h
          · subst h; rw [Jn_zero] at hj; cases hj
          · exact h
        have R : Hid (Seg.At w2 W.heap.size (Seg.sAt (props xs) (k + 1)) ∧ Below n₀ W w2 ∧ J (cnt (Jn xs) (k + 1) - 1) w2 ∧ W.heap.size < w2.heap.size ∧ w2.cell? ⟨Bs, 0, none⟩ = some (.slice (some ⟨b, off, none⟩) len cap)) :=
          ⟨HA2.out, HB2.out, by rw [cnt_join hj]; exact HJ2.out, S2, hbx2⟩
        have HF := Lib.hid (frm_join (J := Jn xs) (i := k) (Jn_zero xs) hk0 hj)
        clear hj HJ2 HB2 HA2 hbx2
        gi_wp2
        go_roundw
        case rel => exact ⟨k + 1, by omega, by go_num, by rw [HF.out], R⟩
        case measure => simp [intOf]; omega
    · obtain rfl : k = len := by omega
      have hcp := cnt_pos (J := Jn xs) (n := xs.length) (Jn_zero xs) (by rw [HL.out]; exact h0)
      have hfl := frm_lt (J := Jn xs) (i := xs.length) (Jn_zero xs) (by rw [HL.out]; exact h0)
      have hpc : piece xs b off (cnt (Jn xs) xs.length - 1) = #[.int .i64 (frm (Jn xs) xs.length), .slice (some ⟨b, off + frm (Jn xs) xs.length, none⟩) (xs.length - frm (Jn xs) xs.length) (xs.length - frm (Jn xs) xs.length)] := by
        unfold piece frm
        rw [show cnt (Jn xs) xs.length - 1 + 1 = cnt (Jn xs) xs.length from by omega, st_cnt]
      have hJk := HJk.out
      rw [← HL.out] at hJk
      obtain ⟨fn, tmps, assign, body, hy, hRd⟩ := HY.out (cnt (Jn xs) xs.length - 1) wr (by omega) hJk S
      rw [hpc] at hy
      rw [HL.out] at hy hfl
      have HR1 := Lib.hid hRd
      have HP := Lib.hid hcp
      clear hRd hpc hcp hJk
      generalize frm (Jn xs) k = f0 at *
      gi_wp2
      refine ⟨(fun h => by cases h), HR1.out.mono ?_⟩
      rintro e w3 (⟨rfl, hJ3, hT3⟩ | ⟨rfl, hX3⟩)
      · gi_wp2
        go_end0
        refine ⟨⟨_, rfl⟩, .inl ?_⟩
        have hc := HP.out
        rwa [show cnt (Jn xs) xs.length - 1 + 1 = cnt (Jn xs) xs.length from by omega] at hJ3
      · gi_wp2
        go_end0
        exact ⟨⟨_, rfl⟩, .inr ⟨_, by have := HP.out; omega, hX3⟩⟩

theorem all_gives_nil (Bs n₀ bx cap : Nat) (a : Option Addr) (encs : Nat → Array Value) (w : World) (hBs : Bs < w.heap.size)
    (hbox : w.cell? ⟨Bs, 0, none⟩ = some (.slice a 0 cap)) :
    Gives Tryz.prog 55 #[.pointer (some ⟨Bs, 0, none⟩)] encs 0 n₀ bx w := by
  intro n l J Jx W hW hJ hJx hY hJ0
  have hbox1 := (hW.cell (p := ⟨Bs, 0, none⟩) hBs).trans hbox
  have hBW : Bs < W.heap.size := Nat.lt_of_lt_of_le hBs hW.size
  have HJ0 := Lib.hid (hJ _ _ _ hJ0 (Turn.alloc _ _ (.cells #[.bool false, .int .i64 0, .int .i64 0, .int .i64 0, .bool false] 85)))
  clear hbox hY hJ hJx hW hJ0
  refine callsIn_of_wp Tryz.func55 rfl trivial ?_ rfl
  simp only [Tryz.ntmps55, List.size_toArray, List.length_cons, List.length_nil, Nat.reduceAdd, Nat.reduceSub, Array.replicate_succ, Array.replicate_zero, List.push_toArray, List.append_toArray, List.nil_append, List.cons_append]
  gi_wp2
  have hbx2 : (W.alloc (.cells #[.bool false, .int .i64 0, .int .i64 0, .int .i64 0, .bool false] 85)).cell? ⟨Bs, 0, none⟩ = some (.slice a 0 cap) := by rw [World.cell?_alloc_lt _ _ _ hBW]; exact hbox1
  generalize (W.alloc (.cells #[.bool false, .int .i64 0, .int .i64 0, .int .i64 0, .bool false] 85)) = W0 at *
  gi_loopw [9] (fun i wr => i = .int .i64 0 ∧ Hid (wr = W0)) (fun _ _ => 0)
  case atStart => exact ⟨rfl, Lib.hid rfl⟩
  case round =>
    obtain ⟨rfl, H⟩ := hrel
    have hbx3 : wr.cell? ⟨Bs, 0, none⟩ = some (.slice a 0 cap) := by rw [H.out]; exact hbx2
    have HJ1 : Hid (J 0 wr) := by rw [H.out]; exact HJ0
    clear H hbx2 HJ0
    gi_wp2
    go_end0
    exact ⟨⟨_, rfl⟩, .inl HJ1.out⟩

end Go.Proofs.YtcbfmokafmagpaaGreat.Gra

/-
  row.Paint.
  row.Cells, row.Cell.
  row.Cell, mark.At.
-/
import Derived.Test.YtjicdcmdgbcdcaaGreatDoorSd18
import Derived.Deep.CutBlock
import Derived.Deep.DeepCutAuto
section
namespace Go.Proofs.YtjicdcmdgbcdcaaGreatDoor.Scr
set_option linter.unusedSimpArgs false
set_option linter.unusedVariables false
open Go Go.RowKit Mem Turn Ring

/-- the package's errors are there -/
def Vars (w : World) : Prop := (∃ t v, w.cell? ⟨3, 0, none⟩ = some (.iface t v)) ∧ ∃ t v, w.cell? ⟨4, 0, none⟩ = some (.iface t v)
theorem Vars.turn {w w' : World} {T : Nat → Prop} (h : Vars w) (ht : Turn T w w') (h1 : ¬ T 3) (h2 : ¬ T 4) : Vars w' := by
  obtain ⟨⟨t, v, h3⟩, ⟨t', v', h4⟩⟩ := h
  exact ⟨⟨t, v, ht.cell h3 h1⟩, ⟨t', v', ht.cell h4 h2⟩⟩
/-- no error, or one -/
def ErrV (v : Value) : Prop := v = .nilIface ∨ ∃ t x, v = .iface t x

theorem putL_snoc (l : LineC) (a : Nat) (p : List CellC) (c : CellC) : putL l a (p ++ [c]) = putC (putL l a p) (a + p.length) c := by
  induction p generalizing l a with
  | nil => rfl
  | cons x p ih =>
    simp only [List.cons_append, putL, List.length_cons]
    rw [ih, show a + 1 + p.length = a + (p.length + 1) from by omega]

/-- what a painting finds and leaves -/
structure RowW (w : World) (ρ κ : Nat) (l : LineC) (wx : World) : Prop where
  row : RowAt wx ρ κ l
  turn : Turn (fun b => b = ρ ∨ b = κ) w wx

set_option maxRecDepth 100000 in
set_option maxHeartbeats 8000000 in
theorem paint_ok (ρ κ k : Nat) (l : LineC) (v : Value) (p : List CellC) (w : World) (h : RowAt w ρ κ l) (h0 : kindAt l.1 0 ≠ 3) (hp : CellsAt (fun b => b ≠ ρ ∧ b ≠ κ) False w v p) (hk : k + p.length ≤ l.1.length) (hpl : 0 < p.length) (hs : soundB p = true) :
    Calls Tryz.prog 234 #[.pointer (some ⟨ρ, 0, none⟩), .int .i64 (k : Int), v] w fun e w' => e = .returned .nilIface ∧ RowAt w' ρ κ (paintN l k p) ∧ Turn (fun b => b = ρ ∨ b = κ) w w' := by
  obtain ⟨a, c, rfl, hpc, h32, _⟩ := id hp
  have HSO := Lib.hid (sound_any _ _ _ p w hp)
  have HP := Lib.hid hp
  have HPN := Lib.hid (show paintN l k p = putL (tearR (tearL l k) (k + p.length)) k p from rfl)
  have hle := h.le
  obtain ⟨c0, _, _⟩ := h.hdr0
  have HH := Lib.hid h
  generalize hn : l.1.length = n at *
  generalize hm : p.length = m at *
  have HN := Lib.hid hn
  have HM := Lib.hid hm
  have H0 := Lib.hid h0
  have HS := Lib.hid hs
  rw [hs] at HSO
  have d1 : decide ((n : Int) < (k : Int)) = false := decide_eq_false (by omega)
  have d2 : decide (n < k) = false := decide_eq_false (by omega)
  have d3 : decide ((n : Int) - (k : Int) < (m : Int)) = false := decide_eq_false (by omega)
  have d4 : ((m : Int) == 0) = false := beq_eq_false_iff_ne.2 (by omega)
  clear h hp hn hm h0 hs
  go_enter Tryz.func234, Tryz.ntmps234
  go_wp2_with fail
  refine HSO.out.mono ?_
  rintro e w1 ⟨rfl, hb⟩
  have HW1 : Hid (RowW w ρ κ l w1) := Lib.hid ⟨HH.out.turn (Turn.of_new hb : Turn (fun _ => False) w w1) (Free.no _ _) id id, (Turn.of_new hb : Turn (fun _ => False) w w1).mono (fun _ _ h => h.elim)⟩
  clear hb HSO c0
  have HK := Lib.hid (kind_in ρ κ k l w1 HW1.out.row (by rw [HN.out]; omega))
  go_wp2_with fail
  refine HK.out.mono ?_
  rintro e w2 ⟨rfl, rfl⟩
  clear HK
  obtain ⟨kk, hkk⟩ : ∃ kk, kk = kindAt l.1 k := ⟨_, rfl⟩
  rw [← hkk]
  have HKK := Lib.hid hkk
  clear hkk
  go_upto_if 51 with fail
  go_cut [56] (fun s wx => Hid (RowW w ρ κ (tearL l k) wx))
  case first =>
    by_cases h3 : kk = 3
    · have HT := Lib.hid (show tearL l k = putC l (k - 1) blank from if_pos (by rw [← HKK.out]; exact h3))
      have hk0 : 1 ≤ k := by
        rcases Nat.eq_zero_or_pos k with e | e
        · exact absurd (by rw [← e, ← HKK.out]; exact h3) H0.out
        · exact e
      have HPU := Lib.hid (put_any (fun _ => True) ρ κ (k - 1) l 0 (.slice none 0 0) [] w1 HW1.out.row (by rw [HN.out]; omega) (TextAt.nil _ _ _))
      rw [show ((k - 1 : Nat) : Int) = (k : Int) - 1 from by omega] at HPU
      have z : (kk == 3) = true := by simpa using h3
      clear h3
      go_wp2_with fail
      refine HPU.out.mono ?_
      rintro e w2 ⟨rfl, hr2, ht2⟩
      have HR2 : Hid (RowW w ρ κ (tearL l k) w2) := Lib.hid ⟨by rw [HT.out]; exact hr2, HW1.out.turn.trans ht2⟩
      clear hr2 ht2
      go_wp2_with fail
      go_meet
      exact HR2
    · have HT := Lib.hid (show tearL l k = l from if_neg (by rw [← HKK.out]; exact h3))
      have z : (kk == 3) = false := by simpa using h3
      clear h3
      go_wp2_with fail
      go_meet
      exact Lib.hid (by rw [HT.out]; exact HW1.out)
  case rest =>
    have HW2 := hcut
    clear hcut HW1
    have HK : Hid (Calls Tryz.prog 288 #[.pointer (some ⟨ρ, 0, none⟩), .int .i64 ((k : Int) + (m : Int))] wc fun e w' => e = .returned (.int .i64 (kindAt (tearL l k).1 (k + m))) ∧ wc = w') := Lib.hid (by
      by_cases hend : k + m < n
      · have := kind_in ρ κ (k + m) (tearL l k) _ HW2.out.row (by rw [tearL_len, HN.out]; exact hend)
        rw [show ((k + m : Nat) : Int) = (k : Int) + (m : Int) from by omega] at this
        exact this
      · have h3 : kindAt (tearL l k).1 (k + m) = 0 := by
          unfold kindAt
          rw [List.getD_eq_getElem?_getD, List.getElem?_eq_none (by rw [tearL_len, HN.out]; omega)]
          rfl
        rw [h3]
        exact kind_out ρ κ ((k : Int) + (m : Int)) (tearL l k) _ HW2.out.row (.inr (by rw [tearL_len, HN.out]; omega)))
    go_wp2_with fail
    refine HK.out.mono ?_
    rintro e w2 ⟨rfl, rfl⟩
    clear HK
    obtain ⟨ke, hke⟩ : ∃ ke, ke = kindAt (tearL l k).1 (k + m) := ⟨_, rfl⟩
    rw [← hke]
    have HKE := Lib.hid hke
    clear hke
    go_upto_if 64 with fail
    go_cut [68] (fun s wx => Hid (RowW w ρ κ (tearR (tearL l k) (k + m)) wx))
    case first =>
      by_cases h3 : ke = 3
      · have HT := Lib.hid (show tearR (tearL l k) (k + m) = putC (tearL l k) (k + m) blank from if_pos (by rw [← HKE.out]; exact h3))
        have hend : k + m < n := by
          rcases Nat.lt_or_ge (k + m) n with e | e
          · exact e
          · exfalso
            have h4 : kindAt (tearL l k).1 (k + m) = 0 := by
              unfold kindAt
              rw [List.getD_eq_getElem?_getD, List.getElem?_eq_none (by rw [tearL_len, HN.out]; omega)]
              rfl
            have := HKE.out
            omega
        have HPU := Lib.hid (put_any (fun _ => True) ρ κ (k + m) (tearL l k) 0 (.slice none 0 0) [] _ HW2.out.row (by rw [tearL_len, HN.out]; omega) (TextAt.nil _ _ _))
        rw [show ((k + m : Nat) : Int) = (k : Int) + (m : Int) from by omega] at HPU
        have z : (ke == 3) = true := by simpa using h3
        clear h3
        go_wp2_with fail
        refine HPU.out.mono ?_
        rintro e w2 ⟨rfl, hr2, ht2⟩
        have HR2 : Hid (RowW w ρ κ (tearR (tearL l k) (k + m)) w2) := Lib.hid ⟨by rw [HT.out]; exact hr2, HW2.out.turn.trans ht2⟩
        clear hr2 ht2
        go_wp2_with fail
        go_meet
        exact HR2
      · have HT := Lib.hid (show tearR (tearL l k) (k + m) = tearL l k from if_neg (by rw [← HKE.out]; exact h3))
        have z : (ke == 3) = false := by simpa using h3
        clear h3
        go_wp2_with fail
        go_meet
        exact Lib.hid (by rw [HT.out]; exact HW2.out)
    case rest =>
      have HW3 := hcut
      clear hcut HW2
      generalize hL : tearR (tearL l k) (k + m) = L at *
      have HLL : Hid (L.1.length = n) := Lib.hid (by rw [← hL, tearR_len, tearL_len, HN.out])
      have HL := Lib.hid hL
      clear hL
      go_wp2_with fail
      go_loopg [8, 9, 71] m (fun gg v8 v9 i wx => ∃ j : Nat, m - j = gg ∧ j ≤ m ∧ i = .int .i64 j ∧ Hid (RowW w ρ κ (putL L k (p.take j)) wx))
      case atStart => exact ⟨0, rfl, Nat.zero_le _, rfl, HW3⟩
      case round =>
        obtain ⟨j, rfl, hj, rfl, H⟩ := hrel
        by_cases hlt : j < m
        · have hp2 := TextAt.mono (D' := fun _ => True) (TextAt.nil (fun _ => True) False w) (fun _ _ _ => trivial)
          obtain ⟨b, off, rfl, hbs, hbD, hcell⟩ : ∃ b off, a = some ⟨b, off, none⟩ ∧ b < w.heap.size ∧ (b ≠ ρ ∧ b ≠ κ) ∧ ∀ (j : Nat) (x : CellC), p[j]? = some x → w.cell? ⟨b, off + j * 2, none⟩ = some (.int .i64 x.1) ∧ (False → w.frozen? ⟨b, off + j * 2, none⟩ = false) ∧ ∃ tv, w.cell? ⟨b, off + j * 2 + 1, none⟩ = some tv ∧ TextAt (fun b => b ≠ ρ ∧ b ≠ κ) False w tv x.2 := by
            obtain ⟨a', c', e, _, _, h4⟩ := HP.out
            injection e with e1 _ _
            subst e1
            exact h4.resolve_left (by rw [HM.out]; omega)
          obtain ⟨x, hx⟩ : ∃ x, p[j]? = some x := ⟨_, List.getElem?_eq_getElem (by rw [HM.out]; exact hlt)⟩
          obtain ⟨y0, _, tv, y1, hty⟩ := hcell j x hx
          have hT := H.out.turn
          have x0 := hT.cell y0 (fun e => e.elim hbD.1 hbD.2)
          have x1 := hT.cell y1 (fun e => e.elim hbD.1 hbD.2)
          have hty1 : TextAt (fun b => b ≠ ρ ∧ b ≠ κ) False wr tv x.2 := TextAt.turn hty hT (fun b hb _ e => e.elim hb.1 hb.2)
          have hlt' : (j : Int) < (m : Int) := by omega
          have hpt : p.take (j + 1) = p.take j ++ [x] := by rw [List.take_add_one, hx]; rfl
          have hlen : (p.take j).length = j := by rw [List.length_take, HM.out]; omega
          have HPS : Hid (putL L k (p.take (j + 1)) = putC (putL L k (p.take j)) (k + j) x) := Lib.hid (by rw [hpt, putL_snoc, hlen])
          obtain ⟨kd, tx⟩ := x
          simp only at x0 hty1
          obtain ⟨at1, ct1, rfl, _⟩ := id hty1
          generalize htn : tx.length = tn at *
          have T2 : Turn (fun _ => False) wr (wr.alloc (.cells #[.int .i64 kd, .slice at1 tn ct1] 80)) := Turn.alloc _ _ _
          have HR2 : Hid (RowAt (wr.alloc (.cells #[.int .i64 kd, .slice at1 tn ct1] 80)) ρ κ (putL L k (p.take j))) := Lib.hid (H.out.row.turn T2 (Free.no _ _) id id)
          have HT2 := Lib.hid (H.out.turn.trans (T2.mono (fun _ _ h => h.elim)))
          have HPU := Lib.hid (put_any (fun b => b ≠ ρ ∧ b ≠ κ) ρ κ (k + j) (putL L k (p.take j)) kd (.slice at1 tn ct1) tx _ HR2.out (by rw [putL_len, HLL.out]; omega) (TextAt.turn hty1 T2 (fun _ _ _ => id)))
          rw [show ((k + j : Nat) : Int) = (k : Int) + (j : Int) from by omega] at HPU
          have hnew : (wr.alloc (.cells #[.int .i64 0, .slice none 0 0] 80)).heap[wr.heap.size]? = some (.cells #[.int .i64 0, .slice none 0 0] 80 (0, 0)) := heap_alloc_new wr _
          have hrow : (wr.alloc (.cells #[.int .i64 0, .slice none 0 0] 80)).setRow wr.heap.size #[.int .i64 kd, .slice at1 tn ct1] = wr.alloc (.cells #[.int .i64 kd, .slice at1 tn ct1] 80) := World.setRow_alloc_new wr _ _ _
          have e2 := heap_alloc_new wr (.cells #[.int .i64 kd, .slice at1 tn ct1] 80)
          clear hx hcell y0 y1 hty hty1 T2 hT hpt hlen htn hp2 hbD hbs
          go_upto_region 15 with (refine wpList_store_row rfl 80 _ _ rfl wr.heap.size #[.int .i64 kd, .slice at1 tn ct1] rfl rfl _ _ hnew (size_cell _ _) rfl (one_cell _ _ _ _) ?_)
          rw [hrow]
          generalize (wr.alloc (.cells #[.int .i64 kd, .slice at1 tn ct1] 80)) = w2 at *
          have q0 : w2.cell? ⟨wr.heap.size, 0, none⟩ = some (.int .i64 kd) := by simp [World.cell?, e2]
          have q1 : w2.cell? ⟨wr.heap.size, 1, none⟩ = some (.slice at1 tn ct1) := by simp [World.cell?, e2]
          clear e2 hnew hrow
          go_wp2_with fail
          refine HPU.out.mono ?_
          rintro e w3 ⟨rfl, hr3, ht3⟩
          have HR3 : Hid (RowW w ρ κ (putL L k (p.take (j + 1))) w3) := Lib.hid ⟨by rw [HPS.out]; exact hr3, HT2.out.trans ht3⟩
          clear hr3 ht3 q0 q1
          go_wp2_with fail
          go_roundg (m - (j + 1))
          case measure => omega
          case rel => exact ⟨j + 1, rfl, by omega, by go_num, HR3⟩
        · obtain rfl : j = m := by omega
          have HF : Hid (RowW w ρ κ (paintN l k p) wr) := Lib.hid (by
            have := H.out
            rw [List.take_of_length_le (by rw [HM.out]; exact Nat.le_refl _)] at this
            rw [HPN.out]
            exact this)
          go_wp2_with fail
          go_ret
          exact ⟨rfl, HF.out.row, HF.out.turn⟩

set_option maxRecDepth 100000 in
set_option maxHeartbeats 4000000 in
/-- what cannot be painted -/
theorem paint_no (ρ κ : Nat) (at_ : Int) (l : LineC) (v : Value) (p : List CellC) (D : Nat → Prop) (w : World) (h : RowAt w ρ κ l) (hv : Vars w) (hp : CellsAt D False w v p) (hg1 : 3 < w.heap.size) (ha1 : -9223372036854775808 ≤ at_) (ha2 : at_ ≤ 9223372036854775807)
    (hno : (at_ < 0 ∨ (l.1.length : Int) < at_ ∨ (l.1.length : Int) - at_ < p.length) ∨ soundB p = false ∨ p = []) :
    Calls Tryz.prog 234 #[.pointer (some ⟨ρ, 0, none⟩), .int .i64 at_, v] w fun e w' => (∃ v, ErrV v ∧ e = .returned v) ∧ Below w.heap.size w w' := by
  obtain ⟨a, c, rfl, hpc, h32, _⟩ := id hp
  have HSO := Lib.hid (sound_any _ _ _ p w hp)
  obtain ⟨⟨t3, v3, e3⟩, ⟨t4, v4, e4⟩⟩ := hv
  have hle := h.le
  obtain ⟨c0, _, _⟩ := h.hdr0
  have hlen : p = [] ↔ p.length = 0 := by simp
  rw [hlen] at hno
  have HV3 : Hid (ErrV (.iface t3 v3)) := Lib.hid (.inr ⟨_, _, rfl⟩)
  have HV4 : Hid (ErrV (.iface t4 v4)) := Lib.hid (.inr ⟨_, _, rfl⟩)
  have HV0 : Hid (ErrV .nilIface) := Lib.hid (.inl rfl)
  generalize l.1.length = n at *
  generalize p.length = m at *
  generalize hso : soundB p = so at *
  have hm : m ≤ 4398046511104 := by omega
  clear h hp hlen
  by_cases h1 : at_ < 0
  · clear hno
    go_enter Tryz.func234, Tryz.ntmps234
    go_wp2_with fail
    go_ret
    exact ⟨⟨_, HV4.out, rfl⟩, Below.refl _ _⟩
  · have h1' : 0 ≤ at_ := by omega
    by_cases h2 : (n : Int) < at_
    · clear hno
      go_enter Tryz.func234, Tryz.ntmps234
      go_wp2_with fail
      go_ret
      exact ⟨⟨_, HV4.out, rfl⟩, Below.refl _ _⟩
    · have h2' : at_ ≤ (n : Int) := by omega
      by_cases h3 : (n : Int) - at_ < (m : Int)
      · clear hno
        go_enter Tryz.func234, Tryz.ntmps234
        go_wp2_with fail
        go_ret
        exact ⟨⟨_, HV4.out, rfl⟩, Below.refl _ _⟩
      · have d3 : decide ((n : Int) - at_ < (m : Int)) = false := decide_eq_false h3
        cases hs : so with
        | false =>
          subst hs
          clear hno h3 h1 h2
          go_enter Tryz.func234, Tryz.ntmps234
          go_wp2_with fail
          refine HSO.out.mono ?_
          rintro e w1 ⟨rfl, hb⟩
          have e3' := (hb.cell (p := ⟨3, 0, none⟩) hg1).trans e3
          have HB := Lib.hid hb
          clear hb
          go_wp2_with fail
          go_ret
          exact ⟨⟨_, HV3.out, rfl⟩, HB.out⟩
        | true =>
          subst hs
          have hm0 : m = 0 := by
            rcases hno with hno | hno | hno
            · omega
            · cases hno
            · exact hno
          subst hm0
          clear hno h3 h1 h2
          go_enter Tryz.func234, Tryz.ntmps234
          go_wp2_with fail
          refine HSO.out.mono ?_
          rintro e w1 ⟨rfl, hb⟩
          have HB := Lib.hid hb
          clear hb
          go_wp2_with fail
          go_ret
          exact ⟨⟨_, HV0.out, rfl⟩, HB.out⟩

/-- PAINT -/
theorem paint_any (ρ κ : Nat) (at_ : Int) (l : LineC) (v : Value) (p : List CellC) (w : World) (h : RowAt w ρ κ l) (h0 : kindAt l.1 0 ≠ 3) (hv : Vars w) (hp : CellsAt (fun b => b ≠ ρ ∧ b ≠ κ) False w v p) (hg1 : 3 < w.heap.size) (ha1 : -9223372036854775808 ≤ at_) (ha2 : at_ ≤ 9223372036854775807) :
    Calls Tryz.prog 234 #[.pointer (some ⟨ρ, 0, none⟩), .int .i64 at_, v] w fun e w' => (∃ v, ErrV v ∧ e = .returned v) ∧ RowAt w' ρ κ (paint l at_ p) ∧ Turn (fun b => b = ρ ∨ b = κ) w w' := by
  by_cases hno : (at_ < 0 ∨ (l.1.length : Int) < at_ ∨ (l.1.length : Int) - at_ < p.length) ∨ soundB p = false ∨ p = []
  · have e : paint l at_ p = l := by
      unfold paint
      split
      · rfl
      · rename_i h1
        split
        · rfl
        · rename_i h2
          rw [if_pos ((hno.resolve_left h1).resolve_left h2)]
    refine (paint_no ρ κ at_ l v p _ w h hv hp hg1 ha1 ha2 hno).mono ?_
    rintro x w' ⟨h1, h2⟩
    rw [e]
    have T : Turn (fun _ => False) w w' := Turn.of_new h2
    exact ⟨h1, h.turn T (Free.no _ _) id id, T.mono (fun _ _ h => h.elim)⟩
  · have h1 : ¬ (at_ < 0 ∨ (l.1.length : Int) < at_ ∨ (l.1.length : Int) - at_ < p.length) := fun x => hno (.inl x)
    have h2 : ¬ soundB p = false := fun x => hno (.inr (.inl x))
    have h3 : ¬ p = [] := fun x => hno (.inr (.inr x))
    obtain ⟨k, rfl⟩ : ∃ k : Nat, at_ = (k : Int) := ⟨at_.toNat, by omega⟩
    have e : paint l (k : Int) p = paintN l k p := by
      unfold paint
      rw [if_neg h1, if_neg h2, if_neg h3]
      rfl
    rw [e]
    refine (paint_ok ρ κ k l v p w h h0 hp (by omega) (List.length_pos_iff.2 h3) (by simpa using h2)).mono ?_
    rintro x w' ⟨rfl, h4, h5⟩
    exact ⟨⟨_, .inl rfl, rfl⟩, h4, h5⟩
end Go.Proofs.YtjicdcmdgbcdcaaGreatDoor.Scr
end
section
namespace Go.Proofs.YtjicdcmdgbcdcaaGreatDoor.Scr
set_option linter.unusedSimpArgs false
set_option linter.unusedVariables false
open Go Go.RowKit Mem Turn Ring

/-- a slice of cells of the call's own (what lies behind B) -/
def OwnCells (B : Nat) (w' : World) (v : Value) (cs : List CellC) : Prop := ∃ rs, w'.ownsRow B 80 2 v cs.length (flatC rs) ∧ Txts w' rs cs
theorem Txts.nil (w : World) : Txts w [] [] := ⟨rfl, fun j r x h => by cases h⟩
theorem Txts.snoc {w : World} {rs : List (Int × Value)} {cs : List CellC} {k : Int} {v : Value} {t : List Int} (h : Txts w rs cs) (hv : TxtAt w v t) : Txts w (rs ++ [(k, v)]) (cs ++ [(k, t)]) := by
  refine ⟨by simp [h.1], fun j r x hr hx => ?_⟩
  rcases Nat.lt_or_ge j rs.length with hj | hj
  · rw [List.getElem?_append_left hj] at hr
    rw [List.getElem?_append_left (by rw [← h.1]; exact hj)] at hx
    exact h.2 j r x hr hx
  · have hj2 : j = rs.length := by
      have := (List.getElem?_eq_some_iff.1 hr).1
      simp at this
      omega
    subst hj2
    rw [List.getElem?_append_right (Nat.le_refl _), Nat.sub_self] at hr
    rw [h.1, List.getElem?_append_right (Nat.le_refl _), Nat.sub_self] at hx
    simp at hr hx
    subst hr hx
    exact ⟨rfl, hv⟩
theorem owns_typ {w : World} {B : Nat} {e : TypeId} {s n : Nat} {v : Value} {xs : List Value} (h : w.ownsRow B e s v n xs) {g : Nat} (hg : v.ownBlock = some g) : Typ w e g := by
  rcases h.2 with ⟨h1, _⟩ | ⟨g', cap, cur, h1, _, h6, _⟩
  · rw [h1] at hg; cases hg
  · rw [h1] at hg
    injection (show some g' = some g from hg) with e
    subst e
    exact ⟨_, _, h6⟩
theorem TxtAt.on {w : World} {v : Value} {t : List Int} (h : TxtAt w v t) {ρ κ : Nat} {l : LineC} (hr : RowAt w ρ κ l) : TextAt (fun b => b ≠ ρ ∧ b ≠ κ) False w v t :=
  TextAt.mono h fun b hb _ => ⟨hb.ne hr.typ (by decide), hb.ne hr.cells.typ (by decide)⟩
theorem OwnCells.at_ {B : Nat} {w : World} {v : Value} {cs : List CellC} (h : OwnCells B w v cs) (D : Nat → Prop) (hD : ∀ b, B ≤ b → D b) (hT : ∀ b, Typ w 21 b → D b) (hs : cs.length ≤ 100000) : CellsAt D False w v cs := by
  obtain ⟨rs, h1, h2⟩ := h
  obtain ⟨a, c, rfl, h3, h4⟩ := own_form h1
  refine ⟨a, c, rfl, h3, by omega, h4.imp id fun ⟨g, e, e2, hb, hg, hf, hc⟩ => ⟨g, 0, e, hg, hD g hb, fun j x hx => ?_⟩⟩
  obtain ⟨r, hr⟩ : ∃ r, rs[j]? = some r := ⟨_, List.getElem?_eq_getElem (by rw [h2.1]; exact (List.getElem?_eq_some_iff.1 hx).1)⟩
  obtain ⟨e1, e3⟩ := h2.2 j r x hr hx
  obtain ⟨g1, g2⟩ := flatC_get hr
  rw [Nat.zero_add]
  exact ⟨by rw [← e1]; exact hc _ _ g1, fun f => f.elim, r.2, hc _ _ g2, TextAt.mono e3 (fun b hb _ => hT b hb)⟩
/-- such a slice is read beside a row -/
theorem OwnCells.on {B : Nat} {w : World} {v : Value} {cs : List CellC} (h : OwnCells B w v cs) {ρ κ : Nat} {l : LineC} (hr : RowAt w ρ κ l) (h1 : ρ < B) (h2 : κ < B) (hs : cs.length ≤ 100000) : CellsAt (fun b => b ≠ ρ ∧ b ≠ κ) False w v cs :=
  h.at_ _ (fun b hb => ⟨by omega, by omega⟩) (fun b hb => ⟨hb.ne hr.typ (by decide), hb.ne hr.cells.typ (by decide)⟩) hs

set_option maxRecDepth 100000 in
set_option maxHeartbeats 8000000 in
theorem cells_any (ρ κ : Nat) (l : LineC) (w : World) (h : RowAt w ρ κ l) :
    Calls Tryz.prog 78 #[.pointer (some ⟨ρ, 0, none⟩)] w fun e w' => ∃ v, e = .returned v ∧ OwnCells w.heap.size w' v l.1 ∧ Below w.heap.size w w' := by
  obtain ⟨i0, hi, hz0, hz1, hz2⟩ := info_parts info_cell
  have HH := Lib.hid h
  have HW := Lib.hid (wide_any ρ κ l w h)
  have hle := h.le
  have hρ := h.typ.lt
  have hκ := h.cells.typ.lt
  obtain ⟨c0, _, _⟩ := h.hdr0
  generalize hn : l.1.length = n at *
  have HN := Lib.hid hn
  clear h hn
  go_enter Tryz.func78, Tryz.ntmps78
  go_wp2_with fail
  refine HW.out.mono ?_
  rintro e w1 ⟨rfl, rfl⟩
  go_wp2_with fail
  clear c0
  go_loopg [3, 4, 7] n (fun gg v3 v4 i wx => ∃ k : Nat, n - k = gg ∧ k ≤ n ∧ i = .int .i64 k ∧ Hid (OwnCells w.heap.size wx v3 (l.1.take k) ∧ Below w.heap.size w wx))
  case atStart => exact ⟨0, rfl, Nat.zero_le _, rfl, Lib.hid ⟨⟨[], World.ownsRow_nil _ _ _ _, Txts.nil _⟩, Below.refl _ _⟩⟩
  case round =>
    obtain ⟨k, rfl, hk, rfl, H⟩ := hrel
    obtain ⟨⟨rs, ho, ht⟩, hb⟩ := H.out
    have hlk : (l.1.take k).length = k := by rw [List.length_take, HN.out]; omega
    rw [hlk] at ho
    obtain ⟨av, cv, hav⟩ := Turn.own_slice ho
    subst hav
    by_cases hlt : k < n
    · have hr := HH.out.turn (Turn.of_new hb : Turn (fun _ => False) w wr) (Free.no _ _) id id
      obtain ⟨tv, x0, x1, x2, _, _⟩ := hr.cells.cell (i := k) (by rw [HN.out]; exact hlt)
      obtain ⟨c0, _, _⟩ := hr.hdr0
      rw [HN.out] at c0
      have hlt' : (k : Int) < (n : Int) := by omega
      have htk : l.1.take (k + 1) = l.1.take k ++ [l.1.getD k blank] := by rw [List.take_add_one, List.getD_eq_getElem?_getD, List.getElem?_eq_getElem (by rw [HN.out]; exact hlt)]; rfl
      have HTK := Lib.hid htk
      have HOWN := Lib.hid (own_any _ False (l.1.getD k blank).1 tv (l.1.getD k blank).2 wr x2)
      obtain ⟨at1, ct1, htv, _⟩ := id x2
      generalize l.1.getD k blank = x at *
      obtain ⟨kd, tx⟩ := x
      simp only at x0 htv HOWN
      subst htv
      generalize tx.length = tn at *
      have HO := Lib.hid ho
      have HT := Lib.hid ht
      have HB := Lib.hid hb
      clear ho ht hb hr x2 htk H hlk
      go_wp2_with fail
      refine HOWN.out.mono ?_
      rintro e w2 ⟨v', rfl, ho', hb'⟩
      obtain ⟨a', c', rfl⟩ := Turn.own_slice ho'.1
      have HO' := Lib.hid ho'
      have T2 : Turn (fun _ => False) wr (w2.alloc (.cells #[.int .i64 kd, .slice a' tx.length c'] 80)) := (Turn.of_new hb').trans (Turn.alloc _ _ _)
      have HO2 := Lib.hid (T2.kept HO.out (fun _ _ => id))
      have HT2 := Lib.hid (HT.out.turn T2 (Free.no _ _))
      have HX2 := Lib.hid (ho'.txt.turn (Turn.alloc (fun _ => False) w2 (.cells #[.int .i64 kd, .slice a' tx.length c'] 80)) (Free.no _ _))
      have HB2 := Lib.hid (HB.out.trans (T2.below HB.out.size (fun _ h => h.elim)))
      have hsz : w.heap.size ≤ w2.heap.size := by have := HB.out.size; have := hb'.size; omega
      clear ho' hb' T2 x0 x1 c0
      go_wp2_with (at_builtin; (refine wpList_append_own _ rfl _ _ 43 rfl w.heap.size 80 i0 _ 2 32 Tryz.underlying43 hi hz0 hz1 hz2 rfl (by decide) (.slice av k cv) k _ rfl HO2.out ⟨w2.heap.size, 0, none⟩ 1 1 [.int .i64 kd, .slice a' tx.length c'] rfl rfl (cell_new2 _ _ _ _) (by intro u hu; simp at hu; rcases hu with rfl | rfl <;> rfl) (by unfold maxLen; omega) (by omega) (by simp; omega) ?_; intro v5 w5 hown5 hgrow5 _))
      have HR : Hid (OwnCells w.heap.size w5 v5 (l.1.take (k + 1)) ∧ Below w.heap.size w w5) := Lib.hid (by
        have T5 : Turn (fun j => (Value.slice av k cv).ownBlock = some j) (w2.alloc (.cells #[.int .i64 kd, .slice a' tx.length c'] 80)) w5 := Turn.of_grown hgrow5 (fun g e => e)
        have hf : Free (fun j => (Value.slice av k cv).ownBlock = some j) (w2.alloc (.cells #[.int .i64 kd, .slice a' tx.length c'] 80)) 21 := fun b hb _ => (owns_typ HO2.out hb).not (by decide)
        refine ⟨⟨rs ++ [(kd, .slice a' tx.length c')], ?_, ?_⟩, HB2.out.trans (T5.below HB2.out.size (fun j e => (HO2.out.lt j e).1))⟩
        · rw [HTK.out, flatC_app, List.length_append, List.length_take, HN.out, Nat.min_eq_left (by omega)]
          exact hown5
        · rw [HTK.out]
          exact (HT2.out.turn T5 hf).snoc (HX2.out.turn T5 hf))
      clear hown5 hgrow5
      go_roundg (n - (k + 1))
      case measure => omega
      case rel => exact ⟨k + 1, rfl, by omega, by go_num, HR⟩
    · obtain rfl : k = n := by omega
      have HF : Hid (OwnCells w.heap.size wr (.slice av k cv) l.1 ∧ Below w.heap.size w wr) := Lib.hid (by
        have h1 := H.out
        rw [List.take_of_length_le (by rw [HN.out]; exact Nat.le_refl _)] at h1
        exact h1)
      clear ho ht hb
      go_wp2_with fail
      go_ret
      exact ⟨_, rfl, HF.out.1, HF.out.2⟩
end Go.Proofs.YtjicdcmdgbcdcaaGreatDoor.Scr
end
section
namespace Go.Proofs.YtjicdcmdgbcdcaaGreatDoor.Scr
set_option linter.unusedSimpArgs false
set_option linter.unusedVariables false
open Go Go.RowKit Mem Turn Ring

theorem results_ct {P : Program} {fn : Func} {p q : Tmp} {ty : TypeId} (h : fn.results = #[.cell p ty, .tmp q]) (tmps : Array Value) (w : World) (g : Nat) (t : TypeId) (cs : Array Value) (fr : Nat × Nat) (d : TypeDesc)
    (hp : tmps.getD p undef = .pointer (some ⟨g, 0, none⟩)) (hg : w.heap[g]? = some (.cells cs t fr))
    (hu : P.underlying ty = some d) (hd : (match d with | .struct _ | .array _ _ => true | _ => false) = true) (hi : (P.info? ty).map (·.size) = some cs.size) :
    (results fn tmps).run P w = .ok (.tuple #[.agg cs, tmps.getD q undef]) w := by
  have hp' : tmps[p]?.getD undef = .pointer (some ⟨g, 0, none⟩) := by simpa using hp
  simp [results, h, hp', asAddr, run_loadVar_row w g t ty cs fr d hg hu hd hi]
theorem results_tct {P : Program} {fn : Func} {o p q : Tmp} {ty : TypeId} (h : fn.results = #[.tmp o, .cell p ty, .tmp q]) (tmps : Array Value) (w : World) (g : Nat) (t : TypeId) (cs : Array Value) (fr : Nat × Nat) (d : TypeDesc)
    (hp : tmps.getD p undef = .pointer (some ⟨g, 0, none⟩)) (hg : w.heap[g]? = some (.cells cs t fr))
    (hu : P.underlying ty = some d) (hd : (match d with | .struct _ | .array _ _ => true | _ => false) = true) (hi : (P.info? ty).map (·.size) = some cs.size) :
    (results fn tmps).run P w = .ok (.tuple #[tmps.getD o undef, .agg cs, tmps.getD q undef]) w := by
  have hp' : tmps[p]?.getD undef = .pointer (some ⟨g, 0, none⟩) := by simpa using hp
  simp [results, h, hp', asAddr, run_loadVar_row w g t ty cs fr d hg hu hd hi]

theorem cell_out (ρ κ : Nat) (i : Int) (l : LineC) (w : World) (h : RowAt w ρ κ l) (hi : i < 0 ∨ (l.1.length : Int) ≤ i) :
    Calls Tryz.prog 331 #[.pointer (some ⟨ρ, 0, none⟩), .int .i64 i] w fun e w' => e = .returned (.tuple #[.agg #[.int .i64 0, .slice none 0 0], .bool false]) ∧ Below w.heap.size w w' := by
  have e2 := heap_alloc_new w (.cells #[.int .i64 0, .slice none 0 0] 80)
  have T : Turn (fun _ => False) w (w.alloc (.cells #[.int .i64 0, .slice none 0 0] 80)) := Turn.alloc _ _ _
  have HW := Lib.hid (wide_any ρ κ l _ (h.turn T (Free.no _ _) id id))
  have HB : Hid (Below w.heap.size w (w.alloc (.cells #[.int .i64 0, .slice none 0 0] 80))) := Lib.hid ((Below.refl _ _).alloc (Nat.le_refl _) _)
  generalize l.1.length = n at *
  clear h T
  by_cases h0 : i < 0
  · go_enter Tryz.func331, Tryz.ntmps331
    go_upto_region 1 with fail
    generalize (w.alloc (.cells #[.int .i64 0, .slice none 0 0] 80)) = w1 at *
    go_wp2_with (refine wpList_store_row rfl 80 _ _ rfl w.heap.size #[.int .i64 0, .slice none 0 0] rfl rfl _ _ e2 (size_cell _ _) rfl (one_cell _ _ _ _) ?_)
    refine bodyPost_ret (results_ct rfl _ _ w.heap.size _ _ (0, 0) _ rfl (setRow_heap _ w.heap.size _ _ _ (0, 0) e2) Tryz.underlying80 rfl (size_cell _ _)) rfl ?_
    exact ⟨rfl, HB.out.trans ((turn_setRow _ _ _).below HB.out.size (fun k e => by omega))⟩
  · have d1 : decide ((n : Int) ≤ i) = true := decide_eq_true (by omega)
    have h1 : 0 ≤ i := by omega
    go_enter Tryz.func331, Tryz.ntmps331
    go_upto_region 1 with fail
    generalize (w.alloc (.cells #[.int .i64 0, .slice none 0 0] 80)) = w1 at *
    go_wp2_with fail
    refine HW.out.mono ?_
    rintro e w2 ⟨rfl, rfl⟩
    go_wp2_with (refine wpList_store_row rfl 80 _ _ rfl w.heap.size #[.int .i64 0, .slice none 0 0] rfl rfl _ _ e2 (size_cell _ _) rfl (one_cell _ _ _ _) ?_)
    refine bodyPost_ret (results_ct rfl _ _ w.heap.size _ _ (0, 0) _ rfl (setRow_heap _ w.heap.size _ _ _ (0, 0) e2) Tryz.underlying80 rfl (size_cell _ _)) rfl ?_
    exact ⟨rfl, HB.out.trans ((turn_setRow _ _ _).below HB.out.size (fun k e => by omega))⟩

set_option maxRecDepth 100000 in
set_option maxHeartbeats 4000000 in
theorem cell_in (ρ κ i : Nat) (l : LineC) (w : World) (h : RowAt w ρ κ l) (hi : i < l.1.length) :
    Calls Tryz.prog 331 #[.pointer (some ⟨ρ, 0, none⟩), .int .i64 (i : Int)] w fun e w' => ∃ v, e = .returned (.tuple #[.agg #[.int .i64 (l.1.getD i blank).1, v], .bool true]) ∧ OwnTxt w w' v (l.1.getD i blank).2 ∧ Below w.heap.size w w' := by
  have e2 := heap_alloc_new w (.cells #[.int .i64 0, .slice none 0 0] 80)
  have T : Turn (fun _ => False) w (w.alloc (.cells #[.int .i64 0, .slice none 0 0] 80)) := Turn.alloc _ _ _
  have hr := h.turn T (Free.no _ _) id id
  have HW := Lib.hid (wide_any ρ κ l _ hr)
  obtain ⟨c0, _, _⟩ := hr.hdr0
  obtain ⟨tv, x0, x1, x2, _, _⟩ := hr.cells.cell hi
  have HB : Hid (Below w.heap.size w (w.alloc (.cells #[.int .i64 0, .slice none 0 0] 80))) := Lib.hid ((Below.refl _ _).alloc (Nat.le_refl _) _)
  have HOWN := Lib.hid (own_any _ False (l.1.getD i blank).1 tv (l.1.getD i blank).2 _ x2)
  obtain ⟨at1, ct1, htv, _⟩ := id x2
  have hle := h.le
  generalize l.1.getD i blank = x at *
  obtain ⟨kd, tx⟩ := x
  simp only at x0 htv HOWN
  subst htv
  generalize l.1.length = n at *
  generalize htn : tx.length = tn at *
  have hsz : (w.alloc (.cells #[.int .i64 0, .slice none 0 0] 80)).heap.size = w.heap.size + 1 := by simp
  have d1 : decide ((n : Int) ≤ (i : Int)) = false := decide_eq_false (by omega)
  have d2 : decide (n ≤ i) = false := decide_eq_false (by omega)
  have HE := Lib.hid e2
  have HSZ := Lib.hid hsz
  clear h T hr x2 e2 hsz htn
  go_enter Tryz.func331, Tryz.ntmps331
  go_upto_region 1 with fail
  generalize (w.alloc (.cells #[.int .i64 0, .slice none 0 0] 80)) = w1 at *
  go_wp2_with fail
  refine HW.out.mono ?_
  rintro e w2 ⟨rfl, rfl⟩
  go_wp2_with fail
  refine HOWN.out.mono ?_
  rintro e w2 ⟨v', rfl, ho, hb⟩
  obtain ⟨a', c', rfl⟩ := Turn.own_slice ho.1
  have e3 := (hb.block _ (by have := HSZ.out; omega)).trans HE.out
  have HP : Hid (OwnTxt w (w2.setRow w.heap.size #[.int .i64 kd, .slice a' tx.length c']) (.slice a' tx.length c') tx ∧ Below w.heap.size w (w2.setRow w.heap.size #[.int .i64 kd, .slice a' tx.length c'])) := Lib.hid (by
    have TR := turn_setRow w2 w.heap.size #[.int .i64 kd, .slice a' tx.length c']
    have hs := HSZ.out
    refine ⟨⟨TR.kept (owns_base ho.1 (by omega)) (fun g hg e => by have := (ho.1.lt g hg).1; omega), ho.2⟩, HB.out.trans (Below.trans (hb.mono (by omega)) (TR.below (by have := hb.size; omega) (fun j e => by omega)))⟩)
  have HF := Lib.hid (setRow_heap w2 w.heap.size _ #[.int .i64 kd, .slice a' tx.length c'] 80 (0, 0) e3)
  clear ho hb c0 x0 x1
  go_wp2_with (refine wpList_store_row rfl 80 _ _ rfl w.heap.size #[.int .i64 kd, .slice a' tx.length c'] rfl rfl _ _ e3 (size_cell _ _) rfl (one_cell _ _ _ _) ?_)
  refine bodyPost_ret (results_ct rfl _ _ w.heap.size _ _ (0, 0) _ rfl HF.out Tryz.underlying80 rfl (size_cell _ _)) rfl ?_
  exact ⟨_, rfl, HP.out.1, HP.out.2⟩
end Go.Proofs.YtjicdcmdgbcdcaaGreatDoor.Scr
end

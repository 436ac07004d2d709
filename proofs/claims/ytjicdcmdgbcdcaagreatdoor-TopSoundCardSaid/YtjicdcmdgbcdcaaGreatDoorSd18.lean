/-
  script.numbers at two numbers that are right; script.raw, feed at bytes that are right.
  scalar.Replace, cell.Of.
-/
import Derived.Test.YtjicdcmdgbcdcaaGreatDoorSd16
import Derived.Test.YtjicdcmdgbcdcaaGreatDoorSd17
import Derived.Deep.QuietTactic
import Derived.BigQuiet
section
namespace Go.Proofs.YtjicdcmdgbcdcaaGreatDoor.Scr
set_option linter.unusedSimpArgs false
set_option linter.unusedVariables false
open Go Go.RowKit Mem Turn Ring

/-- the words of a line -/
def WordsAt (w : World) (b : Nat) (ws : List ByteArray) : Prop := w.heap[b]? = some (.cells (ws.map Value.string).toArray 9 (0, 0)) ∧ ∀ x ∈ ws, x.size ≤ 100000
theorem WordsAt.below {w w' : World} {b : Nat} {ws : List ByteArray} (h : WordsAt w b ws) (hb : Below w.heap.size w w') : WordsAt w' b ws := ⟨(Turn.of_new hb : Turn (fun _ => False) w w').heap h.1 id, h.2⟩
theorem WordsAt.cell {w : World} {b : Nat} {ws : List ByteArray} (h : WordsAt w b ws) {j : Nat} {x : ByteArray} (hx : ws[j]? = some x) : w.cell? ⟨b, j, none⟩ = some (.string x) := by
  simp only [World.cell?, h.1]
  rw [List.getElem?_toArray, List.getElem?_map, hx]
  rfl
theorem size_two (x y : Int) : (Tryz.prog.info? 149).map (·.size) = some (#[Value.int .i64 x, .int .i64 y] : Array Value).size := by kernel_rfl

theorem one_two (x y : Int) : (#[Value.int .i64 x, .int .i64 y] : Array Value).all (·.oneCell') = true := by simp [Value.oneCell']
def outA (x y : Int) (k : Nat) : List Value := [.int .i64 (if 0 < k then x else 0), .int .i64 (if 1 < k then y else 0)]
set_option maxRecDepth 100000 in
set_option maxHeartbeats 8000000 in
theorem numbers_two (b n c : Nat) (ws : List ByteArray) (u v : ByteArray) (x y : Int) (fr : Nat) (w : World) (h : WordsAt w b ws) (hfr : fr ≤ 10) (hn : ws.length = n) (hl : n = fr + 2) (h0 : ws[fr]? = some u) (h1 : ws[fr + 1]? = some v) (hx : numF u = (x, true)) (hy : numF v = (y, true)) :
    Calls Tryz.prog 87 #[.slice (some ⟨b, 0, none⟩) n c, .int .i64 (fr : Int), .int .i64 2] w fun e w' => e = .returned (.tuple #[.agg #[.int .i64 x, .int .i64 y], .nilIface]) ∧ Below w.heap.size w w' := by
  have HH := Lib.hid h
  have hwf : IntKind.i64.wrap (fr : Int) = (fr : Int) := by rw [IntKind.wrap_i64]; omega
  have hwf2 : IntKind.i64.wrap ((fr : Int) + 2) = (n : Int) := by rw [IntKind.wrap_i64]; omega
  have H0 := Lib.hid h0
  have H1 := Lib.hid h1
  have HX := Lib.hid hx
  have HY := Lib.hid hy
  have hbl := (Array.getElem?_eq_some_iff.1 h.1).1
  have HL := Lib.hid hl
  clear h h0 h1 hx hy hl
  go_enter Tryz.func87, Tryz.ntmps87
  go_upto_region 2 with fail
  have HI : Hid (((w.alloc (.cells #[.int .i64 0, .int .i64 0] 149)).alloc (.cells #[.int .i64 0, .int .i64 0] 149)).heap[w.heap.size + 1]? = some (.cells (outA x y 0).toArray 149 (0, 0)) ∧ Below w.heap.size w ((w.alloc (.cells #[.int .i64 0, .int .i64 0] 149)).alloc (.cells #[.int .i64 0, .int .i64 0] 149)) ∧ ((w.alloc (.cells #[.int .i64 0, .int .i64 0] 149)).alloc (.cells #[.int .i64 0, .int .i64 0] 149)).heap[w.heap.size]? = some (.cells #[.int .i64 0, .int .i64 0] 149 (0, 0))) := Lib.hid (by
    refine ⟨?_, ((Below.refl _ _).alloc (Nat.le_refl _) _).alloc (by simp) _, ?_⟩
    · have := heap_alloc_new (w.alloc (.cells #[.int .i64 0, .int .i64 0] 149)) (.cells #[.int .i64 0, .int .i64 0] 149)
      rw [World.size_alloc] at this
      exact this
    · rw [hp_old _ _ _ (by simp), heap_alloc_new])
  have hw1sz : ((w.alloc (.cells #[.int .i64 0, .int .i64 0] 149)).alloc (.cells #[.int .i64 0, .int .i64 0] 149)).heap.size = w.heap.size + 2 := by simp
  generalize ((w.alloc (.cells #[.int .i64 0, .int .i64 0] 149)).alloc (.cells #[.int .i64 0, .int .i64 0] 149)) = w1 at *
  have HS1 := Lib.hid hw1sz
  clear hw1sz
  obtain ⟨B, hB⟩ : ∃ B, w.heap.size = B := ⟨_, rfl⟩
  rw [hB] at HI HS1 ⊢
  have HBB := Lib.hid hB
  have hbB : b < B := by omega
  clear hB hbl
  go_wp2_with fail
  go_loopg [9, 10, 11, 13] 2 (fun gg v9 v10 v11 v13 wx => ∃ k : Nat, 2 - k = gg ∧ k ≤ 2 ∧ v13 = .int .i64 (k : Int) ∧ Hid (wx.heap[B + 1]? = some (.cells (outA x y k).toArray 149 (0, 0)) ∧ Below B w wx ∧ wx.heap[B]? = some (.cells #[.int .i64 0, .int .i64 0] 149 (0, 0))))
  case atStart => exact ⟨0, rfl, by omega, rfl, HI⟩
  case round =>
    obtain ⟨k, rfl, hk, rfl, H⟩ := hrel
    by_cases hlt : k < 2
    · have hlt' : (k : Int) < 2 := by omega
      obtain ⟨j, hj⟩ : ∃ j, fr + k = j := ⟨_, rfl⟩
      have hwj : IntKind.i64.wrap ((fr : Int) + (k : Int)) = (j : Int) := by rw [IntKind.wrap_i64]; omega
      have hjn : (j : Int) < (n : Int) := by have := HL.out; omega
      have hjn' : ¬ ((n : Int) ≤ (j : Int)) := by omega
      obtain ⟨t, z, ht, hz, hkz⟩ : ∃ t z, ws[j]? = some t ∧ numF t = (z, true) ∧ (outA x y k).set k (.int .i64 z) = outA x y (k + 1) := by
        rcases (show k = 0 ∨ k = 1 by omega) with rfl | rfl
        · refine ⟨u, x, by rw [← hj]; exact H0.out, HX.out, rfl⟩
        · refine ⟨v, y, by rw [← hj]; exact H1.out, HY.out, rfl⟩
      have hbw := H.out.2.1
      have hww : WordsAt wr b ws := ⟨(Turn.of_new (hbw.mono (Nat.le_of_eq HBB.out)) : Turn (fun _ => False) w wr).heap HH.out.1 id, HH.out.2⟩
      have hcell := hww.cell ht
      have HN := Lib.hid (number_any t wr (HH.out.2 t (List.mem_of_getElem? ht)))
      rw [hz] at HN
      have HKZ := Lib.hid hkz
      replace hj := Lib.hid hj
      clear hz hkz hww hbw ht
      go_wp2_with fail
      refine HN.out.mono ?_
      rintro e w2 ⟨rfl, hb2⟩
      have hsz : B + 2 ≤ wr.heap.size := by
        have := (Array.getElem?_eq_some_iff.1 H.out.1).1
        omega
      have T2 : Turn (fun _ => False) wr w2 := Turn.of_new hb2
      have hout := T2.heap H.out.1 id
      have hzero := T2.heap H.out.2.2 id
      have hc2 : ∃ q, w2.cell? ⟨B + 1, k, none⟩ = some q := by
        simp only [World.cell?, hout]
        rcases (show k = 0 ∨ k = 1 by omega) with rfl | rfl
        · exact ⟨_, rfl⟩
        · exact ⟨_, rfl⟩
      obtain ⟨q, hc2⟩ := hc2
      have hfz : w2.frozen? ⟨B + 1, k, none⟩ = false := by simp [World.frozen?, hout]
      have HST : Hid ((w2.setCell ⟨B + 1, k, none⟩ (.int .i64 z)).heap[B + 1]? = some (.cells (outA x y (k + 1)).toArray 149 (0, 0)) ∧ Below B w (w2.setCell ⟨B + 1, k, none⟩ (.int .i64 z)) ∧ (w2.setCell ⟨B + 1, k, none⟩ (.int .i64 z)).heap[B]? = some (.cells #[.int .i64 0, .int .i64 0] 149 (0, 0))) := Lib.hid (by
        have hb3 : Below B w w2 := H.out.2.1.trans (hb2.mono (by omega))
        have T3 : Turn (fun b => b = B + 1) w2 (w2.setCell ⟨B + 1, k, none⟩ (.int .i64 z)) := Turn.setCell (T := fun b => b = B + 1) (p := ⟨B + 1, k, none⟩) w2 (.int .i64 z) rfl
        refine ⟨?_, hb3.trans (T3.below (by have := hb2.size; omega) (fun b e => by omega)), T3.heap hzero (by omega)⟩
        rw [heap_set1 hout k (.int .i64 z), HKZ.out])
      clear hb2 T2 hout hzero H HN hcell
      go_wp2_with fail
      go_roundg (2 - (k + 1))
      case measure => omega
      case rel => exact ⟨k + 1, rfl, by omega, by go_num, HST⟩
    · obtain rfl : k = 2 := by omega
      have hout : wr.heap[B + 1]? = some (.cells #[.int .i64 x, .int .i64 y] 149 (0, 0)) := H.out.1
      have hzero := H.out.2.2
      have HB := Lib.hid H.out.2.1
      have hsz : B < wr.heap.size := by have := (Array.getElem?_eq_some_iff.1 hout).1; omega
      clear H
      go_wp2_with (first | (refine wpList_load_row rfl 149 _ rfl (B + 1) rfl _ #[.int .i64 x, .int .i64 y] (0, 0) _ hout Tryz.underlying149 rfl (size_two _ _) ?_) | (refine wpList_store_row rfl 149 _ _ rfl B #[.int .i64 x, .int .i64 y] rfl rfl _ _ hzero (size_two _ _) rfl (one_two _ _) ?_))
      have hfin := setRow_heap wr B _ #[.int .i64 x, .int .i64 y] 149 (0, 0) hzero
      have hbf : Below B w (wr.setRow B #[.int .i64 x, .int .i64 y]) := HB.out.trans ((turn_setRow wr B _).below (by omega) (fun j e => by rw [e]; exact Nat.le_refl _))
      refine bodyPost_ret (res_cell_tmp rfl _ _ B 149 _ (0, 0) _ rfl hfin Tryz.underlying149 rfl (size_two _ _)) rfl ?_
      exact ⟨rfl, by rw [HBB.out]; exact hbf⟩

def figs : ByteArray := ⟨#[48, 49, 50, 51, 52, 53, 54, 55, 56, 57, 97, 98, 99, 100, 101, 102]⟩
/-- the bytes of a word of figures -/
def HexOf (s : ByteArray) (rs : List Int) : Prop := s.size = 2 * rs.length ∧ ∀ i r, rs[i]? = some r → ∃ (a b : UInt8) (x y : Int), s.data.toList[2 * i]? = some a ∧ s.data.toList[2 * i + 1]? = some b ∧ Lib.indexByte figs.data.toList a = x ∧ Lib.indexByte figs.data.toList b = y ∧ 0 ≤ x ∧ x ≤ 15 ∧ 0 ≤ y ∧ y ≤ 15 ∧ bits .or .i64 (x * 16) y % 256 = r
theorem info_byte : (Tryz.prog.info? 5).map (fun i => (i.zero, i.size, i.bytes)) = some (some (.int .u8 0), 1, 1) := by kernel_rfl
set_option maxRecDepth 100000 in
set_option maxHeartbeats 8000000 in
theorem raw_any (s : ByteArray) (rs : List Int) (m : Nat) (w : World) (h : HexOf s rs) (hm : rs.length = m) (hm1 : 1 ≤ m) (hs : s.size ≤ 100000) :
    Calls Tryz.prog 206 #[.string s] w fun e w' => ∃ v, e = .returned (.tuple #[v, .bool true]) ∧ w'.ownsRow w.heap.size 5 1 v m (rs.map (Value.int .u8)) ∧ Below w.heap.size w w' := by
  have hmx : Tryz.prog.follows .mixedOrders = true := by kernel_rfl
  obtain ⟨i0, hi, hz0, hz1, hz2⟩ := info_parts info_byte
  obtain ⟨n, hn⟩ : ∃ n, s.size = n := ⟨_, rfl⟩
  have HH := Lib.hid h
  have HM := Lib.hid hm
  have hnm := h.1
  rw [hm, hn] at hnm
  have HNM := Lib.hid hnm
  have HS := Lib.hid hs
  have hn0 : ((n : Int) == 0) = false := by rw [beq_eq_false_iff_ne]; omega
  have hr2 : Int.tmod (n : Int) 2 = 0 := by rw [Int.tmod_eq_emod_of_nonneg (by omega)]; omega
  have hnd : (s.toList == [45]) = false := by
    apply eq_false_of
    rw [ByteArray.toList_eq]
    intro e
    have := congrArg List.length e
    simp at this
    omega
  have HIX := Lib.hid (fun (c : Int) (w : World) => (sIdxByte figs c w).mono (fun e w' (h : _ ∧ _) => And.intro h.1 h.2.symm))
  unfold figs at HIX
  have hmb : m ≤ 50000 := by omega
  clear h hm hnm
  go_enter Tryz.func206, Tryz.ntmps206
  go_wp2_with fail
  clear hn0 hr2 hnd
  go_loopg [2, 3, 4, 5, 6, 7] m (fun gg v2 v3 v4 v5 v6 v7 wx => ∃ (k : Nat) (v : Value), m - k = gg ∧ k ≤ m ∧ v5 = .int .i64 ((2 * k : Nat) : Int) ∧ v4 = v ∧ Hid (wx.ownsRow w.heap.size 5 1 v k ((rs.take k).map (Value.int .u8)) ∧ Below w.heap.size w wx))
  case atStart => exact ⟨0, _, rfl, Nat.zero_le _, rfl, rfl, Lib.hid ⟨World.ownsRow_nil _ _ _ _, Below.refl _ _⟩⟩
  case round =>
    obtain ⟨k, v, rfl, hk, rfl, rfl, H⟩ := hrel
    obtain ⟨hown, hbw⟩ := H.out
    obtain ⟨av, cv, rfl⟩ := Turn.own_slice hown
    by_cases hlt : k < m
    · obtain ⟨i, hi2⟩ : ∃ i, 2 * k = i := ⟨_, rfl⟩
      have hnm := HNM.out
      have hlt' : (i : Int) < (n : Int) := by omega
      have his : i < s.size := by omega
      have his' : (i : Int) < (s.size : Int) := by omega
      obtain ⟨j, hj⟩ : ∃ j, i + 1 = j := ⟨_, rfl⟩
      have hjs : j < s.size := by omega
      have hjs' : (j : Int) < (s.size : Int) := by omega
      have hwj : IntKind.i64.wrap ((i : Int) + 1) = (j : Int) := by rw [IntKind.wrap_i64]; omega
      obtain ⟨r, hr⟩ : ∃ r, rs[k]? = some r := ⟨_, List.getElem?_eq_getElem (by rw [HM.out]; exact hlt)⟩
      obtain ⟨a, b, x, y, ha, hb, hx, hy, x0, x1, y0, y1, hrr⟩ := HH.out.2 k r hr
      rw [hi2] at ha hb
      rw [hj] at hb
      have ea : s[i] = a := by
        rw [List.getElem?_eq_getElem (by simp; omega)] at ha
        exact Option.some.inj ha
      have eb : s[j] = b := by
        rw [List.getElem?_eq_getElem (by simp; omega)] at hb
        exact Option.some.inj hb
      have HA := Lib.hid (HIX.out (a.toNat : Int))
      have HB := Lib.hid (HIX.out (b.toNat : Int))
      have qa : Lib.indexByte figs.data.toList (a.toNat : Int).toNat.toUInt8 = x := by rw [← hx]; simp
      have qb : Lib.indexByte figs.data.toList (b.toNat : Int).toNat.toUInt8 = y := by rw [← hy]; simp
      unfold figs at qa qb
      rw [qa] at HA
      rw [qb] at HB
      have hx0 : decide (x < 0) = false := decide_eq_false (by omega)
      have hy0 : decide (y < 0) = false := decide_eq_false (by omega)
      have HRR := Lib.hid hrr
      have HR := Lib.hid hr
      have HI2 := Lib.hid hi2
      have HJ := Lib.hid hj
      clear hnm ha hb hx hy qa qb hrr hr hi2 hj H
      rw [HI2.out]
      go_wp2_with fail
      go_quiet ((first | (go_at_call 251; exact Calls.quiet_of_same (HA.out _)) | (go_at_call 251; exact Calls.quiet_of_same (HB.out _))))
      have HOWN := Lib.hid hown
      have HBW := Lib.hid hbw
      clear hown hbw
      have hown1 := (Turn.of_new (bdrew wr nq) : Turn (fun _ => False) wr (wr.drewN nq)).kept HOWN.out (fun _ _ => id)
      have hbw1 : Below w.heap.size w (wr.drewN nq) := HBW.out.trans ((bdrew wr nq).mono HBW.out.size)
      have HO1 := Lib.hid hown1
      have HB1 := Lib.hid hbw1
      clear hown1 hbw1 HOWN HBW
      generalize wr.drewN nq = w2 at *
      go_wp2_with (at_builtin; refine wpList_append_own _ rfl _ _ 28 rfl w.heap.size 5 i0 _ 1 1 Tryz.underlying28 hi hz0 hz1 hz2 rfl (by decide) _ k _ rfl (HO1.out.alloc _) ⟨w2.heap.size, 0, none⟩ 1 1 [.int .u8 (bits .or .i64 (x * 16) y % 256)] rfl rfl (cell_new1 _ _ _) (by simp [Value.oneCell']) (by unfold maxLen; omega) (by omega) (by have := HB1.out.size; simp; omega) ?_; intro v2 w3 hown2 hgrow2 _)
      have HO2 : Hid (w3.ownsRow w.heap.size 5 1 v2 (k + 1) ((rs.take (k + 1)).map (Value.int .u8)) ∧ Below w.heap.size w w3) := Lib.hid (by
        refine ⟨?_, (HB1.out.alloc HB1.out.size _).grown hgrow2 (by have := HB1.out.size; simp; omega) (fun g e => (HO1.out.lt g e).1)⟩
        rw [List.take_add_one, HR.out, List.map_append]
        have e2 : (List.map (Value.int IntKind.u8) (some r : Option Int).toList) = [.int .u8 (bits .or .i64 (x * 16) y % 256)] := by rw [HRR.out]; rfl
        rw [e2]
        exact hown2)
      have hwi : IntKind.i64.wrap ((i : Int) + 2) = ((2 * (k + 1) : Nat) : Int) := by have := HI2.out; rw [IntKind.wrap_i64]; omega
      clear hown2 hgrow2
      go_wp2_with fail
      go_roundg (m - (k + 1))
      case measure => omega
      case rel => exact ⟨k + 1, v2, rfl, by omega, by have := HI2.out; go_num, rfl, HO2⟩
    · obtain rfl : k = m := by omega
      have HF : Hid (wr.ownsRow w.heap.size 5 1 (.slice av k cv) k (rs.map (Value.int .u8)) ∧ Below w.heap.size w wr) := Lib.hid ⟨by rw [List.take_of_length_le (by rw [HM.out]; exact Nat.le_refl _)] at hown; exact hown, hbw⟩
      clear hown hbw H
      have hge : ¬ ((2 * k : Nat) : Int) < (n : Int) := by have := HNM.out; omega
      generalize 2 * k = i at *
      go_wp2_with fail
      go_ret2
      exact ⟨_, rfl, HF.out.1, HF.out.2⟩
end Go.Proofs.YtjicdcmdgbcdcaaGreatDoor.Scr
end
section
namespace Go.Proofs.YtjicdcmdgbcdcaaGreatDoor.Scr
set_option linter.unusedSimpArgs false
set_option linter.unusedVariables false
open Go Go.RowKit Mem Turn Ring

theorem take_map_snoc {t : List Int} {k : Nat} (hk : k < t.length) (f : Int → Int) : ((t.take (k + 1)).map f) = (t.take k).map f ++ [f (t.getD k 0)] := by
  rw [List.take_add_one, List.map_append, List.getElem?_eq_getElem hk, List.getD_eq_getElem?_getD, List.getElem?_eq_getElem hk]
  rfl

set_option maxRecDepth 100000 in
set_option maxHeartbeats 8000000 in
theorem replace_any (D : Nat → Prop) (fz : Prop) (a : Option Addr) (n c : Nat) (t : List Int) (w : World) (h : TextAt D fz w (.slice a n c) t) :
    Calls Tryz.prog 290 #[.slice a n c] w fun e w' => ∃ v', e = .returned v' ∧ OwnTxt w w' v' (t.map fixR) ∧ Below w.heap.size w w' := by
  obtain ⟨i0, hi, hz0, hz1, hz2⟩ := info_parts info_rune
  have hln : t.length = n := by obtain ⟨a', c', e, _⟩ := h; injection e with _ e _; exact e.symm
  have H4 : Hid (t.length * 4 ≤ 140737488355328) := Lib.hid (by obtain ⟨_, _, _, _, e, _⟩ := h; exact e)
  have HN := Lib.hid hln
  have hm : n ≤ 35184372088832 := by have := H4.out; omega
  have HRD : Hid (∀ W, Below w.heap.size w W → Rd W a t) := Lib.hid fun W hb => rd_of (h.below hb)
  obtain ⟨w1, q, ho, hg⟩ := run_make_own (P := Tryz.prog) w w.heap.size 55 21 i0 _ 1 Tryz.underlying55 hi hz0 hz1 .i64 .i64 n (by rw [hz2]; omega) (by unfold maxLen; omega) (Nat.le_refl _)
  have HO := Lib.hid ho
  have HB1 : Hid (Below w.heap.size w w1) := Lib.hid ((Below.refl _ _).grown hg (Nat.le_refl _) (fun k e => by cases e))
  clear h hln ho hg
  go_enter Tryz.func290, Tryz.ntmps290
  go_wp2_with fail
  go_loopg [3, 5, 11] n (fun gg v3 v5 i wx => ∃ k : Nat, n - k = gg ∧ k ≤ n ∧ i = .int .i64 k ∧ Hid (wx.ownsRow w.heap.size 21 1 v3 k (((t.take k).map fixR).map (Value.int .i32)) ∧ Below w.heap.size w wx))
  case atStart => exact ⟨0, rfl, Nat.zero_le _, rfl, Lib.hid ⟨by simpa using HO.out, HB1.out⟩⟩
  case round =>
    obtain ⟨k, rfl, hk, rfl, H⟩ := hrel
    obtain ⟨av, cv, hav⟩ := Turn.own_slice H.out.1
    subst hav
    by_cases hlt : k < n
    · obtain ⟨b, off, rfl, hc⟩ := HRD.out wr H.out.2 k (by rw [HN.out]; exact hlt)
      have hlt' : (k : Int) < (n : Int) := by omega
      have HTK := Lib.hid (take_map_snoc (t := t) (k := k) (by rw [HN.out]; exact hlt) fixR)
      generalize hr : t.getD k 0 = r at *
      have HV := Lib.hid (valid_any r wr)
      have HFX := Lib.hid (show fixR r = if validB r then r else 65533 from rfl)
      clear hr
      cases hb : validB r
      all_goals
        rw [hb] at HV HFX
        clear hb
        go_wp2_with fail
        refine HV.out.mono ?_
        rintro e w2 ⟨rfl, rfl⟩
        go_wp2_with (at_builtin; (refine wpList_append_own _ rfl _ _ 55 rfl w.heap.size 21 i0 _ 1 4 Tryz.underlying55 hi hz0 hz1 hz2 rfl (by decide) (.slice av k cv) k _ rfl (H.out.1.alloc _) ⟨wr.heap.size, 0, none⟩ 1 1 [_] rfl rfl (cell_new1 _ _ _) (by simp [Value.oneCell']) (by unfold maxLen; omega) (by omega) (by have := H.out.2.size; simp; omega) ?_; intro v5 w5 hown5 hgrow5 _))
        have HR : Hid (w5.ownsRow w.heap.size 21 1 v5 (k + 1) (((t.take (k + 1)).map fixR).map (Value.int .i32)) ∧ Below w.heap.size w w5) := Lib.hid (by
          refine ⟨?_, Below.grown (H.out.2.alloc H.out.2.size _) hgrow5 (by have := H.out.2.size; simp; omega) (fun g e => (H.out.1.lt g e).1)⟩
          rw [HTK.out, HFX.out]
          simpa using hown5)
        clear hown5 hgrow5
        go_roundg (n - (k + 1))
        case measure => omega
        case rel => exact ⟨k + 1, rfl, by omega, by go_num, HR⟩
    · obtain rfl : k = n := by omega
      have HF : Hid (OwnTxt w wr (.slice av k cv) (t.map fixR) ∧ Below w.heap.size w wr) := Lib.hid (by
        have h1 := H.out.1
        rw [List.take_of_length_le (by rw [HN.out]; exact Nat.le_refl _)] at h1
        refine ⟨⟨by rw [List.length_map, HN.out]; exact h1, by rw [List.length_map]; exact H4.out⟩, H.out.2⟩)
      go_wp2_with fail
      go_ret
      exact ⟨_, rfl, HF.out.1, HF.out.2⟩

theorem text_take {D : Nat → Prop} {fz : Prop} {w : World} {a : Option Addr} {n c : Nat} {t : List Int} (h : TextAt D fz w (.slice a n c) t) (m : Nat) (hm : m ≤ n) : TextAt D fz w (.slice a m c) (t.take m) := by
  obtain ⟨a', c', e, h2, h3, h4⟩ := h
  injection e with e1 e2 e3
  subst e1 e2 e3
  have hl : (t.take m).length = m := by rw [List.length_take]; omega
  refine ⟨a, c, by rw [hl], by rw [hl]; omega, by rw [hl]; omega, ?_⟩
  rcases h4 with h4 | ⟨b, off, e, hb, hd, hc⟩
  · exact .inl (by rw [hl]; omega)
  · refine .inr ⟨b, off, e, hb, hd, fun j x hx => hc j x ?_⟩
    rw [List.getElem?_take] at hx
    split at hx
    · exact hx
    · cases hx

theorem of_nil1 (w : World) (wide : Int) (h : wide < 2) (a : Option Addr) (c : Nat) :
    Calls Tryz.prog 235 #[.int .i64 wide, .slice a 0 c] w fun e w' => ∃ v, e = .returned v ∧ CellsAt (fun b => w.heap.size ≤ b) False w' v [blank] ∧ Below w.heap.size w w' := by
  have HF : Hid (CellsAt (fun b => w.heap.size ≤ b) False (w.alloc (.cells #[.int .i64 0, .slice none 0 0] 80)) (.slice (some ⟨w.heap.size, 0, none⟩) 1 1) [blank] ∧ Below w.heap.size w (w.alloc (.cells #[.int .i64 0, .slice none 0 0] 80))) :=
    Lib.hid ⟨(blanks_at w 1 (by omega)).mono (fun b hb _ => by omega), (Below.refl _ _).alloc (Nat.le_refl _) _⟩
  go_enter Tryz.func235, Tryz.ntmps235
  go_wp2_with fail
  go_ret
  exact ⟨_, rfl, HF.out.1, HF.out.2⟩

set_option maxRecDepth 100000 in
set_option maxHeartbeats 8000000 in
theorem of_one (D : Nat → Prop) (fz : Prop) (w : World) (wide : Int) (h : wide < 2) (a : Option Addr) (n c : Nat) (t : List Int) (hn : 0 < n) (ht : TextAt D fz w (.slice a n c) t) :
    Calls Tryz.prog 235 #[.int .i64 wide, .slice a n c] w fun e w' => ∃ v, e = .returned v ∧ CellsAt (fun b => w.heap.size ≤ b) False w' v [(1, (t.take 16).map fixR)] ∧ Below w.heap.size w w' := by
  obtain ⟨m, hm⟩ : ∃ m, m = min n 16 := ⟨_, rfl⟩
  have hnc : n ≤ c := by obtain ⟨a', c', e, h2, _⟩ := id ht; injection e with _ e1 e2; subst e1 e2; exact h2
  have hln : t.length = n := by obtain ⟨a', c', e, _⟩ := id ht; injection e with _ e _; exact e.symm
  have h64 : n ≤ 35184372088832 := by obtain ⟨_, _, _, _, e, _⟩ := id ht; omega
  have et : t.take m = t.take 16 := by
    subst hm
    by_cases h16 : n ≤ 16
    · rw [Nat.min_eq_left h16, List.take_of_length_le (by omega), List.take_of_length_le (by omega)]
    · rw [Nat.min_eq_right (by omega)]
  have e1 := heap_alloc_new w (.cells #[.int .i64 0, .slice none 0 0] 80)
  have hb1 : Below w.heap.size w (w.alloc (.cells #[.int .i64 0, .slice none 0 0] 80)) := (Below.refl _ _).alloc (Nat.le_refl _) _
  have hsz : (w.alloc (.cells #[.int .i64 0, .slice none 0 0] 80)).heap.size = w.heap.size + 1 := by simp
  have hmn : m ≤ n := by omega
  have HR := Lib.hid (replace_any D fz a m c (t.take 16) (w.alloc (.cells #[.int .i64 0, .slice none 0 0] 80)) (by rw [← et]; exact (text_take ht m hmn).below hb1))
  have hn' : ¬ n = 0 := by omega
  have hmi : (m : Int) = min (n : Int) 16 := by omega
  have HM := Lib.hid hmi
  have z0 : ((n : Int) == 0) = false := beq_eq_false_iff_ne.2 (by omega)
  have HT16 : Hid (((t.take 16).map fixR).length ≤ 16) := Lib.hid (by rw [List.length_map, List.length_take]; omega)
  generalize hT : (t.take 16).map fixR = T at *
  have hmc : (m : Int) ≤ (c : Int) := by omega
  clear hm hmi et ht hT hn'
  go_enter Tryz.func235, Tryz.ntmps235
  go_upto_region 6 with fail
  generalize (w.alloc (.cells #[.int .i64 0, .slice none 0 0] 80)) = w1 at *
  have q0 : w1.cell? ⟨w.heap.size, 0, none⟩ = some (.int .i64 0) := by simp [World.cell?, e1]
  have q1 : w1.cell? ⟨w.heap.size, 1, none⟩ = some (.slice none 0 0) := by simp [World.cell?, e1]
  have HE := Lib.hid e1
  have HB1 := Lib.hid hb1
  have HSZ := Lib.hid hsz
  clear e1 hb1 hsz
  have FIN : Hid (∀ w2 v', Below w1.heap.size w1 w2 → OwnTxt w1 w2 v' T → (w2.cell? ⟨w.heap.size, 0, none⟩ = some (.int .i64 0) ∧ w2.cell? ⟨w.heap.size, 1, none⟩ = some (.slice none 0 0) ∧ w2.frozen? ⟨w.heap.size, 0, none⟩ = false ∧ w2.frozen? ⟨w.heap.size, 1, none⟩ = false) ∧
      CellsAt (fun b => w.heap.size ≤ b) False ((w2.setCell ⟨w.heap.size, 0, none⟩ (.int .i64 1)).setCell ⟨w.heap.size, 1, none⟩ v') (.slice (some ⟨w.heap.size, 0, none⟩) 1 1) [(1, T)] ∧ Below w.heap.size w ((w2.setCell ⟨w.heap.size, 0, none⟩ (.int .i64 1)).setCell ⟨w.heap.size, 1, none⟩ v')) := Lib.hid fun w2 v' hb ho => by
    have h2 : w2.heap[w.heap.size]? = some (.cells #[.int .i64 0, .slice none 0 0] 80 (0, 0)) := (hb.block _ (by have := HSZ.out; omega)).trans HE.out
    refine ⟨⟨by simp [World.cell?, h2], by simp [World.cell?, h2], by simp [World.frozen?, h2], by simp [World.frozen?, h2]⟩, ?_⟩
    have T2 := putW_turn w2 w.heap.size 0 1 v'
    have hw : (w2.setCell ⟨w.heap.size, 0, none⟩ (.int .i64 1)).setCell ⟨w.heap.size, 1, none⟩ v' = putW w2 w.heap.size 0 1 v' := by simp [putW]
    rw [hw]
    have hi : CellsIn w2 w.heap.size [blank] := ⟨[(0, .slice none 0 0)], h2, txts_blanks w2 1⟩
    have hc := hi.put (i := 0) (k := 1) (by simp) ho.txt
    refine ⟨?_, (HB1.out.trans (hb.mono HB1.out.size)).trans (T2.below (by have := hb.size; have := HSZ.out; omega) (fun j e => by omega))⟩
    obtain ⟨u, g1, g2, g3, _⟩ := hc.cell (i := 0) (by simp)
    have hh := heap_set1 (cs := [.int .i64 0, .slice none 0 0]) h2 0 (.int .i64 1)
    have hh := heap_set1 hh 1 v'
    rw [hw] at hh
    refine ⟨_, 1, rfl, by simp, by simp, .inr ⟨w.heap.size, 0, rfl, hc.typ.lt, Nat.le_refl _, fun j x hx => ?_⟩⟩
    have hj : j = 0 := by have := (List.getElem?_eq_some_iff.1 hx).1; simp at this; exact this
    subst hj
    simp at hx
    subst hx
    refine ⟨by simp [World.cell?, hh], fun f => f.elim, v', by simp [World.cell?, hh], ?_⟩
    have ht2 : TextAt (fun b => w1.heap.size ≤ b) False (putW w2 w.heap.size 0 1 v') v' T := by
      have h9 : TextAt (fun b => w1.heap.size ≤ b) True w2 v' T := text_of_own ho.1 (fun g hg => (ho.1.lt g hg).1) ho.2
      exact TextAt.turn h9.soft T2 (fun b hb2 _ e => by have := HSZ.out; omega)
    exact ht2.mono (fun b hb2 _ => by have := HSZ.out; omega)
  rcases Nat.lt_or_ge 16 n with h16 | h16
  · obtain rfl : m = 16 := by have := HM.out; omega
    have y1 : (16 : Int) < (n : Int) := by omega
    go_wp2_with fail
    refine HR.out.mono ?_
    rintro e w2 ⟨v', rfl, ho, hb⟩
    obtain ⟨⟨x0, x1, y0, y1⟩, hf⟩ := FIN.out w2 v' hb ho
    obtain ⟨a', c', rfl⟩ := Turn.own_slice ho.1
    have HF := Lib.hid hf
    clear hf ho hb q0 q1
    go_wp2_with fail
    go_ret
    exact ⟨_, rfl, HF.out.1, HF.out.2⟩
  · obtain rfl : m = n := by have := HM.out; omega
    have y1 : (m : Int) ≤ 16 := by omega
    go_wp2_with fail
    refine HR.out.mono ?_
    rintro e w2 ⟨v', rfl, ho, hb⟩
    obtain ⟨⟨x0, x1, y0, y1⟩, hf⟩ := FIN.out w2 v' hb ho
    obtain ⟨a', c', rfl⟩ := Turn.own_slice ho.1
    have HF := Lib.hid hf
    clear hf ho hb q0 q1
    go_wp2_with fail
    go_ret
    exact ⟨_, rfl, HF.out.1, HF.out.2⟩

set_option maxRecDepth 100000 in
set_option maxHeartbeats 8000000 in
theorem of_two (D : Nat → Prop) (fz : Prop) (w : World) (wide : Int) (h : 2 ≤ wide) (a : Option Addr) (n c : Nat) (t : List Int) (hn : 0 < n) (ht : TextAt D fz w (.slice a n c) t) :
    Calls Tryz.prog 235 #[.int .i64 wide, .slice a n c] w fun e w' => ∃ v, e = .returned v ∧ CellsAt (fun b => w.heap.size ≤ b) False w' v [(2, (t.take 16).map fixR), (3, [])] ∧ Below w.heap.size w w' := by
  obtain ⟨ic, hic, hc0, hc1, hc2⟩ := info_parts info_cell
  obtain ⟨m, hm⟩ : ∃ m, m = min n 16 := ⟨_, rfl⟩
  have hnc : n ≤ c := by obtain ⟨a', c', e, h2, _⟩ := id ht; injection e with _ e1 e2; subst e1 e2; exact h2
  have hln : t.length = n := by obtain ⟨a', c', e, _⟩ := id ht; injection e with _ e _; exact e.symm
  have h64 : n ≤ 35184372088832 := by obtain ⟨_, _, _, _, e, _⟩ := id ht; omega
  have et : t.take m = t.take 16 := by
    subst hm
    by_cases h16 : n ≤ 16
    · rw [Nat.min_eq_left h16, List.take_of_length_le (by omega), List.take_of_length_le (by omega)]
    · rw [Nat.min_eq_right (by omega)]
  have hmn : m ≤ n := by omega
  have HR : Hid (∀ W, Below w.heap.size w W → Calls Tryz.prog 290 #[.slice a m c] W fun e w' => ∃ v', e = .returned v' ∧ OwnTxt W w' v' ((t.take 16).map fixR) ∧ Below W.heap.size W w') := Lib.hid fun W hb => replace_any D fz a m c (t.take 16) W (by rw [← et]; exact (text_take ht m hmn).below hb)
  have hmi : (m : Int) = min (n : Int) 16 := by omega
  have HM := Lib.hid hmi
  have z0 : ((n : Int) == 0) = false := beq_eq_false_iff_ne.2 (by omega)
  generalize hT : (t.take 16).map fixR = T at *
  have hmc : (m : Int) ≤ (c : Int) := by omega
  have ho1 : (w.alloc (.cells #[.int .i64 0, .slice none 0 0] 80)).ownsRow w.heap.size 80 2 (.slice (some ⟨w.heap.size, 0, none⟩) 1 1) 1 [.int .i64 0, .slice none 0 0] := World.ownsRow_lit w _ 1 (Nat.le_refl _) (by unfold maxLen; omega) rfl
  have HO1 := Lib.hid ho1
  clear hm hmi et ht hT ho1
  go_enter Tryz.func235, Tryz.ntmps235
  go_upto_region 3 with fail
  have HS1 : Hid ((w.alloc (.cells #[.int .i64 0, .slice none 0 0] 80)).heap.size = w.heap.size + 1) := Lib.hid (by simp)
  have HB1 : Hid (Below w.heap.size w (w.alloc (.cells #[.int .i64 0, .slice none 0 0] 80))) := Lib.hid ((Below.refl _ _).alloc (Nat.le_refl _) _)
  generalize (w.alloc (.cells #[.int .i64 0, .slice none 0 0] 80)) = w1 at *
  go_upto_region 6 with (at_builtin; (refine wpList_append_own _ rfl _ _ 43 rfl w.heap.size 80 ic _ 2 32 Tryz.underlying43 hic hc0 hc1 hc2 rfl (by decide) (.slice (some ⟨w.heap.size, 0, none⟩) 1 1) 1 _ rfl (HO1.out.alloc _) ⟨w1.heap.size, 0, none⟩ 1 1 [.int .i64 0, .slice none 0 0] rfl rfl (cell_new2 _ _ _ _) (by intro u hu; simp at hu; rcases hu with rfl | rfl <;> rfl) (by unfold maxLen; omega) (by omega) (by have := HS1.out; simp; omega) ?_; intro v5 w5 hown5 hgrow5 _))
  have hb5 : Below w.heap.size w w5 := Below.grown (HB1.out.alloc HB1.out.size _) hgrow5 (by have := HS1.out; simp; omega) (fun k e => by injection (show some w.heap.size = some k from e) with e; omega)
  obtain ⟨g, cap, cur, rfl, hgb, hg, hnc2, -, -, htk⟩ := hown5.2.resolve_left (fun e => by cases e.2)
  obtain ⟨rest, hrest⟩ : ∃ rest, cur.toList = [Value.int .i64 0, .slice none 0 0, .int .i64 0, .slice none 0 0] ++ rest := ⟨cur.toList.drop 4, by
    have h4 := (List.take_append_drop 4 cur.toList).symm
    rw [show List.take 4 cur.toList = [Value.int .i64 0, .slice none 0 0, .int .i64 0, .slice none 0 0] from htk] at h4
    exact h4⟩
  have hg' : w5.heap[g]? = some (.cells ([Value.int .i64 0, .slice none 0 0, .int .i64 0, .slice none 0 0] ++ rest).toArray 80 (0, 0)) := by rw [hg, ← hrest]
  have hgl : g < w5.heap.size := (Array.getElem?_eq_some_iff.1 hg).1
  have HB5 := Lib.hid hb5
  have HGB := Lib.hid hgb
  have FIN : Hid (∀ w6 v', Below w5.heap.size w5 w6 → OwnTxt w5 w6 v' T → (w6.cell? ⟨g, 0, none⟩ = some (.int .i64 0) ∧ w6.cell? ⟨g, 1, none⟩ = some (.slice none 0 0) ∧ w6.cell? ⟨g, 2, none⟩ = some (.int .i64 0) ∧ w6.frozen? ⟨g, 0, none⟩ = false ∧ w6.frozen? ⟨g, 1, none⟩ = false ∧ w6.frozen? ⟨g, 2, none⟩ = false) ∧
      ∀ W, W = (((w6.setCell ⟨g, 0, none⟩ (.int .i64 1)).setCell ⟨g, 1, none⟩ v').setCell ⟨g, 0, none⟩ (.int .i64 2)).setCell ⟨g, 2, none⟩ (.int .i64 3) →
      CellsAt (fun b => w.heap.size ≤ b) False W (.slice (some ⟨g, 0, none⟩) 2 cap) [(2, T), (3, [])] ∧ Below w.heap.size w W) := Lib.hid fun w6 v' hb ho => by
    have h6 := (hb.block _ hgl).trans hg'
    refine ⟨⟨by simp [World.cell?, h6], by simp [World.cell?, h6], by simp [World.cell?, h6], by simp [World.frozen?, h6], by simp [World.frozen?, h6], by simp [World.frozen?, h6]⟩, ?_⟩
    rintro W rfl
    have hh := heap_set1 (heap_set1 (heap_set1 (heap_set1 h6 0 (.int .i64 1)) 1 v') 0 (.int .i64 2)) 2 (.int .i64 3)
    have TW : Turn (fun b => b = g) w6 ((((w6.setCell ⟨g, 0, none⟩ (.int .i64 1)).setCell ⟨g, 1, none⟩ v').setCell ⟨g, 0, none⟩ (.int .i64 2)).setCell ⟨g, 2, none⟩ (.int .i64 3)) :=
      (((Turn.setCell (T := fun b => b = g) (p := ⟨g, 0, none⟩) w6 _ rfl).trans (Turn.setCell (T := fun b => b = g) (p := ⟨g, 1, none⟩) _ v' rfl)).trans (Turn.setCell (T := fun b => b = g) (p := ⟨g, 0, none⟩) _ _ rfl)).trans (Turn.setCell (T := fun b => b = g) (p := ⟨g, 2, none⟩) _ _ rfl)
    generalize ((((w6.setCell ⟨g, 0, none⟩ (.int .i64 1)).setCell ⟨g, 1, none⟩ v').setCell ⟨g, 0, none⟩ (.int .i64 2)).setCell ⟨g, 2, none⟩ (.int .i64 3)) = W at *
    have ht2 : TextAt (fun b => w5.heap.size ≤ b) False W v' T := TextAt.turn (text_of_own ho.1 (fun g hg => (ho.1.lt g hg).1) ho.2).soft TW (fun b hb2 _ e => by omega)
    refine ⟨⟨_, cap, rfl, by simpa using hnc2, by simp, .inr ⟨g, 0, rfl, (Array.getElem?_eq_some_iff.1 hh).1, HGB.out, fun j x hx => ?_⟩⟩, (HB5.out.trans (hb.mono HB5.out.size)).trans (TW.below (by have := HB5.out.size; have := hb.size; omega) (fun j e => by have := HGB.out; omega))⟩
    match j, hx with
    | 0, hx =>
      simp at hx
      subst hx
      exact ⟨by simp [World.cell?, hh], fun f => f.elim, v', by simp [World.cell?, hh], ht2.mono (fun b hb2 _ => by have := HB5.out.size; omega)⟩
    | 1, hx =>
      simp at hx
      subst hx
      exact ⟨by simp [World.cell?, hh], fun f => f.elim, .slice none 0 0, by simp [World.cell?, hh], TextAt.nil _ _ _⟩
  clear hown5 hgrow5 hb5 hgb hg hnc2 htk hrest hg' hgl HO1 HS1 HB1
  have HRW := Lib.hid (HR.out w5 HB5.out)
  clear HR
  rcases Nat.lt_or_ge 16 n with h16 | h16
  · obtain rfl : m = 16 := by have := HM.out; omega
    have y1 : (16 : Int) < (n : Int) := by omega
    go_wp2_with fail
    refine HRW.out.mono ?_
    rintro e w6 ⟨v', rfl, ho, hb⟩
    obtain ⟨⟨x0, x1, x2, y0, y1, y2⟩, hf⟩ := FIN.out w6 v' hb ho
    obtain ⟨a', c', rfl⟩ := Turn.own_slice ho.1
    have HF := Lib.hid hf
    clear hf ho hb
    go_wp2_with fail
    go_ret
    exact ⟨_, rfl, (HF.out _ rfl).1, (HF.out _ rfl).2⟩
  · obtain rfl : m = n := by have := HM.out; omega
    have y1 : (m : Int) ≤ 16 := by omega
    go_wp2_with fail
    refine HRW.out.mono ?_
    rintro e w6 ⟨v', rfl, ho, hb⟩
    obtain ⟨⟨x0, x1, x2, y0, y1, y2⟩, hf⟩ := FIN.out w6 v' hb ho
    obtain ⟨a', c', rfl⟩ := Turn.own_slice ho.1
    have HF := Lib.hid hf
    clear hf ho hb
    go_wp2_with fail
    go_ret
    exact ⟨_, rfl, (HF.out _ rfl).1, (HF.out _ rfl).2⟩
end Go.Proofs.YtjicdcmdgbcdcaaGreatDoor.Scr
end

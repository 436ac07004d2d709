/-
  linotyperef23.Sound at sound cells.
  linotypetop.plays.
-/
import Derived.Test.YtjicdcmdgbcdcaaGreatDoorSd2
import Derived.Test.YtjicdcmdgbcdcaaGreatDoorSd49

section
namespace Go.Proofs.YtjicdcmdgbcdcaaGreatDoor.Scr
set_option linter.unusedSimpArgs false
set_option linter.unusedVariables false
open Go Go.RowKit Mem Turn Ring

set_option maxRecDepth 100000 in
set_option maxHeartbeats 4000000 in
theorem valid23 (r : Int) (w : World) (h : validB r = true) : Calls Tryz.prog 82 #[.int .i32 r] w fun e w' => e = .returned (.bool true) ∧ w = w' := by
  unfold validB at h
  simp only [Bool.or_eq_true, Bool.and_eq_true, decide_eq_true_eq] at h
  have h1 : 0 ≤ r := by omega
  have h2 : r ≤ 1114111 := by omega
  by_cases h3 : r < 55296
  · clear h
    go_enter Tryz.func82, Tryz.ntmps82
    go_wp2_with fail
    go_ret
    exact ⟨rfl, rfl⟩
  · have h4 : 57343 < r := by omega
    have h5 : decide (r < 55296) = false := decide_eq_false h3
    clear h h3
    go_enter Tryz.func82, Tryz.ntmps82
    go_wp2_with fail
    go_ret
    exact ⟨rfl, rfl⟩

set_option maxRecDepth 100000 in
set_option maxHeartbeats 8000000 in
theorem right23 (k : Int) (tv : Value) (t : List Int) (w : World) (h : TextAt (fun _ => True) False w tv t) (hr : rightB (k, t) = true) : Calls Tryz.prog 41 #[.agg #[.int .i64 k, tv]] w fun e w' => e = .returned (.bool true) ∧ Below w.heap.size w w' := by
  obtain ⟨a, c, rfl, hc, h4, hcell⟩ := id h
  have hb1 : Below w.heap.size w (w.alloc (.cells #[.int .i64 k, .slice a t.length c] 80)) := (Below.refl _ _).alloc (Nat.le_refl _) _
  have HB1 := Lib.hid hb1
  have HX1 := Lib.hid (TextAt.turn h (Turn.alloc (fun _ => False) w (.cells #[.int .i64 k, .slice a t.length c] 80)) (fun _ _ _ => id))
  have e1 := heap_alloc_new w (.cells #[.int .i64 k, .slice a t.length c] 80)
  obtain ⟨n, hn⟩ : ∃ n, t.length = n := ⟨_, rfl⟩
  have HN := Lib.hid hn
  rw [hn] at hc e1 HB1 HX1 ⊢
  have q0 : (w.alloc (.cells #[.int .i64 k, .slice a n c] 80)).cell? ⟨w.heap.size, 0, none⟩ = some (.int .i64 k) := by
    simp only [World.cell?, e1]
    rfl
  have q1 : (w.alloc (.cells #[.int .i64 k, .slice a n c] 80)).cell? ⟨w.heap.size, 1, none⟩ = some (.slice a n c) := by
    simp only [World.cell?, e1]
    rfl
  unfold rightB at hr
  by_cases h0 : k = 0 ∨ k = 3
  · rw [if_pos h0] at hr
    have ht : t = [] := by simpa using hr
    have hn0 : n = 0 := by rw [← hn, ht]; rfl
    subst hn0
    clear h hcell hr e1 hb1 hn
    rcases h0 with rfl | rfl
    · go_enter Tryz.func41, Tryz.ntmps41
      go_upto_region 1 with fail
      generalize (w.alloc (.cells #[.int .i64 0, .slice a 0 c] 80)) = w1 at *
      go_wp2_with fail
      go_ret
      exact ⟨rfl, HB1.out⟩
    · go_enter Tryz.func41, Tryz.ntmps41
      go_upto_region 1 with fail
      generalize (w.alloc (.cells #[.int .i64 3, .slice a 0 c] 80)) = w1 at *
      go_wp2_with fail
      go_ret
      exact ⟨rfl, HB1.out⟩
  · rw [if_neg h0] at hr
    have h12 : k = 1 ∨ k = 2 := by
      by_cases h12 : k = 1 ∨ k = 2
      · exact h12
      · rw [if_neg h12] at hr
        cases hr
    rw [if_pos h12] at hr
    simp only [Bool.and_eq_true, decide_eq_true_eq, List.all_eq_true, Bool.not_eq_true'] at hr
    have hn1 : 1 ≤ n := by
      rw [← hn]
      rcases t with _ | ⟨x, l⟩
      · simp at hr
      · simp
    have hn16 : n ≤ 16 := by omega
    have HV := Lib.hid hr.2
    have hi1 : ¬ ((n : Int) < 1) := by omega
    have hi2 : ¬ ((16 : Int) < (n : Int)) := by omega
    have hi3 : (1 : Int) ≤ (n : Int) := by omega
    have hi4 : (n : Int) ≤ 16 := by omega
    clear h hcell hr e1 hb1 hn h0
    have hk0 : (k == 0) = false := beq_eq_false_iff_ne.2 (by omega)
    have hk3 : (k == 3) = false := beq_eq_false_iff_ne.2 (by omega)
    go_enter Tryz.func41, Tryz.ntmps41
    go_upto_region 1 with fail
    generalize (w.alloc (.cells #[.int .i64 k, .slice a n c] 80)) = w1 at *
    rcases h12 with rfl | rfl
    all_goals
      go_wp2_with fail
      go_loopg [3] n (fun gg i wx => ∃ j : Nat, n - j = gg ∧ j ≤ n ∧ i = .int .i64 j ∧ w1 = wx)
      case atStart => exact ⟨0, rfl, Nat.zero_le _, rfl, rfl⟩
      case round =>
        obtain ⟨j, rfl, hj, rfl, rfl⟩ := hrel
        by_cases hlt : j < n
        · obtain ⟨b, off, rfl, x0⟩ := (rd_of HX1.out) j (by rw [HN.out]; exact hlt)
          have hlt' : (j : Int) < (n : Int) := by omega
          have hval : validB (t.getD j 0) = true := by
            rw [List.getD_eq_getElem?_getD, List.getElem?_eq_getElem (by rw [HN.out]; exact hlt)]
            exact HV.out _ (List.getElem_mem _)
          generalize t.getD j 0 = r at *
          have HVA := Lib.hid (valid23 r w1 hval)
          clear hval
          go_wp2_with fail
          refine HVA.out.mono ?_
          rintro e wx ⟨rfl, rfl⟩
          go_wp2_with fail
          go_roundg (n - (j + 1))
          case measure => omega
          case rel => exact ⟨j + 1, rfl, by omega, by go_num, rfl⟩
        · obtain rfl : j = n := by omega
          go_wp2_with fail
          go_ret
          exact ⟨rfl, HB1.out⟩

set_option maxRecDepth 100000 in
set_option maxHeartbeats 8000000 in
theorem kind23 (v : Value) (cs : List CellC) (i : Int) (w : World) (h : CellsT w v cs) (hi : (i : Int) < 0 ∨ 0 ≤ i) : Calls Tryz.prog 42 #[v, .int .i64 i] w fun e w' => e = .returned (.int .i64 (if i < 0 then 0 else kindAt cs i.toNat)) ∧ w = w' := by
  obtain ⟨a, c, rfl, hc, hg⟩ := h.get
  clear h
  by_cases h0 : i < 0
  · have HF : Hid ((if i < 0 then 0 else kindAt cs i.toNat) = 0) := Lib.hid (if_pos h0)
    generalize cs.length = n at *
    clear hg
    rw [HF.out]
    go_enter Tryz.func42, Tryz.ntmps42
    go_wp2_with fail
    go_ret
    exact ⟨rfl, rfl⟩
  · obtain ⟨j, rfl⟩ : ∃ j : Nat, i = j := ⟨i.toNat, by omega⟩
    rw [if_neg h0, Int.toNat_natCast]
    clear h0 hi
    by_cases h1 : j < cs.length
    · obtain ⟨b, off, a', c', rfl, x0, x1⟩ := hg j _ (List.getElem?_eq_getElem h1)
      clear x1 hg
      have hk : kindAt cs j = cs[j].1 := by
        unfold kindAt
        rw [List.getD_eq_getElem?_getD, List.getElem?_eq_getElem h1]
        rfl
      rw [← hk] at x0
      have h1' : (j : Int) < (cs.length : Int) := by omega
      clear hk
      generalize kindAt cs j = kd at *
      replace h1 := h1'
      generalize cs.length = n at *
      go_enter Tryz.func42, Tryz.ntmps42
      go_wp2_with fail
      go_ret
      exact ⟨rfl, rfl⟩
    · have HF : Hid (kindAt cs j = 0) := Lib.hid (by
        unfold kindAt
        rw [List.getD_eq_getElem?_getD, List.getElem?_eq_none (by omega)]
        rfl)
      have h1' : (cs.length : Int) ≤ (j : Int) := by omega
      generalize cs.length = n at *
      clear hg h1
      rw [HF.out]
      go_enter Tryz.func42, Tryz.ntmps42
      go_wp2_with fail
      go_ret
      exact ⟨rfl, rfl⟩

theorem CellsT.get2 {w : World} {v : Value} {cs : List CellC} (h : CellsT w v cs) : ∃ a c, v = .slice a cs.length c ∧ (cs.length ≤ c ∧ cs.length ≤ 4398046511104) ∧ ∀ (j : Nat) (x : CellC), cs[j]? = some x → ∃ b off tv, a = some ⟨b, off, none⟩ ∧ w.cell? ⟨b, off + j * 2, none⟩ = some (.int .i64 x.1) ∧ w.cell? ⟨b, off + j * 2 + 1, none⟩ = some tv ∧ TextAt (fun _ => True) False w tv x.2 := by
  obtain ⟨a, c, e1, e2, e3, e4⟩ := h
  refine ⟨a, c, e1, ⟨e2, by omega⟩, fun j x hx => ?_⟩
  have hj := (List.getElem?_eq_some_iff.1 hx).1
  obtain ⟨b, off, e, _, _, hc⟩ := e4.resolve_left (by omega)
  obtain ⟨g1, _, tv, g3, g4⟩ := hc j x hx
  exact ⟨b, off, tv, e, g1, g3, TextAt.mono g4 (fun _ _ _ => trivial)⟩

set_option maxRecDepth 100000 in
set_option maxHeartbeats 16000000 in
theorem sound23 (v : Value) (cs : List CellC) (w : World) (h : CellsT w v cs) (hs : soundB cs = true) : Calls Tryz.prog 13 #[v] w fun e w' => e = .returned (.bool true) ∧ Below w.heap.size w w' := by
  have hmx : Tryz.prog.follows .mixedOrders = true := by kernel_rfl
  obtain ⟨s1, s2, s3⟩ := (sound_iff _).1 hs
  obtain ⟨a, c, rfl, hc, _⟩ := h.get2
  have HS1 := Lib.hid s1
  have HS2 := Lib.hid s2
  have HS3 := Lib.hid s3
  have HH := Lib.hid h
  obtain ⟨n, hn⟩ : ∃ n, cs.length = n := ⟨_, rfl⟩
  have HN := Lib.hid hn
  rw [hn] at hc ⊢
  clear s1 s2 s3 hs h hn
  go_enter Tryz.func13, Tryz.ntmps13
  go_wp2_with fail
  go_loopg [3] n (fun gg i wx => ∃ j : Nat, n - j = gg ∧ j ≤ n ∧ i = .int .i64 j ∧ Hid (Below w.heap.size w wx))
  case atStart => exact ⟨0, rfl, Nat.zero_le _, rfl, Lib.hid (Below.refl _ _)⟩
  case round =>
    obtain ⟨j, rfl, hj, rfl, HB⟩ := hrel
    by_cases hlt : j < n
    · obtain ⟨a', c', e, _, hg⟩ := (HH.out.below HB.out).get2
      rw [HN.out] at e
      injection e with e eq1 eq2
      subst e
      clear eq1 eq2
      obtain ⟨x, hx⟩ : ∃ x, cs[j]? = some x := ⟨_, List.getElem?_eq_getElem (by rw [HN.out]; exact hlt)⟩
      obtain ⟨b, off, tv, rfl, x0, x1, hty⟩ := hg j x hx
      have hxd : cs.getD j blank = x := by rw [List.getD_eq_getElem?_getD, hx]; rfl
      have hk : kindAt cs j = x.1 := by unfold kindAt; rw [hxd]
      have hr := HS1.out j
      rw [hxd] at hr
      have HRI := Lib.hid (right23 x.1 tv x.2 wr hty hr)
      have HK1 : Hid (x.1 = 2 → kindAt cs (j + 1) = 3) := Lib.hid fun e => (HS3.out j).1 (by rw [hk, e])
      have HK2 : Hid (x.1 = 3 → 1 ≤ j ∧ kindAt cs (j - 1) = 2) := Lib.hid fun e => by
        have h0 : j ≠ 0 := fun e0 => HS2.out (by rw [← e0, hk, e])
        refine ⟨by omega, (HS3.out (j - 1)).2 ?_⟩
        rw [show j - 1 + 1 = j from by omega, hk, e]
      obtain ⟨kd, tx⟩ := x
      simp only at x0 HRI HK1 HK2
      have hlt' : (j : Int) < (n : Int) := by omega
      obtain ⟨ta, tc, htv, _⟩ := id hty
      subst htv
      generalize tx.length = tn at *
      clear hx hxd hk hr hg hty
      have hw1 : IntKind.i64.wrap ((j : Int) + 1) = (j : Int) + 1 := by rw [IntKind.wrap_i64]; omega
      go_wp2_with fail
      refine HRI.out.mono ?_
      rintro e w1 ⟨rfl, hb1⟩
      have HB1 := Lib.hid (HB.out.trans (hb1.mono HB.out.size))
      replace x0 := (Turn.of_new hb1 : Turn (fun _ => False) wr w1).cell x0 id
      have HKI : Hid (∀ i : Int, Calls Tryz.prog 42 #[.slice (some ⟨b, off, none⟩) n c, .int .i64 i] w1 fun e w' => e = .returned (.int .i64 (if i < 0 then 0 else kindAt cs i.toNat)) ∧ w1 = w') := Lib.hid fun i => kind23 _ cs i w1 (by have := HH.out.below HB1.out; rw [HN.out] at this; exact this) (by omega)
      clear hb1 HRI x1
      by_cases k2 : kd = 2
      · subst k2
        have HC : Hid (Calls Tryz.prog 42 #[.slice (some ⟨b, off, none⟩) n c, .int .i64 ((j : Int) + 1)] w1 fun e w' => e = .returned (.int .i64 3) ∧ w1 = w') := Lib.hid (by
          have := HKI.out ((j : Int) + 1)
          rw [if_neg (by omega), show ((j : Int) + 1).toNat = j + 1 from by omega, HK1.out rfl] at this
          exact this)
        clear HKI HK1 HK2
        go_wp2_with fail
        refine HC.out.mono ?_
        rintro e wx ⟨rfl, rfl⟩
        go_wp2_with fail
        go_roundg (n - (j + 1))
        case measure => omega
        case rel => exact ⟨j + 1, rfl, by omega, by go_num, HB1⟩
      · have z2 : (kd == 2) = false := by simpa using k2
        by_cases k3 : kd = 3
        · subst k3
          obtain ⟨hj1, hk1⟩ := HK2.out rfl
          have hw2 : IntKind.i64.wrap ((j : Int) - 1) = (j : Int) - 1 := by rw [IntKind.wrap_i64]; omega
          have HC : Hid (Calls Tryz.prog 42 #[.slice (some ⟨b, off, none⟩) n c, .int .i64 ((j : Int) - 1)] w1 fun e w' => e = .returned (.int .i64 2) ∧ w1 = w') := Lib.hid (by
            have := HKI.out ((j : Int) - 1)
            rw [if_neg (by omega), show ((j : Int) - 1).toNat = j - 1 from by omega, hk1] at this
            exact this)
          clear HKI HK1 HK2 hk1 k2 z2
          go_wp2_with fail
          refine HC.out.mono ?_
          rintro e wx ⟨rfl, rfl⟩
          go_wp2_with fail
          go_roundg (n - (j + 1))
          case measure => omega
          case rel => exact ⟨j + 1, rfl, by omega, by go_num, HB1⟩
        · have z3 : (kd == 3) = false := by simpa using k3
          clear HKI HK1 HK2 k2 k3
          go_wp2_with fail
          go_roundg (n - (j + 1))
          case measure => omega
          case rel => exact ⟨j + 1, rfl, by omega, by go_num, HB1⟩
    · obtain rfl : j = n := by omega
      go_wp2_with fail
      go_ret
      exact ⟨rfl, HB.out⟩
end Go.Proofs.YtjicdcmdgbcdcaaGreatDoor.Scr
end
section
namespace Go.Proofs.YtjicdcmdgbcdcaaGreatDoor.Scr
set_option linter.unusedSimpArgs false
set_option linter.unusedVariables false
open Go Go.RowKit Mem Turn Ring

noncomputable def playS : ScrC := [(⟨0, 0, 0, [101]⟩ : OpC), ⟨0, 0, 0, [204]⟩, ⟨0, 0, 0, [129]⟩].foldl doS (newS 3 1)
set_option maxRecDepth 100000 in
theorem play_rows : playS.f.pen.rows = [([(1, [101, 769]), (0, []), (0, [])], false)] := by kernel_rfl

theorem ne_of {c : UInt8} {s : ByteArray} (h : ([c] == s.data.toList) = false) : ([c] == s.toList) = false := by rw [ByteArray.toList_eq]; exact h
theorem split_more {c : UInt8} {s x r y : ByteArray} {ws : List ByteArray} (i : Nat) (h1 : ([c] == s.data.toList) = false) (h2 : Lib.indexByte s.data.toList c = (i : Int)) (h3 : i + 1 ≤ s.size) (h4 : s.size ≤ 100000) (h5 : s.extract 0 i = x) (h6 : s.extract (i + 1) s.size = r) (h7 : SplitB c r (y :: ws)) : SplitB c s (x :: y :: ws) :=
  ⟨i, ne_of h1, h2, h3, h4, h5, by rw [h6]; exact h7⟩
theorem cut_of {t line rest : ByteArray} (i : Nat) (h1 : ([10] == t.data.toList) = false) (h2 : Lib.indexByte t.data.toList 10 = (i : Int)) (h3 : i + 1 ≤ t.size) (h4 : t.size ≤ 100000) (h5 : t.extract 0 i = line) (h6 : t.extract (i + 1) t.size = rest) : CutAt t line rest i := ⟨ne_of h1, h2, h3, h4, h5, h6⟩

def text0 : ByteArray := ⟨#[115, 105, 122, 101, 32, 51, 32, 49, 10, 102, 101, 101, 100, 32, 54, 53, 10, 102, 101, 101, 100, 32, 99, 99, 10, 102, 101, 101, 100, 32, 56, 49, 10]⟩
def text1 : ByteArray := ⟨#[102, 101, 101, 100, 32, 54, 53, 10, 102, 101, 101, 100, 32, 99, 99, 10, 102, 101, 101, 100, 32, 56, 49, 10]⟩
def text2 : ByteArray := ⟨#[102, 101, 101, 100, 32, 99, 99, 10, 102, 101, 101, 100, 32, 56, 49, 10]⟩
def text3 : ByteArray := ⟨#[102, 101, 101, 100, 32, 56, 49, 10]⟩
def lineS : ByteArray := ⟨#[115, 105, 122, 101, 32, 51, 32, 49]⟩
def lineF (a b : UInt8) : ByteArray := ⟨#[102, 101, 101, 100, 32, a, b]⟩
theorem hex_of (a b : UInt8) (x y r : Int) (hx : Lib.indexByte figs.data.toList a = x) (hy : Lib.indexByte figs.data.toList b = y) (x0 : 0 ≤ x) (x1 : x ≤ 15) (y0 : 0 ≤ y) (y1 : y ≤ 15) (h : bits .or .i64 (x * 16) y % 256 = r) : HexOf ⟨#[a, b]⟩ [r] := by
  refine ⟨rfl, fun i z hz => ?_⟩
  rcases i with _ | i
  · injection hz with e
    subst e
    exact ⟨a, b, x, y, rfl, rfl, hx, hy, x0, x1, y0, y1, h⟩
  · simp at hz
set_option maxRecDepth 100000 in
theorem cut0 : CutAt text0 lineS text1 8 := cut_of 8 (by kernel_rfl) (by kernel_rfl) (by decide) (by decide) (by kernel_rfl) (by kernel_rfl)
set_option maxRecDepth 100000 in
theorem size0 : SizeLine lineS 3 1 ⟨#[51]⟩ ⟨#[49]⟩ := ⟨split_more (r := ⟨#[51, 32, 49]⟩) 4 (by kernel_rfl) (by kernel_rfl) (by decide) (by decide) (by kernel_rfl) (by kernel_rfl) (split_more (r := ⟨#[49]⟩) 1 (by kernel_rfl) (by kernel_rfl) (by decide) (by decide) (by kernel_rfl) (by kernel_rfl) rfl), by kernel_rfl, by decide, by decide, by decide, by decide, by kernel_rfl, by kernel_rfl⟩
set_option maxRecDepth 100000 in
theorem feed1 : FeedLine (lineF 54 53) [101] ⟨#[54, 53]⟩ := ⟨split_more 4 (by kernel_rfl) (by kernel_rfl) (by decide) (by decide) (by kernel_rfl) (by kernel_rfl) rfl, by kernel_rfl, by decide, by decide, by decide, hex_of 54 53 6 5 101 (by kernel_rfl) (by kernel_rfl) (by decide) (by decide) (by decide) (by decide) (by kernel_rfl), by simp⟩
set_option maxRecDepth 100000 in
theorem feed2 : FeedLine (lineF 99 99) [204] ⟨#[99, 99]⟩ := ⟨split_more 4 (by kernel_rfl) (by kernel_rfl) (by decide) (by decide) (by kernel_rfl) (by kernel_rfl) rfl, by kernel_rfl, by decide, by decide, by decide, hex_of 99 99 12 12 204 (by kernel_rfl) (by kernel_rfl) (by decide) (by decide) (by decide) (by decide) (by kernel_rfl), by simp⟩
set_option maxRecDepth 100000 in
theorem feed3 : FeedLine (lineF 56 49) [129] ⟨#[56, 49]⟩ := ⟨split_more 4 (by kernel_rfl) (by kernel_rfl) (by decide) (by decide) (by kernel_rfl) (by kernel_rfl) rfl, by kernel_rfl, by decide, by decide, by decide, hex_of 56 49 8 1 129 (by kernel_rfl) (by kernel_rfl) (by decide) (by decide) (by decide) (by decide) (by kernel_rfl), by simp⟩
set_option maxRecDepth 100000 in
theorem feeds : FeedLines text1 [[101], [204], [129]] :=
  ⟨7, _, _, _, cut_of (rest := text2) 7 (by kernel_rfl) (by kernel_rfl) (by decide) (by decide) (by kernel_rfl) (by kernel_rfl), feed1,
    7, _, _, _, cut_of (rest := text3) 7 (by kernel_rfl) (by kernel_rfl) (by decide) (by decide) (by kernel_rfl) (by kernel_rfl), feed2,
    7, _, _, _, cut_of (rest := ⟨#[]⟩) 7 (by kernel_rfl) (by kernel_rfl) (by decide) (by decide) (by kernel_rfl) (by kernel_rfl), feed3, rfl⟩
theorem read0 (w : World) : Calls Tryz.prog 14 #[.string text0] w fun e w' => ∃ v LL, e = .returned (.tuple #[.agg #[.int .i64 3, .int .i64 1, v], .nilIface]) ∧ OpsM w' w.heap.size v LL ∧ LL.map (·.1) = [(⟨0, 0, 0, [101]⟩ : OpC), ⟨0, 0, 0, [204]⟩, ⟨0, 0, 0, [129]⟩] ∧ Below w.heap.size w w' :=
  read_ok text0 lineS text1 _ _ 8 3 1 [[101], [204], [129]] w cut0 size0 feeds (by decide) (by decide)

/-- operations of the call's own are operations that came in -/
theorem flatO_get {L : List (OpC × Value)} {k : Nat} {p : OpC × Value} (h : L[k]? = some p) : (flatO L)[k * 4]? = some (.int .i64 p.1.kind) ∧ (flatO L)[k * 4 + 1]? = some (.int .i64 p.1.a) ∧ (flatO L)[k * 4 + 2]? = some (.int .i64 p.1.b) ∧ (flatO L)[k * 4 + 3]? = some p.2 := by
  induction L generalizing k with
  | nil => cases h
  | cons x L ih =>
    cases k with
    | zero =>
      simp at h
      subst h
      simp [flatO]
    | succ k =>
      obtain ⟨a, b, c, d⟩ := ih (k := k) (by simpa using h)
      rw [show (k + 1) * 4 = k * 4 + 1 + 1 + 1 + 1 from by omega]
      have e : flatO (x :: L) = .int .i64 x.1.kind :: .int .i64 x.1.a :: .int .i64 x.1.b :: x.2 :: flatO L := rfl
      rw [e]
      exact ⟨by simpa using a, by simpa using b, by simpa using c, by simpa using d⟩
theorem OpsM.isOps {w : World} {B : Nat} {v : Value} {L : List (OpC × Value)} (h : OpsM w B v L) (hr : ∀ p ∈ L, OpRng p.1) (hl : L.length ≤ 4398046511104) : ∃ a c, v = .slice a L.length c ∧ IsOps w a L.length c (L.map (·.1)) := by
  obtain ⟨a, c, rfl, hc, h4⟩ := own_form h.1
  refine ⟨a, c, rfl, by simp, hc, hl, fun o ho => ?_, h4.imp id ?_⟩
  · obtain ⟨p, hp, rfl⟩ := List.mem_map.1 ho
    exact hr p hp
  · rintro ⟨g, e, e2, hb, hg, hf, hcell⟩
    refine ⟨g, 0, e, hg, fun j o ho => ?_⟩
    rw [List.getElem?_map] at ho
    obtain ⟨p, hp, rfl⟩ := Option.map_eq_some_iff.1 ho
    obtain ⟨g0, g1, g2, g3⟩ := flatO_get hp
    obtain ⟨ba, bc, hbv, hbc, hb4⟩ := own_form (h.2 p (List.mem_of_getElem? hp))
    simp only [Nat.zero_add]
    refine ⟨hcell _ _ g0, hcell _ _ g1, hcell _ _ g2, ba, bc, by rw [hcell _ _ g3, hbv], hbc, rfl, hb4.imp id ?_⟩
    rintro ⟨g', e', _, _, hg', _, hcell'⟩
    exact ⟨g', 0, e', hg', fun i x hx => by rw [Nat.zero_add]; exact hcell' i _ (by rw [List.getElem?_map, hx]; rfl)⟩

set_option maxRecDepth 100000 in
set_option maxHeartbeats 16000000 in
theorem plays_ok (w : World) (hv : VarsN w.heap.size w) : Calls Tryz.prog 6 #[] w fun e w' => e = .returned (.bool true) ∧ Below w.heap.size w w' := by
  have HR := Lib.hid (read0 w)
  unfold text0 at HR
  have HV := Lib.hid hv
  clear hv
  go_enter Tryz.func6, Tryz.ntmps6
  go_wp2_with fail
  refine HR.out.mono ?_
  rintro e w1 ⟨v, LL, rfl, hop, hmap, hb1⟩
  obtain ⟨a, c, rfl, hio⟩ := hop.isOps (by
    intro p hp
    have : p.1 ∈ LL.map (·.1) := List.mem_map_of_mem hp
    rw [hmap] at this
    simp at this
    rcases this with e | e | e <;> rw [e] <;> exact ⟨by decide, by decide, by decide, by decide⟩) (by
    have := congrArg List.length hmap
    simp at this
    omega)
  have hlen : LL.length = 3 := by
    have := congrArg List.length hmap
    simpa using this
  rw [hlen, hmap] at hio
  rw [hlen]
  have hnew : (w1.alloc (.cells #[.int .i64 0, .int .i64 0, .slice none 0 0] 49)).heap[w1.heap.size]? = some (.cells #[.int .i64 0, .int .i64 0, .slice none 0 0] 49 (0, 0)) := heap_alloc_new w1 _
  have hrow : (w1.alloc (.cells #[.int .i64 0, .int .i64 0, .slice none 0 0] 49)).setRow w1.heap.size #[.int .i64 3, .int .i64 1, .slice a 3 c] = w1.alloc (.cells #[.int .i64 3, .int .i64 1, .slice a 3 c] 49) := World.setRow_alloc_new w1 _ _ _
  have HB1 := Lib.hid hb1
  have HIO := Lib.hid hio
  clear hb1 hio hop hmap hlen HR
  go_upto_region 2 with (refine wpList_store_row rfl 49 _ _ rfl w1.heap.size #[.int .i64 3, .int .i64 1, .slice a 3 c] rfl rfl _ _ hnew (size_script _ _ _) rfl (one_script _ _ _ _ _) ?_)
  have hn2 := heap_alloc_new w1 (.cells #[.int .i64 3, .int .i64 1, .slice a 3 c] 49)
  have HB2 : Hid (Below w.heap.size w (w1.alloc (.cells #[.int .i64 3, .int .i64 1, .slice a 3 c] 49))) := Lib.hid (HB1.out.alloc HB1.out.size _)
  have HIO2 := Lib.hid (HIO.out.below (show Below w1.heap.size w1 (w1.alloc (.cells #[.int .i64 3, .int .i64 1, .slice a 3 c] 49)) from (Below.refl _ _).alloc (Nat.le_refl _) _))
  generalize (w1.alloc (.cells #[.int .i64 3, .int .i64 1, .slice a 3 c] 49)) = w2 at *
  generalize w1.heap.size = q1 at *
  have HFI := Lib.hid (final_feeds 3 1 a 3 c _ w2 (HV.out.up HB2.out HB2.out.size (Nat.le_refl _)) HIO2.out (by intro o ho; simp at ho; rcases ho with rfl | rfl | rfl <;> rfl))
  have hps : [(⟨0, 0, 0, [101]⟩ : OpC), ⟨0, 0, 0, [204]⟩, ⟨0, 0, 0, [129]⟩].foldl doS (newS 3 1) = playS := rfl
  rw [hps] at HFI
  have hrows := play_rows
  generalize playS = s1 at *
  have HROWS := Lib.hid hrows
  clear hrows hps hnew hrow HIO2 HIO HB1
  go_wp2_with (refine wpList_load_row rfl 49 _ rfl q1 rfl _ #[.int .i64 3, .int .i64 1, .slice a 3 c] (0, 0) _ hn2 Tryz.underlying49 rfl (size_script _ _ _) ?_)
  refine HFI.out.mono ?_
  rintro e w3 ⟨v, rfl, hov, hb3⟩
  obtain ⟨arr, harr, hav, hsz, hone, hs7⟩ := view_row (s := s1) hov
  have hv2 : arr[2]? = some v := by rw [hav]; rfl
  rw [harr]
  have hnew : (w3.alloc (.cells (viewA 0 0 (.slice none 0 0) 0 0 false false) 38)).heap[w3.heap.size]? = some (.cells (viewA 0 0 (.slice none 0 0) 0 0 false false) 38 (0, 0)) := heap_alloc_new w3 _
  have hrow : (w3.alloc (.cells (viewA 0 0 (.slice none 0 0) 0 0 false false) 38)).setRow w3.heap.size arr = w3.alloc (.cells arr 38) := World.setRow_alloc_new w3 _ _ _
  have HOV := Lib.hid hov
  have HB3 := Lib.hid (HB2.out.trans (hb3.mono HB2.out.size))
  have HV2 := Lib.hid hv2
  clear hov hb3 hav harr hv2 HFI HB2 hn2
  go_upto_region 3 with (refine wpList_store_row rfl 38 _ _ rfl w3.heap.size arr rfl rfl _ _ hnew hsz (by rw [hs7]; rfl) hone ?_)
  have hn4 := heap_alloc_new w3 (.cells arr 38)
  have HB4 : Hid (Below w.heap.size w (w3.alloc (.cells arr 38))) := Lib.hid (HB3.out.alloc HB3.out.size _)
  have hov4 := HOV.out.below (show Below w3.heap.size w3 (w3.alloc (.cells arr 38)) from (Below.refl _ _).alloc (Nat.le_refl _) _)
  generalize (w3.alloc (.cells arr 38)) = w4 at *
  generalize w3.heap.size = q3 at *
  have c2 : w4.cell? ⟨q3, 2, none⟩ = some v := by
    simp only [World.cell?, hn4]
    exact HV2.out
  obtain ⟨ag, cg, rfl, _, hg⟩ := hov4.at_
  rw [HROWS.out] at hg c2
  obtain ⟨g, cv, rfl, x0, _, hct⟩ := hg 0 _ rfl
  obtain ⟨a2, cc, rfl, _, hg2⟩ := hct.get2
  obtain ⟨b2, off, tv, rfl, _, y1, htx⟩ := hg2 0 _ rfl
  obtain ⟨at_, ct, rfl, _, _, h5⟩ := htx
  have hin : Same.Ints .i32 w4 at_ 2 [101, 769] := ⟨rfl, h5.imp id (fun ⟨b, o, e, hb, _, hc⟩ => ⟨b, o, e, hb, fun i x hx => (hc i x hx).1⟩)⟩
  have HIN := Lib.hid hin
  clear hg hg2 hct h5 hin hov4 HOV hnew hrow hn4
  simp only [List.length_cons, List.length_nil, Nat.zero_mul, Nat.zero_add, Nat.add_zero, Nat.reduceAdd] at c2 x0 y1
  have hne := heap_alloc_new w4 (.cells #[.int .i32 101, .int .i32 769] 21)
  have hb5 : Below w4.heap.size w4 (w4.alloc (.cells #[.int .i32 101, .int .i32 769] 21)) := (Below.refl _ _).alloc (Nat.le_refl _) _
  have hin2 : Same.Ints .i32 (w4.alloc (.cells #[.int .i32 101, .int .i32 769] 21)) (some ⟨w4.heap.size, 0, none⟩) 2 [101, 769] := ⟨rfl, .inr ⟨w4.heap.size, 0, rfl, by simp, fun i x hx => by
    simp only [World.cell?, hne]
    rcases i with _ | _ | i
    · simp at hx; subst hx; rfl
    · simp at hx; subst hx; rfl
    · simp at hx⟩⟩
  have HSA := Lib.hid (Same.same_any at_ 2 ct [101, 769] (some ⟨w4.heap.size, 0, none⟩) 2 2 [101, 769] _ (HIN.out.below hb5) hin2 (by omega))
  have HB5 : Hid (Below w.heap.size w (w4.alloc (.cells #[.int .i32 101, .int .i32 769] 21))) := Lib.hid (HB4.out.alloc HB4.out.size _)
  have k01 : (0 : Int) < 1 := by decide
  have k03 : (0 : Int) < 3 := by decide
  clear hne hb5 hin2
  go_wp2_with fail
  refine HSA.out.mono ?_
  rintro e w6 ⟨rfl, hb6⟩
  have HB6 := Lib.hid (HB5.out.trans (hb6.mono HB5.out.size))
  clear hb6 HSA
  go_wp2_with fail
  go_ret
  exact ⟨rfl, HB6.out⟩
end Go.Proofs.YtjicdcmdgbcdcaaGreatDoor.Scr
end

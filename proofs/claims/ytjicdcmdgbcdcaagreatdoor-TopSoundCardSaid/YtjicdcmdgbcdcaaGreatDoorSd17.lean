/-
  cell.Right, cell.Sound, cell.Blanks, row.New.
  script.number: CutPrefix at one byte, strconv.Atoi at digits.
  cell.Blanks, row.New.
-/
import Derived.Test.YtjicdcmdgbcdcaaGreatDoorSd15
import Derived.Test.YtjicdcmdgbcdcaaGreatDoorSd16
import Derived.Lib.AtoiErrMem
section
namespace Go.Proofs.YtjicdcmdgbcdcaaGreatDoor.Scr
set_option linter.unusedSimpArgs false
set_option linter.unusedVariables false
open Go Go.RowKit Mem Turn Ring

theorem badAt_neg (t : List Int) : decide (0 ≤ badAt t) = !t.all validB := by
  unfold badAt
  split
  · rename_i h; rw [h]; rfl
  · rename_i h
    rw [decide_eq_true (by omega)]
    simp only [Bool.not_eq_true] at h
    rw [h]; rfl
theorem beq0 (n : Nat) : ((n : Int) == 0) = decide (n = 0) := by
  rw [Bool.eq_iff_iff]
  simp
theorem contains_any (a : Option Addr) (n c : Nat) (t : List Int) (w : World) (hn : t.length = n) (h : Rd w a t) (hm : n ≤ 9223372036854775807) :
    Calls Tryz.prog 332 #[.slice a n c, .func (.func 333) #[] #[]] w fun e w' => e = .returned (.bool (!t.all validB)) ∧ w = w' := by
  have H := Lib.hid (index_any a n c t w hn h hm)
  have hb := badAt_neg t
  generalize badAt t = z at *
  generalize (!t.all validB) = b at *
  clear h hn
  go_enter Tryz.func332, Tryz.ntmps332
  go_wp2_with fail
  refine H.out.mono ?_
  rintro e w1 ⟨rfl, rfl⟩
  go_wp2_with fail
  go_ret
  exact ⟨rfl, rfl⟩

set_option maxRecDepth 100000 in
set_option maxHeartbeats 4000000 in
theorem right_any (D : Nat → Prop) (fz : Prop) (k : Int) (v : Value) (t : List Int) (w : World) (h : TextAt D fz w v t) :
    Calls Tryz.prog 295 #[.agg #[.int .i64 k, v]] w fun e w' => e = .returned (.bool (rightB (k, t))) ∧ Below w.heap.size w w' := by
  obtain ⟨a, c, rfl, _, hm, _⟩ := id h
  have HC := Lib.hid (contains_any a t.length c t (w.alloc (.cells #[.int .i64 k, .slice a t.length c] 80)) rfl (rd_of (TextAt.turn h (Turn.alloc (fun _ => False) _ _) (fun _ _ _ => id))) (by omega))
  have HB : Hid (Below w.heap.size w (w.alloc (.cells #[.int .i64 k, .slice a t.length c] 80))) := Lib.hid ((Below.refl _ _).alloc (Nat.le_refl _) _)
  have he : t.isEmpty = decide (t.length = 0) := by cases t <;> simp
  have HRB := Lib.hid (show rightB (k, t) = (if k = 0 ∨ k = 3 then decide (t.length = 0) else if k = 1 ∨ k = 2 then !decide (t.length = 0) && decide (t.length ≤ 16) && t.all validB else false) from by unfold rightB; rw [he])
  rw [HRB.out]
  generalize (t.all validB) = b at *
  generalize t.length = n at *
  clear h he HRB
  by_cases h0 : k = 0
  · subst h0
    rw [if_pos (.inl rfl)]
    go_enter Tryz.func295, Tryz.ntmps295
    go_wp2_with fail
    all_goals
      go_ret
      exact ⟨ret_bool (beq0 n), HB.out⟩
  · by_cases h3 : k = 3
    · subst h3
      rw [if_pos (.inr rfl)]
      go_enter Tryz.func295, Tryz.ntmps295
      go_wp2_with fail
      all_goals
        go_ret
        exact ⟨ret_bool (beq0 n), HB.out⟩
    · rw [if_neg (by omega)]
      by_cases h12 : k = 1 ∨ k = 2
      · rw [if_pos h12]
        by_cases hn0 : n = 0
        · subst hn0
          rcases h12 with rfl | rfl
          all_goals
            go_enter Tryz.func295, Tryz.ntmps295
            go_wp2_with fail
            all_goals
              go_ret
              exact ⟨ret_bool (by simp), HB.out⟩
        · have p1 : 0 < n := by omega
          have p1' : (0 : Int) < (n : Int) := by omega
          rw [decide_eq_false hn0]
          by_cases hn16 : n ≤ 16
          · have p2 : decide ((n : Int) ≤ 16) = true := decide_eq_true (by omega)
            have p3 : decide (n ≤ 16) = true := decide_eq_true (by omega)
            rcases h12 with rfl | rfl
            all_goals
              clear hn0 h0 h3
              go_enter Tryz.func295, Tryz.ntmps295
              go_wp2_with fail
              refine HC.out.mono ?_
              rintro e w1 ⟨rfl, rfl⟩
              go_wp2_with fail
              all_goals
                go_ret
                exact ⟨ret_bool (by simp [hn16]), HB.out⟩
          · have p2 : decide ((n : Int) ≤ 16) = false := decide_eq_false (by omega)
            have p3 : decide (n ≤ 16) = false := decide_eq_false (by omega)
            rcases h12 with rfl | rfl
            all_goals
              clear hn0 h0 h3
              go_enter Tryz.func295, Tryz.ntmps295
              go_wp2_with fail
              all_goals
                go_ret
                exact ⟨ret_bool (by simp [hn16]), HB.out⟩
      · rw [if_neg h12]
        have z0 : (k == 0) = false := by simpa using h0
        have z3 : (k == 3) = false := by simpa using h3
        have z1 : (k == 1) = false := beq_eq_false_iff_ne.2 (by omega)
        have z2 : (k == 2) = false := beq_eq_false_iff_ne.2 (by omega)
        clear h0 h3 h12
        go_enter Tryz.func295, Tryz.ntmps295
        go_wp2_with fail
        all_goals
          go_ret
          exact ⟨rfl, HB.out⟩

/-- behind k cells -/
theorem soundGo_drop {cs : List CellC} {k : Nat} (hk : k < cs.length) (lead : Bool) : soundGo lead (cs.drop k) = (rightB (cs.getD k blank) && (lead == ((cs.getD k blank).1 == 3)) && soundGo ((cs.getD k blank).1 == 2) (cs.drop (k + 1))) := by
  rw [List.drop_eq_getElem_cons hk, soundGo, List.getD_eq_getElem?_getD, List.getElem?_eq_getElem hk]
  rfl

set_option maxRecDepth 100000 in
set_option maxHeartbeats 8000000 in
theorem sound_any (D : Nat → Prop) (fz : Prop) (v : Value) (cs : List CellC) (w : World) (h : CellsAt D fz w v cs) :
    Calls Tryz.prog 246 #[v] w fun e w' => e = .returned (.bool (soundB cs)) ∧ Below w.heap.size w w' := by
  obtain ⟨a, c, rfl, hc, h32, h1⟩ := id h
  obtain ⟨n, hn⟩ : ∃ n, cs.length = n := ⟨_, rfl⟩
  have H1 := Lib.hid h1
  have HN := Lib.hid hn
  rw [hn] at hc h32 ⊢
  have hm : n ≤ 4398046511104 := by omega
  have HS0 := Lib.hid (show soundB cs = soundGo false (cs.drop 0) from rfl)
  clear h h1 hn h32
  go_enter Tryz.func246, Tryz.ntmps246
  go_wp2_with fail
  go_loopg [3, 5, 8] n (fun gg v3 v5 i wx => ∃ k : Nat, ∃ ld : Bool, n - k = gg ∧ k ≤ n ∧ i = .int .i64 k ∧ v3 = .bool ld ∧ Below w.heap.size w wx ∧ Hid (soundB cs = soundGo ld (cs.drop k)))
  case atStart => exact ⟨0, false, rfl, Nat.zero_le _, rfl, rfl, Below.refl _ _, HS0⟩
  case round =>
    obtain ⟨k, ld, rfl, hk, rfl, rfl, hb, H⟩ := hrel
    by_cases hlt : k < n
    · obtain ⟨b, off, rfl, hbs, _, hcell⟩ := H1.out.resolve_left (by rw [HN.out]; omega)
      obtain ⟨x, hx⟩ : ∃ x, cs[k]? = some x := ⟨_, List.getElem?_eq_getElem (by rw [HN.out]; exact hlt)⟩
      obtain ⟨y0, _, tv, y1, hty⟩ := hcell k x hx
      have x0 := (hb.cell (p := ⟨b, off + k * 2, none⟩) hbs).trans y0
      have x1 := (hb.cell (p := ⟨b, off + k * 2 + 1, none⟩) hbs).trans y1
      have hlt' : (k : Int) < n := by omega
      have hgd : cs.getD k blank = x := by rw [List.getD_eq_getElem?_getD, hx]; rfl
      obtain ⟨kd, tx⟩ := x
      simp only at x0 hty
      have HSD := Lib.hid (soundGo_drop (cs := cs) (k := k) (by rw [HN.out]; exact hlt))
      have HGD := Lib.hid hgd
      have hty1 : TextAt D fz wr tv tx := hty.below hb
      obtain ⟨at1, ct1, rfl, _⟩ := id hty
      generalize htn : tx.length = tn at *
      have HB := Lib.hid hb
      have HT := Lib.hid (hty1.below ((Below.refl _ _).alloc (Nat.le_refl _) (.cells #[.int .i64 kd, .slice at1 tn ct1] 80)))
      have hnew : (wr.alloc (.cells #[.int .i64 0, .slice none 0 0] 80)).heap[wr.heap.size]? = some (.cells #[.int .i64 0, .slice none 0 0] 80 (0, 0)) := heap_alloc_new wr _
      have hrow : (wr.alloc (.cells #[.int .i64 0, .slice none 0 0] 80)).setRow wr.heap.size #[.int .i64 kd, .slice at1 tn ct1] = wr.alloc (.cells #[.int .i64 kd, .slice at1 tn ct1] 80) := World.setRow_alloc_new wr _ _ _
      have e2 := heap_alloc_new wr (.cells #[.int .i64 kd, .slice at1 tn ct1] 80)
      have HRG := Lib.hid (right_any D fz kd _ tx _ HT.out)
      have HHS := Lib.hid hb.size
      clear hx hcell y0 y1 hgd hty hty1 hb htn
      go_upto_region 5 with (refine wpList_store_row rfl 80 _ _ rfl wr.heap.size #[.int .i64 kd, .slice at1 tn ct1] rfl rfl _ _ hnew (size_cell _ _) rfl (one_cell _ _ _ _) ?_)
      rw [hrow]
      have HB2 := Lib.hid (HB.out.alloc HB.out.size (.cells #[.int .i64 kd, .slice at1 tn ct1] 80))
      generalize (wr.alloc (.cells #[.int .i64 kd, .slice at1 tn ct1] 80)) = w2 at *
      have q0 : w2.cell? ⟨wr.heap.size, 0, none⟩ = some (.int .i64 kd) := by simp [World.cell?, e2]
      have q1 : w2.cell? ⟨wr.heap.size, 1, none⟩ = some (.slice at1 tn ct1) := by simp [World.cell?, e2]
      have hlt2 : wr.heap.size < w2.heap.size := (Array.getElem?_eq_some_iff.1 e2).1
      have HL2 := Lib.hid hlt2
      have HSN : Hid (soundB cs = (rightB (kd, tx) && (ld == (kd == 3)) && soundGo (kd == 2) (cs.drop (k + 1)))) := Lib.hid (by
        rw [H.out, HSD.out, HGD.out])
      clear e2 hnew hrow hlt2 HSD HGD H HT
      generalize hk3 : (kd == 3) = k3 at *
      have HK3 := Lib.hid hk3
      generalize rightB (kd, tx) = rb at *
      go_wp2_with fail
      refine HRG.out.mono ?_
      rintro e w3 ⟨rfl, hb3⟩
      have q0' : w3.cell? ⟨wr.heap.size, 0, none⟩ = some (.int .i64 kd) := (hb3.cell (p := ⟨wr.heap.size, 0, none⟩) HL2.out).trans q0
      have HB3 := Lib.hid (HB2.out.trans (hb3.mono HB2.out.size))
      clear hb3 q0 q1 HRG HB2
      cases hrb : rb with
      | false =>
        subst hrb
        have HF : Hid (soundB cs = false) := Lib.hid (by rw [HSN.out]; rfl)
        clear HSN
        go_wp2_with fail
        go_ret
        rw [HF.out]
        exact ⟨rfl, HB3.out⟩
      | true =>
        subst hrb
        by_cases hne : ld = k3
        · subst hne
          have HF : Hid (soundB cs = soundGo (kd == 2) (cs.drop (k + 1))) := Lib.hid (by rw [HSN.out]; simp)
          clear HSN
          have z : (ld != ld) = false := by simp
          go_wp2_with fail
          go_roundg (n - (k + 1))
          case measure => omega
          case rel => exact ⟨k + 1, _, rfl, by omega, by go_num, rfl, HB3.out, HF⟩
        · have HF : Hid (soundB cs = false) := Lib.hid (by
            rw [HSN.out, show (ld == k3) = false from by simpa using hne]; rfl)
          have z : (ld == k3) = false := by simpa using hne
          clear HSN hne
          go_wp2_with fail
          go_ret
          rw [HF.out]
          exact ⟨rfl, HB3.out⟩
    · obtain rfl : k = n := by omega
      have HF : Hid (soundB cs = !ld) := Lib.hid (by rw [H.out, List.drop_of_length_le (by rw [HN.out]; omega)]; rfl)
      have HB := Lib.hid hb
      clear hb
      go_wp2_with fail
      go_ret
      rw [HF.out]
      exact ⟨rfl, HB.out⟩
end Go.Proofs.YtjicdcmdgbcdcaaGreatDoor.Scr
end
section
namespace Go.Proofs.YtjicdcmdgbcdcaaGreatDoor.Scr
set_option linter.unusedSimpArgs false
set_option linter.unusedVariables false
open Go Go.RowKit Mem Turn Ring

theorem eq_false_of {a b : List UInt8} (h : a ≠ b) : (a == b) = false := by rw [beq_eq_false_iff_ne]; exact h
set_option maxRecDepth 100000 in
set_option maxHeartbeats 8000000 in
theorem cutp_any (s : ByteArray) (w : World) (hs : s.size ≤ 100000) :
    Calls Tryz.prog 211 #[.string s, .string ⟨#[45]⟩] w fun e w' => w = w' ∧ ((∃ l, s.data.toList = 45 :: l ∧ e = .returned (.tuple #[.string (s.extract 1 s.size), .bool true])) ∨ (s.data.toList.head? ≠ some 45 ∧ e = .returned (.tuple #[.string s, .bool false]))) := by
  by_cases h0 : s.size = 0
  · obtain rfl := empty_of s h0
    clear h0 hs
    go_enter Tryz.func211, Tryz.ntmps211
    go_wp2
    go_ret2
    exact ⟨rfl, .inr ⟨by decide, rfl⟩⟩
  · have h1 : (1 : Int) ≤ (s.size : Int) := by omega
    have h1' : 1 ≤ s.size := by omega
    have hl : (s.extract 0 1).toList = s.data.toList.take 1 := by rw [ByteArray.toList_eq, ext_list, List.drop_zero]
    by_cases hp : s.data.toList.head? = some 45
    · have e1 : ((s.extract 0 1).toList == [45]) = true := by
        rw [hl]
        rcases e : s.data.toList with _ | ⟨x, l⟩
        · rw [e] at hp; cases hp
        · rw [e] at hp
          simp at hp
          subst hp
          rfl
      have HP := Lib.hid hp
      clear hl hp h0
      go_enter Tryz.func211, Tryz.ntmps211
      go_wp2
      go_ret2
      refine ⟨rfl, .inl ?_⟩
      rcases e : s.data.toList with _ | ⟨x, l⟩
      · have := HP.out; rw [e] at this; cases this
      · have := HP.out
        rw [e] at this
        simp at this
        subst this
        exact ⟨l, rfl, rfl⟩
    · have e1 : ((s.extract 0 1).toList == [45]) = false := by
        apply eq_false_of
        rw [hl]
        intro e
        rcases e2 : s.data.toList with _ | ⟨x, l⟩
        · rw [e2] at e; cases e
        · rw [e2] at e hp
          simp at e hp
          exact hp e
      have HP := Lib.hid hp
      clear hl hp h0
      go_enter Tryz.func211, Tryz.ntmps211
      go_wp2
      go_ret2
      exact ⟨rfl, .inr ⟨HP.out, rfl⟩⟩

/-- the value of digits -/
def digV (l : List UInt8) : Int := l.foldl (fun n c => n * 10 + ((c.toNat : Int) - 48)) 0
def isDig (c : UInt8) : Prop := 48 ≤ c.toNat ∧ c.toNat ≤ 57
set_option maxRecDepth 100000 in
set_option maxHeartbeats 8000000 in
theorem atoi_digits (s : ByteArray) (w : World) (h1 : 1 ≤ s.size) (h9 : s.size ≤ 9) (hd : ∀ c ∈ s.data.toList, isDig c) :
    Calls Tryz.prog 263 #[.string s] w fun e w' => e = .returned (.tuple #[.int .i64 (digV s.data.toList), .nilIface]) ∧ Below w.heap.size w w' := by
  obtain ⟨n, hn⟩ : ∃ n, s.size = n := ⟨_, rfl⟩
  have HN := Lib.hid hn
  have HD := Lib.hid hd
  have h0 : 0 < s.size := by omega
  have h0' : (0 : Int) < (n : Int) := by omega
  have h19 : (n : Int) < 19 := by omega
  obtain ⟨c, hc⟩ : ∃ c, s[0] = c := ⟨_, rfl⟩
  have hcd : isDig c := by
    rw [← hc]
    exact hd _ (by rw [Array.mem_toList_iff]; exact Array.getElem_mem _)
  have c1 : ((c.toNat : Int) == 45) = false := by rw [beq_eq_false_iff_ne]; have := hcd.1; omega
  have c2 : ((c.toNat : Int) == 43) = false := by rw [beq_eq_false_iff_ne]; have := hcd.1; omega
  clear hd hcd
  have hcv := Lib.run_convert_string_bytes (P := Tryz.prog) w 9 28 5 s (u := .string) Tryz.underlying9 Tryz.underlying28 Tryz.underlying5
  have HB : Hid (∀ j, j < s.size → (Lib.bytesWorld w 5 s).cell? ⟨w.heap.size, j, none⟩ = some (.int .u8 (s.data.toList.getD j 0).toNat)) := Lib.hid (Lib.bytesWorld_cell w 5 s)
  have HW : Hid (Below w.heap.size w (Lib.bytesWorld w 5 s)) := Lib.hid (Lib.bytesWorld_below _ _ _)
  obtain ⟨W1, hW1⟩ : ∃ W1, W1 = Lib.bytesWorld w 5 s := ⟨_, rfl⟩
  rw [← hW1] at hcv HB HW
  obtain ⟨cp, hcp⟩ : ∃ cp, cp = grownCap w s.size 0 5 := ⟨_, rfl⟩
  rw [← hcp] at hcv
  clear hW1 hcp
  go_enter Tryz.func263, Tryz.ntmps263
  go_wp2_with fail
  go_loopg [6, 8, 49] n (fun gg v6 v8 v49 wx => ∃ (k : Nat) (v : Int), n - k = gg ∧ k ≤ n ∧ v49 = .int .i64 (k : Int) ∧ v6 = .int .i64 v ∧ Hid (W1 = wx ∧ v = digV (s.data.toList.take k) ∧ 0 ≤ v ∧ v < 10 ^ k))
  case atStart => exact ⟨0, 0, rfl, Nat.zero_le _, rfl, rfl, Lib.hid ⟨rfl, rfl, by omega, by decide⟩⟩
  case round =>
    obtain ⟨k, v, rfl, hk, rfl, rfl, H⟩ := hrel
    obtain ⟨rfl, hv, hv0, hv1⟩ := H.out
    by_cases hlt : k < n
    · have hlt' : (k : Int) < (n : Int) := by omega
      have hks : k < s.size := by omega
      have hcell := HB.out k hks
      have hpw : (10 : Int) ^ k ≤ 10 ^ 8 := by
        have : (10 : Nat) ^ k ≤ 10 ^ 8 := Nat.pow_le_pow_right (by omega) (by omega)
        exact_mod_cast this
      obtain ⟨x, hx⟩ : ∃ x, s.data.toList.getD k 0 = x := ⟨_, rfl⟩
      rw [hx] at hcell
      have hgx : s.data.toList[k]? = some x := by
        rw [List.getD_eq_getElem?_getD, List.getElem?_eq_getElem (by simp; omega)] at hx
        rw [List.getElem?_eq_getElem (by simp; omega), ← hx]
        rfl
      have hdx : isDig x := HD.out x (List.mem_of_getElem? hgx)
      have hd1 : (48 : Int) ≤ (x.toNat : Int) := by have := hdx.1; omega
      have hd2 : (x.toNat : Int) ≤ 57 := by have := hdx.2; omega
      have hw8 : IntKind.u8.wrap ((x.toNat : Int) - 48) = (x.toNat : Int) - 48 := by rw [IntKind.wrap_u8]; omega
      have hle : (x.toNat : Int) - 48 ≤ 9 := by omega
      have hw1 : IntKind.i64.wrap (v * 10) = v * 10 := by rw [IntKind.wrap_i64]; omega
      have hw2 : IntKind.i64.wrap ((x.toNat : Int) - 48) = (x.toNat : Int) - 48 := by rw [IntKind.wrap_i64]; omega
      have hw3 : IntKind.i64.wrap (v * 10 + ((x.toNat : Int) - 48)) = v * 10 + ((x.toNat : Int) - 48) := by rw [IntKind.wrap_i64]; omega
      have HV : Hid (v * 10 + ((x.toNat : Int) - 48) = digV (s.data.toList.take (k + 1)) ∧ 0 ≤ v * 10 + ((x.toNat : Int) - 48) ∧ v * 10 + ((x.toNat : Int) - 48) < 10 ^ (k + 1)) := Lib.hid (by
        refine ⟨?_, by omega, ?_⟩
        · rw [List.take_add_one, hgx]
          unfold digV at hv ⊢
          rw [List.foldl_append, ← hv]
          rfl
        · rw [Int.pow_succ]; omega)
      clear hv hv0 hv1 hpw hx hgx hdx H
      go_wp2_with fail
      go_roundg (n - (k + 1))
      case measure => omega
      case rel => exact ⟨k + 1, _, rfl, by omega, by go_num, rfl, Lib.hid ⟨rfl, HV.out⟩⟩
    · obtain rfl : k = n := by omega
      have HV : Hid (v = digV s.data.toList) := Lib.hid (by
        rw [hv, List.take_of_length_le (by rw [← HN.out]; simp)])
      clear hv hv0 hv1 H
      go_wp2_with fail
      go_ret2
      exact ⟨by rw [HV.out]; rfl, HW.out⟩
set_option maxRecDepth 100000 in
set_option maxHeartbeats 8000000 in
theorem satoi_digits (s : ByteArray) (w : World) (h1 : 1 ≤ s.size) (h9 : s.size ≤ 9) (hd : ∀ c ∈ s.data.toList, isDig c) :
    Calls Tryz.prog 213 #[.string s] w fun e w' => e = .returned (.tuple #[.int .i64 (digV s.data.toList), .nilIface]) ∧ Below w.heap.size w w' := by
  have HA := Lib.hid (atoi_digits s w h1 h9 hd)
  generalize digV s.data.toList = v at *
  clear h1 h9 hd
  go_enter Tryz.func213, Tryz.ntmps213
  go_wp2_with fail
  refine HA.out.mono ?_
  rintro e w1 ⟨rfl, hb⟩
  have HB := Lib.hid hb
  clear hb HA
  go_wp2_with fail
  go_ret2
  exact ⟨rfl, HB.out⟩

/-- the digits -/
def digs : ByteArray := ⟨#[48, 49, 50, 51, 52, 53, 54, 55, 56, 57]⟩
theorem digs_mem (c : UInt8) : digs.data.toList.contains c = true ↔ isDig c := by
  unfold isDig digs
  simp only [List.contains_iff_mem]
  constructor
  · intro h
    simp at h
    rcases h with h | h | h | h | h | h | h | h | h | h <;> subst h <;> decide
  · rintro ⟨h1, h2⟩
    have : c = UInt8.ofNat c.toNat := by simp
    rw [this]
    have h3 : c.toNat = 48 ∨ c.toNat = 49 ∨ c.toNat = 50 ∨ c.toNat = 51 ∨ c.toNat = 52 ∨ c.toNat = 53 ∨ c.toNat = 54 ∨ c.toNat = 55 ∨ c.toNat = 56 ∨ c.toNat = 57 := by omega
    rcases h3 with h | h | h | h | h | h | h | h | h | h <;> rw [h] <;> decide
def numF (s : ByteArray) : Int × Bool :=
  let d := if s.data.toList.head? = some 45 then s.data.toList.tail else s.data.toList
  if d = [] ∨ 9 < d.length ∨ (d.head? = some 48 ∧ 1 < s.size) ∨ d.all digs.data.toList.contains = false then (0, false)
  else (if s.data.toList.head? = some 45 then -digV d else digV d, true)
theorem digV_rng (l : List UInt8) (hl : l.length ≤ 9) (h : l.all digs.data.toList.contains = true) : 0 ≤ digV l ∧ digV l < 1000000000 := by
  have key : ∀ (l : List UInt8) (a : Int) (k : Nat), 0 ≤ a → a < 10 ^ k → (∀ c ∈ l, isDig c) → 0 ≤ l.foldl (fun n c => n * 10 + ((c.toNat : Int) - 48)) a ∧ l.foldl (fun n c => n * 10 + ((c.toNat : Int) - 48)) a < 10 ^ (k + l.length) := by
    intro l
    induction l with
    | nil => intro a k h1 h2 _; exact ⟨h1, by simpa using h2⟩
    | cons c l ih =>
      intro a k h1 h2 hd
      have hc := hd c (by simp)
      unfold isDig at hc
      have := ih (a * 10 + ((c.toNat : Int) - 48)) (k + 1) (by omega) (by rw [Int.pow_succ]; omega) (fun x hx => hd x (by simp [hx]))
      rw [List.length_cons, show k + (l.length + 1) = k + 1 + l.length from by omega]
      exact this
  have := key l 0 0 (by omega) (by decide) (fun c hc => (digs_mem c).1 (List.all_eq_true.1 h c hc))
  have hp : (10 : Int) ^ (0 + l.length) ≤ 10 ^ 9 := by
    have : (10 : Nat) ^ (0 + l.length) ≤ 10 ^ 9 := Nat.pow_le_pow_right (by omega) (by omega)
    exact_mod_cast this
  unfold digV
  omega
theorem all_eq (s : ByteArray) : allIn digs.data.toList s = s.data.toList.all digs.data.toList.contains := rfl

set_option maxRecDepth 100000 in
set_option maxHeartbeats 16000000 in
theorem number_any (s : ByteArray) (w : World) (hs : s.size ≤ 100000) :
    Calls Tryz.prog 140 #[.string s] w fun e w' => e = .returned (.tuple #[.int .i64 (numF s).1, .bool (numF s).2]) ∧ Below w.heap.size w w' := by
  have hmx : Tryz.prog.follows .mixedOrders = true := by kernel_rfl
  have HC := Lib.hid (cutp_any s w hs)
  have HT := Lib.hid (fun (d : ByteArray) (w : World) (hd : d.size ≤ 100000) => trim_any digs d w hd (by decide) (by decide) (by decide))
  unfold digs at HT
  obtain ⟨n, hn⟩ : ∃ n, s.size = n := ⟨_, rfl⟩
  have HN := Lib.hid hn
  go_enter Tryz.func140, Tryz.ntmps140
  go_wp2_with fail
  refine HC.out.mono ?_
  rintro e w1 ⟨rfl, hc⟩
  obtain ⟨d, neg, rfl, hdl, hdn, hdz⟩ : ∃ (d : ByteArray) (neg : Bool), e = .returned (.tuple #[.string d, .bool neg]) ∧ d.data.toList = (if s.data.toList.head? = some 45 then s.data.toList.tail else s.data.toList) ∧ (neg = true ↔ s.data.toList.head? = some 45) ∧ d.size ≤ s.size := by
    rcases hc with ⟨l, h1, rfl⟩ | ⟨h1, rfl⟩
    · refine ⟨_, _, rfl, ?_, by rw [h1]; simp, by rw [ByteArray.size_extract]; omega⟩
      rw [h1, ext_list, List.take_of_length_le (by simp), h1]
      rfl
    · exact ⟨_, _, rfl, by rw [if_neg h1], by simp [h1], Nat.le_refl _⟩
  have HD := Lib.hid hdl
  have HDN := Lib.hid hdn
  have hnf : numF s = if d.data.toList = [] ∨ 9 < d.data.toList.length ∨ (d.data.toList.head? = some 48 ∧ 1 < s.size) ∨ d.data.toList.all digs.data.toList.contains = false then (0, false) else (if neg = true then -digV d.data.toList else digV d.data.toList, true) := by
    unfold numF
    simp only [← hdl, hdn]
  have HF := Lib.hid hnf
  have hsz : d.data.toList.length = d.size := by simp
  have HSZ := Lib.hid hsz
  clear hc HC hdl hdn hnf hsz
  obtain ⟨m, hm⟩ : ∃ m, d.size = m := ⟨_, rfl⟩
  have HM := Lib.hid hm
  by_cases h0 : m = 0
  · have hd0 : d.data.toList = [] := List.length_eq_zero_iff.1 (by rw [HSZ.out, HM.out, h0])
    have HF2 := Lib.hid (HF.out.trans (if_pos (.inl hd0)))
    subst h0
    clear hd0
    go_wp2_with fail
    go_ret2
    exact ⟨by rw [HF2.out]; rfl, Below.refl _ _⟩
  have e0 : ((m : Int) == 0) = false := by rw [beq_eq_false_iff_ne]; omega
  by_cases h9 : 9 < m
  · have HF2 := Lib.hid (HF.out.trans (if_pos (.inr (.inl (by rw [HSZ.out, HM.out]; exact h9)))))
    have h9' : decide ((9 : Int) < (m : Int)) = true := decide_eq_true (by omega)
    go_wp2_with fail
    go_ret2
    exact ⟨by rw [HF2.out]; rfl, Below.refl _ _⟩
  have h9' : decide ((9 : Int) < (m : Int)) = false := decide_eq_false (by omega)
  have hpos : 0 < d.size := by omega
  have hpos' : (0 : Int) < (d.size : Int) := by omega
  obtain ⟨c, hc⟩ : ∃ c, d[0] = c := ⟨_, rfl⟩
  have hhd : d.data.toList.head? = some c := by
    rw [List.head?_eq_getElem?, List.getElem?_eq_getElem (by rw [HSZ.out]; exact hpos), ← hc]
    rfl
  by_cases h48 : c = 48 ∧ 1 < n
  · obtain ⟨rfl, hn1⟩ := h48
    have HF2 := Lib.hid (HF.out.trans (if_pos (.inr (.inr (.inl ⟨hhd, by rw [hn]; exact hn1⟩)))))
    have hn1' : decide ((1 : Int) < (n : Int)) = true := decide_eq_true (by omega)
    clear hhd
    go_wp2_with fail
    go_ret2
    exact ⟨by rw [HF2.out]; rfl, Below.refl _ _⟩
  have hk : ((c.toNat : Int) == 48) = false ∨ (((c.toNat : Int) == 48) = true ∧ decide ((1 : Int) < (n : Int)) = false) := by
    rcases hq : ((c.toNat : Int) == 48) with _ | _
    · exact .inl rfl
    · refine .inr ⟨rfl, decide_eq_false fun h => h48 ⟨?_, by omega⟩⟩
      rw [beq_iff_eq] at hq
      exact UInt8.toNat_inj.1 (by simp; omega)
  have HNO : Hid (¬ (d.data.toList.head? = some 48 ∧ 1 < s.size)) := Lib.hid (by
    rintro ⟨h1, h2⟩
    rw [hhd] at h1
    exact h48 ⟨Option.some.inj h1, by rw [← hn]; exact h2⟩)
  clear h48 hhd
  have HT1 := Lib.hid (HT.out d w (by omega))
  have HFIN : Hid (allIn digs.data.toList d = true → numF s = (if neg = true then -digV d.data.toList else digV d.data.toList, true) ∧ ∀ c ∈ d.data.toList, isDig c) := Lib.hid (by
    intro ha
    rw [all_eq] at ha
    refine ⟨?_, fun c hc => (digs_mem c).1 (List.all_eq_true.1 ha c hc)⟩
    rw [HF.out, if_neg]
    rintro (h | h | h | h)
    · rw [h] at ha
      have := HSZ.out
      rw [h] at this
      simp at this
      omega
    · rw [HSZ.out] at h; omega
    · exact HNO.out h
    · rw [ha] at h; cases h)
  clear HT
  rcases hk with hk | ⟨hk, hk2⟩
  · go_wp2_with fail
    refine HT1.out.mono ?_
    rintro e w2 ⟨⟨t, rfl, ht⟩, hb⟩
    have HB2 := Lib.hid hb
    clear hb HT1
    rcases ht with ⟨ha, rfl⟩ | ⟨ha, ht⟩
    · obtain ⟨hv, hdd⟩ := HFIN.out ha
      have HV := Lib.hid hv
      have HAT := Lib.hid (satoi_digits d w2 (by omega) (by omega) hdd)
      have hr := digV_rng d.data.toList (by rw [HSZ.out]; omega) ha
      generalize digV d.data.toList = v at *
      have hneg : IntKind.i64.wrap (-v) = -v := by rw [IntKind.wrap_i64]; omega
      clear hv hdd ha HFIN
      go_wp2_with fail
      refine HAT.out.mono ?_
      rintro e w3 ⟨rfl, hb3⟩
      have HB3 := Lib.hid (HB2.out.trans (hb3.mono HB2.out.size))
      clear hb3 HAT
      cases neg
      · go_wp2_with fail
        go_quiet (fail)
        go_wp2_with fail
        go_ret2
        exact ⟨by rw [HV.out]; rfl, HB3.out.trans ((bdrew _ _).mono HB3.out.size)⟩
      · go_wp2_with fail
        go_quiet (fail)
        go_wp2_with fail
        go_ret2
        exact ⟨by rw [HV.out]; rfl, HB3.out.trans ((bdrew _ _).mono HB3.out.size)⟩
    · have e9 := nil_ne ht
      have HA := Lib.hid (HF.out.trans (if_pos (.inr (.inr (.inr (by rw [← all_eq]; exact ha))))))
      clear ht ha HFIN
      go_wp2_with fail
      go_ret2
      exact ⟨by rw [HA.out]; rfl, HB2.out⟩
  · go_wp2_with fail
    refine HT1.out.mono ?_
    rintro e w2 ⟨⟨t, rfl, ht⟩, hb⟩
    have HB2 := Lib.hid hb
    clear hb HT1
    rcases ht with ⟨ha, rfl⟩ | ⟨ha, ht⟩
    · obtain ⟨hv, hdd⟩ := HFIN.out ha
      have HV := Lib.hid hv
      have HAT := Lib.hid (satoi_digits d w2 (by omega) (by omega) hdd)
      have hr := digV_rng d.data.toList (by rw [HSZ.out]; omega) ha
      generalize digV d.data.toList = v at *
      have hneg : IntKind.i64.wrap (-v) = -v := by rw [IntKind.wrap_i64]; omega
      clear hv hdd ha HFIN
      go_wp2_with fail
      refine HAT.out.mono ?_
      rintro e w3 ⟨rfl, hb3⟩
      have HB3 := Lib.hid (HB2.out.trans (hb3.mono HB2.out.size))
      clear hb3 HAT
      cases neg
      · go_wp2_with fail
        go_quiet (fail)
        go_wp2_with fail
        go_ret2
        exact ⟨by rw [HV.out]; rfl, HB3.out.trans ((bdrew _ _).mono HB3.out.size)⟩
      · go_wp2_with fail
        go_quiet (fail)
        go_wp2_with fail
        go_ret2
        exact ⟨by rw [HV.out]; rfl, HB3.out.trans ((bdrew _ _).mono HB3.out.size)⟩
    · have e9 := nil_ne ht
      have HA := Lib.hid (HF.out.trans (if_pos (.inr (.inr (.inr (by rw [← all_eq]; exact ha))))))
      clear ht ha HFIN
      go_wp2_with fail
      go_ret2
      exact ⟨by rw [HA.out]; rfl, HB2.out⟩
end Go.Proofs.YtjicdcmdgbcdcaaGreatDoor.Scr
end
section
namespace Go.Proofs.YtjicdcmdgbcdcaaGreatDoor.Scr
set_option linter.unusedSimpArgs false
set_option linter.unusedVariables false
open Go Go.RowKit Mem Turn Ring

theorem made_cells (k : Nat) : madeCells (Value.agg #[.int .i64 0, .slice none 0 0]).cells (k * 2) = (flatC (List.replicate k (0, .slice none 0 0))).toArray := by
  apply Array.ext
  · rw [size_madeCells, List.size_toArray, flatC_len, List.length_replicate]
  · intro i h1 h2
    have h3 : i < k * 2 := by rw [size_madeCells] at h1; exact h1
    have hg : (flatC (List.replicate k ((0 : Int), Value.slice none 0 0)))[i]? = some (if i % 2 = 0 then .int .i64 0 else .slice none 0 0) := by
      have := flatC_get (l := List.replicate k ((0 : Int), Value.slice none 0 0)) (k := i / 2) (r := (0, .slice none 0 0)) (by rw [List.getElem?_replicate, if_pos (by omega)])
      by_cases he : i % 2 = 0
      · rw [if_pos he, show i = i / 2 * 2 from by omega]
        exact this.1
      · rw [if_neg he]
        have h4 := this.2
        rw [show i / 2 * 2 + 1 = i from by omega] at h4
        exact h4
    have : (flatC (List.replicate k ((0 : Int), Value.slice none 0 0))).toArray[i] = (if i % 2 = 0 then .int .i64 0 else .slice none 0 0) := by
      rw [List.getElem_toArray]
      rw [List.getElem?_eq_getElem (by simpa using h2)] at hg
      injection hg
    rw [this]
    unfold madeCells
    by_cases he : i % 2 = 0
    · rw [if_pos he]
      simp [Value.cells, he]
    · rw [if_neg he]
      have he' : i % 2 = 1 := by omega
      simp [Value.cells, he']
theorem make_blanks (z : Int) (k : Nat) (hz : z = (k : Int)) (hk : k ≤ 1024) (W : World) : (Instr.makeSlice 43 (.int .i64 z) (.int .i64 z)).run Tryz.prog W = .ok (.slice (some ⟨W.heap.size, 0, none⟩) k k) (W.alloc (.cells (flatC (List.replicate k (0, .slice none 0 0))).toArray 80)) := by
  obtain ⟨i0, hi, hz0, hz1, hz2⟩ := info_parts info_cell
  subst hz
  have := run_makeSlice (P := Tryz.prog) W 43 80 i0 _ Tryz.underlying43 hi hz0 .i64 .i64 (k : Int) (k : Int) (by omega) (Int.le_refl _) (by rw [hz1]; simp; omega) (by rw [hz2]; omega) (by omega)
  rw [hz1] at this
  simp only [Int.toNat_natCast] at this
  rw [made_cells] at this
  exact this

set_option maxRecDepth 100000 in
set_option maxHeartbeats 4000000 in
theorem blanks_any (n : Int) (m : Nat) (hm : (m : Int) = max 0 (min n 1024)) (w : World) :
    Calls Tryz.prog 124 #[.int .i64 n] w fun e w' => e = .returned (.slice (some ⟨w.heap.size, 0, none⟩) m m) ∧ w' = w.alloc (.cells (flatC (List.replicate m (0, .slice none 0 0))).toArray 80) := by
  have HK := Lib.hid (fun z hz => make_blanks z m hz (by omega))
  generalize (flatC (List.replicate m ((0 : Int), Value.slice none 0 0))).toArray = Z at *
  by_cases h0 : n ≤ 0
  · have q := HK.out 0 (by omega)
    have h1 : n < 1024 := by omega
    clear hm
    go_enter Tryz.func124, Tryz.ntmps124
    go_wp2_with fail
    go_ret
    exact ⟨rfl, rfl⟩
  · by_cases h1 : n ≤ 1024
    · have q := HK.out n (by omega)
      have h2 : 0 ≤ n := by omega
      clear hm
      go_enter Tryz.func124, Tryz.ntmps124
      go_wp2_with fail
      go_ret
      exact ⟨rfl, rfl⟩
    · have q := HK.out 1024 (by omega)
      have h2 : 1024 ≤ n := by omega
      clear hm
      go_enter Tryz.func124, Tryz.ntmps124
      go_wp2_with fail
      go_ret
      exact ⟨rfl, rfl⟩

theorem txts_blanks (w : World) (m : Nat) : Txts w (List.replicate m (0, .slice none 0 0)) (blanks m) := by
  refine ⟨by simp [blanks], fun j r x hr hx => ?_⟩
  unfold blanks at hx
  rw [List.getElem?_replicate] at hr hx
  split at hr
  · rename_i h
    rw [if_pos h] at hx
    injection hr with hr
    injection hx with hx
    subst hr hx
    exact ⟨rfl, TxtAt.nil _⟩
  · cases hr
theorem blanks_in (w : World) (m : Nat) : CellsIn (w.alloc (.cells (flatC (List.replicate m (0, .slice none 0 0))).toArray 80)) w.heap.size (blanks m) :=
  ⟨_, heap_alloc_new w _, txts_blanks _ _⟩
/-- a block of blanks as a slice that is read -/
theorem blanks_at (w : World) (m : Nat) (hm : m ≤ 1024) : CellsAt (fun b => b = w.heap.size) False (w.alloc (.cells (flatC (List.replicate m (0, .slice none 0 0))).toArray 80)) (.slice (some ⟨w.heap.size, 0, none⟩) m m) (blanks m) := by
  have hl : (blanks m).length = m := by simp [blanks]
  refine ⟨_, m, by rw [hl], by rw [hl]; exact Nat.le_refl _, by rw [hl]; omega, ?_⟩
  refine .inr ⟨w.heap.size, 0, rfl, by simp, rfl, fun j x hx => ?_⟩
  have hj : j < m := by have := (List.getElem?_eq_some_iff.1 hx).1; rw [hl] at this; exact this
  obtain ⟨v, g1, g2, g3, _⟩ := (blanks_in w m).cell (i := j) (by rw [hl]; exact hj)
  have hb : (blanks m).getD j blank = blank := by simp [blanks, List.getD_eq_getElem?_getD, List.getElem?_replicate, hj]
  have hx2 : x = blank := by
    unfold blanks at hx
    rw [List.getElem?_replicate, if_pos hj] at hx
    injection hx with hx
    exact hx.symm
  rw [hb] at g1 g3
  subst hx2
  rw [Nat.zero_add]
  obtain ⟨r1, r2⟩ := flatC_get (l := List.replicate m ((0 : Int), Value.slice none 0 0)) (k := j) (r := (0, .slice none 0 0)) (by rw [List.getElem?_replicate, if_pos hj])
  refine ⟨g1, fun f => f.elim, .slice none 0 0, ?_, TextAt.nil _ _ _⟩
  have h9 := heap_alloc_new w (.cells (flatC (List.replicate m ((0 : Int), Value.slice none 0 0))).toArray 80)
  simp only [World.cell?, h9]
  simpa using r2

theorem row_new (w : World) (m : Nat) (h1 : 1 ≤ m) (h2 : m ≤ 1024) : RowAt ((w.alloc (.cells (flatC (List.replicate m (0, .slice none 0 0))).toArray 80)).alloc (.cells #[.slice (some ⟨w.heap.size, 0, none⟩) m m, .bool false] 198)) (w.heap.size + 1) w.heap.size (blanks m, false) := by
  have hl : (blanks m).length = m := by simp [blanks]
  have h9 := heap_alloc_new (w.alloc (.cells (flatC (List.replicate m ((0 : Int), Value.slice none 0 0))).toArray 80)) (.cells #[.slice (some ⟨w.heap.size, 0, none⟩) m m, .bool false] 198)
  rw [World.size_alloc] at h9
  exact ⟨by rw [hl]; exact h9, (blanks_in w m).turn (Turn.alloc (fun _ => False) _ _) (Free.no _ _) id, by rw [hl]; exact h1, by rw [hl]; exact h2⟩

set_option maxRecDepth 100000 in
set_option maxHeartbeats 4000000 in
theorem new_any (n : Int) (m : Nat) (hm : (m : Int) = max 1 (min n 1024)) (w : World) :
    Calls Tryz.prog 119 #[.int .i64 n] w fun e w' => e = .returned (.pointer (some ⟨w.heap.size + 1, 0, none⟩)) ∧ RowAt w' (w.heap.size + 1) w.heap.size (blanks m, false) ∧ Below w.heap.size w w' ∧ w'.heap.size = w.heap.size + 2 := by
  have HF : Hid (∀ W, W = w.alloc (.cells (flatC (List.replicate m (0, .slice none 0 0))).toArray 80) → RowAt (W.alloc (.cells #[.slice (some ⟨w.heap.size, 0, none⟩) m m, .bool false] 198)) (w.heap.size + 1) w.heap.size (blanks m, false) ∧ Below w.heap.size w (W.alloc (.cells #[.slice (some ⟨w.heap.size, 0, none⟩) m m, .bool false] 198)) ∧ (W.alloc (.cells #[.slice (some ⟨w.heap.size, 0, none⟩) m m, .bool false] 198)).heap.size = w.heap.size + 2 ∧ W.heap.size = w.heap.size + 1) := Lib.hid fun W hW => by
    subst hW
    exact ⟨row_new w m (by omega) (by omega), ((Below.refl _ _).alloc (Nat.le_refl _) _).alloc (by simp) _, by simp, by simp⟩
  have HB := Lib.hid (fun (z : Int) (hz : max 1 (min n 1024) = max 0 (min z 1024)) => blanks_any z m (by omega) w)
  go_enter Tryz.func119, Tryz.ntmps119
  go_wp2_with fail
  all_goals
    refine (HB.out _ (by omega)).mono ?_
    rintro e w1 ⟨rfl, h⟩
    obtain ⟨g1, g2, g3, g4⟩ := HF.out w1 h
    have HG := Lib.hid (And.intro g1 (And.intro g2 g3))
    clear g1 g2 g3 h
    go_wp2_with fail
    go_ret
    exact ⟨rfl, HG.out⟩
end Go.Proofs.YtjicdcmdgbcdcaaGreatDoor.Scr
end

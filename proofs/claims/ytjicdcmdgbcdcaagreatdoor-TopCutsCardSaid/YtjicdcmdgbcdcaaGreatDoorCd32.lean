/-
  script.number: CutPrefix at one byte, strconv.Atoi at digits.
  script.numbers at two numbers that are right; script.raw, feed at bytes that are right.
-/
import Derived.Test.YtjicdcmdgbcdcaaGreatDoorCd28
import Derived.Lib.AtoiErrMem
import Derived.Deep.QuietTactic
import Derived.BigQuiet
section
namespace Go.Proofs.YtjicdcmdgbcdcaaGreatDoor.Scr
set_option linter.unusedSimpArgs false
set_option linter.unusedVariables false
open Go Go.RowKit Mem Turn Ring

theorem eq_false_of {a b : List UInt8} (h : a ≠ b) : (a == b) = false := by rw [beq_eq_false_iff_ne]; exact h
set_option maxRecDepth 100000 in
set_option maxHeartbeats 8000000 in
theorem cutp_any (s : ByteArray) (w : World) (hs : s.size ≤ 100000) :
    Calls Tryz.prog 211 #[.string s, .string ⟨#[45]⟩] w fun e w' => w = w' ∧ ((∃ l, s.data.toList = 45 :: l ∧ e = .returned (.tuple #[.string (s.extract 1 s.size), .bool true])) ∨ (s.data.toList.head? ≠ some 45 ∧ e = .returned (.tuple #[.string s, .bool false]))) := by
  by_cases h0 : s.size = 0
  · obtain rfl := empty_of s h0
    clear h0 hs
    go_enter Tryz.func211, Tryz.ntmps211
    go_wp2
    go_ret2
    exact ⟨rfl, .inr ⟨by decide, rfl⟩⟩
  · have h1 : (1 : Int) ≤ (s.size : Int) := by omega
    have h1' : 1 ≤ s.size := by omega
    have hl : (s.extract 0 1).toList = s.data.toList.take 1 := by rw [ByteArray.toList_eq, ext_list, List.drop_zero]
    by_cases hp : s.data.toList.head? = some 45
    · have e1 : ((s.extract 0 1).toList == [45]) = true := by
        rw [hl]
        rcases e : s.data.toList with _ | ⟨x, l⟩
        · rw [e] at hp; cases hp
        · rw [e] at hp
          simp at hp
          subst hp
          rfl
      have HP := Lib.hid hp
      clear hl hp h0
      go_enter Tryz.func211, Tryz.ntmps211
      go_wp2
      go_ret2
      refine ⟨rfl, .inl ?_⟩
      rcases e : s.data.toList with _ | ⟨x, l⟩
      · have := HP.out; rw [e] at this; cases this
      · have := HP.out
        rw [e] at this
        simp at this
        subst this
        exact ⟨l, rfl, rfl⟩
    · have e1 : ((s.extract 0 1).toList == [45]) = false := by
        apply eq_false_of
        rw [hl]
        intro e
        rcases e2 : s.data.toList with _ | ⟨x, l⟩
        · rw [e2] at e; cases e
        · rw [e2] at e hp
          simp at e hp
          exact hp e
      have HP := Lib.hid hp
      clear hl hp h0
      go_enter Tryz.func211, Tryz.ntmps211
      go_wp2
      go_ret2
      exact ⟨rfl, .inr ⟨HP.out, rfl⟩⟩

/-- the value of digits -/
def digV (l : List UInt8) : Int := l.foldl (fun n c => n * 10 + ((c.toNat : Int) - 48)) 0
def isDig (c : UInt8) : Prop := 48 ≤ c.toNat ∧ c.toNat ≤ 57
set_option maxRecDepth 100000 in
set_option maxHeartbeats 8000000 in
theorem atoi_digits (s : ByteArray) (w : World) (h1 : 1 ≤ s.size) (h9 : s.size ≤ 9) (hd : ∀ c ∈ s.data.toList, isDig c) :
    Calls Tryz.prog 263 #[.string s] w fun e w' => e = .returned (.tuple #[.int .i64 (digV s.data.toList), .nilIface]) ∧ Below w.heap.size w w' := by
  obtain ⟨n, hn⟩ : ∃ n, s.size = n := ⟨_, rfl⟩
  have HN := Lib.hid hn
  have HD := Lib.hid hd
  have h0 : 0 < s.size := by omega
  have h0' : (0 : Int) < (n : Int) := by omega
  have h19 : (n : Int) < 19 := by omega
  obtain ⟨c, hc⟩ : ∃ c, s[0] = c := ⟨_, rfl⟩
  have hcd : isDig c := by
    rw [← hc]
    exact hd _ (by rw [Array.mem_toList_iff]; exact Array.getElem_mem _)
  have c1 : ((c.toNat : Int) == 45) = false := by rw [beq_eq_false_iff_ne]; have := hcd.1; omega
  have c2 : ((c.toNat : Int) == 43) = false := by rw [beq_eq_false_iff_ne]; have := hcd.1; omega
  clear hd hcd
  have hcv := Lib.run_convert_string_bytes (P := Tryz.prog) w 9 28 5 s (u := .string) Tryz.underlying9 Tryz.underlying28 Tryz.underlying5
  have HB : Hid (∀ j, j < s.size → (Lib.bytesWorld w 5 s).cell? ⟨w.heap.size, j, none⟩ = some (.int .u8 (s.data.toList.getD j 0).toNat)) := Lib.hid (Lib.bytesWorld_cell w 5 s)
  have HW : Hid (Below w.heap.size w (Lib.bytesWorld w 5 s)) := Lib.hid (Lib.bytesWorld_below _ _ _)
  obtain ⟨W1, hW1⟩ : ∃ W1, W1 = Lib.bytesWorld w 5 s := ⟨_, rfl⟩
  rw [← hW1] at hcv HB HW
  obtain ⟨cp, hcp⟩ : ∃ cp, cp = grownCap w s.size 0 5 := ⟨_, rfl⟩
  rw [← hcp] at hcv
  clear hW1 hcp
  go_enter Tryz.func263, Tryz.ntmps263
  go_wp2_with fail
  go_loopg [6, 8, 49] n (fun gg v6 v8 v49 wx => ∃ (k : Nat) (v : Int), n - k = gg ∧ k ≤ n ∧ v49 = .int .i64 (k : Int) ∧ v6 = .int .i64 v ∧ Hid (W1 = wx ∧ v = digV (s.data.toList.take k) ∧ 0 ≤ v ∧ v < 10 ^ k))
  case atStart => exact ⟨0, 0, rfl, Nat.zero_le _, rfl, rfl, Lib.hid ⟨rfl, rfl, by omega, by decide⟩⟩
  case round =>
    obtain ⟨k, v, rfl, hk, rfl, rfl, H⟩ := hrel
    obtain ⟨rfl, hv, hv0, hv1⟩ := H.out
    by_cases hlt : k < n
    · have hlt' : (k : Int) < (n : Int) := by omega
      have hks : k < s.size := by omega
      have hcell := HB.out k hks
      have hpw : (10 : Int) ^ k ≤ 10 ^ 8 := by
        have : (10 : Nat) ^ k ≤ 10 ^ 8 := Nat.pow_le_pow_right (by omega) (by omega)
        exact_mod_cast this
      obtain ⟨x, hx⟩ : ∃ x, s.data.toList.getD k 0 = x := ⟨_, rfl⟩
      rw [hx] at hcell
      have hgx : s.data.toList[k]? = some x := by
        rw [List.getD_eq_getElem?_getD, List.getElem?_eq_getElem (by simp; omega)] at hx
        rw [List.getElem?_eq_getElem (by simp; omega), ← hx]
        rfl
      have hdx : isDig x := HD.out x (List.mem_of_getElem? hgx)
      have hd1 : (48 : Int) ≤ (x.toNat : Int) := by have := hdx.1; omega
      have hd2 : (x.toNat : Int) ≤ 57 := by have := hdx.2; omega
      have hw8 : IntKind.u8.wrap ((x.toNat : Int) - 48) = (x.toNat : Int) - 48 := by rw [IntKind.wrap_u8]; omega
      have hle : (x.toNat : Int) - 48 ≤ 9 := by omega
      have hw1 : IntKind.i64.wrap (v * 10) = v * 10 := by rw [IntKind.wrap_i64]; omega
      have hw2 : IntKind.i64.wrap ((x.toNat : Int) - 48) = (x.toNat : Int) - 48 := by rw [IntKind.wrap_i64]; omega
      have hw3 : IntKind.i64.wrap (v * 10 + ((x.toNat : Int) - 48)) = v * 10 + ((x.toNat : Int) - 48) := by rw [IntKind.wrap_i64]; omega
      have HV : Hid (v * 10 + ((x.toNat : Int) - 48) = digV (s.data.toList.take (k + 1)) ∧ 0 ≤ v * 10 + ((x.toNat : Int) - 48) ∧ v * 10 + ((x.toNat : Int) - 48) < 10 ^ (k + 1)) := Lib.hid (by
        refine ⟨?_, by omega, ?_⟩
        · rw [List.take_add_one, hgx]
          unfold digV at hv ⊢
          rw [List.foldl_append, ← hv]
          rfl
        · rw [Int.pow_succ]; omega)
      clear hv hv0 hv1 hpw hx hgx hdx H
      go_wp2_with fail
      go_roundg (n - (k + 1))
      case measure => omega
      case rel => exact ⟨k + 1, _, rfl, by omega, by go_num, rfl, Lib.hid ⟨rfl, HV.out⟩⟩
    · obtain rfl : k = n := by omega
      have HV : Hid (v = digV s.data.toList) := Lib.hid (by
        rw [hv, List.take_of_length_le (by rw [← HN.out]; simp)])
      clear hv hv0 hv1 H
      go_wp2_with fail
      go_ret2
      exact ⟨by rw [HV.out]; rfl, HW.out⟩
set_option maxRecDepth 100000 in
set_option maxHeartbeats 8000000 in
theorem satoi_digits (s : ByteArray) (w : World) (h1 : 1 ≤ s.size) (h9 : s.size ≤ 9) (hd : ∀ c ∈ s.data.toList, isDig c) :
    Calls Tryz.prog 213 #[.string s] w fun e w' => e = .returned (.tuple #[.int .i64 (digV s.data.toList), .nilIface]) ∧ Below w.heap.size w w' := by
  have HA := Lib.hid (atoi_digits s w h1 h9 hd)
  generalize digV s.data.toList = v at *
  clear h1 h9 hd
  go_enter Tryz.func213, Tryz.ntmps213
  go_wp2_with fail
  refine HA.out.mono ?_
  rintro e w1 ⟨rfl, hb⟩
  have HB := Lib.hid hb
  clear hb HA
  go_wp2_with fail
  go_ret2
  exact ⟨rfl, HB.out⟩

/-- the digits -/
def digs : ByteArray := ⟨#[48, 49, 50, 51, 52, 53, 54, 55, 56, 57]⟩
theorem digs_mem (c : UInt8) : digs.data.toList.contains c = true ↔ isDig c := by
  unfold isDig digs
  simp only [List.contains_iff_mem]
  constructor
  · intro h
    simp at h
    rcases h with h | h | h | h | h | h | h | h | h | h <;> subst h <;> decide
  · rintro ⟨h1, h2⟩
    have : c = UInt8.ofNat c.toNat := by simp
    rw [this]
    have h3 : c.toNat = 48 ∨ c.toNat = 49 ∨ c.toNat = 50 ∨ c.toNat = 51 ∨ c.toNat = 52 ∨ c.toNat = 53 ∨ c.toNat = 54 ∨ c.toNat = 55 ∨ c.toNat = 56 ∨ c.toNat = 57 := by omega
    rcases h3 with h | h | h | h | h | h | h | h | h | h <;> rw [h] <;> decide
def numF (s : ByteArray) : Int × Bool :=
  let d := if s.data.toList.head? = some 45 then s.data.toList.tail else s.data.toList
  if d = [] ∨ 9 < d.length ∨ (d.head? = some 48 ∧ 1 < s.size) ∨ d.all digs.data.toList.contains = false then (0, false)
  else (if s.data.toList.head? = some 45 then -digV d else digV d, true)
theorem digV_rng (l : List UInt8) (hl : l.length ≤ 9) (h : l.all digs.data.toList.contains = true) : 0 ≤ digV l ∧ digV l < 1000000000 := by
  have key : ∀ (l : List UInt8) (a : Int) (k : Nat), 0 ≤ a → a < 10 ^ k → (∀ c ∈ l, isDig c) → 0 ≤ l.foldl (fun n c => n * 10 + ((c.toNat : Int) - 48)) a ∧ l.foldl (fun n c => n * 10 + ((c.toNat : Int) - 48)) a < 10 ^ (k + l.length) := by
    intro l
    induction l with
    | nil => intro a k h1 h2 _; exact ⟨h1, by simpa using h2⟩
    | cons c l ih =>
      intro a k h1 h2 hd
      have hc := hd c (by simp)
      unfold isDig at hc
      have := ih (a * 10 + ((c.toNat : Int) - 48)) (k + 1) (by omega) (by rw [Int.pow_succ]; omega) (fun x hx => hd x (by simp [hx]))
      rw [List.length_cons, show k + (l.length + 1) = k + 1 + l.length from by omega]
      exact this
  have := key l 0 0 (by omega) (by decide) (fun c hc => (digs_mem c).1 (List.all_eq_true.1 h c hc))
  have hp : (10 : Int) ^ (0 + l.length) ≤ 10 ^ 9 := by
    have : (10 : Nat) ^ (0 + l.length) ≤ 10 ^ 9 := Nat.pow_le_pow_right (by omega) (by omega)
    exact_mod_cast this
  unfold digV
  omega
theorem all_eq (s : ByteArray) : allIn digs.data.toList s = s.data.toList.all digs.data.toList.contains := rfl

set_option maxRecDepth 100000 in
set_option maxHeartbeats 16000000 in
theorem number_any (s : ByteArray) (w : World) (hs : s.size ≤ 100000) :
    Calls Tryz.prog 140 #[.string s] w fun e w' => e = .returned (.tuple #[.int .i64 (numF s).1, .bool (numF s).2]) ∧ Below w.heap.size w w' := by
  have hmx : Tryz.prog.follows .mixedOrders = true := by kernel_rfl
  have HC := Lib.hid (cutp_any s w hs)
  have HT := Lib.hid (fun (d : ByteArray) (w : World) (hd : d.size ≤ 100000) => trim_any digs d w hd (by decide) (by decide) (by decide))
  unfold digs at HT
  obtain ⟨n, hn⟩ : ∃ n, s.size = n := ⟨_, rfl⟩
  have HN := Lib.hid hn
  go_enter Tryz.func140, Tryz.ntmps140
  go_wp2_with fail
  refine HC.out.mono ?_
  rintro e w1 ⟨rfl, hc⟩
  obtain ⟨d, neg, rfl, hdl, hdn, hdz⟩ : ∃ (d : ByteArray) (neg : Bool), e = .returned (.tuple #[.string d, .bool neg]) ∧ d.data.toList = (if s.data.toList.head? = some 45 then s.data.toList.tail else s.data.toList) ∧ (neg = true ↔ s.data.toList.head? = some 45) ∧ d.size ≤ s.size := by
    rcases hc with ⟨l, h1, rfl⟩ | ⟨h1, rfl⟩
    · refine ⟨_, _, rfl, ?_, by rw [h1]; simp, by rw [ByteArray.size_extract]; omega⟩
      rw [h1, ext_list, List.take_of_length_le (by simp), h1]
      rfl
    · exact ⟨_, _, rfl, by rw [if_neg h1], by simp [h1], Nat.le_refl _⟩
  have HD := Lib.hid hdl
  have HDN := Lib.hid hdn
  have hnf : numF s = if d.data.toList = [] ∨ 9 < d.data.toList.length ∨ (d.data.toList.head? = some 48 ∧ 1 < s.size) ∨ d.data.toList.all digs.data.toList.contains = false then (0, false) else (if neg = true then -digV d.data.toList else digV d.data.toList, true) := by
    unfold numF
    simp only [← hdl, hdn]
  have HF := Lib.hid hnf
  have hsz : d.data.toList.length = d.size := by simp
  have HSZ := Lib.hid hsz
  clear hc HC hdl hdn hnf hsz
  obtain ⟨m, hm⟩ : ∃ m, d.size = m := ⟨_, rfl⟩
  have HM := Lib.hid hm
  by_cases h0 : m = 0
  · have hd0 : d.data.toList = [] := List.length_eq_zero_iff.1 (by rw [HSZ.out, HM.out, h0])
    have HF2 := Lib.hid (HF.out.trans (if_pos (.inl hd0)))
    subst h0
    clear hd0
    go_wp2_with fail
    go_ret2
    exact ⟨by rw [HF2.out]; rfl, Below.refl _ _⟩
  have e0 : ((m : Int) == 0) = false := by rw [beq_eq_false_iff_ne]; omega
  by_cases h9 : 9 < m
  · have HF2 := Lib.hid (HF.out.trans (if_pos (.inr (.inl (by rw [HSZ.out, HM.out]; exact h9)))))
    have h9' : decide ((9 : Int) < (m : Int)) = true := decide_eq_true (by omega)
    go_wp2_with fail
    go_ret2
    exact ⟨by rw [HF2.out]; rfl, Below.refl _ _⟩
  have h9' : decide ((9 : Int) < (m : Int)) = false := decide_eq_false (by omega)
  have hpos : 0 < d.size := by omega
  have hpos' : (0 : Int) < (d.size : Int) := by omega
  obtain ⟨c, hc⟩ : ∃ c, d[0] = c := ⟨_, rfl⟩
  have hhd : d.data.toList.head? = some c := by
    rw [List.head?_eq_getElem?, List.getElem?_eq_getElem (by rw [HSZ.out]; exact hpos), ← hc]
    rfl
  by_cases h48 : c = 48 ∧ 1 < n
  · obtain ⟨rfl, hn1⟩ := h48
    have HF2 := Lib.hid (HF.out.trans (if_pos (.inr (.inr (.inl ⟨hhd, by rw [hn]; exact hn1⟩)))))
    have hn1' : decide ((1 : Int) < (n : Int)) = true := decide_eq_true (by omega)
    clear hhd
    go_wp2_with fail
    go_ret2
    exact ⟨by rw [HF2.out]; rfl, Below.refl _ _⟩
  have hk : ((c.toNat : Int) == 48) = false ∨ (((c.toNat : Int) == 48) = true ∧ decide ((1 : Int) < (n : Int)) = false) := by
    rcases hq : ((c.toNat : Int) == 48) with _ | _
    · exact .inl rfl
    · refine .inr ⟨rfl, decide_eq_false fun h => h48 ⟨?_, by omega⟩⟩
      rw [beq_iff_eq] at hq
      exact UInt8.toNat_inj.1 (by simp; omega)
  have HNO : Hid (¬ (d.data.toList.head? = some 48 ∧ 1 < s.size)) := Lib.hid (by
    rintro ⟨h1, h2⟩
    rw [hhd] at h1
    exact h48 ⟨Option.some.inj h1, by rw [← hn]; exact h2⟩)
  clear h48 hhd
  have HT1 := Lib.hid (HT.out d w (by omega))
  have HFIN : Hid (allIn digs.data.toList d = true → numF s = (if neg = true then -digV d.data.toList else digV d.data.toList, true) ∧ ∀ c ∈ d.data.toList, isDig c) := Lib.hid (by
    intro ha
    rw [all_eq] at ha
    refine ⟨?_, fun c hc => (digs_mem c).1 (List.all_eq_true.1 ha c hc)⟩
    rw [HF.out, if_neg]
    rintro (h | h | h | h)
    · rw [h] at ha
      have := HSZ.out
      rw [h] at this
      simp at this
      omega
    · rw [HSZ.out] at h; omega
    · exact HNO.out h
    · rw [ha] at h; cases h)
  clear HT
  rcases hk with hk | ⟨hk, hk2⟩
  · go_wp2_with fail
    refine HT1.out.mono ?_
    rintro e w2 ⟨⟨t, rfl, ht⟩, hb⟩
    have HB2 := Lib.hid hb
    clear hb HT1
    rcases ht with ⟨ha, rfl⟩ | ⟨ha, ht⟩
    · obtain ⟨hv, hdd⟩ := HFIN.out ha
      have HV := Lib.hid hv
      have HAT := Lib.hid (satoi_digits d w2 (by omega) (by omega) hdd)
      have hr := digV_rng d.data.toList (by rw [HSZ.out]; omega) ha
      generalize digV d.data.toList = v at *
      have hneg : IntKind.i64.wrap (-v) = -v := by rw [IntKind.wrap_i64]; omega
      clear hv hdd ha HFIN
      go_wp2_with fail
      refine HAT.out.mono ?_
      rintro e w3 ⟨rfl, hb3⟩
      have HB3 := Lib.hid (HB2.out.trans (hb3.mono HB2.out.size))
      clear hb3 HAT
      cases neg
      · go_wp2_with fail
        go_quiet (fail)
        go_wp2_with fail
        go_ret2
        exact ⟨by rw [HV.out]; rfl, HB3.out.trans ((bdrew _ _).mono HB3.out.size)⟩
      · go_wp2_with fail
        go_quiet (fail)
        go_wp2_with fail
        go_ret2
        exact ⟨by rw [HV.out]; rfl, HB3.out.trans ((bdrew _ _).mono HB3.out.size)⟩
    · have e9 := nil_ne ht
      have HA := Lib.hid (HF.out.trans (if_pos (.inr (.inr (.inr (by rw [← all_eq]; exact ha))))))
      clear ht ha HFIN
      go_wp2_with fail
      go_ret2
      exact ⟨by rw [HA.out]; rfl, HB2.out⟩
  · go_wp2_with fail
    refine HT1.out.mono ?_
    rintro e w2 ⟨⟨t, rfl, ht⟩, hb⟩
    have HB2 := Lib.hid hb
    clear hb HT1
    rcases ht with ⟨ha, rfl⟩ | ⟨ha, ht⟩
    · obtain ⟨hv, hdd⟩ := HFIN.out ha
      have HV := Lib.hid hv
      have HAT := Lib.hid (satoi_digits d w2 (by omega) (by omega) hdd)
      have hr := digV_rng d.data.toList (by rw [HSZ.out]; omega) ha
      generalize digV d.data.toList = v at *
      have hneg : IntKind.i64.wrap (-v) = -v := by rw [IntKind.wrap_i64]; omega
      clear hv hdd ha HFIN
      go_wp2_with fail
      refine HAT.out.mono ?_
      rintro e w3 ⟨rfl, hb3⟩
      have HB3 := Lib.hid (HB2.out.trans (hb3.mono HB2.out.size))
      clear hb3 HAT
      cases neg
      · go_wp2_with fail
        go_quiet (fail)
        go_wp2_with fail
        go_ret2
        exact ⟨by rw [HV.out]; rfl, HB3.out.trans ((bdrew _ _).mono HB3.out.size)⟩
      · go_wp2_with fail
        go_quiet (fail)
        go_wp2_with fail
        go_ret2
        exact ⟨by rw [HV.out]; rfl, HB3.out.trans ((bdrew _ _).mono HB3.out.size)⟩
    · have e9 := nil_ne ht
      have HA := Lib.hid (HF.out.trans (if_pos (.inr (.inr (.inr (by rw [← all_eq]; exact ha))))))
      clear ht ha HFIN
      go_wp2_with fail
      go_ret2
      exact ⟨by rw [HA.out]; rfl, HB2.out⟩
end Go.Proofs.YtjicdcmdgbcdcaaGreatDoor.Scr
end
section
namespace Go.Proofs.YtjicdcmdgbcdcaaGreatDoor.Scr
set_option linter.unusedSimpArgs false
set_option linter.unusedVariables false
open Go Go.RowKit Mem Turn Ring

/-- the words of a line -/
def WordsAt (w : World) (b : Nat) (ws : List ByteArray) : Prop := w.heap[b]? = some (.cells (ws.map Value.string).toArray 9 (0, 0)) ∧ ∀ x ∈ ws, x.size ≤ 100000
theorem WordsAt.below {w w' : World} {b : Nat} {ws : List ByteArray} (h : WordsAt w b ws) (hb : Below w.heap.size w w') : WordsAt w' b ws := ⟨(Turn.of_new hb : Turn (fun _ => False) w w').heap h.1 id, h.2⟩
theorem WordsAt.cell {w : World} {b : Nat} {ws : List ByteArray} (h : WordsAt w b ws) {j : Nat} {x : ByteArray} (hx : ws[j]? = some x) : w.cell? ⟨b, j, none⟩ = some (.string x) := by
  simp only [World.cell?, h.1]
  rw [List.getElem?_toArray, List.getElem?_map, hx]
  rfl
theorem size_two (x y : Int) : (Tryz.prog.info? 149).map (·.size) = some (#[Value.int .i64 x, .int .i64 y] : Array Value).size := by kernel_rfl

theorem one_two (x y : Int) : (#[Value.int .i64 x, .int .i64 y] : Array Value).all (·.oneCell') = true := by simp [Value.oneCell']
def outA (x y : Int) (k : Nat) : List Value := [.int .i64 (if 0 < k then x else 0), .int .i64 (if 1 < k then y else 0)]
set_option maxRecDepth 100000 in
set_option maxHeartbeats 8000000 in
theorem numbers_two (b n c : Nat) (ws : List ByteArray) (u v : ByteArray) (x y : Int) (fr : Nat) (w : World) (h : WordsAt w b ws) (hfr : fr ≤ 10) (hn : ws.length = n) (hl : n = fr + 2) (h0 : ws[fr]? = some u) (h1 : ws[fr + 1]? = some v) (hx : numF u = (x, true)) (hy : numF v = (y, true)) :
    Calls Tryz.prog 87 #[.slice (some ⟨b, 0, none⟩) n c, .int .i64 (fr : Int), .int .i64 2] w fun e w' => e = .returned (.tuple #[.agg #[.int .i64 x, .int .i64 y], .nilIface]) ∧ Below w.heap.size w w' := by
  have HH := Lib.hid h
  have hwf : IntKind.i64.wrap (fr : Int) = (fr : Int) := by rw [IntKind.wrap_i64]; omega
  have hwf2 : IntKind.i64.wrap ((fr : Int) + 2) = (n : Int) := by rw [IntKind.wrap_i64]; omega
  have H0 := Lib.hid h0
  have H1 := Lib.hid h1
  have HX := Lib.hid hx
  have HY := Lib.hid hy
  have hbl := (Array.getElem?_eq_some_iff.1 h.1).1
  have HL := Lib.hid hl
  clear h h0 h1 hx hy hl
  go_enter Tryz.func87, Tryz.ntmps87
  go_upto_region 2 with fail
  have HI : Hid (((w.alloc (.cells #[.int .i64 0, .int .i64 0] 149)).alloc (.cells #[.int .i64 0, .int .i64 0] 149)).heap[w.heap.size + 1]? = some (.cells (outA x y 0).toArray 149 (0, 0)) ∧ Below w.heap.size w ((w.alloc (.cells #[.int .i64 0, .int .i64 0] 149)).alloc (.cells #[.int .i64 0, .int .i64 0] 149)) ∧ ((w.alloc (.cells #[.int .i64 0, .int .i64 0] 149)).alloc (.cells #[.int .i64 0, .int .i64 0] 149)).heap[w.heap.size]? = some (.cells #[.int .i64 0, .int .i64 0] 149 (0, 0))) := Lib.hid (by
    refine ⟨?_, ((Below.refl _ _).alloc (Nat.le_refl _) _).alloc (by simp) _, ?_⟩
    · have := heap_alloc_new (w.alloc (.cells #[.int .i64 0, .int .i64 0] 149)) (.cells #[.int .i64 0, .int .i64 0] 149)
      rw [World.size_alloc] at this
      exact this
    · rw [hp_old _ _ _ (by simp), heap_alloc_new])
  have hw1sz : ((w.alloc (.cells #[.int .i64 0, .int .i64 0] 149)).alloc (.cells #[.int .i64 0, .int .i64 0] 149)).heap.size = w.heap.size + 2 := by simp
  generalize ((w.alloc (.cells #[.int .i64 0, .int .i64 0] 149)).alloc (.cells #[.int .i64 0, .int .i64 0] 149)) = w1 at *
  have HS1 := Lib.hid hw1sz
  clear hw1sz
  obtain ⟨B, hB⟩ : ∃ B, w.heap.size = B := ⟨_, rfl⟩
  rw [hB] at HI HS1 ⊢
  have HBB := Lib.hid hB
  have hbB : b < B := by omega
  clear hB hbl
  go_wp2_with fail
  go_loopg [9, 10, 11, 13] 2 (fun gg v9 v10 v11 v13 wx => ∃ k : Nat, 2 - k = gg ∧ k ≤ 2 ∧ v13 = .int .i64 (k : Int) ∧ Hid (wx.heap[B + 1]? = some (.cells (outA x y k).toArray 149 (0, 0)) ∧ Below B w wx ∧ wx.heap[B]? = some (.cells #[.int .i64 0, .int .i64 0] 149 (0, 0))))
  case atStart => exact ⟨0, rfl, by omega, rfl, HI⟩
  case round =>
    obtain ⟨k, rfl, hk, rfl, H⟩ := hrel
    by_cases hlt : k < 2
    · have hlt' : (k : Int) < 2 := by omega
      obtain ⟨j, hj⟩ : ∃ j, fr + k = j := ⟨_, rfl⟩
      have hwj : IntKind.i64.wrap ((fr : Int) + (k : Int)) = (j : Int) := by rw [IntKind.wrap_i64]; omega
      have hjn : (j : Int) < (n : Int) := by have := HL.out; omega
      have hjn' : ¬ ((n : Int) ≤ (j : Int)) := by omega
      obtain ⟨t, z, ht, hz, hkz⟩ : ∃ t z, ws[j]? = some t ∧ numF t = (z, true) ∧ (outA x y k).set k (.int .i64 z) = outA x y (k + 1) := by
        rcases (show k = 0 ∨ k = 1 by omega) with rfl | rfl
        · refine ⟨u, x, by rw [← hj]; exact H0.out, HX.out, rfl⟩
        · refine ⟨v, y, by rw [← hj]; exact H1.out, HY.out, rfl⟩
      have hbw := H.out.2.1
      have hww : WordsAt wr b ws := ⟨(Turn.of_new (hbw.mono (Nat.le_of_eq HBB.out)) : Turn (fun _ => False) w wr).heap HH.out.1 id, HH.out.2⟩
      have hcell := hww.cell ht
      have HN := Lib.hid (number_any t wr (HH.out.2 t (List.mem_of_getElem? ht)))
      rw [hz] at HN
      have HKZ := Lib.hid hkz
      replace hj := Lib.hid hj
      clear hz hkz hww hbw ht
      go_wp2_with fail
      refine HN.out.mono ?_
      rintro e w2 ⟨rfl, hb2⟩
      have hsz : B + 2 ≤ wr.heap.size := by
        have := (Array.getElem?_eq_some_iff.1 H.out.1).1
        omega
      have T2 : Turn (fun _ => False) wr w2 := Turn.of_new hb2
      have hout := T2.heap H.out.1 id
      have hzero := T2.heap H.out.2.2 id
      have hc2 : ∃ q, w2.cell? ⟨B + 1, k, none⟩ = some q := by
        simp only [World.cell?, hout]
        rcases (show k = 0 ∨ k = 1 by omega) with rfl | rfl
        · exact ⟨_, rfl⟩
        · exact ⟨_, rfl⟩
      obtain ⟨q, hc2⟩ := hc2
      have hfz : w2.frozen? ⟨B + 1, k, none⟩ = false := by simp [World.frozen?, hout]
      have HST : Hid ((w2.setCell ⟨B + 1, k, none⟩ (.int .i64 z)).heap[B + 1]? = some (.cells (outA x y (k + 1)).toArray 149 (0, 0)) ∧ Below B w (w2.setCell ⟨B + 1, k, none⟩ (.int .i64 z)) ∧ (w2.setCell ⟨B + 1, k, none⟩ (.int .i64 z)).heap[B]? = some (.cells #[.int .i64 0, .int .i64 0] 149 (0, 0))) := Lib.hid (by
        have hb3 : Below B w w2 := H.out.2.1.trans (hb2.mono (by omega))
        have T3 : Turn (fun b => b = B + 1) w2 (w2.setCell ⟨B + 1, k, none⟩ (.int .i64 z)) := Turn.setCell (T := fun b => b = B + 1) (p := ⟨B + 1, k, none⟩) w2 (.int .i64 z) rfl
        refine ⟨?_, hb3.trans (T3.below (by have := hb2.size; omega) (fun b e => by omega)), T3.heap hzero (by omega)⟩
        rw [heap_set1 hout k (.int .i64 z), HKZ.out])
      clear hb2 T2 hout hzero H HN hcell
      go_wp2_with fail
      go_roundg (2 - (k + 1))
      case measure => omega
      case rel => exact ⟨k + 1, rfl, by omega, by go_num, HST⟩
    · obtain rfl : k = 2 := by omega
      have hout : wr.heap[B + 1]? = some (.cells #[.int .i64 x, .int .i64 y] 149 (0, 0)) := H.out.1
      have hzero := H.out.2.2
      have HB := Lib.hid H.out.2.1
      have hsz : B < wr.heap.size := by have := (Array.getElem?_eq_some_iff.1 hout).1; omega
      clear H
      go_wp2_with (first | (refine wpList_load_row rfl 149 _ rfl (B + 1) rfl _ #[.int .i64 x, .int .i64 y] (0, 0) _ hout Tryz.underlying149 rfl (size_two _ _) ?_) | (refine wpList_store_row rfl 149 _ _ rfl B #[.int .i64 x, .int .i64 y] rfl rfl _ _ hzero (size_two _ _) rfl (one_two _ _) ?_))
      have hfin := setRow_heap wr B _ #[.int .i64 x, .int .i64 y] 149 (0, 0) hzero
      have hbf : Below B w (wr.setRow B #[.int .i64 x, .int .i64 y]) := HB.out.trans ((turn_setRow wr B _).below (by omega) (fun j e => by rw [e]; exact Nat.le_refl _))
      refine bodyPost_ret (res_cell_tmp rfl _ _ B 149 _ (0, 0) _ rfl hfin Tryz.underlying149 rfl (size_two _ _)) rfl ?_
      exact ⟨rfl, by rw [HBB.out]; exact hbf⟩

def figs : ByteArray := ⟨#[48, 49, 50, 51, 52, 53, 54, 55, 56, 57, 97, 98, 99, 100, 101, 102]⟩
/-- the bytes of a word of figures -/
def HexOf (s : ByteArray) (rs : List Int) : Prop := s.size = 2 * rs.length ∧ ∀ i r, rs[i]? = some r → ∃ (a b : UInt8) (x y : Int), s.data.toList[2 * i]? = some a ∧ s.data.toList[2 * i + 1]? = some b ∧ Lib.indexByte figs.data.toList a = x ∧ Lib.indexByte figs.data.toList b = y ∧ 0 ≤ x ∧ x ≤ 15 ∧ 0 ≤ y ∧ y ≤ 15 ∧ bits .or .i64 (x * 16) y % 256 = r
theorem info_byte : (Tryz.prog.info? 5).map (fun i => (i.zero, i.size, i.bytes)) = some (some (.int .u8 0), 1, 1) := by kernel_rfl
set_option maxRecDepth 100000 in
set_option maxHeartbeats 8000000 in
theorem raw_any (s : ByteArray) (rs : List Int) (m : Nat) (w : World) (h : HexOf s rs) (hm : rs.length = m) (hm1 : 1 ≤ m) (hs : s.size ≤ 100000) :
    Calls Tryz.prog 206 #[.string s] w fun e w' => ∃ v, e = .returned (.tuple #[v, .bool true]) ∧ w'.ownsRow w.heap.size 5 1 v m (rs.map (Value.int .u8)) ∧ Below w.heap.size w w' := by
  have hmx : Tryz.prog.follows .mixedOrders = true := by kernel_rfl
  obtain ⟨i0, hi, hz0, hz1, hz2⟩ := info_parts info_byte
  obtain ⟨n, hn⟩ : ∃ n, s.size = n := ⟨_, rfl⟩
  have HH := Lib.hid h
  have HM := Lib.hid hm
  have hnm := h.1
  rw [hm, hn] at hnm
  have HNM := Lib.hid hnm
  have HS := Lib.hid hs
  have hn0 : ((n : Int) == 0) = false := by rw [beq_eq_false_iff_ne]; omega
  have hr2 : Int.tmod (n : Int) 2 = 0 := by rw [Int.tmod_eq_emod_of_nonneg (by omega)]; omega
  have hnd : (s.toList == [45]) = false := by
    apply eq_false_of
    rw [ByteArray.toList_eq]
    intro e
    have := congrArg List.length e
    simp at this
    omega
  have HIX := Lib.hid (fun (c : Int) (w : World) => (sIdxByte figs c w).mono (fun e w' (h : _ ∧ _) => And.intro h.1 h.2.symm))
  unfold figs at HIX
  have hmb : m ≤ 50000 := by omega
  clear h hm hnm
  go_enter Tryz.func206, Tryz.ntmps206
  go_wp2_with fail
  clear hn0 hr2 hnd
  go_loopg [2, 3, 4, 5, 6, 7] m (fun gg v2 v3 v4 v5 v6 v7 wx => ∃ (k : Nat) (v : Value), m - k = gg ∧ k ≤ m ∧ v5 = .int .i64 ((2 * k : Nat) : Int) ∧ v4 = v ∧ Hid (wx.ownsRow w.heap.size 5 1 v k ((rs.take k).map (Value.int .u8)) ∧ Below w.heap.size w wx))
  case atStart => exact ⟨0, _, rfl, Nat.zero_le _, rfl, rfl, Lib.hid ⟨World.ownsRow_nil _ _ _ _, Below.refl _ _⟩⟩
  case round =>
    obtain ⟨k, v, rfl, hk, rfl, rfl, H⟩ := hrel
    obtain ⟨hown, hbw⟩ := H.out
    obtain ⟨av, cv, rfl⟩ := Turn.own_slice hown
    by_cases hlt : k < m
    · obtain ⟨i, hi2⟩ : ∃ i, 2 * k = i := ⟨_, rfl⟩
      have hnm := HNM.out
      have hlt' : (i : Int) < (n : Int) := by omega
      have his : i < s.size := by omega
      have his' : (i : Int) < (s.size : Int) := by omega
      obtain ⟨j, hj⟩ : ∃ j, i + 1 = j := ⟨_, rfl⟩
      have hjs : j < s.size := by omega
      have hjs' : (j : Int) < (s.size : Int) := by omega
      have hwj : IntKind.i64.wrap ((i : Int) + 1) = (j : Int) := by rw [IntKind.wrap_i64]; omega
      obtain ⟨r, hr⟩ : ∃ r, rs[k]? = some r := ⟨_, List.getElem?_eq_getElem (by rw [HM.out]; exact hlt)⟩
      obtain ⟨a, b, x, y, ha, hb, hx, hy, x0, x1, y0, y1, hrr⟩ := HH.out.2 k r hr
      rw [hi2] at ha hb
      rw [hj] at hb
      have ea : s[i] = a := by
        rw [List.getElem?_eq_getElem (by simp; omega)] at ha
        exact Option.some.inj ha
      have eb : s[j] = b := by
        rw [List.getElem?_eq_getElem (by simp; omega)] at hb
        exact Option.some.inj hb
      have HA := Lib.hid (HIX.out (a.toNat : Int))
      have HB := Lib.hid (HIX.out (b.toNat : Int))
      have qa : Lib.indexByte figs.data.toList (a.toNat : Int).toNat.toUInt8 = x := by rw [← hx]; simp
      have qb : Lib.indexByte figs.data.toList (b.toNat : Int).toNat.toUInt8 = y := by rw [← hy]; simp
      unfold figs at qa qb
      rw [qa] at HA
      rw [qb] at HB
      have hx0 : decide (x < 0) = false := decide_eq_false (by omega)
      have hy0 : decide (y < 0) = false := decide_eq_false (by omega)
      have HRR := Lib.hid hrr
      have HR := Lib.hid hr
      have HI2 := Lib.hid hi2
      have HJ := Lib.hid hj
      clear hnm ha hb hx hy qa qb hrr hr hi2 hj H
      rw [HI2.out]
      go_wp2_with fail
      go_quiet ((first | (go_at_call 251; exact Calls.quiet_of_same (HA.out _)) | (go_at_call 251; exact Calls.quiet_of_same (HB.out _))))
      have HOWN := Lib.hid hown
      have HBW := Lib.hid hbw
      clear hown hbw
      have hown1 := (Turn.of_new (bdrew wr nq) : Turn (fun _ => False) wr (wr.drewN nq)).kept HOWN.out (fun _ _ => id)
      have hbw1 : Below w.heap.size w (wr.drewN nq) := HBW.out.trans ((bdrew wr nq).mono HBW.out.size)
      have HO1 := Lib.hid hown1
      have HB1 := Lib.hid hbw1
      clear hown1 hbw1 HOWN HBW
      generalize wr.drewN nq = w2 at *
      go_wp2_with (at_builtin; refine wpList_append_own _ rfl _ _ 28 rfl w.heap.size 5 i0 _ 1 1 Tryz.underlying28 hi hz0 hz1 hz2 rfl (by decide) _ k _ rfl (HO1.out.alloc _) ⟨w2.heap.size, 0, none⟩ 1 1 [.int .u8 (bits .or .i64 (x * 16) y % 256)] rfl rfl (cell_new1 _ _ _) (by simp [Value.oneCell']) (by unfold maxLen; omega) (by omega) (by have := HB1.out.size; simp; omega) ?_; intro v2 w3 hown2 hgrow2 _)
      have HO2 : Hid (w3.ownsRow w.heap.size 5 1 v2 (k + 1) ((rs.take (k + 1)).map (Value.int .u8)) ∧ Below w.heap.size w w3) := Lib.hid (by
        refine ⟨?_, (HB1.out.alloc HB1.out.size _).grown hgrow2 (by have := HB1.out.size; simp; omega) (fun g e => (HO1.out.lt g e).1)⟩
        rw [List.take_add_one, HR.out, List.map_append]
        have e2 : (List.map (Value.int IntKind.u8) (some r : Option Int).toList) = [.int .u8 (bits .or .i64 (x * 16) y % 256)] := by rw [HRR.out]; rfl
        rw [e2]
        exact hown2)
      have hwi : IntKind.i64.wrap ((i : Int) + 2) = ((2 * (k + 1) : Nat) : Int) := by have := HI2.out; rw [IntKind.wrap_i64]; omega
      clear hown2 hgrow2
      go_wp2_with fail
      go_roundg (m - (k + 1))
      case measure => omega
      case rel => exact ⟨k + 1, v2, rfl, by omega, by have := HI2.out; go_num, rfl, HO2⟩
    · obtain rfl : k = m := by omega
      have HF : Hid (wr.ownsRow w.heap.size 5 1 (.slice av k cv) k (rs.map (Value.int .u8)) ∧ Below w.heap.size w wr) := Lib.hid ⟨by rw [List.take_of_length_le (by rw [HM.out]; exact Nat.le_refl _)] at hown; exact hown, hbw⟩
      clear hown hbw H
      have hge : ¬ ((2 * k : Nat) : Int) < (n : Int) := by have := HNM.out; omega
      generalize 2 * k = i at *
      go_wp2_with fail
      go_ret2
      exact ⟨_, rfl, HF.out.1, HF.out.2⟩
end Go.Proofs.YtjicdcmdgbcdcaaGreatDoor.Scr
end

/-
  math/bits.Mul, slices.Repeat of one rune.
-/
import Derived.Test.YtcbfmokafmagpaaGreatClone
import Derived.Test.YtcbfmokafmagpaaGreatTake
import Derived.Laws.CopyOwn
import Derived.Laws.BitsAll
namespace Go.Proofs.YtcbfmokafmagpaaGreat.Rep
set_option linter.unusedSimpArgs false
set_option linter.unusedVariables false
open Go Go.RowKit Go.Shelf Mem Turn Same Gra

theorem and_mask (y : Int) (h0 : 0 ≤ y) (h1 : y ≤ 65536) : bits .and .u64 y 4294967295 = y := by
  rw [u64_and y 4294967295 h0 (by omega) (by omega) (by omega)]
  obtain ⟨n, rfl⟩ := Int.eq_ofNat_of_zero_le h0
  have : (n &&& 4294967295) = n := by
    rw [show (4294967295 : Nat) = 2 ^ 32 - 1 from rfl, Nat.and_two_pow_sub_one_eq_mod]
    exact Nat.mod_eq_of_lt (by omega)
  simp [this]
theorem wrap_u (y : Int) (h0 : 0 ≤ y) (h1 : y ≤ 65536) : IntKind.u64.wrap y = y := by
  unfold IntKind.wrap
  simp [IntKind.bits, IntKind.signed]
  omega

set_option maxHeartbeats 2000000 in
theorem mul64_one (y : Int) (h0 : 0 ≤ y) (h1 : y ≤ 65536) (w : World) :
    Calls Tryz.prog 69 #[.int .u64 1, .int .u64 y] w fun e w' => e = .returned (.tuple #[.int .u64 0, .int .u64 y]) ∧ w = w' := by
  have b1 : bits .and .u64 1 4294967295 = 1 := and_mask 1 (by omega) (by omega)
  have b2 : bits .and .u64 y 4294967295 = y := and_mask y h0 h1
  have b0 : bits .and .u64 0 4294967295 = 0 := and_mask 0 (by omega) (by omega)
  have u1 := wrap_u y h0 h1
  have u2 : y / 4294967296 = 0 := by omega
  have u3 : IntKind.u64.wrap 0 = 0 := rfl
  go_enter Tryz.func69, Tryz.ntmps69
  go_wp2
  go_ret2
  exact ⟨rfl, rfl⟩

set_option maxHeartbeats 2000000 in
theorem mul_one (y : Int) (h0 : 0 ≤ y) (h1 : y ≤ 65536) (w : World) :
    Calls Tryz.prog 51 #[.int .u64 1, .int .u64 y] w fun e w' => e = .returned (.tuple #[.int .u64 0, .int .u64 y]) ∧ w = w' := by
  go_enter Tryz.func51, Tryz.ntmps51
  go_wp2_with fail
  refine (mul64_one y h0 h1 w).mono ?_
  rintro e w1 ⟨rfl, rfl⟩
  go_wp2
  go_ret2
  exact ⟨rfl, rfl⟩

/-- n blanks and zeros behind them -/
def R (y n : Nat) : List Value := List.replicate n (.int .i32 32) ++ List.replicate (y - n) (.int .i32 0)
theorem R_len {y n : Nat} (h : n ≤ y) : (R y n).length = y := by simp [R]; omega
theorem R_splice {y n m : Nat} (h : n + m ≤ y) : splice (R y n) n (List.replicate m (.int .i32 32)) = R y (n + m) := by
  unfold splice R
  rw [List.take_left' (by simp), List.length_replicate, ← List.drop_drop, List.drop_left' (by simp), List.drop_replicate, ← List.append_assoc, List.replicate_append_replicate, show y - n - m = y - (n + m) from by omega]
theorem R_get {y n j : Nat} {v : Value} (h : (List.replicate n (Value.int .i32 32))[j]? = some v) : (R y n)[j]? = some v := by
  unfold R
  rw [List.getElem?_append_left (by have := (List.getElem?_eq_some_iff.1 h).1; exact this)]
  exact h
theorem own_full {w : World} {base : Nat} {e : TypeId} {g n : Nat} {xs : List Value} (h : w.ownsRow base e 1 (.slice (some ⟨g, 0, none⟩) n n) n xs) : w.heap[g]? = some (.cells xs.toArray e (0, 0)) := by
  rcases h.2 with ⟨h1, _⟩ | ⟨g', cap, cur, h1, _, h3, _, _, h6, h7⟩
  · cases h1
  · injection h1 with h1 _ h2
    injection h1 with h1
    injection h1 with h1
    subst h1 h2
    rw [Nat.mul_one] at h6 h7
    have : cur.toList = xs := by rw [← h7, List.take_of_length_le (by simp [h6])]
    rw [h3, ← this]
theorem own_of_full {w : World} {base : Nat} {e : TypeId} {g n : Nat} {xs : List Value} (h : w.heap[g]? = some (.cells xs.toArray e (0, 0))) (hb : base ≤ g) (hn : xs.length = n) (hm : n ≤ maxLen) : w.ownsRow base e 1 (.slice (some ⟨g, 0, none⟩) n n) n xs :=
  ⟨by omega, .inr ⟨g, n, xs.toArray, rfl, hb, h, Nat.le_refl _, hm, by simp [hn], by simp [← hn]⟩⟩

theorem wp_copy_splice {P : Program} {o : Oper} {a : Act} {w : World} {K : Act → World → Prop} {Q : Exit → Act → World → Prop} (hgd : o.guard = none) (d s : Operand) (dT sT : TypeId)
    (ho : o.op = .call { callee := .builtin .copy, args := #[d, s], argTypes := #[dT, sT] }) (elem : TypeId) (hu : P.underlying dT = some (.slice elem)) (hsz : (P.info? elem).map (·.size) = some 1)
    (dp sp : Option Addr) (dLen dCap sLen sCap : Nat) (hd : a.eval d = .slice dp dLen dCap) (hs : a.eval s = .slice sp sLen sCap)
    (g off : Nat) (cur : List Value) (t : TypeId) (hg : w.heap[g]? = some (.cells cur.toArray t (0, 0))) (cs : List Value) (hn : cs.length = Nat.min sLen dLen)
    (hpos : 0 < cs.length → dp = some ⟨g, off, none⟩ ∧ ∃ ad, sp = some ad ∧ ∀ j v, cs[j]? = some v → w.cell? (ad.add j) = some v)
    (hfit : off + cs.length ≤ cur.length) (h1 : ∀ v ∈ cs, v.oneCell' = true) (B : Nat) (w0 : World) (hb : RowKit.Below B w0 w) (hBg : B ≤ g)
    (h : ∀ w', RowKit.Hid (w'.heap[g]? = some (.cells (splice cur off cs).toArray t (0, 0))) → RowKit.Below B w0 w' → K (a.put o.dst (goInt cs.length)) w') : o.wp P a w K Q := by
  have h := step_copy_splice (P := P) (ops := #[o]) (E := False) (Q := Q) hgd d s dT sT ho elem hu hsz dp sp dLen dCap sLen sCap hd hs g off cur t hg cs hn hpos hfit h1 B w0 hb hBg h
  rw [if_pos (by simp [Region.wanted, hgd])] at h
  exact h

theorem rep_one {m : Nat} : ∀ v ∈ List.replicate m (Value.int .i32 32), v.oneCell' = true := fun v hv => by rw [List.eq_of_mem_replicate hv]; rfl
theorem copy_src {w : World} {b m : Nat} (hm : m ≤ 1) (hc : w.cell? ⟨b, 0, none⟩ = some (.int .i32 32)) : ∀ j v, (List.replicate m (Value.int .i32 32))[j]? = some v → w.cell? ((⟨b, 0, none⟩ : Addr).add j) = some v := by
  intro j v hj
  have hl := (List.getElem?_eq_some_iff.1 hj).1
  simp at hl
  obtain rfl : j = 0 := by omega
  have := List.mem_of_getElem? hj
  rw [List.eq_of_mem_replicate this]
  simpa [Addr.add] using hc
theorem row_src {w : World} {g y n k : Nat} {T : TypeId} (hk : k ≤ n) (hg : w.heap[g]? = some (.cells (R y n).toArray T (0, 0))) : ∀ j v, (List.replicate k (Value.int .i32 32))[j]? = some v → w.drew.cell? ((⟨g, 0, none⟩ : Addr).add j) = some v := by
  intro j v hj
  have hl := (List.getElem?_eq_some_iff.1 hj).1
  simp at hl
  have hv := List.eq_of_mem_replicate (List.mem_of_getElem? hj)
  have : (R y n)[j]? = some v := R_get (by rw [List.getElem?_replicate, if_pos (by omega), hv])
  rw [add_none, Nat.zero_add]
  show w.cell? _ = _
  simp [World.cell?, hg, this]
theorem size32 : (Tryz.prog.info? 21).map (·.size) = some 1 := by kernel_rfl

set_option maxRecDepth 100000 in
set_option maxHeartbeats 4000000 in
theorem repeat_any (b c y : Nat) (w : World) (hb : b < w.heap.size) (hc : w.cell? ⟨b, 0, none⟩ = some (.int .i32 32)) (hy : y ≤ 2000) :
    Calls Tryz.prog 35 #[.slice (some ⟨b, 0, none⟩) 1 c, .int .i64 y] w fun e w' => Fresh w w' 21 1 y ((List.replicate y (32 : Int)).map (Value.int .i32)) e := by
  obtain ⟨i0, hi, hz0, hz1, hz2⟩ := info_parts info_i32
  have hmx : Tryz.prog.follows .mixedOrders = true := by kernel_rfl
  have u1 : IntKind.u64.wrap (y : Int) = (y : Int) := wrap_u _ (by omega) (by omega)
  have u0 : IntKind.u64.wrap (1 : Int) = 1 := wrap_u _ (by omega) (by omega)
  have u2 : IntKind.i64.wrap (y : Int) = (y : Int) := IntWalk.i64_in _ (by omega)
  have d1 : decide ((9223372036854775807 : Int) < (y : Int)) = false := by simp; omega
  have d0 : decide ((y : Int) < 0) = false := decide_eq_false (by omega)
  have HMUL := Lib.hid (mul_one (y : Int) (by omega) (by omega) w)
  obtain ⟨m, hm⟩ : ∃ m : Nat, m = Nat.min 1 y := ⟨_, rfl⟩
  have hmy : m ≤ y := by rw [hm]; exact Nat.min_le_right _ _
  have hm1 : m ≤ 1 ∧ (y = 0 ∨ 1 ≤ m) := by rw [hm]; simp only [Nat.min_def]; split <;> omega
  have HM := Lib.hid hm
  clear hm
  go_enter Tryz.func35, Tryz.ntmps35
  go_wp2_with fail
  refine HMUL.out.mono ?_
  rintro e w1 ⟨rfl, rfl⟩
  go_wp2_with (first
    | (refine wpList_make_full _ rfl _ _ 22 rfl w.heap.size 21 i0 _ 1 Tryz.underlying22 hi hz0 hz1 .i64 .i64 y y y rfl rfl rfl rfl (by rw [hz2]; omega) (by unfold maxLen; omega) (Nat.le_refl _) ?_; intro w2 hown2 hgrow2; have hf2 := own_full hown2; rw [show (Value.int .i32 0).cells = #[.int .i32 0] from rfl, toList_madeCells_one, Nat.mul_one, show List.replicate y (Value.int .i32 0) = R y 0 from by simp [R]] at hf2; have hB2 : Below w.heap.size w w2 := (Below.refl _ _).grown hgrow2 (Nat.le_refl _) (fun k e => by cases e))
    | (refine wpList_copy_splice rfl _ _ 22 22 rfl 21 Tryz.underlying22 size32 (some ⟨w.heap.size, 0, none⟩) (some ⟨b, 0, none⟩) y y 1 c rfl rfl w.heap.size 0 (R y 0) 21 hf2 (List.replicate m (.int .i32 32)) (by rw [List.length_replicate]; exact HM.out) (fun _ => ⟨rfl, _, rfl, copy_src hm1.1 ((hB2.cell (show (⟨b, 0, none⟩ : Addr).block < w.heap.size from hb)).trans hc)⟩) (by rw [List.length_replicate, R_len (Nat.zero_le _)]; omega) rep_one w.heap.size w hB2 (Nat.le_refl _) ?_; intro w3 hf3 hB3; rw [R_splice (by omega), Nat.zero_add] at hf3))
  have HB3 := Lib.hid hB3
  have hsz : w.heap.size < w3.heap.size := (Array.getElem?_eq_some_iff.1 hf3).1
  go_loopw [8] (fun i wr => ∃ n : Nat, n ≤ y ∧ (y = 0 ∨ 1 ≤ n) ∧ i = .int .i64 n ∧ Hid (wr.heap[w.heap.size]? = some (.cells (R y n).toArray 21 (0, 0)) ∧ Below w.heap.size w wr)) (fun i _ => y - (intOf i).toNat)
  case atStart => exact ⟨m, hmy, hm1.2, rfl, hf3, HB3.out⟩
  case round =>
    obtain ⟨n, hn, hn1, rfl, H⟩ := hrel
    by_cases hlt : n < y
    · have hlt' : (n : Int) < (y : Int) := by omega
      have hle' : (n : Int) ≤ (y : Int) := by omega
      obtain ⟨k, hk⟩ : ∃ k : Nat, k = Nat.min n (y - n) := ⟨_, rfl⟩
      have hk1 : k ≤ n ∧ k ≤ y - n ∧ 1 ≤ k := by rw [hk]; simp only [Nat.min_def]; split <;> omega
      have HKK := Lib.hid hk
      have x3 : IntKind.i64.wrap ((n : Int) + (k : Int)) = (n : Int) + (k : Int) := IntWalk.i64_in _ (by omega)
      clear hk
      go_wp2
      refine region_begin (fun _ => True) (fun _ => false) hmx ?_
      refine take_first (i := 0) rfl (by kernel_rfl) (by kernel_rfl) (by kernel_rfl) (by kernel_rfl) (fun _ _ _ h => h) trivial (.inl ⟨by rfl, fun w' hw' => by go_simp; try with_reducible rfl⟩) ?_
      refine take_first (i := 1) rfl (by kernel_rfl) (by kernel_rfl) (by kernel_rfl) (by kernel_rfl) (fun _ _ _ h => h) trivial (.inl ⟨by rfl, fun w' hw' => by go_simp; try with_reducible rfl⟩) ?_
      refine take_first (i := 2) rfl (by kernel_rfl) (by kernel_rfl) (by kernel_rfl) (by kernel_rfl) (fun _ _ _ h => h) trivial (.inl ⟨by rfl, fun w' hw' => by go_simp; try with_reducible rfl⟩) ?_
      refine take_first (i := 3) rfl (by kernel_rfl) (by kernel_rfl) (by kernel_rfl) (by kernel_rfl) (fun _ _ _ h => h) trivial (.inl ⟨by rfl, fun w' hw' => by go_simp; try with_reducible rfl⟩) ?_
      refine take_first (i := 4) rfl (by kernel_rfl) (by kernel_rfl) (by kernel_rfl) (by kernel_rfl) (fun _ _ _ h => h) trivial (.inl ⟨by rfl, fun w' hw' => by go_simp; try with_reducible rfl⟩) ?_
      refine take_first (i := 5) rfl (by kernel_rfl) (by kernel_rfl) (by kernel_rfl) (by kernel_rfl) (fun _ _ _ h => h) trivial (.inl ⟨by rfl, fun w' hw' => by go_simp; try with_reducible rfl⟩) ?_
      refine take_g (i := 6) (by kernel_rfl) rfl rfl fun K hK => ?_
      go_wp2
      refine hK _ _ (.inr trivial) ?_
      clear hK
      refine take_g (i := 7) (by kernel_rfl) rfl rfl fun K hK => ?_
      refine wp_copy_splice rfl _ _ 22 22 rfl 21 Tryz.underlying22 size32 (some ⟨w.heap.size, n, none⟩) (some ⟨w.heap.size, 0, none⟩) (y - n) (y - n) n y rfl rfl w.heap.size n (R y n) 21 H.out.1 (List.replicate k (.int .i32 32)) (by rw [List.length_replicate]; exact HKK.out) (fun _ => ⟨rfl, _, rfl, row_src hk1.1 H.out.1⟩) (by rw [List.length_replicate, R_len hn]; omega) rep_one w.heap.size w H.out.2.drew (Nat.le_refl _) ?_
      intro w5 hf5 hB5
      rw [R_splice (by omega)] at hf5
      rw [List.length_replicate]
      have RR := Lib.hid (And.intro hf5.out hB5)
      refine hK _ _ (.inr trivial) ?_
      clear hK hf5 hB5 H
      refine take_g (i := 8) (by kernel_rfl) rfl rfl fun K hK => ?_
      go_wp2
      refine hK _ _ (.inr trivial) ?_
      clear hK
      refine take_g (i := 9) (by kernel_rfl) rfl rfl fun K hK => ?_
      go_wp2
      refine hK _ _ (.inr trivial) ?_
      clear hK
      refine take_done (by kernel_rfl) ?_ _
      go_wp2
      go_roundw
      case rel => exact ⟨n + k, by omega, .inr (by omega), by go_num, RR⟩
      case measure => simp [intOf]; omega
    · obtain rfl : n = y := by omega
      have ho : wr.ownsRow w.heap.size 21 1 (.slice (some ⟨w.heap.size, 0, none⟩) n n) n ((List.replicate n (32 : Int)).map (Value.int .i32)) := by
        refine own_of_full ?_ (Nat.le_refl _) (by simp) (by unfold maxLen; omega)
        rw [H.out.1]
        simp [R]
      go_wp2
      go_ret
      exact ⟨_, rfl, ho, H.out.2⟩

end Go.Proofs.YtcbfmokafmagpaaGreat.Rep

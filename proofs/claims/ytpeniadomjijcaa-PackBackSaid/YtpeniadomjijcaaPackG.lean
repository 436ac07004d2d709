/-
  pack.Table: Get, Block, Blocks.
-/
import Derived.Test.YtpeniadomjijcaaPackB
namespace Go.Proofs.Ytpeniadomjijcaa.Pack
set_option linter.unusedSimpArgs false
set_option linter.unusedVariables false
open Go Go.RowKit Mem Turn Sp TabLaw

theorem tab_get (l : List S3) : ∀ (P p : Nat), p < P → ∃ k, (tabAt l P).1[p]? = some k ∧ k < (tabAt l P).2.length ∧ (tabAt l P).2[k]? = some (cont l (256 * (p : Int)))
  | 0, p, h => absurd h (by omega)
  | P + 1, p, h => by
    simp only [tabAt]
    have hl := (tab_len l P).1
    rcases Nat.lt_or_ge p P with h1 | h1
    · obtain ⟨k, e1, e2, e3⟩ := tab_get l P p h1
      obtain ⟨t, ht⟩ := num_pre (tabAt l P).2 (cont l (256 * (P : Int)))
      refine ⟨k, by rw [List.getElem?_append_left (by omega)]; exact e1, ?_, ?_⟩
      · rw [← ht, List.length_append]; omega
      · rw [← ht, List.getElem?_append_left e2]; exact e3
    · obtain rfl : p = P := by omega
      have hh := num_has (tabAt l p).2 (cont l (256 * (p : Int)))
      exact ⟨_, by rw [List.getElem?_append_right (by omega), hl, Nat.sub_self]; rfl, hh.2, hh.1⟩
theorem flat_get : ∀ (bs : List (List Int)), (∀ b ∈ bs, b.length = 256) → ∀ {k j : Nat} {x : List Int} {y : Int}, bs[k]? = some x → x[j]? = some y → (flat bs)[k * 256 + j]? = some (.int .u16 y)
  | [], _, k, j, x, y, h, _ => by cases h
  | b :: bs, hl, 0, j, x, y, h, hy => by
    simp at h
    subst h
    have hj := (List.getElem?_eq_some_iff.1 hy).1
    simp only [flat]
    rw [List.getElem?_append_left (by simp; omega)]
    simp [hy]
  | b :: bs, hl, k + 1, j, x, y, h, hy => by
    have hb := hl b (by simp)
    have ih := flat_get bs (fun c hc => hl c (by simp [hc])) (k := k) (j := j) (by simpa using h) hy
    simp only [flat]
    rw [List.getElem?_append_right (by simp; omega)]
    simp only [List.length_map, hb]
    rw [show (k + 1) * 256 + j - 256 = k * 256 + j from by omega]
    exact ih
theorem cont_get (l : List S3) (m : Int) {j : Nat} (h : j < 256) : (cont l m)[j]? = some (val3 l (m + j)) := by
  unfold cont
  rw [List.getElem?_map, List.getElem?_range h]
  rfl
theorem val3_bd {l : List S3} (hr : Right l) (r : Int) : 0 ≤ val3 l r ∧ val3 l r ≤ 65535 := by
  unfold val3
  cases hf : l.find? (has r) with
  | none => simp
  | some s =>
    have hm := List.mem_of_find?_eq_some hf
    obtain ⟨i, hi, hie⟩ := List.mem_iff_getElem.1 hm
    obtain ⟨_, _, _, h4, h5⟩ := hr i s (List.getElem?_eq_some_iff.2 ⟨hi, hie⟩)
    simp
    omega
theorem val3_out {l : List S3} (hr : Right l) {r : Int} (h : r < 0 ∨ 1114111 < r) : val3 l r = 0 := by
  refine val3_zero fun t ht => has_no fun hh => ?_
  obtain ⟨i, hi, hie⟩ := List.mem_iff_getElem.1 ht
  have := right_le hr (List.getElem?_eq_some_iff.2 ⟨hi, hie⟩)
  omega
theorem TAt.below {w w' : World} {qt base : Nat} {fs : List Nat} {bs : List (List Int)} (h : TAt w qt base fs bs) (hb : Below w.heap.size w w') : TAt w' qt base fs bs :=
  h.turn (Turn.of_new hb : Turn (fun _ => False) w w') id (fun _ _ => id)

/-- a table of a right list -/
def TabOf (w : World) (v : Value) (l : List S3) : Prop := ∃ qt base, v = .pointer (some ⟨qt, 0, none⟩) ∧ TAt w qt base (tabAt l 4352).1 (tabAt l 4352).2
theorem TabOf.below {w w' : World} {v : Value} {l : List S3} (h : TabOf w v l) (hb : Below w.heap.size w w') : TabOf w' v l := by
  obtain ⟨qt, base, e, h⟩ := h
  exact ⟨qt, base, e, h.below hb⟩

theorem get_nil (n : Int) (w : World) : Calls Try.prog 12 #[.pointer none, .int .i64 n] w fun e w' => e = .returned (.int .i64 0) ∧ w = w' := by
  go_enter Try.func12, Try.ntmps12
  go_wp2
  go_ret
  exact ⟨rfl, rfl⟩
theorem block_nil (n : Int) (w : World) : Calls Try.prog 9 #[.pointer none, .int .i64 n] w fun e w' => e = .returned (.int .i64 (-1)) ∧ w = w' := by
  go_enter Try.func9, Try.ntmps9
  go_wp2
  go_ret
  exact ⟨rfl, rfl⟩
theorem blocks_nil (w : World) : Calls Try.prog 11 #[.pointer none] w fun e w' => e = .returned (.int .i64 0) ∧ w = w' := by
  go_enter Try.func11, Try.ntmps11
  go_wp2
  go_ret
  exact ⟨rfl, rfl⟩
theorem spans_nil (w : World) : Calls Try.prog 13 #[.pointer none] w fun e w' => e = .returned (.slice none 0 0) ∧ w = w' := by
  go_enter Try.func13, Try.ntmps13
  go_wp2
  go_ret
  exact ⟨rfl, rfl⟩

theorem blocks_any (v : Value) (l : List S3) (w : World) (h : TabOf w v l) : Calls Try.prog 11 #[v] w fun e w' => e = .returned (.int .i64 ((tabAt l 4352).2.length : Int)) ∧ w = w' := by
  obtain ⟨qt, base, rfl, fc, bv, h1, h2, h3, h4⟩ := h
  obtain ⟨av, cv, rfl⟩ := Sp.own_sl h4
  have q1 : w.cell? ⟨qt, 4352, none⟩ = some (.slice av (tabAt l 4352).2.length cv) := by simp [World.cell?, h1, ← h2]
  generalize (tabAt l 4352).2.length = L at *
  clear h1 h2 h3 h4
  go_enter Try.func11, Try.ntmps11
  go_wp2
  go_ret
  exact ⟨rfl, rfl⟩

/-- the number of a page's block -/
def blk (l : List S3) (p : Int) : Int := if 0 ≤ p ∧ p < 4352 then ((tabAt l 4352).1.getD p.toNat 0 : Nat) else -1

theorem block_any (v : Value) (l : List S3) (p : Int) (w : World) (h : TabOf w v l) : Calls Try.prog 9 #[v, .int .i64 p] w fun e w' => e = .returned (.int .i64 (blk l p)) ∧ w = w' := by
  by_cases hin : 0 ≤ p ∧ p < 4352
  · obtain ⟨qt, base, rfl, fc, bv, h1, h2, h3, h4⟩ := h
    obtain ⟨P, rfl⟩ : ∃ P : Nat, p = P := ⟨p.toNat, by omega⟩
    obtain ⟨k, e1, e2, _⟩ := tab_get l 4352 P (by omega)
    have hk : (k : Int) < 4353 := by have := (tab_len l 4352).2; omega
    have hv : blk l (P : Int) = (k : Int) := by
      unfold blk
      rw [if_pos hin]
      simp [List.getD_eq_getElem?_getD, e1]
    have hc := h3 P k e1
    have q1 : w.cell? ⟨qt, P, none⟩ = some (.int .u16 (k : Int)) := by
      have hl : P < (fc ++ [bv]).length := by simp; omega
      have : (fc ++ [bv])[P]? = some (.int .u16 (k : Int)) := by rw [List.getElem?_append_left (by omega)]; exact hc
      simp [World.cell?, h1, this]
    have d1 : decide ((P : Int) < 0) = false := decide_eq_false (by omega)
    have d2 : decide ((4352 : Int) ≤ (P : Int)) = false := decide_eq_false (by omega)
    have d3 : (P : Int) < 4352 := hin.2
    rw [hv]
    clear h1 h2 h3 h4 e1 e2 hv hc hin
    go_enter Try.func9, Try.ntmps9
    go_wp2
    go_ret
    exact ⟨rfl, rfl⟩
  · obtain ⟨qt, base, rfl, _⟩ := h
    have hv : blk l p = -1 := by unfold blk; rw [if_neg hin]
    rw [hv]
    by_cases h0 : p < 0
    · have d1 : decide (p < 0) = true := decide_eq_true h0
      clear hin hv
      go_enter Try.func9, Try.ntmps9
      go_wp2
      go_ret
      exact ⟨rfl, rfl⟩
    · have d1 : decide (p < 0) = false := decide_eq_false h0
      have d2 : decide ((4352 : Int) ≤ p) = true := decide_eq_true (by omega)
      clear hin hv
      go_enter Try.func9, Try.ntmps9
      go_wp2
      go_ret
      exact ⟨rfl, rfl⟩

set_option maxHeartbeats 4000000 in
theorem get_any (v : Value) (l : List S3) (hr : Right l) (n : Int) (w : World) (h : TabOf w v l) : Calls Try.prog 12 #[v, .int .i64 n] w fun e w' => e = .returned (.int .i64 (val3 l n)) ∧ ∃ d, w' = w.drewN d := by
  by_cases hin : 0 ≤ n ∧ n ≤ 1114111
  · obtain ⟨qt, base, rfl, fc, bv, h1, h2, h3, h4⟩ := h
    obtain ⟨N, rfl⟩ : ∃ N : Nat, n = N := ⟨n.toNat, by omega⟩
    obtain ⟨P, hP⟩ : ∃ P, P = N / 256 := ⟨_, rfl⟩
    obtain ⟨j, hj⟩ : ∃ j, j = N % 256 := ⟨_, rfl⟩
    obtain ⟨k, e1, e2, e3⟩ := tab_get l 4352 P (by omega)
    obtain ⟨av, cv, rfl⟩ := Sp.own_sl h4
    have hL0 : 0 < (tabAt l 4352).2.length := by omega
    obtain ⟨g, rfl⟩ : ∃ g, av = some ⟨g, 0, none⟩ := by
      rcases h4.2 with ⟨_, h0⟩ | ⟨g, cap, cur, hv, _⟩
      · omega
      · injection hv with hv _ hcv
        exact ⟨g, hv⟩
    have hk : (k : Int) < 4353 := by have := (tab_len l 4352).2; omega
    have hval : (cont l (256 * (P : Int)))[j]? = some (val3 l (N : Int)) := by
      have := cont_get l (256 * (P : Int)) (j := j) (by omega)
      rw [show 256 * (P : Int) + (j : Int) = (N : Int) from by omega] at this
      exact this
    have hc := h4.cells (g := g) rfl (k * 256 + j) _ (flat_get _ (tab_ok l 4352).2 e3 hval)
    have hadd : (⟨g, 0, none⟩ : Addr).add (k * 256 + j) = ⟨g, k * 256 + j, none⟩ := by
      unfold Addr.add
      split
      · rename_i h; rw [h]
      · simp
    rw [hadd] at hc
    have q1 : w.cell? ⟨qt, 4352, none⟩ = some (.slice (some ⟨g, 0, none⟩) (tabAt l 4352).2.length cv) := by simp [World.cell?, h1, ← h2]
    have q0 : w.cell? ⟨qt, P, none⟩ = some (.int .u16 (k : Int)) := by
      have : (fc ++ [Value.slice (some ⟨g, 0, none⟩) (tabAt l 4352).2.length cv])[P]? = some (.int .u16 (k : Int)) := by rw [List.getElem?_append_left (by omega)]; exact h3 P k e1
      simp [World.cell?, h1, this]
    have hbd := val3_bd hr (N : Int)
    generalize val3 l (N : Int) = y at *
    generalize (tabAt l 4352).2.length = L at *
    have d1 : decide ((N : Int) < 0) = false := decide_eq_false (by omega)
    have d2 : decide ((1114111 : Int) < (N : Int)) = false := decide_eq_false (by omega)
    have d3 : ((L : Int) == 0) = false := by simp; omega
    have t1 : (N : Int).tdiv 256 = (P : Int) := by rw [Int.tdiv_eq_ediv_of_nonneg (by omega)]; omega
    have t2 : (N : Int).tmod 256 = (j : Int) := by rw [Int.tmod_eq_emod_of_nonneg (by omega)]; omega
    have t3 : (N : Int) / 256 = (P : Int) := by omega
    have t4 : (N : Int) % 256 = (j : Int) := by omega
    have b1 : (P : Int) < 4352 := by omega
    have b2 : (k : Int) < (L : Int) := by omega
    have b3 : (j : Int) < 256 := by omega
    have b4 : (0 : Int) ≤ (P : Int) := by omega
    have b5 : (0 : Int) ≤ (k : Int) := by omega
    have b6 : (0 : Int) ≤ (j : Int) := by omega
    have u1 : IntKind.i64.wrap (P : Int) = (P : Int) := IntWalk.i64_in _ (by omega)
    have u2 : IntKind.i64.wrap (j : Int) = (j : Int) := IntWalk.i64_in _ (by omega)
    have u3 : IntKind.i64.wrap y = y := IntWalk.i64_in _ (by omega)
    clear h1 h2 h3 h4 e1 e2 e3 hval hP hj hin hadd hbd
    go_enter Try.func12, Try.ntmps12
    go_wp2
    go_quiet (fail)
    go_wp2
    go_ret
    exact ⟨rfl, _, rfl⟩
  · have hv : val3 l n = 0 := val3_out hr (by omega)
    rw [hv]
    obtain ⟨qt, base, rfl, _⟩ := h
    by_cases h0 : n < 0
    · have d1 : decide (n < 0) = true := decide_eq_true h0
      clear hin hv
      go_enter Try.func12, Try.ntmps12
      go_wp2
      go_ret
      exact ⟨rfl, 0, rfl⟩
    · have d1 : decide (n < 0) = false := decide_eq_false h0
      have d2 : decide ((1114111 : Int) < n) = true := decide_eq_true (by omega)
      clear hin hv
      go_enter Try.func12, Try.ntmps12
      go_wp2
      go_ret
      exact ⟨rfl, 0, rfl⟩
end Go.Proofs.Ytpeniadomjijcaa.Pack

/-
  Package spans and the reference's words on spans, at right lists.
-/
import Derived.Test.YtpeniadomjijcaaSp
import Derived.Test.YtpeniadomjijcaaMem
import Derived.Deep.WholeRow
import Derived.Deep.QuietTactic
import Derived.BigQuiet
import Derived.IntWalk
import Derived.OwnWalk
import Derived.Laws.OwnMore
import Derived.Shelf.Abstract
namespace Go.Proofs.Ytpeniadomjijcaa.Sp
set_option linter.unusedSimpArgs false
set_option linter.unusedVariables false
open Go Go.RowKit Mem TabLaw

theorem info_span : (Try.prog.info? 29).map (fun i => (i.zero, i.size, i.bytes)) = some (some (.agg #[.int .i64 0, .int .i64 0, .int .i64 0]), 3, 24) := by kernel_rfl
theorem size_span (x y z : Value) : (Try.prog.info? 29).map (·.size) = some (#[x, y, z] : Array Value).size := by kernel_rfl
theorem one_span (x y z : Int) : (#[.int .i64 x, .int .i64 y, .int .i64 z] : Array Value).all (·.oneCell') = true := by simp [Value.oneCell']

/-- the list lies in block b from off on -/
def At3 (w : World) (b off : Nat) (l : List S3) : Prop :=
  b < w.heap.size ∧ ∀ (k : Nat) (s : S3), l[k]? = some s → w.cell? ⟨b, off + k * 3, none⟩ = some (.int .i64 s.1) ∧ w.cell? ⟨b, off + k * 3 + 1, none⟩ = some (.int .i64 s.2.1) ∧ w.cell? ⟨b, off + k * 3 + 2, none⟩ = some (.int .i64 s.2.2)
theorem At3.below {w w' : World} {b off : Nat} {l : List S3} (h : At3 w b off l) (hb : Below w.heap.size w w') : At3 w' b off l :=
  ⟨Nat.lt_of_lt_of_le h.1 hb.size, fun k s hs => by
    obtain ⟨h1, h2, h3⟩ := h.2 k s hs
    exact ⟨(hb.cell (p := ⟨b, _, none⟩) h.1).trans h1, (hb.cell (p := ⟨b, _, none⟩) h.1).trans h2, (hb.cell (p := ⟨b, _, none⟩) h.1).trans h3⟩⟩

theorem prev_get {l : List S3} {k : Nat} {s : S3} (h : l[k]? = some s) : prev l (k + 1) = s.2.1 := by simp [prev, List.getD_eq_getElem?_getD, h]

set_option maxHeartbeats 4000000 in
theorem right_ok (b off n c : Nat) (l : List S3) (w : World) (hl : l.length = n) (h : At3 w b off l) (hr : Right l) (hn : n ≤ 100000) :
    Calls Try.prog 17 #[.slice (some ⟨b, off, none⟩) n c] w fun e w' => e = .returned (.bool true) ∧ Below w.heap.size w w' := by
  have HL := Lib.hid hl
  have HA := Lib.hid h
  have HR := Lib.hid hr
  clear hl h hr
  go_enter Try.func17, Try.ntmps17
  go_wp2
  go_loopw [3, 8] (fun v i wr => ∃ k : Nat, k ≤ n ∧ i = .int .i64 k ∧ v = .int .i64 (prev l k) ∧ Hid (Below w.heap.size w wr)) (fun _ i _ => n - (intOf i).toNat)
  case atStart => exact ⟨0, Nat.zero_le _, rfl, rfl, Below.refl _ _⟩
  case round =>
    obtain ⟨k, hk, rfl, rfl, H⟩ := hrel
    by_cases hlt : k < n
    · skip
      obtain ⟨s, hs⟩ : ∃ s, l[k]? = some s := ⟨_, List.getElem?_eq_getElem (by rw [HL.out]; exact hlt)⟩
      obtain ⟨c0, c1, c2⟩ := HA.out.2 k s hs
      have c0 := (H.out.cell (p := ⟨b, off + k * 3, none⟩) HA.out.1).trans c0
      have c1 := (H.out.cell (p := ⟨b, off + k * 3 + 1, none⟩) HA.out.1).trans c1
      have c2 := (H.out.cell (p := ⟨b, off + k * 3 + 2, none⟩) HA.out.1).trans c2
      have hlt' : (k : Int) < n := by omega
      obtain ⟨r1, r2, r3, r4, r5⟩ := HR.out k s hs
      have HP := Lib.hid (prev_get hs)
      generalize prev l k = pv at *
      obtain ⟨s0, s1, s2⟩ := s
      have d1 : decide (s0 ≤ pv) = false := by simp; exact r1
      have d2 : decide (s1 < s0) = false := by simp; exact r2
      have d3 : decide (1114111 < s1) = false := by simp; exact r3
      have d4 : decide (s2 < 1) = false := by simp at r4 ⊢; omega
      have d5 : decide (65535 < s2) = false := by simp; exact r5
      simp only at c0 c1 c2
      obtain ⟨W2, hW2⟩ : ∃ W2, W2 = wr.alloc (.cells #[.int .i64 s0, .int .i64 s1, .int .i64 s2] 29) := ⟨_, rfl⟩
      have hnew : (wr.alloc (.cells #[.int .i64 0, .int .i64 0, .int .i64 0] 29)).heap[wr.heap.size]? = some (.cells #[.int .i64 0, .int .i64 0, .int .i64 0] 29 (0, 0)) := heap_alloc_new wr _
      have hrow : (wr.alloc (.cells #[.int .i64 0, .int .i64 0, .int .i64 0] 29)).setRow wr.heap.size #[.int .i64 s0, .int .i64 s1, .int .i64 s2] = W2 := by rw [hW2]; exact World.setRow_alloc_new wr _ _ _
      have hh2 : W2.heap[wr.heap.size]? = some (.cells #[.int .i64 s0, .int .i64 s1, .int .i64 s2] 29 (0, 0)) := by rw [hW2]; exact heap_alloc_new wr _
      have q0 : W2.cell? ⟨wr.heap.size, 0, none⟩ = some (.int .i64 s0) := by simp [World.cell?, hh2]
      have q1 : W2.cell? ⟨wr.heap.size, 1, none⟩ = some (.int .i64 s1) := by simp [World.cell?, hh2]
      have q2 : W2.cell? ⟨wr.heap.size, 2, none⟩ = some (.int .i64 s2) := by simp [World.cell?, hh2]
      have BW : Below w.heap.size w W2 := by rw [hW2]; exact H.out.alloc H.out.size _
      have R := Lib.hid BW
      clear hs hW2 BW hh2 H r1 r2 r3 r4 r5
      go_wp2_with (refine wpList_store_row rfl 29 _ _ rfl wr.heap.size #[.int .i64 s0, .int .i64 s1, .int .i64 s2] rfl rfl _ _ hnew (size_span _ _ _) rfl (one_span _ _ _) ?_)
      go_roundw
      case rel => exact ⟨k + 1, by omega, by go_num, by rw [HP.out], R⟩
      case measure => simp [intOf]; omega
    · obtain rfl : k = n := by omega
      go_wp2
      go_ret
      exact ⟨rfl, H.out⟩

theorem own_sl {w : World} {base : Nat} {e : TypeId} {size n : Nat} {v : Value} {xs : List Value} (h : w.ownsRow base e size v n xs) : ∃ a c, v = .slice a n c := by
  rcases h.2 with ⟨rfl, rfl⟩ | ⟨g, cap, cur, rfl, _⟩
  · exact ⟨_, _, rfl⟩
  · exact ⟨_, _, rfl⟩
theorem cell_new3 (w : World) (v0 v1 v2 : Value) (t : TypeId) : ∀ j u, [v0, v1, v2][j]? = some u → (w.alloc (.cells #[v0, v1, v2] t)).cell? ((⟨w.heap.size, 0, none⟩ : Addr).add j) = some u := by
  intro j u hj
  match j, hj with
  | 0, hj => simp at hj; subst hj; simp [Addr.add]
  | 1, hj => simp at hj; subst hj; simp [Addr.add]
  | 2, hj => simp at hj; subst hj; simp [Addr.add]
theorem one3 (x y z : Int) : ∀ u ∈ [Value.int .i64 x, Value.int .i64 y, Value.int .i64 z], u.oneCell' = true := by
  intro u hu; simp at hu; rcases hu with rfl | rfl | rfl <;> rfl

/-- the result: a list of the callee's own -/
def OwnP (base : Nat) (w : World) (l : List S3) (e : Ending) (w' : World) : Prop :=
  ∃ v, e = .returned v ∧ w'.ownsRow base 29 3 v l.length (cells l) ∧ Below base w w'

theorem own_at {w : World} {base g n c : Nat} {l : List S3} (h : w.ownsRow base 29 3 (.slice (some ⟨g, 0, none⟩) n c) n (cells l)) : At3 w g 0 l := by
  refine ⟨(h.lt g rfl).2, fun k s hs => ?_⟩
  have hl : k < l.length := (List.getElem?_eq_some_iff.1 hs).1
  have h1 : (cells l).length = n * 3 := h.1
  rw [cells_len] at h1
  obtain ⟨a1, a2, a3⟩ := cells_get hs
  rw [Nat.zero_add]
  exact ⟨(h.cellAt _ (by omega)).trans a1, (h.cellAt _ (by omega)).trans a2, (h.cellAt _ (by omega)).trans a3⟩
theorem own_some {w : World} {base n c : Nat} {a : Option Addr} {xs : List Value} (h : w.ownsRow base 29 3 (.slice a n c) n xs) (hn : 0 < n) : ∃ g, a = some ⟨g, 0, none⟩ ∧ base ≤ g ∧ n ≤ c := by
  rcases h.2 with ⟨_, h0⟩ | ⟨g, cap, cur, h1, h2, h3, h4, _⟩
  · omega
  · injection h1 with h1 _ h5
    subst h1 h5
    exact ⟨g, rfl, h2, h4⟩

set_option maxRecDepth 100000 in
set_option maxHeartbeats 4000000 in
theorem lay_any (base : Nat) (v : Value) (l : List S3) (s0 s1 s2 : Int) (w : World) (h : w.ownsRow base 29 3 v l.length (cells l)) (hb : base ≤ w.heap.size) (hn : l.length ≤ 100000) (h0 : 0 ≤ s0) (h1 : s0 ≤ 1114111) :
    Calls Try.prog 19 #[v, .agg #[.int .i64 s0, .int .i64 s1, .int .i64 s2]] w (OwnP base w (lay l (s0, s1, s2))) := by
  obtain ⟨i0, hi, hz0, hz1, hz2⟩ := info_parts info_span
  obtain ⟨a, c, rfl⟩ := own_sl h
  obtain ⟨W1, hW1⟩ : ∃ W1, W1 = w.alloc (.cells #[.int .i64 s0, .int .i64 s1, .int .i64 s2] 29) := ⟨_, rfl⟩
  have hh1 : W1.heap[w.heap.size]? = some (.cells #[.int .i64 s0, .int .i64 s1, .int .i64 s2] 29 (0, 0)) := by rw [hW1]; exact heap_alloc_new w _
  have q0 : W1.cell? ⟨w.heap.size, 0, none⟩ = some (.int .i64 s0) := by simp [World.cell?, hh1]
  have q1 : W1.cell? ⟨w.heap.size, 1, none⟩ = some (.int .i64 s1) := by simp [World.cell?, hh1]
  have q2 : W1.cell? ⟨w.heap.size, 2, none⟩ = some (.int .i64 s2) := by simp [World.cell?, hh1]
  have HB1 : Hid (Below base w W1) := by rw [hW1]; exact Lib.hid ((Below.refl _ _).alloc hb _)
  have HO : Hid (W1.ownsRow base 29 3 (.slice a l.length c) l.length (cells l)) := by rw [hW1]; exact h.alloc _
  have hrow : w.alloc (.cells #[.int .i64 s0, .int .i64 s1, .int .i64 s2] 29) = W1 := hW1.symm
  clear hW1 hh1 h
  rcases List.eq_nil_or_concat l with rfl | ⟨l0, p, rfl⟩
  · have HO : Hid (W1.ownsRow base 29 3 (.slice a 0 c) 0 []) := HO
    go_enter Try.func19, Try.ntmps19
    go_wp2
    go_quiet (fail)
    go_wp2_with (at_builtin; refine wpList_append_own _ rfl _ _ 22 rfl base 29 i0 _ 3 24 Try.underlying22 hi hz0 hz1 hz2 rfl (by decide) _ 0 _ rfl (HO.out.alloc _) ⟨W1.heap.size, 0, none⟩ 1 1 [.int .i64 s0, .int .i64 s1, .int .i64 s2] rfl rfl (cell_new3 _ _ _ _ _) (one3 _ _ _) (by unfold maxLen; omega) (by omega) (by have := HB1.out.size; simp; omega) ?_; intro v2 w2 hown2 hgrow2 _)
    go_ret
    have hsz := Nat.le_trans hb HB1.out.size
    exact ⟨v2, rfl, hown2, (((HB1.out.trans ((bdrew W1 nq).mono hsz)).alloc hsz _).grown hgrow2 (by simp; omega) (fun g e => (HO.out.lt g e).1))⟩
  · rw [List.concat_eq_append] at HO hn ⊢
    have hlen : (l0 ++ [p]).length = l0.length + 1 := by simp
    rw [hlen] at HO hn
    obtain ⟨g, rfl, hg, hgc⟩ := own_some HO.out (by omega)
    obtain ⟨p0, p1, p2⟩ := p
    have hcells := (own_at HO.out).2 l0.length (p0, p1, p2) (by simp)
    rw [Nat.zero_add] at hcells
    obtain ⟨c0, c1, c2⟩ := hcells
    simp only at c0 c1 c2
    have f1 := HO.out.frozenAt (l0.length * 3 + 1)
    have x1 : IntKind.i64.wrap (((l0.length + 1 : Nat) : Int) - 1) = (l0.length : Int) := by rw [show ((l0.length + 1 : Nat) : Int) - 1 = (l0.length : Int) from by omega]; exact IntWalk.i64_in _ (by omega)
    have x1' : IntKind.i64.wrap ((l0.length : Int) + 1 - 1) = (l0.length : Int) := by rw [show (l0.length : Int) + 1 - 1 = (l0.length : Int) from by omega]; exact IntWalk.i64_in _ (by omega)
    have x2 : IntKind.i64.wrap (s0 - 1) = s0 - 1 := IntWalk.i64_in _ (by omega)
    have hll : l0.length < l0.length + 1 := by omega
    have hn' : l0.length + 1 ≤ 100000 := by omega
    have HLN := Lib.hid hlen
    clear hlen hn
    by_cases hv : p2 = s2
    · subst hv
      have d1 : (p2 == p2) = true := by simp
      by_cases hh : p1 = s0 - 1
      · subst hh
        have d2 : (s0 - 1 == s0 - 1) = true := by simp
        have HST := Lib.hid (HO.out.stored (l0.length * 3 + 1) (.int .i64 s1) )
        rw [lay_long l0 (p0, s0 - 1, p2) (s0, s1, p2) ⟨rfl, rfl⟩]
        have HCH := Lib.hid (cells_hi l0 (p0, s0 - 1, p2) s1)
        generalize hlg : l0.length = m at *
        go_enter Try.func19, Try.ntmps19
        go_wp2
        go_quiet (fail)
        go_wp2
        go_ret
        have hst := HST.out.1
        have hsz := Nat.le_trans hb HB1.out.size
        have hll2 : (l0 ++ [(p0, s1, p2)]).length = m + 1 := by simp [hlg]
        refine ⟨_, rfl, ?_, (HB1.out.trans ((bdrew W1 nq).mono hsz)).setCell (p := ⟨g, m * 3 + 1, none⟩) hg _⟩
        rw [HCH.out] at hst
        show World.ownsRow _ _ _ _ _ (l0 ++ [(p0, s1, p2)]).length _
        rw [hll2]
        exact hst
      · have d2 : (p1 == s0 - 1) = false := by simpa using hh
        rw [lay_new l0 (p0, p1, p2) (s0, s1, p2) (fun h => hh h.2), HLN.out]
        have HLL : Hid ((l0 ++ [(p0, p1, p2)] ++ [(s0, s1, p2)]).length = l0.length + 1 + 1) := Lib.hid (by simp)
        have HCC : Hid (cells (l0 ++ [(p0, p1, p2)] ++ [(s0, s1, p2)]) = cells (l0 ++ [(p0, p1, p2)]) ++ [.int .i64 s0, .int .i64 s1, .int .i64 p2]) := cells_app _ _
        generalize hlg : l0.length = m at *
        go_enter Try.func19, Try.ntmps19
        go_wp2
        go_quiet (fail)
        go_wp2_with (at_builtin; refine wpList_append_own _ rfl _ _ 22 rfl base 29 i0 _ 3 24 Try.underlying22 hi hz0 hz1 hz2 rfl (by decide) _ (m + 1) _ rfl (HO.out.alloc _) ⟨W1.heap.size, 0, none⟩ 1 1 [.int .i64 s0, .int .i64 s1, .int .i64 p2] rfl rfl (cell_new3 _ _ _ _ _) (one3 _ _ _) (by unfold maxLen; omega) (by omega) (by have := HB1.out.size; simp; omega) ?_; intro v2 w2 hown2 hgrow2 _)
        go_ret
        have hsz := Nat.le_trans hb HB1.out.size
        refine ⟨v2, rfl, ?_, (((HB1.out.trans ((bdrew W1 nq).mono hsz)).alloc hsz _).grown hgrow2 (by simp; omega) (fun g e => (HO.out.lt g e).1))⟩
        rw [HLL.out, HCC.out]
        exact hown2
    · have d1 : (p2 == s2) = false := by simpa using hv
      rw [lay_new l0 (p0, p1, p2) (s0, s1, s2) (fun h => hv h.1), HLN.out]
      have HLL : Hid ((l0 ++ [(p0, p1, p2)] ++ [(s0, s1, s2)]).length = l0.length + 1 + 1) := Lib.hid (by simp)
      have HCC : Hid (cells (l0 ++ [(p0, p1, p2)] ++ [(s0, s1, s2)]) = cells (l0 ++ [(p0, p1, p2)]) ++ [.int .i64 s0, .int .i64 s1, .int .i64 s2]) := cells_app _ _
      generalize hlg : l0.length = m at *
      go_enter Try.func19, Try.ntmps19
      go_wp2
      go_quiet (fail)
      go_wp2_with (at_builtin; refine wpList_append_own _ rfl _ _ 22 rfl base 29 i0 _ 3 24 Try.underlying22 hi hz0 hz1 hz2 rfl (by decide) _ (m + 1) _ rfl (HO.out.alloc _) ⟨W1.heap.size, 0, none⟩ 1 1 [.int .i64 s0, .int .i64 s1, .int .i64 s2] rfl rfl (cell_new3 _ _ _ _ _) (one3 _ _ _) (by unfold maxLen; omega) (by omega) (by have := HB1.out.size; simp; omega) ?_; intro v2 w2 hown2 hgrow2 _)
      go_ret
      have hsz := Nat.le_trans hb HB1.out.size
      refine ⟨v2, rfl, ?_, (((HB1.out.trans ((bdrew W1 nq).mono hsz)).alloc hsz _).grown hgrow2 (by simp; omega) (fun g e => (HO.out.lt g e).1))⟩
      rw [HLL.out, HCC.out]
      exact hown2

end Go.Proofs.Ytpeniadomjijcaa.Sp

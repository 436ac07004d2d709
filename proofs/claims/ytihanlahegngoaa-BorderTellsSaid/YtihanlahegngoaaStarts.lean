/-
  grapheme.Starts, Count, Clusters.
-/
import Derived.Test.YtihanlahegngoaaGra
import Derived.Test.YtihanlahegngoaaOwn
import Derived.Maps.AppendAt
import Derived.Shelf.Abstract
namespace Go.Proofs.Ytihanlahegngoaa.Gra
set_option linter.unusedSimpArgs false
set_option linter.unusedVariables false
open Go Go.RowKit Go.Shelf Mem Turn GraLaw Same
attribute [local go_sem] Oper.semAt_some

/-- the iterator over whatever runes came in, nil too -/
theorem gives_any {a : Option Addr} {n c : Nat} {xs : List Int} {w : World} (h : Runes w a n c xs) :
    ∃ b off, (0 < n → a = some ⟨b, off, none⟩ ∧ b < w.heap.size ∧ ∀ i x, xs[i]? = some x → w.cell? ⟨b, off + i, none⟩ = some (.int .i32 x)) ∧
      ∀ (Bs n₀ : Nat) (w1 : World), w.heap.size ≤ n₀ → n₀ ≤ w1.heap.size → Below w.heap.size w w1 → Bs < w1.heap.size → w1.cell? ⟨Bs, 0, none⟩ = some (.slice a n c) →
        Gives Try.prog 64 #[.pointer (some ⟨Bs, 0, none⟩)] (piece xs b off) (cnt (Jn xs) xs.length) n₀ Bs w1 := by
  obtain ⟨hl, h0 | ⟨b, off, rfl, hb, hc⟩⟩ := h.ints
  · subst h0
    refine ⟨0, 0, fun h => absurd h (by omega), fun Bs n₀ w1 h1 h2 h3 h4 h5 => ?_⟩
    rw [hl, cnt_zero]
    exact all_gives_nil Bs n₀ Bs c a _ w1 h4 h5
  · refine ⟨b, off, fun _ => ⟨rfl, hb, hc⟩, fun Bs n₀ w1 h1 h2 h3 h4 h5 => ?_⟩
    rcases Nat.eq_zero_or_pos n with h0 | h0
    · subst h0
      rw [hl, cnt_zero]
      exact all_gives_nil Bs n₀ Bs c _ _ w1 h4 h5
    · have := h.le; have := h.max
      exact all_gives Bs b off n c n₀ xs h.r32 hl h0 (by omega) (by omega) w1 h2 h4 h.le h5 (fun i x hx => (h3.cell (p := ⟨b, off + i, none⟩) hb).trans (hc i x hx))

theorem info_int : (Try.prog.info? 3).map (fun i => (i.zero, i.size, i.bytes)) = some (some (.int .i64 0), 1, 8) := by kernel_rfl

/-- places as values -/
def nums (l : List Nat) : List Value := l.map fun (i : Nat) => Value.int .i64 (i : Int)

theorem take_nums {l : List Nat} {k x : Nat} (h : l[k]? = some x) : nums (l.take k) ++ [.int .i64 (x : Int)] = nums (l.take (k + 1)) := by
  rw [List.take_add_one, h]; simp [nums]

set_option maxRecDepth 100000 in
set_option maxHeartbeats 4000000 in
theorem starts_any (a : Option Addr) (n c : Nat) (xs : List Int) (w : World) (h : Runes w a n c xs) (hn : n ≤ 100000) :
    Calls Try.prog 24 #[.slice a n c] w fun e w' => Fresh w w' 3 1 (cnt (Jn xs) n) (nums (starts (Jn xs) n)) e := by
  obtain ⟨i0, hi, hz0, hz1, hz2⟩ := info_parts info_int
  obtain ⟨b, off, hab, hG⟩ := gives_any h
  have hlen := h.ints.1
  have HG := Lib.hid hG
  have HL := Lib.hid hlen
  clear hab hG h hlen
  refine (callsIn_wide (n := 6)).1 ?_
  refine callsIn_of_wp_marks Try.func24 rfl trivial ?_ rfl
  simp only [Try.ntmps24, List.size_toArray, List.length_cons, List.length_nil, Nat.reduceAdd, Nat.reduceSub, Array.replicate_succ, Array.replicate_zero, List.push_toArray, List.append_toArray, List.nil_append, List.cons_append]
  gi_wp2_with fail
  refine ⟨trivial, callsIn_wide.2 ?_⟩
  refine (all_any _ _ _ _).mono ?_
  rintro e w1 ⟨rfl, rfl⟩
  gi_wp2_with fail
  have hb1 := Boxed.new w 37 (.slice none 0 0)
  have hbw : Below w.heap.size w ((w.alloc (.cells #[.slice none 0 0] 37)).alloc (.cells #[.slice a n c] 22)) := ((Below.refl _ _).alloc (Nat.le_refl _) _).alloc (by simp) _
  have hb2 := Boxed.new (w.alloc (.cells #[.slice none 0 0] 37)) 22 (.slice a n c)
  have hb1 := hb1.alloc (.cells #[.slice a n c] 22)
  have hs2 : ((w.alloc (.cells #[.slice none 0 0] 37)).alloc (.cells #[.slice a n c] 22)).heap.size = w.heap.size + 2 := by simp
  have hs1 : (w.alloc (.cells #[.slice none 0 0] 37)).heap.size = w.heap.size + 1 := by simp
  rw [hs1] at hb2
  clear hs1
  generalize ((w.alloc (.cells #[.slice none 0 0] 37)).alloc (.cells #[.slice a n c] 22)) = w2 at *
  refine wpIn_range (gf := 64) (lb := #[.pointer (some ⟨w.heap.size + 1, 0, none⟩)]) rfl (enters_of Try.func64 (by kernel_rfl) rfl)
    (HG.out (w.heap.size + 1) w.heap.size w2 (Nat.le_refl _) (by omega) hbw (by omega) hb2.cell) (Below.refl _ _) (by omega) (by omega) (fun _ => rfl)
    (fun k W => (∃ v, Boxed W w.heap.size 37 v ∧ W.ownsRow (w2.heap.size + 3) 3 1 v k (nums ((starts (Jn xs) n).take k))) ∧ Below w.heap.size w W)
    (fun _ _ _ => False) ?hI (fun _ _ _ _ h _ => h) ?h0
    (fun k => { tmps := #[.slice a n c, undef, .slice none 0 0, .pointer (some ⟨w.heap.size, 0, none⟩), .int .i64 (st (Jn xs) xs.length k), .slice a n c, .func (.func 64) #[] #[.pointer (some ⟨w.heap.size + 1, 0, none⟩)], .int .i64 (st (Jn xs) xs.length k), .slice (some ⟨b, off + st (Jn xs) xs.length k, none⟩) (st (Jn xs) xs.length (k + 1) - st (Jn xs) xs.length k) (st (Jn xs) xs.length (k + 1) - st (Jn xs) xs.length k), undef, undef, undef, undef, undef], defers := [] }) ?assign ?body ?done ?stop
  case hI =>
    rintro k X Y ⟨⟨v, h1, h2⟩, h3⟩ ht
    exact ⟨⟨v, ht.boxed h1 (fun h => by have := h.1; omega), ht.own3 h2⟩, h3.trans (ht.below h3.size (fun j hj => by have := hj.1; omega))⟩
  case h0 => exact ⟨⟨_, hb1, World.ownsRow_nil _ _ _ _⟩, hbw⟩
  case assign =>
    intro l k W K hK
    unfold piece
    gi_wp2
    exact hK
  case body =>
    rintro l k W hk ⟨⟨v, h1, h2⟩, h3⟩ hsz
    have hst := st_start hk
    rw [HL.out] at hst hk
    have HS := Lib.hid hst
    have hkn : k < n := Nat.lt_of_lt_of_le hk (cnt_le n)
    have hc1 := h1.cell
    clear hst hk
    rw [HL.out]
    gi_wp2_with (gi_at_builtin; refine wpListIn_append_own _ rfl _ _ 37 rfl (w2.heap.size + 3) 3 i0 _ 1 8 Try.underlying37 hi hz0 hz1 hz2 rfl (by decide) v k _ rfl (h2.alloc _) ⟨W.heap.size, 0, none⟩ 1 1 [.int .i64 (st (Jn xs) n k)] rfl rfl (cell_new1 _ _ _) (by simp [Value.oneCell']) (by unfold maxLen; omega) (by omega) (by simp; omega) ?_; intro v' w3 hown' hgrow _; obtain ⟨g', cap', rfl⟩ := ownsRow_succ hown'; obtain ⟨hv1, hv2, hr2, hT2⟩ := appended (Turn.alloc (Rnd w.heap.size (w.heap.size + 1) w2.heap.size) _ _) (h1.alloc _) (by decide) (h2.alloc _) (by omega) (Nat.le_refl _) (by omega) (by omega) hown' hgrow; have hc3 := hv1.cell; have hf3 := hv1.frozen)
    have e := take_nums HS.out
    rw [e] at hr2
    exact ⟨hT2, ⟨_, hv2, hr2⟩, h3.trans (hT2.below h3.size (fun j hj => hj.1))⟩
  case done =>
    rintro W ⟨⟨v, h1, h2⟩, h3⟩ hK
    have hc1 := h1.cell
    gi_wp2
    refine ⟨by simp, .inl ⟨_, _, rfl, run_takeDeferred hK, ?_⟩⟩
    rw [HL.out] at h2
    refine ⟨_, results_tmp rfl _ _ _, v, rfl, ?_, below_shut h3 (Nat.le_refl _) (by omega) _⟩
    have e : (starts (Jn xs) n).take (cnt (Jn xs) n) = starts (Jn xs) n := List.take_of_length_le (Nat.le_refl _)
    rw [e] at h2
    exact (ownsRow_putObj h2 _ hK rfl).mono (by omega)
  case stop =>
    rintro c k W _ h _
    exact h.elim

end Go.Proofs.Ytihanlahegngoaa.Gra

/-
  grapheme.Clusters.
-/
import Derived.Test.YtihanlahegngoaaClone
import Derived.Test.YtihanlahegngoaaRound
import Derived.RegionTactic
namespace Go.Proofs.Ytihanlahegngoaa.Gra
set_option linter.unusedSimpArgs false
set_option linter.unusedVariables false
open Go Go.RowKit Go.Shelf Mem Turn GraLaw Same
attribute [local go_sem] Oper.semAt_some

theorem info_sl : (Try.prog.info? 22).map (fun i => (i.zero, i.size, i.bytes)) = some (some (.slice none 0 0), 1, 24) := by kernel_rfl

/-- the row of clusters so far: out's own value -/
def Part (w : World) (base : Nat) (v : Value) (k : Nat) (f : Nat → List Int) : Prop :=
  ∃ vs : List Value, vs.length = k ∧ w.ownsRow base 22 1 v k vs ∧
    ∀ i, i < k → ∃ a n c, vs[i]? = some (.slice a n c) ∧ w.ownsRow base 21 1 (.slice a n c) n ((f i).map (Value.int .i32))

set_option maxRecDepth 100000 in
set_option maxHeartbeats 4000000 in
theorem clusters_any (a : Option Addr) (n c : Nat) (xs : List Int) (w : World) (h : Runes w a n c xs) (hn : n ≤ 100000) :
    Calls Try.prog 25 #[.slice a n c] w fun e w' => ∃ v, e = .returned v ∧ Lists w' w.heap.size v (cls xs) ∧ Below w.heap.size w w' := by
  obtain ⟨i0, hi, hz0, hz1, hz2⟩ := info_parts info_sl
  obtain ⟨b, off, hab, hG⟩ := gives_any h
  have hlen := h.ints.1
  have HG := Lib.hid hG
  have HL := Lib.hid hlen
  have HA := Lib.hid hab
  clear hab hG h hlen
  refine (callsIn_wide (n := 6)).1 ?_
  refine callsIn_of_wp_marks Try.func25 rfl trivial ?_ rfl
  simp only [Try.ntmps25, List.size_toArray, List.length_cons, List.length_nil, Nat.reduceAdd, Nat.reduceSub, Array.replicate_succ, Array.replicate_zero, List.push_toArray, List.append_toArray, List.nil_append, List.cons_append]
  gi_wp2_with fail
  refine ⟨trivial, callsIn_wide.2 ?_⟩
  refine (all_any _ _ _ _).mono ?_
  rintro e w1 ⟨rfl, rfl⟩
  gi_wp2_with fail
  have hb1 := Boxed.new w 40 (.slice none 0 0)
  have hbw : Below w.heap.size w ((w.alloc (.cells #[.slice none 0 0] 40)).alloc (.cells #[.slice a n c] 22)) := ((Below.refl _ _).alloc (Nat.le_refl _) _).alloc (by simp) _
  have hb2 := Boxed.new (w.alloc (.cells #[.slice none 0 0] 40)) 22 (.slice a n c)
  have hb1 := hb1.alloc (.cells #[.slice a n c] 22)
  have hs2 : ((w.alloc (.cells #[.slice none 0 0] 40)).alloc (.cells #[.slice a n c] 22)).heap.size = w.heap.size + 2 := by simp
  have hs1 : (w.alloc (.cells #[.slice none 0 0] 40)).heap.size = w.heap.size + 1 := by simp
  rw [hs1] at hb2
  clear hs1
  generalize ((w.alloc (.cells #[.slice none 0 0] 40)).alloc (.cells #[.slice a n c] 22)) = w2 at *
  refine wpIn_range (gf := 64) (lb := #[.pointer (some ⟨w.heap.size + 1, 0, none⟩)]) rfl (enters_of Try.func64 (by kernel_rfl) rfl)
    (HG.out (w.heap.size + 1) w.heap.size w2 (Nat.le_refl _) (by omega) hbw (by omega) hb2.cell) (Below.refl _ _) (by omega) (by omega) (fun _ => rfl)
    (fun k W => (∃ v, Boxed W w.heap.size 40 v ∧ Part W (w2.heap.size + 3) v k (cl xs)) ∧ Below w.heap.size w W)
    (fun _ _ _ => False) ?hI (fun _ _ _ _ h _ => h) ?h0
    (fun k => { tmps := #[.slice a n c, undef, .slice none 0 0, .pointer (some ⟨w.heap.size, 0, none⟩), undef, pieceV xs b off k, .slice a n c, .func (.func 64) #[] #[.pointer (some ⟨w.heap.size + 1, 0, none⟩)], .int .i64 (st (Jn xs) xs.length k), pieceV xs b off k, undef, undef, undef, undef, undef, undef], defers := [] }) ?assign ?body ?done ?stop
  case hI =>
    rintro k X Y ⟨⟨v, h1, vs, h2, h4, h5⟩, h3⟩ ht
    refine ⟨⟨v, ht.boxed h1 (fun h => by have := h.1; omega), vs, h2, ht.own3 h4, fun i hi => ?_⟩, h3.trans (ht.below h3.size (fun j hj => by have := hj.1; omega))⟩
    obtain ⟨a, n, c, e1, e2⟩ := h5 i hi
    exact ⟨a, n, c, e1, ht.own3 e2⟩
  case h0 => exact ⟨⟨_, hb1, [], rfl, World.ownsRow_nil _ _ _ _, fun i hi => absurd hi (by omega)⟩, hbw⟩
  case assign =>
    intro l k W K hK
    unfold piece
    gi_wp2
    exact hK
  case body =>
    rintro l k W hk ⟨⟨v, h1, vs, h2, h4, h5⟩, h3⟩ hsz
    have hst := st_start hk
    rw [HL.out] at hst hk
    have HS := Lib.hid hst
    have HK := Lib.hid hk
    have hkn : k < n := Nat.lt_of_lt_of_le hk (cnt_le n)
    have hc1 := h1.cell
    have hmx : Try.prog.follows .mixedOrders = true := by kernel_rfl
    have H5 := Lib.hid h5
    clear hst hk h5
    unfold pieceV
    rw [HL.out]
    gi_wp2
    refine round_begin (fun w' => w'.cell? ⟨w.heap.size, 0, none⟩ = some v) (fun j => j == 5) hmx (by kernel_rfl) (by rintro ⟨_, _, h⟩; exact h) ?_
    refine take_first (i := 1) rfl (by kernel_rfl) (by kernel_rfl) (by kernel_rfl) (by kernel_rfl) (fun _ _ _ h => h) hc1 (.inl ⟨by rfl, fun w' hw' => by have hw2 : w'.cell? ⟨w.heap.size, 0, none⟩ = some v := hw'; go_simp; try with_reducible rfl⟩) ?_
    refine take_first (i := 0) rfl (by kernel_rfl) (by kernel_rfl) (by kernel_rfl) (by kernel_rfl) (fun _ _ _ h => h) hc1 (.inl ⟨by rfl, fun w' hw' => by have hw2 : w'.cell? ⟨w.heap.size, 0, none⟩ = some v := hw'; go_simp; try with_reducible rfl⟩) ?_
    refine take_one (i := 2) (by kernel_rfl) rfl rfl fun K hK => ?_
    go_wp2_with fail
    refine (clone_any b (off + st (Jn xs) n k) _ _ (cl xs k) _ ?_ ?_ ?_ ?_).mono ?_
    · have := cl_len xs (k := k) (by rw [HL.out]; exact HK.out); rw [HL.out] at this; exact this
    · have := (HA.out (by omega)).2.1; have := h3.size; show b < W.heap.size; omega
    · intro i x hx
      have hb := (HA.out (by omega)).2.1
      have hx' : xs[st (Jn xs) n k + i]? = some x := by
        unfold cl at hx
        rw [HL.out] at hx
        rw [List.getElem?_take] at hx
        split at hx
        · rwa [List.getElem?_drop] at hx
        · cases hx
      have := (h3.cell (p := ⟨b, off + (st (Jn xs) n k + i), none⟩) hb).trans ((HA.out (by omega)).2.2 _ _ hx')
      rw [Nat.add_assoc]
      exact this
    · have h := st_le (J := Jn xs) (n := n) (k := k + 1) HK.out; omega
    rintro e W1 ⟨v1, rfl, ho1, hB1⟩
    obtain ⟨A1, C1, rfl⟩ := own_slice ho1
    have hB1 : Below W.heap.size W W1 := ((Below.refl W.heap.size W).drew).trans hB1
    have T1 : Turn (Rnd w.heap.size (w.heap.size + 1) w2.heap.size) W W1 := Turn.of_new hB1
    have hW1 : W.heap.size ≤ W1.heap.size := hB1.size
    have hx1 : Boxed W1 w.heap.size 40 v := (Turn.of_new hB1 : Turn (fun _ => False) W W1).boxed h1 id
    have ho4 : W1.ownsRow (w2.heap.size + 3) 22 1 v k vs := (Turn.of_new hB1 : Turn (fun _ => False) W W1).kept h4 (fun _ _ => id)
    have hO := Lib.hid (ho1.mono (base' := w2.heap.size + 3) (by show _ ≤ W.heap.size; omega))
    have hT5 : Hid (Turn (fun _ => False) W W1) := Turn.of_new hB1
    have hc2 := hx1.cell
    clear ho1 hB1
    have hKc := hK
    clear hK
    generalize hs1 : st (Jn xs) n (k + 1) - st (Jn xs) n k = m at *
    generalize st (Jn xs) n k = s0 at *
    have HM := Lib.hid hs1
    clear hs1
    refine hKc _ _ (.inr hc2) ?_
    refine take_one (i := 3) (by kernel_rfl) rfl rfl fun K hK => ?_
    go_wp2
    refine hK _ _ ?_ ?_
    · refine .inr ?_
      show (W1.alloc _).cell? _ = _
      rw [World.cell?_alloc_lt _ _ _ hx1.lt]; exact hc2
    refine take_one (i := 4) (by kernel_rfl) rfl rfl fun K hK => ?_
    refine wp_append_own _ _ _ 40 rfl (w2.heap.size + 3) 22 i0 _ 1 24 Try.underlying40 hi hz0 hz1 hz2 rfl (by decide) v k vs rfl (ho4.alloc _) ⟨W1.heap.size, 0, none⟩ 1 1 [.slice A1 m C1] rfl rfl (cell_new1 _ _ _) ?_ (by unfold maxLen; omega) (by omega) (by simp; omega) ?_
    · intro u hu
      rw [List.mem_singleton] at hu
      subst hu
      rfl
    intro v' w3 hown' hgrow _
    obtain ⟨g', cap', rfl⟩ := ownsRow_succ hown'
    obtain ⟨hv1, hv2, hr2, hT2⟩ := appended (T1.trans (Turn.alloc _ _ _)) (hx1.alloc _) (by decide) (ho4.alloc _) (by omega) (Nat.le_refl _) (by omega) (by omega) hown' hgrow
    have hT6 : Hid (Turn (fun j => v.ownBlock = some j ∨ j = w.heap.size) W (w3.setCell ⟨w.heap.size, 0, none⟩ (.slice (some ⟨g', 0, none⟩) (k + 1) cap'))) :=
      (((hT5.out.mono (fun _ _ h => h.elim)).trans (Turn.alloc _ _ _)).trans (Turn.of_grown hgrow (fun _ e => .inl e))).trans (Turn.setCell _ _ (.inr rfl))
    have hT7 : Hid (Turn (fun j => v.ownBlock = some j ∨ j = w.heap.size) W1 (w3.setCell ⟨w.heap.size, 0, none⟩ (.slice (some ⟨g', 0, none⟩) (k + 1) cap'))) :=
      ((Turn.alloc _ _ _).trans (Turn.of_grown hgrow (fun _ e => .inl e))).trans (Turn.setCell _ _ (.inr rfl))
    have hc3 := hv1.cell
    have hf3 := hv1.frozen
    refine hK _ _ (.inr hc3) ?_
    clear hK
    refine take_one (i := 5) (by kernel_rfl) rfl rfl fun K hK => ?_
    go_wp2
    refine hK _ _ (.inl rfl) ?_
    refine take_done (by kernel_rfl) ?_ _
    show Turn _ _ _ ∧ _
    refine ⟨hT2, ⟨_, hv2, vs ++ [.slice A1 m C1], by simp [h2], hr2, fun i hi => ?_⟩, h3.trans (hT2.below h3.size (fun j hj => hj.1))⟩
    rcases Nat.lt_or_ge i k with hik | hik
    · obtain ⟨a', n', c', e1, e2⟩ := H5.out i hik
      refine ⟨a', n', c', by rw [List.getElem?_append_left (by omega)]; exact e1, hT6.out.kept e2 (fun g hg hx => ?_)⟩
      rcases hx with hx | hx
      · exact rows_ne h4 e2 (by decide) hx hg
      · have := (e2.lt g hg).1; omega
    · have : i = k := by omega
      subst this
      refine ⟨A1, m, C1, by rw [List.getElem?_append_right (by omega)]; simp [h2], hT7.out.kept hO.out (fun g hg hx => ?_)⟩
      rcases hx with hx | hx
      · exact rows_ne ho4 hO.out (by decide) hx hg
      · have := (hO.out.lt g hg).1; omega
  case done =>
    rintro W ⟨⟨v, h1, vs, h2, h4, h5⟩, h3⟩ hK
    have hc1 := h1.cell
    gi_wp2
    refine ⟨by simp, .inl ⟨_, _, rfl, run_takeDeferred hK, ?_⟩⟩
    refine ⟨_, results_tmp rfl _ _ _, v, rfl, ⟨vs, by rw [h2]; simp [cls], ?_, fun i ys hi => ?_⟩, below_shut h3 (Nat.le_refl _) (by omega) _⟩
    · have : (cls xs).length = cnt (Jn xs) xs.length := by simp [cls]
      rw [this]
      exact (ownsRow_putObj h4 _ hK rfl).mono (by omega)
    · have hil : i < cnt (Jn xs) xs.length := by
        have := (List.getElem?_eq_some_iff.1 hi).1
        simpa [cls] using this
      have hy : cl xs i = ys := by
        simp only [cls, List.getElem?_map, List.getElem?_range hil] at hi
        injection hi
      subst hy
      obtain ⟨a', n', c', e1, e2⟩ := h5 i hil
      exact ⟨a', n', c', e1, (ownsRow_putObj e2 _ hK rfl).mono (by omega)⟩
  case stop =>
    rintro c k W _ h _
    exact h.elim

end Go.Proofs.Ytihanlahegngoaa.Gra

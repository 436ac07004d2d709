/-
  Slices of texts and of columns that came in, opened.
-/
import Derived.Test.YtcbfmokafmagpaaGreatTabA
import Derived.Test.YtcbfmokafmagpaaGreatOpenRunes
import Derived.ProofKit
import Derived.OpenShut
import Derived.Deep.Slices
namespace Go.Proofs.YtcbfmokafmagpaaGreat.Tbl
set_option linter.unusedSimpArgs false
set_option linter.unusedVariables false
open Go.ChangeShapes Go.WideShapes Go.Deep Go.RowKit Gra

theorem weights_all {H : Type} {P : Program} {e : TypeId} {n : Nat} {d : DataW H} : ∀ {ds : List (DataW H)}, d ∈ ds → n ∈ d.weights P e → n ∈ DataW.weightsAll P e ds
  | d0 :: ds, h, hn => by
    simp only [DataW.weightsAll, List.mem_append]
    rcases List.mem_cons.1 h with rfl | h
    · exact .inl hn
    · exact .inr (weights_all h hn)

theorem open_txt {H : Type} {enc : TypeId × Value → H} {w : World} {base : Nat} {spare : Nat → Bool} {held : Bool} {fuel : Nat} {a : Option Addr} {len cap : Nat} {x : DataW H × List MemPlace}
    (h : DataW.trod enc Tryz.prog w base spare held fuel 22 [.slice a len cap] = some x) (hw : ∀ n ∈ x.1.weights Tryz.prog 22, n ≤ reachBytes) : ∃ zs, Txt w a len cap zs := by
  obtain ⟨zs, hz⟩ := open_runes h
  refine ⟨zs, hz, ?_⟩
  rcases open_slice Tryz.underlying22 h with ⟨hcs, _⟩ | ⟨a', l, cc, m, nn, D, Pl, hcs, hb, hl, hm, hmm, rfl, hi⟩
  · simp at hcs
    omega
  · simp at hcs
    obtain ⟨rfl, rfl, rfl⟩ := hcs
    have hb4 : Tryz.prog.bytesOf 21 = 4 := by kernel_rfl
    have := hw ((((List.range len).map D).length + ((List.range (m - len)).map fun j => D (len + j)).length) * 4) (by simp [DataW.weights, Tryz.underlying22, hb4])
    simp only [List.length_map, List.length_range] at this
    unfold reachBytes at this
    omega

theorem open_lists {α H : Type} [Inhabited α] {enc : TypeId × Value → H} {w : World} {base : Nat} {spare : Nat → Bool} {held : Bool} {t e : TypeId} (Q : Reads α) (ht : Tryz.prog.underlying t = some (.slice e)) (hc : Tryz.prog.cellsOf e = 1) {e' : TypeId} (he : Tryz.prog.underlying e = some (.slice e'))
    (inner : ∀ fuel a n c x, DataW.trod enc Tryz.prog w base spare held fuel e [.slice a n c] = some x → (∀ n ∈ x.1.weights Tryz.prog e, n ≤ reachBytes) → ∃ z, Q w a n c z)
    {fuel : Nat} {a : Option Addr} {n c : Nat} {x : DataW H × List MemPlace} (h : DataW.trod enc Tryz.prog w base spare held fuel t [.slice a n c] = some x) (hw : ∀ n ∈ x.1.weights Tryz.prog t, n ≤ reachBytes) : ∃ zs, ListOf Q w a n c zs := by
  rcases open_slice1 ht hc h with ⟨hcs, _⟩ | ⟨a', l, cc, m, nn, V, D, Pl, hcs, hb, hl, hm, hmm, rfl, hi⟩
  · simp at hcs
    obtain ⟨rfl, rfl, rfl⟩ := hcs
    exact ⟨[], rfl, Nat.le_refl _, by omega, .inl rfl⟩
  · simp at hcs
    obtain ⟨rfl, rfl, rfl⟩ := hcs
    have hlm : n ≤ m := by rw [hmm]; split <;> omega
    unfold maxLen at hm
    have key : ∀ i, i < n → ∃ a1 n1 c1 z, w.cell? (a'.add i) = some (.slice a1 n1 c1) ∧ Q w a1 n1 c1 z := by
      intro i hlt
      obtain ⟨h1, h2⟩ := hi i (by omega)
      have hwi : ∀ n ∈ (D i).weights Tryz.prog e, n ≤ reachBytes := fun k hk => hw k (by
        simp only [DataW.weights, ht]
        exact List.mem_cons_of_mem _ (List.mem_append.2 (.inl (weights_all (List.mem_map.2 ⟨i, List.mem_range.2 hlt, rfl⟩) hk))))
      rcases open_slice he h2 with ⟨hv, _⟩ | ⟨a1, l1, c1, _, _, _, _, hv, _⟩
      · simp at hv
        rw [hv] at h1 h2
        obtain ⟨z, hz⟩ := inner _ _ _ _ _ h2 hwi
        exact ⟨_, _, _, z, h1, hz⟩
      · simp at hv
        rw [hv] at h1 h2
        obtain ⟨z, hz⟩ := inner _ _ _ _ _ h2 hwi
        exact ⟨_, _, _, z, h1, hz⟩
    rcases Nat.eq_zero_or_pos n with h0 | h0
    · subst h0
      exact ⟨[], rfl, by omega, by omega, .inl rfl⟩
    · obtain ⟨b, off, spot⟩ := a'
      obtain ⟨a0, n0, c0, z0, q0, _⟩ := key 0 h0
      have hspot : spot = none := by simpa [Addr.add] using World.cell?_spot q0
      subst hspot
      have hbw : b < w.heap.size := World.block_lt_of_cell? _ _ q0
      obtain ⟨Z, hZ⟩ := choose_lt (α := α) (p := fun i z => ∃ a1 n1 c1, w.cell? ⟨b, off + i, none⟩ = some (.slice a1 n1 c1) ∧ Q w a1 n1 c1 z) (fun i hlt => by
        obtain ⟨a1, n1, c1, z, q1, q2⟩ := key i hlt
        rw [add_none] at q1
        exact ⟨z, a1, n1, c1, q1, q2⟩)
      refine ⟨(List.range n).map Z, by simp, by omega, by omega, .inr ⟨b, off, rfl, hbw, fun i z hz => ?_⟩⟩
      have hin : i < n := by simpa using (List.getElem?_eq_some_iff.1 hz).1
      rw [List.getElem?_map, List.getElem?_range hin] at hz
      simp at hz
      subst hz
      exact hZ i hin

theorem open_texts {H : Type} {enc : TypeId × Value → H} {w : World} {base : Nat} {spare : Nat → Bool} {held : Bool} {fuel : Nat} {a : Option Addr} {n c : Nat} {x : DataW H × List MemPlace}
    (h : DataW.trod enc Tryz.prog w base spare held fuel 35 [.slice a n c] = some x) (hw : ∀ n ∈ x.1.weights Tryz.prog 35, n ≤ reachBytes) : ∃ zs, Texts w a n c zs :=
  open_lists Txt Tryz.underlying35 (by kernel_rfl) Tryz.underlying22 (fun _ _ _ _ _ h hw => open_txt h hw) h hw
theorem open_rows {H : Type} {enc : TypeId × Value → H} {w : World} {base : Nat} {spare : Nat → Bool} {held : Bool} {fuel : Nat} {a : Option Addr} {n c : Nat} {x : DataW H × List MemPlace}
    (h : DataW.trod enc Tryz.prog w base spare held fuel 30 [.slice a n c] = some x) (hw : ∀ n ∈ x.1.weights Tryz.prog 30, n ≤ reachBytes) : ∃ zs, Rows3 w a n c zs :=
  open_lists Texts Tryz.underlying30 (by kernel_rfl) Tryz.underlying35 (fun _ _ _ _ _ h hw => open_texts h hw) h hw

set_option maxRecDepth 100000 in
theorem open_cols {H : Type} {enc : TypeId × Value → H} {w : World} {base : Nat} {spare : Nat → Bool} {held : Bool} {fuel : Nat} {a : Option Addr} {len cap : Nat} {x : DataW H × List MemPlace}
    (h : DataW.trod enc Tryz.prog w base spare held fuel 31 [.slice a len cap] = some x) : ∃ ps, IsCols w a len cap ps := by
  rcases open_slice Tryz.underlying31 h with ⟨hcs, _⟩ | ⟨a', len', cap', m, n, D, Pl, hcs, hb, hl, hm, hmm, _, hi⟩
  · simp at hcs
    obtain ⟨rfl, rfl, rfl⟩ := hcs
    exact ⟨fun _ => (0, 0), Nat.le_refl _, by omega, .inl rfl⟩
  · simp at hcs
    obtain ⟨rfl, rfl, rfl⟩ := hcs
    unfold maxLen at hm
    have hC : Tryz.prog.cellsOf 39 = 2 := by kernel_rfl
    have hI : Tryz.prog.cellsOf 3 = 1 := by kernel_rfl
    have hlm : len ≤ m := by rw [hmm]; split <;> omega
    have key : ∀ i, ∃ p : Int × Int, i < len → w.cell? (a'.add (i * 2)) = some (.int .i64 p.1) ∧ w.cell? (a'.add (i * 2 + 1)) = some (.int .i64 p.2) := by
      intro i
      by_cases hlt : i < len
      · obtain ⟨cs, hc, ht⟩ := hi i (by omega)
        rw [hC] at hc
        obtain ⟨_, hcl, hat⟩ := World.cells?_some hc
        obtain ⟨xs, n', _, _, _, hxl, hf⟩ := DataW.trod_struct Tryz.underlying39 ht
        match cs, hcl with
        | [v0, v1], _ =>
          have hx : ∃ y0 y1, xs = [y0, y1] := by
            match xs, hxl with
            | [y0, y1], _ => exact ⟨_, _, rfl⟩
          obtain ⟨y0, y1, rfl⟩ := hx
          have f0 := hf 0 _ rfl
          have f1 := hf 1 _ rfl
          simp [hI] at f0 f1
          obtain ⟨n0, e0, _, _⟩ := DataW.trod_int Tryz.underlying3 f0
          obtain ⟨n1, e1, _, _⟩ := DataW.trod_int Tryz.underlying3 f1
          simp at e0 e1
          subst e0 e1
          have g0 := hat 0 (by omega)
          have g1 := hat 1 (by omega)
          rw [Go.Deep.add_add] at g0 g1
          exact ⟨(n0, n1), fun _ => ⟨g0, g1⟩⟩
      · exact ⟨(0, 0), fun h => absurd h hlt⟩
    by_cases h0 : len = 0
    · exact ⟨fun _ => (0, 0), hl, by omega, .inl h0⟩
    · obtain ⟨b, off, spot⟩ := a'
      have hspot : spot = none := by
        have := ((key 0).choose_spec (by omega)).1
        simpa [Addr.add] using World.cell?_spot this
      subst hspot
      refine ⟨fun i => (key i).choose, hl, by omega, .inr ⟨b, off, rfl, ?_, fun i hlt => ?_⟩⟩
      · exact World.block_lt_of_cell? _ _ ((key 0).choose_spec (by omega)).1
      · have := (key i).choose_spec hlt
        simpa only [add_none, Nat.add_assoc] using this

end Go.Proofs.YtcbfmokafmagpaaGreat.Tbl

/-
  Slices of spans and of numbers that came in, opened.
-/
import Derived.Test.YtpeniadomjijcaaPackB
import Derived.Test.YtpeniadomjijcaaSame
import Derived.ProofKit
import Derived.OpenShut
import Derived.Deep.Slices
namespace Go.Proofs.Ytpeniadomjijcaa.Pack
set_option linter.unusedSimpArgs false
set_option linter.unusedVariables false
open Go Go.ChangeShapes Go.WideShapes Go.Deep Go.RowKit Mem Sp Same

def IsSpans (w : World) (a : Option Addr) (n c : Nat) (l : List S3) : Prop := LAt w a n c l ∧ c ≤ 9223372036854775807 ∧ ∀ s ∈ l, (-9223372036854775808 ≤ s.1 ∧ s.1 ≤ 9223372036854775807) ∧ (-9223372036854775808 ≤ s.2.1 ∧ s.2.1 ≤ 9223372036854775807) ∧ (-9223372036854775808 ≤ s.2.2 ∧ s.2.2 ≤ 9223372036854775807)
def IsInts (w : World) (a : Option Addr) (n c : Nat) (xs : List Int) : Prop := Ints .i64 w a n xs ∧ n ≤ c ∧ c ≤ 9223372036854775807

theorem add_none (b off n : Nat) : (Addr.mk b off none).add n = ⟨b, off + n, none⟩ := by
  unfold Addr.add
  split <;> simp_all

set_option maxRecDepth 100000 in
theorem open_is {H : Type} {enc : TypeId × Value → H} {w : World} {base : Nat} {spare : Nat → Bool} {held : Bool} {fuel : Nat} {a : Option Addr} {len cap : Nat} {x : DataW H × List MemPlace}
    (h : DataW.trod enc Try.prog w base spare held fuel 33 [.slice a len cap] = some x) : ∃ zs, IsInts w a len cap zs := by
  rcases open_ints Try.underlying33 Try.underlying3 (by kernel_rfl) h with ⟨hcs, _⟩ | ⟨a', l, c, zs, hcs, _, hl, hm, hz, _, hcell, hwz⟩
  · simp at hcs
    obtain ⟨rfl, rfl, rfl⟩ := hcs
    exact ⟨[], ⟨rfl, .inl rfl⟩, Nat.le_refl _, by omega⟩
  · simp at hcs
    obtain ⟨rfl, rfl, rfl⟩ := hcs
    have hlz : len ≤ zs.length := by rw [hz]; split <;> omega
    unfold maxLen at hm
    refine ⟨zs.take len, ⟨by simp; omega, ?_⟩, hl, hm⟩
    rcases Nat.eq_zero_or_pos len with h0 | h0
    · exact .inl h0
    · obtain ⟨b, off, spot⟩ := a'
      have hc0 := hcell 0 (by omega)
      have hspot : spot = none := by simpa [Addr.add] using World.cell?_spot hc0
      subst hspot
      refine .inr ⟨b, off, rfl, ?_, fun i y hi => ?_⟩
      · have := World.block_lt_of_cell? _ _ hc0
        simpa [Addr.add] using this
      · have hil : i < len := by
          have := (List.getElem?_eq_some_iff.1 hi).1
          simp at this; omega
        have hc := hcell i (by omega)
        rw [add_none] at hc
        rw [hc]
        rw [List.getElem?_take, if_pos hil] at hi
        simp [List.getD_eq_getElem?_getD, hi]

set_option maxRecDepth 100000 in
theorem open_sp {H : Type} {enc : TypeId × Value → H} {w : World} {base : Nat} {spare : Nat → Bool} {held : Bool} {fuel : Nat} {a : Option Addr} {len cap : Nat} {x : DataW H × List MemPlace}
    (h : DataW.trod enc Try.prog w base spare held fuel 22 [.slice a len cap] = some x) : ∃ ps, IsSpans w a len cap ps := by
  rcases open_slice Try.underlying22 h with ⟨hcs, _⟩ | ⟨a', len', cap', m, n, D, Pl, hcs, hb, hl, hm, hmm, _, hi⟩
  · simp at hcs
    obtain ⟨rfl, rfl, rfl⟩ := hcs
    exact ⟨[], ⟨rfl, Nat.le_refl _, .inl rfl⟩, by omega, fun s hs => by cases hs⟩
  · simp at hcs
    obtain ⟨rfl, rfl, rfl⟩ := hcs
    have hC : Try.prog.cellsOf 29 = 3 := by kernel_rfl
    have hI : Try.prog.cellsOf 3 = 1 := by kernel_rfl
    have hlm : len ≤ m := by rw [hmm]; split <;> omega
    unfold maxLen at hm
    have key : ∀ i, ∃ p : S3, i < len → (w.cell? (a'.add (i * 3)) = some (.int .i64 p.1) ∧ w.cell? (a'.add (i * 3 + 1)) = some (.int .i64 p.2.1) ∧ w.cell? (a'.add (i * 3 + 2)) = some (.int .i64 p.2.2)) ∧
        (-9223372036854775808 ≤ p.1 ∧ p.1 ≤ 9223372036854775807) ∧ (-9223372036854775808 ≤ p.2.1 ∧ p.2.1 ≤ 9223372036854775807) ∧ (-9223372036854775808 ≤ p.2.2 ∧ p.2.2 ≤ 9223372036854775807) := by
      intro i
      by_cases hlt : i < len
      · obtain ⟨cs, hc, ht⟩ := hi i (by omega)
        rw [hC] at hc
        obtain ⟨_, hcl, hat⟩ := World.cells?_some hc
        obtain ⟨xs, n', _, _, _, hxl, hf⟩ := DataW.trod_struct Try.underlying29 ht
        match cs, hcl with
        | [v0, v1, v2], _ =>
          have hx : ∃ y0 y1 y2, xs = [y0, y1, y2] := by
            match xs, hxl with
            | [y0, y1, y2], _ => exact ⟨_, _, _, rfl⟩
          obtain ⟨y0, y1, y2, rfl⟩ := hx
          have f0 := hf 0 _ rfl
          have f1 := hf 1 _ rfl
          have f2 := hf 2 _ rfl
          simp [hI] at f0 f1 f2
          obtain ⟨n0, e0, _, w0⟩ := DataW.trod_int Try.underlying3 f0
          obtain ⟨n1, e1, _, w1⟩ := DataW.trod_int Try.underlying3 f1
          obtain ⟨n2, e2, _, w2⟩ := DataW.trod_int Try.underlying3 f2
          simp at e0 e1 e2
          subst e0 e1 e2
          have g0 := hat 0 (by omega)
          have g1 := hat 1 (by omega)
          have g2 := hat 2 (by omega)
          rw [Go.Deep.add_add] at g0 g1 g2
          exact ⟨⟨n0, n1, n2⟩, fun _ => ⟨⟨g0, g1, g2⟩, bounds_i64 w0, bounds_i64 w1, bounds_i64 w2⟩⟩
      · exact ⟨⟨0, 0, 0⟩, fun h => absurd h hlt⟩
    refine ⟨(List.range len).map fun i => (key i).choose, ⟨by simp, hl, ?_⟩, hm, fun s hs => ?_⟩
    · by_cases h0 : len = 0
      · exact .inl h0
      · obtain ⟨b, off, spot⟩ := a'
        have hspot : spot = none := by
          have := ((key 0).choose_spec (by omega)).1.1
          simpa [Addr.add] using World.cell?_spot this
        subst hspot
        refine .inr ⟨b, off, rfl, ?_, fun k s hk => ?_⟩
        · have := World.block_lt_of_cell? _ _ ((key 0).choose_spec (by omega)).1.1
          exact this
        · have hkl : k < len := by
            have := (List.getElem?_eq_some_iff.1 hk).1
            simpa using this
          rw [List.getElem?_map, List.getElem?_range hkl] at hk
          simp only [Option.map_some, Option.some.injEq] at hk
          subst hk
          have := ((key k).choose_spec hkl).1
          simpa only [add_none, Nat.add_assoc] using this
    · obtain ⟨i, hi', rfl⟩ := List.mem_map.1 hs
      exact ((key i).choose_spec (List.mem_range.1 hi')).2

end Go.Proofs.Ytpeniadomjijcaa.Pack

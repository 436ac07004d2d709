/-
  A slice of properties that came in, opened to its cells.
-/
import Derived.Test.YtihanlahegngoaaSegP
import Derived.ProofKit
import Derived.Deep.Slices
namespace Go.Proofs.Ytihanlahegngoaa.Seg
set_option linter.unusedSimpArgs false
set_option linter.unusedVariables false
open Go.ChangeShapes Go.WideShapes Go.Deep Go.RowKit

theorem add_none (b off n : Nat) : (Addr.mk b off none).add n = ⟨b, off + n, none⟩ := by
  unfold Addr.add
  split <;> simp_all

set_option maxRecDepth 100000 in
theorem open_props {H : Type} {enc : TypeId × Value → H} {w : World} {base : Nat} {spare : Nat → Bool} {held : Bool} {fuel : Nat} {a : Option Addr} {len cap : Nat} {x : DataW H × List MemPlace}
    (h : DataW.trod enc Try.prog w base spare held fuel 27 [.slice a len cap] = some x) : ∃ ps, IsProps w a len cap ps := by
  rcases open_slice Try.underlying27 h with ⟨hcs, _⟩ | ⟨a', len', cap', m, n, D, Pl, hcs, hb, hl, hm, hmm, _, hi⟩
  · simp at hcs
    obtain ⟨rfl, rfl, rfl⟩ := hcs
    exact ⟨fun _ => ⟨0, false, 0, 0⟩, .inl rfl⟩
  · simp at hcs
    obtain ⟨rfl, rfl, rfl⟩ := hcs
    have hC : Try.prog.cellsOf 29 = 4 := by kernel_rfl
    have hI : Try.prog.cellsOf 3 = 1 := by kernel_rfl
    have hB : Try.prog.cellsOf 4 = 1 := by kernel_rfl
    have hlm : len ≤ m := by rw [hmm]; split <;> omega
    have key : ∀ i, ∃ p : P4, i < len → w.cell? (a'.add (i * 4)) = some (.int .i64 p.br) ∧ w.cell? (a'.add (i * 4 + 1)) = some (.bool p.pi) ∧ w.cell? (a'.add (i * 4 + 2)) = some (.int .i64 p.co) ∧ w.cell? (a'.add (i * 4 + 3)) = some (.int .i64 p.ea) := by
      intro i
      by_cases hlt : i < len
      · obtain ⟨cs, hc, ht⟩ := hi i (by omega)
        rw [hC] at hc
        obtain ⟨_, hcl, hat⟩ := World.cells?_some hc
        obtain ⟨xs, n', _, _, _, hxl, hf⟩ := DataW.trod_struct Try.underlying29 ht
        match cs, hcl with
        | [v0, v1, v2, v3], _ =>
          have hx : ∃ y0 y1 y2 y3, xs = [y0, y1, y2, y3] := by
            match xs, hxl with
            | [y0, y1, y2, y3], _ => exact ⟨_, _, _, _, rfl⟩
          obtain ⟨y0, y1, y2, y3, rfl⟩ := hx
          have f0 := hf 0 _ rfl
          have f1 := hf 1 _ rfl
          have f2 := hf 2 _ rfl
          have f3 := hf 3 _ rfl
          simp [hI, hB] at f0 f1 f2 f3
          obtain ⟨n0, e0, _, _⟩ := DataW.trod_int Try.underlying3 f0
          obtain ⟨n1, e1, _⟩ := DataW.trod_bool Try.underlying4 f1
          obtain ⟨n2, e2, _, _⟩ := DataW.trod_int Try.underlying3 f2
          obtain ⟨n3, e3, _, _⟩ := DataW.trod_int Try.underlying3 f3
          simp at e0 e1 e2 e3
          subst e0 e1 e2 e3
          have g0 := hat 0 (by omega)
          have g1 := hat 1 (by omega)
          have g2 := hat 2 (by omega)
          have g3 := hat 3 (by omega)
          rw [Go.Deep.add_add] at g0 g1 g2 g3
          exact ⟨⟨n0, n1, n2, n3⟩, fun _ => ⟨g0, g1, g2, g3⟩⟩
      · exact ⟨⟨0, false, 0, 0⟩, fun h => absurd h hlt⟩
    by_cases h0 : len = 0
    · exact ⟨fun _ => ⟨0, false, 0, 0⟩, .inl h0⟩
    · obtain ⟨b, off, spot⟩ := a'
      have hspot : spot = none := by
        have := ((key 0).choose_spec (by omega)).1
        simpa [Addr.add] using World.cell?_spot this
      subst hspot
      refine ⟨fun i => (key i).choose, .inr ⟨b, off, rfl, hl, hm, ?_, fun i hlt => ?_⟩⟩
      · exact World.block_lt_of_cell? _ _ ((key 0).choose_spec (by omega)).1
      · have := (key i).choose_spec hlt
        simpa only [add_none, Nat.add_assoc] using this

end Go.Proofs.Ytihanlahegngoaa.Seg

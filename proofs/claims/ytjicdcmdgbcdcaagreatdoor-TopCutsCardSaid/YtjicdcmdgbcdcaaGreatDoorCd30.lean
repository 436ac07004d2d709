/-
  A slice of numbers that came in, opened.
-/
import Derived.Test.YtjicdcmdgbcdcaaGreatDoorCd9
import Derived.ProofKit
import Derived.OpenShut
import Derived.Deep.Slices
section
namespace Go.Proofs.YtjicdcmdgbcdcaaGreatDoor.Stops
set_option linter.unusedSimpArgs false
set_option linter.unusedVariables false
open Go Go.ChangeShapes Go.WideShapes Go.Deep Go.RowKit Same Gra

/-- a slice of numbers -/
def IsInts (w : World) (a : Option Addr) (n c : Nat) (xs : List Int) : Prop := Ints .i64 w a n xs ∧ n ≤ c ∧ c ≤ 9223372036854775807

set_option maxRecDepth 100000 in
theorem open_is {H : Type} {enc : TypeId × Value → H} {w : World} {base : Nat} {spare : Nat → Bool} {held : Bool} {fuel : Nat} {a : Option Addr} {len cap : Nat} {x : DataW H × List MemPlace}
    (h : DataW.trod enc Tryz.prog w base spare held fuel 69 [.slice a len cap] = some x) : ∃ zs, IsInts w a len cap zs := by
  rcases open_ints Tryz.underlying69 Tryz.underlying3 (by kernel_rfl) h with ⟨hcs, _⟩ | ⟨a', l, c, zs, hcs, _, hl, hm, hz, _, hcell, hwz⟩
  · simp at hcs
    obtain ⟨rfl, rfl, rfl⟩ := hcs
    exact ⟨[], ⟨rfl, .inl rfl⟩, Nat.le_refl _, by omega⟩
  · simp at hcs
    obtain ⟨rfl, rfl, rfl⟩ := hcs
    have hlz : len ≤ zs.length := by rw [hz]; split <;> omega
    unfold maxLen at hm
    refine ⟨zs.take len, ⟨by simp; omega, ?_⟩, hl, hm⟩
    rcases Nat.eq_zero_or_pos len with h0 | h0
    · exact .inl h0
    · obtain ⟨b, off, spot⟩ := a'
      have hc0 := hcell 0 (by omega)
      have hspot : spot = none := by simpa [Addr.add] using World.cell?_spot hc0
      subst hspot
      refine .inr ⟨b, off, rfl, ?_, fun i y hi => ?_⟩
      · have := World.block_lt_of_cell? _ _ hc0
        simpa [Addr.add] using this
      · have hil : i < len := by
          have := (List.getElem?_eq_some_iff.1 hi).1
          simp at this; omega
        have hc := hcell i (by omega)
        rw [add_none] at hc
        rw [hc]
        rw [List.getElem?_take, if_pos hil] at hi
        simp [List.getD_eq_getElem?_getD, hi]

end Go.Proofs.YtjicdcmdgbcdcaaGreatDoor.Stops
end

/-
  Acts that came in, opened.
-/
import Derived.Test.YtediledehhcicaaOpenLines
import Derived.Test.YtediledehhcicaaRingK
namespace Go.Proofs.Ytediledehhcicaa.Ring
set_option linter.unusedSimpArgs false
set_option linter.unusedVariables false
open Go.ChangeShapes Go.WideShapes Go.Deep Go.RowKit

theorem open_as {H : Type} {enc : TypeId × Value → H} {w : World} {base : Nat} {spare : Nat → Bool} {held : Bool} {fuel : Nat} {a : Option Addr} {n c : Nat} {x : DataW H × List MemPlace}
    (h : DataW.trod enc Try.prog w base spare held fuel 36 [.slice a n c] = some x) (hw : ∀ n ∈ x.1.weights Try.prog 36, n ≤ reachBytes) : ∃ acs, IsActs w a n c acs := by
  obtain ⟨hnc, _, hr⟩ := open_pairs Try.underlying36 Try.underlying38 (by kernel_rfl) (by kernel_rfl) (by kernel_rfl) rfl rfl h hw
  rcases hr with h0 | ⟨b, off, rfl, hbw, key⟩
  · subst h0
    exact ⟨[], rfl, hnc, .inl rfl⟩
  · obtain ⟨Z, hZ⟩ := choose_lt (α := ActC) (n := n) (p := fun i z => w.cell? ⟨b, off + i * 2, none⟩ = some (.int .i64 z.1) ∧ ∃ lv, w.cell? ⟨b, off + i * 2 + 1, none⟩ = some lv ∧ LinesAt (fun b => b < w.heap.size) False w lv z.2) (fun i hlt => by
      obtain ⟨v0, v1, y0, y1, m, q0, q1, t0, t1, w0, w1⟩ := key i hlt
      obtain ⟨k, e0, _, _⟩ := DataW.trod_int Try.underlying3 t0
      simp at e0
      subst e0
      obtain ⟨ls, hl⟩ := open_lines t1 w1
      exact ⟨(k, ls), q0, v1, q1, hl⟩)
    refine ⟨(List.range n).map Z, by simp, hnc, .inr ⟨b, off, rfl, hbw, fun j z hz => ?_⟩⟩
    have hin : j < n := by simpa using (List.getElem?_eq_some_iff.1 hz).1
    rw [List.getElem?_map, List.getElem?_range hin] at hz
    simp at hz
    subst hz
    exact hZ j hin
end Go.Proofs.Ytediledehhcicaa.Ring

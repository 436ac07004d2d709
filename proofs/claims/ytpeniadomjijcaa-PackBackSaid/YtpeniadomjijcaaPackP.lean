/-
  pack.builder.whole.
-/
import Derived.Test.YtpeniadomjijcaaPackN
namespace Go.Proofs.Ytpeniadomjijcaa.Pack
set_option linter.unusedSimpArgs false
set_option linter.unusedVariables false
open Go Go.RowKit Mem Turn

/-- what is still to come of a list: the list from its place d on -/
def RAt (w : World) (v : Value) (l : List Sp.S3) (d : Nat) : Prop :=
  ∃ a c, v = .slice a (l.length - d) c ∧ l.length - d ≤ c ∧ d ≤ l.length ∧ (l.length = d ∨ ∃ b off, a = some ⟨b, off + d * 3, none⟩ ∧ Sp.At3 w b off l)
theorem RAt.below {w w' : World} {v : Value} {l : List Sp.S3} {d : Nat} (h : RAt w v l d) (hb : Below w.heap.size w w') : RAt w' v l d := by
  obtain ⟨a, c, h1, h2, h3, h4⟩ := h
  exact ⟨a, c, h1, h2, h3, h4.imp id fun ⟨b, off, e, h⟩ => ⟨b, off, e, h.below hb⟩⟩

/-- the value that a page has alone -/
def wholeV (l : List Sp.S3) (d : Nat) (m : Int) : Int × Bool :=
  match l[d]? with
  | none => (0, true)
  | some s => if m + 256 ≤ s.1 then (0, true) else if s.1 ≤ m ∧ m + 255 ≤ s.2.1 then (s.2.2, true) else (0, false)

set_option maxRecDepth 100000 in
set_option maxHeartbeats 4000000 in
theorem whole_any (qb kb eb qt : Nat) (v : Value) (l : List Sp.S3) (d : Nat) (m : Int) (hm0 : 0 ≤ m) (hm1 : m ≤ 2000000) (w : World) (hB : BAt w qb v kb eb qt) (hR : RAt w v l d) (hn : l.length ≤ 100000) :
    Calls Try.prog 20 #[.pointer (some ⟨qb, 0, none⟩), .int .i64 m] w fun e w' => e = .returned (.tuple #[.int .i64 (wholeV l d m).1, .bool (wholeV l d m).2]) ∧ w = w' := by
  obtain ⟨a, c, rfl, hc, hd, hR⟩ := hR
  have c0 := hB.c0
  have u1 : IntKind.i64.wrap (m + 256) = m + 256 := IntWalk.i64_in _ (by omega)
  have u2 : IntKind.i64.wrap (m + 256 - 1) = m + 256 - 1 := IntWalk.i64_in _ (by omega)
  by_cases h0 : l.length = d
  · have hl : l[d]? = none := List.getElem?_eq_none (by omega)
    have hw : wholeV l d m = (0, true) := by unfold wholeV; rw [hl]
    have hz : l.length - d = 0 := by omega
    rw [hw]
    rw [hz] at c0
    clear hw hl hc
    go_enter Try.func20, Try.ntmps20
    go_wp2
    go_ret2
    exact ⟨rfl, rfl⟩
  · obtain ⟨b, off, rfl, hat⟩ := hR.resolve_left h0
    obtain ⟨s, hs⟩ : ∃ s, l[d]? = some s := ⟨_, List.getElem?_eq_getElem (by omega)⟩
    obtain ⟨x0, x1, x2⟩ := hat.2 d s hs
    have hw : wholeV l d m = (if m + 256 ≤ s.1 then (0, true) else if s.1 ≤ m ∧ m + 255 ≤ s.2.1 then (s.2.2, true) else (0, false)) := by unfold wholeV; rw [hs]
    obtain ⟨n, hnn⟩ : ∃ n, l.length - d = n + 1 := ⟨l.length - d - 1, by omega⟩
    rw [hnn] at c0 hc
    obtain ⟨s0, s1, s2⟩ := s
    simp only at x0 x1 x2 hw
    have hp : (0 : Int) < (n : Int) + 1 := by omega
    have dz : ((n : Int) + 1 == 0) = false := by simp; omega
    clear hs hat hR hnn
    by_cases h1 : m + 256 ≤ s0
    · have d1 : decide (m + 256 ≤ s0) = true := decide_eq_true h1
      rw [if_pos h1] at hw
      rw [hw]
      clear hw
      go_enter Try.func20, Try.ntmps20
      go_wp2
      go_ret2
      exact ⟨rfl, rfl⟩
    · have d1 : decide (m + 256 ≤ s0) = false := decide_eq_false h1
      rw [if_neg h1] at hw
      by_cases h2 : s0 ≤ m
      · have d2 : decide (s0 ≤ m) = true := decide_eq_true h2
        by_cases h3 : m + 256 - 1 ≤ s1
        · have d3 : decide (m + 256 - 1 ≤ s1) = true := decide_eq_true h3
          rw [if_pos ⟨h2, by omega⟩] at hw
          rw [hw]
          clear hw
          go_enter Try.func20, Try.ntmps20
          go_wp2
          go_ret2
          exact ⟨rfl, rfl⟩
        · have d3 : decide (m + 256 - 1 ≤ s1) = false := decide_eq_false h3
          rw [if_neg (fun h => h3 (by omega))] at hw
          rw [hw]
          clear hw
          go_enter Try.func20, Try.ntmps20
          go_wp2
          go_ret2
          exact ⟨rfl, rfl⟩
      · have d2 : decide (s0 ≤ m) = false := decide_eq_false h2
        rw [if_neg (fun h => h2 h.1)] at hw
        rw [hw]
        clear hw
        go_enter Try.func20, Try.ntmps20
        go_wp2
        go_ret2
        exact ⟨rfl, rfl⟩
end Go.Proofs.Ytpeniadomjijcaa.Pack

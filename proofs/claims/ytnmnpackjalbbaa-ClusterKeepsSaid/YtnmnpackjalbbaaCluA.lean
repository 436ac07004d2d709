/-
  slices.Clone at runes, for seats without package grapheme.
-/
import Derived.Test.YtnmnpackjalbbaaOwn
import Derived.Maps.AppendAt
import Derived.Shelf.Abstract
import Derived.Deep.AppendLies
namespace Go.Proofs.Ytnmnpackjalbbaa.Gra
set_option linter.unusedSimpArgs false
set_option linter.unusedVariables false
open Go Go.RowKit Go.Shelf Mem Turn Same

/-- all are numbers of 32 bits -/
def R32 (xs : List Int) : Prop := ∀ x ∈ xs, -2147483648 ≤ x ∧ x ≤ 2147483647
theorem R32.at {xs : List Int} (h : R32 xs) {i : Nat} {x : Int} (hx : xs[i]? = some x) : -2147483648 ≤ x ∧ x ≤ 2147483647 := h x (List.mem_of_getElem? hx)

/-- a slice of runes that came in -/
structure Runes (w : World) (a : Option Addr) (n c : Nat) (xs : List Int) : Prop where
  ints : Ints .i32 w a n xs
  r32 : R32 xs
  le : n ≤ c
  max : c ≤ 9223372036854775807

theorem Runes.below {w w' : World} {a : Option Addr} {n c : Nat} {xs : List Int} (h : Runes w a n c xs) (hb : Below w.heap.size w w') : Runes w' a n c xs := ⟨h.ints.below hb, h.r32, h.le, h.max⟩

theorem add_none (b off n : Nat) : (Addr.mk b off none).add n = ⟨b, off + n, none⟩ := by
  unfold Addr.add
  split <;> simp_all

theorem info_i32 : (Try.prog.info? 21).map (fun i => (i.zero, i.size, i.bytes)) = some (some (.int .i32 0), 1, 4) := by kernel_rfl

theorem one_cells (xs : List Int) (k : IntKind) : ∀ u ∈ xs.map (Value.int k), u.oneCell' = true := by
  intro u hu
  obtain ⟨x, _, rfl⟩ := List.mem_map.1 hu
  rfl

set_option maxHeartbeats 1000000 in
set_option maxRecDepth 100000 in
theorem clone_any (b off n c : Nat) (xs : List Int) (w : World) (hl : xs.length = n) (hb : b < w.heap.size) (hc : ∀ i x, xs[i]? = some x → w.cell? ⟨b, off + i, none⟩ = some (.int .i32 x)) (hn : n ≤ 100000) :
    Calls Try.prog 53 #[.slice (some ⟨b, off, none⟩) n c] w fun e w' => Fresh w w' 21 1 n (xs.map (Value.int .i32)) e := by
  obtain ⟨i0, hi, hz0, hz1, hz2⟩ := info_parts info_i32
  have H1 : Hid (∀ j u, (xs.map (Value.int .i32))[j]? = some u → (w.alloc (.cells #[] 21)).cell? ((⟨b, off, none⟩ : Addr).add j) = some u) := by
    intro j u hj
    rw [List.getElem?_map, Option.map_eq_some_iff] at hj
    obtain ⟨x, hx, rfl⟩ := hj
    rw [add_none, World.cell?_alloc_lt _ _ _ (by exact hb)]
    exact hc j x hx
  have H2 : Hid ((xs.map (Value.int .i32)).length = n * 1) := by rw [List.length_map, hl]; exact Lib.hid (by omega)
  have H3 : Hid ((w.alloc (.cells #[] 21)).ownsRow w.heap.size 21 1 (.slice (some ⟨w.heap.size, 0, none⟩) 0 0) 0 []) := World.ownsRow_made w #[] 0 (Nat.le_refl _) (by unfold maxLen; omega) rfl
  have q22 : ∀ (w : World) (a : Option Addr) (n c n' c' : Nat), (binOp .eql 32 (.slice a n c) (.slice none n' c')).run Try.prog w = .ok (.bool a.isNone) w := fun w a n c n' c' => Lib.run_eql_slice_nil w _ _ a n c n' c' Try.underlying32
  clear hc hl
  go_enter Try.func53, Try.ntmps53
  go_wp2_with (at_builtin; refine wpList_append_own _ rfl _ _ 32 rfl w.heap.size 21 i0 _ 1 4 Try.underlying32 hi hz0 hz1 hz2 rfl (by decide) _ 0 _ rfl H3.out ⟨b, off, none⟩ n c (xs.map (Value.int .i32)) rfl H2.out H1.out (one_cells _ _) (by unfold maxLen; omega) (by omega) (by simp) ?_; intro v' w3 hown' hgrow _)
  go_ret
  refine ⟨v', rfl, ?_, ((Below.refl _ _).alloc (Nat.le_refl _) _).grown hgrow (by simp) (fun k e => by injection (show some w.heap.size = some k from e) with e; omega)⟩
  rw [Nat.zero_add, List.nil_append] at hown'
  exact hown'


end Go.Proofs.Ytnmnpackjalbbaa.Gra

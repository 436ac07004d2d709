/-
  grapheme.Starts, Count, Clusters.
  slices.Clone at runes: a list of its own.
-/
import Derived.Test.YtcbfmokafmagpaaGreatGra
import Derived.Test.YtcbfmokafmagpaaGreatOwn
import Derived.Maps.AppendAt
import Derived.Shelf.Abstract
import Derived.Deep.AppendLies
namespace Go.Proofs.YtcbfmokafmagpaaGreat.Gra
set_option linter.unusedSimpArgs false
set_option linter.unusedVariables false
open Go Go.RowKit Go.Shelf Mem Turn GraLaw Same
attribute [local go_sem] Oper.semAt_some

/-- the iterator over whatever runes came in, nil too -/
theorem gives_any {a : Option Addr} {n c : Nat} {xs : List Int} {w : World} (h : Runes w a n c xs) :
    ∃ b off, (0 < n → a = some ⟨b, off, none⟩ ∧ b < w.heap.size ∧ ∀ i x, xs[i]? = some x → w.cell? ⟨b, off + i, none⟩ = some (.int .i32 x)) ∧
      ∀ (Bs n₀ : Nat) (w1 : World), w.heap.size ≤ n₀ → n₀ ≤ w1.heap.size → Below w.heap.size w w1 → Bs < w1.heap.size → w1.cell? ⟨Bs, 0, none⟩ = some (.slice a n c) →
        Gives Tryz.prog 55 #[.pointer (some ⟨Bs, 0, none⟩)] (piece xs b off) (cnt (Jn xs) xs.length) n₀ Bs w1 := by
  obtain ⟨hl, h0 | ⟨b, off, rfl, hb, hc⟩⟩ := h.ints
  · subst h0
    refine ⟨0, 0, fun h => absurd h (by omega), fun Bs n₀ w1 h1 h2 h3 h4 h5 => ?_⟩
    rw [hl, cnt_zero]
    exact all_gives_nil Bs n₀ Bs c a _ w1 h4 h5
  · refine ⟨b, off, fun _ => ⟨rfl, hb, hc⟩, fun Bs n₀ w1 h1 h2 h3 h4 h5 => ?_⟩
    rcases Nat.eq_zero_or_pos n with h0 | h0
    · subst h0
      rw [hl, cnt_zero]
      exact all_gives_nil Bs n₀ Bs c _ _ w1 h4 h5
    · have := h.le; have := h.max
      exact all_gives Bs b off n c n₀ xs h.r32 hl h0 (by omega) (by omega) w1 h2 h4 h.le h5 (fun i x hx => (h3.cell (p := ⟨b, off + i, none⟩) hb).trans (hc i x hx))

theorem info_int : (Tryz.prog.info? 3).map (fun i => (i.zero, i.size, i.bytes)) = some (some (.int .i64 0), 1, 8) := by kernel_rfl

/-- places as values -/
def nums (l : List Nat) : List Value := l.map fun (i : Nat) => Value.int .i64 (i : Int)

theorem take_nums {l : List Nat} {k x : Nat} (h : l[k]? = some x) : nums (l.take k) ++ [.int .i64 (x : Int)] = nums (l.take (k + 1)) := by
  rw [List.take_add_one, h]; simp [nums]

end Go.Proofs.YtcbfmokafmagpaaGreat.Gra

namespace Go.Proofs.YtcbfmokafmagpaaGreat.Gra
set_option linter.unusedSimpArgs false
set_option linter.unusedVariables false
open Go Go.RowKit Go.Shelf Mem Turn GraLaw Same

theorem info_i32 : (Tryz.prog.info? 21).map (fun i => (i.zero, i.size, i.bytes)) = some (some (.int .i32 0), 1, 4) := by kernel_rfl

theorem one_cells (xs : List Int) (k : IntKind) : ∀ u ∈ xs.map (Value.int k), u.oneCell' = true := by
  intro u hu
  obtain ⟨x, _, rfl⟩ := List.mem_map.1 hu
  rfl

set_option maxHeartbeats 1000000 in
set_option maxRecDepth 100000 in
theorem clone_any (b off n c : Nat) (xs : List Int) (w : World) (hl : xs.length = n) (hb : b < w.heap.size) (hc : ∀ i x, xs[i]? = some x → w.cell? ⟨b, off + i, none⟩ = some (.int .i32 x)) (hn : n ≤ 100000) :
    Calls Tryz.prog 32 #[.slice (some ⟨b, off, none⟩) n c] w fun e w' => Fresh w w' 21 1 n (xs.map (Value.int .i32)) e := by
  obtain ⟨i0, hi, hz0, hz1, hz2⟩ := info_parts info_i32
  have H1 : Hid (∀ j u, (xs.map (Value.int .i32))[j]? = some u → (w.alloc (.cells #[] 21)).cell? ((⟨b, off, none⟩ : Addr).add j) = some u) := by
    intro j u hj
    rw [List.getElem?_map, Option.map_eq_some_iff] at hj
    obtain ⟨x, hx, rfl⟩ := hj
    rw [add_none, World.cell?_alloc_lt _ _ _ (by exact hb)]
    exact hc j x hx
  have H2 : Hid ((xs.map (Value.int .i32)).length = n * 1) := by rw [List.length_map, hl]; exact Lib.hid (by omega)
  have H3 : Hid ((w.alloc (.cells #[] 21)).ownsRow w.heap.size 21 1 (.slice (some ⟨w.heap.size, 0, none⟩) 0 0) 0 []) := World.ownsRow_made w #[] 0 (Nat.le_refl _) (by unfold maxLen; omega) rfl
  have q22 : ∀ (w : World) (a : Option Addr) (n c n' c' : Nat), (binOp .eql 22 (.slice a n c) (.slice none n' c')).run Tryz.prog w = .ok (.bool a.isNone) w := fun w a n c n' c' => Lib.run_eql_slice_nil w _ _ a n c n' c' Tryz.underlying22
  clear hc hl
  go_enter Tryz.func32, Tryz.ntmps32
  go_wp2_with (at_builtin; refine wpList_append_own _ rfl _ _ 22 rfl w.heap.size 21 i0 _ 1 4 Tryz.underlying22 hi hz0 hz1 hz2 rfl (by decide) _ 0 _ rfl H3.out ⟨b, off, none⟩ n c (xs.map (Value.int .i32)) rfl H2.out H1.out (one_cells _ _) (by unfold maxLen; omega) (by omega) (by simp) ?_; intro v' w3 hown' hgrow _)
  go_ret
  refine ⟨v', rfl, ?_, ((Below.refl _ _).alloc (Nat.le_refl _) _).grown hgrow (by simp) (fun k e => by injection (show some w.heap.size = some k from e) with e; omega)⟩
  rw [Nat.zero_add, List.nil_append] at hown'
  exact hown'


/-- cluster number k as a value of a row at (b, off) -/
noncomputable def pieceV (xs : List Int) (b off k : Nat) : Value := .slice (some ⟨b, off + st (Jn xs) xs.length k, none⟩) (st (Jn xs) xs.length (k + 1) - st (Jn xs) xs.length k) (st (Jn xs) xs.length (k + 1) - st (Jn xs) xs.length k)
/-- its numbers -/
noncomputable def cl (xs : List Int) (k : Nat) : List Int := (xs.drop (st (Jn xs) xs.length k)).take (st (Jn xs) xs.length (k + 1) - st (Jn xs) xs.length k)
/-- all clusters -/
noncomputable def cls (xs : List Int) : List (List Int) := (List.range (cnt (Jn xs) xs.length)).map (cl xs)

theorem cl_len (xs : List Int) {k : Nat} (hk : k < cnt (Jn xs) xs.length) : (cl xs k).length = st (Jn xs) xs.length (k + 1) - st (Jn xs) xs.length k := by
  have h1 := st_le (J := Jn xs) (n := xs.length) (k := k + 1) hk
  have h2 := st_mono (J := Jn xs) (n := xs.length) (j := k) (k := k + 1) (by omega) hk
  simp [cl]
  omega

/-- a list of lists: the slice owns its cells, and each cell is a slice of its own that reads as the list's member -/
def Lists (w : World) (base : Nat) (v : Value) (xss : List (List Int)) : Prop :=
  ∃ vs : List Value, vs.length = xss.length ∧ w.ownsRow base 22 1 v xss.length vs ∧
    ∀ (i : Nat) (xs : List Int), xss[i]? = some xs → ∃ a n c, vs[i]? = some (.slice a n c) ∧ w.ownsRow base 21 1 (.slice a n c) n (xs.map (Value.int .i32))

end Go.Proofs.YtcbfmokafmagpaaGreat.Gra

/-
  What is known of the numbers of a row; runes that came in; properties in memory.
-/
import Derived.Test.YtcbfmokafmagpaaGreatUcd
import Derived.Test.YtcbfmokafmagpaaGreatSegP
import Derived.Test.YtcbfmokafmagpaaGreatOwn
namespace Go.Proofs.YtcbfmokafmagpaaGreat.Gra
set_option linter.unusedSimpArgs false
set_option linter.unusedVariables false
open Go Go.RowKit Mem Turn Same

/-- what is known of a number -/
noncomputable def prop (r : Int) : Seg.P4 := ⟨Gcb.val r, Pict.isB r, Conj.val r, East.val r⟩
/-- of the numbers of a row, place by place -/
noncomputable def props (xs : List Int) (i : Nat) : Seg.P4 := prop (xs.getD i 0)
/-- all are numbers of 32 bits -/
def R32 (xs : List Int) : Prop := ∀ x ∈ xs, -2147483648 ≤ x ∧ x ≤ 2147483647
theorem R32.at {xs : List Int} (h : R32 xs) {i : Nat} {x : Int} (hx : xs[i]? = some x) : -2147483648 ≤ x ∧ x ≤ 2147483647 := h x (List.mem_of_getElem? hx)

/-- a slice of runes that came in -/
structure Runes (w : World) (a : Option Addr) (n c : Nat) (xs : List Int) : Prop where
  ints : Ints .i32 w a n xs
  r32 : R32 xs
  le : n ≤ c
  max : c ≤ 9223372036854775807

theorem Runes.below {w w' : World} {a : Option Addr} {n c : Nat} {xs : List Int} (h : Runes w a n c xs) (hb : Below w.heap.size w w') : Runes w' a n c xs := ⟨h.ints.below hb, h.r32, h.le, h.max⟩

theorem add_none (b off n : Nat) : (Addr.mk b off none).add n = ⟨b, off + n, none⟩ := by
  unfold Addr.add
  split <;> simp_all

theorem info_prop : (Tryz.prog.info? 88).map (fun i => (i.zero, i.size, i.bytes)) = some (some (.agg #[.int .i64 0, .bool false, .int .i64 0, .int .i64 0]), 4, 32) := by kernel_rfl

noncomputable def pc (xs : List Int) (i : Nat) : List Value := [.int .i64 (props xs i).br, .bool (props xs i).pi, .int .i64 (props xs i).co, .int .i64 (props xs i).ea]
/-- the cells of the first k properties -/
noncomputable def pcells (xs : List Int) : Nat → List Value
  | 0 => []
  | k + 1 => pcells xs k ++ pc xs k

theorem pcells_len (xs : List Int) (k : Nat) : (pcells xs k).length = k * 4 := by
  induction k with
  | zero => rfl
  | succ k ih => simp [pcells, pc, ih]; omega

theorem pcells_get (xs : List Int) {k i : Nat} (h : i < k) (j : Nat) (hj : j < 4) : (pcells xs k)[i * 4 + j]? = (pc xs i)[j]? := by
  induction k with
  | zero => omega
  | succ k ih =>
    simp only [pcells]
    rcases Nat.lt_or_ge i k with hi | hi
    · rw [List.getElem?_append_left (by rw [pcells_len]; omega)]; exact ih hi
    · have : i = k := by omega
      subst this
      rw [List.getElem?_append_right (by rw [pcells_len]; omega), pcells_len]
      congr 1; omega

theorem cells_of_own {w : World} {base : Nat} {a : Option Addr} {n c : Nat} {xs : List Int} (h : w.ownsRow base 88 4 (.slice a n c) n (pcells xs n)) (hn : 0 < n) :
    ∃ g, a = some ⟨g, 0, none⟩ ∧ g < w.heap.size ∧ Seg.Cells w g 0 n (props xs) := by
  rcases h.2 with ⟨_, h0⟩ | ⟨g, cap, cur, h1, h2, h3, _⟩
  · omega
  · injection h1 with h1 _
    subst h1
    refine ⟨g, rfl, (Array.getElem?_eq_some_iff.1 h3).1, fun i hi => ?_⟩
    have key : ∀ j u, j < 4 → (pc xs i)[j]? = some u → w.cell? ⟨g, 0 + i * 4 + j, none⟩ = some u := by
      intro j u hj hu
      have := h.cells (g := g) rfl (i * 4 + j) u (by rw [pcells_get xs hi j hj]; exact hu)
      rw [add_none] at this
      rwa [Nat.add_assoc]
    exact ⟨by simpa using key 0 _ (by omega) rfl, key 1 _ (by omega) rfl, key 2 _ (by omega) rfl, key 3 _ (by omega) rfl⟩

theorem cell_new4 (w : World) (v0 v1 v2 v3 : Value) (t : TypeId) : ∀ j u, [v0, v1, v2, v3][j]? = some u → (w.alloc (.cells #[v0, v1, v2, v3] t)).cell? ((⟨w.heap.size, 0, none⟩ : Addr).add j) = some u := by
  intro j u hj
  match j, hj with
  | 0, hj => simp at hj; subst hj; simp [Addr.add]
  | 1, hj => simp at hj; subst hj; simp [Addr.add]
  | 2, hj => simp at hj; subst hj; simp [Addr.add]
  | 3, hj => simp at hj; subst hj; simp [Addr.add]

end Go.Proofs.YtcbfmokafmagpaaGreat.Gra

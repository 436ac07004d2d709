/-
  grapheme.Count; works of layer 16.
-/
import Derived.Test.YtcbfmokafmagpaaGreatClus
import Derived.Test.YtcbfmokafmagpaaGreatSame
import Derived.Lib.QuietBelow
namespace Go.Proofs.YtcbfmokafmagpaaGreat.Gra
set_option linter.unusedSimpArgs false
set_option linter.unusedVariables false
open Go Go.RowKit Go.Shelf Mem Turn GraLaw Same

theorem same_true (a1 : Option Addr) (n1 c1 : Nat) (xs : List Int) (a2 : Option Addr) (n2 c2 : Nat) (w : World) (h1 : Ints .i32 w a1 n1 xs) (h2 : Ints .i32 w a2 n2 xs) (hm : n1 ≤ 9223372036854775807) :
    Calls Tryz.prog 7 #[.slice a1 n1 c1, .slice a2 n2 c2] w fun e w' => e = .returned (.bool true) ∧ Below w.heap.size w w' :=
  (same_any a1 n1 c1 xs a2 n2 c2 xs w h1 h2 hm).mono fun _ _ ⟨h, hb⟩ => ⟨by rw [h]; simp, hb⟩

theorem lists_below {w w' : World} {base : Nat} {v : Value} {xss : List (List Int)} (h : Lists w base v xss) (hb : Below w.heap.size w w') : Lists w' base v xss := by
  obtain ⟨vs, h1, h2, h3⟩ := h
  have T : Turn (fun _ => False) w w' := Turn.of_new hb
  refine ⟨vs, h1, T.kept h2 (fun _ _ => id), fun i xs hi => ?_⟩
  obtain ⟨a, n, c, e1, e2⟩ := h3 i xs hi
  exact ⟨a, n, c, e1, T.kept e2 (fun _ _ => id)⟩

theorem runes_new (w : World) (xs : List Int) (n : Nat) (hx : xs.length = n) (hr : R32 xs) (hn : n ≤ 100000) (cs : Array Value) (hcs : cs = (xs.map (Value.int .i32)).toArray) (T : TypeId) :
    Runes (w.alloc (.cells cs T)) (some ⟨w.heap.size, 0, none⟩) n n xs := by
  subst hcs
  refine ⟨⟨hx, .inr ⟨_, _, rfl, by simp, fun i x hi => ?_⟩⟩, hr, Nat.le_refl _, by omega⟩
  show (w.alloc _).cell? ⟨w.heap.size, 0 + i, none⟩ = _
  have h1 : (w.alloc (.cells (xs.map (Value.int .i32)).toArray T)).heap[w.heap.size]? = some (.cells (xs.map (Value.int .i32)).toArray T) := World.alloc_heap_new w _
  rw [Nat.zero_add]
  simp only [World.cell?, h1]
  simp [hi]

theorem runes_nil (w : World) : Runes w none 0 0 [] := ⟨⟨rfl, .inl rfl⟩, fun _ h => by simp at h, Nat.le_refl _, by omega⟩

theorem f1 : cnt (Jn [101, 769, 97]) 3 = 2 := by kernel_rfl
theorem f2 : st (Jn [101, 769, 97]) 3 1 = 2 := by kernel_rfl
theorem f3 : cnt (Jn [127465, 127466, 127467]) 3 = 2 := by kernel_rfl
theorem f4 : cls [101, 769, 97] = [[101, 769], [97]] := by kernel_rfl

end Go.Proofs.YtcbfmokafmagpaaGreat.Gra

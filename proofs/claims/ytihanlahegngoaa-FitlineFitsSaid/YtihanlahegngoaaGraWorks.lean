/-
  grapheme.Count; works of layer 16.
-/
import Derived.Test.YtihanlahegngoaaClus
import Derived.Test.YtihanlahegngoaaSame
import Derived.Lib.QuietBelow
namespace Go.Proofs.Ytihanlahegngoaa.Gra
set_option linter.unusedSimpArgs false
set_option linter.unusedVariables false
open Go Go.RowKit Go.Shelf Mem Turn GraLaw Same

theorem same_true (a1 : Option Addr) (n1 c1 : Nat) (xs : List Int) (a2 : Option Addr) (n2 c2 : Nat) (w : World) (h1 : Ints .i32 w a1 n1 xs) (h2 : Ints .i32 w a2 n2 xs) (hm : n1 ≤ 9223372036854775807) :
    Calls Try.prog 28 #[.slice a1 n1 c1, .slice a2 n2 c2] w fun e w' => e = .returned (.bool true) ∧ Below w.heap.size w w' :=
  (same_any a1 n1 c1 xs a2 n2 c2 xs w h1 h2 hm).mono fun _ _ ⟨h, hb⟩ => ⟨by rw [h]; simp, hb⟩

theorem lists_below {w w' : World} {base : Nat} {v : Value} {xss : List (List Int)} (h : Lists w base v xss) (hb : Below w.heap.size w w') : Lists w' base v xss := by
  obtain ⟨vs, h1, h2, h3⟩ := h
  have T : Turn (fun _ => False) w w' := Turn.of_new hb
  refine ⟨vs, h1, T.kept h2 (fun _ _ => id), fun i xs hi => ?_⟩
  obtain ⟨a, n, c, e1, e2⟩ := h3 i xs hi
  exact ⟨a, n, c, e1, T.kept e2 (fun _ _ => id)⟩

theorem count_any (a : Option Addr) (n c : Nat) (xs : List Int) (w : World) (h : Runes w a n c xs) (hn : n ≤ 100000) :
    Calls Try.prog 27 #[.slice a n c] w fun e w' => e = .returned (.int .i64 (cnt (Jn xs) n)) ∧ Below w.heap.size w w' := by
  have H := Lib.hid (starts_any a n c xs w h hn)
  clear h
  go_enter Try.func27, Try.ntmps27
  go_wp2_with fail
  refine H.out.mono ?_
  rintro e w1 ⟨v, rfl, ho, hb⟩
  obtain ⟨A1, C1, rfl⟩ := own_slice ho
  have HB := Lib.hid hb
  clear ho hb H
  go_wp2
  go_ret
  exact ⟨rfl, HB.out⟩

theorem runes_new (w : World) (xs : List Int) (n : Nat) (hx : xs.length = n) (hr : R32 xs) (hn : n ≤ 100000) (cs : Array Value) (hcs : cs = (xs.map (Value.int .i32)).toArray) (T : TypeId) :
    Runes (w.alloc (.cells cs T)) (some ⟨w.heap.size, 0, none⟩) n n xs := by
  subst hcs
  refine ⟨⟨hx, .inr ⟨_, _, rfl, by simp, fun i x hi => ?_⟩⟩, hr, Nat.le_refl _, by omega⟩
  show (w.alloc _).cell? ⟨w.heap.size, 0 + i, none⟩ = _
  have h1 : (w.alloc (.cells (xs.map (Value.int .i32)).toArray T)).heap[w.heap.size]? = some (.cells (xs.map (Value.int .i32)).toArray T) := World.alloc_heap_new w _
  rw [Nat.zero_add]
  simp only [World.cell?, h1]
  simp [hi]

theorem runes_nil (w : World) : Runes w none 0 0 [] := ⟨⟨rfl, .inl rfl⟩, fun _ h => by simp at h, Nat.le_refl _, by omega⟩

theorem f1 : cnt (Jn [101, 769, 97]) 3 = 2 := by kernel_rfl
theorem f2 : st (Jn [101, 769, 97]) 3 1 = 2 := by kernel_rfl
theorem f3 : cnt (Jn [127465, 127466, 127467]) 3 = 2 := by kernel_rfl
theorem f4 : cls [101, 769, 97] = [[101, 769], [97]] := by kernel_rfl

set_option maxHeartbeats 2000000 in
theorem works_any (w : World) :
    Calls Try.prog 22 #[] w fun e w' => e = .returned (.bool true) ∧ Below w.heap.size w w' := by
  go_enter Try.func22, Try.ntmps22
  go_wp2_with fail
  have R1 := runes_new w [101, 769, 97] 3 rfl (by intro x hx; simp at hx; omega) (by omega) #[.int .i32 101, .int .i32 769, .int .i32 97] rfl 21
  have B1 : Below w.heap.size w (w.alloc (.cells #[.int .i32 101, .int .i32 769, .int .i32 97] 21)) := (Below.refl _ _).alloc (Nat.le_refl _) _
  generalize (w.alloc (.cells #[.int .i32 101, .int .i32 769, .int .i32 97] 21)) = w1 at *
  refine (clusters_any _ _ _ _ _ R1 (by omega)).mono ?_
  rintro e w2 ⟨v, rfl, hl, h2⟩
  rw [f4] at hl
  have B2 := B1.trans (h2.mono B1.size)
  obtain ⟨vs, hv1, hv2, hv3⟩ := hl
  obtain ⟨A1, C1, rfl⟩ := own_slice hv2
  obtain ⟨a0, n0, c0, e0, e1⟩ := hv3 0 _ rfl
  have hn0 : n0 = 2 := by have := (ints_of_own e1).1; simpa using this.symm
  subst hn0
  have g0 : ∃ g, A1 = some ⟨g, 0, none⟩ ∧ w2.cell? ⟨g, 0, none⟩ = some (.slice a0 2 c0) := by
    rcases hv2.2 with ⟨_, h0⟩ | ⟨g, cap, cur, h1, _⟩
    · simp at h0
    · injection h1 with h1 _
      subst h1
      have := hv2.cells (g := g) rfl 0 _ e0
      rw [add_none] at this
      exact ⟨g, rfl, this⟩
  obtain ⟨g, rfl, hc0⟩ := g0
  have HB := Lib.hid B2
  clear R1 B1 h2 B2 hv2 hv3 e0 e1 hv1
  simp only [List.length_cons, List.length_nil, Nat.zero_add, Nat.reduceAdd]
  have q45 : ∀ (w : World) (f : Fn) (x y : Array Value), (binOp .neq 45 (.func f x y) .nilFunc).run Try.prog w = .ok (.bool true) w := fun w f x y => by
    have h : ∀ d : Nat, (Op.equalIn (d + 1) 45 (.func f x y) .nilFunc).run Try.prog w = .ok false w := fun d => by simp [Op.equalIn, run_underlying Try.underlying45]
    simp only [binOp]
    simp [Op.equal, Op.maxDepth, h 9999]
  go_wp2_with fail
  refine (all_any _ _ _ _).mono ?_
  rintro e w3 ⟨rfl, rfl⟩
  have HB3 := Lib.hid (HB.out.alloc HB.out.size (.cells #[.slice none 0 0] 22))
  clear hc0 HB
  go_wp2_with fail
  have R1 := runes_new (w2.alloc (.cells #[.slice none 0 0] 22)) [127465, 127466, 127467] 3 rfl (by intro x hx; simp at hx; omega) (by omega) #[.int .i32 127465, .int .i32 127466, .int .i32 127467] rfl 21
  have B4 := HB3.out.alloc HB3.out.size (.cells #[.int .i32 127465, .int .i32 127466, .int .i32 127467] 21)
  have hs : (w2.alloc (.cells #[.slice none 0 0] 22)).heap.size = w2.heap.size + 1 := by simp
  rw [hs] at R1
  clear hs
  generalize ((w2.alloc (.cells #[.slice none 0 0] 22)).alloc (.cells #[.int .i32 127465, .int .i32 127466, .int .i32 127467] 21)) = w5 at *
  refine (count_any _ _ _ _ _ R1 (by omega)).mono ?_
  rw [f3]
  rintro e w6 ⟨rfl, hb6⟩
  have B6 := Lib.hid (B4.trans (hb6.mono B4.size))
  clear R1 B4 hb6 HB3
  go_wp2
  go_ret
  exact ⟨rfl, B6.out⟩

end Go.Proofs.Ytihanlahegngoaa.Gra

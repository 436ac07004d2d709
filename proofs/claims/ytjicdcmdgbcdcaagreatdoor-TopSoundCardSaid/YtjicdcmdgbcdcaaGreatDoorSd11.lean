/-
  What is known of the numbers of a row; runes that came in; properties in memory.
  The statements of layer 15: works.
  A slice of properties that came in, opened to its cells.
  Package cwidth: the gauge.
  cwidth.Of and its reference.
  The reference of layer 19, Of; works.
  The walk of the statement SegCopies.
-/
import Derived.Test.YtjicdcmdgbcdcaaGreatDoorSd4
import Derived.Test.YtjicdcmdgbcdcaaGreatDoorSd10
import Derived.ProofKit
import Derived.Deep.Slices
import Derived.RegionTactic
import Derived.Lib.QuietBelow
import Derived.IntWalk
import Derived.OwnWalk
section
namespace Go.Proofs.YtjicdcmdgbcdcaaGreatDoor.Gra
set_option linter.unusedSimpArgs false
set_option linter.unusedVariables false
open Go Go.RowKit Mem Turn Same

/-- what is known of a number -/
noncomputable def prop (r : Int) : Seg.P4 := ⟨Gcb.val r, Pict.isB r, Conj.val r, East.val r⟩
/-- of the numbers of a row, place by place -/
noncomputable def props (xs : List Int) (i : Nat) : Seg.P4 := prop (xs.getD i 0)
/-- all are numbers of 32 bits -/
def R32 (xs : List Int) : Prop := ∀ x ∈ xs, -2147483648 ≤ x ∧ x ≤ 2147483647
theorem R32.at {xs : List Int} (h : R32 xs) {i : Nat} {x : Int} (hx : xs[i]? = some x) : -2147483648 ≤ x ∧ x ≤ 2147483647 := h x (List.mem_of_getElem? hx)

/-- a slice of runes that came in -/
structure Runes (w : World) (a : Option Addr) (n c : Nat) (xs : List Int) : Prop where
  ints : Ints .i32 w a n xs
  r32 : R32 xs
  le : n ≤ c
  max : c ≤ 9223372036854775807

theorem Runes.below {w w' : World} {a : Option Addr} {n c : Nat} {xs : List Int} (h : Runes w a n c xs) (hb : Below w.heap.size w w') : Runes w' a n c xs := ⟨h.ints.below hb, h.r32, h.le, h.max⟩

theorem add_none (b off n : Nat) : (Addr.mk b off none).add n = ⟨b, off + n, none⟩ := by
  unfold Addr.add
  split <;> simp_all

theorem info_prop : (Tryz.prog.info? 224).map (fun i => (i.zero, i.size, i.bytes)) = some (some (.agg #[.int .i64 0, .bool false, .int .i64 0, .int .i64 0]), 4, 32) := by kernel_rfl

noncomputable def pc (xs : List Int) (i : Nat) : List Value := [.int .i64 (props xs i).br, .bool (props xs i).pi, .int .i64 (props xs i).co, .int .i64 (props xs i).ea]
/-- the cells of the first k properties -/
noncomputable def pcells (xs : List Int) : Nat → List Value
  | 0 => []
  | k + 1 => pcells xs k ++ pc xs k

theorem pcells_len (xs : List Int) (k : Nat) : (pcells xs k).length = k * 4 := by
  induction k with
  | zero => rfl
  | succ k ih => simp [pcells, pc, ih]; omega

theorem pcells_get (xs : List Int) {k i : Nat} (h : i < k) (j : Nat) (hj : j < 4) : (pcells xs k)[i * 4 + j]? = (pc xs i)[j]? := by
  induction k with
  | zero => omega
  | succ k ih =>
    simp only [pcells]
    rcases Nat.lt_or_ge i k with hi | hi
    · rw [List.getElem?_append_left (by rw [pcells_len]; omega)]; exact ih hi
    · have : i = k := by omega
      subst this
      rw [List.getElem?_append_right (by rw [pcells_len]; omega), pcells_len]
      congr 1; omega

theorem cells_of_own {w : World} {base : Nat} {a : Option Addr} {n c : Nat} {xs : List Int} (h : w.ownsRow base 224 4 (.slice a n c) n (pcells xs n)) (hn : 0 < n) :
    ∃ g, a = some ⟨g, 0, none⟩ ∧ g < w.heap.size ∧ Seg.Cells w g 0 n (props xs) := by
  rcases h.2 with ⟨_, h0⟩ | ⟨g, cap, cur, h1, h2, h3, _⟩
  · omega
  · injection h1 with h1 _
    subst h1
    refine ⟨g, rfl, (Array.getElem?_eq_some_iff.1 h3).1, fun i hi => ?_⟩
    have key : ∀ j u, j < 4 → (pc xs i)[j]? = some u → w.cell? ⟨g, 0 + i * 4 + j, none⟩ = some u := by
      intro j u hj hu
      have := h.cells (g := g) rfl (i * 4 + j) u (by rw [pcells_get xs hi j hj]; exact hu)
      rw [add_none] at this
      rwa [Nat.add_assoc]
    exact ⟨by simpa using key 0 _ (by omega) rfl, key 1 _ (by omega) rfl, key 2 _ (by omega) rfl, key 3 _ (by omega) rfl⟩

theorem cell_new4 (w : World) (v0 v1 v2 v3 : Value) (t : TypeId) : ∀ j u, [v0, v1, v2, v3][j]? = some u → (w.alloc (.cells #[v0, v1, v2, v3] t)).cell? ((⟨w.heap.size, 0, none⟩ : Addr).add j) = some u := by
  intro j u hj
  match j, hj with
  | 0, hj => simp at hj; subst hj; simp [Addr.add]
  | 1, hj => simp at hj; subst hj; simp [Addr.add]
  | 2, hj => simp at hj; subst hj; simp [Addr.add]
  | 3, hj => simp at hj; subst hj; simp [Addr.add]

end Go.Proofs.YtjicdcmdgbcdcaaGreatDoor.Gra
end
section
namespace Go.Proofs.YtjicdcmdgbcdcaaGreatDoor.Seg
set_option linter.unusedSimpArgs false
set_option linter.unusedVariables false
open Go.RowKit Mem

end Go.Proofs.YtjicdcmdgbcdcaaGreatDoor.Seg
end
section
namespace Go.Proofs.YtjicdcmdgbcdcaaGreatDoor.Seg
set_option linter.unusedSimpArgs false
set_option linter.unusedVariables false
open Go.ChangeShapes Go.WideShapes Go.Deep Go.RowKit

theorem add_none (b off n : Nat) : (Addr.mk b off none).add n = ⟨b, off + n, none⟩ := by
  unfold Addr.add
  split <;> simp_all

set_option maxRecDepth 100000 in
theorem open_props {H : Type} {enc : TypeId × Value → H} {w : World} {base : Nat} {spare : Nat → Bool} {held : Bool} {fuel : Nat} {a : Option Addr} {len cap : Nat} {x : DataW H × List MemPlace}
    (h : DataW.trod enc Tryz.prog w base spare held fuel 283 [.slice a len cap] = some x) : ∃ ps, IsProps w a len cap ps := by
  rcases open_slice Tryz.underlying283 h with ⟨hcs, _⟩ | ⟨a', len', cap', m, n, D, Pl, hcs, hb, hl, hm, hmm, _, hi⟩
  · simp at hcs
    obtain ⟨rfl, rfl, rfl⟩ := hcs
    exact ⟨fun _ => ⟨0, false, 0, 0⟩, .inl rfl⟩
  · simp at hcs
    obtain ⟨rfl, rfl, rfl⟩ := hcs
    have hC : Tryz.prog.cellsOf 224 = 4 := by kernel_rfl
    have hI : Tryz.prog.cellsOf 3 = 1 := by kernel_rfl
    have hB : Tryz.prog.cellsOf 4 = 1 := by kernel_rfl
    have hlm : len ≤ m := by rw [hmm]; split <;> omega
    have key : ∀ i, ∃ p : P4, i < len → w.cell? (a'.add (i * 4)) = some (.int .i64 p.br) ∧ w.cell? (a'.add (i * 4 + 1)) = some (.bool p.pi) ∧ w.cell? (a'.add (i * 4 + 2)) = some (.int .i64 p.co) ∧ w.cell? (a'.add (i * 4 + 3)) = some (.int .i64 p.ea) := by
      intro i
      by_cases hlt : i < len
      · obtain ⟨cs, hc, ht⟩ := hi i (by omega)
        rw [hC] at hc
        obtain ⟨_, hcl, hat⟩ := World.cells?_some hc
        obtain ⟨xs, n', _, _, _, hxl, hf⟩ := DataW.trod_struct Tryz.underlying224 ht
        match cs, hcl with
        | [v0, v1, v2, v3], _ =>
          have hx : ∃ y0 y1 y2 y3, xs = [y0, y1, y2, y3] := by
            match xs, hxl with
            | [y0, y1, y2, y3], _ => exact ⟨_, _, _, _, rfl⟩
          obtain ⟨y0, y1, y2, y3, rfl⟩ := hx
          have f0 := hf 0 _ rfl
          have f1 := hf 1 _ rfl
          have f2 := hf 2 _ rfl
          have f3 := hf 3 _ rfl
          simp [hI, hB] at f0 f1 f2 f3
          obtain ⟨n0, e0, _, _⟩ := DataW.trod_int Tryz.underlying3 f0
          obtain ⟨n1, e1, _⟩ := DataW.trod_bool Tryz.underlying4 f1
          obtain ⟨n2, e2, _, _⟩ := DataW.trod_int Tryz.underlying3 f2
          obtain ⟨n3, e3, _, _⟩ := DataW.trod_int Tryz.underlying3 f3
          simp at e0 e1 e2 e3
          subst e0 e1 e2 e3
          have g0 := hat 0 (by omega)
          have g1 := hat 1 (by omega)
          have g2 := hat 2 (by omega)
          have g3 := hat 3 (by omega)
          rw [Go.Deep.add_add] at g0 g1 g2 g3
          exact ⟨⟨n0, n1, n2, n3⟩, fun _ => ⟨g0, g1, g2, g3⟩⟩
      · exact ⟨⟨0, false, 0, 0⟩, fun h => absurd h hlt⟩
    by_cases h0 : len = 0
    · exact ⟨fun _ => ⟨0, false, 0, 0⟩, .inl h0⟩
    · obtain ⟨b, off, spot⟩ := a'
      have hspot : spot = none := by
        have := ((key 0).choose_spec (by omega)).1
        simpa [Addr.add] using World.cell?_spot this
      subst hspot
      refine ⟨fun i => (key i).choose, .inr ⟨b, off, rfl, hl, hm, ?_, fun i hlt => ?_⟩⟩
      · exact World.block_lt_of_cell? _ _ ((key 0).choose_spec (by omega)).1
      · have := (key i).choose_spec hlt
        simpa only [add_none, Nat.add_assoc] using this

end Go.Proofs.YtjicdcmdgbcdcaaGreatDoor.Seg
end
section
namespace Go.Proofs.YtjicdcmdgbcdcaaGreatDoor.Cw
set_option linter.unusedSimpArgs false
set_option linter.unusedVariables false
open Go Go.RowKit Mem Seg

structure Ga where
  some : Bool
  pict : Bool
  wide : Bool

def zero : Ga := ⟨false, false, false⟩
/-- does one more make it wide? -/
def widensB (s : Ga) (r b : Int) (p : Bool) (e : Int) : Bool := Basew.bw b e == 2 || (s.some && ((r == 65039 && s.pict) || p || b == 6))
def next (s : Ga) (r b : Int) (p : Bool) (e : Int) : Ga := ⟨true, p, s.wide || widensB s r b p e⟩
def wid (b : Bool) : Int := if b then 2 else 1

/-- block q holds the gauge -/
def At (w : World) (q : Nat) (s : Ga) : Prop := ∃ T, w.heap[q]? = Option.some (.cells #[.bool s.some, .bool s.pict, .bool s.wide] T (0, 0))
theorem At.lt {w : World} {q : Nat} {s : Ga} (h : At w q s) : q < w.heap.size := by
  obtain ⟨T, h⟩ := h
  exact Blk.lt (xs := _) ⟨T, (0, 0), h⟩
theorem At.below {w w' : World} {q : Nat} {s : Ga} (h : At w q s) (hb : Below w.heap.size w w') : At w' q s := by
  have := h.lt
  obtain ⟨T, h⟩ := h
  exact ⟨T, by rw [hb.block q this, h]⟩
theorem At.some {w : World} {q : Nat} {s : Ga} (h : At w q s) : w.cell? ⟨q, 0, none⟩ = Option.some (.bool s.some) := by obtain ⟨T, h⟩ := h; simp [World.cell?, h]
theorem At.pict {w : World} {q : Nat} {s : Ga} (h : At w q s) : w.cell? ⟨q, 1, none⟩ = Option.some (.bool s.pict) := by obtain ⟨T, h⟩ := h; simp [World.cell?, h]
theorem At.wide {w : World} {q : Nat} {s : Ga} (h : At w q s) : w.cell? ⟨q, 2, none⟩ = Option.some (.bool s.wide) := by obtain ⟨T, h⟩ := h; simp [World.cell?, h]
theorem At.frozen {w : World} {q : Nat} {s : Ga} (h : At w q s) (i : Nat) : w.frozen? ⟨q, i, none⟩ = false := by obtain ⟨T, h⟩ := h; simp [World.frozen?, h]
theorem At.set_some {w : World} {q : Nat} {s : Ga} (h : At w q s) (v : Bool) : At (w.setCell ⟨q, 0, none⟩ (.bool v)) q { s with some := v } := by obtain ⟨T, h⟩ := h; exact ⟨T, by rw [heap_setCell h]; rfl⟩
theorem At.set_pict {w : World} {q : Nat} {s : Ga} (h : At w q s) (v : Bool) : At (w.setCell ⟨q, 1, none⟩ (.bool v)) q { s with pict := v } := by obtain ⟨T, h⟩ := h; exact ⟨T, by rw [heap_setCell h]; rfl⟩
theorem At.set_wide {w : World} {q : Nat} {s : Ga} (h : At w q s) (v : Bool) : At (w.setCell ⟨q, 2, none⟩ (.bool v)) q { s with wide := v } := by obtain ⟨T, h⟩ := h; exact ⟨T, by rw [heap_setCell h]; rfl⟩
theorem at_new (w : World) (T : TypeId) : At (w.alloc (.cells #[.bool false, .bool false, .bool false] T)) w.heap.size zero := ⟨T, by show (w.heap.push _)[w.heap.size]? = _; simp [zero]⟩

set_option maxHeartbeats 2000000 in
theorem widens_any (q : Nat) (s : Ga) (r b : Int) (p : Bool) (c e : Int) (w : World) (h : Hid (At w q s)) :
    Calls Tryz.prog 330 #[.pointer (some ⟨q, 0, none⟩), .int .i32 r, .agg #[.int .i64 b, .bool p, .int .i64 c, .int .i64 e]] w fun e' w' => e' = .returned (.bool (widensB s r b p e)) ∧ Below w.heap.size w w' := by
  have HW : Hid (widensB s r b p e = (Basew.bw b e == 2 || (s.some && ((r == 65039 && s.pict) || p || b == 6)))) := rfl
  have HO := Lib.hid (Basew.of_any b p c e)
  have hlt := h.out.lt
  have A1 : At (w.alloc (.cells #[.int .i64 b, .bool p, .int .i64 c, .int .i64 e] 224)) q s := h.out.below ((Below.refl _ _).alloc (Nat.le_refl _) _)
  have K1 : Blk (w.alloc (.cells #[.int .i64 b, .bool p, .int .i64 c, .int .i64 e] 224)) w.heap.size [.int .i64 b, .bool p, .int .i64 c, .int .i64 e] := Blk.alloc _ _ _ _ _ rfl
  have B1 : Below w.heap.size w (w.alloc (.cells #[.int .i64 b, .bool p, .int .i64 c, .int .i64 e] 224)) := (Below.refl _ _).alloc (Nat.le_refl _) _
  have HA := Lib.hid A1
  have HK := Lib.hid K1
  have HB := Lib.hid B1
  clear A1 K1 B1 h
  generalize Basew.bw b e = x at *
  obtain ⟨so, pi, wi⟩ := s
  go_enter Tryz.func330, Tryz.ntmps330
  go_wp2_with fail
  generalize w.alloc (.cells #[.int .i64 b, .bool p, .int .i64 c, .int .i64 e] 224) = w1 at *
  refine (HO.out _).mono ?_
  rintro e' w2 ⟨rfl, hb2⟩
  have HA2 := Lib.hid (HA.out.below hb2)
  have HB2 := Lib.hid (HB.out.trans (hb2.mono HB.out.size))
  have HK2 := Lib.hid (HK.out.below hb2 HK.out.lt)
  clear HA HB HK hb2 HO
  have p0 := HK2.out.cell 0 _ rfl
  have p1 := HK2.out.cell 1 _ rfl
  have c0 := HA2.out.some
  have c1 := HA2.out.pict
  simp only at c0 c1
  cases so <;> cases pi <;> cases p
  all_goals
    go_wp2
    all_goals (go_ret; refine ⟨ret_bool (by rw [HW.out]; simp [*]), HB2.out⟩)

def StepPost (q : Nat) (j : Int) (s' : Ga) (w : World) (e : Ending) (w' : World) : Prop :=
  e = .returned (.int .i64 j) ∧ At w' q s' ∧ But q w w'

set_option maxHeartbeats 4000000 in
theorem step_any (q : Nat) (s : Ga) (r b : Int) (p : Bool) (c e : Int) (w : World) (h : At w q s) :
    Calls Tryz.prog 287 #[.pointer (some ⟨q, 0, none⟩), .int .i32 r, .agg #[.int .i64 b, .bool p, .int .i64 c, .int .i64 e]] w (StepPost q (wid (next s r b p e).wide) (next s r b p e) w) := by
  have hlt := h.lt
  have H0 := Lib.hid h
  have A1 : At (w.alloc (.cells #[.int .i64 b, .bool p, .int .i64 c, .int .i64 e] 224)) q s := h.below ((Below.refl _ _).alloc (Nat.le_refl _) _)
  have B1 : Below w.heap.size w (w.alloc (.cells #[.int .i64 b, .bool p, .int .i64 c, .int .i64 e] 224)) := (Below.refl _ _).alloc (Nat.le_refl _) _
  have K0 : Blk (w.alloc (.cells #[.int .i64 b, .bool p, .int .i64 c, .int .i64 e] 224)) w.heap.size [.int .i64 b, .bool p, .int .i64 c, .int .i64 e] := Blk.alloc _ _ _ _ _ rfl
  have HA := Lib.hid A1
  have HB := Lib.hid B1
  have HK := Lib.hid K0
  have HWD := Lib.hid (widens_any q s r b p c e)
  have HX : Hid (next s r b p e = ⟨true, p, s.wide || widensB s r b p e⟩) := rfl
  clear A1 B1 K0 h
  generalize widensB s r b p e = wd at *
  generalize next s r b p e = s' at *
  obtain ⟨so, pi, wi⟩ := s
  have c2 := HA.out.wide
  have f2 := HA.out.frozen 2
  simp only at c2
  cases wi
  · go_enter Tryz.func287, Tryz.ntmps287
    have p0 := HK.out.cell 0 _ rfl
    have p1 := HK.out.cell 1 _ rfl
    have p2 := HK.out.cell 2 _ rfl
    have p3 := HK.out.cell 3 _ rfl
    go_wp2_with fail
    generalize w.alloc (.cells #[.int .i64 b, .bool p, .int .i64 c, .int .i64 e] 224) = w1 at *
    refine (HWD.out _ HA).mono ?_
    rintro e' w2 ⟨rfl, hb2⟩
    have HA2 := Lib.hid (HA.out.below hb2)
    have HB2 := Lib.hid (HB.out.trans (hb2.mono HB.out.size))
    have HK2 := Lib.hid (HK.out.below hb2 HK.out.lt)
    have hkl := HK2.out.lt
    clear HA HB HK hb2 HWD c2 f2 p0 p1 p2 p3
    have c2 := HA2.out.wide
    have f2 := HA2.out.frozen 2
    have p1 := HK2.out.cell 1 _ rfl
    go_wp2
    have HA3 := Lib.hid (HA2.out.set_wide wd)
    have HB3 := Lib.hid ((But.of_below HB2.out).setCell (q := q) 2 (.bool wd))
    have HK3 := Lib.hid (HK2.out.setCell (q := q) (by omega) 2 (.bool wd))
    generalize w2.setCell ⟨q, 2, none⟩ (.bool wd) = w3 at *
    clear HA2 HB2 HK2 c2 f2 p1
    have p1 := HK3.out.cell 1 _ rfl
    have f0 := HA3.out.frozen 0
    have f1 := HA3.out.frozen 1
    have c0 := HA3.out.some
    have c1 := HA3.out.pict
    have c2 := HA3.out.wide
    simp only at c0 c1 c2
    go_region
    all_goals
      cases wd
      all_goals
        go_wp2
        go_ret
        refine ⟨by rw [HX.out]; rfl, ?_, ?_⟩
        · rw [HX.out]; exact (HA3.out.set_some true).set_pict p
        · exact ((HB3.out.trans (But.of_below ((Below.refl _ _).drew))).setCell 0 (.bool true)).setCell 1 _
  · have p1 := HK.out.cell 1 _ rfl
    go_enter Tryz.func287, Tryz.ntmps287
    clear HWD p1
    go_wp2
    have HS : (w.setCell ⟨q, 2, none⟩ (.bool true)).heap.size = w.heap.size := by simp [World.setCell]
    have HA3 : Hid (At ((w.setCell ⟨q, 2, none⟩ (.bool true)).alloc (.cells #[.int .i64 b, .bool p, .int .i64 c, .int .i64 e] 224)) q ⟨so, pi, true⟩) := (H0.out.set_wide true).below ((Below.refl _ _).alloc (Nat.le_refl _) _)
    have HB3 : Hid (But q w ((w.setCell ⟨q, 2, none⟩ (.bool true)).alloc (.cells #[.int .i64 b, .bool p, .int .i64 c, .int .i64 e] 224))) := ((But.refl q w).setCell 2 (.bool true)).trans (But.of_below ((Below.refl _ _).alloc (Nat.le_refl _) _))
    have HK3 : Hid (Blk ((w.setCell ⟨q, 2, none⟩ (.bool true)).alloc (.cells #[.int .i64 b, .bool p, .int .i64 c, .int .i64 e] 224)) w.heap.size [.int .i64 b, .bool p, .int .i64 c, .int .i64 e]) := by
      have := Blk.alloc (w.setCell ⟨q, 2, none⟩ (.bool true)) #[.int .i64 b, .bool p, .int .i64 c, .int .i64 e] 224 (0, 0) [.int .i64 b, .bool p, .int .i64 c, .int .i64 e] rfl
      rw [HS] at this
      exact this
    generalize ((w.setCell ⟨q, 2, none⟩ (.bool true)).alloc (.cells #[.int .i64 b, .bool p, .int .i64 c, .int .i64 e] 224)) = w3 at *
    clear HA HB HK c2 f2 HS
    have p1 := HK3.out.cell 1 _ rfl
    have f0 := HA3.out.frozen 0
    have f1 := HA3.out.frozen 1
    have c0 := HA3.out.some
    have c1 := HA3.out.pict
    have c2 := HA3.out.wide
    simp only at c0 c1 c2
    go_region
    all_goals
      go_wp2
      go_ret
      refine ⟨by rw [HX.out]; rfl, ?_, ?_⟩
      · rw [HX.out]; exact (HA3.out.set_some true).set_pict p
      · exact ((HB3.out.trans (But.of_below ((Below.refl _ _).drew))).setCell 0 (.bool true)).setCell 1 _

theorem step_none (r b : Int) (p : Bool) (c e : Int) (w : World) : Calls Tryz.prog 287 #[.pointer none, .int .i32 r, .agg #[.int .i64 b, .bool p, .int .i64 c, .int .i64 e]] w fun e w' => e = .returned (.int .i64 1) ∧ Below w.heap.size w w' := by
  go_enter Tryz.func287, Tryz.ntmps287
  go_wp2
  go_ret
  exact ⟨rfl, (Below.refl _ _).alloc (Nat.le_refl _) _⟩

end Go.Proofs.YtjicdcmdgbcdcaaGreatDoor.Cw

namespace Go.Proofs.YtjicdcmdgbcdcaaGreatDoor.Cw
set_option linter.unusedSimpArgs false
set_option linter.unusedVariables false
open Go Go.RowKit Mem Seg Gra Turn

/-- does place i make the row wide? -/
def wd (l : Nat → Int) (ps : Nat → P4) (i : Nat) : Bool := Basew.bw (ps i).br (ps i).ea == 2 || (decide (0 < i) && ((l i == 65039 && (ps (i - 1)).pi) || (ps i).pi || (ps i).br == 6))
def wideTo (l : Nat → Int) (ps : Nat → P4) : Nat → Bool
  | 0 => false
  | k + 1 => wideTo l ps k || wd l ps k
def gAt (l : Nat → Int) (ps : Nat → P4) : Nat → Ga
  | 0 => zero
  | k + 1 => next (gAt l ps k) (l k) (ps k).br (ps k).pi (ps k).ea

theorem gAt_eq (l : Nat → Int) (ps : Nat → P4) (k : Nat) : gAt l ps k = ⟨decide (0 < k), decide (0 < k) && (ps (k - 1)).pi, wideTo l ps k⟩ := by
  induction k with
  | zero => rfl
  | succ k ih =>
    simp only [gAt, ih, next, widensB, wideTo, wd]
    cases k <;> simp

theorem gAt_wide (l : Nat → Int) (ps : Nat → P4) (k : Nat) : (gAt l ps k).wide = wideTo l ps k := by rw [gAt_eq]

/-- the numbers of a row, place by place -/
def num (xs : List Int) (i : Nat) : Int := xs.getD i 0
/-- how wide a row is -/
noncomputable def width (xs : List Int) : Int := wid (wideTo (num xs) (props xs) xs.length)

set_option maxHeartbeats 4000000 in
theorem of_any (a : Option Addr) (n c : Nat) (xs : List Int) (w : World) (h : Runes w a n c xs) :
    Calls Tryz.prog 232 #[.slice a n c] w fun e w' => e = .returned (.int .i64 (width xs)) ∧ Below w.heap.size w w' := by
  have HI := Lib.hid h.ints
  have HR := Lib.hid h.r32
  have HL := Lib.hid h.ints.1
  have hn : n ≤ 9223372036854775807 := Nat.le_trans h.le h.max
  have HW : Hid (width xs = wid (wideTo (num xs) (props xs) n)) := by unfold width; rw [HL.out]; exact Lib.hid rfl
  clear h
  go_enter Tryz.func232, Tryz.ntmps232
  go_wp2
  have A0 := at_new w 245
  have B0 : Below w.heap.size w (w.alloc (.cells #[.bool false, .bool false, .bool false] 245)) := (Below.refl _ _).alloc (Nat.le_refl _) _
  generalize (w.alloc (.cells #[.bool false, .bool false, .bool false] 245)) = w0 at *
  have HA0 := Lib.hid A0
  have HB0 := Lib.hid B0
  clear A0 B0
  go_loopw [4, 9] (fun v i wr => ∃ k : Nat, k ≤ n ∧ i = .int .i64 k ∧ v = .int .i64 (wid (wideTo (num xs) (props xs) k)) ∧ Hid (At wr w.heap.size (gAt (num xs) (props xs) k) ∧ Below w.heap.size w wr)) (fun _ i _ => n - (intOf i).toNat)
  case atStart => exact ⟨0, Nat.zero_le _, rfl, rfl, HA0.out, HB0.out⟩
  case round =>
    obtain ⟨k, hk, rfl, rfl, H⟩ := hrel
    by_cases hlt : k < n
    · obtain ⟨x, hx⟩ : ∃ x, xs[k]? = some x := ⟨_, List.getElem?_eq_getElem (by rw [HL.out]; exact hlt)⟩
      obtain ⟨hl, h0 | ⟨b, off, rfl, hb, hc⟩⟩ := HI.out
      · omega
      have hcx := (H.out.2.cell (p := ⟨b, off + k, none⟩) hb).trans (hc k x hx)
      obtain ⟨hr1, hr2⟩ := HR.out.at hx
      have hlt' : (k : Int) < n := by omega
      have HP : Hid (props xs k = prop x) := by unfold props; rw [List.getD_eq_getElem?_getD, hx]; exact Lib.hid rfl
      have HN : Hid (num xs k = x) := by unfold num; rw [List.getD_eq_getElem?_getD, hx]; exact Lib.hid rfl
      have hA := Lib.hid H.out.1
      have hB := Lib.hid H.out.2
      clear hx hc hl H
      go_wp2_with fail
      refine (Ucd.of_any x hr1 hr2 _).mono ?_
      rintro e w1 ⟨rfl, hb1⟩
      have hA1 := Lib.hid (hA.out.below hb1)
      have hB1 := Lib.hid (hB.out.trans (hb1.mono hB.out.size))
      clear hA hB hb1 hcx
      unfold Ucd.ofV Ucd.propV
      go_wp2_with fail
      refine (step_any w.heap.size (gAt (num xs) (props xs) k) x (Gcb.val x) (Pict.isB x) (Conj.val x) (East.val x) w1 hA1.out).mono ?_
      have hnx : next (gAt (num xs) (props xs) k) x (Gcb.val x) (Pict.isB x) (East.val x) = gAt (num xs) (props xs) (k + 1) := by
        show _ = next _ _ _ _ _
        rw [HP.out, HN.out]; rfl
      rw [hnx, gAt_wide]
      rintro e w2 ⟨rfl, hA2, hB2⟩
      have R : Hid (At w2 w.heap.size (gAt (num xs) (props xs) (k + 1)) ∧ Below w.heap.size w w2) := ⟨hA2, hB1.out.trans (hB2.below (by omega) hB1.out.size)⟩
      clear hA1 hB1 hA2 hB2 hnx
      go_wp2
      go_roundw
      case rel => exact ⟨k + 1, by omega, by go_num, rfl, R⟩
      case measure => simp [intOf]; omega
    · obtain rfl : k = n := by omega
      go_wp2
      go_ret
      exact ⟨by rw [HW.out]; rfl, H.out.2⟩

set_option maxRecDepth 100000 in
set_option maxHeartbeats 8000000 in
theorem row_any (a : Option Addr) (n c : Nat) (xs : List Int) (a2 : Option Addr) (c2 : Nat) (ps : Nat → P4) (w : World) (h : Same.Ints .i32 w a n xs) (hp : IsProps w a2 n c2 ps) (hn : n ≤ 9223372036854775807) :
    Calls Tryz.prog 221 #[.slice a n c, .slice a2 n c2] w fun e w' => e = .returned (.int .i64 (wid (wideTo (num xs) ps n))) ∧ Below w.heap.size w w' := by
  have HI := Lib.hid h
  have HP := Lib.hid hp
  have HL := Lib.hid h.1
  clear h hp
  go_enter Tryz.func221, Tryz.ntmps221
  go_wp2
  go_loopw [5] (fun i wr => ∃ k : Nat, k ≤ n ∧ i = .int .i64 k ∧ Hid (wideTo (num xs) ps k = false ∧ Below w.heap.size w wr)) (fun i _ => n - (intOf i).toNat)
  case atStart => exact ⟨0, Nat.zero_le _, rfl, rfl, Below.refl _ _⟩
  case round =>
    obtain ⟨k, hk, rfl, H⟩ := hrel
    by_cases hlt : k < n
    · obtain ⟨x, hx⟩ : ∃ x, xs[k]? = some x := ⟨_, List.getElem?_eq_getElem (by rw [HL.out]; exact hlt)⟩
      obtain ⟨hl, h0 | ⟨b, off, rfl, hb, hc⟩⟩ := HI.out
      · omega
      rcases HP.out with h0 | ⟨b2, off2, rfl, _, _, hb2, hc2⟩
      · omega
      have HN : Hid (num xs k = x) := by unfold num; rw [List.getD_eq_getElem?_getD, hx]; exact Lib.hid rfl
      have HWD : Hid (wd (num xs) ps k = (Basew.bw (ps k).br (ps k).ea == 2 || (decide (0 < k) && ((x == 65039 && (ps (k - 1)).pi) || (ps k).pi || (ps k).br == 6)))) := by
        rw [← HN.out]; exact Lib.hid rfl
      have HB := Lib.hid H.out.2
      have HF := Lib.hid H.out.1
      have HC := Lib.hid hc2
      have HX := Lib.hid (hc k x hx)
      have hlt' : (k : Int) < n := by omega
      obtain ⟨q0, q1, q2, q3⟩ := hc2 k hlt
      have Q0 := Lib.hid q0
      have Q1 := Lib.hid q1
      have p0 := q0
      have p1 := q1
      have p2 := q2
      have p3 := q3
      clear q0 q1 q2 q3
      have p0 := (HB.out.cell (p := ⟨b2, off2 + k * 4, none⟩) hb2).trans p0
      have p1 := (HB.out.cell (p := ⟨b2, off2 + k * 4 + 1, none⟩) hb2).trans p1
      have p2 := (HB.out.cell (p := ⟨b2, off2 + k * 4 + 2, none⟩) hb2).trans p2
      have p3 := (HB.out.cell (p := ⟨b2, off2 + k * 4 + 3, none⟩) hb2).trans p3
      clear hx hc hl hc2 H
      have HO := Lib.hid (Basew.ref_any (ps k).br (ps k).pi (ps k).co (ps k).ea)
      unfold Ucd.propV at HO
      generalize Basew.bw (ps k).br (ps k).ea = bw0 at *
      generalize (ps k).br = br at *
      generalize (ps k).pi = pi at *
      generalize (ps k).co = co at *
      generalize (ps k).ea = ea at *
      go_wp2_with fail
      refine (HO.out _).mono ?_
      rintro e w1 ⟨rfl, hb1⟩
      have HB1 := Lib.hid (HB.out.trans (hb1.mono HB.out.size))
      clear hb1 p0 p1 p2 p3 HB
      have p0 := (HB1.out.cell (p := ⟨b2, off2 + k * 4, none⟩) hb2).trans Q0.out
      have p1 := (HB1.out.cell (p := ⟨b2, off2 + k * 4 + 1, none⟩) hb2).trans Q1.out
      have hcx := (HB1.out.cell (p := ⟨b, off + k, none⟩) hb).trans HX.out
      have HFin : Hid (∀ d, wd (num xs) ps k = d → wideTo (num xs) ps (k + 1) = d) := fun d hd => by show (wideTo (num xs) ps k || wd (num xs) ps k) = d; rw [HF.out, hd]; rfl
      have HTrue : Hid (wd (num xs) ps k = true → wideTo (num xs) ps n = true) := fun hd => by
        have : ∀ m, k < m → wideTo (num xs) ps m = true := by
          intro m hm
          induction m with
          | zero => omega
          | succ m ih =>
            show (wideTo (num xs) ps m || wd (num xs) ps m) = true
            rcases Nat.lt_or_ge k m with h | h
            · rw [ih h]; rfl
            · have : m = k := by omega
              subst this; rw [hd]; simp
        exact this n hlt
      clear HX Q0 Q1
      rcases hb2' : (bw0 == 2) with _ | _
      · by_cases hk0 : k = 0
        · subst hk0
          have HWF : Hid (wd (num xs) ps 0 = false) := by rw [HWD.out, hb2']; exact Lib.hid rfl
          clear HWD
          go_wp2
          go_roundw
          case rel => exact ⟨1, by omega, rfl, HFin.out _ HWF.out, HB1.out⟩
          case measure => simp [intOf]; omega
        · have hk0' : (0 : Int) < k := by omega
          have e0 : decide (0 < k) = true := by simp; omega
          have HWF := Lib.hid (HWD.out.trans (by rw [hb2', e0]))
          obtain ⟨_, m1, _, _⟩ := HC.out (k - 1) (by omega)
          have m1 := (HB1.out.cell (p := ⟨b2, off2 + (k - 1) * 4 + 1, none⟩) hb2).trans m1
          clear e0 HWD HC
          have x1 : IntKind.i64.wrap ((k : Int) - 1) = (k : Int) - 1 := IntWalk.i64_in _ (by omega)
          have x2 : (0 : Int) ≤ (k : Int) - 1 := by omega
          have x3 : ((k : Int) - 1).toNat = k - 1 := by omega
          have x4 : (k : Int) - 1 < n := by omega
          generalize (ps (k - 1)).pi = pm at *
          rcases hx1 : (x == 65039) with _ | _ <;> rcases hb6 : (br == 6) with _ | _ <;> cases pm <;> cases pi
          all_goals
            have HWG := Lib.hid (HWF.out.trans (by rw [hx1, hb6]))
            go_wp2
            first
              | (go_ret
                 exact ⟨by rw [HTrue.out (HWG.out.trans rfl)]; rfl, HB1.out⟩)
              | (go_roundw
                 case rel => exact ⟨k + 1, by omega, by go_num, HFin.out _ (HWG.out.trans rfl), HB1.out⟩
                 case measure => simp [intOf]; omega)
      · have HWT : Hid (wd (num xs) ps k = true) := by rw [HWD.out, hb2']; exact Lib.hid rfl
        go_wp2
        go_ret
        exact ⟨by rw [HTrue.out HWT.out]; rfl, HB1.out⟩
    · obtain rfl : k = n := by omega
      go_wp2
      go_ret
      exact ⟨by rw [H.out.1]; rfl, H.out.2⟩

end Go.Proofs.YtjicdcmdgbcdcaaGreatDoor.Cw

namespace Go.Proofs.YtjicdcmdgbcdcaaGreatDoor.Cw
set_option linter.unusedSimpArgs false
set_option linter.unusedVariables false
open Go Go.RowKit Mem Seg Gra Turn

theorem isProps_of_own {w : World} {base : Nat} {a : Option Addr} {n c : Nat} {xs : List Int} (h : w.ownsRow base 224 4 (.slice a n c) n (pcells xs n)) : IsProps w a n c (props xs) := by
  rcases Nat.eq_zero_or_pos n with h0 | h0
  · exact .inl h0
  · obtain ⟨g, rfl, hg, hC⟩ := cells_of_own h h0
    refine .inr ⟨g, 0, rfl, ?_, ?_, hg, hC⟩
    · rcases h.2 with ⟨_, h1⟩ | ⟨g', cap, cur, h1, _, _, h4, _⟩
      · omega
      · injection h1 with _ _ h1; omega
    · rcases h.2 with ⟨_, h1⟩ | ⟨g', cap, cur, h1, _, _, h4, h5, _⟩
      · omega
      · injection h1 with _ _ h1; omega

set_option maxHeartbeats 4000000 in
theorem ref_of (a : Option Addr) (n c : Nat) (xs : List Int) (w : World) (h : Runes w a n c xs) (hn : n ≤ 100000) :
    Calls Tryz.prog 151 #[.slice a n c] w fun e w' => e = .returned (.int .i64 (width xs)) ∧ Below w.heap.size w w' := by
  obtain ⟨i0, hi, hz0, hz1, hz2⟩ := info_parts info_prop
  have HI := Lib.hid h.ints
  have HR := Lib.hid h.r32
  have HL := Lib.hid h.ints.1
  have HW : Hid (width xs = wid (wideTo (num xs) (props xs) n)) := by unfold width; rw [HL.out]; exact Lib.hid rfl
  clear h
  go_enter Tryz.func151, Tryz.ntmps151
  go_wp2
  go_loopw [3, 4] (fun v i wr => ∃ k : Nat, k ≤ n ∧ i = .int .i64 k ∧ Hid (wr.ownsRow w.heap.size 224 4 v k (pcells xs k) ∧ Below w.heap.size w wr)) (fun _ i _ => n - (intOf i).toNat)
  case atStart => exact ⟨0, Nat.zero_le _, rfl, World.ownsRow_nil _ _ _ _, Below.refl _ _⟩
  case round =>
    obtain ⟨k, hk, rfl, H⟩ := hrel
    by_cases hlt : k < n
    · obtain ⟨x, hx⟩ : ∃ x, xs[k]? = some x := ⟨_, List.getElem?_eq_getElem (by rw [HL.out]; exact hlt)⟩
      obtain ⟨hl, h0 | ⟨b, off, rfl, hb, hc⟩⟩ := HI.out
      · omega
      have hcx := (H.out.2.cell (p := ⟨b, off + k, none⟩) hb).trans (hc k x hx)
      obtain ⟨hr1, hr2⟩ := HR.out.at hx
      have hlt' : (k : Int) < n := by omega
      have HP : Hid (props xs k = prop x) := by unfold props; rw [List.getD_eq_getElem?_getD, hx]; exact Lib.hid rfl
      clear hx hc hl
      go_wp2_with fail
      refine (Ucd.ref_any x hr1 hr2 _).mono ?_
      rintro e w1 ⟨rfl, hb1⟩
      have hown := (Turn.of_new hb1 : Turn (fun _ => False) wr w1).kept H.out.1 (fun _ _ => id)
      have hB1 := H.out.2.trans (hb1.mono H.out.2.size)
      have hz1' := hB1.size
      clear hb1 hcx
      unfold Ucd.ofV Ucd.propV
      have HB := Lib.hid hB1
      clear hB1
      go_wp2_with (at_builtin; refine wpList_append_own _ rfl _ _ 283 rfl w.heap.size 224 i0 _ 4 32 Tryz.underlying283 hi hz0 hz1 hz2 rfl (by decide) _ k _ rfl (hown.alloc _) ⟨w1.heap.size, 0, none⟩ 1 1 [.int .i64 (Gcb.val x), .bool (Pict.isB x), .int .i64 (Conj.val x), .int .i64 (East.val x)] rfl rfl (cell_new4 _ _ _ _ _ _) (by simp [Value.oneCell']) (by unfold maxLen; omega) (by omega) (by simp; omega) ?_; intro v' w3 hown' hgrow _)
      go_roundw
      case rel =>
        refine ⟨k + 1, by omega, by go_num, ?_, (HB.out.alloc hz1' _).grown hgrow (by simp; omega) (fun g e => (hown.lt g e).1)⟩
        have e : pc xs k = [.int .i64 (Gcb.val x), .bool (Pict.isB x), .int .i64 (Conj.val x), .int .i64 (East.val x)] := by unfold pc; rw [HP.out]; rfl
        show World.ownsRow w3 _ _ _ _ _ (pcells xs k ++ pc xs k)
        rw [e]
        exact hown'
      case measure => simp [intOf]; omega
    · obtain rfl : k = n := by omega
      have hown := H.out.1
      obtain ⟨A1, C1, rfl⟩ := own_slice hown
      have HO := Lib.hid (isProps_of_own hown)
      have HB := Lib.hid H.out.2
      have HI2 := Lib.hid (HI.out.below HB.out)
      clear hown H
      go_wp2_with fail
      refine (row_any a _ c xs A1 C1 (props xs) wr HI2.out HO.out (by omega)).mono ?_
      rintro e w1 ⟨rfl, hb1⟩
      have HB1 := Lib.hid (HB.out.trans (hb1.mono HB.out.size))
      clear hb1
      go_wp2
      go_ret
      exact ⟨by rw [HW.out]; rfl, HB1.out⟩

theorem runes_new (w : World) (xs : List Int) (n : Nat) (hx : xs.length = n) (hr : R32 xs) (hn : n ≤ 100000) (cs : Array Value) (hcs : cs = (xs.map (Value.int .i32)).toArray) (T : TypeId) :
    Runes (w.alloc (.cells cs T)) (some ⟨w.heap.size, 0, none⟩) n n xs := by
  subst hcs
  refine ⟨⟨hx, .inr ⟨_, _, rfl, by simp, fun i x hi => ?_⟩⟩, hr, Nat.le_refl _, by omega⟩
  show (w.alloc _).cell? ⟨w.heap.size, 0 + i, none⟩ = _
  have h1 : (w.alloc (.cells (xs.map (Value.int .i32)).toArray T)).heap[w.heap.size]? = some (.cells (xs.map (Value.int .i32)).toArray T) := World.alloc_heap_new w _
  rw [Nat.zero_add]
  simp only [World.cell?, h1]
  simp [hi]

theorem runes_nil (w : World) : Runes w none 0 0 [] := ⟨⟨rfl, .inl rfl⟩, fun _ h => by simp at h, Nat.le_refl _, by omega⟩

theorem f1 : width [10084] = 1 := by kernel_rfl
theorem f2 : width [10084, 65039] = 2 := by kernel_rfl
theorem f3 : width [127465, 127466] = 2 := by kernel_rfl
theorem f4 : width [101, 769] = 1 := by kernel_rfl
theorem f5 : width [] = 1 := by kernel_rfl

end Go.Proofs.YtjicdcmdgbcdcaaGreatDoor.Cw
end
section
namespace Go.Proofs.YtjicdcmdgbcdcaaGreatDoor.Seg
set_option linter.unusedSimpArgs false
set_option linter.unusedVariables false
open Go.RowKit Mem

theorem At.set_all {w : World} {q : Nat} {s : St} (h : At w q s) :
    At (((((w.setCell ⟨q, 0, none⟩ (.bool false)).setCell ⟨q, 1, none⟩ (.int .i64 0)).setCell ⟨q, 2, none⟩ (.int .i64 0)).setCell ⟨q, 3, none⟩ (.int .i64 0)).setCell ⟨q, 4, none⟩ (.bool false)) q zero :=
  ((((h.set_some false).set_last 0).set_pict 0).set_conj 0).set_odd false

set_option maxHeartbeats 1000000 in
theorem reset_any (q : Nat) (s : St) (w : World) (h : At w q s) :
    Calls Tryz.prog 69 #[.pointer (some ⟨q, 0, none⟩)] w fun e w' => e = .returned (.tuple #[]) ∧ At w' q zero ∧ But q w w' := by
  have c0 := h.some
  have c1 := h.last
  have c2 := h.pict
  have c3 := h.conj
  have c4 := h.odd
  have z0 := h.frozen 0
  have z1 := h.frozen 1
  have z2 := h.frozen 2
  have z3 := h.frozen 3
  have z4 := h.frozen 4
  have H := Lib.hid h
  clear h
  go_enter Tryz.func69, Tryz.ntmps69
  go_wp2
  go_end0
  exact ⟨rfl, H.out.set_all, (((((But.refl q w).setCell 0 _).setCell 1 _).setCell 2 _).setCell 3 _).setCell 4 _⟩

theorem at_new' (w : World) (T : TypeId) (s : St) : At (w.alloc (.cells #[.bool s.some, .int .i64 s.last, .int .i64 s.pict, .int .i64 s.conj, .bool s.odd] T)) w.heap.size s := ⟨T, by show (w.heap.push _)[w.heap.size]? = _; simp⟩

end Go.Proofs.YtjicdcmdgbcdcaaGreatDoor.Seg
end

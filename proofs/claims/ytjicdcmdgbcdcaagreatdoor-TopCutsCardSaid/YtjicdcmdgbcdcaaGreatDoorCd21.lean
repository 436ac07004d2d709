/-
  Package basew and its reference.
  Package cwidth: the gauge.
  cwidth.Of and its reference.
  The reference of layer 19, Of; works.
  cwidth.Gauge within a begun cluster: its walks at an offset (printed by gen_off.py).
-/
import Derived.Test.YtjicdcmdgbcdcaaGreatDoorCd8
import Derived.Test.YtjicdcmdgbcdcaaGreatDoorCd9
import Derived.Lib.QuietBelow
import Derived.RegionTactic
import Derived.IntWalk
import Derived.OwnWalk
section
namespace Go.Proofs.YtjicdcmdgbcdcaaGreatDoor.Basew
set_option linter.unusedSimpArgs false
set_option linter.unusedVariables false
open Go.RowKit Mem Tab Ucd

theorem ret_int {k : IntKind} {a b : Int} (h : a = b) : Ending.returned (.int k a) = .returned (.int k b) := by rw [h]
theorem ret_bool {a b : Bool} (h : a = b) : Ending.returned (.bool a) = .returned (.bool b) := by rw [h]

def zs : List Int := [1, 2, 3, 4, 5, 10, 11]
def noneB (c : Int) : Bool := c == 1 || c == 2 || c == 3 || c == 4 || c == 5 || c == 10 || c == 11
/-- how wide a class of breaks and an east width make it -/
def bw (b e : Int) : Int := if noneB b then 0 else if e == 1 || e == 2 then 2 else 1
def silentB (r : Int) : Bool := (decide (0 ≤ r) && decide (r ≤ 31)) || (decide (127 ≤ r) && decide (r ≤ 159))

theorem none_any (c : Int) (w : World) :
    Calls Tryz.prog 348 #[.int .i64 c] w fun e w' => e = .returned (.bool (noneB c)) ∧ w = w' := by
  go_enter Tryz.func348, Tryz.ntmps348
  go_wp2
  all_goals (go_ret; exact ⟨ret_bool (by unfold noneB; simp [*]), rfl⟩)

theorem e12 (e : Int) : (e == 1) = true ∨ ((e == 1) = false ∧ (e == 2) = true) ∨ ((e == 1) = false ∧ (e == 2) = false) := by
  by_cases h1 : e = 1
  · simp [h1]
  · by_cases h2 : e = 2 <;> simp [h1, h2]

set_option maxHeartbeats 400000 in
theorem of_any (b : Int) (p : Bool) (c e : Int) (w : World) :
    Calls Tryz.prog 342 #[propV b p c e] w fun e' w' => e' = .returned (.int .i64 (bw b e)) ∧ Below w.heap.size w w' := by
  unfold propV
  have hb : bw b e = if noneB b then 0 else if e == 1 || e == 2 then 2 else 1 := rfl
  have H := Lib.hid hb
  clear hb
  rcases e12 e with h1 | ⟨h1, h2⟩ | ⟨h1, h2⟩
  all_goals
   go_enter Tryz.func342, Tryz.ntmps342
   go_wp2_with (go_at_call 348; refine (none_any _ _).mono ?_; rintro e w' ⟨rfl, rfl⟩)
   all_goals (go_ret; refine ⟨ret_int (by rw [H.out]; simp [*]), (Below.refl _ _).alloc (Nat.le_refl _) _⟩)

theorem sil_cases (r : Int) :
    (decide (0 ≤ r) = true ∧ decide (r < 32) = true ∧ decide (r ≤ 31) = true ∧ silentB r = true) ∨
    (decide (0 ≤ r) = true ∧ decide (r < 32) = false ∧ decide (r ≤ 31) = false ∧ decide (127 ≤ r) = true ∧ decide (r ≤ 159) = true ∧ silentB r = true) ∨
    (decide (0 ≤ r) = true ∧ decide (r < 32) = false ∧ decide (r ≤ 31) = false ∧ decide (127 ≤ r) = true ∧ decide (r ≤ 159) = false ∧ silentB r = false) ∨
    (decide (0 ≤ r) = true ∧ decide (r < 32) = false ∧ decide (r ≤ 31) = false ∧ decide (127 ≤ r) = false ∧ True ∧ silentB r = false) ∨
    (decide (0 ≤ r) = false ∧ decide (127 ≤ r) = false ∧ True ∧ silentB r = false) := by
  unfold silentB
  simp
  omega

set_option maxHeartbeats 400000 in
theorem silent_any (r : Int) (w : World) : Calls Tryz.prog 164 #[.int .i32 r] w fun e w' => e = .returned (.bool (silentB r)) ∧ w = w' := by
  rcases sil_cases r with ⟨d1, d2, d3, h⟩ | ⟨d1, d2, d3, d4, d5, h⟩ | ⟨d1, d2, d3, d4, d5, h⟩ | ⟨d1, d2, d3, d4, d5, h⟩ | ⟨d1, d2, d3, h⟩
  all_goals
    rw [h]
    clear h
    go_enter Tryz.func164, Tryz.ntmps164
    go_wp2
    go_ret
    exact ⟨rfl, rfl⟩

end Go.Proofs.YtjicdcmdgbcdcaaGreatDoor.Basew
end
section
namespace Go.Proofs.YtjicdcmdgbcdcaaGreatDoor.Cw
set_option linter.unusedSimpArgs false
set_option linter.unusedVariables false
open Go Go.RowKit Mem Seg

structure Ga where
  some : Bool
  pict : Bool
  wide : Bool

def zero : Ga := ⟨false, false, false⟩
/-- does one more make it wide? -/
def widensB (s : Ga) (r b : Int) (p : Bool) (e : Int) : Bool := Basew.bw b e == 2 || (s.some && ((r == 65039 && s.pict) || p || b == 6))
def next (s : Ga) (r b : Int) (p : Bool) (e : Int) : Ga := ⟨true, p, s.wide || widensB s r b p e⟩
def wid (b : Bool) : Int := if b then 2 else 1

/-- block q holds the gauge -/
def At (w : World) (q : Nat) (s : Ga) : Prop := ∃ T, w.heap[q]? = Option.some (.cells #[.bool s.some, .bool s.pict, .bool s.wide] T (0, 0))
theorem At.lt {w : World} {q : Nat} {s : Ga} (h : At w q s) : q < w.heap.size := by
  obtain ⟨T, h⟩ := h
  exact Blk.lt (xs := _) ⟨T, (0, 0), h⟩
theorem At.below {w w' : World} {q : Nat} {s : Ga} (h : At w q s) (hb : Below w.heap.size w w') : At w' q s := by
  have := h.lt
  obtain ⟨T, h⟩ := h
  exact ⟨T, by rw [hb.block q this, h]⟩
theorem At.some {w : World} {q : Nat} {s : Ga} (h : At w q s) : w.cell? ⟨q, 0, none⟩ = Option.some (.bool s.some) := by obtain ⟨T, h⟩ := h; simp [World.cell?, h]
theorem At.pict {w : World} {q : Nat} {s : Ga} (h : At w q s) : w.cell? ⟨q, 1, none⟩ = Option.some (.bool s.pict) := by obtain ⟨T, h⟩ := h; simp [World.cell?, h]
theorem At.wide {w : World} {q : Nat} {s : Ga} (h : At w q s) : w.cell? ⟨q, 2, none⟩ = Option.some (.bool s.wide) := by obtain ⟨T, h⟩ := h; simp [World.cell?, h]
theorem At.frozen {w : World} {q : Nat} {s : Ga} (h : At w q s) (i : Nat) : w.frozen? ⟨q, i, none⟩ = false := by obtain ⟨T, h⟩ := h; simp [World.frozen?, h]
theorem At.set_some {w : World} {q : Nat} {s : Ga} (h : At w q s) (v : Bool) : At (w.setCell ⟨q, 0, none⟩ (.bool v)) q { s with some := v } := by obtain ⟨T, h⟩ := h; exact ⟨T, by rw [heap_setCell h]; rfl⟩
theorem At.set_pict {w : World} {q : Nat} {s : Ga} (h : At w q s) (v : Bool) : At (w.setCell ⟨q, 1, none⟩ (.bool v)) q { s with pict := v } := by obtain ⟨T, h⟩ := h; exact ⟨T, by rw [heap_setCell h]; rfl⟩
theorem At.set_wide {w : World} {q : Nat} {s : Ga} (h : At w q s) (v : Bool) : At (w.setCell ⟨q, 2, none⟩ (.bool v)) q { s with wide := v } := by obtain ⟨T, h⟩ := h; exact ⟨T, by rw [heap_setCell h]; rfl⟩
theorem at_new (w : World) (T : TypeId) : At (w.alloc (.cells #[.bool false, .bool false, .bool false] T)) w.heap.size zero := ⟨T, by show (w.heap.push _)[w.heap.size]? = _; simp [zero]⟩

set_option maxHeartbeats 2000000 in
theorem widens_any (q : Nat) (s : Ga) (r b : Int) (p : Bool) (c e : Int) (w : World) (h : Hid (At w q s)) :
    Calls Tryz.prog 330 #[.pointer (some ⟨q, 0, none⟩), .int .i32 r, .agg #[.int .i64 b, .bool p, .int .i64 c, .int .i64 e]] w fun e' w' => e' = .returned (.bool (widensB s r b p e)) ∧ Below w.heap.size w w' := by
  have HW : Hid (widensB s r b p e = (Basew.bw b e == 2 || (s.some && ((r == 65039 && s.pict) || p || b == 6)))) := rfl
  have HO := Lib.hid (Basew.of_any b p c e)
  have hlt := h.out.lt
  have A1 : At (w.alloc (.cells #[.int .i64 b, .bool p, .int .i64 c, .int .i64 e] 224)) q s := h.out.below ((Below.refl _ _).alloc (Nat.le_refl _) _)
  have K1 : Blk (w.alloc (.cells #[.int .i64 b, .bool p, .int .i64 c, .int .i64 e] 224)) w.heap.size [.int .i64 b, .bool p, .int .i64 c, .int .i64 e] := Blk.alloc _ _ _ _ _ rfl
  have B1 : Below w.heap.size w (w.alloc (.cells #[.int .i64 b, .bool p, .int .i64 c, .int .i64 e] 224)) := (Below.refl _ _).alloc (Nat.le_refl _) _
  have HA := Lib.hid A1
  have HK := Lib.hid K1
  have HB := Lib.hid B1
  clear A1 K1 B1 h
  generalize Basew.bw b e = x at *
  obtain ⟨so, pi, wi⟩ := s
  go_enter Tryz.func330, Tryz.ntmps330
  go_wp2_with fail
  generalize w.alloc (.cells #[.int .i64 b, .bool p, .int .i64 c, .int .i64 e] 224) = w1 at *
  refine (HO.out _).mono ?_
  rintro e' w2 ⟨rfl, hb2⟩
  have HA2 := Lib.hid (HA.out.below hb2)
  have HB2 := Lib.hid (HB.out.trans (hb2.mono HB.out.size))
  have HK2 := Lib.hid (HK.out.below hb2 HK.out.lt)
  clear HA HB HK hb2 HO
  have p0 := HK2.out.cell 0 _ rfl
  have p1 := HK2.out.cell 1 _ rfl
  have c0 := HA2.out.some
  have c1 := HA2.out.pict
  simp only at c0 c1
  cases so <;> cases pi <;> cases p
  all_goals
    go_wp2
    all_goals (go_ret; refine ⟨ret_bool (by rw [HW.out]; simp [*]), HB2.out⟩)

def StepPost (q : Nat) (j : Int) (s' : Ga) (w : World) (e : Ending) (w' : World) : Prop :=
  e = .returned (.int .i64 j) ∧ At w' q s' ∧ But q w w'

set_option maxHeartbeats 4000000 in
theorem step_any (q : Nat) (s : Ga) (r b : Int) (p : Bool) (c e : Int) (w : World) (h : At w q s) :
    Calls Tryz.prog 287 #[.pointer (some ⟨q, 0, none⟩), .int .i32 r, .agg #[.int .i64 b, .bool p, .int .i64 c, .int .i64 e]] w (StepPost q (wid (next s r b p e).wide) (next s r b p e) w) := by
  have hlt := h.lt
  have H0 := Lib.hid h
  have A1 : At (w.alloc (.cells #[.int .i64 b, .bool p, .int .i64 c, .int .i64 e] 224)) q s := h.below ((Below.refl _ _).alloc (Nat.le_refl _) _)
  have B1 : Below w.heap.size w (w.alloc (.cells #[.int .i64 b, .bool p, .int .i64 c, .int .i64 e] 224)) := (Below.refl _ _).alloc (Nat.le_refl _) _
  have K0 : Blk (w.alloc (.cells #[.int .i64 b, .bool p, .int .i64 c, .int .i64 e] 224)) w.heap.size [.int .i64 b, .bool p, .int .i64 c, .int .i64 e] := Blk.alloc _ _ _ _ _ rfl
  have HA := Lib.hid A1
  have HB := Lib.hid B1
  have HK := Lib.hid K0
  have HWD := Lib.hid (widens_any q s r b p c e)
  have HX : Hid (next s r b p e = ⟨true, p, s.wide || widensB s r b p e⟩) := rfl
  clear A1 B1 K0 h
  generalize widensB s r b p e = wd at *
  generalize next s r b p e = s' at *
  obtain ⟨so, pi, wi⟩ := s
  have c2 := HA.out.wide
  have f2 := HA.out.frozen 2
  simp only at c2
  cases wi
  · go_enter Tryz.func287, Tryz.ntmps287
    have p0 := HK.out.cell 0 _ rfl
    have p1 := HK.out.cell 1 _ rfl
    have p2 := HK.out.cell 2 _ rfl
    have p3 := HK.out.cell 3 _ rfl
    go_wp2_with fail
    generalize w.alloc (.cells #[.int .i64 b, .bool p, .int .i64 c, .int .i64 e] 224) = w1 at *
    refine (HWD.out _ HA).mono ?_
    rintro e' w2 ⟨rfl, hb2⟩
    have HA2 := Lib.hid (HA.out.below hb2)
    have HB2 := Lib.hid (HB.out.trans (hb2.mono HB.out.size))
    have HK2 := Lib.hid (HK.out.below hb2 HK.out.lt)
    have hkl := HK2.out.lt
    clear HA HB HK hb2 HWD c2 f2 p0 p1 p2 p3
    have c2 := HA2.out.wide
    have f2 := HA2.out.frozen 2
    have p1 := HK2.out.cell 1 _ rfl
    go_wp2
    have HA3 := Lib.hid (HA2.out.set_wide wd)
    have HB3 := Lib.hid ((But.of_below HB2.out).setCell (q := q) 2 (.bool wd))
    have HK3 := Lib.hid (HK2.out.setCell (q := q) (by omega) 2 (.bool wd))
    generalize w2.setCell ⟨q, 2, none⟩ (.bool wd) = w3 at *
    clear HA2 HB2 HK2 c2 f2 p1
    have p1 := HK3.out.cell 1 _ rfl
    have f0 := HA3.out.frozen 0
    have f1 := HA3.out.frozen 1
    have c0 := HA3.out.some
    have c1 := HA3.out.pict
    have c2 := HA3.out.wide
    simp only at c0 c1 c2
    go_region
    all_goals
      cases wd
      all_goals
        go_wp2
        go_ret
        refine ⟨by rw [HX.out]; rfl, ?_, ?_⟩
        · rw [HX.out]; exact (HA3.out.set_some true).set_pict p
        · exact ((HB3.out.trans (But.of_below ((Below.refl _ _).drew))).setCell 0 (.bool true)).setCell 1 _
  · have p1 := HK.out.cell 1 _ rfl
    go_enter Tryz.func287, Tryz.ntmps287
    clear HWD p1
    go_wp2
    have HS : (w.setCell ⟨q, 2, none⟩ (.bool true)).heap.size = w.heap.size := by simp [World.setCell]
    have HA3 : Hid (At ((w.setCell ⟨q, 2, none⟩ (.bool true)).alloc (.cells #[.int .i64 b, .bool p, .int .i64 c, .int .i64 e] 224)) q ⟨so, pi, true⟩) := (H0.out.set_wide true).below ((Below.refl _ _).alloc (Nat.le_refl _) _)
    have HB3 : Hid (But q w ((w.setCell ⟨q, 2, none⟩ (.bool true)).alloc (.cells #[.int .i64 b, .bool p, .int .i64 c, .int .i64 e] 224))) := ((But.refl q w).setCell 2 (.bool true)).trans (But.of_below ((Below.refl _ _).alloc (Nat.le_refl _) _))
    have HK3 : Hid (Blk ((w.setCell ⟨q, 2, none⟩ (.bool true)).alloc (.cells #[.int .i64 b, .bool p, .int .i64 c, .int .i64 e] 224)) w.heap.size [.int .i64 b, .bool p, .int .i64 c, .int .i64 e]) := by
      have := Blk.alloc (w.setCell ⟨q, 2, none⟩ (.bool true)) #[.int .i64 b, .bool p, .int .i64 c, .int .i64 e] 224 (0, 0) [.int .i64 b, .bool p, .int .i64 c, .int .i64 e] rfl
      rw [HS] at this
      exact this
    generalize ((w.setCell ⟨q, 2, none⟩ (.bool true)).alloc (.cells #[.int .i64 b, .bool p, .int .i64 c, .int .i64 e] 224)) = w3 at *
    clear HA HB HK c2 f2 HS
    have p1 := HK3.out.cell 1 _ rfl
    have f0 := HA3.out.frozen 0
    have f1 := HA3.out.frozen 1
    have c0 := HA3.out.some
    have c1 := HA3.out.pict
    have c2 := HA3.out.wide
    simp only at c0 c1 c2
    go_region
    all_goals
      go_wp2
      go_ret
      refine ⟨by rw [HX.out]; rfl, ?_, ?_⟩
      · rw [HX.out]; exact (HA3.out.set_some true).set_pict p
      · exact ((HB3.out.trans (But.of_below ((Below.refl _ _).drew))).setCell 0 (.bool true)).setCell 1 _

end Go.Proofs.YtjicdcmdgbcdcaaGreatDoor.Cw

namespace Go.Proofs.YtjicdcmdgbcdcaaGreatDoor.Cw
set_option linter.unusedSimpArgs false
set_option linter.unusedVariables false
open Go Go.RowKit Mem Seg Gra Turn

/-- does place i make the row wide? -/
def wd (l : Nat → Int) (ps : Nat → P4) (i : Nat) : Bool := Basew.bw (ps i).br (ps i).ea == 2 || (decide (0 < i) && ((l i == 65039 && (ps (i - 1)).pi) || (ps i).pi || (ps i).br == 6))
def wideTo (l : Nat → Int) (ps : Nat → P4) : Nat → Bool
  | 0 => false
  | k + 1 => wideTo l ps k || wd l ps k
def gAt (l : Nat → Int) (ps : Nat → P4) : Nat → Ga
  | 0 => zero
  | k + 1 => next (gAt l ps k) (l k) (ps k).br (ps k).pi (ps k).ea

theorem gAt_eq (l : Nat → Int) (ps : Nat → P4) (k : Nat) : gAt l ps k = ⟨decide (0 < k), decide (0 < k) && (ps (k - 1)).pi, wideTo l ps k⟩ := by
  induction k with
  | zero => rfl
  | succ k ih =>
    simp only [gAt, ih, next, widensB, wideTo, wd]
    cases k <;> simp

theorem gAt_wide (l : Nat → Int) (ps : Nat → P4) (k : Nat) : (gAt l ps k).wide = wideTo l ps k := by rw [gAt_eq]

/-- the numbers of a row, place by place -/
def num (xs : List Int) (i : Nat) : Int := xs.getD i 0
/-- how wide a row is -/
noncomputable def width (xs : List Int) : Int := wid (wideTo (num xs) (props xs) xs.length)

set_option maxHeartbeats 4000000 in
theorem of_any (a : Option Addr) (n c : Nat) (xs : List Int) (w : World) (h : Runes w a n c xs) :
    Calls Tryz.prog 232 #[.slice a n c] w fun e w' => e = .returned (.int .i64 (width xs)) ∧ Below w.heap.size w w' := by
  have HI := Lib.hid h.ints
  have HR := Lib.hid h.r32
  have HL := Lib.hid h.ints.1
  have hn : n ≤ 9223372036854775807 := Nat.le_trans h.le h.max
  have HW : Hid (width xs = wid (wideTo (num xs) (props xs) n)) := by unfold width; rw [HL.out]; exact Lib.hid rfl
  clear h
  go_enter Tryz.func232, Tryz.ntmps232
  go_wp2
  have A0 := at_new w 245
  have B0 : Below w.heap.size w (w.alloc (.cells #[.bool false, .bool false, .bool false] 245)) := (Below.refl _ _).alloc (Nat.le_refl _) _
  generalize (w.alloc (.cells #[.bool false, .bool false, .bool false] 245)) = w0 at *
  have HA0 := Lib.hid A0
  have HB0 := Lib.hid B0
  clear A0 B0
  go_loopw [4, 9] (fun v i wr => ∃ k : Nat, k ≤ n ∧ i = .int .i64 k ∧ v = .int .i64 (wid (wideTo (num xs) (props xs) k)) ∧ Hid (At wr w.heap.size (gAt (num xs) (props xs) k) ∧ Below w.heap.size w wr)) (fun _ i _ => n - (intOf i).toNat)
  case atStart => exact ⟨0, Nat.zero_le _, rfl, rfl, HA0.out, HB0.out⟩
  case round =>
    obtain ⟨k, hk, rfl, rfl, H⟩ := hrel
    by_cases hlt : k < n
    · obtain ⟨x, hx⟩ : ∃ x, xs[k]? = some x := ⟨_, List.getElem?_eq_getElem (by rw [HL.out]; exact hlt)⟩
      obtain ⟨hl, h0 | ⟨b, off, rfl, hb, hc⟩⟩ := HI.out
      · omega
      have hcx := (H.out.2.cell (p := ⟨b, off + k, none⟩) hb).trans (hc k x hx)
      obtain ⟨hr1, hr2⟩ := HR.out.at hx
      have hlt' : (k : Int) < n := by omega
      have HP : Hid (props xs k = prop x) := by unfold props; rw [List.getD_eq_getElem?_getD, hx]; exact Lib.hid rfl
      have HN : Hid (num xs k = x) := by unfold num; rw [List.getD_eq_getElem?_getD, hx]; exact Lib.hid rfl
      have hA := Lib.hid H.out.1
      have hB := Lib.hid H.out.2
      clear hx hc hl H
      go_wp2_with fail
      refine (Ucd.of_any x hr1 hr2 _).mono ?_
      rintro e w1 ⟨rfl, hb1⟩
      have hA1 := Lib.hid (hA.out.below hb1)
      have hB1 := Lib.hid (hB.out.trans (hb1.mono hB.out.size))
      clear hA hB hb1 hcx
      unfold Ucd.ofV Ucd.propV
      go_wp2_with fail
      refine (step_any w.heap.size (gAt (num xs) (props xs) k) x (Gcb.val x) (Pict.isB x) (Conj.val x) (East.val x) w1 hA1.out).mono ?_
      have hnx : next (gAt (num xs) (props xs) k) x (Gcb.val x) (Pict.isB x) (East.val x) = gAt (num xs) (props xs) (k + 1) := by
        show _ = next _ _ _ _ _
        rw [HP.out, HN.out]; rfl
      rw [hnx, gAt_wide]
      rintro e w2 ⟨rfl, hA2, hB2⟩
      have R : Hid (At w2 w.heap.size (gAt (num xs) (props xs) (k + 1)) ∧ Below w.heap.size w w2) := ⟨hA2, hB1.out.trans (hB2.below (by omega) hB1.out.size)⟩
      clear hA1 hB1 hA2 hB2 hnx
      go_wp2
      go_roundw
      case rel => exact ⟨k + 1, by omega, by go_num, rfl, R⟩
      case measure => simp [intOf]; omega
    · obtain rfl : k = n := by omega
      go_wp2
      go_ret
      exact ⟨by rw [HW.out]; rfl, H.out.2⟩

end Go.Proofs.YtjicdcmdgbcdcaaGreatDoor.Cw

namespace Go.Proofs.YtjicdcmdgbcdcaaGreatDoor.Cw
set_option linter.unusedSimpArgs false
set_option linter.unusedVariables false
open Go Go.RowKit Mem Seg Gra Turn

theorem f1 : width [10084] = 1 := by kernel_rfl
theorem f2 : width [10084, 65039] = 2 := by kernel_rfl
theorem f3 : width [127465, 127466] = 2 := by kernel_rfl
theorem f4 : width [101, 769] = 1 := by kernel_rfl
theorem f5 : width [] = 1 := by kernel_rfl

end Go.Proofs.YtjicdcmdgbcdcaaGreatDoor.Cw
end
section
namespace Go.Proofs.YtjicdcmdgbcdcaaGreatDoor.GaO
set_option linter.unusedSimpArgs false
set_option linter.unusedVariables false
open Go Go.RowKit Mem Cw
open Seg (But heap_setCell ret_int ret_bool)

/-- the block's other cells -/
structure Fr where
  a0 : Value
  a1 : Value
  a2 : Value
  a3 : Value
  a4 : Value
  a5 : Value
  a6 : Value
  a7 : Value
  a8 : Value
  a9 : Value
  a10 : Value
  a11 : Value
  a12 : Value
  a13 : Value
  a14 : Value
  a15 : Value
  a16 : Value
  a17 : Value
  a18 : Value
  a19 : Value
  a20 : Value
/-- in block q it stands, from cell 21 on -/
def At (K : Fr) (w : World) (q : Nat) (s : Ga) : Prop := ∃ T : Unit, w.heap[q]? = Option.some (.cells #[K.a0, K.a1, K.a2, K.a3, K.a4, K.a5, K.a6, K.a7, K.a8, K.a9, K.a10, K.a11, K.a12, K.a13, K.a14, K.a15, K.a16, K.a17, K.a18, K.a19, K.a20, .bool s.some, .bool s.pict, .bool s.wide] 247 (0, 0))
theorem At.lt {K : Fr} {w : World} {q : Nat} {s : Ga} (h : At K w q s) : q < w.heap.size := by
  obtain ⟨T, h⟩ := h
  exact Blk.lt (xs := _) ⟨_, (0, 0), h⟩
theorem At.below {K : Fr} {w w' : World} {q : Nat} {s : Ga} (h : At K w q s) (hb : Below w.heap.size w w') : At K w' q s := by
  have := h.lt
  obtain ⟨T, h⟩ := h
  exact ⟨T, by rw [hb.block q this, h]⟩
theorem At.frozen {K : Fr} {w : World} {q : Nat} {s : Ga} (h : At K w q s) (i : Nat) : w.frozen? ⟨q, i, none⟩ = false := by obtain ⟨T, h⟩ := h; simp [World.frozen?, h]
theorem At.some {K : Fr} {w : World} {q : Nat} {s : Ga} (h : At K w q s) : w.cell? ⟨q, 21, none⟩ = Option.some (.bool s.some) := by obtain ⟨T, h⟩ := h; simp [World.cell?, h]
theorem At.pict {K : Fr} {w : World} {q : Nat} {s : Ga} (h : At K w q s) : w.cell? ⟨q, 22, none⟩ = Option.some (.bool s.pict) := by obtain ⟨T, h⟩ := h; simp [World.cell?, h]
theorem At.wide {K : Fr} {w : World} {q : Nat} {s : Ga} (h : At K w q s) : w.cell? ⟨q, 23, none⟩ = Option.some (.bool s.wide) := by obtain ⟨T, h⟩ := h; simp [World.cell?, h]
theorem At.set_some {K : Fr} {w : World} {q : Nat} {s : Ga} (h : At K w q s) (v : Bool) : At K (w.setCell ⟨q, 21, none⟩ (.bool v)) q { s with some := v } := by obtain ⟨T, h⟩ := h; exact ⟨T, by rw [heap_setCell h]; rfl⟩
theorem At.set_pict {K : Fr} {w : World} {q : Nat} {s : Ga} (h : At K w q s) (v : Bool) : At K (w.setCell ⟨q, 22, none⟩ (.bool v)) q { s with pict := v } := by obtain ⟨T, h⟩ := h; exact ⟨T, by rw [heap_setCell h]; rfl⟩
theorem At.set_wide {K : Fr} {w : World} {q : Nat} {s : Ga} (h : At K w q s) (v : Bool) : At K (w.setCell ⟨q, 23, none⟩ (.bool v)) q { s with wide := v } := by obtain ⟨T, h⟩ := h; exact ⟨T, by rw [heap_setCell h]; rfl⟩

set_option maxHeartbeats 2000000 in
theorem widens_any (K : Fr) (q : Nat) (s : Ga) (r b : Int) (p : Bool) (c e : Int) (w : World) (h : Hid (At K w q s)) :
    Calls Tryz.prog 330 #[.pointer (some ⟨q, 21, none⟩), .int .i32 r, .agg #[.int .i64 b, .bool p, .int .i64 c, .int .i64 e]] w fun e' w' => e' = .returned (.bool (widensB s r b p e)) ∧ Below w.heap.size w w' := by
  have HW : Hid (widensB s r b p e = (Basew.bw b e == 2 || (s.some && ((r == 65039 && s.pict) || p || b == 6)))) := rfl
  have HO := Lib.hid (Basew.of_any b p c e)
  have hlt := h.out.lt
  have A1 : At K (w.alloc (.cells #[.int .i64 b, .bool p, .int .i64 c, .int .i64 e] 224)) q s := h.out.below ((Below.refl _ _).alloc (Nat.le_refl _) _)
  have K1 : Blk (w.alloc (.cells #[.int .i64 b, .bool p, .int .i64 c, .int .i64 e] 224)) w.heap.size [.int .i64 b, .bool p, .int .i64 c, .int .i64 e] := Blk.alloc _ _ _ _ _ rfl
  have B1 : Below w.heap.size w (w.alloc (.cells #[.int .i64 b, .bool p, .int .i64 c, .int .i64 e] 224)) := (Below.refl _ _).alloc (Nat.le_refl _) _
  have HA := Lib.hid A1
  have HK := Lib.hid K1
  have HB := Lib.hid B1
  clear A1 K1 B1 h
  generalize Basew.bw b e = x at *
  obtain ⟨so, pi, wi⟩ := s
  go_enter Tryz.func330, Tryz.ntmps330
  go_wp2_with fail
  generalize w.alloc (.cells #[.int .i64 b, .bool p, .int .i64 c, .int .i64 e] 224) = w1 at *
  refine (HO.out _).mono ?_
  rintro e' w2 ⟨rfl, hb2⟩
  have HA2 := Lib.hid (HA.out.below hb2)
  have HB2 := Lib.hid (HB.out.trans (hb2.mono HB.out.size))
  have HK2 := Lib.hid (HK.out.below hb2 HK.out.lt)
  clear HA HB HK hb2 HO
  have p0 := HK2.out.cell 0 _ rfl
  have p1 := HK2.out.cell 1 _ rfl
  have c0 := HA2.out.some
  have c1 := HA2.out.pict
  simp only at c0 c1
  cases so <;> cases pi <;> cases p
  all_goals
    go_wp2
    all_goals (go_ret; refine ⟨ret_bool (by rw [HW.out]; simp [*]), HB2.out⟩)

def StepPost (K : Fr) (q : Nat) (j : Int) (s' : Ga) (w : World) (e : Ending) (w' : World) : Prop :=
  e = .returned (.int .i64 j) ∧ At K w' q s' ∧ But q w w'

set_option maxHeartbeats 4000000 in
theorem step_any (K : Fr) (q : Nat) (s : Ga) (r b : Int) (p : Bool) (c e : Int) (w : World) (h : At K w q s) :
    Calls Tryz.prog 287 #[.pointer (some ⟨q, 21, none⟩), .int .i32 r, .agg #[.int .i64 b, .bool p, .int .i64 c, .int .i64 e]] w (StepPost K q (wid (next s r b p e).wide) (next s r b p e) w) := by
  have hlt := h.lt
  have H0 := Lib.hid h
  have A1 : At K (w.alloc (.cells #[.int .i64 b, .bool p, .int .i64 c, .int .i64 e] 224)) q s := h.below ((Below.refl _ _).alloc (Nat.le_refl _) _)
  have B1 : Below w.heap.size w (w.alloc (.cells #[.int .i64 b, .bool p, .int .i64 c, .int .i64 e] 224)) := (Below.refl _ _).alloc (Nat.le_refl _) _
  have K0 : Blk (w.alloc (.cells #[.int .i64 b, .bool p, .int .i64 c, .int .i64 e] 224)) w.heap.size [.int .i64 b, .bool p, .int .i64 c, .int .i64 e] := Blk.alloc _ _ _ _ _ rfl
  have HA := Lib.hid A1
  have HB := Lib.hid B1
  have HK := Lib.hid K0
  have HWD := Lib.hid (widens_any K q s r b p c e)
  have HX : Hid (next s r b p e = ⟨true, p, s.wide || widensB s r b p e⟩) := rfl
  clear A1 B1 K0 h
  generalize widensB s r b p e = wd at *
  generalize next s r b p e = s' at *
  obtain ⟨so, pi, wi⟩ := s
  have c2 := HA.out.wide
  have f2 := HA.out.frozen 23
  simp only at c2
  cases wi
  · go_enter Tryz.func287, Tryz.ntmps287
    have p0 := HK.out.cell 0 _ rfl
    have p1 := HK.out.cell 1 _ rfl
    have p2 := HK.out.cell 2 _ rfl
    have p3 := HK.out.cell 3 _ rfl
    go_wp2_with fail
    generalize w.alloc (.cells #[.int .i64 b, .bool p, .int .i64 c, .int .i64 e] 224) = w1 at *
    refine (HWD.out _ HA).mono ?_
    rintro e' w2 ⟨rfl, hb2⟩
    have HA2 := Lib.hid (HA.out.below hb2)
    have HB2 := Lib.hid (HB.out.trans (hb2.mono HB.out.size))
    have HK2 := Lib.hid (HK.out.below hb2 HK.out.lt)
    have hkl := HK2.out.lt
    clear HA HB HK hb2 HWD c2 f2 p0 p1 p2 p3
    have c2 := HA2.out.wide
    have f2 := HA2.out.frozen 23
    have p1 := HK2.out.cell 1 _ rfl
    go_wp2
    have HA3 := Lib.hid (HA2.out.set_wide wd)
    have HB3 := Lib.hid ((But.of_below HB2.out).setCell (q := q) 23 (.bool wd))
    have HK3 := Lib.hid (HK2.out.setCell (q := q) (by omega) 23 (.bool wd))
    generalize w2.setCell ⟨q, 23, none⟩ (.bool wd) = w3 at *
    clear HA2 HB2 HK2 c2 f2 p1
    have p1 := HK3.out.cell 1 _ rfl
    have f0 := HA3.out.frozen 21
    have f1 := HA3.out.frozen 22
    have c0 := HA3.out.some
    have c1 := HA3.out.pict
    have c2 := HA3.out.wide
    simp only at c0 c1 c2
    go_region
    all_goals
      cases wd
      all_goals
        go_wp2
        go_ret
        refine ⟨by rw [HX.out]; rfl, ?_, ?_⟩
        · rw [HX.out]; exact (HA3.out.set_some true).set_pict p
        · exact ((HB3.out.trans (But.of_below ((Below.refl _ _).drew))).setCell 21 (.bool true)).setCell 22 _
  · have p1 := HK.out.cell 1 _ rfl
    go_enter Tryz.func287, Tryz.ntmps287
    clear HWD p1
    go_wp2
    have HS : (w.setCell ⟨q, 23, none⟩ (.bool true)).heap.size = w.heap.size := by simp [World.setCell]
    have HA3 : Hid (At K ((w.setCell ⟨q, 23, none⟩ (.bool true)).alloc (.cells #[.int .i64 b, .bool p, .int .i64 c, .int .i64 e] 224)) q ⟨so, pi, true⟩) := (H0.out.set_wide true).below ((Below.refl _ _).alloc (Nat.le_refl _) _)
    have HB3 : Hid (But q w ((w.setCell ⟨q, 23, none⟩ (.bool true)).alloc (.cells #[.int .i64 b, .bool p, .int .i64 c, .int .i64 e] 224))) := ((But.refl q w).setCell 23 (.bool true)).trans (But.of_below ((Below.refl _ _).alloc (Nat.le_refl _) _))
    have HK3 : Hid (Blk ((w.setCell ⟨q, 23, none⟩ (.bool true)).alloc (.cells #[.int .i64 b, .bool p, .int .i64 c, .int .i64 e] 224)) w.heap.size [.int .i64 b, .bool p, .int .i64 c, .int .i64 e]) := by
      have := Blk.alloc (w.setCell ⟨q, 23, none⟩ (.bool true)) #[.int .i64 b, .bool p, .int .i64 c, .int .i64 e] 224 (0, 0) [.int .i64 b, .bool p, .int .i64 c, .int .i64 e] rfl
      rw [HS] at this
      exact this
    generalize ((w.setCell ⟨q, 23, none⟩ (.bool true)).alloc (.cells #[.int .i64 b, .bool p, .int .i64 c, .int .i64 e] 224)) = w3 at *
    clear HA HB HK c2 f2 HS
    have p1 := HK3.out.cell 1 _ rfl
    have f0 := HA3.out.frozen 21
    have f1 := HA3.out.frozen 22
    have c0 := HA3.out.some
    have c1 := HA3.out.pict
    have c2 := HA3.out.wide
    simp only at c0 c1 c2
    go_region
    all_goals
      go_wp2
      go_ret
      refine ⟨by rw [HX.out]; rfl, ?_, ?_⟩
      · rw [HX.out]; exact (HA3.out.set_some true).set_pict p
      · exact ((HB3.out.trans (But.of_below ((Below.refl _ _).drew))).setCell 21 (.bool true)).setCell 22 _

end Go.Proofs.YtjicdcmdgbcdcaaGreatDoor.GaO
end

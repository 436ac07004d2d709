/-
  Walks of package seg: Step.
  Package seg: words for states and properties.
  What is known of the numbers of a row; runes that came in; properties in memory.
  The statements of layer 15: works.
-/
import Derived.Test.YtjicdcmdgbcdcaaGreatDoorCd2
import Derived.Test.YtjicdcmdgbcdcaaGreatDoorCd8
import Derived.Deep.RegionWith
import Derived.RegionTactic
section
namespace Go.Proofs.YtjicdcmdgbcdcaaGreatDoor.Seg
set_option linter.unusedSimpArgs false
set_option linter.unusedVariables false
open Go.RowKit Mem

def StepPost (q : Nat) (j : Bool) (s' : St) (w : World) (e : Ending) (w' : World) : Prop :=
  e = .returned (.bool j) ∧ At w' q s' ∧ But q w w'

set_option maxHeartbeats 4000000 in
theorem step_core (q : Nat) (s : St) (b : Int) (p : Bool) (c e : Int) (w : World) (h : At w q s) (jo : Bool) (s' : St) (HJO : Hid (joinB s b p c = jo)) (HX : Hid (next s b p c = s')) :
    Calls Tryz.prog 157 #[.pointer (some ⟨q, 0, none⟩), propV b p c e] w (StepPost q jo s' w) := by
  have hlt := h.lt
  have A1 : At (w.alloc (.cells #[.int .i64 b, .bool p, .int .i64 c, .int .i64 e] 224)) q s := h.below ((Below.refl _ _).alloc (Nat.le_refl _) _)
  have B1 : Below w.heap.size w (w.alloc (.cells #[.int .i64 b, .bool p, .int .i64 c, .int .i64 e] 224)) := (Below.refl _ _).alloc (Nat.le_refl _) _
  have K0 : Blk (w.alloc (.cells #[.int .i64 b, .bool p, .int .i64 c, .int .i64 e] 224)) w.heap.size [.int .i64 b, .bool p, .int .i64 c, .int .i64 e] := Blk.alloc _ _ _ _ _ rfl
  have S1 : (w.alloc (.cells #[.int .i64 b, .bool p, .int .i64 c, .int .i64 e] 224)).heap.size = w.heap.size + 1 := by simp
  have HA := Lib.hid A1
  have HB := Lib.hid B1
  have HK := Lib.hid K0
  have HS := Lib.hid S1
  have HJ : Hid (∀ w, Hid (At w q s) → Calls Tryz.prog 224 #[.pointer (some ⟨q, 0, none⟩), propV b p c e] w fun e' w' => e' = .returned (.bool jo) ∧ Below w.heap.size w w') := by
    rw [← HJO.out]; exact joins_any q s b p c e
  have HP := Lib.hid (picture_any q s b p c e)
  have HC := Lib.hid (conjunct_any q s b p c e)
  have HX : Hid (s' = ⟨true, b, pictS s b p, conjS s c, oddS s b⟩) := HX.out.symm
  clear A1 B1 K0 S1 h
  unfold propV at *
  go_enter Tryz.func157, Tryz.ntmps157
  go_wp2_with fail
  generalize w.alloc (.cells #[.int .i64 b, .bool p, .int .i64 c, .int .i64 e] 224) = w1 at *
  refine (HJ.out _ HA.out).mono ?_
  rintro e' w2 ⟨rfl, hb2⟩
  have HA2 := Lib.hid (HA.out.below hb2)
  have HB2 := Lib.hid (HB.out.trans (hb2.mono (HB.out.size)))
  have HK2 := Lib.hid (HK.out.below hb2 HK.out.lt)
  clear HA HB HK hb2 HJ HS
  have p0 := HK2.out.cell 0 _ rfl
  have p1 := HK2.out.cell 1 _ rfl
  have p2 := HK2.out.cell 2 _ rfl
  have p3 := HK2.out.cell 3 _ rfl
  go_wp2_with fail
  have HD := Lib.hid ((Below.refl w2.heap.size w2).drew)
  have hwl := HK2.out.lt
  go_region_with (first
    | (go_at_call 225; refine (HP.out _ ?_).mono ?_; exact HA2.out; rintro e' w3 ⟨rfl, hb3⟩; have hb3 := HD.out.trans hb3; have HA3 := Lib.hid (HA2.out.below hb3); have HK3 := Lib.hid (HK2.out.below hb3 hwl); have HB3 := Lib.hid (HB2.out.trans (hb3.mono HB2.out.size)); have hwl3 := HK3.out.lt; clear p0 p1 p2 p3 hb3; have p0 := HK3.out.cell 0 _ rfl; have p1 := HK3.out.cell 1 _ rfl; have p2 := HK3.out.cell 2 _ rfl; have p3 := HK3.out.cell 3 _ rfl)
    | (go_at_call 226; refine (HC.out _ ?_).mono ?_; exact HA3.out; rintro e' w4 ⟨rfl, hb4⟩; have HA4 := Lib.hid (HA3.out.below hb4); have HK4 := Lib.hid (HK3.out.below hb4 hwl3); have HB4 := Lib.hid (HB3.out.trans (hb4.mono HB3.out.size)); clear p0 p1 p2 p3 hb4; have p0 := HK4.out.cell 0 _ rfl; have p1 := HK4.out.cell 1 _ rfl; have p2 := HK4.out.cell 2 _ rfl; have p3 := HK4.out.cell 3 _ rfl; have k2 := HA4.out.pict; have k3 := HA4.out.conj; have z2 := HA4.out.frozen 2; have z3 := HA4.out.frozen 3))
  all_goals
    have HA5 := Lib.hid ((HA4.out.set_pict (pictS s b p)).set_conj (conjS s c))
    have HB5 := Lib.hid (((But.of_below HB4.out).setCell (q := q) 2 (.int .i64 (pictS s b p))).setCell 3 (.int .i64 (conjS s c)))
    have HK5 := Lib.hid ((HK4.out.setCell (q := q) (by omega) 2 (.int .i64 (pictS s b p))).setCell (q := q) (by omega) 3 (.int .i64 (conjS s c)))
    generalize (w4.setCell ⟨q, 2, none⟩ (.int .i64 (pictS s b p))).setCell ⟨q, 3, none⟩ (.int .i64 (conjS s c)) = w5 at *
    clear HA4 HB4 HK4 HA3 HK3 HB3 HA2 HK2 HB2 p0 p1 p2 p3 k2 k3 z2 z3 HP HC HD hwl hwl3
    have p0 := HK5.out.cell 0 _ rfl
    have s0 := HA5.out.some
    have s1 := HA5.out.last
    have s4 := HA5.out.odd
    have z4 := HA5.out.frozen 4
    simp only at s0 s1 s4
    have HO : Hid (oddS s b = (b == 6 && !(s.some && s.last == 6 && s.odd))) := rfl
    go_wp2
    · have e6 : oddS s b = (!s.odd) := by rw [HO.out]; simp [*]
      have HE := Lib.hid e6
      clear e6
      have HA6 := Lib.hid (HA5.out.set_odd (!s.odd))
      have HB6 := Lib.hid (HB5.out.setCell 4 (.bool (!s.odd)))
      have HK6 := Lib.hid (HK5.out.setCell (q := q) (by omega) 4 (.bool (!s.odd)))
      clear HA5 HB5 HK5 p0 s0 s1 s4 z4 HO
      generalize w5.setCell ⟨q, 4, none⟩ (.bool (!s.odd)) = w6 at *
      have p0 := HK6.out.cell 0 _ rfl
      have y0 := HA6.out.some
      have y1 := HA6.out.last
      have z0 := HA6.out.frozen 0
      have z1 := HA6.out.frozen 1
      simp only at y0 y1
      go_region
      all_goals
        go_wp2
        go_ret
        refine ⟨rfl, ?_, ?_⟩
        · rw [HX.out, HE.out]; first | exact (HA6.out.set_some true).set_last b | (have hb6 : b = 6 := (by assumption); have T2 := (HA6.out.set_some true).set_last b; rw [hb6] at T2 ⊢; exact T2)
        · exact ((HB6.out.trans (But.of_below ((Below.refl _ _).drew))).setCell 0 (.bool true)).setCell 1 _
    · have e6 : oddS s b = (true) := by rw [HO.out]; simp [*]
      have HE := Lib.hid e6
      clear e6
      have HA6 := Lib.hid (HA5.out.set_odd (true))
      have HB6 := Lib.hid (HB5.out.setCell 4 (.bool (true)))
      have HK6 := Lib.hid (HK5.out.setCell (q := q) (by omega) 4 (.bool (true)))
      clear HA5 HB5 HK5 p0 s0 s1 s4 z4 HO
      generalize w5.setCell ⟨q, 4, none⟩ (.bool (true)) = w6 at *
      have p0 := HK6.out.cell 0 _ rfl
      have y0 := HA6.out.some
      have y1 := HA6.out.last
      have z0 := HA6.out.frozen 0
      have z1 := HA6.out.frozen 1
      simp only at y0 y1
      go_region
      all_goals
        go_wp2
        go_ret
        refine ⟨rfl, ?_, ?_⟩
        · rw [HX.out, HE.out]; first | exact (HA6.out.set_some true).set_last b | (have hb6 : b = 6 := (by assumption); have T2 := (HA6.out.set_some true).set_last b; rw [hb6] at T2 ⊢; exact T2)
        · exact ((HB6.out.trans (But.of_below ((Below.refl _ _).drew))).setCell 0 (.bool true)).setCell 1 _
    · have e6 : oddS s b = (true) := by rw [HO.out]; simp [*]
      have HE := Lib.hid e6
      clear e6
      have HA6 := Lib.hid (HA5.out.set_odd (true))
      have HB6 := Lib.hid (HB5.out.setCell 4 (.bool (true)))
      have HK6 := Lib.hid (HK5.out.setCell (q := q) (by omega) 4 (.bool (true)))
      clear HA5 HB5 HK5 p0 s0 s1 s4 z4 HO
      generalize w5.setCell ⟨q, 4, none⟩ (.bool (true)) = w6 at *
      have p0 := HK6.out.cell 0 _ rfl
      have y0 := HA6.out.some
      have y1 := HA6.out.last
      have z0 := HA6.out.frozen 0
      have z1 := HA6.out.frozen 1
      simp only at y0 y1
      go_region
      all_goals
        go_wp2
        go_ret
        refine ⟨rfl, ?_, ?_⟩
        · rw [HX.out, HE.out]; first | exact (HA6.out.set_some true).set_last b | (have hb6 : b = 6 := (by assumption); have T2 := (HA6.out.set_some true).set_last b; rw [hb6] at T2 ⊢; exact T2)
        · exact ((HB6.out.trans (But.of_below ((Below.refl _ _).drew))).setCell 0 (.bool true)).setCell 1 _
    · have e6 : oddS s b = (false) := by rw [HO.out]; simp [*]
      have HE := Lib.hid e6
      clear e6
      have HA6 := Lib.hid (HA5.out.set_odd (false))
      have HB6 := Lib.hid (HB5.out.setCell 4 (.bool (false)))
      have HK6 := Lib.hid (HK5.out.setCell (q := q) (by omega) 4 (.bool (false)))
      clear HA5 HB5 HK5 p0 s0 s1 s4 z4 HO
      generalize w5.setCell ⟨q, 4, none⟩ (.bool (false)) = w6 at *
      have p0 := HK6.out.cell 0 _ rfl
      have y0 := HA6.out.some
      have y1 := HA6.out.last
      have z0 := HA6.out.frozen 0
      have z1 := HA6.out.frozen 1
      simp only at y0 y1
      go_region
      all_goals
        go_wp2
        go_ret
        refine ⟨rfl, ?_, ?_⟩
        · rw [HX.out, HE.out]; first | exact (HA6.out.set_some true).set_last b | (have hb6 : b = 6 := (by assumption); have T2 := (HA6.out.set_some true).set_last b; rw [hb6] at T2 ⊢; exact T2)
        · exact ((HB6.out.trans (But.of_below ((Below.refl _ _).drew))).setCell 0 (.bool true)).setCell 1 _

theorem step_any (q : Nat) (s : St) (b : Int) (p : Bool) (c e : Int) (w : World) (h : At w q s) :
    Calls Tryz.prog 157 #[.pointer (some ⟨q, 0, none⟩), propV b p c e] w (StepPost q (joinB s b p c) (next s b p c) w) :=
  step_core q s b p c e w h _ _ (Lib.hid rfl) (Lib.hid rfl)

end Go.Proofs.YtjicdcmdgbcdcaaGreatDoor.Seg
end
section
namespace Go.Proofs.YtjicdcmdgbcdcaaGreatDoor.Seg
set_option linter.unusedSimpArgs false
set_option linter.unusedVariables false
open Go.RowKit Mem

theorem But.blk {q : Nat} {w w' : World} (h : But q w w') {g : Nat} {xs : List Value} (hk : Blk w g xs) (hn : g ≠ q) : Blk w' g xs := by
  have hl := hk.lt
  obtain ⟨T, fr, hk⟩ := hk
  exact ⟨T, fr, by rw [h.block g hl hn]; exact hk⟩

theorem But.at {q : Nat} {w w' : World} (h : But q w w') {g : Nat} {s : St} (hk : At w g s) (hn : g ≠ q) : At w' g s := by
  have hl := hk.lt
  obtain ⟨T, hk⟩ := hk
  exact ⟨T, by rw [h.block g hl hn]; exact hk⟩

theorem at_new (w : World) (T : TypeId) : At (w.alloc (.cells #[.bool false, .int .i64 0, .int .i64 0, .int .i64 0, .bool false] T)) w.heap.size zero := ⟨T, by show (w.heap.push _)[w.heap.size]? = _; simp [zero]⟩
theorem At.up {w : World} {q : Nat} {s : St} (h : At w q s) (o : Obj) : At (w.alloc o) q s := h.below ((Below.refl _ _).alloc (Nat.le_refl _) _)
theorem _root_.Go.Proofs.YtjicdcmdgbcdcaaGreatDoor.Mem.Blk.up {w : World} {k : Nat} {xs : List Value} (h : Blk w k xs) (o : Obj) : Blk (w.alloc o) k xs := h.below ((Below.refl w.heap.size w).alloc (Nat.le_refl _) _) h.lt

/-- one property -/
structure P4 where
  br : Int
  pi : Bool
  co : Int
  ea : Int

/-- a slice of properties that came in: its cells -/
def IsProps (w : World) (a : Option Addr) (len cap : Nat) (ps : Nat → P4) : Prop :=
  len = 0 ∨
  ∃ b off, a = some ⟨b, off, none⟩ ∧ len ≤ cap ∧ cap ≤ maxLen ∧ b < w.heap.size ∧ ∀ i, i < len → w.cell? ⟨b, off + i * 4, none⟩ = some (.int .i64 (ps i).br) ∧ w.cell? ⟨b, off + i * 4 + 1, none⟩ = some (.bool (ps i).pi) ∧
    w.cell? ⟨b, off + i * 4 + 2, none⟩ = some (.int .i64 (ps i).co) ∧ w.cell? ⟨b, off + i * 4 + 3, none⟩ = some (.int .i64 (ps i).ea)

/-- the cells of a slice of properties, in some world -/
def Cells (w : World) (b off len : Nat) (ps : Nat → P4) : Prop :=
  ∀ i, i < len → w.cell? ⟨b, off + i * 4, none⟩ = some (.int .i64 (ps i).br) ∧ w.cell? ⟨b, off + i * 4 + 1, none⟩ = some (.bool (ps i).pi) ∧
    w.cell? ⟨b, off + i * 4 + 2, none⟩ = some (.int .i64 (ps i).co) ∧ w.cell? ⟨b, off + i * 4 + 3, none⟩ = some (.int .i64 (ps i).ea)

theorem Cells.below {w w' : World} {b off len : Nat} {ps : Nat → P4} (h : Cells w b off len ps) (hb : Below w.heap.size w w') (hl : b < w.heap.size) : Cells w' b off len ps := by
  intro i hi
  obtain ⟨h1, h2, h3, h4⟩ := h i hi
  exact ⟨(hb.cell (p := ⟨b, _, none⟩) hl).trans h1, (hb.cell (p := ⟨b, _, none⟩) hl).trans h2, (hb.cell (p := ⟨b, _, none⟩) hl).trans h3, (hb.cell (p := ⟨b, _, none⟩) hl).trans h4⟩

end Go.Proofs.YtjicdcmdgbcdcaaGreatDoor.Seg
end
section
namespace Go.Proofs.YtjicdcmdgbcdcaaGreatDoor.Gra
set_option linter.unusedSimpArgs false
set_option linter.unusedVariables false
open Go Go.RowKit Mem Turn Same

/-- what is known of a number -/
noncomputable def prop (r : Int) : Seg.P4 := ⟨Gcb.val r, Pict.isB r, Conj.val r, East.val r⟩
/-- of the numbers of a row, place by place -/
noncomputable def props (xs : List Int) (i : Nat) : Seg.P4 := prop (xs.getD i 0)
/-- all are numbers of 32 bits -/
def R32 (xs : List Int) : Prop := ∀ x ∈ xs, -2147483648 ≤ x ∧ x ≤ 2147483647
theorem R32.at {xs : List Int} (h : R32 xs) {i : Nat} {x : Int} (hx : xs[i]? = some x) : -2147483648 ≤ x ∧ x ≤ 2147483647 := h x (List.mem_of_getElem? hx)

/-- a slice of runes that came in -/
structure Runes (w : World) (a : Option Addr) (n c : Nat) (xs : List Int) : Prop where
  ints : Ints .i32 w a n xs
  r32 : R32 xs
  le : n ≤ c
  max : c ≤ 9223372036854775807

theorem Runes.below {w w' : World} {a : Option Addr} {n c : Nat} {xs : List Int} (h : Runes w a n c xs) (hb : Below w.heap.size w w') : Runes w' a n c xs := ⟨h.ints.below hb, h.r32, h.le, h.max⟩

theorem add_none (b off n : Nat) : (Addr.mk b off none).add n = ⟨b, off + n, none⟩ := by
  unfold Addr.add
  split <;> simp_all

noncomputable def pc (xs : List Int) (i : Nat) : List Value := [.int .i64 (props xs i).br, .bool (props xs i).pi, .int .i64 (props xs i).co, .int .i64 (props xs i).ea]
/-- the cells of the first k properties -/
noncomputable def pcells (xs : List Int) : Nat → List Value
  | 0 => []
  | k + 1 => pcells xs k ++ pc xs k

theorem cell_new4 (w : World) (v0 v1 v2 v3 : Value) (t : TypeId) : ∀ j u, [v0, v1, v2, v3][j]? = some u → (w.alloc (.cells #[v0, v1, v2, v3] t)).cell? ((⟨w.heap.size, 0, none⟩ : Addr).add j) = some u := by
  intro j u hj
  match j, hj with
  | 0, hj => simp at hj; subst hj; simp [Addr.add]
  | 1, hj => simp at hj; subst hj; simp [Addr.add]
  | 2, hj => simp at hj; subst hj; simp [Addr.add]
  | 3, hj => simp at hj; subst hj; simp [Addr.add]

end Go.Proofs.YtjicdcmdgbcdcaaGreatDoor.Gra
end
section
namespace Go.Proofs.YtjicdcmdgbcdcaaGreatDoor.Seg
set_option linter.unusedSimpArgs false
set_option linter.unusedVariables false
open Go.RowKit Mem

end Go.Proofs.YtjicdcmdgbcdcaaGreatDoor.Seg
end

/-
  A slice of slices in memory, to any depth; columns of a table.
  The law's great of layer 60.
  table.Widths.
-/
import Derived.Test.YtcbfmokafmagpaaGreatJustF
namespace Go.Proofs.YtcbfmokafmagpaaGreat.Tbl
set_option linter.unusedSimpArgs false
set_option linter.unusedVariables false
open Go Go.RowKit Go.Shelf Mem Turn Gra Same GraLaw Mea Rep Just

/-- what a slice reads as -/
abbrev Reads (α : Type) := World → Option Addr → Nat → Nat → α → Prop

/-- a slice of slices that read as these -/
def ListOf {α : Type} (Q : Reads α) : Reads (List α) := fun w a n c zs =>
  zs.length = n ∧ n ≤ c ∧ c ≤ 9223372036854775807 ∧ (n = 0 ∨ ∃ b off, a = some ⟨b, off, none⟩ ∧ b < w.heap.size ∧ ∀ i z, zs[i]? = some z → ∃ a' n' c', w.cell? ⟨b, off + i, none⟩ = some (.slice a' n' c') ∧ Q w a' n' c' z)

theorem ListOf.below {α : Type} {Q : Reads α} (hQ : ∀ {w w' a n c z}, Q w a n c z → Below w.heap.size w w' → Q w' a n c z) {w w' : World} {a : Option Addr} {n c : Nat} {zs : List α} (h : ListOf Q w a n c zs) (hb : Below w.heap.size w w') : ListOf Q w' a n c zs := by
  obtain ⟨h1, h2, h3, h4⟩ := h
  refine ⟨h1, h2, h3, h4.imp_right ?_⟩
  rintro ⟨b, off, rfl, hl, hc⟩
  refine ⟨b, off, rfl, Nat.lt_of_lt_of_le hl hb.size, fun i z hz => ?_⟩
  obtain ⟨a', n', c', e1, e2⟩ := hc i z hz
  exact ⟨a', n', c', (hb.cell (p := ⟨b, off + i, none⟩) hl).trans e1, hQ e2 hb⟩

/-- a text that came in -/
def Txt : Reads (List Int) := fun w a n c xs => Runes w a n c xs ∧ n ≤ 140737488355328
theorem Txt.below {w w' : World} {a : Option Addr} {n c : Nat} {zs : List Int} (h : Txt w a n c zs) (hb : Below w.heap.size w w') : Txt w' a n c zs := ⟨h.1.below hb, h.2⟩
def Texts : Reads (List (List Int)) := ListOf Txt
def Rows3 : Reads (List (List (List Int))) := ListOf Texts
theorem Texts.below {w w' : World} {a : Option Addr} {n c : Nat} {zs : List (List Int)} (h : Texts w a n c zs) (hb : Below w.heap.size w w') : Texts w' a n c zs := ListOf.below (Q := Txt) (fun h hb => Txt.below h hb) h hb
theorem Rows3.below {w w' : World} {a : Option Addr} {n c : Nat} {zs : List (List (List Int))} (h : Rows3 w a n c zs) (hb : Below w.heap.size w w') : Rows3 w' a n c zs := ListOf.below (Q := Texts) (fun h hb => Texts.below h hb) h hb

/-- columns: how wide they may be, and their sides -/
def IsCols (w : World) (a : Option Addr) (n c : Nat) (ps : Nat → Int × Int) : Prop :=
  n ≤ c ∧ c ≤ 9223372036854775807 ∧ (n = 0 ∨ ∃ b off, a = some ⟨b, off, none⟩ ∧ b < w.heap.size ∧ ∀ i, i < n → w.cell? ⟨b, off + i * 2, none⟩ = some (.int .i64 (ps i).1) ∧ w.cell? ⟨b, off + i * 2 + 1, none⟩ = some (.int .i64 (ps i).2))
theorem IsCols.below {w w' : World} {a : Option Addr} {n c : Nat} {ps : Nat → Int × Int} (h : IsCols w a n c ps) (hb : Below w.heap.size w w') : IsCols w' a n c ps := by
  obtain ⟨h1, h2, h3⟩ := h
  refine ⟨h1, h2, h3.imp_right ?_⟩
  rintro ⟨b, off, rfl, hl, hc⟩
  exact ⟨b, off, rfl, Nat.lt_of_lt_of_le hl hb.size, fun i hi => ⟨(hb.cell (p := ⟨b, off + i * 2, none⟩) hl).trans (hc i hi).1, (hb.cell (p := ⟨b, off + i * 2 + 1, none⟩) hl).trans (hc i hi).2⟩⟩

theorem runes_nil (w : World) : Runes w none 0 0 [] := ⟨⟨rfl, .inl rfl⟩, fun _ h => by simp at h, Nat.le_refl _, by omega⟩
theorem txt_nil (w : World) : Txt w none 0 0 [] := ⟨runes_nil w, by omega⟩

theorem getD_some {α : Type} {l : List α} {k : Nat} {x d : α} (h : l[k]? = some x) : l.getD k d = x := by rw [List.getD_eq_getElem?_getD, h]; rfl
theorem getD_none {α : Type} {l : List α} {k : Nat} {d : α} (h : l.length ≤ k) : l.getD k d = d := by rw [List.getD_eq_getElem?_getD, List.getElem?_eq_none h]; rfl

set_option maxHeartbeats 1000000 in
theorem at_any (a : Option Addr) (n c : Nat) (xss : List (List Int)) (w : World) (h : Texts w a n c xss) (k : Nat) (hk : k ≤ 1000) :
    Calls Tryz.prog 34 #[.slice a n c, .int .i64 k] w fun e w' => (∃ a' n' c', e = .returned (.slice a' n' c') ∧ Txt w a' n' c' (xss.getD k [])) ∧ w = w' := by
  obtain ⟨hl, hnc, hcm, h⟩ := h
  have HL := Lib.hid hl
  have HH := Lib.hid h
  clear hl h
  by_cases hlt : k < n
  · rcases HH.out with h0 | ⟨b, off, rfl, hb, hc⟩
    · omega
    obtain ⟨xs, hxs⟩ : ∃ xs, xss[k]? = some xs := ⟨_, List.getElem?_eq_getElem (by rw [HL.out]; exact hlt)⟩
    obtain ⟨a', n', c', hcell, ht⟩ := hc k xs hxs
    have HT := Lib.hid ht
    have HX := Lib.hid (getD_some (d := ([] : List Int)) hxs)
    have hlt' : (k : Int) < n := by omega
    clear hc ht hxs HH
    go_enter Tryz.func34, Tryz.ntmps34
    go_wp2
    go_ret
    exact ⟨⟨_, _, _, rfl, by rw [HX.out]; exact HT.out⟩, rfl⟩
  · have hge : (n : Int) ≤ k := by omega
    have HX := Lib.hid (getD_none (d := ([] : List Int)) (l := xss) (k := k) (by rw [HL.out]; omega))
    clear HH HL
    go_enter Tryz.func34, Tryz.ntmps34
    go_wp2
    go_ret
    exact ⟨⟨_, _, _, rfl, by rw [HX.out]; exact txt_nil w⟩, rfl⟩

end Go.Proofs.YtcbfmokafmagpaaGreat.Tbl

namespace Go.Proofs.YtcbfmokafmagpaaGreat.Tbl
set_option linter.unusedSimpArgs false
set_option linter.unusedVariables false
open Go Go.RowKit Go.Shelf Mem Turn Gra Same GraLaw Mea Rep Just

/-- the first k rows are small -/
def SmallTo (R : List (List (List Int))) (k : Nat) : Prop := ∀ (i : Nat) (row : List (List Int)), i < k → R[i]? = some row → row.length ≤ 20 ∧ ∀ (j : Nat) (t : List Int), row[j]? = some t → t.length ≤ 300

set_option maxRecDepth 100000 in
set_option maxHeartbeats 2000000 in
theorem great_any (a : Option Addr) (n c : Nat) (R : List (List (List Int))) (w : World) (h : Rows3 w a n c R) :
    Calls Tryz.prog 15 #[.slice a n c] w fun e w' => (∃ b, e = .returned (.bool b) ∧ (b = false → n ≤ 20 ∧ SmallTo R n)) ∧ w = w' := by
  obtain ⟨hl, hnc, hcm, h⟩ := h
  have HL := Lib.hid hl
  have HH := Lib.hid h
  clear hl h
  go_enter Tryz.func15, Tryz.ntmps15
  go_wp2
  go_loopw [3, 4] (fun s i wr => ∃ (k S : Nat), k ≤ n ∧ k ≤ 30 ∧ S ≤ 300 ∧ s = .int .i64 S ∧ i = .int .i64 k ∧ Hid (SmallTo R k) ∧ w = wr) (fun _ i _ => n - (intOf i).toNat)
  case atStart => exact ⟨0, 0, Nat.zero_le _, by omega, by omega, rfl, rfl, (fun i row hi => by omega), rfl⟩
  case round =>
    obtain ⟨k, S, hk, hk30, hS, rfl, rfl, HS, rfl⟩ := hrel
    by_cases hlt : k < n ∧ k < 30
    · have d1 : decide ((k : Int) < n) = true := by simp; omega
      have d2 : decide ((k : Int) < 30) = true := by simp; omega
      have hlt1 : (k : Int) < n := by omega
      rcases HH.out with h0 | ⟨b, off, rfl, hb, hc⟩
      · omega
      obtain ⟨row, hrow⟩ : ∃ row, R[k]? = some row := ⟨_, List.getElem?_eq_getElem (by rw [HL.out]; exact hlt.1)⟩
      obtain ⟨a1, n1, c1, hcell, hl1, hnc1, hcm1, h1⟩ := hc k row hrow
      have HRow := Lib.hid hrow
      have HL1 := Lib.hid hl1
      have H1 := Lib.hid h1
      clear hc hrow hl1 h1
      go_wp2
      go_loopw [3, 5] (fun s j wr => ∃ (m S : Nat), m ≤ n1 ∧ m ≤ 30 ∧ S ≤ 300 ∧ s = .int .i64 S ∧ j = .int .i64 m ∧ Hid (∀ (j : Nat) (t : List Int), j < m → row[j]? = some t → t.length ≤ 300) ∧ w = wr) (fun _ j _ => n1 - (intOf j).toNat)
      case atStart => exact ⟨0, S, Nat.zero_le _, by omega, hS, rfl, rfl, (fun i row hi => by omega), rfl⟩
      case round =>
        obtain ⟨m, S1, hm, hm30, hS1, rfl, rfl, HM, rfl⟩ := hrel
        by_cases hmt : m < n1 ∧ m < 30
        · have d3 : decide ((m : Int) < n1) = true := by simp; omega
          have d4 : decide ((m : Int) < 30) = true := by simp; omega
          have hmt1 : (m : Int) < n1 := by omega
          rcases H1.out with h0 | ⟨b1, off1, rfl, hb1, hc1⟩
          · omega
          obtain ⟨t, ht⟩ : ∃ t, row[m]? = some t := ⟨_, List.getElem?_eq_getElem (by rw [HL1.out]; exact hmt.1)⟩
          obtain ⟨a2, n2, c2, hcell2, ht2, hn2⟩ := hc1 m t ht
          have HT := Lib.hid ht
          have HTL := Lib.hid ht2.ints.1
          clear hc1 ht ht2
          have x1 : IntKind.i64.wrap ((S1 : Int) + (n2 : Int)) = (S1 : Int) + (n2 : Int) := IntWalk.i64_in _ (by omega)
          by_cases hbig : 300 < S1 + n2
          · have hbig1 : (300 : Int) < (S1 : Int) + (n2 : Int) := by omega
            go_wp2
            go_ret
            exact ⟨⟨true, rfl, fun h => by cases h⟩, rfl⟩
          · have hbig1 : (S1 : Int) + (n2 : Int) ≤ 300 := by omega
            have HN : Hid (∀ (j : Nat) (t : List Int), j < m + 1 → row[j]? = some t → t.length ≤ 300) := Lib.hid fun j t' hj ht' => by
              rcases Nat.lt_or_ge j m with h | h
              · exact HM.out j t' h ht'
              · obtain rfl : j = m := by omega
                rw [HT.out] at ht'
                injection ht' with ht'
                rw [← ht', HTL.out]; omega
            go_wp2
            go_roundw
            case rel => exact ⟨m + 1, S1 + n2, by omega, by omega, by omega, by go_num, by go_num, HN, trivial⟩
            case measure => simp [intOf]; omega
        · by_cases hbig : 20 < n1
          · have hbig1 : (20 : Int) < n1 := by omega
            rcases (by omega : m = n1 ∨ (m < n1 ∧ m = 30)) with rfl | ⟨hmn, rfl⟩
            · have d3 : decide ((m : Int) < m) = false := by simp
              go_wp2
              go_ret
              exact ⟨⟨true, rfl, fun h => by cases h⟩, rfl⟩
            · have d3 : decide (((30 : Nat) : Int) < n1) = true := by simp; omega
              have d4 : decide (((30 : Nat) : Int) < 30) = false := by simp
              go_wp2
              go_ret
              exact ⟨⟨true, rfl, fun h => by cases h⟩, rfl⟩
          · have hbig1 : (n1 : Int) ≤ 20 := by omega
            obtain rfl : m = n1 := by omega
            have d3 : decide ((m : Int) < m) = false := by simp
            have HN : Hid (SmallTo R (k + 1)) := Lib.hid fun i row' hi hr' => by
              rcases Nat.lt_or_ge i k with h | h
              · exact HS.out i row' h hr'
              · obtain rfl : i = k := by omega
                rw [HRow.out] at hr'
                injection hr' with hr'
                subst hr'
                exact ⟨by rw [HL1.out]; omega, fun j t ht => HM.out j t (by have := (List.getElem?_eq_some_iff.1 ht).1; rw [HL1.out] at this; exact this) ht⟩
            go_wp2
            go_roundw
            case rel => exact ⟨k + 1, S1, by omega, by omega, by omega, by go_num, by go_num, HN, trivial⟩
            case measure => simp [intOf]; omega
    · rcases (by omega : k = n ∨ (k < n ∧ k = 30)) with rfl | ⟨hmn, rfl⟩
      · have d1 : decide ((k : Int) < k) = false := by simp
        go_wp2
        go_ret
        exact ⟨⟨_, rfl, fun h => ⟨by simp at h; omega, HS.out⟩⟩, rfl⟩
      · have d1 : decide (((30 : Nat) : Int) < n) = true := by simp; omega
        have d2 : decide (((30 : Nat) : Int) < 30) = false := by simp
        go_wp2
        go_ret
        exact ⟨⟨_, rfl, fun h => by simp at h; omega⟩, rfl⟩

end Go.Proofs.YtcbfmokafmagpaaGreat.Tbl

namespace Go.Proofs.YtcbfmokafmagpaaGreat.Tbl
set_option linter.unusedSimpArgs false
set_option linter.unusedVariables false
open Go Go.RowKit Go.Shelf Mem Turn Gra Same GraLaw Mea Rep Just

/-- how wide the widest of the first r rows is, at column k -/
noncomputable def mx (R : List (List (List Int))) (k : Nat) : Nat → Int
  | 0 => 0
  | r + 1 => max (mx R k r) (wsum (itms ((R.getD r []).getD k [])))
def lim (x most : Int) : Int := min (if 0 < most then min x most else x) 1024
def tab (m : Nat) (f : Nat → Int) : List Int := (List.range m).map f
theorem tab_len (m : Nat) (f : Nat → Int) : (tab m f).length = m := by simp [tab]
theorem tab_get {m k : Nat} (h : k < m) (f : Nat → Int) : (tab m f)[k]? = some (f k) := by simp [tab, List.getElem?_range h]
theorem tab_set {m k : Nat} {f g : Nat → Int} {v : Int} (hv : g k = v) (hne : ∀ j, j ≠ k → g j = f j) : (tab m f).set k v = tab m g := by
  apply List.ext_getElem?
  intro j
  rw [List.getElem?_set]
  by_cases hj : k = j
  · subst hj
    rw [if_pos rfl, tab_len]
    by_cases hk : k < m
    · rw [if_pos hk, tab_get hk, hv]
    · rw [if_neg hk, List.getElem?_eq_none (by rw [tab_len]; omega)]
  · rw [if_neg hj]
    by_cases hk : j < m
    · rw [tab_get hk, tab_get hk, hne j (Ne.symm hj)]
    · rw [List.getElem?_eq_none (by rw [tab_len]; omega), List.getElem?_eq_none (by rw [tab_len]; omega)]
theorem tab_congr {m : Nat} {f g : Nat → Int} (h : ∀ j, j < m → f j = g j) : tab m f = tab m g := by
  unfold tab
  exact List.map_congr_left fun j hj => h j (List.mem_range.1 hj)
/-- the row behind r rows, and i columns of the next -/
noncomputable def ro (R : List (List (List Int))) (m r i : Nat) : List Int := tab m fun k => if k < i then mx R k (r + 1) else mx R k r
noncomputable def fo (R : List (List (List Int))) (n m : Nat) (ps : Nat → Int × Int) (i : Nat) : List Int := tab m fun k => if k < i then lim (mx R k n) (ps k).1 else mx R k n
/-- the widths -/
noncomputable def wl (R : List (List (List Int))) (n m : Nat) (ps : Nat → Int × Int) : List Int := tab m fun k => lim (mx R k n) (ps k).1
theorem ro_zero (R : List (List (List Int))) (m : Nat) : (ro R m 0 0).map (Value.int .i64) = List.replicate m (.int .i64 0) := by
  unfold ro tab
  rw [List.map_map]
  have : ((Value.int .i64) ∘ fun k => if k < 0 then mx R k (0 + 1) else mx R k 0) = fun _ => Value.int .i64 0 := by
    funext k
    simp [mx]
  rw [this, List.map_const', List.length_range]
theorem ro_end (R : List (List (List Int))) (m r : Nat) : ro R m r m = ro R m (r + 1) 0 := tab_congr fun j hj => by simp [hj]
theorem ro_fo (R : List (List (List Int))) (n m : Nat) (ps : Nat → Int × Int) : ro R m n 0 = fo R n m ps 0 := tab_congr fun j hj => by simp
theorem fo_end (R : List (List (List Int))) (n m : Nat) (ps : Nat → Int × Int) : fo R n m ps m = wl R n m ps := tab_congr fun j hj => by simp [hj]
theorem ro_get {R : List (List (List Int))} {m r k : Nat} (h : k < m) : (ro R m r k)[k]? = some (mx R k r) := by unfold ro; rw [tab_get h]; simp
theorem ro_set {R : List (List (List Int))} {m r k : Nat} : (ro R m r k).set k (mx R k (r + 1)) = ro R m r (k + 1) := tab_set (by simp) fun j hj => by
  by_cases h : j < k
  · rw [if_pos h, if_pos (by omega)]
  · rw [if_neg h, if_neg (by omega)]
theorem fo_get {R : List (List (List Int))} {n m k : Nat} {ps : Nat → Int × Int} (h : k < m) : (fo R n m ps k)[k]? = some (mx R k n) := by unfold fo; rw [tab_get h]; simp
theorem fo_set {R : List (List (List Int))} {n m k : Nat} {ps : Nat → Int × Int} : (fo R n m ps k).set k (lim (mx R k n) (ps k).1) = fo R n m ps (k + 1) := tab_set (by simp) fun j hj => by
  by_cases h : j < k
  · rw [if_pos h, if_pos (by omega)]
  · rw [if_neg h, if_neg (by omega)]

theorem small_text {R : List (List (List Int))} {n r k : Nat} {row : List (List Int)} (h : SmallTo R n) (hr : r < n) (hrow : R[r]? = some row) : (row.getD k []).length ≤ 300 := by
  rcases Nat.lt_or_ge k row.length with hk | hk
  · obtain ⟨t, ht⟩ : ∃ t, row[k]? = some t := ⟨_, List.getElem?_eq_getElem hk⟩
    rw [getD_some ht]
    exact (h r row hr hrow).2 k t ht
  · rw [getD_none hk]; simp
theorem mx_bd {R : List (List (List Int))} {n : Nat} (h : SmallTo R n) (hl : R.length = n) (k : Nat) : ∀ r, 0 ≤ mx R k r ∧ mx R k r ≤ 600
  | 0 => by simp [mx]
  | r + 1 => by
    have ih := mx_bd h hl k r
    have hw := wsum_le (itms ((R.getD r []).getD k []))
    have hil := itms_len ((R.getD r []).getD k [])
    have ht : ((R.getD r []).getD k []).length ≤ 300 := by
      rcases Nat.lt_or_ge r n with hr | hr
      · obtain ⟨row, hrow⟩ : ∃ row, R[r]? = some row := ⟨_, List.getElem?_eq_getElem (by omega)⟩
        rw [getD_some hrow]
        exact small_text h hr hrow
      · rw [getD_none (l := R) (by omega)]; simp
    simp only [mx]
    omega
theorem lim_bd {x : Int} (hx : 0 ≤ x) (most : Int) : 0 ≤ lim x most ∧ lim x most ≤ 1024 := by
  unfold lim
  split <;> omega

/-- block g holds these numbers -/
def Row (w : World) (g : Nat) (L : List Int) : Prop := w.heap[g]? = some (.cells (L.map (Value.int .i64)).toArray 3 (0, 0))
theorem Row.lt {w : World} {g : Nat} {L : List Int} (h : Row w g L) : g < w.heap.size := (Array.getElem?_eq_some_iff.1 h).1
theorem Row.cell {w : World} {g : Nat} {L : List Int} (h : Row w g L) {k : Nat} {x : Int} (hx : L[k]? = some x) : w.cell? ⟨g, k, none⟩ = some (.int .i64 x) := by
  unfold Row at h
  simp [World.cell?, h, hx]
theorem Row.frozen {w : World} {g : Nat} {L : List Int} (h : Row w g L) (k : Nat) : w.frozen? ⟨g, k, none⟩ = false := by
  unfold Row at h
  simp [World.frozen?, h]
theorem Row.below {w w' : World} {g B : Nat} {L : List Int} (h : Row w g L) (hb : Below B w w') (hg : g < B) : Row w' g L := (hb.block g hg).trans h
theorem Row.drew {w : World} {g : Nat} {L : List Int} (h : Row w g L) : Row w.drew g L := h
theorem Row.set {w : World} {g : Nat} {L : List Int} (h : Row w g L) (k : Nat) (x : Int) : Row (w.setCell ⟨g, k, none⟩ (.int .i64 x)) g (L.set k x) := by
  unfold Row
  rw [Seg.heap_setCell h]
  simp [List.map_set]
theorem Row.ints {w : World} {g : Nat} {L : List Int} (h : Row w g L) : Ints .i64 w (some ⟨g, 0, none⟩) L.length L :=
  ⟨rfl, .inr ⟨g, 0, rfl, h.lt, fun i x hx => by rw [Nat.zero_add]; exact h.cell hx⟩⟩

theorem size_col (x y : Value) : (Tryz.prog.info? 39).map (·.size) = some (#[x, y] : Array Value).size := by
  show _ = some 2
  kernel_rfl
theorem one_col (x y : Int) : (#[.int .i64 x, .int .i64 y] : Array Value).all (·.oneCell') = true := by simp [Value.oneCell']

set_option maxRecDepth 100000 in
set_option maxHeartbeats 8000000 in
theorem widths_any (a : Option Addr) (n c : Nat) (R : List (List (List Int))) (w : World) (h : Rows3 w a n c R) (hs : SmallTo R n) (hn : n ≤ 20) (b : Option Addr) (m cm : Nat) (ps : Nat → Int × Int) (hc : IsCols w b m cm ps) (hm : m ≤ 10) :
    Calls Tryz.prog 16 #[.slice a n c, .slice b m cm] w fun e w' => ∃ g, e = .returned (.slice (some ⟨g, 0, none⟩) m m) ∧ w.heap.size ≤ g ∧ Row w' g (wl R n m ps) ∧ Below w.heap.size w w' := by
  obtain ⟨i0, hi, hz0, hz1, hz2⟩ := info_parts info_int
  have hmx : Tryz.prog.follows .mixedOrders = true := by kernel_rfl
  have HLR := Lib.hid h.1
  have HH := Lib.hid h
  have HC := Lib.hid hc
  have HS := Lib.hid hs
  have HMB := Lib.hid (mx_bd hs h.1)
  clear h hc hs
  go_enter Tryz.func16, Tryz.ntmps16
  go_wp2_with (refine wpList_make_full _ rfl _ _ 33 rfl w.heap.size 3 i0 _ 1 Tryz.underlying33 hi hz0 hz1 .i64 .i64 m m m rfl rfl rfl rfl (by rw [hz2]; omega) (by unfold maxLen; omega) (Nat.le_refl _) ?_; intro w2 hown2 hgrow2; have hf2 := own_full hown2; rw [show (Value.int .i64 0).cells = #[.int .i64 0] from rfl, toList_madeCells_one, Nat.mul_one, ← ro_zero R m] at hf2; have hB2 : Below w.heap.size w w2 := (Below.refl _ _).grown hgrow2 (Nat.le_refl _) (fun k e => by cases e))
  have H0 : Hid (Row w2 w.heap.size (ro R m 0 0) ∧ Below w.heap.size w w2) := Lib.hid ⟨hf2, hB2⟩
  clear hf2 hB2 hown2 hgrow2
  go_loopw [16] (fun i wr => ∃ r : Nat, r ≤ n ∧ i = .int .i64 r ∧ Hid (Row wr w.heap.size (ro R m r 0) ∧ Below w.heap.size w wr)) (fun i _ => n - (intOf i).toNat)
  case atStart => exact ⟨0, Nat.zero_le _, rfl, H0⟩
  case round =>
    obtain ⟨r, hr, rfl, H⟩ := hrel
    by_cases hlt : r < n
    · have hlt1 : (r : Int) < n := by omega
      obtain ⟨_, _, _, h0 | ⟨b1, off1, rfl, hb1, hc1⟩⟩ := HH.out
      · omega
      obtain ⟨row, hrow⟩ : ∃ row, R[r]? = some row := ⟨_, List.getElem?_eq_getElem (by rw [HLR.out]; exact hlt)⟩
      obtain ⟨a1, n1, c1, hcell, hT1⟩ := hc1 r row hrow
      have HT1 : Hid (∀ w', Below w.heap.size w w' → Texts w' a1 n1 c1 row) := Lib.hid fun w' hb => hT1.below hb
      have hn1 := hT1.2.2.1
      have hcell := (H.out.2.cell (p := ⟨b1, off1 + r, none⟩) hb1).trans hcell
      have HRow := Lib.hid hrow
      clear hc1 hrow hT1
      generalize wr = wq at *
      go_wp2
      go_loopw [22] (fun i wr => ∃ k : Nat, k ≤ m ∧ i = .int .i64 k ∧ Hid (Row wr w.heap.size (ro R m r k) ∧ Below w.heap.size w wr )) (fun i _ => m - (intOf i).toNat)
      case atStart => exact ⟨0, Nat.zero_le _, rfl, H.out.1, H.out.2⟩
      case round =>
        clear H hcell
        obtain ⟨k, hk, rfl, H⟩ := hrel
        by_cases hkt : k < m
        · have hkt1 : (k : Int) < m := by omega
          have hv0 := H.out.1.cell (ro_get (R := R) (r := r) hkt)
          have HNX : Hid (mx R k (r + 1) = max (mx R k r) (wsum (itms (row.getD k [])))) := Lib.hid (by show max _ (wsum (itms ((R.getD r []).getD k []))) = _; rw [getD_some HRow.out])
          have hst := small_text (k := k) HS.out hlt HRow.out
          have HST := Lib.hid hst
          have HSETR : Hid ((ro R m r k).set k (mx R k (r + 1)) = ro R m r (k + 1)) := Lib.hid ro_set
          have HAT := Lib.hid (at_any a1 n1 c1 row wr.drew (HT1.out _ H.out.2.drew) k (by omega))
          generalize mx R k r = v0 at *
          generalize mx R k (r + 1) = v1 at *
          generalize row.getD k [] = tx at *
          have hs1 := H.out.2.size
          go_wp2
          refine region_begin (fun w' => w'.cell? ⟨w.heap.size, k, none⟩ = some (.int .i64 v0)) (fun j => j == 12) hmx ?_
          have hS : wr.drew.cell? ⟨w.heap.size, k, none⟩ = some (.int .i64 v0) := hv0
          refine take_first (i := 0) rfl (by kernel_rfl) (by kernel_rfl) (by kernel_rfl) (by kernel_rfl) (fun _ _ _ h => h) hS (.inl ⟨by rfl, fun w' hw' => by go_simp; try with_reducible rfl⟩) ?_
          refine take_first (i := 1) rfl (by kernel_rfl) (by kernel_rfl) (by kernel_rfl) (by kernel_rfl) (fun _ _ _ h => h) hS (.inl ⟨by rfl, fun w' hw' => by go_simp; try with_reducible rfl⟩) ?_
          refine take_first (i := 2) rfl (by kernel_rfl) (by kernel_rfl) (by kernel_rfl) (by kernel_rfl) (fun _ _ _ h => h) hS (.inl ⟨by rfl, fun w' hw' => by go_simp; try with_reducible rfl⟩) ?_
          refine take_first (i := 3) rfl (by kernel_rfl) (by kernel_rfl) (by kernel_rfl) (by kernel_rfl) (fun _ _ _ h => h) hS (.inl ⟨by rfl, fun w' hw' => by go_simp; try with_reducible rfl⟩) ?_
          refine take_first (i := 4) rfl (by kernel_rfl) (by kernel_rfl) (by kernel_rfl) (by kernel_rfl) (fun _ _ _ h => h) hS (.inl ⟨by rfl, fun w' hw' => by go_simp; try with_reducible rfl⟩) ?_
          refine take_first (i := 5) rfl (by kernel_rfl) (by kernel_rfl) (by kernel_rfl) (by kernel_rfl) (fun _ _ _ h => h) hS (.inl ⟨by rfl, fun w' hw' => by have e0 : w'.cell? ⟨w.heap.size, k, none⟩ = some (.int .i64 v0) := hw'; go_simp; try with_reducible rfl⟩) ?_
          refine take_first (i := 6) rfl (by kernel_rfl) (by kernel_rfl) (by kernel_rfl) (by kernel_rfl) (fun _ _ _ h => h) hS (.inl ⟨by rfl, fun w' hw' => by go_simp; try with_reducible rfl⟩) ?_
          refine take_first (i := 7) rfl (by kernel_rfl) (by kernel_rfl) (by kernel_rfl) (by kernel_rfl) (fun _ _ _ h => h) hS (.inl ⟨by rfl, fun w' hw' => by go_simp; try with_reducible rfl⟩) ?_
          refine take_g (i := 8) (by kernel_rfl) rfl rfl fun K hK => ?_
          go_wp2_with fail
          refine HAT.out.mono ?_
          rintro e w3 ⟨⟨a2, n2, c2, rfl, hT2⟩, rfl⟩
          have hn2 : n2 ≤ 300 := by have := hT2.1.ints.1; have := HST.out; omega
          have HCOL := Lib.hid (cols_any a2 n2 c2 tx wr.drew hT2.1 (by omega))
          refine hK _ _ (.inr hS) ?_
          clear hK HAT hT2
          refine take_g (i := 9) (by kernel_rfl) rfl rfl fun K hK => ?_
          go_wp2_with fail
          refine HCOL.out.mono ?_
          rintro e w4 ⟨rfl, hb4⟩
          have B4 : Hid (Below wr.heap.size wr w4) := Lib.hid ((Below.refl wr.heap.size wr).drew.trans hb4)
          have hgw := H.out.1.lt
          have hS4 : w4.cell? ⟨w.heap.size, k, none⟩ = some (.int .i64 v0) := (B4.out.cell (p := ⟨w.heap.size, k, none⟩) hgw).trans hv0
          have fz := (H.out.1.below B4.out hgw).frozen k
          have HR4 : Hid (Row (w4.setCell ⟨w.heap.size, k, none⟩ (.int .i64 v1)) w.heap.size (ro R m r (k + 1)) ∧ Below w.heap.size w (w4.setCell ⟨w.heap.size, k, none⟩ (.int .i64 v1))) := by
            have hRS := (H.out.1.below B4.out hgw).set k v1
            rw [HSETR.out] at hRS
            exact Lib.hid ⟨hRS, (H.out.2.trans (B4.out.mono hs1)).setCell (Nat.le_refl _) _⟩
          rw [HNX.out] at HR4
          clear hb4 HCOL H HSETR hv0 hS
          generalize wsum (itms tx) = S at *
          refine hK _ _ (.inr hS4) ?_
          clear hK
          refine take_g (i := 10) (by kernel_rfl) rfl rfl fun K hK => ?_
          go_wp2
          refine hK _ _ (.inr hS4) ?_
          clear hK
          refine take_g (i := 11) (by kernel_rfl) rfl rfl fun K hK => ?_
          go_wp2
          refine hK _ _ (.inr hS4) ?_
          clear hK
          refine take_g (i := 12) (by kernel_rfl) rfl rfl fun K hK => ?_
          go_wp2
          refine hK _ _ (.inl rfl) ?_
          clear hK
          refine take_done (by kernel_rfl) ?_ _
          go_wp2
          go_roundw
          case rel => exact ⟨k + 1, by omega, by go_num, HR4⟩
          case measure => simp [intOf]; omega
        · obtain rfl : k = m := by omega
          have HR5 : Hid (Row wr w.heap.size (ro R k (r + 1) 0) ∧ Below w.heap.size w wr) := Lib.hid ⟨by rw [← ro_end]; exact H.out.1, H.out.2⟩
          clear H
          go_wp2
          go_roundw
          case rel => exact ⟨r + 1, by omega, by go_num, HR5⟩
          case measure => simp [intOf]; omega
    · obtain rfl : r = n := by omega
      have H1 : Hid (Row wr w.heap.size (fo R r m ps 0) ∧ Below w.heap.size w wr) := Lib.hid ⟨by rw [← ro_fo]; exact H.out.1, H.out.2⟩
      clear H
      go_wp2
      go_loopw [41] (fun i wr => ∃ k : Nat, k ≤ m ∧ i = .int .i64 k ∧ Hid (Row wr w.heap.size (fo R r m ps k) ∧ Below w.heap.size w wr)) (fun i _ => m - (intOf i).toNat)
      case atStart => exact ⟨0, Nat.zero_le _, rfl, H1⟩
      case round =>
        clear H1
        obtain ⟨k, hk, rfl, H⟩ := hrel
        by_cases hkt : k < m
        · have hkt1 : (k : Int) < m := by omega
          obtain ⟨hcm, _, h0 | ⟨b1, off1, rfl, hb1, hc1⟩⟩ := HC.out
          · omega
          obtain ⟨p0, p1⟩ := hc1 k hkt
          have p0 := (H.out.2.cell (p := ⟨b1, off1 + k * 2, none⟩) hb1).trans p0
          have p1 := (H.out.2.cell (p := ⟨b1, off1 + k * 2 + 1, none⟩) hb1).trans p1
          have hv0 := H.out.1.cell (fo_get (R := R) (n := r) (ps := ps) hkt)
          have HSETR : Hid ((fo R r m ps k).set k (lim (mx R k r) (ps k).1) = fo R r m ps (k + 1)) := Lib.hid fo_set
          have hgw := H.out.1.lt
          have hs1 := H.out.2.size
          have HLIM : Hid (lim (mx R k r) (ps k).1 = min (if 0 < (ps k).1 then min (mx R k r) (ps k).1 else mx R k r) 1024) := Lib.hid rfl
          generalize lim (mx R k r) (ps k).1 = v1 at *
          generalize mx R k r = v0 at *
          generalize (ps k).1 = m0 at *
          generalize (ps k).2 = s0 at *
          obtain ⟨W2, hW2⟩ : ∃ W2, W2 = wr.alloc (.cells #[.int .i64 m0, .int .i64 s0] 39) := ⟨_, rfl⟩
          have hnew : (wr.alloc (.cells #[.int .i64 0, .int .i64 0] 39)).heap[wr.heap.size]? = some (.cells #[.int .i64 0, .int .i64 0] 39 (0, 0)) := World.alloc_heap_new wr _
          have hrow : (wr.alloc (.cells #[.int .i64 0, .int .i64 0] 39)).setRow wr.heap.size #[.int .i64 m0, .int .i64 s0] = W2 := by rw [hW2]; exact World.setRow_alloc_new wr _ _ _
          have hh2 : W2.heap[wr.heap.size]? = some (.cells #[.int .i64 m0, .int .i64 s0] 39 (0, 0)) := by rw [hW2]; exact World.alloc_heap_new wr _
          have q0 : W2.cell? ⟨wr.heap.size, 0, none⟩ = some (.int .i64 m0) := by simp [World.cell?, hh2]
          have BW : Below wr.heap.size wr W2 := by rw [hW2]; exact (Below.refl _ _).alloc (Nat.le_refl _) _
          have RW : Row W2 w.heap.size (fo R r m ps k) := H.out.1.below BW hgw
          have hv2 : W2.cell? ⟨w.heap.size, k, none⟩ = some (.int .i64 v0) := (BW.cell (p := ⟨w.heap.size, k, none⟩) hgw).trans hv0
          have fz2 := RW.frozen k
          have HB2 := Lib.hid (H.out.2.trans (BW.mono hs1))
          have HRW := Lib.hid RW
          have hne : wr.heap.size ≠ w.heap.size := by omega
          clear hc1 hW2 hh2 BW RW H hv0
          have hfin : ∀ (v : Int) (W : World), Row W w.heap.size ((fo R r m ps k).set k v) → True := fun _ _ _ => trivial
          clear hfin
          by_cases hm0 : 0 < m0
          · have HV1 : Hid (v1 = min (min v0 m0) 1024) := by rw [HLIM.out, if_pos hm0]; exact Lib.hid rfl
            have HR3 : Hid (Row (W2.setCell ⟨w.heap.size, k, none⟩ (.int .i64 (min v0 m0))) w.heap.size ((fo R r m ps k).set k (min v0 m0)) ∧ Below w.heap.size w (W2.setCell ⟨w.heap.size, k, none⟩ (.int .i64 (min v0 m0)))) :=
              Lib.hid ⟨HRW.out.set k _, HB2.out.setCell (Nat.le_refl _) _⟩
            have HFS : Hid (((fo R r m ps k).set k (min v0 m0))[k]? = some (min v0 m0)) := Lib.hid (by rw [List.getElem?_set, if_pos rfl, if_pos (by unfold fo; rw [tab_len]; exact hkt)])
            have HSS : Hid (((fo R r m ps k).set k (min v0 m0)).set k v1 = fo R r m ps (k + 1)) := Lib.hid (by rw [List.set_set]; exact HSETR.out)
            have fz2' : W2.drew.frozen? ⟨w.heap.size, k, none⟩ = false := fz2
            clear HLIM HSETR HRW HB2
            go_wp2_with (refine wpList_store_row rfl 39 _ _ rfl wr.heap.size #[.int .i64 m0, .int .i64 s0] rfl rfl _ _ hnew (size_col _ _) rfl (one_col _ _) ?_)
            refine region_begin (fun w' => w'.cell? ⟨w.heap.size, k, none⟩ = some (.int .i64 v0) ∧ w'.cell? ⟨wr.heap.size, 0, none⟩ = some (.int .i64 m0)) (fun j => j == 10) hmx ?_
            have hS : W2.drew.cell? ⟨w.heap.size, k, none⟩ = some (.int .i64 v0) ∧ W2.drew.cell? ⟨wr.heap.size, 0, none⟩ = some (.int .i64 m0) := ⟨hv2, q0⟩
            refine take_first (i := 0) rfl (by kernel_rfl) (by kernel_rfl) (by kernel_rfl) (by kernel_rfl) (fun _ _ _ h => h) hS (.inl ⟨by rfl, fun w' hw' => by obtain ⟨e0, e1⟩ := hw'; go_simp; try with_reducible rfl⟩) ?_
            refine take_first (i := 1) rfl (by kernel_rfl) (by kernel_rfl) (by kernel_rfl) (by kernel_rfl) (fun _ _ _ h => h) hS (.inl ⟨by rfl, fun w' hw' => by obtain ⟨e0, e1⟩ := hw'; go_simp; try with_reducible rfl⟩) ?_
            refine take_first (i := 2) rfl (by kernel_rfl) (by kernel_rfl) (by kernel_rfl) (by kernel_rfl) (fun _ _ _ h => h) hS (.inl ⟨by rfl, fun w' hw' => by obtain ⟨e0, e1⟩ := hw'; go_simp; try with_reducible rfl⟩) ?_
            refine take_first (i := 3) rfl (by kernel_rfl) (by kernel_rfl) (by kernel_rfl) (by kernel_rfl) (fun _ _ _ h => h) hS (.inl ⟨by rfl, fun w' hw' => by obtain ⟨e0, e1⟩ := hw'; go_simp; try with_reducible rfl⟩) ?_
            refine take_first (i := 4) rfl (by kernel_rfl) (by kernel_rfl) (by kernel_rfl) (by kernel_rfl) (fun _ _ _ h => h) hS (.inl ⟨by rfl, fun w' hw' => by obtain ⟨e0, e1⟩ := hw'; go_simp; try with_reducible rfl⟩) ?_
            refine take_first (i := 5) rfl (by kernel_rfl) (by kernel_rfl) (by kernel_rfl) (by kernel_rfl) (fun _ _ _ h => h) hS (.inl ⟨by rfl, fun w' hw' => by obtain ⟨e0, e1⟩ := hw'; go_simp; try with_reducible rfl⟩) ?_
            refine take_first (i := 6) rfl (by kernel_rfl) (by kernel_rfl) (by kernel_rfl) (by kernel_rfl) (fun _ _ _ h => h) hS (.inl ⟨by rfl, fun w' hw' => by obtain ⟨e0, e1⟩ := hw'; go_simp; try with_reducible rfl⟩) ?_
            refine take_first (i := 7) rfl (by kernel_rfl) (by kernel_rfl) (by kernel_rfl) (by kernel_rfl) (fun _ _ _ h => h) hS (.inl ⟨by rfl, fun w' hw' => by obtain ⟨e0, e1⟩ := hw'; go_simp; try with_reducible rfl⟩) ?_
            refine take_g (i := 8) (by kernel_rfl) rfl rfl fun K hK => ?_
            go_wp2
            refine hK _ _ (.inr hS) ?_
            clear hK
            refine take_g (i := 9) (by kernel_rfl) rfl rfl fun K hK => ?_
            go_wp2
            refine hK _ _ (.inr hS) ?_
            clear hK
            refine take_g (i := 10) (by kernel_rfl) rfl rfl fun K hK => ?_
            go_wp2
            refine hK _ _ (.inl rfl) ?_
            clear hK hS
            refine take_done (by kernel_rfl) ?_ _
            generalize (W2.setCell ⟨w.heap.size, k, none⟩ (.int .i64 (min v0 m0))) = W3 at *
            have fz3 := HR3.out.1.frozen k
            have hv3 := HR3.out.1.cell HFS.out
            have HR4 : Hid (Row (W3.setCell ⟨w.heap.size, k, none⟩ (.int .i64 v1)).drew w.heap.size (fo R r m ps (k + 1)) ∧ Below w.heap.size w (W3.setCell ⟨w.heap.size, k, none⟩ (.int .i64 v1)).drew) := by
              have hRS := HR3.out.1.set k v1
              rw [HSS.out] at hRS
              exact Lib.hid ⟨hRS.drew, (HR3.out.2.setCell (Nat.le_refl _) _).drew⟩
            rw [HV1.out] at HR4
            clear HR3 HFS HSS HV1
            generalize min v0 m0 = v5 at *
            go_wp2
            go_roundw
            case rel => exact ⟨k + 1, by omega, by go_num, HR4⟩
            case measure => simp [intOf]; omega
          · have HV1 : Hid (v1 = min v0 1024) := by rw [HLIM.out, if_neg hm0]; exact Lib.hid rfl
            have hm0' : m0 ≤ 0 := by omega
            have HR3 : Hid (Row (W2.setCell ⟨w.heap.size, k, none⟩ (.int .i64 v1)) w.heap.size (fo R r m ps (k + 1)) ∧ Below w.heap.size w (W2.setCell ⟨w.heap.size, k, none⟩ (.int .i64 v1))) := by
              have hRS := HRW.out.set k v1
              rw [HSETR.out] at hRS
              exact Lib.hid ⟨hRS, HB2.out.setCell (Nat.le_refl _) _⟩
            rw [HV1.out] at HR3
            clear HV1 HLIM HSETR HRW HB2
            go_wp2_with (refine wpList_store_row rfl 39 _ _ rfl wr.heap.size #[.int .i64 m0, .int .i64 s0] rfl rfl _ _ hnew (size_col _ _) rfl (one_col _ _) ?_)
            go_roundw
            case rel => exact ⟨k + 1, by omega, by go_num, HR3⟩
            case measure => simp [intOf]; omega
        · obtain rfl : k = m := by omega
          have HF := H.out.1
          rw [fo_end] at HF
          have HB := Lib.hid H.out.2
          clear H
          go_wp2
          go_ret
          exact ⟨_, rfl, Nat.le_refl _, HF, HB.out⟩

end Go.Proofs.YtcbfmokafmagpaaGreat.Tbl

/-
  The walk of the statement MeasureHeads.
-/
import Derived.Test.YtcbfmokafmagpaaGreatFitLaw
namespace Go.Proofs.YtcbfmokafmagpaaGreat.Mea
set_option linter.unusedSimpArgs false
set_option linter.unusedVariables false
open Go Go.RowKit Go.Shelf Mem Seg Turn Gra Clu Same GraLaw
attribute [local go_sem] Oper.semAt_some

set_option maxHeartbeats 1000000 in
/-- Head at a width below 0 -/
theorem head_neg (a : Option Addr) (n c : Nat) (w : World) (x : Int) (hx : x < 0) :
    Calls Tryz.prog 31 #[.slice a n c, .int .i64 x] w fun e w' => e = .returned (.tuple #[.int .i64 0, .int .i64 0]) ∧ Below w.heap.size w w' := by
  have d0 : decide (x < 0) = true := by simpa using hx
  go_enter Tryz.func31, Tryz.ntmps31
  go_wp2_with fail
  have c1 : (((w.alloc (.cells #[.int .i64 x] 3)).alloc (.cells #[.int .i64 0] 3)).alloc (.cells #[.int .i64 0] 3)).cell? ⟨w.heap.size + 1, 0, none⟩ = some (.int .i64 0) := by
    rw [World.cell?_alloc_lt _ _ _ (by simp)]
    simp
  have c2 : (((w.alloc (.cells #[.int .i64 x] 3)).alloc (.cells #[.int .i64 0] 3)).alloc (.cells #[.int .i64 0] 3)).cell? ⟨w.heap.size + 1 + 1, 0, none⟩ = some (.int .i64 0) := by
    have hs : ((w.alloc (.cells #[.int .i64 x] 3)).alloc (.cells #[.int .i64 0] 3)).heap.size = w.heap.size + 1 + 1 := by simp
    have hh := heap_alloc_new ((w.alloc (.cells #[.int .i64 x] 3)).alloc (.cells #[.int .i64 0] 3)) (.cells #[.int .i64 0] 3)
    rw [hs] at hh
    unfold World.cell?
    rw [hh]
    rfl
  have hB : Below w.heap.size w (((w.alloc (.cells #[.int .i64 x] 3)).alloc (.cells #[.int .i64 0] 3)).alloc (.cells #[.int .i64 0] 3)) := (((Below.refl _ _).alloc (Nat.le_refl _) _).alloc (by simp) _).alloc (by simp; omega) _
  generalize (((w.alloc (.cells #[.int .i64 x] 3)).alloc (.cells #[.int .i64 0] 3)).alloc (.cells #[.int .i64 0] 3)) = w1 at *
  exact bodyPost_ret (v := .tuple #[.int .i64 0, .int .i64 0]) (by simp [results, Tryz.f31, go_sem, c1, c2]) rfl ⟨rfl, hB⟩

/-- what the reference's Head gives -/
def RefH (xs : List Int) (x : Int) (w : World) (e : Ending) (w' : World) : Prop :=
  ((0 ≤ x ∧ ∃ k, e = .returned (.tuple #[.int .i64 (st (Jn xs) xs.length k), .int .i64 (wsum (its (cl xs) k))]) ∧ HeadP xs x k) ∨ (x < 0 ∧ e = .returned (.tuple #[.int .i64 0, .int .i64 0]))) ∧ Below w.heap.size w w'

/-- the best beginning among the first k borders -/
def Best (xs : List Int) (x : Int) (k : Nat) (b u : Int) : Prop :=
  0 ≤ x → (k = 0 ∧ b = 0 ∧ u = 0) ∨ ∃ j, j < k ∧ b = st (Jn xs) xs.length j ∧ u = wsum (its (cl xs) j) ∧ u ≤ x ∧ (j + 1 = k ∨ x < wsum (its (cl xs) (j + 1)))
theorem Best.yes {xs : List Int} {x : Int} {k : Nat} {u : Int} (hu : wsum (its (cl xs) k) = u) (h : u ≤ x) : Best xs x (k + 1) (st (Jn xs) xs.length k) u :=
  fun _ => .inr ⟨k, by omega, rfl, hu.symm, h, .inl rfl⟩
theorem Best.no {xs : List Int} {x : Int} {k : Nat} {b u : Int} (hb : Best xs x k b u) (h : x < wsum (its (cl xs) k)) : Best xs x (k + 1) b u := by
  intro hx
  rcases hb hx with ⟨rfl, rfl, rfl⟩ | ⟨j, h1, h2, h3, h4, h5⟩
  · have : wsum (its (cl xs) 0) = 0 := rfl
    omega
  · refine .inr ⟨j, by omega, h2, h3, h4, .inr ?_⟩
    rcases h5 with h5 | h5
    · rw [h5]; exact h
    · exact h5

set_option maxRecDepth 100000 in
set_option maxHeartbeats 8000000 in
theorem head_ref (a : Option Addr) (n c : Nat) (xs : List Int) (w : World) (h : Runes w a n c xs) (hn : n ≤ 100000) (x : Int) (hx1 : -9223372036854775808 ≤ x) (hx2 : x ≤ 9223372036854775807) :
    Calls Tryz.prog 33 #[.slice a n c, .int .i64 x] w (RefH xs x w) := by
  obtain ⟨i0, hi, hz0, hz1, hz2⟩ := info_parts info_int
  have HH := Lib.hid h
  have hcn := h.le
  have hcm := h.max
  have hcl := cnt_le (J := Jn xs) n
  have HL := Lib.hid h.ints.1
  clear h
  go_enter Tryz.func33, Tryz.ntmps33
  go_wp2_with fail
  refine (starts_ref a n c xs w HH.out hn).mono ?_
  rintro e w1 ⟨v, rfl, hown, hb1⟩
  have hs1 := hb1.size
  go_wp2_with (at_builtin; refine wpList_append_own _ rfl _ _ 33 rfl w.heap.size 3 i0 _ 1 8 Tryz.underlying33 hi hz0 hz1 hz2 rfl (by decide) _ (cnt (Jn xs) n) _ rfl (hown.alloc _) ⟨w1.heap.size, 0, none⟩ 1 1 [.int .i64 n] rfl rfl (cell_new1 _ _ _) (by simp [Value.oneCell']) (by unfold maxLen; omega) (by omega) (by simp; omega) ?_; intro v2 w2 hown2 hgrow2 _)
  rw [bnd_nums] at hown2
  obtain ⟨g, C2, rfl⟩ := ownsRow_succ hown2
  have hB2 : Below w.heap.size w w2 := (hb1.alloc hs1 _).grown hgrow2 (by simp; omega) (fun g e => (hown.lt g e).1)
  have hs2 := hB2.size
  have hg2 : g < w2.heap.size := (hown2.lt g rfl).2
  have hgc : Hid (∀ k x : Nat, (bnd (Jn xs) n)[k]? = some x → w2.cell? ⟨g, k, none⟩ = some (.int .i64 (x : Int))) := fun k x hx => by
    have := hown2.cells (g := g) rfl k _ (nums_get hx)
    rw [add_none, Nat.zero_add] at this
    exact this
  have HR2 := Lib.hid (HH.out.below hB2)
  have HB2 := Lib.hid hB2
  clear hown hb1 hgrow2 hown2 hB2 HH
  go_wp2
  go_loopw [6, 7, 9] (fun b u i wr => ∃ (k : Nat) (b' u' : Int), k ≤ cnt (Jn xs) n + 1 ∧ i = .int .i64 k ∧ b = .int .i64 b' ∧ u = .int .i64 u' ∧ Hid (Best xs x k b' u' ∧ Below w2.heap.size w2 wr)) (fun _ _ i _ => cnt (Jn xs) n + 1 - (intOf i).toNat)
  case atStart => exact ⟨0, 0, 0, Nat.zero_le _, rfl, rfl, rfl, fun _ => .inl ⟨rfl, rfl, rfl⟩, Below.refl _ _⟩
  case round =>
    obtain ⟨k, b', u', hk, rfl, rfl, rfl, H⟩ := hrel
    have hk' : (k : Int) ≤ (cnt (Jn xs) n : Int) + 1 := by omega
    by_cases hlt : k < cnt (Jn xs) n + 1
    · have hk0 := st_get (J := Jn xs) (n := n) (k := k) (by omega)
      have hle := st_le (J := Jn xs) (n := n) (k := k) (by omega)
      have c0 := (H.out.2.cell (p := ⟨g, k, none⟩) hg2).trans (hgc.out _ _ hk0)
      have HT := Lib.hid (runes_take (HR2.out.below (H.out.2.mono (Nat.le_refl _))) hle)
      have hit := its_take xs (k := k) (by rw [HL.out]; omega)
      have hyes := fun (u : Int) hu (h : u ≤ x) => Best.yes (xs := xs) (x := x) (k := k) (u := u) hu h
      rw [HL.out] at hit hyes
      have HIT := Lib.hid hit
      have HYES := Lib.hid hyes
      have HNO := Lib.hid (fun h => Best.no (xs := xs) (x := x) (k := k) H.out.1 h)
      have HBr := Lib.hid H.out.2
      have hlt' : (k : Int) < (cnt (Jn xs) n : Int) + 1 := by omega
      generalize st (Jn xs) n k = s0 at *
      generalize hU : wsum (its (cl xs) k) = u at *
      have HU := Lib.hid hU
      have hs0 : (s0 : Int) ≤ c := by omega
      clear hk0 hit hyes H hU
      go_wp2_with fail
      refine (cols_ref a s0 c (xs.take s0) _ HT.out (by omega)).mono ?_
      rintro e w3 ⟨rfl, hb3⟩
      rw [HIT.out, HU.out]
      have c3 := (hb3.cell (p := ⟨g, k, none⟩) (by have := HBr.out.size; show g < _; omega)).trans c0
      have HB3 := Lib.hid (HBr.out.trans (hb3.mono HBr.out.size))
      clear hb3 c0 HT HBr
      by_cases hux : u ≤ x
      · have d1 : decide (u ≤ x) = true := by simpa using hux
        have HYES := Lib.hid (HYES.out u rfl hux)
        go_wp2
        go_roundw
        case rel => exact ⟨k + 1, _, _, by omega, by go_num, rfl, rfl, HYES.out, HB3.out⟩
        case measure => simp [intOf]; omega
      · have d1 : decide (u ≤ x) = false := by simpa using hux
        have HNO := Lib.hid (HNO.out (by omega))
        go_wp2
        go_roundw
        case rel => exact ⟨k + 1, _, _, by omega, by go_num, rfl, rfl, HNO.out, HB3.out⟩
        case measure => simp [intOf]; omega
    · obtain rfl : k = cnt (Jn xs) n + 1 := by omega
      have HBr := Lib.hid (HB2.out.trans (H.out.2.mono hs2))
      have HBE := Lib.hid H.out.1
      clear H hlt hk hk'
      by_cases hx0 : x < 0
      · have d1 : decide (x < 0) = true := by simpa using hx0
        go_wp2
        go_ret2
        exact ⟨.inr ⟨hx0, rfl⟩, HBr.out⟩
      · have d1 : decide (x < 0) = false := by simpa using hx0
        go_wp2
        go_ret2
        refine ⟨.inl ⟨by omega, ?_⟩, HBr.out⟩
        rcases HBE.out (by omega) with ⟨h, _⟩ | ⟨j, h1, h2, h3, h4, h5⟩
        · omega
        · subst h2 h3
          refine ⟨j, rfl, by rw [HL.out]; omega, h4, ?_⟩
          rcases h5 with h5 | h5
          · exact .inl (by rw [HL.out]; omega)
          · exact .inr h5

end Go.Proofs.YtcbfmokafmagpaaGreat.Mea

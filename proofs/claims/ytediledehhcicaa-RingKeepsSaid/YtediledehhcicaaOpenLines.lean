/-
  Slices of lines that came in, opened: three levels.
-/
import Derived.Test.YtediledehhcicaaRingD
import Derived.ProofKit
import Derived.OpenShut
import Derived.Deep.Slices
namespace Go.Proofs.Ytediledehhcicaa.Ring
set_option linter.unusedSimpArgs false
set_option linter.unusedVariables false
open Go.ChangeShapes Go.WideShapes Go.Deep Go.RowKit

theorem add_nn (b off n : Nat) : (Addr.mk b off none).add n = ⟨b, off + n, none⟩ := by
  unfold Addr.add
  split <;> simp_all
theorem weights_in {H : Type} {P : Program} {e : TypeId} {n : Nat} {d : DataW H} : ∀ {ds : List (DataW H)}, d ∈ ds → n ∈ d.weights P e → n ∈ DataW.weightsAll P e ds
  | d0 :: ds, h, hn => by
    simp only [DataW.weightsAll, List.mem_append]
    rcases List.mem_cons.1 h with rfl | h
    · exact .inl hn
    · exact .inr (weights_in h hn)

/-- a row of structs of two fields of one cell each -/
theorem open_pairs {H : Type} {enc : TypeId × Value → H} {w : World} {base : Nat} {spare : Nat → Bool} {held : Bool} {t e : TypeId} {f0 f1 : Field} (ht : Try.prog.underlying t = some (.slice e)) (he : Try.prog.underlying e = some (.struct #[f0, f1])) (hC : Try.prog.cellsOf e = 2) (h0 : Try.prog.cellsOf f0.type = 1) (h1 : Try.prog.cellsOf f1.type = 1) (o0 : f0.offset = 0) (o1 : f1.offset = 1)
    {fuel : Nat} {a : Option Addr} {n c : Nat} {x : DataW H × List MemPlace} (h : DataW.trod enc Try.prog w base spare held fuel t [.slice a n c] = some x) (hw : ∀ n ∈ x.1.weights Try.prog t, n ≤ reachBytes) :
    n ≤ c ∧ n * Try.prog.bytesOf e ≤ reachBytes ∧ (n = 0 ∨ ∃ b off, a = some ⟨b, off, none⟩ ∧ b < w.heap.size ∧ ∀ i, i < n → ∃ v0 v1 y0 y1 m, w.cell? ⟨b, off + i * 2, none⟩ = some v0 ∧ w.cell? ⟨b, off + i * 2 + 1, none⟩ = some v1 ∧
      DataW.trod enc Try.prog w base spare held m f0.type [v0] = some y0 ∧ DataW.trod enc Try.prog w base spare held m f1.type [v1] = some y1 ∧ (∀ k ∈ y0.1.weights Try.prog f0.type, k ≤ reachBytes) ∧ (∀ k ∈ y1.1.weights Try.prog f1.type, k ≤ reachBytes)) := by
  rcases open_slice ht h with ⟨hcs, _⟩ | ⟨a', len', cap', m, n', D, Pl, hcs, hb, hl, hm, hmm, rfl, hi⟩
  · simp at hcs
    obtain ⟨rfl, rfl, rfl⟩ := hcs
    exact ⟨Nat.le_refl _, by simp, .inl rfl⟩
  · simp at hcs
    obtain ⟨rfl, rfl, rfl⟩ := hcs
    have hlm : n ≤ m := by rw [hmm]; split <;> omega
    have hsz := hw ((((List.range n).map D).length + ((List.range (m - n)).map fun j => D (n + j)).length) * Try.prog.bytesOf e) (by simp [DataW.weights, ht])
    simp only [List.length_map, List.length_range] at hsz
    refine ⟨hl, Nat.le_trans (Nat.mul_le_mul_right _ (by omega)) hsz, ?_⟩
    rcases Nat.eq_zero_or_pos n with hn | hn
    · exact .inl hn
    · have key : ∀ i, i < n → ∃ v0 v1 y0 y1 m, w.cell? (a'.add (i * 2)) = some v0 ∧ w.cell? (a'.add (i * 2 + 1)) = some v1 ∧
          DataW.trod enc Try.prog w base spare held m f0.type [v0] = some y0 ∧ DataW.trod enc Try.prog w base spare held m f1.type [v1] = some y1 ∧ (∀ k ∈ y0.1.weights Try.prog f0.type, k ≤ reachBytes) ∧ (∀ k ∈ y1.1.weights Try.prog f1.type, k ≤ reachBytes) := by
        intro i hlt
        obtain ⟨cs, hc, htr⟩ := hi i (by omega)
        rw [hC] at hc
        obtain ⟨_, hcl, hat⟩ := World.cells?_some hc
        have hwi : ∀ n ∈ (D i).weights Try.prog e, n ≤ reachBytes := fun k hk => hw k (by
          simp only [DataW.weights, ht]
          exact List.mem_cons_of_mem _ (List.mem_append.2 (.inl (weights_in (List.mem_map.2 ⟨i, List.mem_range.2 hlt, rfl⟩) hk))))
        obtain ⟨y0, y1, m', hx, _, g0, g1⟩ := trod_struct2 he htr
        match cs, hcl with
        | [v0, v1], _ =>
          rw [o0, h0] at g0
          rw [o1, h1] at g1
          have q0 := hat 0 (by omega)
          have q1 := hat 1 (by omega)
          rw [Go.Deep.add_add] at q0 q1
          injection hx with hx _
          rw [hx] at hwi
          refine ⟨v0, v1, y0, y1, m', q0, q1, g0, g1, fun k hk => hwi k ?_, fun k hk => hwi k ?_⟩
          · simp only [DataW.weights, he, DataW.weightsEach, List.map_cons, List.map_nil, List.mem_append]
            exact .inl hk
          · simp only [DataW.weights, he, DataW.weightsEach, List.map_cons, List.map_nil, List.mem_append]
            exact .inr (.inl hk)
      obtain ⟨b, off, spot⟩ := a'
      obtain ⟨v0, _, _, _, _, q0, _⟩ := key 0 hn
      have hspot : spot = none := by simpa [Addr.add] using World.cell?_spot q0
      subst hspot
      have hbw : b < w.heap.size := World.block_lt_of_cell? _ _ q0
      refine .inr ⟨b, off, rfl, hbw, fun i hlt => ?_⟩
      have := key i hlt
      simpa only [add_nn, Nat.add_assoc] using this

theorem open_text {H : Type} {enc : TypeId × Value → H} {w : World} {base : Nat} {spare : Nat → Bool} {held : Bool} {fuel : Nat} {v : Value} {x : DataW H × List MemPlace}
    (h : DataW.trod enc Try.prog w base spare held fuel 29 [v] = some x) (hw : ∀ n ∈ x.1.weights Try.prog 29, n ≤ reachBytes) : ∃ t, TextAt (fun b => b < w.heap.size) False w v t := by
  have hb4 : Try.prog.bytesOf 21 = 4 := by kernel_rfl
  have hsz : ∀ a n c, v = .slice a n c → n * 4 ≤ reachBytes := by
    rintro a n c rfl
    rcases open_slice Try.underlying29 h with ⟨hcs, _⟩ | ⟨a', l, cc, m, nn, D, Pl, hcs, hb, hl, hm, hmm, rfl, hi⟩
    · simp at hcs
      omega
    · simp at hcs
      obtain ⟨rfl, rfl, rfl⟩ := hcs
      have := hw ((((List.range n).map D).length + ((List.range (m - n)).map fun j => D (n + j)).length) * 4) (by simp [DataW.weights, Try.underlying29, hb4])
      simp only [List.length_map, List.length_range] at this
      omega
  rcases open_ints Try.underlying29 Try.underlying21 (by kernel_rfl) h with ⟨hcs, _⟩ | ⟨a', l, c, zs, hcs, _, hl, hm, hz, _, hcell, hwz⟩
  · simp at hcs
    subst hcs
    exact ⟨[], TextAt.nil _ _ _⟩
  · simp at hcs
    subst hcs
    have hlz : l ≤ zs.length := by rw [hz]; split <;> omega
    have hs := hsz _ _ _ rfl
    unfold reachBytes at hs
    have hlen : (zs.take l).length = l := by simp; omega
    refine ⟨zs.take l, some a', c, by rw [hlen], by rw [hlen]; exact hl, by rw [hlen]; omega, ?_⟩
    rw [hlen]
    rcases Nat.eq_zero_or_pos l with h0 | h0
    · exact .inl h0
    · obtain ⟨b, off, spot⟩ := a'
      have hc0 := hcell 0 (by omega)
      have hspot : spot = none := by simpa [Addr.add] using World.cell?_spot hc0
      subst hspot
      have hbl : b < w.heap.size := by
        have := World.block_lt_of_cell? _ _ hc0
        simpa [Addr.add] using this
      refine .inr ⟨b, off, rfl, hbl, hbl, fun i y hi => ⟨?_, fun f => f.elim⟩⟩
      have hil : i < l := by
        have := (List.getElem?_eq_some_iff.1 hi).1
        simp at this; omega
      have hc := hcell i (by omega)
      rw [add_nn] at hc
      rw [hc]
      rw [List.getElem?_take, if_pos hil] at hi
      simp [List.getD_eq_getElem?_getD, hi]

theorem slice_of {H : Type} {enc : TypeId × Value → H} {w : World} {base : Nat} {spare : Nat → Bool} {held : Bool} {fuel : Nat} {t e : TypeId} {v : Value} {x : DataW H × List MemPlace} (ht : Try.prog.underlying t = some (.slice e))
    (h : DataW.trod enc Try.prog w base spare held fuel t [v] = some x) : ∃ a n c, v = .slice a n c := by
  rcases open_slice ht h with ⟨hv, _⟩ | ⟨a1, l1, c1, _, _, _, _, hv, _⟩
  · simp at hv
    exact ⟨_, _, _, hv⟩
  · simp at hv
    exact ⟨_, _, _, hv⟩

theorem open_cells {H : Type} {enc : TypeId × Value → H} {w : World} {base : Nat} {spare : Nat → Bool} {held : Bool} {fuel : Nat} {v : Value} {x : DataW H × List MemPlace}
    (h : DataW.trod enc Try.prog w base spare held fuel 26 [v] = some x) (hw : ∀ n ∈ x.1.weights Try.prog 26, n ≤ reachBytes) : ∃ cs, CellsAt (fun b => b < w.heap.size) False w v cs := by
  have hb : Try.prog.bytesOf 31 = 32 := by kernel_rfl
  obtain ⟨a, n, c, rfl⟩ := slice_of Try.underlying26 h
  obtain ⟨hnc, hsz, hr⟩ := open_pairs Try.underlying26 Try.underlying31 (by kernel_rfl) (by kernel_rfl) (by kernel_rfl) rfl rfl h hw
  rw [hb] at hsz
  unfold reachBytes at hsz
  rcases hr with h0 | ⟨b, off, rfl, hbw, key⟩
  · subst h0
    exact ⟨[], a, c, rfl, hnc, by simp, .inl rfl⟩
  · obtain ⟨Z, hZ⟩ := choose_lt (α := CellC) (n := n) (p := fun i z => w.cell? ⟨b, off + i * 2, none⟩ = some (.int .i64 z.1) ∧ ∃ tv, w.cell? ⟨b, off + i * 2 + 1, none⟩ = some tv ∧ TextAt (fun b => b < w.heap.size) False w tv z.2) (fun i hlt => by
      obtain ⟨v0, v1, y0, y1, m, q0, q1, t0, t1, w0, w1⟩ := key i hlt
      obtain ⟨k, e0, _, _⟩ := DataW.trod_int Try.underlying3 t0
      simp at e0
      subst e0
      obtain ⟨t, ht⟩ := open_text t1 w1
      exact ⟨(k, t), q0, v1, q1, ht⟩)
    have hlen : ((List.range n).map Z).length = n := by simp
    refine ⟨(List.range n).map Z, some ⟨b, off, none⟩, c, by rw [hlen], by rw [hlen]; exact hnc, by rw [hlen]; omega, .inr ⟨b, off, rfl, hbw, hbw, fun j z hz => ?_⟩⟩
    have hin : j < n := by simpa using (List.getElem?_eq_some_iff.1 hz).1
    rw [List.getElem?_map, List.getElem?_range hin] at hz
    simp at hz
    subst hz
    exact ⟨(hZ j hin).1, fun f => f.elim, (hZ j hin).2⟩

theorem open_lines {H : Type} {enc : TypeId × Value → H} {w : World} {base : Nat} {spare : Nat → Bool} {held : Bool} {fuel : Nat} {v : Value} {x : DataW H × List MemPlace}
    (h : DataW.trod enc Try.prog w base spare held fuel 22 [v] = some x) (hw : ∀ n ∈ x.1.weights Try.prog 22, n ≤ reachBytes) : ∃ ls, LinesAt (fun b => b < w.heap.size) False w v ls := by
  obtain ⟨a, n, c, rfl⟩ := slice_of Try.underlying22 h
  obtain ⟨hnc, _, hr⟩ := open_pairs Try.underlying22 Try.underlying28 (by kernel_rfl) (by kernel_rfl) (by kernel_rfl) rfl rfl h hw
  rcases hr with h0 | ⟨b, off, rfl, hbw, key⟩
  · subst h0
    exact ⟨[], a, c, rfl, hnc, .inl rfl⟩
  · obtain ⟨Z, hZ⟩ := choose_lt (α := LineC) (n := n) (p := fun i z => ∃ cv, w.cell? ⟨b, off + i * 2, none⟩ = some cv ∧ CellsAt (fun b => b < w.heap.size) False w cv z.1 ∧ w.cell? ⟨b, off + i * 2 + 1, none⟩ = some (.bool z.2)) (fun i hlt => by
      obtain ⟨v0, v1, y0, y1, m, q0, q1, t0, t1, w0, w1⟩ := key i hlt
      obtain ⟨k, e1, _⟩ := DataW.trod_bool Try.underlying4 t1
      simp at e1
      subst e1
      obtain ⟨cs, hc⟩ := open_cells t0 w0
      exact ⟨(cs, k), v0, q0, hc, q1⟩)
    have hlen : ((List.range n).map Z).length = n := by simp
    refine ⟨(List.range n).map Z, some ⟨b, off, none⟩, c, by rw [hlen], by rw [hlen]; exact hnc, .inr ⟨b, off, rfl, hbw, hbw, fun j z hz => ?_⟩⟩
    have hin : j < n := by simpa using (List.getElem?_eq_some_iff.1 hz).1
    rw [List.getElem?_map, List.getElem?_range hin] at hz
    simp at hz
    subst hz
    exact hZ j hin

def IsLines (w : World) (a : Option Addr) (n c : Nat) (ls : List LineC) : Prop := LinesAt (fun b => b < w.heap.size) False w (.slice a n c) ls
theorem open_ls {H : Type} {enc : TypeId × Value → H} {w : World} {base : Nat} {spare : Nat → Bool} {held : Bool} {fuel : Nat} {a : Option Addr} {n c : Nat} {x : DataW H × List MemPlace}
    (h : DataW.trod enc Try.prog w base spare held fuel 22 [.slice a n c] = some x) (hw : ∀ n ∈ x.1.weights Try.prog 22, n ≤ reachBytes) : ∃ ls, IsLines w a n c ls := open_lines h hw
end Go.Proofs.Ytediledehhcicaa.Ring

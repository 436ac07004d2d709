/-
  Operations that came in, opened.
-/
import Derived.Test.YtjicdcmdgbcdcaaGreatDoorCd2
import Derived.Test.YtjicdcmdgbcdcaaGreatDoorCd22
import Derived.Lib.SmallJoins
import Derived.ProofKit
import Derived.OpenShut
import Derived.Deep.Slices
section
namespace Go.Proofs.YtjicdcmdgbcdcaaGreatDoor.Scr
set_option linter.unusedSimpArgs false
set_option linter.unusedVariables false
open Go Go.RowKit Mem Turn Ring Go.ChangeShapes Go.WideShapes Go.Deep

instance : Inhabited OpC := ⟨⟨0, 0, 0, []⟩⟩
theorem add_nn (b off n : Nat) : (Addr.mk b off none).add n = ⟨b, off + n, none⟩ := by
  unfold Addr.add
  split <;> simp_all
/-- an operation's numbers are int's, its bytes are bytes -/
structure OpRng (o : OpC) : Prop where
  a1 : -9223372036854775808 ≤ o.a
  a2 : o.a ≤ 9223372036854775807
  bs : ∀ r ∈ o.bytes, 0 ≤ r ∧ r ≤ 255
  len : o.bytes.length ≤ 140737488351232

/-- the slice (a, n, c) holds the operations ops -/
def IsOps (w : World) (a : Option Addr) (n c : Nat) (ops : List OpC) : Prop :=
  ops.length = n ∧ n ≤ c ∧ n ≤ 4398046511104 ∧ (∀ o ∈ ops, OpRng o) ∧ (n = 0 ∨ ∃ b off, a = some ⟨b, off, none⟩ ∧ b < w.heap.size ∧ ∀ j o, ops[j]? = some o →
    w.cell? ⟨b, off + j * 4, none⟩ = some (.int .i64 o.kind) ∧ w.cell? ⟨b, off + j * 4 + 1, none⟩ = some (.int .i64 o.a) ∧ w.cell? ⟨b, off + j * 4 + 2, none⟩ = some (.int .i64 o.b) ∧
    ∃ ba bc, w.cell? ⟨b, off + j * 4 + 3, none⟩ = some (.slice ba o.bytes.length bc) ∧ o.bytes.length ≤ bc ∧ Same.Ints .u8 w ba o.bytes.length o.bytes)

theorem IsOps.below {w w' : World} {a : Option Addr} {n c : Nat} {ops : List OpC} (h : IsOps w a n c ops) (hb : Below w.heap.size w w') : IsOps w' a n c ops := by
  obtain ⟨h1, h2, h3, h4, h5⟩ := h
  refine ⟨h1, h2, h3, h4, h5.imp_right ?_⟩
  rintro ⟨b, off, e, hl, hc⟩
  refine ⟨b, off, e, Nat.lt_of_lt_of_le hl hb.size, fun j o ho => ?_⟩
  obtain ⟨c0, c1, c2, ba, bc, c3, c4, c5⟩ := hc j o ho
  exact ⟨(hb.cell (p := ⟨b, off + j * 4, none⟩) hl).trans c0, (hb.cell (p := ⟨b, off + j * 4 + 1, none⟩) hl).trans c1, (hb.cell (p := ⟨b, off + j * 4 + 2, none⟩) hl).trans c2, ba, bc, (hb.cell (p := ⟨b, off + j * 4 + 3, none⟩) hl).trans c3, c4, c5.below hb⟩

theorem weights_all_in {H : Type} {P : Program} {e : TypeId} {n : Nat} {d : DataW H} : ∀ {ds : List (DataW H)}, d ∈ ds → n ∈ d.weights P e → n ∈ DataW.weightsAll P e ds
  | x :: ds, h, hn => by
    simp only [DataW.weightsAll, List.mem_append]
    rcases List.mem_cons.1 h with rfl | h
    · exact .inl hn
    · exact .inr (weights_all_in h hn)
set_option maxRecDepth 100000 in
theorem open_bytes {H : Type} {enc : TypeId × Value → H} {w : World} {base : Nat} {spare : Nat → Bool} {held : Bool} {fuel : Nat} {v : Value} {x : DataW H × List MemPlace}
    (h : DataW.trod enc Tryz.prog w base spare held fuel 28 [v] = some x) (hw : ∀ n ∈ x.1.weights Tryz.prog 28, n ≤ reachBytes) : ∃ a n c zs, v = .slice a n c ∧ zs.length = n ∧ n ≤ c ∧ n ≤ 140737488351232 ∧ (∀ r ∈ zs, 0 ≤ r ∧ r ≤ 255) ∧ Same.Ints .u8 w a n zs := by
  rcases open_ints Tryz.underlying28 Tryz.underlying5 (by kernel_rfl) h with ⟨hcs, _⟩ | ⟨a', l, c, zs, hcs, _, hl, hm, hz, rfl, hcell, hwz⟩
  · simp at hcs
    subst hcs
    exact ⟨_, _, _, [], rfl, rfl, Nat.le_refl _, by omega, by simp, rfl, .inl rfl⟩
  · simp at hcs
    subst hcs
    have hlz : l ≤ zs.length := by rw [hz]; split <;> omega
    have hlen : (zs.take l).length = l := by simp; omega
    have hb1 : Tryz.prog.bytesOf 5 = 1 := by kernel_rfl
    simp only [DataW.weights, Tryz.underlying28, hb1] at hw
    have hsz := hw _ List.mem_cons_self
    simp only [lits, List.length_map, hlen] at hsz
    unfold reachBytes at hsz
    refine ⟨_, _, _, zs.take l, rfl, hlen, hl, by omega, fun r hr => ?_, hlen, ?_⟩
    · have := hwz r (List.mem_of_mem_take hr)
      simp [Lit.wf, IntKind.min, IntKind.max, IntKind.signed, IntKind.bits] at this
      exact this
    · rcases Nat.eq_zero_or_pos l with h0 | h0
      · exact .inl h0
      · obtain ⟨b, off, spot⟩ := a'
        have hc0 := hcell 0 (by omega)
        have hspot : spot = none := by simpa [Addr.add] using World.cell?_spot hc0
        subst hspot
        have hbl : b < w.heap.size := by
          have := World.block_lt_of_cell? _ _ hc0
          simpa [Addr.add] using this
        refine .inr ⟨b, off, rfl, hbl, fun i y hi => ?_⟩
        have hil : i < l := by
          have := (List.getElem?_eq_some_iff.1 hi).1
          simp at this; omega
        have hc := hcell i (by omega)
        rw [add_nn] at hc
        rw [hc]
        rw [List.getElem?_take, if_pos hil] at hi
        simp [List.getD_eq_getElem?_getD, hi]

set_option maxRecDepth 100000 in
theorem open_ops {H : Type} {enc : TypeId × Value → H} {w : World} {base : Nat} {spare : Nat → Bool} {held : Bool} {fuel : Nat} {a : Option Addr} {n c : Nat} {x : DataW H × List MemPlace}
    (h : DataW.trod enc Tryz.prog w base spare held fuel 24 [.slice a n c] = some x) (hw : ∀ n ∈ x.1.weights Tryz.prog 24, n ≤ reachBytes) : ∃ ops, IsOps w a n c ops := by
  have hB : Tryz.prog.bytesOf 30 = 48 := by kernel_rfl
  rcases open_slice Tryz.underlying24 h with ⟨hcs, _⟩ | ⟨a', len', cap', m, nn, D, Pl, hcs, hb, hl, hm, hmm, rfl, hi⟩
  · simp at hcs
    obtain ⟨rfl, rfl, rfl⟩ := hcs
    exact ⟨[], rfl, Nat.le_refl _, by omega, by simp, .inl rfl⟩
  · simp at hcs
    obtain ⟨rfl, rfl, rfl⟩ := hcs
    have hC : Tryz.prog.cellsOf 30 = 4 := by kernel_rfl
    have hI : Tryz.prog.cellsOf 3 = 1 := by kernel_rfl
    have hS : Tryz.prog.cellsOf 28 = 1 := by kernel_rfl
    have hlm : n ≤ m := by rw [hmm]; split <;> omega
    have hsz := hw ((((List.range n).map D).length + ((List.range (m - n)).map fun j => D (n + j)).length) * Tryz.prog.bytesOf 30) (by simp [DataW.weights, Tryz.underlying24])
    simp only [List.length_map, List.length_range, hB] at hsz
    unfold reachBytes at hsz
    have hn4 : n ≤ 4398046511104 := by omega
    have key : ∀ i, i < n → ∃ o : OpC, OpRng o ∧ w.cell? (a'.add (i * 4)) = some (.int .i64 o.kind) ∧ w.cell? (a'.add (i * 4 + 1)) = some (.int .i64 o.a) ∧ w.cell? (a'.add (i * 4 + 2)) = some (.int .i64 o.b) ∧
        ∃ ba bc, w.cell? (a'.add (i * 4 + 3)) = some (.slice ba o.bytes.length bc) ∧ o.bytes.length ≤ bc ∧ Same.Ints .u8 w ba o.bytes.length o.bytes := by
      intro i hlt
      obtain ⟨cs, hc, ht⟩ := hi i (by omega)
      rw [hC] at hc
      obtain ⟨_, hcl, hat⟩ := World.cells?_some hc
      have hwi : ∀ n ∈ (D i).weights Tryz.prog 30, n ≤ reachBytes := fun k hk => hw k (by
        simp only [DataW.weights, Tryz.underlying24]
        exact List.mem_cons_of_mem _ (List.mem_append.2 (.inl (weights_all_in (List.mem_map.2 ⟨i, List.mem_range.2 hlt, rfl⟩) hk))))
      obtain ⟨y0, y1, y2, y3, m', hx, _, g0, g1, g2, g3⟩ := Go.Joins.trod_struct4 Tryz.underlying30 ht
      match cs, hcl with
      | [v0, v1, v2, v3], _ =>
        simp [hI, hS] at g0 g1 g2 g3
        obtain ⟨k0, e0, _, r0⟩ := DataW.trod_int Tryz.underlying3 g0
        obtain ⟨k1, e1, _, r1⟩ := DataW.trod_int Tryz.underlying3 g1
        obtain ⟨k2, e2, _, r2⟩ := DataW.trod_int Tryz.underlying3 g2
        simp at e0 e1 e2
        subst e0 e1 e2
        obtain ⟨ba, bn, bc, zs, rfl, hzl, hbc, hbn, hz, hin⟩ := open_bytes g3 (fun k hk => hwi k (by
          injection hx with hx _
          rw [hx]
          simp only [DataW.weights, Tryz.underlying30, DataW.weightsEach, List.map_cons, List.map_nil, List.mem_append]
          exact .inr (.inr (.inr (.inl hk)))))
        subst hzl
        have q0 := hat 0 (by omega)
        have q1 := hat 1 (by omega)
        have q2 := hat 2 (by omega)
        have q3 := hat 3 (by omega)
        rw [Go.Deep.add_add] at q0 q1 q2 q3
        simp [Lit.wf, IntKind.min, IntKind.max, IntKind.signed, IntKind.bits] at r1
        exact ⟨⟨k0, k1, k2, zs⟩, ⟨by simp only; omega, by simp only; omega, hz, hbn⟩, q0, q1, q2, ba, bc, q3, hbc, hin⟩
    rcases Nat.eq_zero_or_pos n with h0 | h0
    · subst h0
      exact ⟨[], rfl, by omega, by omega, by simp, .inl rfl⟩
    · obtain ⟨b, off, spot⟩ := a'
      obtain ⟨_, _, q0, _⟩ := key 0 h0
      have hspot : spot = none := by simpa [Addr.add] using World.cell?_spot q0
      subst hspot
      have hbw : b < w.heap.size := World.block_lt_of_cell? _ _ q0
      obtain ⟨Z, hZ⟩ := choose_lt (α := OpC) (n := n) (p := fun i o => OpRng o ∧ w.cell? ⟨b, off + i * 4, none⟩ = some (.int .i64 o.kind) ∧ w.cell? ⟨b, off + i * 4 + 1, none⟩ = some (.int .i64 o.a) ∧ w.cell? ⟨b, off + i * 4 + 2, none⟩ = some (.int .i64 o.b) ∧
        ∃ ba bc, w.cell? ⟨b, off + i * 4 + 3, none⟩ = some (.slice ba o.bytes.length bc) ∧ o.bytes.length ≤ bc ∧ Same.Ints .u8 w ba o.bytes.length o.bytes) (fun i hlt => by
          have := key i hlt
          simpa only [add_nn, Nat.add_assoc] using this)
      refine ⟨(List.range n).map Z, by simp, hl, hn4, fun o ho => ?_, .inr ⟨b, off, rfl, hbw, fun j z hz => ?_⟩⟩
      · obtain ⟨i, hi, rfl⟩ := List.mem_map.1 ho
        exact (hZ i (List.mem_range.1 hi)).1
      · have hin : j < n := by simpa using (List.getElem?_eq_some_iff.1 hz).1
        rw [List.getElem?_map, List.getElem?_range hin] at hz
        simp at hz
        subst hz
        exact (hZ j hin).2
end Go.Proofs.YtjicdcmdgbcdcaaGreatDoor.Scr
end

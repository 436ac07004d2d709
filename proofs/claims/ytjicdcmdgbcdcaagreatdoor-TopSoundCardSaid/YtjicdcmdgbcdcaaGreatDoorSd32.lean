/-
  grid.New, place.New.
  Operations that came in, opened.
-/
import Derived.Test.YtjicdcmdgbcdcaaGreatDoorSd2
import Derived.Test.YtjicdcmdgbcdcaaGreatDoorSd28
import Derived.Test.YtjicdcmdgbcdcaaGreatDoorSd30
import Derived.Lib.SmallJoins
import Derived.ProofKit
import Derived.OpenShut
import Derived.Deep.Slices
section
namespace Go.Proofs.YtjicdcmdgbcdcaaGreatDoor.Scr
set_option linter.unusedSimpArgs false
set_option linter.unusedVariables false
open Go Go.RowKit Mem Turn Ring

/-- what the rounds of grid.New leave -/
def GNew (w : World) (γ W k : Nat) (wx : World) : Prop :=
  ∃ (v : Value) (Q : List (Nat × Nat)), wx.heap[γ]? = some (.cells #[v] 137 (0, 0)) ∧ wx.ownsRow w.heap.size 128 1 v k ((Q.map (·.1)).map ptr) ∧ Q.length = k ∧
    RowsAt wx (fun b => w.heap.size ≤ b) Q (List.replicate k (blanks W, false)) W ∧ Below w.heap.size w wx

set_option maxRecDepth 100000 in
set_option maxHeartbeats 16000000 in
theorem gnew_any (wd ht : Int) (w : World) :
    Calls Tryz.prog 65 #[.int .i64 wd, .int .i64 ht] w fun e w' => e = .returned (ptr w.heap.size) ∧ GNew w w.heap.size (sizeW wd) (sizeW ht) w' := by
  have hmx : Tryz.prog.follows .mixedOrders = true := by kernel_rfl
  obtain ⟨i0, hi, hz0, hz1, hz2⟩ := info_parts info_ptr
  obtain ⟨z, hz⟩ : ∃ z : Int, z = max 1 (min ht 1024) := ⟨_, rfl⟩
  have hm : (sizeW ht : Int) = z := by unfold sizeW; omega
  have hW := sizeW_rng wd
  have HW : Hid ((sizeW wd : Int) = max 1 (min wd 1024)) := Lib.hid (by unfold sizeW; omega)
  generalize sizeW wd = W at *
  generalize sizeW ht = m at *
  have HLT : Hid (∀ k : Nat, k < m → (k : Int) < z) := Lib.hid fun k h => by omega
  have HGE : Hid (∀ k : Nat, ¬ k < m → ¬ (k : Int) < z) := Lib.hid fun k h => by omega
  have hm1 : m ≤ 1024 := by omega
  have HSW := Lib.hid hW
  have e1 := heap_alloc_new w (.cells #[.slice none 0 0] 137)
  have hb1 : Below w.heap.size w (w.alloc (.cells #[.slice none 0 0] 137)) := (Below.refl _ _).alloc (Nat.le_refl _) _
  have HE := Lib.hid e1
  have HB := Lib.hid hb1
  have hc : (ht ≤ 1 ∧ z = 1) ∨ (1 < ht ∧ ht ≤ 1024 ∧ z = ht) ∨ (1024 < ht ∧ z = 1024) := by omega
  clear hm hz e1 hb1 hW
  rcases hc with ⟨h1, rfl⟩ | ⟨h1, h2, rfl⟩ | ⟨h1, rfl⟩
  all_goals
    go_enter Tryz.func65, Tryz.ntmps65
    go_wp2_with fail
    try clear h2
    clear h1
    go_loopg [11] m (fun gg i wx => ∃ k : Nat, m - k = gg ∧ k ≤ m ∧ i = .int .i64 k ∧ Hid (GNew w w.heap.size W k wx))
    case atStart => exact ⟨0, rfl, Nat.zero_le _, rfl, Lib.hid ⟨_, [], HE.out, World.ownsRow_nil _ _ _ _, rfl, RowsAt.nil _ _ _, HB.out⟩⟩
    case round =>
      obtain ⟨k, rfl, hk, rfl, H⟩ := hrel
      by_cases hlt : k < m
      · have hlt' := HLT.out k hlt
        obtain ⟨v, Q, hg, ho, hql, hrs, hb⟩ := H.out
        obtain ⟨av, cv, hav⟩ := Turn.own_slice ho
        subst hav
        have g0 : wr.cell? ⟨w.heap.size, 0, none⟩ = some (.slice av k cv) := by simp [World.cell?, hg]
        have HG := Lib.hid hg
        have HO := Lib.hid ho
        have HQL := Lib.hid hql
        have HRS := Lib.hid hrs
        have HBR := Lib.hid hb
        have hsz := hb.size
        have hgl : w.heap.size < wr.heap.size := (Array.getElem?_eq_some_iff.1 hg).1
        clear hg ho hql hrs hb H
        go_upto_region 4 with fail
        refine region_begin3 (fun w' => w'.cell? ⟨w.heap.size, 0, none⟩ = some (.slice av k cv)) (fun j => j == 11) 12 rfl hmx (by intro _ _ d _ _ h; cases d <;> exact h) fun hQP => ?_
        have hS : wr.drew.cell? ⟨w.heap.size, 0, none⟩ = some (.slice av k cv) := g0
        have HD : Hid (Below wr.heap.size wr wr.drew) := Lib.hid (Below.refl _ _).drew
        clear g0
        have HN := Lib.hid (new_any wd W HW.out wr.drew)
        have HD2 : Hid (wr.drew.heap.size = wr.heap.size) := Lib.hid rfl
        generalize wr.drew = w1 at *
        refine take_f 0 13 rfl rfl (by kernel_rfl) (by kernel_rfl) (by kernel_rfl) (by kernel_rfl) hQP hS (.inl ⟨by kernel_rfl, fun w' hw' => by go_simp; try with_reducible rfl⟩) ?_
        refine take_f 1 14 rfl rfl (by kernel_rfl) (by kernel_rfl) (by kernel_rfl) (by kernel_rfl) hQP hS (.inl ⟨by kernel_rfl, fun w' hw' => by go_simp; try with_reducible rfl⟩) ?_
        refine take_f 2 15 rfl rfl (by kernel_rfl) (by kernel_rfl) (by kernel_rfl) (by kernel_rfl) hQP hS (.inl ⟨by kernel_rfl, fun w' hw' => by go_simp; try with_reducible rfl⟩) ?_
        refine take_f 3 16 rfl rfl (by kernel_rfl) (by kernel_rfl) (by kernel_rfl) (by kernel_rfl) hQP hS (.inl ⟨by kernel_rfl, fun w' hw' => by go_simp; try with_reducible rfl⟩) ?_
        refine take_f 4 17 rfl rfl (by kernel_rfl) (by kernel_rfl) (by kernel_rfl) (by kernel_rfl) hQP hS (.inl ⟨by kernel_rfl, fun w' hw' => by go_simp; try with_reducible rfl⟩) ?_
        refine take_f 5 18 rfl rfl (by kernel_rfl) (by kernel_rfl) (by kernel_rfl) (by kernel_rfl) hQP hS (.inl ⟨by kernel_rfl, fun w' hw' => by go_simp; try with_reducible rfl⟩) ?_
        try simp only [List.setIfInBounds_toArray, List.set_cons_succ, List.set_cons_zero]
        refine take_g (i := 6) (by kernel_rfl) rfl (by kernel_rfl) fun KQ hK => ?_
        go_wp2_with fail
        refine HN.out.mono ?_
        rintro e w2 ⟨rfl, hr2, hb2, hs2⟩
        have HR2 := Lib.hid hr2
        have HB2 := Lib.hid hb2
        have HB12 : Hid (Below wr.heap.size wr w2) := Lib.hid (HD.out.trans (hb2.mono HD.out.size))
        have hw1 : w1.heap.size = wr.heap.size := HD2.out
        have HS2 : Hid (w2.heap.size = wr.heap.size + 2) := Lib.hid (by rw [← hw1]; exact hs2)
        have T2 : Turn (fun _ => False) w1 w2 := Turn.of_new hb2
        have hS : w2.cell? ⟨w.heap.size, 0, none⟩ = some (.slice av k cv) := T2.cell hS id
        refine hK _ _ (.inr hS) ?_
        rw [hw1] at HR2 ⊢
        clear hK hr2 hb2 hs2 T2 HN hw1
        refine take_g (i := 7) (by kernel_rfl) rfl (by kernel_rfl) fun KQ hK => ?_
        go_wp2_with fail
        have T3 : Turn (fun _ => False) w2 (w2.alloc (.cells #[ptr (wr.heap.size + 1)] 128)) := Turn.alloc _ _ _
        have hS : (w2.alloc (.cells #[ptr (wr.heap.size + 1)] 128)).cell? ⟨w.heap.size, 0, none⟩ = some (.slice av k cv) := T3.cell hS id
        refine hK _ _ (.inr hS) ?_
        clear hK
        have hnews : ∀ j u, [ptr (wr.heap.size + 1)][j]? = some u → (w2.alloc (.cells #[ptr (wr.heap.size + 1)] 128)).cell? ((⟨w2.heap.size, 0, none⟩ : Addr).add j) = some u := cell_new1 _ _ _
        have hown3 := ((Turn.of_new HB12.out : Turn (fun _ => False) wr w2).trans T3).kept HO.out (fun _ _ => id)
        have HT3 := Lib.hid T3
        have hb3 : w.heap.size ≤ (w2.alloc (.cells #[ptr (wr.heap.size + 1)] 128)).heap.size := by have := T3.size; have := HS2.out; omega
        clear T3
        generalize (w2.alloc (.cells #[ptr (wr.heap.size + 1)] 128)) = w3 at *
        refine take_append_at 8 21 (by kernel_rfl) rfl rfl rfl (.tmp 17) (.tmp 20) 135 rfl w.heap.size 128 i0 _ 1 8 Tryz.underlying135 hi hz0 hz1 hz2 rfl (by decide) (.slice av k cv) k ((Q.map (·.1)).map ptr) (by rfl) hown3 ⟨w2.heap.size, 0, none⟩ 1 1 [ptr (wr.heap.size + 1)] (by rfl) rfl hnews (by simp [Value.oneCell']) (by unfold maxLen; omega) (by omega) hb3 ?_
        intro v6 w6 hown6 hgrow6 _
        have hs9 : ∀ g, (Value.slice av k cv).ownBlock = some g → Typ w3 128 g := fun g hg => owns_typ hown3 hg
        have T6 : Turn (fun j => (Value.slice av k cv).ownBlock = some j) w3 w6 := Turn.of_grown hgrow6 (fun g e => e)
        have hg3 : w3.heap[w.heap.size]? = some (.cells #[.slice av k cv] 137 (0, 0)) := HT3.out.heap ((Turn.of_new HB12.out : Turn (fun _ => False) wr w2).heap HG.out id) id
        have hnγ : ¬ (Value.slice av k cv).ownBlock = some w.heap.size := fun e => (hs9 _ e).not (by decide) ⟨_, _, hg3⟩
        have hg6 := T6.heap hg3 hnγ
        have hS : w6.cell? ⟨w.heap.size, 0, none⟩ = some (.slice av k cv) := T6.cell hS hnγ
        refine ⟨.inr hS, ?_⟩
        have f6 : w6.frozen? ⟨w.heap.size, 0, none⟩ = false := by simp [World.frozen?, hg6]
        have HX : Hid (GNew w w.heap.size W (k + 1) (w6.setCell ⟨w.heap.size, 0, none⟩ v6)) := Lib.hid (by
          have hf6 : Free (fun j => (Value.slice av k cv).ownBlock = some j) w3 21 := fun b hb _ => (hs9 b hb).not (by decide)
          have hrsA := (HRS.out.below HB12.out).turn HT3.out (Free.no _ _) (fun _ _ => ⟨id, id⟩)
          have hr2A := HR2.out.turn HT3.out (Free.no _ _) id id
          have hd : ∀ p ∈ Q, p.1 < wr.heap.size ∧ p.2 < wr.heap.size := fun p hp => by
            obtain ⟨i, hi⟩ := List.getElem?_of_mem hp
            obtain ⟨l, _, h1, _⟩ := HRS.out.line hi
            exact ⟨h1.typ.lt, h1.cells.typ.lt⟩
          have hone : RowsAt w3 (fun b => w.heap.size ≤ b) [(wr.heap.size + 1, wr.heap.size)] [(blanks W, false)] W := by
            refine ⟨rfl, fun i p l hp hl => ?_, fun i j p q hp hq hne => ?_⟩
            · have hi0 : i = 0 := by have := (List.getElem?_eq_some_iff.1 hp).1; simp at this; exact this
              subst hi0
              simp at hp hl
              subst hp hl
              exact ⟨hr2A, by simp [blanks], by omega, hsz⟩
            · have h1 := (List.getElem?_eq_some_iff.1 hp).1
              have h2 := (List.getElem?_eq_some_iff.1 hq).1
              simp at h1 h2
              omega
          have happ := hrsA.app hone (fun p hp q hq => by
            simp at hq
            subst hq
            have := hd p hp
            exact ⟨by simp only; omega, by simp only; omega⟩)
          have happ6 := happ.turn T6 hf6 (fun p hp => by
            obtain ⟨i, hi⟩ := List.getElem?_of_mem hp
            obtain ⟨l, _, h1, _⟩ := happ.line hi
            exact ⟨fun e => (hs9 _ e).not (by decide) h1.typ, fun e => (hs9 _ e).not (by decide) h1.cells.typ⟩)
          have T7 : Turn (fun b => b = w.heap.size) w6 (w6.setCell ⟨w.heap.size, 0, none⟩ v6) := Turn.setCell _ _ rfl
          have hfr : Free (fun b => b = w.heap.size) w6 21 := fun b e _ => by subst e; exact Typ.not ⟨_, _, hg6⟩ (by decide)
          refine ⟨v6, Q ++ [(wr.heap.size + 1, wr.heap.size)], ?_, T7.kept (by simpa using hown6) (fun g hg e => ?_), by simp [HQL.out], ?_, ?_⟩
          · have := heap_set1 (cs := [.slice av k cv]) hg6 0 v6
            simpa using this
          · subst e
            exact (owns_typ hown6 hg).not (by decide) ⟨_, _, hg6⟩
          · rw [List.replicate_succ']
            exact happ6.turn T7 hfr (fun p hp => by
              obtain ⟨i, hi⟩ := List.getElem?_of_mem hp
              obtain ⟨l, _, h1, _⟩ := happ6.line hi
              exact ⟨fun e => by rw [e] at h1; exact h1.typ.not (by decide) ⟨_, _, hg6⟩, fun e => by have h2 := h1.cells.typ; rw [e] at h2; exact h2.not (by decide) ⟨_, _, hg6⟩⟩)
          · have b3 : Below w.heap.size w w3 := (HBR.out.trans (HB12.out.mono hsz)).trans (HT3.out.below (by have := HB12.out.size; omega) (fun _ h => h.elim))
            exact (b3.trans (T6.below b3.size (fun j e => (hown3.lt j e).1))).trans (T7.below (by have := b3.size; have := T6.size; omega) (fun j e => by omega)))
        obtain ⟨a6, c6, rfl⟩ := Turn.own_slice hown6
        clear hown6 hgrow6 hs9 T6 hg3 hnγ hg6 hown3 hnews HT3 HR2 HRS HO HG HBR
        refine take_g (i := 9) (by kernel_rfl) rfl (by kernel_rfl) fun KQ hK => ?_
        go_wp2_with fail
        refine hK _ _ (.inr hS) ?_
        clear hK
        refine take_f 10 23 rfl rfl (by kernel_rfl) (by kernel_rfl) (by kernel_rfl) (by kernel_rfl) hQP hS (.inl ⟨by kernel_rfl, fun w' hw' => by go_simp; try with_reducible rfl⟩) ?_
        refine take_g (i := 11) (by kernel_rfl) rfl (by kernel_rfl) fun KQ hK => ?_
        go_wp2_with fail
        refine hK _ _ (.inl rfl) ?_
        clear hK hS f6
        generalize (w6.setCell ⟨w.heap.size, 0, none⟩ (.slice a6 (k + 1) c6)) = w7 at *
        refine take_done (by kernel_rfl) ?_ _
        try simp only [List.setIfInBounds_toArray, List.set_cons_succ, List.set_cons_zero]
        go_wp2_with fail
        go_roundg (m - (k + 1))
        case measure => omega
        case rel => exact ⟨k + 1, rfl, by omega, by go_num, HX⟩
      · have hlt' := HGE.out k hlt
        obtain rfl : k = m := by omega
        have HF := Lib.hid H.out
        go_wp2_with fail
        go_ret
        exact ⟨rfl, HF.out⟩

/-- a new grid: its rows, of its own -/
theorem GNew.grid {w wx : World} {W k : Nat} (h : GNew w w.heap.size W k wx) (hk : 1 ≤ k) (hk2 : k ≤ 1024) : ∃ β Q, GridAt wx w.heap.size β (Q.map (·.1)) ∧ RowsAt wx (fun b => w.heap.size ≤ b) Q (List.replicate k (blanks W, false)) W ∧ w.heap.size ≤ β ∧ Below w.heap.size w wx := by
  obtain ⟨v, Q, h1, ⟨hl, ho⟩, h3, h4, h5⟩ := h
  rcases ho with ⟨_, h0⟩ | ⟨g, cap, cur, rfl, hb, hg, hc, _, hs, ht⟩
  · omega
  have hQ : (Q.map (·.1)).length = k := by rw [List.length_map, h3]
  refine ⟨g, Q, ⟨⟨cap, by rw [hQ]; exact hc, by rw [hQ]; exact h1⟩, ⟨cur.toList.drop k, ?_⟩, by rw [hQ]; exact hk, by rw [hQ]; exact hk2⟩, h4, hb, h5⟩
  rw [hg, ← ht, Nat.mul_one, List.take_append_drop]

/-- NEW PENS -/
theorem pnew_any (wd ht : Int) (w : World) :
    Calls Tryz.prog 28 #[.int .i64 wd, .int .i64 ht] w fun e w' => ∃ π, e = .returned (ptr π) ∧ PenAt w' (fun b => w.heap.size ≤ b) π (newS wd ht).f.pen (sizeW wd) ∧ Below w.heap.size w w' := by
  have HG := Lib.hid (gnew_any wd ht w)
  have hW := sizeW_rng wd
  have hH := sizeW_rng ht
  go_enter Tryz.func28, Tryz.ntmps28
  go_wp2_with fail
  refine HG.out.mono ?_
  rintro e w2 ⟨rfl, hg⟩
  obtain ⟨β, Q, h1, h2, h3, h4⟩ := hg.grid hH.1 hH.2
  have hs := h4.size
  have T : Turn (fun _ => False) w2 (w2.alloc (.cells #[ptr w.heap.size, .int .i64 0, .int .i64 0, .bool false, .bool true] 92)) := Turn.alloc _ _ _
  have e2 := heap_alloc_new w2 (.cells #[ptr w.heap.size, .int .i64 0, .int .i64 0, .bool false, .bool true] 92)
  have HF : Hid (PenAt (w2.alloc (.cells #[ptr w.heap.size, .int .i64 0, .int .i64 0, .bool false, .bool true] 92)) (fun b => w.heap.size ≤ b) w2.heap.size (newS wd ht).f.pen (sizeW wd) ∧ Below w.heap.size w (w2.alloc (.cells #[ptr w.heap.size, .int .i64 0, .int .i64 0, .bool false, .bool true] 92))) := Lib.hid
    ⟨⟨w.heap.size, β, Q, ⟨e2, h1.turn T id id, h2.turn T (Free.no _ _) (fun _ _ => ⟨id, id⟩), hs, Nat.le_refl _, h3, hW.1, hW.2⟩⟩, h4.trans (T.below hs (fun _ h => h.elim))⟩
  clear hg h1 h2 h3 h4 T e2
  go_wp2_with fail
  go_ret
  exact ⟨_, rfl, HF.out⟩
end Go.Proofs.YtjicdcmdgbcdcaaGreatDoor.Scr
end
section
namespace Go.Proofs.YtjicdcmdgbcdcaaGreatDoor.Scr
set_option linter.unusedSimpArgs false
set_option linter.unusedVariables false
open Go Go.RowKit Mem Turn Ring Go.ChangeShapes Go.WideShapes Go.Deep

instance : Inhabited OpC := ⟨⟨0, 0, 0, []⟩⟩
theorem add_nn (b off n : Nat) : (Addr.mk b off none).add n = ⟨b, off + n, none⟩ := by
  unfold Addr.add
  split <;> simp_all
/-- an operation's numbers are int's, its bytes are bytes -/
structure OpRng (o : OpC) : Prop where
  a1 : -9223372036854775808 ≤ o.a
  a2 : o.a ≤ 9223372036854775807
  bs : ∀ r ∈ o.bytes, 0 ≤ r ∧ r ≤ 255
  len : o.bytes.length ≤ 9223372036854775807

/-- the slice (a, n, c) holds the operations ops -/
def IsOps (w : World) (a : Option Addr) (n c : Nat) (ops : List OpC) : Prop :=
  ops.length = n ∧ n ≤ c ∧ n ≤ 4398046511104 ∧ (∀ o ∈ ops, OpRng o) ∧ (n = 0 ∨ ∃ b off, a = some ⟨b, off, none⟩ ∧ b < w.heap.size ∧ ∀ j o, ops[j]? = some o →
    w.cell? ⟨b, off + j * 4, none⟩ = some (.int .i64 o.kind) ∧ w.cell? ⟨b, off + j * 4 + 1, none⟩ = some (.int .i64 o.a) ∧ w.cell? ⟨b, off + j * 4 + 2, none⟩ = some (.int .i64 o.b) ∧
    ∃ ba bc, w.cell? ⟨b, off + j * 4 + 3, none⟩ = some (.slice ba o.bytes.length bc) ∧ o.bytes.length ≤ bc ∧ Same.Ints .u8 w ba o.bytes.length o.bytes)

theorem IsOps.below {w w' : World} {a : Option Addr} {n c : Nat} {ops : List OpC} (h : IsOps w a n c ops) (hb : Below w.heap.size w w') : IsOps w' a n c ops := by
  obtain ⟨h1, h2, h3, h4, h5⟩ := h
  refine ⟨h1, h2, h3, h4, h5.imp_right ?_⟩
  rintro ⟨b, off, e, hl, hc⟩
  refine ⟨b, off, e, Nat.lt_of_lt_of_le hl hb.size, fun j o ho => ?_⟩
  obtain ⟨c0, c1, c2, ba, bc, c3, c4, c5⟩ := hc j o ho
  exact ⟨(hb.cell (p := ⟨b, off + j * 4, none⟩) hl).trans c0, (hb.cell (p := ⟨b, off + j * 4 + 1, none⟩) hl).trans c1, (hb.cell (p := ⟨b, off + j * 4 + 2, none⟩) hl).trans c2, ba, bc, (hb.cell (p := ⟨b, off + j * 4 + 3, none⟩) hl).trans c3, c4, c5.below hb⟩

set_option maxRecDepth 100000 in
theorem open_bytes {H : Type} {enc : TypeId × Value → H} {w : World} {base : Nat} {spare : Nat → Bool} {held : Bool} {fuel : Nat} {v : Value} {x : DataW H × List MemPlace}
    (h : DataW.trod enc Tryz.prog w base spare held fuel 28 [v] = some x) : ∃ a n c zs, v = .slice a n c ∧ zs.length = n ∧ n ≤ c ∧ n ≤ 9223372036854775807 ∧ (∀ r ∈ zs, 0 ≤ r ∧ r ≤ 255) ∧ Same.Ints .u8 w a n zs := by
  rcases open_ints Tryz.underlying28 Tryz.underlying5 (by kernel_rfl) h with ⟨hcs, _⟩ | ⟨a', l, c, zs, hcs, _, hl, hm, hz, _, hcell, hwz⟩
  · simp at hcs
    subst hcs
    exact ⟨_, _, _, [], rfl, rfl, Nat.le_refl _, by omega, by simp, rfl, .inl rfl⟩
  · simp at hcs
    subst hcs
    have hlz : l ≤ zs.length := by rw [hz]; split <;> omega
    have hlen : (zs.take l).length = l := by simp; omega
    unfold maxLen at hm
    refine ⟨_, _, _, zs.take l, rfl, hlen, hl, by omega, fun r hr => ?_, hlen, ?_⟩
    · have := hwz r (List.mem_of_mem_take hr)
      simp [Lit.wf, IntKind.min, IntKind.max, IntKind.signed, IntKind.bits] at this
      exact this
    · rcases Nat.eq_zero_or_pos l with h0 | h0
      · exact .inl h0
      · obtain ⟨b, off, spot⟩ := a'
        have hc0 := hcell 0 (by omega)
        have hspot : spot = none := by simpa [Addr.add] using World.cell?_spot hc0
        subst hspot
        have hbl : b < w.heap.size := by
          have := World.block_lt_of_cell? _ _ hc0
          simpa [Addr.add] using this
        refine .inr ⟨b, off, rfl, hbl, fun i y hi => ?_⟩
        have hil : i < l := by
          have := (List.getElem?_eq_some_iff.1 hi).1
          simp at this; omega
        have hc := hcell i (by omega)
        rw [add_nn] at hc
        rw [hc]
        rw [List.getElem?_take, if_pos hil] at hi
        simp [List.getD_eq_getElem?_getD, hi]

set_option maxRecDepth 100000 in
theorem open_ops {H : Type} {enc : TypeId × Value → H} {w : World} {base : Nat} {spare : Nat → Bool} {held : Bool} {fuel : Nat} {a : Option Addr} {n c : Nat} {x : DataW H × List MemPlace}
    (h : DataW.trod enc Tryz.prog w base spare held fuel 24 [.slice a n c] = some x) (hw : ∀ n ∈ x.1.weights Tryz.prog 24, n ≤ reachBytes) : ∃ ops, IsOps w a n c ops := by
  have hB : Tryz.prog.bytesOf 30 = 48 := by kernel_rfl
  rcases open_slice Tryz.underlying24 h with ⟨hcs, _⟩ | ⟨a', len', cap', m, nn, D, Pl, hcs, hb, hl, hm, hmm, rfl, hi⟩
  · simp at hcs
    obtain ⟨rfl, rfl, rfl⟩ := hcs
    exact ⟨[], rfl, Nat.le_refl _, by omega, by simp, .inl rfl⟩
  · simp at hcs
    obtain ⟨rfl, rfl, rfl⟩ := hcs
    have hC : Tryz.prog.cellsOf 30 = 4 := by kernel_rfl
    have hI : Tryz.prog.cellsOf 3 = 1 := by kernel_rfl
    have hS : Tryz.prog.cellsOf 28 = 1 := by kernel_rfl
    have hlm : n ≤ m := by rw [hmm]; split <;> omega
    have hsz := hw ((((List.range n).map D).length + ((List.range (m - n)).map fun j => D (n + j)).length) * Tryz.prog.bytesOf 30) (by simp [DataW.weights, Tryz.underlying24])
    simp only [List.length_map, List.length_range, hB] at hsz
    unfold reachBytes at hsz
    have hn4 : n ≤ 4398046511104 := by omega
    have key : ∀ i, i < n → ∃ o : OpC, OpRng o ∧ w.cell? (a'.add (i * 4)) = some (.int .i64 o.kind) ∧ w.cell? (a'.add (i * 4 + 1)) = some (.int .i64 o.a) ∧ w.cell? (a'.add (i * 4 + 2)) = some (.int .i64 o.b) ∧
        ∃ ba bc, w.cell? (a'.add (i * 4 + 3)) = some (.slice ba o.bytes.length bc) ∧ o.bytes.length ≤ bc ∧ Same.Ints .u8 w ba o.bytes.length o.bytes := by
      intro i hlt
      obtain ⟨cs, hc, ht⟩ := hi i (by omega)
      rw [hC] at hc
      obtain ⟨_, hcl, hat⟩ := World.cells?_some hc
      obtain ⟨y0, y1, y2, y3, m', _, _, g0, g1, g2, g3⟩ := Go.Joins.trod_struct4 Tryz.underlying30 ht
      match cs, hcl with
      | [v0, v1, v2, v3], _ =>
        simp [hI, hS] at g0 g1 g2 g3
        obtain ⟨k0, e0, _, r0⟩ := DataW.trod_int Tryz.underlying3 g0
        obtain ⟨k1, e1, _, r1⟩ := DataW.trod_int Tryz.underlying3 g1
        obtain ⟨k2, e2, _, r2⟩ := DataW.trod_int Tryz.underlying3 g2
        simp at e0 e1 e2
        subst e0 e1 e2
        obtain ⟨ba, bn, bc, zs, rfl, hzl, hbc, hbn, hz, hin⟩ := open_bytes g3
        subst hzl
        have q0 := hat 0 (by omega)
        have q1 := hat 1 (by omega)
        have q2 := hat 2 (by omega)
        have q3 := hat 3 (by omega)
        rw [Go.Deep.add_add] at q0 q1 q2 q3
        simp [Lit.wf, IntKind.min, IntKind.max, IntKind.signed, IntKind.bits] at r1
        exact ⟨⟨k0, k1, k2, zs⟩, ⟨by simp only; omega, by simp only; omega, hz, hbn⟩, q0, q1, q2, ba, bc, q3, hbc, hin⟩
    rcases Nat.eq_zero_or_pos n with h0 | h0
    · subst h0
      exact ⟨[], rfl, by omega, by omega, by simp, .inl rfl⟩
    · obtain ⟨b, off, spot⟩ := a'
      obtain ⟨_, _, q0, _⟩ := key 0 h0
      have hspot : spot = none := by simpa [Addr.add] using World.cell?_spot q0
      subst hspot
      have hbw : b < w.heap.size := World.block_lt_of_cell? _ _ q0
      obtain ⟨Z, hZ⟩ := choose_lt (α := OpC) (n := n) (p := fun i o => OpRng o ∧ w.cell? ⟨b, off + i * 4, none⟩ = some (.int .i64 o.kind) ∧ w.cell? ⟨b, off + i * 4 + 1, none⟩ = some (.int .i64 o.a) ∧ w.cell? ⟨b, off + i * 4 + 2, none⟩ = some (.int .i64 o.b) ∧
        ∃ ba bc, w.cell? ⟨b, off + i * 4 + 3, none⟩ = some (.slice ba o.bytes.length bc) ∧ o.bytes.length ≤ bc ∧ Same.Ints .u8 w ba o.bytes.length o.bytes) (fun i hlt => by
          have := key i hlt
          simpa only [add_nn, Nat.add_assoc] using this)
      refine ⟨(List.range n).map Z, by simp, hl, hn4, fun o ho => ?_, .inr ⟨b, off, rfl, hbw, fun j z hz => ?_⟩⟩
      · obtain ⟨i, hi, rfl⟩ := List.mem_map.1 ho
        exact (hZ i (List.mem_range.1 hi)).1
      · have hin : j < n := by simpa using (List.getElem?_eq_some_iff.1 hz).1
        rw [List.getElem?_map, List.getElem?_range hin] at hz
        simp at hz
        subst hz
        exact (hZ j hin).2
end Go.Proofs.YtjicdcmdgbcdcaaGreatDoor.Scr
end

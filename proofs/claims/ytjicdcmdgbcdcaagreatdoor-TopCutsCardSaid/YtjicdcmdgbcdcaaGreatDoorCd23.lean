/-
  grid.New, place.New.
  widen: Begin.
-/
import Derived.Test.YtjicdcmdgbcdcaaGreatDoorCd19
import Derived.Test.YtjicdcmdgbcdcaaGreatDoorCd22

section
namespace Go.Proofs.YtjicdcmdgbcdcaaGreatDoor.Scr
set_option linter.unusedSimpArgs false
set_option linter.unusedVariables false
open Go Go.RowKit Mem Turn Ring

/-- what the rounds of grid.New leave -/
def GNew (w : World) (γ W k : Nat) (wx : World) : Prop :=
  ∃ (v : Value) (Q : List (Nat × Nat)), wx.heap[γ]? = some (.cells #[v] 137 (0, 0)) ∧ wx.ownsRow w.heap.size 128 1 v k ((Q.map (·.1)).map ptr) ∧ Q.length = k ∧
    RowsAt wx (fun b => w.heap.size ≤ b) Q (List.replicate k (blanks W, false)) W ∧ Below w.heap.size w wx

set_option maxRecDepth 100000 in
set_option maxHeartbeats 16000000 in
theorem gnew_any (wd ht : Int) (w : World) :
    Calls Tryz.prog 65 #[.int .i64 wd, .int .i64 ht] w fun e w' => e = .returned (ptr w.heap.size) ∧ GNew w w.heap.size (sizeW wd) (sizeW ht) w' := by
  have hmx : Tryz.prog.follows .mixedOrders = true := by kernel_rfl
  obtain ⟨i0, hi, hz0, hz1, hz2⟩ := info_parts info_ptr
  obtain ⟨z, hz⟩ : ∃ z : Int, z = max 1 (min ht 1024) := ⟨_, rfl⟩
  have hm : (sizeW ht : Int) = z := by unfold sizeW; omega
  have hW := sizeW_rng wd
  have HW : Hid ((sizeW wd : Int) = max 1 (min wd 1024)) := Lib.hid (by unfold sizeW; omega)
  generalize sizeW wd = W at *
  generalize sizeW ht = m at *
  have HLT : Hid (∀ k : Nat, k < m → (k : Int) < z) := Lib.hid fun k h => by omega
  have HGE : Hid (∀ k : Nat, ¬ k < m → ¬ (k : Int) < z) := Lib.hid fun k h => by omega
  have hm1 : m ≤ 1024 := by omega
  have HSW := Lib.hid hW
  have e1 := heap_alloc_new w (.cells #[.slice none 0 0] 137)
  have hb1 : Below w.heap.size w (w.alloc (.cells #[.slice none 0 0] 137)) := (Below.refl _ _).alloc (Nat.le_refl _) _
  have HE := Lib.hid e1
  have HB := Lib.hid hb1
  have hc : (ht ≤ 1 ∧ z = 1) ∨ (1 < ht ∧ ht ≤ 1024 ∧ z = ht) ∨ (1024 < ht ∧ z = 1024) := by omega
  clear hm hz e1 hb1 hW
  rcases hc with ⟨h1, rfl⟩ | ⟨h1, h2, rfl⟩ | ⟨h1, rfl⟩
  all_goals
    go_enter Tryz.func65, Tryz.ntmps65
    go_wp2_with fail
    try clear h2
    clear h1
    go_loopg [11] m (fun gg i wx => ∃ k : Nat, m - k = gg ∧ k ≤ m ∧ i = .int .i64 k ∧ Hid (GNew w w.heap.size W k wx))
    case atStart => exact ⟨0, rfl, Nat.zero_le _, rfl, Lib.hid ⟨_, [], HE.out, World.ownsRow_nil _ _ _ _, rfl, RowsAt.nil _ _ _, HB.out⟩⟩
    case round =>
      obtain ⟨k, rfl, hk, rfl, H⟩ := hrel
      by_cases hlt : k < m
      · have hlt' := HLT.out k hlt
        obtain ⟨v, Q, hg, ho, hql, hrs, hb⟩ := H.out
        obtain ⟨av, cv, hav⟩ := Turn.own_slice ho
        subst hav
        have g0 : wr.cell? ⟨w.heap.size, 0, none⟩ = some (.slice av k cv) := by simp [World.cell?, hg]
        have HG := Lib.hid hg
        have HO := Lib.hid ho
        have HQL := Lib.hid hql
        have HRS := Lib.hid hrs
        have HBR := Lib.hid hb
        have hsz := hb.size
        have hgl : w.heap.size < wr.heap.size := (Array.getElem?_eq_some_iff.1 hg).1
        clear hg ho hql hrs hb H
        go_upto_region 4 with fail
        refine region_begin3 (fun w' => w'.cell? ⟨w.heap.size, 0, none⟩ = some (.slice av k cv)) (fun j => j == 11) 12 rfl hmx (by intro _ _ d _ _ h; cases d <;> exact h) fun hQP => ?_
        have hS : wr.drew.cell? ⟨w.heap.size, 0, none⟩ = some (.slice av k cv) := g0
        have HD : Hid (Below wr.heap.size wr wr.drew) := Lib.hid (Below.refl _ _).drew
        clear g0
        have HN := Lib.hid (new_any wd W HW.out wr.drew)
        have HD2 : Hid (wr.drew.heap.size = wr.heap.size) := Lib.hid rfl
        generalize wr.drew = w1 at *
        refine take_f 0 13 rfl rfl (by kernel_rfl) (by kernel_rfl) (by kernel_rfl) (by kernel_rfl) hQP hS (.inl ⟨by kernel_rfl, fun w' hw' => by go_simp; try with_reducible rfl⟩) ?_
        refine take_f 1 14 rfl rfl (by kernel_rfl) (by kernel_rfl) (by kernel_rfl) (by kernel_rfl) hQP hS (.inl ⟨by kernel_rfl, fun w' hw' => by go_simp; try with_reducible rfl⟩) ?_
        refine take_f 2 15 rfl rfl (by kernel_rfl) (by kernel_rfl) (by kernel_rfl) (by kernel_rfl) hQP hS (.inl ⟨by kernel_rfl, fun w' hw' => by go_simp; try with_reducible rfl⟩) ?_
        refine take_f 3 16 rfl rfl (by kernel_rfl) (by kernel_rfl) (by kernel_rfl) (by kernel_rfl) hQP hS (.inl ⟨by kernel_rfl, fun w' hw' => by go_simp; try with_reducible rfl⟩) ?_
        refine take_f 4 17 rfl rfl (by kernel_rfl) (by kernel_rfl) (by kernel_rfl) (by kernel_rfl) hQP hS (.inl ⟨by kernel_rfl, fun w' hw' => by go_simp; try with_reducible rfl⟩) ?_
        refine take_f 5 18 rfl rfl (by kernel_rfl) (by kernel_rfl) (by kernel_rfl) (by kernel_rfl) hQP hS (.inl ⟨by kernel_rfl, fun w' hw' => by go_simp; try with_reducible rfl⟩) ?_
        try simp only [List.setIfInBounds_toArray, List.set_cons_succ, List.set_cons_zero]
        refine take_g (i := 6) (by kernel_rfl) rfl (by kernel_rfl) fun KQ hK => ?_
        go_wp2_with fail
        refine HN.out.mono ?_
        rintro e w2 ⟨rfl, hr2, hb2, hs2⟩
        have HR2 := Lib.hid hr2
        have HB2 := Lib.hid hb2
        have HB12 : Hid (Below wr.heap.size wr w2) := Lib.hid (HD.out.trans (hb2.mono HD.out.size))
        have hw1 : w1.heap.size = wr.heap.size := HD2.out
        have HS2 : Hid (w2.heap.size = wr.heap.size + 2) := Lib.hid (by rw [← hw1]; exact hs2)
        have T2 : Turn (fun _ => False) w1 w2 := Turn.of_new hb2
        have hS : w2.cell? ⟨w.heap.size, 0, none⟩ = some (.slice av k cv) := T2.cell hS id
        refine hK _ _ (.inr hS) ?_
        rw [hw1] at HR2 ⊢
        clear hK hr2 hb2 hs2 T2 HN hw1
        refine take_g (i := 7) (by kernel_rfl) rfl (by kernel_rfl) fun KQ hK => ?_
        go_wp2_with fail
        have T3 : Turn (fun _ => False) w2 (w2.alloc (.cells #[ptr (wr.heap.size + 1)] 128)) := Turn.alloc _ _ _
        have hS : (w2.alloc (.cells #[ptr (wr.heap.size + 1)] 128)).cell? ⟨w.heap.size, 0, none⟩ = some (.slice av k cv) := T3.cell hS id
        refine hK _ _ (.inr hS) ?_
        clear hK
        have hnews : ∀ j u, [ptr (wr.heap.size + 1)][j]? = some u → (w2.alloc (.cells #[ptr (wr.heap.size + 1)] 128)).cell? ((⟨w2.heap.size, 0, none⟩ : Addr).add j) = some u := cell_new1 _ _ _
        have hown3 := ((Turn.of_new HB12.out : Turn (fun _ => False) wr w2).trans T3).kept HO.out (fun _ _ => id)
        have HT3 := Lib.hid T3
        have hb3 : w.heap.size ≤ (w2.alloc (.cells #[ptr (wr.heap.size + 1)] 128)).heap.size := by have := T3.size; have := HS2.out; omega
        clear T3
        generalize (w2.alloc (.cells #[ptr (wr.heap.size + 1)] 128)) = w3 at *
        refine take_append_at 8 21 (by kernel_rfl) rfl rfl rfl (.tmp 17) (.tmp 20) 135 rfl w.heap.size 128 i0 _ 1 8 Tryz.underlying135 hi hz0 hz1 hz2 rfl (by decide) (.slice av k cv) k ((Q.map (·.1)).map ptr) (by rfl) hown3 ⟨w2.heap.size, 0, none⟩ 1 1 [ptr (wr.heap.size + 1)] (by rfl) rfl hnews (by simp [Value.oneCell']) (by unfold maxLen; omega) (by omega) hb3 ?_
        intro v6 w6 hown6 hgrow6 _
        have hs9 : ∀ g, (Value.slice av k cv).ownBlock = some g → Typ w3 128 g := fun g hg => owns_typ hown3 hg
        have T6 : Turn (fun j => (Value.slice av k cv).ownBlock = some j) w3 w6 := Turn.of_grown hgrow6 (fun g e => e)
        have hg3 : w3.heap[w.heap.size]? = some (.cells #[.slice av k cv] 137 (0, 0)) := HT3.out.heap ((Turn.of_new HB12.out : Turn (fun _ => False) wr w2).heap HG.out id) id
        have hnγ : ¬ (Value.slice av k cv).ownBlock = some w.heap.size := fun e => (hs9 _ e).not (by decide) ⟨_, _, hg3⟩
        have hg6 := T6.heap hg3 hnγ
        have hS : w6.cell? ⟨w.heap.size, 0, none⟩ = some (.slice av k cv) := T6.cell hS hnγ
        refine ⟨.inr hS, ?_⟩
        have f6 : w6.frozen? ⟨w.heap.size, 0, none⟩ = false := by simp [World.frozen?, hg6]
        have HX : Hid (GNew w w.heap.size W (k + 1) (w6.setCell ⟨w.heap.size, 0, none⟩ v6)) := Lib.hid (by
          have hf6 : Free (fun j => (Value.slice av k cv).ownBlock = some j) w3 21 := fun b hb _ => (hs9 b hb).not (by decide)
          have hrsA := (HRS.out.below HB12.out).turn HT3.out (Free.no _ _) (fun _ _ => ⟨id, id⟩)
          have hr2A := HR2.out.turn HT3.out (Free.no _ _) id id
          have hd : ∀ p ∈ Q, p.1 < wr.heap.size ∧ p.2 < wr.heap.size := fun p hp => by
            obtain ⟨i, hi⟩ := List.getElem?_of_mem hp
            obtain ⟨l, _, h1, _⟩ := HRS.out.line hi
            exact ⟨h1.typ.lt, h1.cells.typ.lt⟩
          have hone : RowsAt w3 (fun b => w.heap.size ≤ b) [(wr.heap.size + 1, wr.heap.size)] [(blanks W, false)] W := by
            refine ⟨rfl, fun i p l hp hl => ?_, fun i j p q hp hq hne => ?_⟩
            · have hi0 : i = 0 := by have := (List.getElem?_eq_some_iff.1 hp).1; simp at this; exact this
              subst hi0
              simp at hp hl
              subst hp hl
              exact ⟨hr2A, by simp [blanks], by omega, hsz⟩
            · have h1 := (List.getElem?_eq_some_iff.1 hp).1
              have h2 := (List.getElem?_eq_some_iff.1 hq).1
              simp at h1 h2
              omega
          have happ := hrsA.app hone (fun p hp q hq => by
            simp at hq
            subst hq
            have := hd p hp
            exact ⟨by simp only; omega, by simp only; omega⟩)
          have happ6 := happ.turn T6 hf6 (fun p hp => by
            obtain ⟨i, hi⟩ := List.getElem?_of_mem hp
            obtain ⟨l, _, h1, _⟩ := happ.line hi
            exact ⟨fun e => (hs9 _ e).not (by decide) h1.typ, fun e => (hs9 _ e).not (by decide) h1.cells.typ⟩)
          have T7 : Turn (fun b => b = w.heap.size) w6 (w6.setCell ⟨w.heap.size, 0, none⟩ v6) := Turn.setCell _ _ rfl
          have hfr : Free (fun b => b = w.heap.size) w6 21 := fun b e _ => by subst e; exact Typ.not ⟨_, _, hg6⟩ (by decide)
          refine ⟨v6, Q ++ [(wr.heap.size + 1, wr.heap.size)], ?_, T7.kept (by simpa using hown6) (fun g hg e => ?_), by simp [HQL.out], ?_, ?_⟩
          · have := heap_set1 (cs := [.slice av k cv]) hg6 0 v6
            simpa using this
          · subst e
            exact (owns_typ hown6 hg).not (by decide) ⟨_, _, hg6⟩
          · rw [List.replicate_succ']
            exact happ6.turn T7 hfr (fun p hp => by
              obtain ⟨i, hi⟩ := List.getElem?_of_mem hp
              obtain ⟨l, _, h1, _⟩ := happ6.line hi
              exact ⟨fun e => by rw [e] at h1; exact h1.typ.not (by decide) ⟨_, _, hg6⟩, fun e => by have h2 := h1.cells.typ; rw [e] at h2; exact h2.not (by decide) ⟨_, _, hg6⟩⟩)
          · have b3 : Below w.heap.size w w3 := (HBR.out.trans (HB12.out.mono hsz)).trans (HT3.out.below (by have := HB12.out.size; omega) (fun _ h => h.elim))
            exact (b3.trans (T6.below b3.size (fun j e => (hown3.lt j e).1))).trans (T7.below (by have := b3.size; have := T6.size; omega) (fun j e => by omega)))
        obtain ⟨a6, c6, rfl⟩ := Turn.own_slice hown6
        clear hown6 hgrow6 hs9 T6 hg3 hnγ hg6 hown3 hnews HT3 HR2 HRS HO HG HBR
        refine take_g (i := 9) (by kernel_rfl) rfl (by kernel_rfl) fun KQ hK => ?_
        go_wp2_with fail
        refine hK _ _ (.inr hS) ?_
        clear hK
        refine take_f 10 23 rfl rfl (by kernel_rfl) (by kernel_rfl) (by kernel_rfl) (by kernel_rfl) hQP hS (.inl ⟨by kernel_rfl, fun w' hw' => by go_simp; try with_reducible rfl⟩) ?_
        refine take_g (i := 11) (by kernel_rfl) rfl (by kernel_rfl) fun KQ hK => ?_
        go_wp2_with fail
        refine hK _ _ (.inl rfl) ?_
        clear hK hS f6
        generalize (w6.setCell ⟨w.heap.size, 0, none⟩ (.slice a6 (k + 1) c6)) = w7 at *
        refine take_done (by kernel_rfl) ?_ _
        try simp only [List.setIfInBounds_toArray, List.set_cons_succ, List.set_cons_zero]
        go_wp2_with fail
        go_roundg (m - (k + 1))
        case measure => omega
        case rel => exact ⟨k + 1, rfl, by omega, by go_num, HX⟩
      · have hlt' := HGE.out k hlt
        obtain rfl : k = m := by omega
        have HF := Lib.hid H.out
        go_wp2_with fail
        go_ret
        exact ⟨rfl, HF.out⟩

/-- a new grid: its rows, of its own -/
theorem GNew.grid {w wx : World} {W k : Nat} (h : GNew w w.heap.size W k wx) (hk : 1 ≤ k) (hk2 : k ≤ 1024) : ∃ β Q, GridAt wx w.heap.size β (Q.map (·.1)) ∧ RowsAt wx (fun b => w.heap.size ≤ b) Q (List.replicate k (blanks W, false)) W ∧ w.heap.size ≤ β ∧ Below w.heap.size w wx := by
  obtain ⟨v, Q, h1, ⟨hl, ho⟩, h3, h4, h5⟩ := h
  rcases ho with ⟨_, h0⟩ | ⟨g, cap, cur, rfl, hb, hg, hc, _, hs, ht⟩
  · omega
  have hQ : (Q.map (·.1)).length = k := by rw [List.length_map, h3]
  refine ⟨g, Q, ⟨⟨cap, by rw [hQ]; exact hc, by rw [hQ]; exact h1⟩, ⟨cur.toList.drop k, ?_⟩, by rw [hQ]; exact hk, by rw [hQ]; exact hk2⟩, h4, hb, h5⟩
  rw [hg, ← ht, Nat.mul_one, List.take_append_drop]

/-- NEW PENS -/
theorem pnew_any (wd ht : Int) (w : World) :
    Calls Tryz.prog 28 #[.int .i64 wd, .int .i64 ht] w fun e w' => ∃ π, e = .returned (ptr π) ∧ PenAt w' (fun b => w.heap.size ≤ b) π (newS wd ht).f.pen (sizeW wd) ∧ Below w.heap.size w w' := by
  have HG := Lib.hid (gnew_any wd ht w)
  have hW := sizeW_rng wd
  have hH := sizeW_rng ht
  go_enter Tryz.func28, Tryz.ntmps28
  go_wp2_with fail
  refine HG.out.mono ?_
  rintro e w2 ⟨rfl, hg⟩
  obtain ⟨β, Q, h1, h2, h3, h4⟩ := hg.grid hH.1 hH.2
  have hs := h4.size
  have T : Turn (fun _ => False) w2 (w2.alloc (.cells #[ptr w.heap.size, .int .i64 0, .int .i64 0, .bool false, .bool true] 92)) := Turn.alloc _ _ _
  have e2 := heap_alloc_new w2 (.cells #[ptr w.heap.size, .int .i64 0, .int .i64 0, .bool false, .bool true] 92)
  have HF : Hid (PenAt (w2.alloc (.cells #[ptr w.heap.size, .int .i64 0, .int .i64 0, .bool false, .bool true] 92)) (fun b => w.heap.size ≤ b) w2.heap.size (newS wd ht).f.pen (sizeW wd) ∧ Below w.heap.size w (w2.alloc (.cells #[ptr w.heap.size, .int .i64 0, .int .i64 0, .bool false, .bool true] 92))) := Lib.hid
    ⟨⟨w.heap.size, β, Q, ⟨e2, h1.turn T id id, h2.turn T (Free.no _ _) (fun _ _ => ⟨id, id⟩), hs, Nat.le_refl _, h3, hW.1, hW.2⟩⟩, h4.trans (T.below hs (fun _ h => h.elim))⟩
  clear hg h1 h2 h3 h4 T e2
  go_wp2_with fail
  go_ret
  exact ⟨_, rfl, HF.out⟩
end Go.Proofs.YtjicdcmdgbcdcaaGreatDoor.Scr
end
section
namespace Go.Proofs.YtjicdcmdgbcdcaaGreatDoor.Scr
set_option linter.unusedSimpArgs false
set_option linter.unusedVariables false
open Go Go.RowKit Mem Turn Ring
open Seg (P4 St)

def cluL (c : CluC) : List Value := [Value.int .i64 c.at_.row, .int .i64 c.at_.col, .bool c.at_.pend, .int .i64 c.wide] ++ (Clu.cv c.text ++ [Value.bool c.ga.some, .bool c.ga.pict, .bool c.ga.wide])
theorem CluIs.cell {w : World} {q : Nat} {c : CluC} (h : CluIs w q c) {i : Nat} {v : Value} (hv : (cluL c)[i]? = some v) : w.cell? ⟨q, i, none⟩ = some v := by
  have h2 := h.2
  unfold cluL at hv
  simp only [World.cell?, h2]
  simpa using hv
theorem CluIs.cells {w : World} {q : Nat} {c : CluC} (h : CluIs w q c) : w.cell? ⟨q, 0, none⟩ = some (.int .i64 c.at_.row) ∧ w.cell? ⟨q, 1, none⟩ = some (.int .i64 c.at_.col) ∧ w.cell? ⟨q, 2, none⟩ = some (.bool c.at_.pend) ∧ w.cell? ⟨q, 3, none⟩ = some (.int .i64 c.wide) ∧ ∀ j, w.frozen? ⟨q, j, none⟩ = false :=
  ⟨h.cell rfl, h.cell rfl, h.cell rfl, h.cell rfl, fun j => by have := h.2; simp [World.frozen?, this]⟩
theorem CluIs.setWide {w : World} {q : Nat} {c : CluC} (h : CluIs w q c) (x : Int) : CluIs (w.setCell ⟨q, 3, none⟩ (.int .i64 x)) q { c with wide := x } := by
  refine ⟨h.1, ?_⟩
  have := heap_set1 (cs := cluL c) h.2 3 (.int .i64 x)
  rw [this]
  rfl
/-- where it stands, stored -/
def atW (w : World) (q : Nat) (r c : Int) (b : Bool) : World := ((w.setCell ⟨q, 0, none⟩ (.int .i64 r)).setCell ⟨q, 1, none⟩ (.int .i64 c)).setCell ⟨q, 2, none⟩ (.bool b)
theorem CluIs.setAt {w : World} {q : Nat} {c : CluC} (h : CluIs w q c) (x : Cur) : CluIs (atW w q x.row x.col x.pend) q { c with at_ := x } := by
  refine ⟨h.1, ?_⟩
  have h1 := heap_set1 (cs := cluL c) h.2 0 (.int .i64 x.row)
  have h2 := heap_set1 h1 1 (.int .i64 x.col)
  have h3 := heap_set1 h2 2 (.bool x.pend)
  unfold atW
  rw [h3]
  rfl
theorem atW_turn (w : World) (q : Nat) (r c : Int) (b : Bool) : Turn (fun j => j = q) w (atW w q r c b) :=
  ((Turn.setCell (T := fun j => j = q) (p := ⟨q, 0, none⟩) w _ rfl).trans (Turn.setCell (T := fun j => j = q) (p := ⟨q, 1, none⟩) _ _ rfl)).trans (Turn.setCell (T := fun j => j = q) (p := ⟨q, 2, none⟩) _ _ rfl)
theorem CluIs.free {w : World} {q : Nat} {c : CluC} (h : CluIs w q c) {t : TypeId} (ht : 247 ≠ t) : Free (fun b => b = q) w t := fun b e _ => by
  subst e
  exact h.typ.not ht
/-- its numbers told -/
theorem CluIs.tell {w : World} {q : Nat} {c : CluC} (h : CluIs w q c) :
    Calls Tryz.prog 178 #[.pointer (some ⟨q, 4, none⟩)] w fun e w' => ∃ v, e = .returned v ∧ TxtAt w' v c.text ∧ Below w.heap.size w w' := by
  refine (CluO.text_any (kClu c) q c.text w h.clu).mono ?_
  rintro e w' ⟨v, h1, h2, h3⟩
  exact ⟨v, h1, TxtAt.own h2 (by have := h.1; omega), h3⟩
/-- a begun cluster put: what the pen's call leaves -/
theorem clu_put {w : World} {X : Nat → Prop} {π q W : Nat} {p : PenC} {c : CluC} (hc : CluIs w q c) (hp : PenAt w X π p W) (hX : ∀ b, X b → PenTyp w b) (hok : PenOK p W) (hv : VarsX w X) (hw : c.wide = 1 ∨ c.wide = 2) (hne : c.text ≠ []) (W' : World) (v : Value) (hb : Below w.heap.size w W') (ht : TxtAt W' v c.text) :
    Calls Tryz.prog 113 #[ptr π, .int .i64 c.wide, v] W' fun e w' => e = .returned (curV (putA p c.wide W)) ∧ CluIs w' q c ∧ PenTo w X π (putP p c.wide c.text W) W w' := by
  refine (put_pen X π W c.wide p v c.text W' (hp.below hb) hok hw ht hne (hv.below hb)).mono ?_
  rintro e w' ⟨h1, h2⟩
  have hq : ¬ X q := fun e => (hX q e).not (by decide) hc.typ
  obtain ⟨X', k1, k2, k3⟩ := h2
  have T : Turn (fun _ => False) w W' := Turn.of_new hb
  refine ⟨h1, (hc.turn T id).turn k3 hq, X', k1, fun b hb' => (k2 b hb').imp id (fun e => Nat.le_trans hb.size e), (T.mono (fun _ _ h => h.elim)).trans k3⟩
theorem PenTo.cluAt {w w' : World} {X : Nat → Prop} {π q W : Nat} {p : PenC} {c : CluC} (h : PenTo w X π p W w') (hc : CluIs w' q c) (r cc : Int) (b : Bool) (hq : w.heap.size ≤ q ∨ X q ∨ True) : ∃ X', PenAt (atW w' q r cc b) X' π p W ∧ (∀ b, X' b → X b ∨ w.heap.size ≤ b) ∧ Turn (fun j => X j ∨ j = q) w (atW w' q r cc b) := by
  obtain ⟨X1, h1, h2, h3⟩ := h
  obtain ⟨X2, h4, h5, h6⟩ := h1.exact
  exact ⟨X2, h4.turn (atW_turn _ _ _ _ _) (hc.free (by decide)) (fun b hb e => by subst e; exact (h6 _ hb).not (by decide) hc.typ), fun b hb => h2 b (h5 b hb), (h3.mono (fun b _ e => .inl e)).trans ((atW_turn _ _ _ _ _).mono (fun b _ e => .inr e))⟩

set_option maxRecDepth 100000 in
set_option maxHeartbeats 16000000 in
theorem begin_exact (X : Nat → Prop) (π W : Nat) (p : PenC) (r : Int) (x : P4) (w : World) (h : PenAt w X π p W) (hX : ∀ b, X b → PenTyp w b) (hok : PenOK p W) (hv : VarsX w X) :
    Calls Tryz.prog 180 #[ptr π, .int .i32 r, prV x] w fun e w' => ∃ q, e = .returned (ptr q) ∧ w.heap.size ≤ q ∧ CluIs w' q (beginC p r x W).2 ∧ PenTo w X π (beginC p r x W).1 W w' := by
  have hmx : Tryz.prog.follows .mixedOrders = true := by kernel_rfl
  have HBC := Lib.hid (show beginC p r x W = (putP p (Cw.wid (gaN Cw.zero r x).wide) [fixR r] W, ⟨putA p (Cw.wid (gaN Cw.zero r x).wide) W, Cw.wid (gaN Cw.zero r x).wide, [fixR r], gaN Cw.zero r x⟩) from rfl)
  have HW2 := Lib.hid (wid_two (gaN Cw.zero r x).wide)
  have e1 := heap_alloc_new w (.cells (prA x) 224)
  have T1 : Turn (fun _ => False) w (w.alloc (.cells (prA x) 224)) := Turn.alloc _ _ _
  have hb1 : Below w.heap.size w (w.alloc (.cells (prA x) 224)) := (Below.refl _ _).alloc (Nat.le_refl _) _
  have hs1 : (w.alloc (.cells (prA x) 224)).heap.size = w.heap.size + 1 := by simp
  have HP := Lib.hid h
  have HX := Lib.hid hX
  have HOK := Lib.hid hok
  have HV := Lib.hid hv
  have HE1 := Lib.hid e1
  have HB1 := Lib.hid hb1
  have HS1 := Lib.hid hs1
  obtain ⟨γ, hc0⟩ : ∃ γ, (w.alloc (.cells (prA x) 224)).cell? ⟨π, 0, none⟩ = some (ptr γ) := by
    obtain ⟨γ, β, Q, hp⟩ := h
    exact ⟨γ, T1.cell hp.cells.1 id⟩
  have hπ := h.typ.lt
  clear h hX hok hv e1 T1 hb1 hs1
  go_enter Tryz.func180, Tryz.ntmps180
  go_upto_region 1 with fail
  generalize (w.alloc (.cells #[.int .i64 x.br, .bool x.pi, .int .i64 x.co, .int .i64 x.ea] 224)) = w1 at *
  go_upto_region 4 with fail
  have hc2 : CluIs (w1.alloc (.cells #[.int .i64 0, .int .i64 0, .bool false, .int .i64 0, .int .i32 0, .int .i32 0, .int .i32 0, .int .i32 0, .int .i32 0, .int .i32 0, .int .i32 0, .int .i32 0, .int .i32 0, .int .i32 0, .int .i32 0, .int .i32 0, .int .i32 0, .int .i32 0, .int .i32 0, .int .i32 0, .int .i64 0, .bool false, .bool false, .bool false] 247)) w1.heap.size ⟨⟨0, 0, false⟩, 0, [], Cw.zero⟩ := ⟨by simp, heap_alloc_new w1 _⟩
  have hb2 : Below w.heap.size w (w1.alloc (.cells #[.int .i64 0, .int .i64 0, .bool false, .int .i64 0, .int .i32 0, .int .i32 0, .int .i32 0, .int .i32 0, .int .i32 0, .int .i32 0, .int .i32 0, .int .i32 0, .int .i32 0, .int .i32 0, .int .i32 0, .int .i32 0, .int .i32 0, .int .i32 0, .int .i32 0, .int .i32 0, .int .i64 0, .bool false, .bool false, .bool false] 247)) := HB1.out.alloc HB1.out.size _
  have T2 : Turn (fun _ => False) w1 (w1.alloc (.cells #[.int .i64 0, .int .i64 0, .bool false, .int .i64 0, .int .i32 0, .int .i32 0, .int .i32 0, .int .i32 0, .int .i32 0, .int .i32 0, .int .i32 0, .int .i32 0, .int .i32 0, .int .i32 0, .int .i32 0, .int .i32 0, .int .i32 0, .int .i32 0, .int .i32 0, .int .i32 0, .int .i64 0, .bool false, .bool false, .bool false] 247)) := Turn.alloc _ _ _
  have hE2 := T2.heap HE1.out id
  have HQ : Hid (w.heap.size < w1.heap.size) := Lib.hid (by rw [HS1.out]; omega)
  generalize (w1.alloc (.cells #[.int .i64 0, .int .i64 0, .bool false, .int .i64 0, .int .i32 0, .int .i32 0, .int .i32 0, .int .i32 0, .int .i32 0, .int .i32 0, .int .i32 0, .int .i32 0, .int .i32 0, .int .i32 0, .int .i32 0, .int .i32 0, .int .i32 0, .int .i32 0, .int .i32 0, .int .i32 0, .int .i64 0, .bool false, .bool false, .bool false] 247)) = w2 at *
  generalize w1.heap.size = q at *
  have HAD := Lib.hid (wadd_any q _ r x w2 hc2)
  have HB2 := Lib.hid hb2
  have HE2 := Lib.hid hE2
  have HQ2 : Hid (q < w2.heap.size ∧ w.heap.size < w2.heap.size) := Lib.hid ⟨hc2.typ.lt, by have := hc2.typ.lt; have := HQ.out; omega⟩
  clear hc2 hb2 T2 hE2 HE1 HB1 HS1
  go_wp2_with (first
    | (refine wpList_load_row rfl 224 _ rfl w.heap.size rfl _ (prA x) (0, 0) _ HE2.out Tryz.underlying224 rfl (size_prop _ _ _ _) ?_))
  refine HAD.out.mono ?_
  rintro e w3 ⟨rfl, hc3, ht3⟩
  obtain ⟨_, _, _, y3, yf⟩ := hc3.cells
  have y3f := yf 3
  have HC4 : Hid (CluIs (w3.setCell ⟨q, 3, none⟩ (.int .i64 (Cw.wid (gaN Cw.zero r x).wide))) q ⟨⟨0, 0, false⟩, Cw.wid (gaN Cw.zero r x).wide, [fixR r], gaN Cw.zero r x⟩) := Lib.hid (hc3.setWide (Cw.wid (gaN Cw.zero r x).wide))
  have HB4 : Hid (Below w.heap.size w (w3.setCell ⟨q, 3, none⟩ (.int .i64 (Cw.wid (gaN Cw.zero r x).wide)))) := Lib.hid ((HB2.out.trans (ht3.below HB2.out.size (fun j e => by have := HQ.out; omega))).trans ((Turn.setCell (T := fun j => j = q) (p := ⟨q, 3, none⟩) w3 _ rfl).below (by have := ht3.size; have := HB2.out.size; omega) (fun j e => by have := HQ.out; omega)))
  clear hc3 ht3 yf HAD HB2 HE2
  go_upto_region 5 with fail
  clear y3 y3f
  generalize gaN Cw.zero r x = g1 at *
  generalize Cw.wid g1.wide = wd at *
  generalize (w3.setCell ⟨q, 3, none⟩ (.int .i64 wd)) = w4 at *
  have HP4 : Hid (PenAt w4 X π p W ∧ (∀ b, X b → PenTyp w4 b) ∧ VarsX w4 X ∧ ¬ X q) := Lib.hid (by
    have T : Turn (fun _ => False) w w4 := Turn.of_new HB4.out
    refine ⟨HP.out.below HB4.out, fun b hb => ?_, HV.out.below HB4.out, fun e => by have := (HX.out q e).lt; have := HQ.out; omega⟩
    rcases HX.out b hb with e | e | e | e | e
    · exact .inl (e.turn T id)
    · exact .inr (.inl (e.turn T id))
    · exact .inr (.inr (.inl (e.turn T id)))
    · exact .inr (.inr (.inr (.inl (e.turn T id))))
    · exact .inr (.inr (.inr (.inr (e.turn T id)))))
  have HTL := Lib.hid (HC4.out.turn (Turn.drew (fun _ => False) w4) id).tell
  have HPU : Hid (∀ W' v, Below w4.heap.size w4 W' → TxtAt W' v [fixR r] → Calls Tryz.prog 113 #[ptr π, .int .i64 wd, v] W' fun e w' => e = .returned (curV (putA p wd W)) ∧ CluIs w' q ⟨⟨0, 0, false⟩, wd, [fixR r], g1⟩ ∧ PenTo w4 X π (putP p wd [fixR r] W) W w') := Lib.hid fun W' v hb ht => clu_put (c := ⟨⟨0, 0, false⟩, wd, [fixR r], g1⟩) HC4.out HP4.out.1 HP4.out.2.1 HOK.out HP4.out.2.2.1 HW2.out (by simp) W' v hb ht
  obtain ⟨_, _, _, x3, _⟩ := HC4.out.cells
  obtain ⟨za, hza⟩ : ∃ z, z = putA p wd W := ⟨_, rfl⟩
  rw [← hza] at HPU HBC
  obtain ⟨zr, zc, zb⟩ := za
  clear hza
  refine region_begin3 (fun w' => w'.cell? ⟨q, 3, none⟩ = some (.int .i64 wd)) (fun j => j == 13) 14 rfl hmx (by intro _ _ d _ _ h; cases d <;> exact h) fun hQP => ?_
  have hS : w4.drew.cell? ⟨q, 3, none⟩ = some (.int .i64 wd) := x3
  have HD : Hid (Below w4.heap.size w4 w4.drew) := Lib.hid (Below.refl _ _).drew
  clear x3
  generalize w4.drew = w5 at *
  refine take_f 0 26 rfl rfl (by kernel_rfl) (by kernel_rfl) (by kernel_rfl) (by kernel_rfl) hQP hS (.inl ⟨by kernel_rfl, fun w' hw' => by go_simp; try with_reducible rfl⟩) ?_
  refine take_f 1 27 rfl rfl (by kernel_rfl) (by kernel_rfl) (by kernel_rfl) (by kernel_rfl) hQP hS (.inl ⟨by kernel_rfl, fun w' hw' => by go_simp; try with_reducible rfl⟩) ?_
  refine take_f 2 28 rfl rfl (by kernel_rfl) (by kernel_rfl) (by kernel_rfl) (by kernel_rfl) hQP hS (.inl ⟨by kernel_rfl, fun w' hw' => by go_simp; try with_reducible rfl⟩) ?_
  refine take_f 3 29 rfl rfl (by kernel_rfl) (by kernel_rfl) (by kernel_rfl) (by kernel_rfl) hQP hS (.inl ⟨by kernel_rfl, fun w' hw' => by go_simp; try with_reducible rfl⟩) ?_
  refine take_f 4 30 rfl rfl (by kernel_rfl) (by kernel_rfl) (by kernel_rfl) (by kernel_rfl) hQP hS (.inl ⟨by kernel_rfl, fun w' hw' => by go_simp; try with_reducible rfl⟩) ?_
  refine take_f 5 31 rfl rfl (by kernel_rfl) (by kernel_rfl) (by kernel_rfl) (by kernel_rfl) hQP hS (.inl ⟨by kernel_rfl, fun w' hw' => by go_simp; try with_reducible rfl⟩) ?_
  refine take_f 6 32 rfl rfl (by kernel_rfl) (by kernel_rfl) (by kernel_rfl) (by kernel_rfl) hQP hS (.inl ⟨by kernel_rfl, fun w' hw' => by go_simp; try with_reducible rfl⟩) ?_
  refine take_f 7 33 rfl rfl (by kernel_rfl) (by kernel_rfl) (by kernel_rfl) (by kernel_rfl) hQP hS (.inl ⟨by kernel_rfl, fun w' hw' => by go_simp; try with_reducible rfl⟩) ?_
  refine take_f 8 34 rfl rfl (by kernel_rfl) (by kernel_rfl) (by kernel_rfl) (by kernel_rfl) hQP hS (.inl ⟨by kernel_rfl, fun w' hw' => by go_simp; try with_reducible rfl⟩) ?_
  try simp only [List.setIfInBounds_toArray, List.set_cons_succ, List.set_cons_zero]
  refine take_g (i := 9) (by kernel_rfl) rfl (by kernel_rfl) fun KQ hK => ?_
  go_wp2_with fail
  refine HTL.out.mono ?_
  rintro e w6 ⟨v, rfl, hv6, hb6⟩
  have T6 : Turn (fun _ => False) w5 w6 := Turn.of_new hb6
  have hS := T6.cell hS id
  have HPU6 := Lib.hid (HPU.out w6 v (HD.out.trans (hb6.mono HD.out.size)) hv6)
  refine hK _ _ (.inr hS) ?_
  clear hK HTL HPU T6 hb6 hv6
  try simp only [List.setIfInBounds_toArray, List.set_cons_succ, List.set_cons_zero]
  refine take_g (i := 10) (by kernel_rfl) rfl (by kernel_rfl) fun KQ hK => ?_
  go_wp2_with fail
  refine HPU6.out.mono ?_
  rintro e w7 ⟨rfl, hc7, hto⟩
  obtain ⟨x0, x1, x2, hS, xf⟩ := hc7.cells
  refine hK _ _ (.inr hS) ?_
  have y0 := xf 0
  have y1 := xf 1
  have y2 := xf 2
  have HF : Hid (CluIs (atW w7 q zr zc zb) q (beginC p r x W).2 ∧ PenTo w X π (beginC p r x W).1 W (atW w7 q zr zc zb)) := Lib.hid (by
    rw [HBC.out]
    refine ⟨hc7.setAt ⟨zr, zc, zb⟩, ?_⟩
    obtain ⟨X', k1, k2, k3⟩ := hto.cluAt hc7 zr zc zb (.inr (.inr trivial))
    refine ⟨X', k1, fun b hb => (k2 b hb).imp id (fun e => Nat.le_trans HB4.out.size e), ?_⟩
    have a : Turn (fun b => X b ∨ w.heap.size ≤ b) w w4 := (Turn.of_new HB4.out : Turn (fun _ => False) w w4).mono (fun _ _ h => h.elim)
    have hq := HQ.out
    exact (a.trans (k3.mono (fun b _ e => e.imp id (fun e => by omega)))).mono (fun b hb e => e.elim id (fun e => by omega)))
  clear hK hc7 hto xf HPU6
  try simp only [List.setIfInBounds_toArray, List.set_cons_succ, List.set_cons_zero]
  refine take_g (i := 11) (by kernel_rfl) rfl (by kernel_rfl) fun KQ hK => ?_
  go_wp2_with fail
  refine hK _ _ (.inr hS) ?_
  clear hK
  refine take_f 12 38 rfl rfl (by kernel_rfl) (by kernel_rfl) (by kernel_rfl) (by kernel_rfl) hQP hS (.inl ⟨by kernel_rfl, fun w' hw' => by go_simp; try with_reducible rfl⟩) ?_
  refine take_g (i := 13) (by kernel_rfl) rfl (by kernel_rfl) fun KQ hK => ?_
  go_wp2_with fail
  refine hK _ _ (.inl rfl) ?_
  clear hK hS x0 x1 x2 y0 y1 y2
  have hw : ((w7.setCell ⟨q, 0, none⟩ (.int .i64 zr)).setCell ⟨q, 1, none⟩ (.int .i64 zc)).setCell ⟨q, 2, none⟩ (.bool zb) = atW w7 q zr zc zb := rfl
  first | rw [hw] | skip
  clear hw
  generalize atW w7 q zr zc zb = w8 at *
  refine take_done (by kernel_rfl) ?_ _
  try simp only [List.setIfInBounds_toArray, List.set_cons_succ, List.set_cons_zero]
  go_wp2_with fail
  go_ret
  exact ⟨q, rfl, Nat.le_of_lt HQ.out, HF.out⟩
theorem begin_any (X : Nat → Prop) (π W : Nat) (p : PenC) (r : Int) (x : P4) (w : World) (h : PenAt w X π p W) (hok : PenOK p W) (hv : VarsX w X) :
    Calls Tryz.prog 180 #[ptr π, .int .i32 r, prV x] w fun e w' => ∃ q, e = .returned (ptr q) ∧ w.heap.size ≤ q ∧ CluIs w' q (beginC p r x W).2 ∧ PenTo w X π (beginC p r x W).1 W w' := by
  obtain ⟨X0, h0, h1, h2⟩ := h.exact
  exact (begin_exact X0 π W p r x w h0 h2 hok (hv.sub h1)).mono fun e w' ⟨q, a, b, c, d⟩ => ⟨q, a, b, c, d.wide h1⟩
end Go.Proofs.YtjicdcmdgbcdcaaGreatDoor.Scr
end

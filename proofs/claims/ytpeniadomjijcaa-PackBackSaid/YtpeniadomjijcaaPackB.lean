/-
  pack.Build at a right list.
-/
import Derived.Test.YtpeniadomjijcaaPackQ
import Derived.Test.YtpeniadomjijcaaPackO
import Derived.Laws.Tables
import Derived.Maps.Own
namespace Go.Proofs.Ytpeniadomjijcaa.Pack
set_option linter.unusedSimpArgs false
set_option linter.unusedVariables false
open Go Go.RowKit Mem Turn Sp TabLaw

/-- the pages' numbers and the blocks behind p pages -/
def tabAt (l : List S3) : Nat → List Nat × List (List Int)
  | 0 => ([], [])
  | p + 1 => ((tabAt l p).1 ++ [(num (cont l (256 * (p : Int))) (tabAt l p).2).2], (num (cont l (256 * (p : Int))) (tabAt l p).2).1)
theorem tab_len (l : List S3) : ∀ p, (tabAt l p).1.length = p ∧ (tabAt l p).2.length ≤ p
  | 0 => ⟨rfl, Nat.le_refl _⟩
  | p + 1 => by
    have ih := tab_len l p
    have := num_len (tabAt l p).2 (cont l (256 * (p : Int)))
    simp only [tabAt, List.length_append, List.length_singleton]
    omega
theorem tab_ok (l : List S3) : ∀ p, (tabAt l p).2.Nodup ∧ (∀ b ∈ (tabAt l p).2, b.length = 256)
  | 0 => ⟨List.nodup_nil, fun b hb => by cases hb⟩
  | p + 1 => by
    have ih := tab_ok l p
    exact ⟨num_nodup ih.1 _, num_all ih.2 (cont_len _ _)⟩

theorem numberC : NumberC := fun qb kb eb qt base rest fs bs x w hB hK hT hl hx hn l1 l2 l3 hb => number_any qb kb eb qt base rest fs bs x w hB hK hT hl hx hn l1 l2 l3 hb

/-- a list of spans as it comes in -/
def LAt (w : World) (a : Option Addr) (n c : Nat) (l : List S3) : Prop := l.length = n ∧ n ≤ c ∧ (n = 0 ∨ ∃ b off, a = some ⟨b, off, none⟩ ∧ At3 w b off l)

def zcells : Array Value := (List.replicate 4352 (Value.int .u16 0) ++ [Value.slice none 0 0]).toArray
theorem build_table (w : World) : (zeroValue 46).run Try.prog w = .ok (.agg zcells) w := (zero_of_info info_table).1 w

theorem tat_store {w : World} {qt base : Nat} {fs : List Nat} {bs : List (List Int)} (h : TAt w qt base fs bs) (hb : qt < base) {n : Nat} (hf : fs.length < 4352) : TAt (w.setCell ⟨qt, fs.length, none⟩ (.int .u16 (n : Int))) qt base (fs ++ [n]) bs := by
  obtain ⟨fc, bv, h1, h2, h3, h4⟩ := h
  have T : Turn (fun j => j = qt) w (w.setCell ⟨qt, fs.length, none⟩ (.int .u16 (n : Int))) := Turn.setCell _ _ rfl
  refine ⟨fc.set fs.length (.int .u16 (n : Int)), bv, ?_, by simp [h2], fun p k hp => ?_, T.kept h4 (fun g hg e => by have := (h4.lt g hg).1; omega)⟩
  · simp only [World.setCell, Array.getElem?_modify]
    rw [if_pos trivial, h1]
    have e : (fc ++ [bv]).toArray.setIfInBounds fs.length (.int .u16 (n : Int)) = (fc.set fs.length (.int .u16 (n : Int)) ++ [bv]).toArray := by
      rw [List.setIfInBounds_toArray, List.set_append_left _ _ (by omega)]
    simp only [Option.map_some]
    rw [← e]
    simp
  · rcases Nat.lt_or_ge p fs.length with hlt | hge
    · rw [List.getElem?_append_left hlt] at hp
      rw [List.getElem?_set_ne (by omega)]
      exact h3 p k hp
    · have hpl : p = fs.length := by
        have := (List.getElem?_eq_some_iff.1 hp).1
        simp at this
        omega
      subst hpl
      rw [List.getElem?_append_right (Nat.le_refl _)] at hp
      simp at hp
      subst hp
      rw [List.getElem?_set_self (by omega)]

/-- the state behind p pages -/
def BuildR (w2 : World) (qb kb eb qt base lo : Nat) (l : List S3) (p : Nat) (wr : World) : Prop :=
  ∃ v d ev, BAt wr qb v kb eb qt ∧ EAt wr eb ev ∧ EvOK ev (tabAt l p).2 ∧ RAt wr v l d ∧ LB v lo ∧ (∀ (i : Nat) (s : S3), i < d → l[i]? = some s → s.2.1 < 256 * (p : Int)) ∧
    KAt wr kb (tabAt l p).2 ∧ TAt wr qt base (tabAt l p).1 (tabAt l p).2 ∧ Turn (fun j => j = qb ∨ j = kb ∨ j = eb ∨ j = qt ∨ base ≤ j) w2 wr

theorem fact_made {w w1 : World} {a : Option Addr} {n c : Nat} {l : List S3} (hl : LAt w a n c l) (hb : Below w.heap.size w w1) (hlo : ∀ ad, a = some ad → 0 < n → ad.block < w.heap.size) :
    BuildR ((((w1.alloc (Obj.map #[] 0)).alloc (Obj.map #[] 0)).alloc (Obj.cells zcells 46)).alloc
      (Obj.cells #[Value.slice a n c, Value.map (some w1.heap.size), Value.map (some (w1.heap.size + 1)), Value.pointer (some { block := w1.heap.size + 1 + 1, off := 0 })] 48))
      (w1.heap.size + 1 + 1 + 1) w1.heap.size (w1.heap.size + 1) (w1.heap.size + 1 + 1) (w1.heap.size + 4) w.heap.size l 0
      ((((w1.alloc (Obj.map #[] 0)).alloc (Obj.map #[] 0)).alloc (Obj.cells zcells 46)).alloc
      (Obj.cells #[Value.slice a n c, Value.map (some w1.heap.size), Value.map (some (w1.heap.size + 1)), Value.pointer (some { block := w1.heap.size + 1 + 1, off := 0 })] 48)) ∧ Below w.heap.size w ((((w1.alloc (Obj.map #[] 0)).alloc (Obj.map #[] 0)).alloc (Obj.cells zcells 46)).alloc
      (Obj.cells #[Value.slice a n c, Value.map (some w1.heap.size), Value.map (some (w1.heap.size + 1)), Value.pointer (some { block := w1.heap.size + 1 + 1, off := 0 })] 48)) ∧ ((((w1.alloc (Obj.map #[] 0)).alloc (Obj.map #[] 0)).alloc (Obj.cells zcells 46)).alloc
      (Obj.cells #[Value.slice a n c, Value.map (some w1.heap.size), Value.map (some (w1.heap.size + 1)), Value.pointer (some { block := w1.heap.size + 1 + 1, off := 0 })] 48)).heap.size = w1.heap.size + 4 := by
  have old : ∀ (x : World) (o : Obj) (i : Nat), i < x.heap.size → (x.alloc o).heap[i]? = x.heap[i]? := fun x o i h => heap_alloc_old x o h
  have hE : ∀ (W : World), W = ((((w1.alloc (Obj.map #[] 0)).alloc (Obj.map #[] 0)).alloc (Obj.cells zcells 46)).alloc
      (Obj.cells #[Value.slice a n c, Value.map (some w1.heap.size), Value.map (some (w1.heap.size + 1)), Value.pointer (some { block := w1.heap.size + 1 + 1, off := 0 })] 48)) →
      W.heap[w1.heap.size]? = some (.map #[] 0) ∧ W.heap[w1.heap.size + 1]? = some (.map #[] 0) ∧ W.heap[w1.heap.size + 1 + 1]? = some (.cells zcells 46 (0, 0)) ∧
      W.heap[w1.heap.size + 1 + 1 + 1]? = some (.cells #[Value.slice a n c, Value.map (some w1.heap.size), Value.map (some (w1.heap.size + 1)), Value.pointer (some { block := w1.heap.size + 1 + 1, off := 0 })] 48 (0, 0)) ∧ Below w.heap.size w W := by
    rintro W rfl
    refine ⟨?_, ?_, ?_, ?_, hb.trans ((((((Below.refl _ w1).alloc (Nat.le_refl _) _).alloc (by simp) _).alloc (by simp; omega) _).alloc (by simp; omega) _).mono hb.size)⟩
    · rw [old _ _ _ (by simp; omega), old _ _ _ (by simp; omega), old _ _ _ (by simp)]; exact heap_alloc_new w1 _
    · rw [old _ _ _ (by simp), old _ _ _ (by simp)]
      have := heap_alloc_new (w1.alloc (Obj.map #[] 0)) (Obj.map #[] 0)
      simpa using this
    · rw [old _ _ _ (by simp)]
      have := heap_alloc_new ((w1.alloc (Obj.map #[] 0)).alloc (Obj.map #[] 0)) (Obj.cells zcells 46)
      simpa using this
    · have := heap_alloc_new (((w1.alloc (Obj.map #[] 0)).alloc (Obj.map #[] 0)).alloc (Obj.cells zcells 46)) (Obj.cells #[Value.slice a n c, Value.map (some w1.heap.size), Value.map (some (w1.heap.size + 1)), Value.pointer (some { block := w1.heap.size + 1 + 1, off := 0 })] 48)
      simpa using this
  obtain ⟨W, hW⟩ : ∃ W, W = ((((w1.alloc (Obj.map #[] 0)).alloc (Obj.map #[] 0)).alloc (Obj.cells zcells 46)).alloc
      (Obj.cells #[Value.slice a n c, Value.map (some w1.heap.size), Value.map (some (w1.heap.size + 1)), Value.pointer (some { block := w1.heap.size + 1 + 1, off := 0 })] 48)) := ⟨_, rfl⟩
  rw [← hW]
  have hsz : W.heap.size = w1.heap.size + 4 := by rw [hW]; simp
  obtain ⟨e1, e2, e3, e4, e5⟩ := hE W hW
  obtain ⟨l1, l2, l3⟩ := hl
  refine ⟨?_, e5, hsz⟩
  refine ⟨_, 0, [], e4, ⟨#[], 0, e2, rfl⟩, ?_, ⟨a, c, by rw [l1]; rfl, by omega, by omega, ?_⟩, ?_, ?_, ⟨#[], 0, e1, rfl, rfl⟩, ?_, Turn.refl _ _⟩
  · intro v n h; cases h
  · rcases l3 with h0 | ⟨b, off, h1, h2⟩
    · exact .inl (by omega)
    · refine .inr ⟨b, off, by simpa using h1, Nat.lt_of_lt_of_le h2.1 e5.size, fun k s hs => ?_⟩
      obtain ⟨x0, x1, x2⟩ := h2.2 k s hs
      exact ⟨(e5.cell (p := ⟨b, off + k * 3, none⟩) h2.1).trans x0, (e5.cell (p := ⟨b, off + k * 3 + 1, none⟩) h2.1).trans x1, (e5.cell (p := ⟨b, off + k * 3 + 2, none⟩) h2.1).trans x2⟩
  · intro a' n' c' h h0
    injection h with h h2
    subst h2
    exact hlo a' h h0
  · intro i s h; omega
  · exact ⟨List.replicate 4352 (Value.int .u16 0), _, e3, List.length_replicate, (fun p n h => by simp [tabAt] at h), World.ownsRow_nil _ _ _ _⟩

set_option maxRecDepth 100000 in
set_option maxHeartbeats 8000000 in
theorem build_any (a : Option Addr) (n c : Nat) (l : List S3) (hr : Right l) (hn : n ≤ 100000) (w : World) (hl : LAt w a n c l)
    (RC : Calls Try.prog 17 #[.slice a n c] w fun e w' => e = .returned (.bool true) ∧ Below w.heap.size w w') :
    Calls Try.prog 8 #[.slice a n c] w fun e w' => ∃ qt base, e = .returned (.pointer (some ⟨qt, 0, none⟩)) ∧ w.heap.size ≤ qt ∧ qt < base ∧ w.heap.size ≤ base ∧ TAt w' qt base (tabAt l 4352).1 (tabAt l 4352).2 ∧ Below w.heap.size w w' := by
  have HR := Lib.hid hr
  have HL := Lib.hid hl
  have HRC := Lib.hid RC
  have hbt := build_table
  have hmm := @run_makeMap Try.prog
  clear hr hl RC
  go_enter Try.func8, Try.ntmps8
  go_wp2_with fail
  refine HRC.out.mono ?_
  rintro e w1 ⟨rfl, hb1⟩
  have HB1 := Lib.hid hb1
  clear hb1 HRC
  have hlo : ∀ ad, a = some ad → 0 < n → ad.block < w.heap.size := fun ad h h0 => by
    rcases HL.out.2.2 with h1 | ⟨b, off, h1, h2⟩
    · omega
    · rw [h1] at h; injection h with h; subst h; exact h2.1
  have HM := Lib.hid (fact_made HL.out HB1.out hlo)
  have hs1 := HB1.out.size
  clear hlo
  go_upto_region 4 with fail
  generalize ((((w1.alloc (Obj.map #[] 0)).alloc (Obj.map #[] 0)).alloc (Obj.cells zcells 46)).alloc
      (Obj.cells #[Value.slice a n c, Value.map (some w1.heap.size), Value.map (some (w1.heap.size + 1)), Value.pointer (some { block := w1.heap.size + 1 + 1, off := 0 })] 48)) = w2 at *
  generalize zcells = zz at *
  obtain ⟨qb, hqb⟩ : ∃ qb, qb = w1.heap.size + 1 + 1 + 1 := ⟨_, rfl⟩
  obtain ⟨qt, hqt⟩ : ∃ qt, qt = w1.heap.size + 1 + 1 := ⟨_, rfl⟩
  obtain ⟨kb, hkb⟩ : ∃ kb, kb = w1.heap.size := ⟨_, rfl⟩
  obtain ⟨eb, heb⟩ : ∃ eb, eb = w1.heap.size + 1 := ⟨_, rfl⟩
  obtain ⟨base, hbase⟩ : ∃ base, base = w1.heap.size + 4 := ⟨_, rfl⟩
  have o0 := HM.out.2.2
  have l1 : qb < base := by omega
  have l2 : kb < base := by omega
  have l3 : qt < base := by omega
  have l4 : eb < base := by omega
  have hne : eb ≠ kb := by omega
  have hne2 : qb ≠ qt := by omega
  have o1 : w.heap.size ≤ qb := by omega
  have o2 : w.heap.size ≤ kb := by omega
  have o3 : w.heap.size ≤ eb := by omega
  have o4 : w.heap.size ≤ qt := by omega
  have o5 : base ≤ w2.heap.size := by omega
  have hll : l.length ≤ 100000 := by have := HL.out.1; omega
  rw [← hbase, ← hqb, ← hqt, ← heb, ← hkb] at HM
  rw [← hqb, ← hqt, ← heb, ← hkb]
  have HM1 := Lib.hid HM.out.1
  have HM2 := Lib.hid HM.out.2.1
  have hmx : Try.prog.follows .mixedOrders = true := by kernel_rfl
  clear HM hqb hqt hkb heb hbase o0 hs1 HB1 hmm
  go_wp2_with fail
  go_loopg [15] 4352 (fun gg i wr => ∃ p : Nat, 4352 - p = gg ∧ p ≤ 4352 ∧ i = .int .i64 p ∧ Hid (BuildR w2 qb kb eb qt base w.heap.size l p wr))
  case atStart => exact ⟨0, rfl, by omega, rfl, HM1⟩
  case round =>
    obtain ⟨p, rfl, hp, rfl, H⟩ := hrel
    by_cases hlt : p < 4352
    · obtain ⟨v, d, ev, hB, hE, hEV, hR, hLB, hd, hK, hT, hTu⟩ := H.out
      have hlt' : (p : Int) < 4352 := by omega
      have hw3 : base ≤ wr.heap.size := Nat.le_trans o5 hTu.size
      have e256 : (p : Int) * 256 = 256 * (p : Int) := by omega
      have hfs := (tab_len l p).1
      have HPG : Hid (∀ X, base ≤ X.heap.size → Turn (fun _ => False) wr X → Calls Try.prog 18 #[.pointer (some ⟨qb, 0, none⟩), .int .i64 (256 * (p : Int))] X fun e w' =>
        e = .returned (.int .u16 ((num (cont l (256 * (p : Int))) (tabAt l p).2).2 : Int)) ∧ ∃ v' d' ev', BAt w' qb v' kb eb qt ∧ EAt w' eb ev' ∧ EvOK ev' (tabAt l (p + 1)).2 ∧ RAt w' v' l d' ∧ LB v' w.heap.size ∧ (∀ (i : Nat) (s : S3), i < d' → l[i]? = some s → s.2.1 < 256 * ((p + 1 : Nat) : Int)) ∧
          KAt w' kb (tabAt l (p + 1)).2 ∧ TAt w' qt base (tabAt l p).1 (tabAt l (p + 1)).2 ∧ Turn (fun j => j = qb ∨ j = kb ∨ j = eb ∨ j = qt ∨ base ≤ j) w2 w') := Lib.hid fun X hX hTX => by
        refine (page_any numberC qb kb eb qt base w.heap.size v (tabAt l p).1 (tabAt l p).2 ev l HR.out hll d (256 * (p : Int)) (by omega) (by omega) X (hB.turn hTX id) (hK.turn hTX id) (hE.turn hTX id) (hT.turn hTX id (fun _ _ => id)) (hR.turn hLB hTX (fun _ _ => id)) hd
          (tab_ok l p).2 (tab_ok l p).1 hEV (by have := (tab_len l p).2; omega) l1 l2 l3 l4 hne hX hLB o1 o2 o3 o4).mono ?_
        rintro e w' ⟨rfl, ⟨v', d', ev', h1, h2, h3, h4, h5, h6⟩, h7, h8, h9⟩
        exact ⟨rfl, v', d', ev', h1, h2, h3, h4, h5, fun i s hi hs => by have := h6.2.1 i s hi hs; omega, h7, h8, (hTu.trans (hTX.mono (fun _ _ h => h.elim))).trans h9⟩
      have c3 := hB.c3
      clear hB hE hEV hR hLB hd hK hT hTu H hll
      go_upto_region 7 with fail
      refine region_begin3 (fun w' => w'.cell? ⟨qb, 3, none⟩ = some (.pointer (some ⟨qt, 0, none⟩))) (fun _ => false) 13 rfl hmx (by intro _ _ d _ _ h; cases d <;> exact h) fun hQP => ?_
      have hS : wr.drew.cell? ⟨qb, 3, none⟩ = some (.pointer (some ⟨qt, 0, none⟩)) := c3
      refine take_first2 0 (some 18) rfl rfl (by kernel_rfl) (by kernel_rfl) (by kernel_rfl) (by kernel_rfl) hQP hS (.inl ⟨by rfl, fun w' hw' => by have e0 : w'.cell? ⟨qb, 3, none⟩ = some (.pointer (some ⟨qt, 0, none⟩)) := hw'; go_simp; try with_reducible rfl⟩) ?_
      refine take_first2 1 (some 19) rfl rfl (by kernel_rfl) (by kernel_rfl) (by kernel_rfl) (by kernel_rfl) hQP hS (.inl ⟨by rfl, fun w' hw' => by have e0 : w'.cell? ⟨qb, 3, none⟩ = some (.pointer (some ⟨qt, 0, none⟩)) := hw'; go_simp; try with_reducible rfl⟩) ?_
      refine take_first2 2 (some 20) rfl rfl (by kernel_rfl) (by kernel_rfl) (by kernel_rfl) (by kernel_rfl) hQP hS (.inl ⟨by rfl, fun w' hw' => by have e0 : w'.cell? ⟨qb, 3, none⟩ = some (.pointer (some ⟨qt, 0, none⟩)) := hw'; go_simp; try with_reducible rfl⟩) ?_
      refine take_first2 3 (some 21) rfl rfl (by kernel_rfl) (by kernel_rfl) (by kernel_rfl) (by kernel_rfl) hQP hS (.inl ⟨by rfl, fun w' hw' => by have e0 : w'.cell? ⟨qb, 3, none⟩ = some (.pointer (some ⟨qt, 0, none⟩)) := hw'; go_simp; try with_reducible rfl⟩) ?_
      refine take_first2 4 (some 22) rfl rfl (by kernel_rfl) (by kernel_rfl) (by kernel_rfl) (by kernel_rfl) hQP hS (.inl ⟨by rfl, fun w' hw' => by have e0 : w'.cell? ⟨qb, 3, none⟩ = some (.pointer (some ⟨qt, 0, none⟩)) := hw'; go_simp; try with_reducible rfl⟩) ?_
      refine take_first2 5 (some 23) rfl rfl (by kernel_rfl) (by kernel_rfl) (by kernel_rfl) (by kernel_rfl) hQP hS (.inl ⟨by rfl, fun w' hw' => by have e0 : w'.cell? ⟨qb, 3, none⟩ = some (.pointer (some ⟨qt, 0, none⟩)) := hw'; go_simp; try with_reducible rfl⟩) ?_
      refine take_first2 6 (some 24) rfl rfl (by kernel_rfl) (by kernel_rfl) (by kernel_rfl) (by kernel_rfl) hQP hS (.inl ⟨by rfl, fun w' hw' => by have e0 : w'.cell? ⟨qb, 3, none⟩ = some (.pointer (some ⟨qt, 0, none⟩)) := hw'; go_simp; try with_reducible rfl⟩) ?_
      refine take_first2 7 (some 25) rfl rfl (by kernel_rfl) (by kernel_rfl) (by kernel_rfl) (by kernel_rfl) hQP hS (.inl ⟨by rfl, fun w' hw' => by have e0 : w'.cell? ⟨qb, 3, none⟩ = some (.pointer (some ⟨qt, 0, none⟩)) := hw'; go_simp; try with_reducible rfl⟩) ?_
      refine take_first2 9 (some 27) rfl rfl (by kernel_rfl) (by kernel_rfl) (by kernel_rfl) (by kernel_rfl) hQP hS (.inl ⟨by rfl, fun w' hw' => by have e0 : w'.cell? ⟨qb, 3, none⟩ = some (.pointer (some ⟨qt, 0, none⟩)) := hw'; go_simp; try with_reducible rfl⟩) ?_
      refine take_first2 10 (some 28) rfl rfl (by kernel_rfl) (by kernel_rfl) (by kernel_rfl) (by kernel_rfl) hQP hS (.inl ⟨by rfl, fun w' hw' => by have e0 : w'.cell? ⟨qb, 3, none⟩ = some (.pointer (some ⟨qt, 0, none⟩)) := hw'; go_simp; try with_reducible rfl⟩) ?_
      refine take_one (i := 8) (by kernel_rfl) rfl rfl fun K hK => ?_
      go_wp2_with fail
      refine (HPG.out wr.drew hw3 (Turn.drew _ _)).mono ?_
      rintro e w3 ⟨rfl, v', d', ev', hB, hE, hEV, hR, hLB, hd, hK', hT, hTu⟩
      have c3 := hB.c3
      have hS : w3.cell? ⟨qb, 3, none⟩ = some (.pointer (some ⟨qt, 0, none⟩)) := c3
      have HR2 : Hid (BuildR w2 qb kb eb qt base w.heap.size l (p + 1) (w3.setCell ⟨qt, p, none⟩ (.int .u16 ((num (cont l (256 * (p : Int))) (tabAt l p).2).2 : Int)))) := Lib.hid (by
        have T : Turn (fun j => j = qt) w3 (w3.setCell ⟨qt, p, none⟩ (.int .u16 ((num (cont l (256 * (p : Int))) (tabAt l p).2).2 : Int))) := Turn.setCell _ _ rfl
        refine ⟨v', d', ev', hB.turn T hne2, hE.turn T (e_ne_t hE hT), hEV, hR.turn hLB T (fun j h e => by omega), hLB, hd, hK'.turn T (fun e => by obtain ⟨es, clk, h1, _⟩ := hK'; obtain ⟨fc, bv, h2, _⟩ := hT; rw [e, h2] at h1; cases h1), ?_, hTu.trans (T.mono (fun _ _ h => .inr (.inr (.inr (.inl h)))))⟩
        have := tat_store hT l3 (n := (num (cont l (256 * (p : Int))) (tabAt l p).2).2) (by omega)
        rw [hfs] at this
        exact this)
      have hf : w3.frozen? ⟨qt, p, none⟩ = false := by
        obtain ⟨fc, bv, h2, _⟩ := hT
        simp [World.frozen?, h2]
      have hx : ∃ y, w3.cell? ⟨qt, p, none⟩ = some y := by
        obtain ⟨fc, bv, h2, h4, _⟩ := hT
        have hl : p < (fc ++ [bv]).length := by simp; omega
        exact ⟨(fc ++ [bv])[p], by simp [World.cell?, h2, hl]⟩
      obtain ⟨y, hy⟩ := hx
      clear hB hE hEV hR hLB hd hK' hT hTu e256
      generalize hnn : (num (cont l (256 * (p : Int))) (tabAt l p).2).2 = nn at *
      refine hK _ _ (.inr hS) ?_
      clear hK
      refine take_one (i := 11) (by kernel_rfl) rfl rfl fun K hK => ?_
      go_wp2_with fail
      refine hK _ _ (.inr hS) ?_
      clear hK
      refine take_one (i := 12) (by kernel_rfl) rfl rfl fun K hK => ?_
      go_wp2_with fail
      have T9 : Turn (fun j => j = qt) w3 (w3.setCell ⟨qt, p, none⟩ (.int .u16 (nn : Int))) := Turn.setCell _ _ rfl
      refine hK _ _ (.inr (T9.cell hS (fun e => hne2 e))) ?_
      clear hK T9
      refine take_done (by kernel_rfl) ?_ _
      go_wp2_with fail
      go_roundg (4352 - (p + 1))
      case measure => omega
      case rel => exact ⟨p + 1, rfl, by omega, by go_num, HR2⟩
    · obtain rfl : p = 4352 := by omega
      obtain ⟨v, d, ev, hB, hE, hEV, hR, hLB, hd, hK, hT, hTu⟩ := H.out
      have c3 := hB.c3
      have HTF := Lib.hid hT
      have HBF : Hid (Below w.heap.size w wr) := Lib.hid (HM2.out.trans (hTu.below (by omega) (fun k h => by omega)))
      clear hB hE hEV hR hLB hd hK hT hTu H
      go_wp2_with fail
      go_ret
      exact ⟨qt, base, rfl, o4, l3, by omega, HTF.out, HBF.out⟩
end Go.Proofs.Ytpeniadomjijcaa.Pack

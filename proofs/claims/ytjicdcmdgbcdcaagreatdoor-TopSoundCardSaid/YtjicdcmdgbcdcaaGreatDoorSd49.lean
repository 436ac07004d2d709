/-
  A screen that lives beyond a bound of blocks; screen.Run at bytes.
  bound.Used.
  play.Final at bytes; linotypetop.plays.
-/
import Derived.Test.YtjicdcmdgbcdcaaGreatDoorSd22
import Derived.Test.YtjicdcmdgbcdcaaGreatDoorSd30
import Derived.Test.YtjicdcmdgbcdcaaGreatDoorSd32
import Derived.Test.YtjicdcmdgbcdcaaGreatDoorSd40
import Derived.Test.YtjicdcmdgbcdcaaGreatDoorSd48

section
namespace Go.Proofs.YtjicdcmdgbcdcaaGreatDoor.Scr
set_option linter.unusedSimpArgs false
set_option linter.unusedVariables false
open Go Go.RowKit Mem Turn Ring

def VarsN (N : Nat) (w0 : World) : Prop := Vars w0 ∧ 3 < N ∧ 4 < N ∧ N ≤ w0.heap.size
theorem VarsN.turn {N : Nat} {w0 w : World} (h : VarsN N w0) (hb : Below N w0 w) : VarsN N w := by
  obtain ⟨⟨⟨t1, v1, h1⟩, t2, v2, h2⟩, h3, h4, h5⟩ := h
  refine ⟨⟨⟨t1, v1, ?_⟩, t2, v2, ?_⟩, h3, h4, Nat.le_trans h5 hb.size⟩
  · exact (hb.cell (p := ⟨3, 0, none⟩) h3).trans h1
  · exact (hb.cell (p := ⟨4, 0, none⟩) h4).trans h2
theorem VarsN.x {N : Nat} {w : World} {X : Nat → Prop} (h : VarsN N w) (hX : ∀ b, X b → N ≤ b) : VarsX w X :=
  ⟨h.1, by have := h.2.1; have := h.2.2.2; omega, by have := h.2.2.1; have := h.2.2.2; omega, fun e => by have := hX _ e; have := h.2.1; omega, fun e => by have := hX _ e; have := h.2.2.1; omega⟩
/-- the screen s at σ, whose blocks lie beyond N; below N all is as in w0 -/
structure Live (N : Nat) (w0 w : World) (σ : Nat) (s : ScrC) : Prop where
  at_ : ∃ X, ScrAt w X σ s ∧ ∀ b, X b → N ≤ b
  ok : FeedOK s.f s.W
  bel : Below N w0 w
theorem Live.below {N : Nat} {w0 w w' : World} {σ : Nat} {s : ScrC} (h : Live N w0 w σ s) (hN : N ≤ w0.heap.size) (hb : Below w.heap.size w w') : Live N w0 w' σ s := by
  obtain ⟨⟨X, h1, h2⟩, h3, h4⟩ := h
  exact ⟨⟨X, h1.below hb, h2⟩, h3, h4.trans (hb.mono (by have := h4.size; omega))⟩
/-- bytes that lie below N -/
def Lies (N : Nat) (w0 : World) (ba : Option Addr) (n : Nat) (l : List Int) : Prop := ∀ w', Below N w0 w' → Same.Ints .u8 w' ba n l

theorem live_do {N : Nat} {w0 w : World} {σ : Nat} {s : ScrC} (h : Live N w0 w σ s) (hv : VarsN N w0) (o : OpC) (ba : Option Addr) (n bc : Nat) (hn : o.bytes.length = n) (hin : Lies N w0 ba n o.bytes) (hr : OpRng o) :
    Calls Tryz.prog 8 #[ptr σ, opV o.kind o.a o.b (.slice ba n bc)] w fun e w' => RetN o.kind e ∧ Live N w0 w' σ (doS s o) := by
  obtain ⟨⟨X, h1, h2⟩, h3, h4⟩ := h
  have hs := h4.size
  have hN := hv.2.2.2
  have hvw := hv.turn h4
  refine (sdo_any X σ s o.kind o.a o.b ba n bc o.bytes w h1 h3 (hvw.x h2) (fun w' ht => ?_) hr.bs (by have := hr.len; omega) hr.a1 hr.a2).mono ?_
  · exact hin w' (h4.trans (ht.below (by omega) h2))
  · rintro e w' ⟨hret, X', hs', hx', ht⟩
    refine ⟨hret, ⟨X', hs', fun b hb => ?_⟩, doS_ok h3 o hr.bs, h4.trans (ht.below (by omega) h2)⟩
    rcases hx' b hb with e | e
    · exact h2 b e
    · omega
theorem live_view {N : Nat} {w0 w : World} {σ : Nat} {s : ScrC} (h : Live N w0 w σ s) :
    Calls Tryz.prog 9 #[ptr σ] w fun e w' => ∃ v, e = .returned (viewV s v) ∧ OwnLines w.heap.size w' v s.f.pen.rows ∧ Below w.heap.size w w' := by
  obtain ⟨⟨X, h1, h2⟩, h3, h4⟩ := h
  exact view_any X σ s w h1 h3.pen.w2
theorem live_new (wd ht : Int) (w : World) :
    Calls Tryz.prog 7 #[.int .i64 wd, .int .i64 ht] w fun e w' => ∃ σ, e = .returned (ptr σ) ∧ Live w.heap.size w w' σ (newS wd ht) ∧ w.heap.size ≤ σ := by
  refine (snew_any wd ht w).mono ?_
  rintro e w' ⟨σ, rfl, h1, h2, h3⟩
  exact ⟨σ, rfl, ⟨⟨_, h1, fun b hb => hb.1⟩, newS_ok wd ht, h3⟩, h2⟩

theorem IsOps.range {w : World} {a : Option Addr} {n c : Nat} {ops : List OpC} (h : IsOps w a n c ops) {k : Nat} {o : OpC} (ho : ops[k]? = some o) : ∃ b off ba bc, a = some ⟨b, off, none⟩ ∧ w.rangeAt b (off + k * 4) [.int .i64 o.kind, .int .i64 o.a, .int .i64 o.b, .slice ba o.bytes.length bc] ∧ Same.Ints .u8 w ba o.bytes.length o.bytes ∧ OpRng o := by
  obtain ⟨h1, h2, h3, h4, h5⟩ := h
  have hk := (List.getElem?_eq_some_iff.1 ho).1
  obtain ⟨b, off, rfl, hb, hc⟩ := h5.resolve_left (by omega)
  obtain ⟨c0, c1, c2, ba, bc, c3, c4, c5⟩ := hc k o ho
  refine ⟨b, off, ba, bc, rfl, fun j v hj => ?_, c5, h4 o (List.mem_of_getElem? ho)⟩
  rcases j with _ | _ | _ | _ | j
  · injection hj with e; subst e; exact c0
  · injection hj with e; subst e; exact c1
  · injection hj with e; subst e; exact c2
  · injection hj with e; subst e; exact c3
  · simp at hj
theorem IsOps.lies {w : World} {a : Option Addr} {n c : Nat} {ops : List OpC} (h : IsOps w a n c ops) {k : Nat} {o : OpC} (ho : ops[k]? = some o) : ∃ b off ba bc, a = some ⟨b, off, none⟩ ∧ b < w.heap.size ∧ (∀ w', Below w.heap.size w w' → w'.rangeAt b (off + k * 4) [.int .i64 o.kind, .int .i64 o.a, .int .i64 o.b, .slice ba o.bytes.length bc]) ∧ Lies w.heap.size w ba o.bytes.length o.bytes ∧ OpRng o := by
  obtain ⟨b, off, ba, bc, rfl, h1, h2, h3⟩ := h.range ho
  have hb : b < w.heap.size := World.block_lt_of_cell? _ _ (h1 0 _ rfl)
  exact ⟨b, off, ba, bc, rfl, hb, fun w' hw j v hj => (hw.cell (p := ⟨b, off + k * 4 + j, none⟩) hb).trans (h1 j v hj), fun w' hw => h2.below hw, h3⟩

set_option maxRecDepth 100000 in
set_option maxHeartbeats 16000000 in
/-- Run where all operations bring bytes -/
theorem run_feeds (w0 : World) (σ : Nat) (s : ScrC) (a : Option Addr) (n c : Nat) (ops : List OpC) (w : World) (hv : VarsN w0.heap.size w0) (ho : IsOps w0 a n c ops) (h0 : ∀ o ∈ ops, o.kind = 0) (h : Live w0.heap.size w0 w σ s) :
    Calls Tryz.prog 64 #[ptr σ, .slice a n c] w fun e w' => e = .returned .nilIface ∧ Live w0.heap.size w0 w' σ (ops.foldl doS s) := by
  have HV := Lib.hid hv
  have HO := Lib.hid ho
  have H0 := Lib.hid h0
  have HI := Lib.hid h
  have hn := ho.1
  have hnb := ho.2.2.1
  have HN := Lib.hid hn
  clear hv ho h0 h hn
  go_enter Tryz.func64, Tryz.ntmps64
  go_wp2_with fail
  go_loopg [5, 6, 7, 8, 11] n (fun gg v5 v6 v7 v8 v11 wx => ∃ k : Nat, n - k = gg ∧ k ≤ n ∧ v5 = .nilIface ∧ v11 = .int .i64 (k : Int) ∧ Hid (Live w0.heap.size w0 wx σ ((ops.take k).foldl doS s)))
  case atStart => exact ⟨0, rfl, Nat.zero_le _, rfl, rfl, HI⟩
  case round =>
    obtain ⟨k, rfl, hk, rfl, rfl, H⟩ := hrel
    by_cases hlt : k < n
    · have hlt' : (k : Int) < (n : Int) := by omega
      obtain ⟨o, hok⟩ : ∃ o, ops[k]? = some o := ⟨_, List.getElem?_eq_getElem (by rw [HN.out]; exact hlt)⟩
      obtain ⟨b, off, ba, bc, rfl, hb, hrg, hin, hr⟩ := HO.out.lies hok
      have hrr := hrg wr H.out.bel
      have hk0 := H0.out o (List.mem_of_getElem? hok)
      obtain ⟨m, hm⟩ : ∃ m, o.bytes.length = m := ⟨_, rfl⟩
      rw [hm] at hrr hin
      have hnew : (wr.alloc (.cells (opA 0 0 0 (.slice none 0 0)) 30)).heap[wr.heap.size]? = some (.cells (opA 0 0 0 (.slice none 0 0)) 30 (0, 0)) := heap_alloc_new wr _
      have hrow : (wr.alloc (.cells (opA 0 0 0 (.slice none 0 0)) 30)).setRow wr.heap.size (opA o.kind o.a o.b (.slice ba m bc)) = wr.alloc (.cells (opA o.kind o.a o.b (.slice ba m bc)) 30) := World.setRow_alloc_new wr _ _ _
      have HDO := Lib.hid (fun (w : World) (h : Live w0.heap.size w0 w σ ((ops.take k).foldl doS s)) => live_do h HV.out o ba m bc hm hin hr)
      have HOK := Lib.hid hok
      have HK0 := Lib.hid hk0
      have hnew2 := heap_alloc_new wr (.cells (opA o.kind o.a o.b (.slice ba m bc)) 30)
      have HL2 : Hid (Live w0.heap.size w0 (wr.alloc (.cells (opA o.kind o.a o.b (.slice ba m bc)) 30)) σ ((ops.take k).foldl doS s)) := Lib.hid (H.out.below (Nat.le_refl _) ((Below.refl _ _).alloc (Nat.le_refl _) _))
      clear hrg hin hr hok hk0 hm
      go_upto_region 5 with (first | (refine wpList_load_mid rfl 30 _ rfl b (off + k * 4) rfl [.int .i64 o.kind, .int .i64 o.a, .int .i64 o.b, .slice ba m bc] _ hrr Tryz.underlying30 rfl (size_op _ _ _ _) ?_) | (refine wpList_store_row rfl 30 _ _ rfl wr.heap.size (opA o.kind o.a o.b (.slice ba m bc)) rfl rfl _ _ hnew (size_op _ _ _ _) rfl (by simp [Value.oneCell']) ?_))
      rw [hrow]
      generalize (wr.alloc (.cells (opA o.kind o.a o.b (.slice ba m bc)) 30)) = w4 at *
      generalize wr.heap.size = nb at *
      have HDO2 := Lib.hid (HDO.out w4 HL2.out)
      have HNEW := Lib.hid hnew2
      clear hnew hrow hrr HDO HL2 hnew2 H
      go_wp2_with (refine wpList_load_row rfl 30 _ rfl nb rfl _ (opA o.kind o.a o.b (.slice ba m bc)) (0, 0) _ HNEW.out Tryz.underlying30 rfl (size_op _ _ _ _) ?_)
      refine HDO2.out.mono ?_
      rintro e w5 ⟨⟨v, rfl, hvn⟩, hl⟩
      obtain rfl := hvn HK0.out
      have HL : Hid (Live w0.heap.size w0 w5 σ ((ops.take (k + 1)).foldl doS s)) := Lib.hid (by
        rw [List.take_add_one, HOK.out, List.foldl_append]
        exact hl)
      clear hl hvn HDO2
      go_wp2_with fail
      go_roundg (n - (k + 1))
      case measure => omega
      case rel => exact ⟨k + 1, rfl, by omega, rfl, by go_num, HL⟩
    · obtain rfl : k = n := by omega
      have HL : Hid (Live w0.heap.size w0 wr σ (ops.foldl doS s)) := Lib.hid (by
        have := H.out
        rw [List.take_of_length_le (by rw [HN.out]; exact Nat.le_refl _)] at this
        exact this)
      clear H
      go_wp2_with fail
      go_ret
      exact ⟨rfl, HL.out⟩
end Go.Proofs.YtjicdcmdgbcdcaaGreatDoor.Scr
end
section
namespace Go.Proofs.YtjicdcmdgbcdcaaGreatDoor.Scr
set_option linter.unusedSimpArgs false
set_option linter.unusedVariables false
open Go Go.RowKit Mem Turn Ring

theorem usedL_snoc (l : List CellC) (j : Nat) (x : CellC) (h : l[j]? = some x) : usedL (l.take (j + 1)) = usedL (l.take j) + x.2.length := by
  unfold usedL
  rw [List.take_add_one, h]
  simp
theorem usedR_snoc (L : List LineC) (k : Nat) (l : LineC) (h : L[k]? = some l) : usedR (L.take (k + 1)) = usedR (L.take k) + usedL l.1 := by
  unfold usedR
  rw [List.take_add_one, h]
  simp
theorem sum_take_le (l : List Nat) (j : Nat) : (l.take j).sum ≤ l.sum := by
  induction l generalizing j with
  | nil => simp
  | cons x l ih =>
    cases j with
    | zero => simp
    | succ j => simp only [List.take_succ_cons, List.sum_cons]; have := ih j; omega
theorem usedL_take (l : List CellC) (j : Nat) : usedL (l.take j) ≤ usedL l := by
  unfold usedL
  rw [List.map_take]
  exact sum_take_le _ _
theorem usedR_take (L : List LineC) (k : Nat) : usedR (L.take k) ≤ usedR L := by
  unfold usedR
  rw [List.map_take]
  exact sum_take_le _ _
theorem flatL_get2 {l : List (Value × Bool)} {k : Nat} {r : Value × Bool} (h : l[k]? = some r) : (flatL l)[k * 2]? = some r.1 ∧ (flatL l)[k * 2 + 1]? = some (.bool r.2) := by
  induction l generalizing k with
  | nil => cases h
  | cons x l ih =>
    cases k with
    | zero =>
      simp at h
      subst h
      simp [flatL]
    | succ k =>
      obtain ⟨a, b⟩ := ih (k := k) (by simpa using h)
      rw [show (k + 1) * 2 = k * 2 + 1 + 1 from by omega]
      exact ⟨by simpa [flatL] using a, by simpa [flatL] using b⟩
theorem OwnLines.at_ {B : Nat} {w : World} {v : Value} {L : List LineC} (h : OwnLines B w v L) : ∃ a c, v = .slice a L.length c ∧ L.length ≤ c ∧ ∀ (k : Nat) (l : LineC), L[k]? = some l → ∃ g cv, a = some ⟨g, 0, none⟩ ∧ w.cell? ⟨g, k * 2, none⟩ = some cv ∧ w.cell? ⟨g, k * 2 + 1, none⟩ = some (.bool l.2) ∧ CellsT w cv l.1 := by
  obtain ⟨rs, h1, h2⟩ := h
  obtain ⟨a, c, rfl, h3, h4⟩ := own_form h1
  refine ⟨a, c, rfl, h3, fun k l hl => ?_⟩
  have hk := (List.getElem?_eq_some_iff.1 hl).1
  obtain ⟨g, rfl, _, _, _, _, hc⟩ := h4.resolve_left (by omega)
  obtain ⟨r, hr⟩ : ∃ r, rs[k]? = some r := ⟨_, List.getElem?_eq_getElem (by rw [h2.1]; exact hk)⟩
  obtain ⟨e1, e2⟩ := h2.2 k r l hr hl
  obtain ⟨g1, g2⟩ := flatL_get2 hr
  exact ⟨g, r.1, rfl, hc _ _ g1, by rw [hc _ _ g2, e1], e2⟩
theorem OwnLines.below {B : Nat} {w w' : World} {v : Value} {L : List LineC} (h : OwnLines B w v L) (hb : Below w.heap.size w w') : OwnLines B w' v L := by
  obtain ⟨rs, h1, h2⟩ := h
  have T : Turn (fun _ => False) w w' := Turn.of_new hb
  exact ⟨rs, T.kept h1 (fun _ _ => id), h2.turn T (Free.no _ _) (Free.no _ _)⟩
theorem CellsT.below {w w' : World} {v : Value} {cs : List CellC} (h : CellsT w v cs) (hb : Below w.heap.size w w') : CellsT w' v cs :=
  h.turn (Turn.of_new hb : Turn (fun _ => False) w w') (Free.no _ _) (Free.no _ _)
theorem CellsT.get {w : World} {v : Value} {cs : List CellC} (h : CellsT w v cs) : ∃ a c, v = .slice a cs.length c ∧ (cs.length ≤ c ∧ cs.length ≤ 4398046511104) ∧ ∀ (j : Nat) (x : CellC), cs[j]? = some x → ∃ b off a' c', a = some ⟨b, off, none⟩ ∧ w.cell? ⟨b, off + j * 2, none⟩ = some (.int .i64 x.1) ∧ w.cell? ⟨b, off + j * 2 + 1, none⟩ = some (.slice a' x.2.length c') := by
  obtain ⟨a, c, e1, e2, e3, e4⟩ := h
  refine ⟨a, c, e1, ⟨e2, by omega⟩, fun j x hx => ?_⟩
  have hj := (List.getElem?_eq_some_iff.1 hx).1
  obtain ⟨b, off, e, _, _, hc⟩ := e4.resolve_left (by omega)
  obtain ⟨g1, _, tv, g3, a', c', g4, _⟩ := hc j x hx
  exact ⟨b, off, a', c', e, g1, by rw [g3, g4]⟩

set_option maxRecDepth 100000 in
set_option maxHeartbeats 16000000 in
theorem used_any (B : Nat) (wd ht : Int) (lv : Value) (r c : Int) (pb au : Bool) (L : List LineC) (w : World) (h : OwnLines B w lv L) (hU : usedR L ≤ 16777216) (hLn : L.length ≤ 100000) :
    Calls Tryz.prog 11 #[.agg (viewA wd ht lv r c pb au)] w fun e w' => e = .returned (.int .i64 (usedR L : Int)) ∧ Below w.heap.size w w' := by
  obtain ⟨a, cc, rfl, hc, _⟩ := h.at_
  obtain ⟨n, hn⟩ : ∃ n, L.length = n := ⟨_, rfl⟩
  have HN := Lib.hid hn
  have HH := Lib.hid h
  have HU := Lib.hid hU
  rw [hn] at hc hLn ⊢
  have hb1 : Below w.heap.size w (w.alloc (.cells (viewA wd ht (.slice a n cc) r c pb au) 38)) := (Below.refl _ _).alloc (Nat.le_refl _) _
  have HB1 := Lib.hid hb1
  have hv2 : (w.alloc (.cells (viewA wd ht (.slice a n cc) r c pb au) 38)).cell? ⟨w.heap.size, 2, none⟩ = some (.slice a n cc) := by
    have e1 := heap_alloc_new w (.cells (viewA wd ht (.slice a n cc) r c pb au) 38)
    simp only [World.cell?, e1]
    rfl
  clear h hn hU hb1
  go_enter Tryz.func11, Tryz.ntmps11
  go_upto_region 1 with fail
  generalize (w.alloc (.cells (viewA wd ht (.slice a n cc) r c pb au) 38)) = w1 at *
  go_wp2_with fail
  clear hv2
  go_loopg [3, 5, 7, 11, 16, 17, 18] n (fun gg v3 v5 v7 i v16 v17 v18 wx => ∃ k u : Nat, n - k = gg ∧ k ≤ n ∧ i = .int .i64 k ∧ v3 = .int .i64 (u : Int) ∧ Hid (u = usedR (L.take k) ∧ Below w.heap.size w wx))
  case atStart => exact ⟨0, 0, rfl, Nat.zero_le _, rfl, rfl, Lib.hid ⟨rfl, HB1.out⟩⟩
  case round =>
    obtain ⟨k, u, rfl, hk, rfl, rfl, H⟩ := hrel
    obtain ⟨hu, hbw⟩ := H.out
    have HB := Lib.hid hbw
    by_cases hlt : k < n
    · have hlt' : (k : Int) < (n : Int) := by omega
      obtain ⟨l, hl⟩ : ∃ l, L[k]? = some l := ⟨_, List.getElem?_eq_getElem (by rw [HN.out]; exact hlt)⟩
      obtain ⟨a', c', e, _, hg⟩ := (HH.out.below hbw).at_
      injection e with e eq1 eq2
      subst e
      clear eq1 eq2
      obtain ⟨g, cv, rfl, x0, x1, hct⟩ := hg k l hl
      obtain ⟨a2, c2, rfl, hc2, hcc⟩ := hct.get
      have HUS := Lib.hid (usedR_snoc L k l hl)
      have hut := usedR_take L (k + 1)
      have HUB : Hid (u + usedL l.1 ≤ 16777216) := Lib.hid (by have := HU.out; have := HUS.out; omega)
      have HU0 := Lib.hid hu
      obtain ⟨m, hm⟩ : ∃ m, l.1.length = m := ⟨_, rfl⟩
      rw [hm] at hc2 x0 hct
      have HM := Lib.hid hm
      obtain ⟨ls, lb⟩ := l
      simp only at x1 HM HUS HUB hct
      have T2 : Turn (fun _ => False) wr (wr.alloc (.cells #[.slice a2 m c2, .bool lb] 45)) := Turn.alloc _ _ _
      have HB2 : Hid (Below w.heap.size w (wr.alloc (.cells #[.slice a2 m c2, .bool lb] 45))) := Lib.hid (hbw.alloc hbw.size _)
      have HCT := Lib.hid (hct.turn T2 (Free.no _ _) (Free.no _ _))
      have hnew : (wr.alloc (.cells #[.slice none 0 0, .bool false] 45)).heap[wr.heap.size]? = some (.cells #[.slice none 0 0, .bool false] 45 (0, 0)) := heap_alloc_new wr _
      have hrow : (wr.alloc (.cells #[.slice none 0 0, .bool false] 45)).setRow wr.heap.size #[.slice a2 m c2, .bool lb] = wr.alloc (.cells #[.slice a2 m c2, .bool lb] 45) := World.setRow_alloc_new wr _ _ _
      have e2 := heap_alloc_new wr (.cells #[.slice a2 m c2, .bool lb] 45)
      clear hg hcc hct T2 hl hm hu hbw H HB hut
      go_upto_region 5 with (refine wpList_store_row rfl 45 _ _ rfl wr.heap.size #[.slice a2 m c2, .bool lb] rfl rfl _ _ hnew (size_line _ _) rfl (one_line _ _ _ _) ?_)
      rw [hrow]
      have q0 : (wr.alloc (.cells #[.slice a2 m c2, .bool lb] 45)).cell? ⟨wr.heap.size, 0, none⟩ = some (.slice a2 m c2) := by
        simp only [World.cell?, e2]
        rfl
      generalize (wr.alloc (.cells #[.slice a2 m c2, .bool lb] 45)) = w4 at *
      generalize wr.heap.size = nb at *
      clear e2 hnew hrow x0 x1
      generalize wr = wq at *
      go_wp2_with fail
      clear q0
      go_loopg [3, 7, 18] m (fun gg v3 v7 i wx => ∃ j v : Nat, m - j = gg ∧ j ≤ m ∧ i = .int .i64 j ∧ v3 = .int .i64 (v : Int) ∧ Hid (v = u + usedL (ls.take j) ∧ Below w4.heap.size w4 wx))
      case atStart => exact ⟨0, u, rfl, Nat.zero_le _, rfl, rfl, Lib.hid ⟨by simp [usedL], Below.refl _ _⟩⟩
      case round =>
        obtain ⟨j, v, rfl, hj, rfl, rfl, H⟩ := hrel
        obtain ⟨hv, hbw⟩ := H.out
        by_cases hjm : j < m
        · have hjm' : (j : Int) < (m : Int) := by omega
          obtain ⟨x, hx⟩ : ∃ x, ls[j]? = some x := ⟨_, List.getElem?_eq_getElem (by rw [HM.out]; exact hjm)⟩
          obtain ⟨a3, c3, e, _, hg⟩ := (HCT.out.below hbw).get
          injection e with e eq1 eq2
          subst e
          clear eq1 eq2
          obtain ⟨b, off, a4, c4, rfl, x0, x1⟩ := hg j x hx
          have HUS2 := Lib.hid (usedL_snoc ls j x hx)
          have hut := usedL_take ls (j + 1)
          obtain ⟨kd, tx⟩ := x
          simp only at x0 x1 HUS2
          obtain ⟨t, ht⟩ : ∃ t, tx.length = t := ⟨_, rfl⟩
          rw [ht] at x1 HUS2
          obtain ⟨v2, hv2⟩ : ∃ v2, v2 = v + t := ⟨_, rfl⟩
          have hwv : IntKind.i64.wrap ((v : Int) + (t : Int)) = (v2 : Int) := by
            have h1 := HUB.out
            have h2 := HUS2.out
            rw [IntKind.wrap_i64]
            omega
          have HV2 : Hid (v2 = u + usedL (ls.take (j + 1))) := Lib.hid (by have := HUS2.out; omega)
          replace hv2 := Lib.hid hv2
          have hnew : (wr.alloc (.cells #[.int .i64 0, .slice none 0 0] 80)).heap[wr.heap.size]? = some (.cells #[.int .i64 0, .slice none 0 0] 80 (0, 0)) := heap_alloc_new wr _
          have hrow : (wr.alloc (.cells #[.int .i64 0, .slice none 0 0] 80)).setRow wr.heap.size #[.int .i64 kd, .slice a4 t c4] = wr.alloc (.cells #[.int .i64 kd, .slice a4 t c4] 80) := World.setRow_alloc_new wr _ _ _
          have e2 := heap_alloc_new wr (.cells #[.int .i64 kd, .slice a4 t c4] 80)
          have HB5 : Hid (Below w4.heap.size w4 (wr.alloc (.cells #[.int .i64 kd, .slice a4 t c4] 80))) := Lib.hid (hbw.alloc hbw.size _)
          clear hg hx ht hv hbw H hut
          go_upto_region 8 with (refine wpList_store_row rfl 80 _ _ rfl wr.heap.size #[.int .i64 kd, .slice a4 t c4] rfl rfl _ _ hnew (size_cell _ _) rfl (one_cell _ _ _ _) ?_)
          rw [hrow]
          have q1 : (wr.alloc (.cells #[.int .i64 kd, .slice a4 t c4] 80)).cell? ⟨wr.heap.size, 1, none⟩ = some (.slice a4 t c4) := by
            simp only [World.cell?, e2]
            rfl
          generalize (wr.alloc (.cells #[.int .i64 kd, .slice a4 t c4] 80)) = w5 at *
          clear e2 hnew hrow x0 x1
          go_wp2_with fail
          go_roundg (m - (j + 1))
          case measure => omega
          case rel => exact ⟨j + 1, v2, rfl, by omega, by go_num, by go_num, Lib.hid ⟨HV2.out, HB5.out⟩⟩
        · obtain rfl : j = m := by omega
          have HF : Hid (v = usedR (L.take (k + 1)) ∧ Below w.heap.size w wr) := Lib.hid (by
            refine ⟨?_, HB2.out.trans (hbw.mono HB2.out.size)⟩
            rw [hv, List.take_of_length_le (by rw [HM.out]; exact Nat.le_refl _), HUS.out, HU0.out])
          clear hv hbw H
          go_wp2_with fail
          go_roundg (n - (k + 1))
          case measure => omega
          case rel => exact ⟨k + 1, v, rfl, by omega, by go_num, by go_num, HF⟩
    · obtain rfl : k = n := by omega
      have HF : Hid (u = usedR L) := Lib.hid (by
        rw [hu, List.take_of_length_le (by rw [HN.out]; exact Nat.le_refl _)])
      clear hu hbw H
      go_wp2_with fail
      go_ret
      exact ⟨by rw [HF.out]; rfl, HB.out⟩
end Go.Proofs.YtjicdcmdgbcdcaaGreatDoor.Scr
end
section
namespace Go.Proofs.YtjicdcmdgbcdcaaGreatDoor.Scr
set_option linter.unusedSimpArgs false
set_option linter.unusedVariables false
open Go Go.RowKit Mem Turn Ring

theorem VarsN.up {N : Nat} {w w' : World} (h : VarsN N w) (hb : Below N w w') {N' : Nat} (h1 : N ≤ N') (h2 : N' ≤ w'.heap.size) : VarsN N' w' :=
  ⟨(h.turn hb).1, by have := h.2.1; omega, by have := h.2.2.1; omega, h2⟩
theorem OwnLines.mono {B B' : Nat} {w : World} {v : Value} {L : List LineC} (h : OwnLines B w v L) (hB : B' ≤ B) : OwnLines B' w v L := by
  obtain ⟨rs, h1, h2⟩ := h
  exact ⟨rs, owns_base h1 hB, h2⟩

/-- a view as it lies in memory -/
theorem view_row {B : Nat} {w : World} {s : ScrC} {v : Value} {L : List LineC} (h : OwnLines B w v L) : ∃ arr : Array Value, viewV s v = .agg arr ∧ arr = viewA s.W s.f.pen.rows.length v s.f.pen.at_.row s.f.pen.at_.col s.f.pen.at_.pend s.f.pen.auto ∧ (Tryz.prog.info? 38).map (·.size) = some arr.size ∧ arr.all (·.oneCell') = true ∧ arr.size = 7 := by
  obtain ⟨a, c, hv⟩ := Turn.own_slice h.choose_spec.1
  refine ⟨_, rfl, rfl, size_view _ _ _ _ _ _ _, ?_, rfl⟩
  rw [hv]
  exact one_view _ _ _ _ _ _ _ _ _
set_option maxRecDepth 100000 in
set_option maxHeartbeats 16000000 in
theorem final_feeds (wd ht : Int) (a : Option Addr) (n c : Nat) (ops : List OpC) (w : World) (hv : VarsN w.heap.size w) (ho : IsOps w a n c ops) (h0 : ∀ o ∈ ops, o.kind = 0) :
    Calls Tryz.prog 27 #[.agg #[.int .i64 wd, .int .i64 ht, .slice a n c]] w fun e w' => ∃ v, e = .returned (.tuple #[viewV (ops.foldl doS (newS wd ht)) v, .nilIface]) ∧ OwnLines w.heap.size w' v (ops.foldl doS (newS wd ht)).f.pen.rows ∧ Below w.heap.size w w' := by
  have hb1 : Below w.heap.size w (w.alloc (.cells #[.int .i64 wd, .int .i64 ht, .slice a n c] 49)) := (Below.refl _ _).alloc (Nat.le_refl _) _
  have hb2 : Below w.heap.size w ((w.alloc (.cells #[.int .i64 wd, .int .i64 ht, .slice a n c] 49)).alloc (.cells (viewA 0 0 (.slice none 0 0) 0 0 false false) 38)) := hb1.alloc hb1.size _
  have hs2 : ((w.alloc (.cells #[.int .i64 wd, .int .i64 ht, .slice a n c] 49)).alloc (.cells (viewA 0 0 (.slice none 0 0) 0 0 false false) 38)).heap.size = w.heap.size + 2 := by simp
  have e1 : ((w.alloc (.cells #[.int .i64 wd, .int .i64 ht, .slice a n c] 49)).alloc (.cells (viewA 0 0 (.slice none 0 0) 0 0 false false) 38)).heap[w.heap.size]? = some (.cells #[.int .i64 wd, .int .i64 ht, .slice a n c] 49 (0, 0)) := by
    rw [hp_old _ _ _ (by simp), heap_alloc_new]
  have e2 : ((w.alloc (.cells #[.int .i64 wd, .int .i64 ht, .slice a n c] 49)).alloc (.cells (viewA 0 0 (.slice none 0 0) 0 0 false false) 38)).heap[w.heap.size + 1]? = some (.cells (viewA 0 0 (.slice none 0 0) 0 0 false false) 38 (0, 0)) := by
    have := heap_alloc_new (w.alloc (.cells #[.int .i64 wd, .int .i64 ht, .slice a n c] 49)) (.cells (viewA 0 0 (.slice none 0 0) 0 0 false false) 38)
    rw [World.size_alloc] at this
    exact this
  have HV := Lib.hid hv
  have HO := Lib.hid ho
  have H0 := Lib.hid h0
  have HB2 := Lib.hid hb2
  have HS2 := Lib.hid hs2
  obtain ⟨s1, hs1⟩ : ∃ s1, s1 = ops.foldl doS (newS wd ht) := ⟨_, rfl⟩
  rw [← hs1]
  have HSS := Lib.hid hs1
  clear hv ho h0 hb1 hb2 hs2 hs1
  go_enter Tryz.func27, Tryz.ntmps27
  go_upto_region 1 with fail
  generalize ((w.alloc (.cells #[.int .i64 wd, .int .i64 ht, .slice a n c] 49)).alloc (.cells (viewA 0 0 (.slice none 0 0) 0 0 false false) 38)) = w1 at *
  have q0 : w1.cell? ⟨w.heap.size, 0, none⟩ = some (.int .i64 wd) := by simp [World.cell?, e1]
  have q1 : w1.cell? ⟨w.heap.size, 1, none⟩ = some (.int .i64 ht) := by simp [World.cell?, e1]
  have HNW := Lib.hid (live_new wd ht w1)
  obtain ⟨s0, hs0⟩ : ∃ s0, s0 = newS wd ht := ⟨_, rfl⟩
  rw [← hs0] at HNW HSS
  have HS0 := Lib.hid hs0
  have HE1 := Lib.hid e1
  have HE2 := Lib.hid e2
  clear hs0 e1 e2
  go_wp2_with fail
  refine HNW.out.mono ?_
  rintro e w2 ⟨σ, rfl, hl, hσ⟩
  have hb12 : Below w1.heap.size w1 w2 := hl.bel
  have T2 : Turn (fun _ => False) w1 w2 := Turn.of_new hb12
  have hE1 := T2.heap HE1.out id
  have q2 : w2.cell? ⟨w.heap.size, 2, none⟩ = some (.slice a n c) := by simp [World.cell?, hE1]
  have HE22 := Lib.hid (T2.heap HE2.out id)
  have HB12 := Lib.hid hb12
  have HRU := Lib.hid (run_feeds w1 σ s0 a n c ops w2 (HV.out.up HB2.out (by have := HS2.out; omega) (Nat.le_refl _)) (HO.out.below HB2.out) H0.out hl)
  rw [← HSS.out] at HRU
  clear hl hσ hb12 T2 hE1 q0 q1 HNW HE1 HE2
  go_wp2_with fail
  refine HRU.out.mono ?_
  rintro e w3 ⟨rfl, hl3⟩
  have hb3 : Below w1.heap.size w1 w3 := hl3.bel
  have T3 : Turn (fun b => w1.heap.size ≤ b) w1 w3 := Turn.of_below hb3 (fun k h _ => h)
  have HB3 := Lib.hid hb3
  have HVW := Lib.hid (live_view hl3)
  clear hl3 hb3 T3 q2 HRU
  go_wp2_with fail
  refine HVW.out.mono ?_
  rintro e w4 ⟨v, rfl, hov, hb4⟩
  obtain ⟨arr, harr, hav, hsz, hone, hs7⟩ := view_row (s := s1) hov
  clear hav
  rw [harr]
  have T4 : Turn (fun _ => False) w3 w4 := Turn.of_new hb4
  have T13 : Turn (fun b => w1.heap.size ≤ b) w1 w4 := (Turn.of_below HB3.out (fun k h _ => h)).trans (T4.mono (fun _ _ h => h.elim))
  have HE4 := T13.heap (by
    have := HE22.out
    rw [HB12.out.block _ (by have := HS2.out; omega)] at this
    exact this) (by have := HS2.out; omega)
  have HOV := Lib.hid hov
  have HB4 := Lib.hid (HB2.out.trans ((T13.below (Nat.le_refl _) (fun k e => e)).mono HB2.out.size))
  have HB43 := Lib.hid (show w1.heap.size ≤ w3.heap.size from HB3.out.size)
  have HAR := Lib.hid harr
  clear hov hb4 T4 T13 HVW harr
  go_wp2_with (refine wpList_store_row rfl 38 _ _ rfl (w.heap.size + 1) arr rfl rfl _ _ HE4 hsz (by rw [hs7]; rfl) hone ?_)
  have hfin := setRow_heap w4 (w.heap.size + 1) _ arr 38 (0, 0) HE4
  refine bodyPost_ret (res_cell_tmp rfl _ _ (w.heap.size + 1) 38 _ (0, 0) _ rfl hfin Tryz.underlying38 rfl hsz) rfl ?_
  have T := turn_setRow w4 (w.heap.size + 1) arr
  have hty : Typ w4 38 (w.heap.size + 1) := ⟨_, _, HE4⟩
  have hs2 := HS2.out
  have h43 := HB43.out
  refine ⟨v, by rw [HAR.out]; rfl, ?_, HB4.out.trans (T.below HB4.out.size (fun j e => by omega))⟩
  obtain ⟨rs, h1, h2⟩ := HOV.out
  refine ⟨rs, owns_base (T.kept h1 (fun g hg e => ?_)) (by omega), h2.turn T (fun b e _ => by subst e; exact hty.not (by decide)) (fun b e _ => by subst e; exact hty.not (by decide))⟩
  subst e
  exact hty.not (by decide) (owns_typ h1 hg)
end Go.Proofs.YtjicdcmdgbcdcaaGreatDoor.Scr
end

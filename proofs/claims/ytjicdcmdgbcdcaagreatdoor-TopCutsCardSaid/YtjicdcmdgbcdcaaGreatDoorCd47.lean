/-
  A screen that lives beyond a bound of blocks; screen.Run at bytes.
  Two screens side by side; Held, Open.
  linotyperef40.Same at views that are alike.
-/
import Derived.Test.YtjicdcmdgbcdcaaGreatDoorCd8
import Derived.Test.YtjicdcmdgbcdcaaGreatDoorCd37
import Derived.Test.YtjicdcmdgbcdcaaGreatDoorCd45
import Derived.Test.YtjicdcmdgbcdcaaGreatDoorCd46

section
namespace Go.Proofs.YtjicdcmdgbcdcaaGreatDoor.Scr
set_option linter.unusedSimpArgs false
set_option linter.unusedVariables false
open Go Go.RowKit Mem Turn Ring

def VarsN (N : Nat) (w0 : World) : Prop := Vars w0 ∧ 3 < N ∧ 4 < N ∧ N ≤ w0.heap.size
theorem VarsN.turn {N : Nat} {w0 w : World} (h : VarsN N w0) (hb : Below N w0 w) : VarsN N w := by
  obtain ⟨⟨⟨t1, v1, h1⟩, t2, v2, h2⟩, h3, h4, h5⟩ := h
  refine ⟨⟨⟨t1, v1, ?_⟩, t2, v2, ?_⟩, h3, h4, Nat.le_trans h5 hb.size⟩
  · exact (hb.cell (p := ⟨3, 0, none⟩) h3).trans h1
  · exact (hb.cell (p := ⟨4, 0, none⟩) h4).trans h2
theorem VarsN.x {N : Nat} {w : World} {X : Nat → Prop} (h : VarsN N w) (hX : ∀ b, X b → N ≤ b) : VarsX w X :=
  ⟨h.1, by have := h.2.1; have := h.2.2.2; omega, by have := h.2.2.1; have := h.2.2.2; omega, fun e => by have := hX _ e; have := h.2.1; omega, fun e => by have := hX _ e; have := h.2.2.1; omega⟩
/-- the screen s at σ, whose blocks lie beyond N; below N all is as in w0 -/
structure Live (N : Nat) (w0 w : World) (σ : Nat) (s : ScrC) : Prop where
  at_ : ∃ X, ScrAt w X σ s ∧ ∀ b, X b → N ≤ b
  ok : FeedOK s.f s.W
  bel : Below N w0 w
theorem Live.below {N : Nat} {w0 w w' : World} {σ : Nat} {s : ScrC} (h : Live N w0 w σ s) (hN : N ≤ w0.heap.size) (hb : Below w.heap.size w w') : Live N w0 w' σ s := by
  obtain ⟨⟨X, h1, h2⟩, h3, h4⟩ := h
  exact ⟨⟨X, h1.below hb, h2⟩, h3, h4.trans (hb.mono (by have := h4.size; omega))⟩
/-- bytes that lie below N -/
def Lies (N : Nat) (w0 : World) (ba : Option Addr) (n : Nat) (l : List Int) : Prop := ∀ w', Below N w0 w' → Same.Ints .u8 w' ba n l

theorem live_do {N : Nat} {w0 w : World} {σ : Nat} {s : ScrC} (h : Live N w0 w σ s) (hv : VarsN N w0) (o : OpC) (ba : Option Addr) (n bc : Nat) (hn : o.bytes.length = n) (hin : Lies N w0 ba n o.bytes) (hr : OpRng o) :
    Calls Tryz.prog 8 #[ptr σ, opV o.kind o.a o.b (.slice ba n bc)] w fun e w' => RetN o.kind e ∧ Live N w0 w' σ (doS s o) := by
  obtain ⟨⟨X, h1, h2⟩, h3, h4⟩ := h
  have hs := h4.size
  have hN := hv.2.2.2
  have hvw := hv.turn h4
  refine (sdo_any X σ s o.kind o.a o.b ba n bc o.bytes w h1 h3 (hvw.x h2) (fun w' ht => ?_) hr.bs (by have := hr.len; omega) hr.a1 hr.a2).mono ?_
  · exact hin w' (h4.trans (ht.below (by omega) h2))
  · rintro e w' ⟨hret, X', hs', hx', ht⟩
    refine ⟨hret, ⟨X', hs', fun b hb => ?_⟩, doS_ok h3 o hr.bs, h4.trans (ht.below (by omega) h2)⟩
    rcases hx' b hb with e | e
    · exact h2 b e
    · omega
theorem live_view {N : Nat} {w0 w : World} {σ : Nat} {s : ScrC} (h : Live N w0 w σ s) :
    Calls Tryz.prog 9 #[ptr σ] w fun e w' => ∃ v, e = .returned (viewV s v) ∧ OwnLines w.heap.size w' v s.f.pen.rows ∧ Below w.heap.size w w' := by
  obtain ⟨⟨X, h1, h2⟩, h3, h4⟩ := h
  exact view_any X σ s w h1 h3.pen.w2
theorem live_new (wd ht : Int) (w : World) :
    Calls Tryz.prog 7 #[.int .i64 wd, .int .i64 ht] w fun e w' => ∃ σ, e = .returned (ptr σ) ∧ Live w.heap.size w w' σ (newS wd ht) ∧ w.heap.size ≤ σ := by
  refine (snew_any wd ht w).mono ?_
  rintro e w' ⟨σ, rfl, h1, h2, h3⟩
  exact ⟨σ, rfl, ⟨⟨_, h1, fun b hb => hb.1⟩, newS_ok wd ht, h3⟩, h2⟩

theorem IsOps.range {w : World} {a : Option Addr} {n c : Nat} {ops : List OpC} (h : IsOps w a n c ops) {k : Nat} {o : OpC} (ho : ops[k]? = some o) : ∃ b off ba bc, a = some ⟨b, off, none⟩ ∧ w.rangeAt b (off + k * 4) [.int .i64 o.kind, .int .i64 o.a, .int .i64 o.b, .slice ba o.bytes.length bc] ∧ Same.Ints .u8 w ba o.bytes.length o.bytes ∧ OpRng o := by
  obtain ⟨h1, h2, h3, h4, h5⟩ := h
  have hk := (List.getElem?_eq_some_iff.1 ho).1
  obtain ⟨b, off, rfl, hb, hc⟩ := h5.resolve_left (by omega)
  obtain ⟨c0, c1, c2, ba, bc, c3, c4, c5⟩ := hc k o ho
  refine ⟨b, off, ba, bc, rfl, fun j v hj => ?_, c5, h4 o (List.mem_of_getElem? ho)⟩
  rcases j with _ | _ | _ | _ | j
  · injection hj with e; subst e; exact c0
  · injection hj with e; subst e; exact c1
  · injection hj with e; subst e; exact c2
  · injection hj with e; subst e; exact c3
  · simp at hj
theorem IsOps.lies {w : World} {a : Option Addr} {n c : Nat} {ops : List OpC} (h : IsOps w a n c ops) {k : Nat} {o : OpC} (ho : ops[k]? = some o) : ∃ b off ba bc, a = some ⟨b, off, none⟩ ∧ b < w.heap.size ∧ (∀ w', Below w.heap.size w w' → w'.rangeAt b (off + k * 4) [.int .i64 o.kind, .int .i64 o.a, .int .i64 o.b, .slice ba o.bytes.length bc]) ∧ Lies w.heap.size w ba o.bytes.length o.bytes ∧ OpRng o := by
  obtain ⟨b, off, ba, bc, rfl, h1, h2, h3⟩ := h.range ho
  have hb : b < w.heap.size := World.block_lt_of_cell? _ _ (h1 0 _ rfl)
  exact ⟨b, off, ba, bc, rfl, hb, fun w' hw j v hj => (hw.cell (p := ⟨b, off + k * 4 + j, none⟩) hb).trans (h1 j v hj), fun w' hw => h2.below hw, h3⟩

set_option maxRecDepth 100000 in
set_option maxHeartbeats 16000000 in
/-- Run where all operations bring bytes -/
theorem run_feeds (w0 : World) (σ : Nat) (s : ScrC) (a : Option Addr) (n c : Nat) (ops : List OpC) (w : World) (hv : VarsN w0.heap.size w0) (ho : IsOps w0 a n c ops) (h0 : ∀ o ∈ ops, o.kind = 0) (h : Live w0.heap.size w0 w σ s) :
    Calls Tryz.prog 64 #[ptr σ, .slice a n c] w fun e w' => e = .returned .nilIface ∧ Live w0.heap.size w0 w' σ (ops.foldl doS s) := by
  have HV := Lib.hid hv
  have HO := Lib.hid ho
  have H0 := Lib.hid h0
  have HI := Lib.hid h
  have hn := ho.1
  have hnb := ho.2.2.1
  have HN := Lib.hid hn
  clear hv ho h0 h hn
  go_enter Tryz.func64, Tryz.ntmps64
  go_wp2_with fail
  go_loopg [5, 6, 7, 8, 11] n (fun gg v5 v6 v7 v8 v11 wx => ∃ k : Nat, n - k = gg ∧ k ≤ n ∧ v5 = .nilIface ∧ v11 = .int .i64 (k : Int) ∧ Hid (Live w0.heap.size w0 wx σ ((ops.take k).foldl doS s)))
  case atStart => exact ⟨0, rfl, Nat.zero_le _, rfl, rfl, HI⟩
  case round =>
    obtain ⟨k, rfl, hk, rfl, rfl, H⟩ := hrel
    by_cases hlt : k < n
    · have hlt' : (k : Int) < (n : Int) := by omega
      obtain ⟨o, hok⟩ : ∃ o, ops[k]? = some o := ⟨_, List.getElem?_eq_getElem (by rw [HN.out]; exact hlt)⟩
      obtain ⟨b, off, ba, bc, rfl, hb, hrg, hin, hr⟩ := HO.out.lies hok
      have hrr := hrg wr H.out.bel
      have hk0 := H0.out o (List.mem_of_getElem? hok)
      obtain ⟨m, hm⟩ : ∃ m, o.bytes.length = m := ⟨_, rfl⟩
      rw [hm] at hrr hin
      have hnew : (wr.alloc (.cells (opA 0 0 0 (.slice none 0 0)) 30)).heap[wr.heap.size]? = some (.cells (opA 0 0 0 (.slice none 0 0)) 30 (0, 0)) := heap_alloc_new wr _
      have hrow : (wr.alloc (.cells (opA 0 0 0 (.slice none 0 0)) 30)).setRow wr.heap.size (opA o.kind o.a o.b (.slice ba m bc)) = wr.alloc (.cells (opA o.kind o.a o.b (.slice ba m bc)) 30) := World.setRow_alloc_new wr _ _ _
      have HDO := Lib.hid (fun (w : World) (h : Live w0.heap.size w0 w σ ((ops.take k).foldl doS s)) => live_do h HV.out o ba m bc hm hin hr)
      have HOK := Lib.hid hok
      have HK0 := Lib.hid hk0
      have hnew2 := heap_alloc_new wr (.cells (opA o.kind o.a o.b (.slice ba m bc)) 30)
      have HL2 : Hid (Live w0.heap.size w0 (wr.alloc (.cells (opA o.kind o.a o.b (.slice ba m bc)) 30)) σ ((ops.take k).foldl doS s)) := Lib.hid (H.out.below (Nat.le_refl _) ((Below.refl _ _).alloc (Nat.le_refl _) _))
      clear hrg hin hr hok hk0 hm
      go_upto_region 5 with (first | (refine wpList_load_mid rfl 30 _ rfl b (off + k * 4) rfl [.int .i64 o.kind, .int .i64 o.a, .int .i64 o.b, .slice ba m bc] _ hrr Tryz.underlying30 rfl (size_op _ _ _ _) ?_) | (refine wpList_store_row rfl 30 _ _ rfl wr.heap.size (opA o.kind o.a o.b (.slice ba m bc)) rfl rfl _ _ hnew (size_op _ _ _ _) rfl (by simp [Value.oneCell']) ?_))
      rw [hrow]
      generalize (wr.alloc (.cells (opA o.kind o.a o.b (.slice ba m bc)) 30)) = w4 at *
      generalize wr.heap.size = nb at *
      have HDO2 := Lib.hid (HDO.out w4 HL2.out)
      have HNEW := Lib.hid hnew2
      clear hnew hrow hrr HDO HL2 hnew2 H
      go_wp2_with (refine wpList_load_row rfl 30 _ rfl nb rfl _ (opA o.kind o.a o.b (.slice ba m bc)) (0, 0) _ HNEW.out Tryz.underlying30 rfl (size_op _ _ _ _) ?_)
      refine HDO2.out.mono ?_
      rintro e w5 ⟨⟨v, rfl, hvn⟩, hl⟩
      obtain rfl := hvn HK0.out
      have HL : Hid (Live w0.heap.size w0 w5 σ ((ops.take (k + 1)).foldl doS s)) := Lib.hid (by
        rw [List.take_add_one, HOK.out, List.foldl_append]
        exact hl)
      clear hl hvn HDO2
      go_wp2_with fail
      go_roundg (n - (k + 1))
      case measure => omega
      case rel => exact ⟨k + 1, rfl, by omega, rfl, by go_num, HL⟩
    · obtain rfl : k = n := by omega
      have HL : Hid (Live w0.heap.size w0 wr σ (ops.foldl doS s)) := Lib.hid (by
        have := H.out
        rw [List.take_of_length_le (by rw [HN.out]; exact Nat.le_refl _)] at this
        exact this)
      clear H
      go_wp2_with fail
      go_ret
      exact ⟨rfl, HL.out⟩
end Go.Proofs.YtjicdcmdgbcdcaaGreatDoor.Scr
end
section
namespace Go.Proofs.YtjicdcmdgbcdcaaGreatDoor.Scr
set_option linter.unusedSimpArgs false
set_option linter.unusedVariables false
open Go Go.RowKit Mem Turn Ring

/-- a screen whose blocks are just its own -/
structure Own1 (w : World) (X : Nat → Prop) (σ : Nat) (s : ScrC) : Prop where
  at_ : ScrAt w X σ s
  typ : ∀ b, X b → FeedTyp w b
theorem Own1.lt {w : World} {X : Nat → Prop} {σ : Nat} {s : ScrC} (h : Own1 w X σ s) : σ < w.heap.size := by
  obtain ⟨_, _, h1, _⟩ := h.at_
  exact (Array.getElem?_eq_some_iff.1 h1).1
theorem Own1.of {w : World} {X : Nat → Prop} {σ : Nat} {s : ScrC} (h : ScrAt w X σ s) : ∃ X0, Own1 w X0 σ s ∧ ∀ b, X0 b → X b := by
  have hn : ¬ X σ := by obtain ⟨_, _, _, h2, _⟩ := h; exact h2
  obtain ⟨φ, π, X0, h1, h2, h3, h4⟩ := h.exact
  exact ⟨X0, ⟨⟨φ, π, h1, fun e => hn (h3 _ e), h2⟩, h4⟩, h3⟩
theorem FeedTyp.turn_ {w w' : World} {T : Nat → Prop} {b : Nat} (h : FeedTyp w b) (ht : Turn T w w') (hn : ¬ T b) : FeedTyp w' b := by
  rcases h with h | h | h
  · exact .inl (h.turn ht hn)
  · exact .inr (.inl (h.turn ht hn))
  · exact .inr (.inr (h.turn ht hn))
theorem Own1.turn {w w' : World} {X T : Nat → Prop} {σ : Nat} {s : ScrC} (h : Own1 w X σ s) (ht : Turn T w w') (hf : Free T w 21) (hX : ∀ b, X b → ¬ T b) (hσ : ¬ T σ) : Own1 w' X σ s := by
  obtain ⟨⟨φ, π, h1, h2, ov, h3⟩, h4⟩ := h
  exact ⟨⟨φ, π, ht.heap h1 hσ, h2, ov, h3.turn ht hf hX⟩, fun b hb => (h4 b hb).turn_ ht (hX b hb)⟩
theorem Own1.free {w : World} {X : Nat → Prop} {σ : Nat} {s : ScrC} (h : Own1 w X σ s) : Free X w 21 := fun b hb _ => (h.typ b hb).not (by decide)

/-- two screens apart -/
structure Two (N : Nat) (w0 w : World) (σ τ : Nat) (s t : ScrC) : Prop where
  ex : ∃ X Y, Own1 w X σ s ∧ Own1 w Y τ t ∧ (∀ b, X b → ¬ Y b) ∧ ¬ X τ ∧ ¬ Y σ ∧ (∀ b, X b → N ≤ b) ∧ ∀ b, Y b → N ≤ b
  ok1 : FeedOK s.f s.W
  ok2 : FeedOK t.f t.W
  ne : σ ≠ τ
  bel : Below N w0 w
theorem Two.swap {N : Nat} {w0 w : World} {σ τ : Nat} {s t : ScrC} (h : Two N w0 w σ τ s t) : Two N w0 w τ σ t s := by
  obtain ⟨⟨X, Y, h1, h2, h3, h4, h5, h6, h7⟩, a, b, c, d⟩ := h
  exact ⟨⟨Y, X, h2, h1, fun b hy hx => h3 b hx hy, h5, h4, h7, h6⟩, b, a, c.symm, d⟩
theorem Two.live {N : Nat} {w0 w : World} {σ τ : Nat} {s t : ScrC} (h : Two N w0 w σ τ s t) : Live N w0 w σ s := by
  obtain ⟨⟨X, Y, h1, h2, h3, h4, h5, h6, h7⟩, a, b, c, d⟩ := h
  exact ⟨⟨X, h1.at_, h6⟩, a, d⟩
theorem Two.below {N : Nat} {w0 w w' : World} {σ τ : Nat} {s t : ScrC} (h : Two N w0 w σ τ s t) (hN : N ≤ w0.heap.size) (hb : Below w.heap.size w w') : Two N w0 w' σ τ s t := by
  obtain ⟨⟨X, Y, h1, h2, h3, h4, h5, h6, h7⟩, a, b, c, d⟩ := h
  have T : Turn (fun _ => False) w w' := Turn.of_new hb
  exact ⟨⟨X, Y, h1.turn T (Free.no _ _) (fun _ _ => id) id, h2.turn T (Free.no _ _) (fun _ _ => id) id, h3, h4, h5, h6, h7⟩, a, b, c, d.trans (hb.mono (by have := d.size; omega))⟩
theorem two_do {N : Nat} {w0 w : World} {σ τ : Nat} {s t : ScrC} (h : Two N w0 w σ τ s t) (hv : VarsN N w0) (o : OpC) (ba : Option Addr) (n bc : Nat) (hn : o.bytes.length = n) (hin : ∀ w', Turn (fun b => FeedTyp w b ∧ N ≤ b) w w' → Same.Ints .u8 w' ba n o.bytes) (hr : OpRng o) :
    Calls Tryz.prog 8 #[ptr σ, opV o.kind o.a o.b (.slice ba n bc)] w fun e w' => RetN o.kind e ∧ Two N w0 w' σ τ (doS s o) t ∧ Turn (fun b => FeedTyp w b ∧ N ≤ b) w w' := by
  obtain ⟨⟨X, Y, h1, h2, h3, h4, h5, h6, h7⟩, k1, k2, hne, hbel⟩ := h
  have hs := hbel.size
  have hN := hv.2.2.2
  have hvw := hv.turn hbel
  refine (sdo_any X σ s o.kind o.a o.b ba n bc o.bytes w h1.at_ k1 (hvw.x h6) (fun w' ht => hin w' (ht.mono (fun b _ e => ⟨h1.typ b e, h6 b e⟩))) hr.bs (by have := hr.len; omega) hr.a1 hr.a2).mono ?_
  rintro e w' ⟨hret, X', hs', hx', ht⟩
  obtain ⟨X1, g1, g2⟩ := Own1.of hs'
  have hlt : ∀ b, Y b → b < w.heap.size := fun b hb => (h2.typ b hb).lt_
  refine ⟨hret, ⟨⟨X1, Y, g1, h2.turn ht h1.free (fun b hy hx => h3 b hx hy) h4, fun b hb hy => ?_, fun hb => ?_, h5, fun b hb => ?_, h7⟩, doS_ok k1 o hr.bs, k2, hne, hbel.trans (ht.below (by omega) h6)⟩, ht.mono (fun b _ e => ⟨h1.typ b e, h6 b e⟩)⟩
  · rcases hx' b (g2 b hb) with e | e
    · exact h3 b e hy
    · have := hlt b hy; omega
  · rcases hx' _ (g2 _ hb) with e | e
    · exact h4 e
    · have := h2.lt; omega
  · rcases hx' b (g2 b hb) with e | e
    · exact h6 b e
    · omega

/-! Held, Open -/
set_option maxRecDepth 100000 in
set_option maxHeartbeats 4000000 in
theorem sheld_any (X : Nat → Prop) (σ : Nat) (s : ScrC) (w : World) (h : ScrAt w X σ s) : Calls Tryz.prog 24 #[ptr σ] w fun e w' => e = .returned (.int .i64 s.f.dec.held) ∧ w = w' := by
  obtain ⟨φ, π, h1, _, ov, h3⟩ := h
  have c0 : w.cell? ⟨σ, 0, none⟩ = some (ptr φ) := by simp [World.cell?, h1]
  have c1 := h3.cells.2.1
  generalize s.f.dec.held = n at *
  clear h1 h3
  go_enter Tryz.func24, Tryz.ntmps24
  go_wp2
  go_ret
  exact ⟨rfl, rfl⟩
/-- the open cluster's numbers -/
def openT (f : FeedC) : List Int := match f.opn with | some c => c.text | none => []

theorem ints_own {w : World} {B n : Nat} {v : Value} {xs : List Int} (h : w.ownsRow B 21 1 v n (xs.map (Value.int .i32))) : ∃ a c, v = .slice a n c ∧ Same.Ints .i32 w a n xs := by
  have hl : xs.length = n := by have := h.1; simp at this; omega
  obtain ⟨a, c, rfl, hc, h4⟩ := own_form h
  refine ⟨a, c, rfl, hl, h4.imp id ?_⟩
  rintro ⟨g, e, _, _, hg, _, hcell⟩
  exact ⟨g, 0, e, hg, fun i x hx => by rw [Nat.zero_add]; exact hcell i _ (by rw [List.getElem?_map, hx]; rfl)⟩
set_option maxRecDepth 100000 in
set_option maxHeartbeats 8000000 in
theorem sopen_any (X : Nat → Prop) (σ : Nat) (s : ScrC) (w : World) (h : ScrAt w X σ s) : Calls Tryz.prog 26 #[ptr σ] w fun e w' => (∃ a c, e = .returned (.slice a (openT s.f).length c) ∧ Same.Ints .i32 w' a (openT s.f).length (openT s.f)) ∧ Below w.heap.size w w' := by
  obtain ⟨φ, π, h1, _, ov, h3⟩ := h
  have c0 : w.cell? ⟨σ, 0, none⟩ = some (ptr φ) := by simp [World.cell?, h1]
  have c3 := h3.cells.2.2.1
  have ho := h3.opn
  rcases e : s.f.opn with _ | c
  · have hot : openT s.f = [] := by unfold openT; rw [e]
    rw [hot]
    rw [e] at ho
    obtain rfl : ov = .pointer none := ho
    clear h1 h3 e hot
    go_enter Tryz.func26, Tryz.ntmps26
    go_wp2
    go_ret
    exact ⟨⟨_, _, rfl, rfl, .inl rfl⟩, Below.refl _ _⟩
  · have hot : openT s.f = c.text := by unfold openT; rw [e]
    rw [hot]
    rw [e] at ho
    obtain ⟨q, rfl, _, hc⟩ := ho
    have HT := Lib.hid (CluO.text_any (kClu c) q c.text w hc.clu)
    generalize c.text = tx at *
    clear h1 h3 e hot hc
    go_enter Tryz.func26, Tryz.ntmps26
    go_wp2_with (first | (go_at_call 178; (refine HT.out.mono ?_)) | go_in)
    rintro e w1 ⟨v, rfl, ho, hb⟩
    have HO := Lib.hid ho
    have HB := Lib.hid hb
    clear ho hb HT
    go_wp2
    go_ret
    obtain ⟨a, c', rfl, hi⟩ := ints_own HO.out
    exact ⟨⟨a, c', rfl, hi⟩, HB.out⟩
end Go.Proofs.YtjicdcmdgbcdcaaGreatDoor.Scr
end
section
namespace Go.Proofs.YtjicdcmdgbcdcaaGreatDoor.Scr
set_option linter.unusedSimpArgs false
set_option linter.unusedVariables false
open Go Go.RowKit Mem Turn Ring

theorem TextAt.wide {D : Nat → Prop} {w : World} {v : Value} {t : List Int} (h : TextAt D False w v t) : TextAt (fun _ => True) False w v t := TextAt.mono h (fun _ _ _ => trivial)
theorem CellsT.at_ {w : World} {v : Value} {cs : List CellC} (h : CellsT w v cs) : CellsAt (fun _ => True) False w v cs := by
  obtain ⟨a, c, e1, e2, e3, e4⟩ := h
  refine ⟨a, c, e1, e2, e3, e4.imp id ?_⟩
  rintro ⟨b, off, h1, h2, h3, h4⟩
  refine ⟨b, off, h1, h2, trivial, fun j x hx => ?_⟩
  obtain ⟨g1, g2, tv, g3, g4⟩ := h4 j x hx
  exact ⟨g1, fun f => f.elim, tv, g3, TextAt.wide g4⟩
theorem OwnLines.lines {B : Nat} {w : World} {v : Value} {L : List LineC} (h : OwnLines B w v L) : LinesAt (fun _ => True) False w v L := by
  obtain ⟨a, c, rfl, hc, hg⟩ := h.at_
  refine ⟨a, c, rfl, hc, ?_⟩
  rcases Nat.eq_zero_or_pos L.length with h0 | h0
  · exact .inl h0
  · obtain ⟨l, hl⟩ : ∃ l, L[0]? = some l := ⟨_, List.getElem?_eq_getElem h0⟩
    obtain ⟨g, cv, rfl, x0, _, _⟩ := hg 0 l hl
    refine .inr ⟨g, 0, rfl, World.block_lt_of_cell? _ _ x0, trivial, fun j z hz => ?_⟩
    obtain ⟨g', cv', e, y0, y1, yc⟩ := hg j z hz
    injection e with e
    injection e with e
    subst e
    rw [Nat.zero_add]
    exact ⟨cv', y0, yc.at_, y1⟩
theorem LinesAt.below_ {D : Nat → Prop} {w w' : World} {v : Value} {L : List LineC} (h : LinesAt D False w v L) (hb : Below w.heap.size w w') : LinesAt D False w' v L := LinesAt.turn h (Turn.of_new hb : Turn (fun _ => False) w w') (fun _ _ _ => id)

set_option maxRecDepth 100000 in
set_option maxHeartbeats 8000000 in
theorem same40 (W H r c : Int) (pb au : Bool) (a1 a2 : Option Addr) (n c1 c2 : Nat) (L : List LineC) (w : World) (hu : LinesAt (fun _ => True) False w (.slice a1 n c1) L) (hv : LinesAt (fun _ => True) False w (.slice a2 n c2) L) (hn : L.length ≤ 100000) :
    Calls Tryz.prog 19 #[.agg (viewA W H (.slice a1 n c1) r c pb au), .agg (viewA W H (.slice a2 n c2) r c pb au)] w fun e w' => e = .returned (.bool true) ∧ Below w.heap.size w w' := by
  have hb1 : Below w.heap.size w (w.alloc (.cells (viewA W H (.slice a1 n c1) r c pb au) 38)) := (Below.refl _ _).alloc (Nat.le_refl _) _
  have hb2 : Below w.heap.size w ((w.alloc (.cells (viewA W H (.slice a1 n c1) r c pb au) 38)).alloc (.cells (viewA W H (.slice a2 n c2) r c pb au) 38)) := hb1.alloc hb1.size _
  have e1 : ((w.alloc (.cells (viewA W H (.slice a1 n c1) r c pb au) 38)).alloc (.cells (viewA W H (.slice a2 n c2) r c pb au) 38)).heap[w.heap.size]? = some (.cells (viewA W H (.slice a1 n c1) r c pb au) 38 (0, 0)) := by
    rw [hp_old _ _ _ (by simp), heap_alloc_new]
  have e2 : ((w.alloc (.cells (viewA W H (.slice a1 n c1) r c pb au) 38)).alloc (.cells (viewA W H (.slice a2 n c2) r c pb au) 38)).heap[w.heap.size + 1]? = some (.cells (viewA W H (.slice a2 n c2) r c pb au) 38 (0, 0)) := by
    have := heap_alloc_new (w.alloc (.cells (viewA W H (.slice a1 n c1) r c pb au) 38)) (.cells (viewA W H (.slice a2 n c2) r c pb au) 38)
    rw [World.size_alloc] at this
    exact this
  have HS := Lib.hid (same32 _ _ _ _ L _ (LinesAt.below_ hu hb2) (LinesAt.below_ hv hb2) hn)
  have HB2 := Lib.hid hb2
  clear hu hv hb1 hb2
  go_enter Tryz.func19, Tryz.ntmps19
  go_upto_region 1 with fail
  generalize ((w.alloc (.cells (viewA W H (.slice a1 n c1) r c pb au) 38)).alloc (.cells (viewA W H (.slice a2 n c2) r c pb au) 38)) = w1 at *
  have p0 : w1.cell? ⟨w.heap.size, 0, none⟩ = some (.int .i64 W) := by simp [World.cell?, e1]
  have p1 : w1.cell? ⟨w.heap.size, 1, none⟩ = some (.int .i64 H) := by simp [World.cell?, e1]
  have p2 : w1.cell? ⟨w.heap.size, 2, none⟩ = some (.slice a1 n c1) := by simp [World.cell?, e1]
  have p3 : w1.cell? ⟨w.heap.size, 3, none⟩ = some (.int .i64 r) := by simp [World.cell?, e1]
  have p4 : w1.cell? ⟨w.heap.size, 4, none⟩ = some (.int .i64 c) := by simp [World.cell?, e1]
  have p5 : w1.cell? ⟨w.heap.size, 5, none⟩ = some (.bool pb) := by simp [World.cell?, e1]
  have p6 : w1.cell? ⟨w.heap.size, 6, none⟩ = some (.bool au) := by simp [World.cell?, e1]
  have q0 : w1.cell? ⟨w.heap.size + 1, 0, none⟩ = some (.int .i64 W) := by simp [World.cell?, e2]
  have q1 : w1.cell? ⟨w.heap.size + 1, 1, none⟩ = some (.int .i64 H) := by simp [World.cell?, e2]
  have q2 : w1.cell? ⟨w.heap.size + 1, 2, none⟩ = some (.slice a2 n c2) := by simp [World.cell?, e2]
  have q3 : w1.cell? ⟨w.heap.size + 1, 3, none⟩ = some (.int .i64 r) := by simp [World.cell?, e2]
  have q4 : w1.cell? ⟨w.heap.size + 1, 4, none⟩ = some (.int .i64 c) := by simp [World.cell?, e2]
  have q5 : w1.cell? ⟨w.heap.size + 1, 5, none⟩ = some (.bool pb) := by simp [World.cell?, e2]
  have q6 : w1.cell? ⟨w.heap.size + 1, 6, none⟩ = some (.bool au) := by simp [World.cell?, e2]
  clear e1 e2
  go_wp2_with fail
  refine HS.out.mono ?_
  rintro e wx ⟨rfl, d, rfl⟩
  go_wp2_with fail
  go_ret
  exact ⟨rfl, HB2.out.trans ((bdrew _ _).mono HB2.out.size)⟩
end Go.Proofs.YtjicdcmdgbcdcaaGreatDoor.Scr
end

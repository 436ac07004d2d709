/-
  play.Final at bytes; linotypetop.plays.
  linotypetop.plays.
-/
import Derived.Test.YtjicdcmdgbcdcaaGreatDoorCd2
import Derived.Test.YtjicdcmdgbcdcaaGreatDoorCd39
import Derived.Test.YtjicdcmdgbcdcaaGreatDoorCd46
import Derived.Test.YtjicdcmdgbcdcaaGreatDoorCd47

section
namespace Go.Proofs.YtjicdcmdgbcdcaaGreatDoor.Scr
set_option linter.unusedSimpArgs false
set_option linter.unusedVariables false
open Go Go.RowKit Mem Turn Ring

theorem VarsN.up {N : Nat} {w w' : World} (h : VarsN N w) (hb : Below N w w') {N' : Nat} (h1 : N ≤ N') (h2 : N' ≤ w'.heap.size) : VarsN N' w' :=
  ⟨(h.turn hb).1, by have := h.2.1; omega, by have := h.2.2.1; omega, h2⟩
theorem OwnLines.mono {B B' : Nat} {w : World} {v : Value} {L : List LineC} (h : OwnLines B w v L) (hB : B' ≤ B) : OwnLines B' w v L := by
  obtain ⟨rs, h1, h2⟩ := h
  exact ⟨rs, owns_base h1 hB, h2⟩

/-- a view as it lies in memory -/
theorem view_row {B : Nat} {w : World} {s : ScrC} {v : Value} {L : List LineC} (h : OwnLines B w v L) : ∃ arr : Array Value, viewV s v = .agg arr ∧ arr = viewA s.W s.f.pen.rows.length v s.f.pen.at_.row s.f.pen.at_.col s.f.pen.at_.pend s.f.pen.auto ∧ (Tryz.prog.info? 38).map (·.size) = some arr.size ∧ arr.all (·.oneCell') = true ∧ arr.size = 7 := by
  obtain ⟨a, c, hv⟩ := Turn.own_slice h.choose_spec.1
  refine ⟨_, rfl, rfl, size_view _ _ _ _ _ _ _, ?_, rfl⟩
  rw [hv]
  exact one_view _ _ _ _ _ _ _ _ _
set_option maxRecDepth 100000 in
set_option maxHeartbeats 16000000 in
theorem final_feeds (wd ht : Int) (a : Option Addr) (n c : Nat) (ops : List OpC) (w : World) (hv : VarsN w.heap.size w) (ho : IsOps w a n c ops) (h0 : ∀ o ∈ ops, o.kind = 0) :
    Calls Tryz.prog 27 #[.agg #[.int .i64 wd, .int .i64 ht, .slice a n c]] w fun e w' => ∃ v, e = .returned (.tuple #[viewV (ops.foldl doS (newS wd ht)) v, .nilIface]) ∧ OwnLines w.heap.size w' v (ops.foldl doS (newS wd ht)).f.pen.rows ∧ Below w.heap.size w w' := by
  have hb1 : Below w.heap.size w (w.alloc (.cells #[.int .i64 wd, .int .i64 ht, .slice a n c] 49)) := (Below.refl _ _).alloc (Nat.le_refl _) _
  have hb2 : Below w.heap.size w ((w.alloc (.cells #[.int .i64 wd, .int .i64 ht, .slice a n c] 49)).alloc (.cells (viewA 0 0 (.slice none 0 0) 0 0 false false) 38)) := hb1.alloc hb1.size _
  have hs2 : ((w.alloc (.cells #[.int .i64 wd, .int .i64 ht, .slice a n c] 49)).alloc (.cells (viewA 0 0 (.slice none 0 0) 0 0 false false) 38)).heap.size = w.heap.size + 2 := by simp
  have e1 : ((w.alloc (.cells #[.int .i64 wd, .int .i64 ht, .slice a n c] 49)).alloc (.cells (viewA 0 0 (.slice none 0 0) 0 0 false false) 38)).heap[w.heap.size]? = some (.cells #[.int .i64 wd, .int .i64 ht, .slice a n c] 49 (0, 0)) := by
    rw [hp_old _ _ _ (by simp), heap_alloc_new]
  have e2 : ((w.alloc (.cells #[.int .i64 wd, .int .i64 ht, .slice a n c] 49)).alloc (.cells (viewA 0 0 (.slice none 0 0) 0 0 false false) 38)).heap[w.heap.size + 1]? = some (.cells (viewA 0 0 (.slice none 0 0) 0 0 false false) 38 (0, 0)) := by
    have := heap_alloc_new (w.alloc (.cells #[.int .i64 wd, .int .i64 ht, .slice a n c] 49)) (.cells (viewA 0 0 (.slice none 0 0) 0 0 false false) 38)
    rw [World.size_alloc] at this
    exact this
  have HV := Lib.hid hv
  have HO := Lib.hid ho
  have H0 := Lib.hid h0
  have HB2 := Lib.hid hb2
  have HS2 := Lib.hid hs2
  obtain ⟨s1, hs1⟩ : ∃ s1, s1 = ops.foldl doS (newS wd ht) := ⟨_, rfl⟩
  rw [← hs1]
  have HSS := Lib.hid hs1
  clear hv ho h0 hb1 hb2 hs2 hs1
  go_enter Tryz.func27, Tryz.ntmps27
  go_upto_region 1 with fail
  generalize ((w.alloc (.cells #[.int .i64 wd, .int .i64 ht, .slice a n c] 49)).alloc (.cells (viewA 0 0 (.slice none 0 0) 0 0 false false) 38)) = w1 at *
  have q0 : w1.cell? ⟨w.heap.size, 0, none⟩ = some (.int .i64 wd) := by simp [World.cell?, e1]
  have q1 : w1.cell? ⟨w.heap.size, 1, none⟩ = some (.int .i64 ht) := by simp [World.cell?, e1]
  have HNW := Lib.hid (live_new wd ht w1)
  obtain ⟨s0, hs0⟩ : ∃ s0, s0 = newS wd ht := ⟨_, rfl⟩
  rw [← hs0] at HNW HSS
  have HS0 := Lib.hid hs0
  have HE1 := Lib.hid e1
  have HE2 := Lib.hid e2
  clear hs0 e1 e2
  go_wp2_with fail
  refine HNW.out.mono ?_
  rintro e w2 ⟨σ, rfl, hl, hσ⟩
  have hb12 : Below w1.heap.size w1 w2 := hl.bel
  have T2 : Turn (fun _ => False) w1 w2 := Turn.of_new hb12
  have hE1 := T2.heap HE1.out id
  have q2 : w2.cell? ⟨w.heap.size, 2, none⟩ = some (.slice a n c) := by simp [World.cell?, hE1]
  have HE22 := Lib.hid (T2.heap HE2.out id)
  have HB12 := Lib.hid hb12
  have HRU := Lib.hid (run_feeds w1 σ s0 a n c ops w2 (HV.out.up HB2.out (by have := HS2.out; omega) (Nat.le_refl _)) (HO.out.below HB2.out) H0.out hl)
  rw [← HSS.out] at HRU
  clear hl hσ hb12 T2 hE1 q0 q1 HNW HE1 HE2
  go_wp2_with fail
  refine HRU.out.mono ?_
  rintro e w3 ⟨rfl, hl3⟩
  have hb3 : Below w1.heap.size w1 w3 := hl3.bel
  have T3 : Turn (fun b => w1.heap.size ≤ b) w1 w3 := Turn.of_below hb3 (fun k h _ => h)
  have HB3 := Lib.hid hb3
  have HVW := Lib.hid (live_view hl3)
  clear hl3 hb3 T3 q2 HRU
  go_wp2_with fail
  refine HVW.out.mono ?_
  rintro e w4 ⟨v, rfl, hov, hb4⟩
  obtain ⟨arr, harr, hav, hsz, hone, hs7⟩ := view_row (s := s1) hov
  clear hav
  rw [harr]
  have T4 : Turn (fun _ => False) w3 w4 := Turn.of_new hb4
  have T13 : Turn (fun b => w1.heap.size ≤ b) w1 w4 := (Turn.of_below HB3.out (fun k h _ => h)).trans (T4.mono (fun _ _ h => h.elim))
  have HE4 := T13.heap (by
    have := HE22.out
    rw [HB12.out.block _ (by have := HS2.out; omega)] at this
    exact this) (by have := HS2.out; omega)
  have HOV := Lib.hid hov
  have HB4 := Lib.hid (HB2.out.trans ((T13.below (Nat.le_refl _) (fun k e => e)).mono HB2.out.size))
  have HB43 := Lib.hid (show w1.heap.size ≤ w3.heap.size from HB3.out.size)
  have HAR := Lib.hid harr
  clear hov hb4 T4 T13 HVW harr
  go_wp2_with (refine wpList_store_row rfl 38 _ _ rfl (w.heap.size + 1) arr rfl rfl _ _ HE4 hsz (by rw [hs7]; rfl) hone ?_)
  have hfin := setRow_heap w4 (w.heap.size + 1) _ arr 38 (0, 0) HE4
  refine bodyPost_ret (res_cell_tmp rfl _ _ (w.heap.size + 1) 38 _ (0, 0) _ rfl hfin Tryz.underlying38 rfl hsz) rfl ?_
  have T := turn_setRow w4 (w.heap.size + 1) arr
  have hty : Typ w4 38 (w.heap.size + 1) := ⟨_, _, HE4⟩
  have hs2 := HS2.out
  have h43 := HB43.out
  refine ⟨v, by rw [HAR.out]; rfl, ?_, HB4.out.trans (T.below HB4.out.size (fun j e => by omega))⟩
  obtain ⟨rs, h1, h2⟩ := HOV.out
  refine ⟨rs, owns_base (T.kept h1 (fun g hg e => ?_)) (by omega), h2.turn T (fun b e _ => by subst e; exact hty.not (by decide)) (fun b e _ => by subst e; exact hty.not (by decide))⟩
  subst e
  exact hty.not (by decide) (owns_typ h1 hg)
end Go.Proofs.YtjicdcmdgbcdcaaGreatDoor.Scr
end
section
namespace Go.Proofs.YtjicdcmdgbcdcaaGreatDoor.Scr
set_option linter.unusedSimpArgs false
set_option linter.unusedVariables false
open Go Go.RowKit Mem Turn Ring

noncomputable def playS : ScrC := [(⟨0, 0, 0, [101]⟩ : OpC), ⟨0, 0, 0, [204]⟩, ⟨0, 0, 0, [129]⟩].foldl doS (newS 3 1)
set_option maxRecDepth 100000 in
theorem play_rows : playS.f.pen.rows = [([(1, [101, 769]), (0, []), (0, [])], false)] := by kernel_rfl

theorem ne_of {c : UInt8} {s : ByteArray} (h : ([c] == s.data.toList) = false) : ([c] == s.toList) = false := by rw [ByteArray.toList_eq]; exact h
theorem split_more {c : UInt8} {s x r y : ByteArray} {ws : List ByteArray} (i : Nat) (h1 : ([c] == s.data.toList) = false) (h2 : Lib.indexByte s.data.toList c = (i : Int)) (h3 : i + 1 ≤ s.size) (h4 : s.size ≤ 100000) (h5 : s.extract 0 i = x) (h6 : s.extract (i + 1) s.size = r) (h7 : SplitB c r (y :: ws)) : SplitB c s (x :: y :: ws) :=
  ⟨i, ne_of h1, h2, h3, h4, h5, by rw [h6]; exact h7⟩
theorem cut_of {t line rest : ByteArray} (i : Nat) (h1 : ([10] == t.data.toList) = false) (h2 : Lib.indexByte t.data.toList 10 = (i : Int)) (h3 : i + 1 ≤ t.size) (h4 : t.size ≤ 100000) (h5 : t.extract 0 i = line) (h6 : t.extract (i + 1) t.size = rest) : CutAt t line rest i := ⟨ne_of h1, h2, h3, h4, h5, h6⟩

def text0 : ByteArray := ⟨#[115, 105, 122, 101, 32, 51, 32, 49, 10, 102, 101, 101, 100, 32, 54, 53, 10, 102, 101, 101, 100, 32, 99, 99, 10, 102, 101, 101, 100, 32, 56, 49, 10]⟩
def text1 : ByteArray := ⟨#[102, 101, 101, 100, 32, 54, 53, 10, 102, 101, 101, 100, 32, 99, 99, 10, 102, 101, 101, 100, 32, 56, 49, 10]⟩
def text2 : ByteArray := ⟨#[102, 101, 101, 100, 32, 99, 99, 10, 102, 101, 101, 100, 32, 56, 49, 10]⟩
def text3 : ByteArray := ⟨#[102, 101, 101, 100, 32, 56, 49, 10]⟩
def lineS : ByteArray := ⟨#[115, 105, 122, 101, 32, 51, 32, 49]⟩
def lineF (a b : UInt8) : ByteArray := ⟨#[102, 101, 101, 100, 32, a, b]⟩
theorem hex_of (a b : UInt8) (x y r : Int) (hx : Lib.indexByte figs.data.toList a = x) (hy : Lib.indexByte figs.data.toList b = y) (x0 : 0 ≤ x) (x1 : x ≤ 15) (y0 : 0 ≤ y) (y1 : y ≤ 15) (h : bits .or .i64 (x * 16) y % 256 = r) : HexOf ⟨#[a, b]⟩ [r] := by
  refine ⟨rfl, fun i z hz => ?_⟩
  rcases i with _ | i
  · injection hz with e
    subst e
    exact ⟨a, b, x, y, rfl, rfl, hx, hy, x0, x1, y0, y1, h⟩
  · simp at hz
set_option maxRecDepth 100000 in
theorem cut0 : CutAt text0 lineS text1 8 := cut_of 8 (by kernel_rfl) (by kernel_rfl) (by decide) (by decide) (by kernel_rfl) (by kernel_rfl)
set_option maxRecDepth 100000 in
theorem size0 : SizeLine lineS 3 1 ⟨#[51]⟩ ⟨#[49]⟩ := ⟨split_more (r := ⟨#[51, 32, 49]⟩) 4 (by kernel_rfl) (by kernel_rfl) (by decide) (by decide) (by kernel_rfl) (by kernel_rfl) (split_more (r := ⟨#[49]⟩) 1 (by kernel_rfl) (by kernel_rfl) (by decide) (by decide) (by kernel_rfl) (by kernel_rfl) rfl), by kernel_rfl, by decide, by decide, by decide, by decide, by kernel_rfl, by kernel_rfl⟩
set_option maxRecDepth 100000 in
theorem feed1 : FeedLine (lineF 54 53) [101] ⟨#[54, 53]⟩ := ⟨split_more 4 (by kernel_rfl) (by kernel_rfl) (by decide) (by decide) (by kernel_rfl) (by kernel_rfl) rfl, by kernel_rfl, by decide, by decide, by decide, hex_of 54 53 6 5 101 (by kernel_rfl) (by kernel_rfl) (by decide) (by decide) (by decide) (by decide) (by kernel_rfl), by simp⟩
set_option maxRecDepth 100000 in
theorem feed2 : FeedLine (lineF 99 99) [204] ⟨#[99, 99]⟩ := ⟨split_more 4 (by kernel_rfl) (by kernel_rfl) (by decide) (by decide) (by kernel_rfl) (by kernel_rfl) rfl, by kernel_rfl, by decide, by decide, by decide, hex_of 99 99 12 12 204 (by kernel_rfl) (by kernel_rfl) (by decide) (by decide) (by decide) (by decide) (by kernel_rfl), by simp⟩
set_option maxRecDepth 100000 in
theorem feed3 : FeedLine (lineF 56 49) [129] ⟨#[56, 49]⟩ := ⟨split_more 4 (by kernel_rfl) (by kernel_rfl) (by decide) (by decide) (by kernel_rfl) (by kernel_rfl) rfl, by kernel_rfl, by decide, by decide, by decide, hex_of 56 49 8 1 129 (by kernel_rfl) (by kernel_rfl) (by decide) (by decide) (by decide) (by decide) (by kernel_rfl), by simp⟩
set_option maxRecDepth 100000 in
theorem feeds : FeedLines text1 [[101], [204], [129]] :=
  ⟨7, _, _, _, cut_of (rest := text2) 7 (by kernel_rfl) (by kernel_rfl) (by decide) (by decide) (by kernel_rfl) (by kernel_rfl), feed1,
    7, _, _, _, cut_of (rest := text3) 7 (by kernel_rfl) (by kernel_rfl) (by decide) (by decide) (by kernel_rfl) (by kernel_rfl), feed2,
    7, _, _, _, cut_of (rest := ⟨#[]⟩) 7 (by kernel_rfl) (by kernel_rfl) (by decide) (by decide) (by kernel_rfl) (by kernel_rfl), feed3, rfl⟩
theorem read0 (w : World) : Calls Tryz.prog 14 #[.string text0] w fun e w' => ∃ v LL, e = .returned (.tuple #[.agg #[.int .i64 3, .int .i64 1, v], .nilIface]) ∧ OpsM w' w.heap.size v LL ∧ LL.map (·.1) = [(⟨0, 0, 0, [101]⟩ : OpC), ⟨0, 0, 0, [204]⟩, ⟨0, 0, 0, [129]⟩] ∧ Below w.heap.size w w' :=
  read_ok text0 lineS text1 _ _ 8 3 1 [[101], [204], [129]] w cut0 size0 feeds (by decide) (by decide)

/-- operations of the call's own are operations that came in -/
theorem flatO_get {L : List (OpC × Value)} {k : Nat} {p : OpC × Value} (h : L[k]? = some p) : (flatO L)[k * 4]? = some (.int .i64 p.1.kind) ∧ (flatO L)[k * 4 + 1]? = some (.int .i64 p.1.a) ∧ (flatO L)[k * 4 + 2]? = some (.int .i64 p.1.b) ∧ (flatO L)[k * 4 + 3]? = some p.2 := by
  induction L generalizing k with
  | nil => cases h
  | cons x L ih =>
    cases k with
    | zero =>
      simp at h
      subst h
      simp [flatO]
    | succ k =>
      obtain ⟨a, b, c, d⟩ := ih (k := k) (by simpa using h)
      rw [show (k + 1) * 4 = k * 4 + 1 + 1 + 1 + 1 from by omega]
      have e : flatO (x :: L) = .int .i64 x.1.kind :: .int .i64 x.1.a :: .int .i64 x.1.b :: x.2 :: flatO L := rfl
      rw [e]
      exact ⟨by simpa using a, by simpa using b, by simpa using c, by simpa using d⟩
theorem OpsM.isOps {w : World} {B : Nat} {v : Value} {L : List (OpC × Value)} (h : OpsM w B v L) (hr : ∀ p ∈ L, OpRng p.1) (hl : L.length ≤ 4398046511104) : ∃ a c, v = .slice a L.length c ∧ IsOps w a L.length c (L.map (·.1)) := by
  obtain ⟨a, c, rfl, hc, h4⟩ := own_form h.1
  refine ⟨a, c, rfl, by simp, hc, hl, fun o ho => ?_, h4.imp id ?_⟩
  · obtain ⟨p, hp, rfl⟩ := List.mem_map.1 ho
    exact hr p hp
  · rintro ⟨g, e, e2, hb, hg, hf, hcell⟩
    refine ⟨g, 0, e, hg, fun j o ho => ?_⟩
    rw [List.getElem?_map] at ho
    obtain ⟨p, hp, rfl⟩ := Option.map_eq_some_iff.1 ho
    obtain ⟨g0, g1, g2, g3⟩ := flatO_get hp
    obtain ⟨ba, bc, hbv, hbc, hb4⟩ := own_form (h.2 p (List.mem_of_getElem? hp))
    simp only [Nat.zero_add]
    refine ⟨hcell _ _ g0, hcell _ _ g1, hcell _ _ g2, ba, bc, by rw [hcell _ _ g3, hbv], hbc, rfl, hb4.imp id ?_⟩
    rintro ⟨g', e', _, _, hg', _, hcell'⟩
    exact ⟨g', 0, e', hg', fun i x hx => by rw [Nat.zero_add]; exact hcell' i _ (by rw [List.getElem?_map, hx]; rfl)⟩

set_option maxRecDepth 100000 in
set_option maxHeartbeats 16000000 in
theorem plays_ok (w : World) (hv : VarsN w.heap.size w) : Calls Tryz.prog 6 #[] w fun e w' => e = .returned (.bool true) ∧ Below w.heap.size w w' := by
  have HR := Lib.hid (read0 w)
  unfold text0 at HR
  have HV := Lib.hid hv
  clear hv
  go_enter Tryz.func6, Tryz.ntmps6
  go_wp2_with fail
  refine HR.out.mono ?_
  rintro e w1 ⟨v, LL, rfl, hop, hmap, hb1⟩
  obtain ⟨a, c, rfl, hio⟩ := hop.isOps (by
    intro p hp
    have : p.1 ∈ LL.map (·.1) := List.mem_map_of_mem hp
    rw [hmap] at this
    simp at this
    rcases this with e | e | e <;> rw [e] <;> exact ⟨by decide, by decide, by decide, by decide⟩) (by
    have := congrArg List.length hmap
    simp at this
    omega)
  have hlen : LL.length = 3 := by
    have := congrArg List.length hmap
    simpa using this
  rw [hlen, hmap] at hio
  rw [hlen]
  have hnew : (w1.alloc (.cells #[.int .i64 0, .int .i64 0, .slice none 0 0] 49)).heap[w1.heap.size]? = some (.cells #[.int .i64 0, .int .i64 0, .slice none 0 0] 49 (0, 0)) := heap_alloc_new w1 _
  have hrow : (w1.alloc (.cells #[.int .i64 0, .int .i64 0, .slice none 0 0] 49)).setRow w1.heap.size #[.int .i64 3, .int .i64 1, .slice a 3 c] = w1.alloc (.cells #[.int .i64 3, .int .i64 1, .slice a 3 c] 49) := World.setRow_alloc_new w1 _ _ _
  have HB1 := Lib.hid hb1
  have HIO := Lib.hid hio
  clear hb1 hio hop hmap hlen HR
  go_upto_region 2 with (refine wpList_store_row rfl 49 _ _ rfl w1.heap.size #[.int .i64 3, .int .i64 1, .slice a 3 c] rfl rfl _ _ hnew (size_script _ _ _) rfl (one_script _ _ _ _ _) ?_)
  have hn2 := heap_alloc_new w1 (.cells #[.int .i64 3, .int .i64 1, .slice a 3 c] 49)
  have HB2 : Hid (Below w.heap.size w (w1.alloc (.cells #[.int .i64 3, .int .i64 1, .slice a 3 c] 49))) := Lib.hid (HB1.out.alloc HB1.out.size _)
  have HIO2 := Lib.hid (HIO.out.below (show Below w1.heap.size w1 (w1.alloc (.cells #[.int .i64 3, .int .i64 1, .slice a 3 c] 49)) from (Below.refl _ _).alloc (Nat.le_refl _) _))
  generalize (w1.alloc (.cells #[.int .i64 3, .int .i64 1, .slice a 3 c] 49)) = w2 at *
  generalize w1.heap.size = q1 at *
  have HFI := Lib.hid (final_feeds 3 1 a 3 c _ w2 (HV.out.up HB2.out HB2.out.size (Nat.le_refl _)) HIO2.out (by intro o ho; simp at ho; rcases ho with rfl | rfl | rfl <;> rfl))
  have hps : [(⟨0, 0, 0, [101]⟩ : OpC), ⟨0, 0, 0, [204]⟩, ⟨0, 0, 0, [129]⟩].foldl doS (newS 3 1) = playS := rfl
  rw [hps] at HFI
  have hrows := play_rows
  generalize playS = s1 at *
  have HROWS := Lib.hid hrows
  clear hrows hps hnew hrow HIO2 HIO HB1
  go_wp2_with (refine wpList_load_row rfl 49 _ rfl q1 rfl _ #[.int .i64 3, .int .i64 1, .slice a 3 c] (0, 0) _ hn2 Tryz.underlying49 rfl (size_script _ _ _) ?_)
  refine HFI.out.mono ?_
  rintro e w3 ⟨v, rfl, hov, hb3⟩
  obtain ⟨arr, harr, hav, hsz, hone, hs7⟩ := view_row (s := s1) hov
  have hv2 : arr[2]? = some v := by rw [hav]; rfl
  rw [harr]
  have hnew : (w3.alloc (.cells (viewA 0 0 (.slice none 0 0) 0 0 false false) 38)).heap[w3.heap.size]? = some (.cells (viewA 0 0 (.slice none 0 0) 0 0 false false) 38 (0, 0)) := heap_alloc_new w3 _
  have hrow : (w3.alloc (.cells (viewA 0 0 (.slice none 0 0) 0 0 false false) 38)).setRow w3.heap.size arr = w3.alloc (.cells arr 38) := World.setRow_alloc_new w3 _ _ _
  have HOV := Lib.hid hov
  have HB3 := Lib.hid (HB2.out.trans (hb3.mono HB2.out.size))
  have HV2 := Lib.hid hv2
  clear hov hb3 hav harr hv2 HFI HB2 hn2
  go_upto_region 3 with (refine wpList_store_row rfl 38 _ _ rfl w3.heap.size arr rfl rfl _ _ hnew hsz (by rw [hs7]; rfl) hone ?_)
  have hn4 := heap_alloc_new w3 (.cells arr 38)
  have HB4 : Hid (Below w.heap.size w (w3.alloc (.cells arr 38))) := Lib.hid (HB3.out.alloc HB3.out.size _)
  have hov4 := HOV.out.below (show Below w3.heap.size w3 (w3.alloc (.cells arr 38)) from (Below.refl _ _).alloc (Nat.le_refl _) _)
  generalize (w3.alloc (.cells arr 38)) = w4 at *
  generalize w3.heap.size = q3 at *
  have c2 : w4.cell? ⟨q3, 2, none⟩ = some v := by
    simp only [World.cell?, hn4]
    exact HV2.out
  obtain ⟨ag, cg, rfl, _, hg⟩ := hov4.at_
  rw [HROWS.out] at hg c2
  obtain ⟨g, cv, rfl, x0, _, hct⟩ := hg 0 _ rfl
  obtain ⟨a2, cc, rfl, _, hg2⟩ := hct.get2
  obtain ⟨b2, off, tv, rfl, _, y1, htx⟩ := hg2 0 _ rfl
  obtain ⟨at_, ct, rfl, _, _, h5⟩ := htx
  have hin : Same.Ints .i32 w4 at_ 2 [101, 769] := ⟨rfl, h5.imp id (fun ⟨b, o, e, hb, _, hc⟩ => ⟨b, o, e, hb, fun i x hx => (hc i x hx).1⟩)⟩
  have HIN := Lib.hid hin
  clear hg hg2 hct h5 hin hov4 HOV hnew hrow hn4
  simp only [List.length_cons, List.length_nil, Nat.zero_mul, Nat.zero_add, Nat.add_zero, Nat.reduceAdd] at c2 x0 y1
  have hne := heap_alloc_new w4 (.cells #[.int .i32 101, .int .i32 769] 21)
  have hb5 : Below w4.heap.size w4 (w4.alloc (.cells #[.int .i32 101, .int .i32 769] 21)) := (Below.refl _ _).alloc (Nat.le_refl _) _
  have hin2 : Same.Ints .i32 (w4.alloc (.cells #[.int .i32 101, .int .i32 769] 21)) (some ⟨w4.heap.size, 0, none⟩) 2 [101, 769] := ⟨rfl, .inr ⟨w4.heap.size, 0, rfl, by simp, fun i x hx => by
    simp only [World.cell?, hne]
    rcases i with _ | _ | i
    · simp at hx; subst hx; rfl
    · simp at hx; subst hx; rfl
    · simp at hx⟩⟩
  have HSA := Lib.hid (Same.same_any at_ 2 ct [101, 769] (some ⟨w4.heap.size, 0, none⟩) 2 2 [101, 769] _ (HIN.out.below hb5) hin2 (by omega))
  have HB5 : Hid (Below w.heap.size w (w4.alloc (.cells #[.int .i32 101, .int .i32 769] 21))) := Lib.hid (HB4.out.alloc HB4.out.size _)
  have k01 : (0 : Int) < 1 := by decide
  have k03 : (0 : Int) < 3 := by decide
  clear hne hb5 hin2
  go_wp2_with fail
  refine HSA.out.mono ?_
  rintro e w6 ⟨rfl, hb6⟩
  have HB6 := Lib.hid (HB5.out.trans (hb6.mono HB5.out.size))
  clear hb6 HSA
  go_wp2_with fail
  go_ret
  exact ⟨rfl, HB6.out⟩
end Go.Proofs.YtjicdcmdgbcdcaaGreatDoor.Scr
end

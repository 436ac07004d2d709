/-
  chunks.Cut: slices.Sort at the call's own places; bytes.Clone.
-/
import Derived.Test.YtjicdcmdgbcdcaaGreatDoorCd29
import Derived.Test.YtjicdcmdgbcdcaaGreatDoorCd32
import Derived.Test.YtjicdcmdgbcdcaaGreatDoorCd47
import Derived.Sort.OwnSortedInts
section
namespace Go.Proofs.YtjicdcmdgbcdcaaGreatDoor.Scr
set_option linter.unusedSimpArgs false
set_option linter.unusedVariables false
open Go Go.RowKit Mem Turn Ring

theorem sort_own (B g cap n : Nat) (zs : List Int) (w : World) (h : w.ownsRow B 3 1 (.slice (some ⟨g, 0, none⟩) n cap) n (zs.map (Value.int .i64))) (hs : n < 4611686018427387904) (hB : B ≤ w.heap.size) :
    Calls Tryz.prog 60 #[.slice (some ⟨g, 0, none⟩) n cap] w fun e w' => e = .returned (.tuple #[]) ∧ w'.ownsRow B 3 1 (.slice (some ⟨g, 0, none⟩) n cap) n ((zs.mergeSort fun x y => decide (x ≤ y)).map (Value.int .i64)) ∧ Below B w w' := by
  have hl : zs.length = n := by have := h.1; simp at this; omega
  subst hl
  rcases h.2 with ⟨h0, _⟩ | ⟨g', cap', cur, hv, hb, hg, hn, hcap, hsz, htk⟩
  · cases h0
  injection hv with e1 _ e3
  injection e1 with e1
  injection e1 with e1 _ _
  subst e1 e3
  rw [Nat.mul_one] at htk
  have hgl := (Array.getElem?_eq_some_iff.1 hg).1
  have hH := holds_of_blockI hg htk
  refine (calls_of_every_depth fun D => AnyS.slices_Sort_int_in LaysSort.laysSort D g 0 cap zs w hH hgl hs).mono ?_
  rintro e w' ⟨rfl, q, os, rfl⟩
  exact ⟨rfl, ownsRow_sortedI (List.length_mergeSort zs) hb hg hn hcap hsz, (Below.refl _ _).grown (grownBy_sortedI _) hB (fun k e => by injection e with e; subst e; exact hb)⟩

/-- bytes that are read only -/
def BytesIn (w : World) (v : Value) (l : List Int) : Prop := ∃ a c, v = .slice a l.length c ∧ l.length ≤ c ∧ l.length ≤ 140737488355328 ∧ (l.length = 0 ∨ ∃ b off, a = some ⟨b, off, none⟩ ∧ b < w.heap.size ∧ ∀ i x, l[i]? = some x → w.cell? ⟨b, off + i, none⟩ = some (.int .u8 x))
theorem BytesIn.below {w w' : World} {v : Value} {l : List Int} (h : BytesIn w v l) (hb : Below w.heap.size w w') : BytesIn w' v l := by
  obtain ⟨a, c, e, h1, h2, h3⟩ := h
  refine ⟨a, c, e, h1, h2, h3.imp id ?_⟩
  rintro ⟨b, off, e, hl, hc⟩
  exact ⟨b, off, e, Nat.lt_of_lt_of_le hl hb.size, fun i x hx => (hb.cell (p := ⟨b, off + i, none⟩) hl).trans (hc i x hx)⟩
theorem one_bytes (l : List Int) : ∀ u ∈ l.map (Value.int .u8), u.oneCell' = true := by
  intro u hu
  obtain ⟨x, _, rfl⟩ := List.mem_map.1 hu
  rfl
theorem src_bytes {w : World} {a : Option Addr} {n c : Nat} {l : List Int} (h : BytesIn w (.slice a n c) l) : Turn.Src w a n 1 (l.map (Value.int .u8)) ∧ l.length = n ∧ n ≤ 140737488355328 := by
  obtain ⟨a', c', e, h1, h2, h4⟩ := h
  injection e with e1 e2 e3
  subst e1 e2 e3
  refine ⟨?_, rfl, h2⟩
  rcases h4 with h0 | ⟨b, off, rfl, _, hc⟩
  · have : l = [] := List.eq_nil_of_length_eq_zero h0
    subst this
    rcases a with _ | ad
    · exact .inl ⟨rfl, rfl, rfl⟩
    · exact .inr ⟨ad, rfl, by simp, fun j u hj => by simp at hj⟩
  · refine .inr ⟨_, rfl, by simp, fun j u hj => ?_⟩
    rw [List.getElem?_map, Option.map_eq_some_iff] at hj
    obtain ⟨x, hx, rfl⟩ := hj
    rw [add_nn]
    exact hc j x hx

set_option maxRecDepth 100000 in
set_option maxHeartbeats 8000000 in
theorem bclone_any (a : Option Addr) (n c : Nat) (l : List Int) (w : World) (h : BytesIn w (.slice a n c) l) :
    Calls Tryz.prog 61 #[.slice a n c] w fun e w' => ∃ v, e = .returned v ∧ w'.ownsRow w.heap.size 5 1 v n (l.map (Value.int .u8)) ∧ Below w.heap.size w w' := by
  obtain ⟨i0, hi, hz0, hz1, hz2⟩ := info_parts info_byte
  have q22 : ∀ (w : World) (a : Option Addr) (n c n' c' : Nat), (binOp .eql 28 (.slice a n c) (.slice none n' c')).run Tryz.prog w = .ok (.bool a.isNone) w := fun w a n c n' c' => Lib.run_eql_slice_nil w _ _ a n c n' c' Tryz.underlying28
  have hb1 : Below w.heap.size w (w.alloc (.cells #[] 5)) := (Below.refl _ _).alloc (Nat.le_refl _) _
  obtain ⟨hs, hln, hn⟩ := src_bytes (h.below hb1)
  rcases a with _ | ad
  · have h0 : n = 0 ∧ l = [] := by
      rcases hs with ⟨_, h0, h1⟩ | ⟨_, h0, _⟩
      · exact ⟨h0, by simpa using h1⟩
      · cases h0
    obtain ⟨rfl, rfl⟩ := h0
    clear h hs hb1
    go_enter Tryz.func61, Tryz.ntmps61
    go_wp2
    go_ret
    exact ⟨_, rfl, World.ownsRow_nil _ _ _ _, Below.refl _ _⟩
  · have HS := Lib.hid hs
    have H3 : Hid ((w.alloc (.cells #[] 5)).ownsRow w.heap.size 5 1 (.slice (some ⟨w.heap.size, 0, none⟩) 0 0) 0 []) := World.ownsRow_made w #[] 0 (Nat.le_refl _) (by unfold maxLen; omega) rfl
    have hm : n ≤ 140737488355328 := hn
    clear h hs hb1
    go_enter Tryz.func61, Tryz.ntmps61
    go_wp2_with (at_builtin; (refine wpList_append_src _ rfl _ _ 28 rfl w.heap.size 5 i0 _ 1 1 Tryz.underlying28 hi hz0 hz1 hz2 rfl (by decide) _ 0 _ rfl H3.out (some ad) n c (l.map (Value.int .u8)) rfl HS.out (one_bytes _) (by unfold maxLen; omega) (by omega) (by simp) ?_; intro v' w3 hown' hgrow))
    go_ret
    rw [Nat.zero_add, List.nil_append] at hown'
    exact ⟨v', rfl, hown', ((Below.refl _ _).alloc (Nat.le_refl _) _).grown hgrow (by simp) (fun k e => by injection (show some w.heap.size = some k from e) with e; omega)⟩

/-- pieces of the call's own -/
def Pieces (w : World) (B : Nat) (v : Value) (P : List (Value × List Int)) : Prop := w.ownsRow B 28 1 v P.length (P.map (·.1)) ∧ ∀ p ∈ P, w.ownsRow B 5 1 p.1 p.2.length (p.2.map (Value.int .u8))
def clampN (N : Nat) (x : Int) : Int := max 0 (min x N)
theorem clampN_rng (N : Nat) (x : Int) : 0 ≤ clampN N x ∧ clampN N x ≤ N := by unfold clampN; omega
theorem info_int_ : (Tryz.prog.info? 3).map (fun i => (i.zero, i.size, i.bytes)) = some (some (.int .i64 0), 1, 8) := by kernel_rfl
theorem info_bs : (Tryz.prog.info? 28).map (fun i => (i.zero, i.size, i.bytes)) = some (some (.slice none 0 0), 1, 24) := by kernel_rfl
theorem make_ints (m : Nat) (hm : m ≤ 100001) (W : World) : (Instr.makeSlice 69 (.int .i64 0) (.int .i64 (m : Int))).run Tryz.prog W = .ok (.slice (some ⟨W.heap.size, 0, none⟩) 0 m) (W.alloc (.cells (madeCells (Value.int .i64 0).cells (m * 1)) 3)) := by
  obtain ⟨i0, hi, hz0, hz1, hz2⟩ := info_parts info_int_
  have := run_makeSlice (P := Tryz.prog) W 69 3 i0 _ Tryz.underlying69 hi hz0 .i64 .i64 0 (m : Int) (by omega) (by omega) (by rw [hz1]; simp; omega) (by rw [hz2]; omega) (by omega)
  rw [hz1] at this
  simpa only [Int.toNat_natCast, Int.toNat_zero] using this
theorem make_bss (m : Nat) (hm : m ≤ 100001) (W : World) : (Instr.makeSlice 71 (.int .i64 0) (.int .i64 (m : Int))).run Tryz.prog W = .ok (.slice (some ⟨W.heap.size, 0, none⟩) 0 m) (W.alloc (.cells (madeCells (Value.slice none 0 0).cells (m * 1)) 28)) := by
  obtain ⟨i0, hi, hz0, hz1, hz2⟩ := info_parts info_bs
  have := run_makeSlice (P := Tryz.prog) W 71 28 i0 _ Tryz.underlying71 hi hz0 .i64 .i64 0 (m : Int) (by omega) (by omega) (by rw [hz1]; simp; omega) (by rw [hz2]; omega) (by omega)
  rw [hz1] at this
  simpa only [Int.toNat_natCast, Int.toNat_zero] using this
theorem own_some {w : World} {base : Nat} {e : TypeId} {n : Nat} {v : Value} {xs : List Value} (h0 : 0 < n) (h : w.ownsRow base e 1 v n xs) : ∃ g c, v = .slice (some ⟨g, 0, none⟩) n c := by
  rcases h.2 with ⟨_, hx⟩ | ⟨g', cap', cur, hv, _⟩
  · have := h.1
    simp [hx] at this
    omega
  · exact ⟨g', cap', hv⟩
theorem BytesIn.part {w : World} {ba : Option Addr} {n bc f y : Nat} {l : List Int} (h : BytesIn w (.slice ba n bc) l) (hfy : f ≤ y) (hyn : y ≤ n) : BytesIn w (.slice (ba.map fun x => x.add f) (y - f) (bc - f)) ((l.take y).drop f) := by
  obtain ⟨a', c', e, h1, h2, h4⟩ := h
  injection e with e1 e2 e3
  subst e1 e2 e3
  have hl : ((l.take y).drop f).length = y - f := by simp; omega
  refine ⟨_, _, by rw [hl], by omega, by omega, ?_⟩
  rcases h4 with h0 | ⟨b, off, rfl, hb, hc⟩
  · exact .inl (by omega)
  · refine .inr ⟨b, off + f, congrArg some (add_nn ..), hb, fun i x hx => ?_⟩
    rw [Nat.add_assoc]
    refine hc (f + i) x ?_
    rw [List.getElem?_drop, List.getElem?_take] at hx
    split at hx
    · exact hx
    · cases hx
theorem BytesIn.void {w : World} {ba : Option Addr} {c f y n : Nat} {l : List Int} (h : BytesIn w (.slice ba n c) l) (hfy : f ≤ y) (hy : y ≤ f) (hyn : y ≤ n) (c' : Nat) : BytesIn w (.slice ba (y - f) c') ((l.take y).drop f) := by
  obtain ⟨a', c2, e, h1, h2, h4⟩ := h
  injection e with e1 e2 e3
  subst e1 e2 e3
  have hl : ((l.take y).drop f).length = y - f := by simp; omega
  exact ⟨_, _, by rw [hl], by omega, by omega, .inl (by omega)⟩
theorem Pieces.turn {w w' : World} {T : Nat → Prop} {B : Nat} {v : Value} {L : List (Value × List Int)} (h : Pieces w B v L) (ht : Turn T w w') (h1 : ∀ b, T b → b < w.heap.size → ¬ Typ w 28 b) (h2 : ∀ b, T b → b < w.heap.size → ¬ Typ w 5 b) : Pieces w' B v L :=
  ⟨ht.kept h.1 (fun g hg e => h1 g e (owns_typ h.1 hg).lt (owns_typ h.1 hg)), fun p hp => ht.kept (h.2 p hp) (fun g hg e => h2 g e (owns_typ (h.2 p hp) hg).lt (owns_typ (h.2 p hp) hg))⟩
theorem wpList_slice_at {P : Program} {w : World} {ops : Array Oper} {rest : List Oper} {o : Oper} {a : Act} {Q : Exit → Act → World → Prop} (hgd : o.guard = none) (t : TypeId) (sx lo hi : Operand) (ho : o.op = .slice t sx (some lo) (some hi) none) {x l h v : Value} (hx : a.eval sx = x) (hl : a.eval lo = l) (hh : a.eval hi = h) (hr : (Instr.sliceAt t x (some l) (some h) none).run P w = .ok v w) (hk : wpList P ops Q rest (a.put o.dst v) w) : wpList P ops Q (o :: rest) a w :=
  wpList_plain hgd fun _ hK => by
    unfold Oper.wp execOp
    simp only [ho, Sem.run_bind, Sem.run_pure, Result.andThen_ok, Option.map_some, Option.map_none, hx, hl, hh, hr]
    exact hK _ _ hk
theorem cut_slice (ba : Option Addr) (n bc f y : Nat) (l : List Int) (w : World) (h : BytesIn w (.slice ba n bc) l) (hfy : f ≤ y) (hyn : y ≤ n) (hc : y ≤ bc) : ∃ a' c', (Instr.sliceAt 28 (.slice ba n bc) (some (.int .i64 (f : Int))) (some (.int .i64 (y : Int))) none).run Tryz.prog w = .ok (.slice a' (y - f) c') w ∧ BytesIn w (.slice a' (y - f) c') ((l.take y).drop f) := by
  obtain ⟨i0, hi, hz0, hz1, hz2⟩ := info_parts info_byte
  have hs : (sizeOf (Tryz.prog.elem 28)).run Tryz.prog w = .ok 1 w := by
    have : Tryz.prog.elem 28 = 5 := by kernel_rfl
    rw [this]
    simp [sizeOf, typeInfo, hi, hz1]
  have hu : Tryz.prog.underlying 28 = some (.slice (Tryz.prog.elem 28)) := by kernel_rfl
  rw [run_sliceAt_slice w _ _ _ _ _ hu, run_slice_lh w _ _ _ _ hu .i64 .i64 f y (by omega) (by omega) (by omega), hs]
  simp only [Result.andThen, sliced, Int.toNat_natCast, Nat.mul_one]
  by_cases hb : bc = f
  · rw [if_pos hb]
    exact ⟨_, _, rfl, h.void hfy (by omega) hyn _⟩
  · rw [if_neg hb]
    exact ⟨_, _, rfl, h.part hfy hyn⟩
def cuts (n : Nat) (zs : List Int) : List Int := ((zs.map (clampN n)).mergeSort fun x y => decide (x ≤ y)) ++ [(n : Int)]
theorem cuts_len (n : Nat) (zs : List Int) : (cuts n zs).length = zs.length + 1 := by simp [cuts]
theorem cuts_rng (n : Nat) (zs : List Int) (x : Int) (h : x ∈ cuts n zs) : 0 ≤ x ∧ x ≤ n := by
  unfold cuts at h
  rw [List.mem_append, List.mem_mergeSort, List.mem_map] at h
  rcases h with ⟨y, _, rfl⟩ | h
  · exact clampN_rng n y
  · simp at h
    omega
theorem cuts_pw (n : Nat) (zs : List Int) : (cuts n zs).Pairwise (· ≤ ·) := by
  unfold cuts
  rw [List.pairwise_append]
  refine ⟨?_, by simp, fun a ha b hb => ?_⟩
  · have := List.pairwise_mergeSort (le := fun x y : Int => decide (x ≤ y)) (fun a b c h1 h2 => by simp at *; omega) (fun a b => by simp; omega) (zs.map (clampN n))
    exact this.imp (by intro a b h; simpa using h)
  · simp at hb
    subst hb
    exact (cuts_rng n zs a (by unfold cuts; simp [ha])).2
/-- where the piece before ends -/
def CutF (S : List Int) (j f : Nat) : Prop := (j = 0 ∧ f = 0) ∨ ∃ i, j = i + 1 ∧ S[i]? = some (f : Int)
theorem CutF.next {n : Nat} {zs : List Int} {j f : Nat} {x : Int} (h : CutF (cuts n zs) j f) (hx : (cuts n zs)[j]? = some x) : ∃ y : Nat, x = y ∧ f ≤ y ∧ y ≤ n ∧ CutF (cuts n zs) (j + 1) y := by
  have hr := cuts_rng n zs x (List.mem_of_getElem? hx)
  obtain ⟨y, rfl⟩ := Int.eq_ofNat_of_zero_le hr.1
  refine ⟨y, rfl, ?_, by omega, .inr ⟨j, rfl, hx⟩⟩
  rcases h with ⟨rfl, rfl⟩ | ⟨i, rfl, hi⟩
  · omega
  · obtain ⟨h1, e1⟩ := List.getElem?_eq_some_iff.1 hi
    obtain ⟨h2, e2⟩ := List.getElem?_eq_some_iff.1 hx
    have := List.pairwise_iff_getElem.1 (cuts_pw n zs) i (i + 1) h1 h2 (by omega)
    rw [e1, e2] at this
    omega
theorem CutF.last {n : Nat} {zs : List Int} {f : Nat} (h : CutF (cuts n zs) (zs.length + 1) f) : f = n := by
  rcases h with ⟨h, _⟩ | ⟨i, hi, e⟩
  · omega
  · have : i = zs.length := by omega
    subst this
    unfold cuts at e
    rw [List.getElem?_append_right (by simp)] at e
    simp at e
    omega
set_option maxRecDepth 100000 in
set_option maxHeartbeats 16000000 in
theorem cut_pieces (ba : Option Addr) (n bc : Nat) (l : List Int) (aa : Option Addr) (m ac : Nat) (zs : List Int) (w : World) (hb : BytesIn w (.slice ba n bc) l) (ha : Same.Ints .i64 w aa m zs) (hm : m ≤ 100000) :
    Calls Tryz.prog 23 #[.slice ba n bc, .slice aa m ac] w fun e w' => ∃ v P, e = .returned v ∧ Pieces w' w.heap.size v P ∧ (P.map (·.2)).flatten = l ∧ Below w.heap.size w w' := by
  obtain ⟨i0, hi, hz0, hz1, hz2⟩ := info_parts info_int_
  obtain ⟨i1, hj, hy0, hy1, hy2⟩ := info_parts info_bs
  have HB := Lib.hid hb
  have HA := Lib.hid ha
  have hln : l.length = n ∧ n ≤ 140737488355328 := (src_bytes hb).2
  have HLN := Lib.hid hln
  clear hb ha hln
  have q1 := make_ints m (by omega) w
  go_enter Tryz.func23, Tryz.ntmps23
  go_wp2_with fail
  have hown0 : (w.alloc (.cells (madeCells (Value.int .i64 0).cells (m * 1)) 3)).ownsRow w.heap.size 3 1 (.slice (some ⟨w.heap.size, 0, none⟩) 0 m) 0 [] := World.ownsRow_made w _ m (by omega) (by unfold maxLen; omega) (by rw [size_madeCells])
  have HI : Hid ((w.alloc (.cells (madeCells (Value.int .i64 0).cells (m * 1)) 3)).ownsRow w.heap.size 3 1 (.slice (some ⟨w.heap.size, 0, none⟩) 0 m) 0 (((zs.take 0).map (clampN n)).map (Value.int .i64)) ∧ Below w.heap.size w (w.alloc (.cells (madeCells (Value.int .i64 0).cells (m * 1)) 3))) := Lib.hid ⟨hown0, (Below.refl _ _).alloc (Nat.le_refl _) _⟩
  clear q1 hown0
  have e0 : madeCells (Value.int .i64 0).cells (m * 1) = madeCells #[Value.int .i64 0] m := by rw [Nat.mul_one]; rfl
  rw [e0] at HI
  generalize (w.alloc (.cells (madeCells #[Value.int .i64 0] m) 3)) = w1 at *
  clear e0
  go_loopg [5, 7, 17] m (fun gg v5 v7 v17 wx => ∃ (k g cp : Nat), m - k = gg ∧ k ≤ m ∧ v17 = .int .i64 (k : Int) ∧ v5 = .slice (some ⟨g, 0, none⟩) k cp ∧ Hid (wx.ownsRow w.heap.size 3 1 (.slice (some ⟨g, 0, none⟩) k cp) k (((zs.take k).map (clampN n)).map (Value.int .i64)) ∧ Below w.heap.size w wx))
  case atStart => exact ⟨0, w.heap.size, m, rfl, Nat.zero_le _, rfl, rfl, HI⟩
  case round =>
    obtain ⟨k, g, cp, rfl, hk, rfl, rfl, H⟩ := hrel
    obtain ⟨hown, hbw⟩ := H.out
    by_cases hlt : k < m
    · have hlt' : (k : Int) < (m : Int) := by omega
      obtain ⟨hzl, hzc⟩ := HA.out
      obtain ⟨b, off, rfl, hbl, hcc⟩ := hzc.resolve_left (by omega)
      obtain ⟨x, hx⟩ : ∃ x, zs[k]? = some x := ⟨_, List.getElem?_eq_getElem (by rw [hzl]; exact hlt)⟩
      have hcell := (hbw.cell (p := ⟨b, off + k, none⟩) hbl).trans (hcc k x hx)
      have HX := Lib.hid hx
      have hcl : max 0 (min x (n : Int)) = clampN n x := rfl
      have HOWN := Lib.hid hown
      have HBW := Lib.hid hbw
      clear hzl hzc hcc hx hown hbw H
      go_wp2_with (at_builtin; refine wpList_append_own _ rfl _ _ 69 rfl w.heap.size 3 i0 _ 1 8 Tryz.underlying69 hi hz0 hz1 hz2 rfl (by decide) _ k _ rfl (HOWN.out.alloc _) ⟨wr.heap.size, 0, none⟩ 1 1 [.int .i64 (clampN n x)] rfl rfl (cell_new1 _ _ _) (by simp [Value.oneCell']) (by unfold maxLen; omega) (by omega) (by have := HBW.out.size; simp; omega) ?_; intro v2 w3 hown2 hgrow2 hnil)
      have HO2 : Hid (w3.ownsRow w.heap.size 3 1 v2 (k + 1) (((zs.take (k + 1)).map (clampN n)).map (Value.int .i64))) := Lib.hid (by
        rw [List.take_add_one, HX.out]
        simpa using hown2)
      have HB2 : Hid (Below w.heap.size w w3) := Lib.hid ((HBW.out.alloc HBW.out.size _).grown hgrow2 (by have := HBW.out.size; simp; omega) (fun j e => (HOWN.out.lt j e).1))
      obtain ⟨g', cp', rfl⟩ : ∃ g' cp', v2 = .slice (some ⟨g', 0, none⟩) (k + 1) cp' := by
        rcases HO2.out.2 with ⟨h0, _⟩ | ⟨g', cap', cur, hv, _⟩
        · have e := (hnil.1 h0).1; injection e with e1; cases e1
        · exact ⟨g', cap', hv⟩
      clear hown2 hgrow2 hnil HOWN HBW
      go_roundg (m - (k + 1))
      case measure => omega
      case rel => exact ⟨k + 1, g', cp', rfl, by omega, by go_num, rfl, Lib.hid ⟨HO2.out, HB2.out⟩⟩
    · obtain rfl : k = m := by omega
      have hmw : ¬ ((k : Int) < (k : Int)) := by omega
      rw [← HA.out.1, List.take_length] at hown
      rw [HA.out.1] at hown
      have HSO := Lib.hid (sort_own w.heap.size g cp k (zs.map (clampN n)) wr hown (by omega) hbw.size)
      have HBW := Lib.hid hbw
      obtain ⟨S0, hS0⟩ : ∃ S0, (zs.map (clampN n)).mergeSort (fun x y => decide (x ≤ y)) = S0 := ⟨_, rfl⟩
      have HS0 := Lib.hid hS0
      rw [hS0] at HSO
      clear hown hbw H hlt hS0
      go_wp2_with fail
      refine HSO.out.mono ?_
      rintro e w2 ⟨rfl, hown2, hb2⟩
      have HB2 := Lib.hid (HBW.out.trans hb2)
      have HO2 := Lib.hid hown2
      clear hown2 hb2 HSO HBW
      have q2 := make_bss (k + 1) (by omega) w2
      rw [show ((k + 1 : Nat) : Int) = (k : Int) + 1 by omega] at q2
      obtain ⟨hn1, hn2⟩ := HLN.out
      have e1 : madeCells (Value.slice none 0 0).cells ((k + 1) * 1) = madeCells #[Value.slice none 0 0] (k + 1) := by rw [Nat.mul_one]; rfl
      rw [e1] at q2
      have hsz2 := HB2.out.size
      have hl0 : S0.length = k := by rw [← HS0.out, List.length_mergeSort, List.length_map]; exact HA.out.1
      have HO3 : Hid ((w2.alloc (.cells (madeCells #[Value.slice none 0 0] (k + 1)) 28)).ownsRow w.heap.size 3 1 (.slice (some ⟨g, 0, none⟩) k cp) k (S0.map (Value.int .i64))) := Lib.hid (HO2.out.alloc _)
      have HW3 : Hid ((w2.alloc (.cells (madeCells #[Value.slice none 0 0] (k + 1)) 28)).ownsRow w.heap.size 28 1 (.slice (some ⟨w2.heap.size, 0, none⟩) 0 (k + 1)) 0 []) := Lib.hid (by
        have : (w2.alloc (.cells (madeCells #[Value.slice none 0 0] (k + 1)) 28)).ownsRow w2.heap.size 28 1 (.slice (some ⟨w2.heap.size, 0, none⟩) 0 (k + 1)) 0 [] := World.ownsRow_made w2 (madeCells #[Value.slice none 0 0] (k + 1)) (k + 1) (Nat.le_refl _) (by unfold maxLen; omega) (by rw [← e1, size_madeCells])
        exact owns_base this hsz2)
      have HB3 : Hid (Below w.heap.size w (w2.alloc (.cells (madeCells #[Value.slice none 0 0] (k + 1)) 28))) := Lib.hid (HB2.out.alloc hsz2 _)
      generalize (w2.alloc (.cells (madeCells #[Value.slice none 0 0] (k + 1)) 28)) = w4 at *
      generalize w2.heap.size = q at *
      clear e1 HB2 HO2
      go_wp2_with (at_builtin; refine wpList_append_own _ rfl _ _ 69 rfl w.heap.size 3 i0 _ 1 8 Tryz.underlying69 hi hz0 hz1 hz2 rfl (by decide) _ k _ rfl (HO3.out.alloc _) ⟨w4.heap.size, 0, none⟩ 1 1 [.int .i64 (n : Int)] rfl rfl (cell_new1 _ _ _) (by simp [Value.oneCell']) (by unfold maxLen; omega) (by omega) (by have := HB3.out.size; simp; omega) ?_; intro v2 w3 hown2 hgrow2 hnil; obtain ⟨g', cp', rfl⟩ := own_some (by omega) hown2)
      have hSS : cuts n zs = S0 ++ [(n : Int)] := by unfold cuts; rw [HS0.out]
      have T3 : Turn (fun j => j = g) (w4.alloc (.cells #[.int .i64 (n : Int)] 3)) w3 := Turn.of_grown hgrow2 (fun j e => by injection e with e; exact e.symm)
      have hgt : Typ (w4.alloc (.cells #[.int .i64 (n : Int)] 3)) 3 g := owns_typ (HO3.out.alloc _) rfl
      have HI : Hid (CutF (cuts n zs) 0 0 ∧ ([] : List (Value × List Int)).length = 0 ∧ (([] : List (Value × List Int)).map (·.2)).flatten = l.take 0 ∧ Pieces w3 w.heap.size (.slice (some ⟨q, 0, none⟩) 0 (k + 1)) [] ∧ w3.ownsRow w.heap.size 3 1 (.slice (some ⟨g', 0, none⟩) (k + 1) cp') (k + 1) ((cuts n zs).map (Value.int .i64)) ∧ Below w.heap.size w w3) := Lib.hid (by
        refine ⟨.inl ⟨rfl, rfl⟩, rfl, rfl, ⟨T3.kept (HW3.out.alloc _) (fun j e h => ?_), by simp⟩, ?_, ?_⟩
        · subst h
          exact hgt.not (by decide) (owns_typ (HW3.out.alloc _) e)
        · rw [hSS]
          simpa using hown2
        · exact (HB3.out.alloc HB3.out.size _).grown hgrow2 (by have := HB3.out.size; simp; omega) (fun j e => (HO3.out.lt j e).1))
      clear hown2 hgrow2 hnil HO3 HW3 HB3 T3 hgt hSS HS0 hl0
      go_loopg [8, 9, 11, 42] (k + 1) (fun gg v8 v9 v11 v42 wx => ∃ (j f c : Nat) (a : Option Addr) (P : List (Value × List Int)), (k + 1) - j = gg ∧ j ≤ k + 1 ∧ v42 = .int .i64 (j : Int) ∧ v9 = .int .i64 (f : Int) ∧ v8 = .slice a j c ∧ Hid (CutF (cuts n zs) j f ∧ P.length = j ∧ (P.map (·.2)).flatten = l.take f ∧ Pieces wx w.heap.size (.slice a j c) P ∧ wx.ownsRow w.heap.size 3 1 (.slice (some ⟨g', 0, none⟩) (k + 1) cp') (k + 1) ((cuts n zs).map (Value.int .i64)) ∧ Below w.heap.size w wx))
      case atStart => exact ⟨0, 0, k + 1, some ⟨q, 0, none⟩, [], rfl, Nat.zero_le _, rfl, rfl, rfl, HI⟩
      case round =>
        obtain ⟨j, f, c, a, P, rfl, hj, rfl, rfl, rfl, H⟩ := hrel
        obtain ⟨hcf, hpl, hpf, hpi, hpo, hbw⟩ := H.out
        by_cases hlt : j < k + 1
        · have hlt' : (j : Int) < (k : Int) + 1 := by omega
          have hkl := HA.out.1
          obtain ⟨x, hx⟩ : ∃ x, (cuts n zs)[j]? = some x := ⟨_, List.getElem?_eq_getElem (by rw [cuts_len, hkl]; exact hlt)⟩
          obtain ⟨y, rfl, hfy, hyn, hcf'⟩ := hcf.next hx
          have hcell : wr.cell? ⟨g', j, none⟩ = some (.int .i64 (y : Int)) := by
            obtain ⟨a', c', e, _, h⟩ := own_form hpo
            rcases h with h | ⟨g2, rfl, _, _, _, _, h⟩
            · omega
            · injection e with e1
              injection e1 with e1
              injection e1 with e1
              subst e1
              exact h j _ (by rw [List.getElem?_map, hx]; rfl)
          have hbi := HB.out.below hbw
          obtain ⟨ab, cb, eb, hb1, hb2, hb3⟩ := hbi
          injection eb with eb0 eb1 eb2
          subst eb0 eb2
          have hcap : y ≤ bc := by omega
          have HALL := Lib.hid (show CutF (cuts n zs) (j + 1) y ∧ P.length = j ∧ (P.map (·.2)).flatten = l.take f ∧ Pieces wr w.heap.size (.slice a j c) P ∧ wr.ownsRow w.heap.size 3 1 (.slice (some ⟨g', 0, none⟩) (k + 1) cp') (k + 1) ((cuts n zs).map (Value.int .i64)) ∧ Below w.heap.size w wr from ⟨hcf', hpl, hpf, hpi, hpo, hbw⟩)
          clear hcf hpl hpf hpi hpo hbw hx hcf' hb1 hb2 hb3 eb1 H HA hkl hj hn1 hn2
          have j1 : (0 : Int) ≤ f := by omega
          have j2 : (f : Int) ≤ y := by omega
          have j3 : (y : Int) ≤ bc := by omega
          have HBI := Lib.hid (HB.out.below HALL.out.2.2.2.2.2)
          obtain ⟨a5, c5, hq5, hb5⟩ := cut_slice ba n bc f y l wr HBI.out hfy hyn hcap
          have HL5 := Lib.hid (show ((l.take y).drop f).length = y - f by have := HLN.out.1; simp; omega)
          have HLT := Lib.hid (show l.take f ++ (l.take y).drop f = l.take y by
            have := List.take_append_drop f (l.take y)
            rwa [List.take_take, Nat.min_eq_left hfy] at this)
          have hyb : y - f ≤ 140737488355328 := by have := HLN.out.2; omega
          generalize y - f = d at *
          generalize (l.take y).drop f = ld at *
          have HQ5 := Lib.hid hq5
          have HB6 := Lib.hid hb5
          clear hq5 hb5
          go_wp2_with (refine wpList_slice_at rfl 28 _ _ _ rfl rfl rfl rfl HQ5.out ?_)
          · refine (bclone_any _ _ _ ld wr HB6.out).mono ?_
            rintro e w5 ⟨v, rfl, hov, hb5⟩
            have T5 : Turn (fun _ => False) wr w5 := Turn.of_new hb5
            have HV := Lib.hid (owns_base hov HALL.out.2.2.2.2.2.size)
            obtain ⟨av, cv, rfl⟩ := Turn.own_slice hov
            have HP5 := Lib.hid (HALL.out.2.2.2.1.turn T5 (fun _ h => h.elim) (fun _ h => h.elim))
            have HPR : Hid (w5.ownsRow w.heap.size 28 1 (.slice a j c) j (P.map (·.1))) := Lib.hid (by have := HP5.out.1; rw [HALL.out.2.1] at this; exact this)
            have HO5 := Lib.hid (T5.kept HALL.out.2.2.2.2.1 (fun _ _ => id))
            have HB5 := Lib.hid (HALL.out.2.2.2.2.2.trans (hb5.mono HALL.out.2.2.2.2.2.size))
            have HA5 := Lib.hid (And.intro HALL.out.1 (And.intro HALL.out.2.1 HALL.out.2.2.1))
            clear hov hb5 T5 HALL HBI hcell
            go_wp2_with (at_builtin; refine wpList_append_own _ rfl _ _ 71 rfl w.heap.size 28 i1 _ 1 24 Tryz.underlying71 hj hy0 hy1 hy2 rfl (by decide) _ j _ rfl (HPR.out.alloc _) ⟨w5.heap.size, 0, none⟩ 1 1 [.slice av d cv] rfl rfl (cell_new1 _ _ _) (by simp [Value.oneCell']) (by unfold maxLen; omega) (by omega) (by have := HB5.out.size; simp; omega) ?_; intro v2 w6 hown2 hgrow2 hnil; obtain ⟨g2, cp2, rfl⟩ := own_some (by omega) hown2)
            have HF : Hid (CutF (cuts n zs) (j + 1) y ∧ (P ++ [(Value.slice av d cv, ld)]).length = j + 1 ∧ ((P ++ [(Value.slice av d cv, ld)]).map (·.2)).flatten = l.take y ∧ Pieces w6 w.heap.size (.slice (some ⟨g2, 0, none⟩) (j + 1) cp2) (P ++ [(Value.slice av d cv, ld)]) ∧ w6.ownsRow w.heap.size 3 1 (.slice (some ⟨g', 0, none⟩) (k + 1) cp') (k + 1) ((cuts n zs).map (Value.int .i64)) ∧ Below w.heap.size w w6) := Lib.hid (by
              have T6 : Turn (fun b => (Value.slice a j c).ownBlock = some b) (w5.alloc (.cells #[.slice av d cv] 28)) w6 := Turn.of_grown hgrow2 (fun _ e => e)
              have hty : ∀ b, (Value.slice a j c).ownBlock = some b → Typ (w5.alloc (.cells #[.slice av d cv] 28)) 28 b := fun b e => owns_typ (HPR.out.alloc _) e
              refine ⟨HA5.out.1, by simp [HA5.out.2.1], ?_, ⟨?_, fun p hp => ?_⟩, ?_, ?_⟩
              · rw [List.map_append, List.flatten_append, HA5.out.2.2]
                simpa using HLT.out
              · rw [List.length_append, HA5.out.2.1, List.map_append]
                exact hown2
              · have hu : (w5.alloc (.cells #[.slice av d cv] 28)).ownsRow w.heap.size 5 1 p.1 p.2.length (p.2.map (Value.int .u8)) := by
                  rcases List.mem_append.1 hp with e | e
                  · exact (HP5.out.2 p e).alloc _
                  · simp at e
                    subst e
                    simp only
                    rw [HL5.out]
                    exact HV.out.alloc _
                exact T6.kept hu (fun b e h => (hty b h).not (by decide) (owns_typ hu e))
              · exact T6.kept (HO5.out.alloc _) (fun b e h => (hty b h).not (by decide) (owns_typ (HO5.out.alloc _) e))
              · exact (HB5.out.alloc HB5.out.size _).grown hgrow2 (by have := HB5.out.size; simp; omega) (fun b e => (HPR.out.lt b e).1))
            clear hown2 hgrow2 hnil HV HP5 HPR HO5 HB5 HA5
            go_roundg (k + 1 - (j + 1))
            case measure => omega
            case rel => exact ⟨j + 1, y, cp2, some ⟨g2, 0, none⟩, _, rfl, by omega, by go_num, rfl, rfl, HF⟩
        · obtain rfl : j = k + 1 := by omega
          have hmw : ¬ ((k : Int) + 1 < (k : Int) + 1) := by omega
          go_wp2_with fail
          go_ret
          refine ⟨_, rfl, P, hpi, ?_, hbw⟩
          rw [hpf]
          have := HA.out.1
          subst this
          rw [hcf.last, ← HLN.out.1, List.take_length]
end Go.Proofs.YtjicdcmdgbcdcaaGreatDoor.Scr
end

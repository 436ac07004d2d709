/-
  The reference's Lines of layer 22.
-/
import Derived.Test.YtihanlahegngoaaFitL
namespace Go.Proofs.Ytihanlahegngoaa.Fit
set_option linter.unusedSimpArgs false
set_option linter.unusedVariables false
open Go Go.RowKit Go.Shelf Mem Seg Turn Gra Same GraLaw Mea

section
variable {P : Program} (w : World)

/-- 'append' of one or more onto a row of the call's own, or onto a full one that lies elsewhere: the result lies at 'base' or behind -/
theorem run_push (base lo : Nat) (t ty e : TypeId) (i : TypeInfo) (z : Value) (size bytes : Nat) (ht : P.underlying t = some (.slice e)) (hi : P.info? e = some i) (hz : i.zero = some z)
    (hsize : i.size = size) (hby : i.bytes = bytes) (hzs : z.cells.size = size) (hsz : 0 < size)
    (v : Value) (n : Nat) (xs : List Value) (hown : w.ownsRow base e size v n xs ∨ ∃ g, v = .slice (some ⟨g, 0, none⟩) n n ∧ w.ownsRow lo e size v n xs)
    (a : Addr) (m c : Nat) (news : List Value) (hm : 0 < m) (hl : news.length = m * size) (hnews : ∀ j u, news[j]? = some u → w.cell? (a.add j) = some u) (h1 : ∀ u ∈ news, u.oneCell' = true)
    (h63 : n + m ≤ maxLen) (hbytes : (n + m) * bytes ≤ 140737488355328) (hbase : base ≤ w.heap.size) :
    ∃ v' w', (Builtin.append_ #[t, t] ty #[v, .slice (some a) m c]).run P w = .ok v' w' ∧ w'.ownsRow base e size v' (n + m) (xs ++ news) ∧ w.grownBy w' v.ownBlock := by
  rcases hown with hown | ⟨g, rfl, hown⟩
  · obtain ⟨v', w', hrun, r1, r2, _⟩ := run_append_own (P := P) w base t ty e i z size bytes ht hi hz hsize hby hzs hsz v n xs hown a m c news hl hnews h1 h63 hbytes hbase
    exact ⟨v', w', hrun, r1, r2⟩
  · subst hsize
    subst hby
    have hsmall : n + m ≤ 9223372036854775807 := by simp only [maxLen] at h63; omega
    have hlen : (xs ++ news).length = (n + m) * i.size := by rw [List.length_append, hown.1, hl, Nat.add_mul]
    have holds : ∀ j u, xs[j]? = some u → w.cell? ((⟨g, 0, none⟩ : Addr).add j) = some u := hown.cells (g := g) rfl
    have hr := run_append_grow (P := P) w t ty e i z ht hi hz ⟨g, 0, none⟩ n n xs hown.1 holds a m c news hl hnews (by omega) (by omega) (growslice_fits (by omega) hbytes)
    have hge := grownCap_ge w (n + m) n e
    have hcm : grownCap w (n + m) n e ≤ maxLen := grownCap_le_maxLen w (n + m) n e h63
    refine ⟨_, _, hr, ⟨hlen, .inr ⟨w.heap.size, _, _, rfl, hbase, heap_alloc_new w.drew _, hge, hcm, ?_, ?_⟩⟩, ⟨rfl, rfl, rfl, by simp, fun k hk _ => heap_alloc_old w.drew _ k hk⟩⟩
    · simp only [Array.size_append, List.size_toArray, size_zeroCells, hzs, hown.1, hl, ← Nat.add_mul]
      congr 1
      omega
    · simp only [Array.toList_append, List.append_assoc]
      rw [← List.append_assoc, ← hlen]
      exact List.take_left

theorem wpList_push {ops : Array Oper} {rest : List Oper} {o : Oper} {a : Act} {Q : Exit → Act → World → Prop} (hg : o.guard = none)
    (s x : Operand) (t : TypeId) (hop : o.op = Op.call { callee := Callee.builtin Builtin.append, args := #[s, x], argTypes := #[t, t] })
    (base lo : Nat) (e : TypeId) (i : TypeInfo) (z : Value) (size bytes : Nat) (h1 : P.underlying t = some (.slice e)) (h2 : P.info? e = some i) (h3 : i.zero = some z) (h4 : i.size = size) (h5 : i.bytes = bytes) (h6 : z.cells.size = size) (h7 : 0 < size)
    (v : Value) (k : Nat) (xs : List Value) (hs : a.eval s = v) (hown : w.ownsRow base e size v k xs ∨ ∃ g, v = .slice (some ⟨g, 0, none⟩) k k ∧ w.ownsRow lo e size v k xs) (ad : Addr) (m c : Nat) (news : List Value) (hx : a.eval x = .slice (some ad) m c) (hm : 0 < m) (hn : news.length = m * size)
    (hc : ∀ j u, news[j]? = some u → w.cell? (ad.add j) = some u) (h1c : ∀ u ∈ news, u.oneCell' = true) (b1 : k + m ≤ maxLen) (b2 : (k + m) * bytes ≤ 140737488355328) (b3 : base ≤ w.heap.size)
    (hK : ∀ v' w', w'.ownsRow base e size v' (k + m) (xs ++ news) → w.grownBy w' v.ownBlock → wpList P ops Q rest (a.put o.dst v') w') : wpList P ops Q (o :: rest) a w :=
  wpList_plain hg fun K hK' => by
    obtain ⟨v', w', hrun, r1, r2⟩ := run_push (P := P) w base lo t o.type e i z size bytes h1 h2 h3 h4 h5 h6 h7 v k xs hown ad m c news hm hn hc h1c b1 b2 b3
    unfold Oper.wp execOp
    simp only [hop, resolve, invoke, builtin, Sem.run_bind, Sem.run_pure, Result.andThen_ok, List.map_toArray, List.map_cons, List.map_nil, hs, hx, hrun]
    exact hK' _ _ (hK v' w' r1 r2)
end

/-- the lines that are full, and the cells of the row that holds them -/
def Full (w : World) (base b' : Nat) (o : List (List Int)) (vs : List Value) : Prop :=
  vs.length = o.length ∧ ∀ (i : Nat) (xs : List Int), o[i]? = some xs → ∃ a n c, vs[i]? = some (.slice a n c) ∧ w.ownsRow base 21 1 (.slice a n c) n (xs.map (Value.int .i32)) ∧ ∀ g, (Value.slice a n c).ownBlock = some g → g < b'
theorem Full.keep {w w' : World} {base b' : Nat} {o : List (List Int)} {vs : List Value} {T : Nat → Prop} (h : Full w base b' o vs) (ht : Turn T w w') (hT : ∀ (i g : Nat) (u : Value), vs[i]? = some u → u.ownBlock = some g → g < b' → ¬ T g) : Full w' base b' o vs := by
  refine ⟨h.1, fun i xs hx => ?_⟩
  obtain ⟨a, n, c, e1, e2, e3⟩ := h.2 i xs hx
  exact ⟨a, n, c, e1, ht.kept e2 (fun g hg => hT i g _ e1 hg (e3 g hg)), e3⟩
theorem Full.push {w : World} {base b' B : Nat} {o : List (List Int)} {vs : List Value} {l : List Int} {al : Option Addr} {lm cq : Nat} (h : Full w base b' o vs) (hl : w.ownsRow b' 21 1 (.slice al lm cq) lm (l.map (Value.int .i32))) (hb : base ≤ b') (hB : b' ≤ B) (hw : w.heap.size ≤ B) :
    Full w base B (o ++ [l]) (vs ++ [.slice al lm cq]) := by
  refine ⟨by simp [h.1], fun i xs hx => ?_⟩
  rcases Nat.lt_or_ge i o.length with hi | hi
  · rw [List.getElem?_append_left hi] at hx
    obtain ⟨a, n, c, e1, e2, e3⟩ := h.2 i xs hx
    exact ⟨a, n, c, by rw [List.getElem?_append_left (by rw [h.1]; exact hi)]; exact e1, e2, fun g hg => Nat.lt_of_lt_of_le (e3 g hg) hB⟩
  · have hi' : i = o.length := by
      have := (List.getElem?_eq_some_iff.1 hx).1
      simp at this; omega
    subst hi'
    rw [List.getElem?_append_right (Nat.le_refl _)] at hx
    simp at hx
    subst hx
    exact ⟨al, lm, cq, by rw [List.getElem?_append_right (by rw [h.1]; exact Nat.le_refl _), h.1]; simp, hl.mono hb, fun g hg => Nat.lt_of_lt_of_le (hl.lt g hg).2 hw⟩

/-- the reference's state: 'out' is a row of its own (or the literal), whose last cell is the line in hand -/
def RI (w w1 : World) (v : Value) (o : List (List Int)) (l : List Int) (wr : World) : Prop :=
  ∃ (vs : List Value) (al : Option Addr) (cq b' g cap bo : Nat), v = .slice (some ⟨g, 0, none⟩) (o.length + 1) cap ∧ w1.heap.size ≤ b' ∧ b' ≤ wr.heap.size ∧
    ((bo = w1.heap.size) ∨ (bo = w.heap.size ∧ g = w.heap.size ∧ cap = o.length + 1)) ∧ wr.ownsRow bo 22 1 v (o.length + 1) (vs ++ [.slice al l.length cq]) ∧
    Full wr w1.heap.size b' o vs ∧ wr.ownsRow b' 21 1 (.slice al l.length cq) l.length (l.map (Value.int .i32)) ∧ Turn (fun j => j = w.heap.size ∨ w1.heap.size ≤ j) w1 wr
theorem RI.below {w w1 : World} {v : Value} {o : List (List Int)} {l : List Int} {wr w3 : World} (h : RI w w1 v o l wr) (hb : Below wr.heap.size wr w3) : RI w w1 v o l w3 := by
  obtain ⟨vs, al, cq, b', g, cap, bo, h1, h2, h3, h4, h5, h6, h7, h8⟩ := h
  have T : Turn (fun _ => False) wr w3 := Turn.of_new hb
  exact ⟨vs, al, cq, b', g, cap, bo, h1, h2, Nat.le_trans h3 hb.size, h4, T.kept h5 (fun _ _ => id), h6.keep T (fun _ _ _ _ _ _ => id), T.kept h7 (fun _ _ => id), h8.trans (T.mono (fun _ _ h => h.elim))⟩

set_option maxRecDepth 100000 in
set_option maxHeartbeats 16000000 in
theorem rlines_any (a : Option Addr) (n c : Nat) (xs : List Int) (w : World) (h : Runes w a n c xs) (hn : n ≤ 1000) (x W m0 : Int) (hx1 : -9223372036854775808 ≤ x) (hx2 : x ≤ 9223372036854775807) (hm0 : (if (1024 : Int) < x then (1024 : Int) else x) = m0) (hW : (if (1 : Int) < m0 then m0 else (1 : Int)) = W) :
    Calls Try.prog 52 #[.slice a n c, .int .i64 x] w fun e w' => ∃ v, e = .returned v ∧ Lists w' w.heap.size v (fl W xs) ∧ Below w.heap.size w w' := by
  have hW1 : 1 ≤ W ∧ W ≤ 1024 := by split at hm0 <;> split at hW <;> omega
  obtain ⟨i1, hi1, hy0, hy1, hy2⟩ := info_parts info_i32
  obtain ⟨i2, hi2, hx0, hx1', hx2'⟩ := info_parts info_sl
  have hmx : Try.prog.follows .mixedOrders = true := by kernel_rfl
  have HR := Lib.hid h.r32
  have HL := Lib.hid h.ints.1
  have HH := Lib.hid h
  clear h
  go_enter Try.func52, Try.ntmps52
  go_wp2_with fail
  have hlit := World.ownsRow_lit (base := w.heap.size) (size := 1) (e := 22) w #[.slice none 0 0] 1 (Nat.le_refl _) (by unfold maxLen; omega) rfl
  have hb0 : Below w.heap.size w (w.alloc (.cells #[.slice none 0 0] 22)) := (Below.refl _ _).alloc (Nat.le_refl _) _
  have hs0 : (w.alloc (.cells #[.slice none 0 0] 22)).heap.size = w.heap.size + 1 := by simp
  generalize (w.alloc (.cells #[.slice none 0 0] 22)) = w0 at *
  refine (clusters_ref a n c xs w0 (HH.out.below hb0) (by omega)).mono ?_
  rintro e w1 ⟨v1, rfl, hls, hb1⟩
  obtain ⟨a1, c1, rfl⟩ := lists_slice hls
  have hlit1 := (Turn.of_new hb1 : Turn (fun _ => False) w0 w1).kept hlit (fun _ _ => id)
  have hs1 := hb1.size
  have HB1 := Lib.hid (hb0.trans (hb1.mono hb0.size))
  have RI0 : Hid (RI w w1 (.slice (some ⟨w.heap.size, 0, none⟩) 1 1) [] [] w1) := ⟨[], none, 0, w1.heap.size, w.heap.size, 1, w.heap.size, rfl, Nat.le_refl _, Nat.le_refl _, .inr ⟨rfl, rfl, rfl⟩, hlit1, ⟨rfl, fun i xs hx => by simp at hx⟩, World.ownsRow_nil _ _ _ _, Turn.refl _ _⟩
  have HLS := Lib.hid hls
  have hcn : (cls xs).length = cnt (Jn xs) xs.length := cls_len xs
  clear hls hb1 hb0 hlit hlit1
  rw [hcn]
  have hcx := cnt_le (J := Jn xs) xs.length
  have hln := HL.out
  generalize hcnn : cnt (Jn xs) xs.length = cn at *
  have HCN := Lib.hid hcnn
  have hcn1 : cn ≤ 1000 := by omega
  clear hcnn hcx hln
  go_wp2
  go_loopw [5, 6, 8] (fun v u i wr => ∃ k : Nat, k ≤ cn ∧ i = .int .i64 k ∧ u = .int .i64 (W - (fS W (cl xs) k).2.2) ∧ Hid (RI w w1 v (fS W (cl xs) k).1 (fS W (cl xs) k).2.1 wr)) (fun _ _ i _ => cn - (intOf i).toNat)
  case atStart => exact ⟨0, Nat.zero_le _, rfl, by show Value.int .i64 0 = .int .i64 (W - W); rw [Int.sub_self], RI0⟩
  case round =>
    obtain ⟨k, hk, rfl, rfl, H⟩ := hrel
    by_cases hlt : k < cn
    · have hlt' : (k : Int) < cn := by omega
      have hlt2 : k < cnt (Jn xs) xs.length := by rw [HCN.out]; exact hlt
      obtain ⟨g1, rfl, hg1, hat⟩ := lists_own HLS.out (by rw [hcn]; omega)
      obtain ⟨a2, m, ci, hcc, q2⟩ := hat k _ (cls_get xs hlt2)
      have hg10 : w.heap.size < g1 := by
        obtain ⟨_, _, h9, _⟩ := HLS.out
        have := (h9.lt g1 rfl).1
        omega
      have hyl := cl_len xs hlt2
      have hmo := st_mono (J := Jn xs) (n := xs.length) (j := k) (k := k + 1) (by omega) hlt2
      have hle := st_le (J := Jn xs) (n := xs.length) (k := k + 1) hlt2
      have hfl := fS_len (W := W) (cl xs) k
      have hfn := fS_line (W := W) xs k (Nat.le_of_lt hlt2)
      have hrm := fS_room hW1.1 (cl xs) k
      have hnn := wide_nn hW1.1 (cl xs k)
      have hwv := wideV_bd (cl xs k)
      have hln := HL.out
      have hmeq : (cl xs k).length = m := by have := q2.1; simpa using this
      have HYR := Lib.hid (cl_r32 HR.out k)
      have hRY := runes_own q2 HYR.out
      obtain ⟨hyl2, h0 | ⟨gi, oi, rfl, hgi, hyc⟩⟩ := hRY.ints
      · omega
      have hgi0 : w.heap.size < gi := by have := (q2.lt gi rfl).1; omega
      have HYW := Lib.hid hyc
      have hmc := hRY.le
      have hm1 : m ≤ 1000 := by omega
      have hm0' : 0 < m := by omega
      have hs0n : st (Jn xs) xs.length k ≤ 1000 := by omega
      have HST : Hid (∀ s', stepF W (fS W (cl xs) k) (cl xs k) = s' → fS W (cl xs) (k + 1) = s') := Lib.hid fun s' e => e
      have HYL := Lib.hid hmeq
      have HDEF : Hid (wideV (cl xs k) = if Basew.silentB ((cl xs k).getD 0 0) then 0 else Cw.width ((cl xs k).take 16)) := Lib.hid rfl
      have hw1 := width_one ((cl xs k).take 16)
      generalize hSS : fS W (cl xs) k = s at *
      have HSS := Lib.hid hSS
      clear hSS hyl2 hyc q2 hat hRY hyl hmo hle
      generalize hys : cl xs k = ys at *
      have HYS := Lib.hid hys
      have HN1 : Hid (∀ nn, Basew.silentB (ys.getD 0 0) = false → (if W < wideV ys then W else wideV ys) = nn → s.2.2 < nn → fS W (cl xs) (k + 1) = (s.1 ++ [s.2.1], ys, W - nn)) := Lib.hid fun nn h1 h2 h3 => HST.out _ (step_new h1 h2 h3)
      have HN2 : Hid (∀ nn, Basew.silentB (ys.getD 0 0) = false → (if W < wideV ys then W else wideV ys) = nn → nn ≤ s.2.2 → fS W (cl xs) (k + 1) = (s.1, s.2.1 ++ ys, s.2.2 - nn)) := Lib.hid fun nn h1 h2 h3 => HST.out _ (step_more h1 h2 h3)
      have HN3 : Hid (Basew.silentB (ys.getD 0 0) = true → (fS W (cl xs) (k + 1)).1 = s.1 ∧ (fS W (cl xs) (k + 1)).2.1 = s.2.1 ∧ (fS W (cl xs) (k + 1)).2.2 = s.2.2) := Lib.hid fun h1 => by rw [HST.out _ (step_yes h1)]; exact ⟨rfl, rfl, rfl⟩
      obtain ⟨vs0, al0, cq0, b0, g, cap, bo0, hv, hrest⟩ := H.out
      subst hv
      have HRI : Hid (RI w w1 (.slice (some ⟨g, 0, none⟩) (s.1.length + 1) cap) s.1 s.2.1 wr) := ⟨vs0, al0, cq0, b0, g, cap, bo0, rfl, hrest⟩
      clear hrest H HST HSS
      generalize s.1 = o at *
      generalize s.2.1 = l at *
      generalize s.2.2 = r at *
      clear hys
      have hcr : wr.cell? ⟨g1, k, none⟩ = some (.slice (some ⟨gi, oi, none⟩) m ci) := by
        obtain ⟨_, _, _, _, _, _, _, _, _, _, _, _, _, _, hT⟩ := HRI.out
        exact hT.cell hcc (by show ¬ (g1 = _ ∨ _ ≤ g1); omega)
      have HYWr : Hid (∀ (i : Nat) (x : Int), ys[i]? = some x → wr.cell? ⟨gi, oi + i, none⟩ = some (.int .i32 x)) := by
        obtain ⟨_, _, _, _, _, _, _, _, _, _, _, _, _, _, hT⟩ := HRI.out
        exact Lib.hid fun i x hx => hT.cell (HYW.out i x hx) (by show ¬ (gi = _ ∨ _ ≤ gi); omega)
      have hgir : gi < wr.heap.size := by
        obtain ⟨_, _, _, _, _, _, _, _, _, _, _, _, _, _, hT⟩ := HRI.out
        exact Nat.lt_of_lt_of_le hgi hT.size
      have HWR := Lib.hid (wide_ref gi oi m ci ys wr HYL.out hgir HYWr.out HYR.out hm0' (by omega) hmc)
      generalize hol : o.length = ol at *
      have HOL := Lib.hid hol
      clear hol
      have HNM0 : Hid (∃ nn, (if W < wideV ys then W else wideV ys) = nn) := Lib.hid ⟨_, rfl⟩
      generalize hnm : (if W < wideV ys then W else wideV ys) = nn at *
      generalize hwvv : wideV ys = wv at *
      clear hwvv
      go_wp2_with fail
      refine HWR.out.mono ?_
      rintro e w3 ⟨rfl, hb3⟩
      have HR3 := Lib.hid (HRI.out.below hb3)
      clear hb3 HWR HRI hcr HYWr hgir
      cases hsil : Basew.silentB (ys.getD 0 0)
      · have hnp : 1 ≤ nn := by
          have e := HDEF.out
          rw [hsil] at e
          simp only [Bool.false_eq_true, if_false] at e
          subst e
          split at hnm <;> omega
        have d9 : (nn == 0) = false := by simp; omega
        have x10 : IntKind.i64.wrap (W - r + nn) = W - r + nn := IntWalk.i64_in _ (by omega)
        have HNM := Lib.hid hnm
        have HSIL := Lib.hid hsil
        obtain ⟨vs, al, cq, b', g', cap', bo, hv, hwb, hbr, hbo, hrow, hfull, hline, hT⟩ := HR3.out
        rw [HOL.out] at hv hrow hbo
        injection hv with hv hv2 hv3
        injection hv with hv
        injection hv with hv
        subst hv hv3
        have hgT : g = w.heap.size ∨ w1.heap.size ≤ g := by
          rcases hbo with hbo | ⟨_, hbo, _⟩
          · have := (hrow.lt g rfl).1; exact .inr (by omega)
          · exact .inl hbo
        obtain ⟨lm, hlm⟩ : ∃ lm, l.length = lm := ⟨_, rfl⟩
        rw [hlm] at hrow hline hfn
        have HLM := Lib.hid hlm
        have hvl := hfull.1
        rw [HOL.out] at hvl
        have HVL := Lib.hid hvl
        have HOWN := Lib.hid hrow
        have HFULL := Lib.hid hfull
        have HLINE := Lib.hid hline
        have HT := Lib.hid hT
        have hszz : w.heap.size ≤ w1.heap.size := by have := HB1.out.size; omega
        clear hsil hrow hfull hline hT hlm hvl HR3
        rcases Int.lt_or_le r nn with hr | hr
        · have d10 : decide (W < W - r + nn) = true := decide_eq_true (by omega)
          have HSTEP : Hid (fS W (cl xs) (k + 1) = (o ++ [l], ys, W - nn)) := Lib.hid (HN1.out nn HSIL.out rfl hr)
          generalize hol2 : ol + 1 = ol2 at *
          have xk0 : IntKind.i64.wrap ((ol2 : Int) + 1 - 1) = (ol2 : Int) := by rw [show (ol2 : Int) + 1 - 1 = (ol2 : Int) from by omega]; exact IntWalk.i64_in _ (by omega)
          have HO2 : Hid ((w3.alloc (.cells #[.slice none 0 0] 22)).ownsRow w1.heap.size 22 1 (.slice (some ⟨g, 0, none⟩) ol2 cap) ol2 (vs ++ [.slice al lm cq]) ∨ ∃ g', Value.slice (some ⟨g, 0, none⟩) ol2 cap = .slice (some ⟨g', 0, none⟩) ol2 ol2 ∧ (w3.alloc (.cells #[.slice none 0 0] 22)).ownsRow w.heap.size 22 1 (.slice (some ⟨g, 0, none⟩) ol2 cap) ol2 (vs ++ [.slice al lm cq])) := by
            rcases hbo with hbo | ⟨hbo, hg9, hc9⟩
            · exact Lib.hid (.inl (by rw [← hbo]; exact HOWN.out.alloc _))
            · exact Lib.hid (.inr ⟨g, by rw [hc9], by rw [← hbo]; exact HOWN.out.alloc _⟩)
          have hs3 : w1.heap.size ≤ (w3.alloc (.cells #[.slice none 0 0] 22)).heap.size := by simp; omega
          go_wp2_with (at_builtin; refine wpList_push _ rfl _ _ 40 rfl w1.heap.size w.heap.size 22 i2 _ 1 24 Try.underlying40 hi2 hx0 hx1' hx2' rfl (by decide) _ ol2 _ rfl HO2.out ⟨w3.heap.size, 0, none⟩ 1 1 [.slice none 0 0] rfl (by decide) rfl (cell_new1 _ _ _) (by simp [Value.oneCell']) (by unfold maxLen; omega) (by omega) hs3 ?_; intro v4 w4 hown4 hgrow4; obtain ⟨g4, cap4, hv4⟩ := ownsRow_succ hown4; subst hv4)
          have TA3 : Turn (fun _ => False) w3 (w3.alloc (.cells #[.slice none 0 0] 22)) := Turn.alloc _ _ _
          have TG3 : Turn (fun j => j = g) (w3.alloc (.cells #[.slice none 0 0] 22)) w4 := Turn.of_grown hgrow4 (fun j e => by injection e with e; exact e.symm)
          have T34 : Turn (fun j => j = g) w3 w4 := (TA3.mono (fun _ _ h => h.elim)).trans TG3
          have hs34 := T34.size
          have hlines4 := T34.kept HLINE.out (fun j hj e => rows_ne HOWN.out HLINE.out (by decide) rfl (by rw [hj, e]))
          have hfull4 := HFULL.out.keep T34 (fun i j u hu hj hlt => by
            intro e
            obtain ⟨xs', hx'⟩ : ∃ xs', o[i]? = some xs' := ⟨_, List.getElem?_eq_getElem (by have := (List.getElem?_eq_some_iff.1 hu).1; rw [HFULL.out.1] at this; exact this)⟩
            obtain ⟨a', n', c', q1, q2, _⟩ := HFULL.out.2 i xs' hx'
            rw [hu] at q1
            injection q1 with q1
            rw [q1] at hj
            exact rows_ne HOWN.out q2 (by decide) rfl (by rw [hj, e]))
          have HFULL2 := Lib.hid (hfull4.push (B := w4.heap.size) hlines4 hwb (by omega) (Nat.le_refl _))
          have HOWN2 := Lib.hid hown4
          have HLINE2 : Hid (w4.ownsRow w4.heap.size 21 1 (.slice none 0 0) 0 (([] : List Int).map (Value.int .i32))) := World.ownsRow_nil _ _ _ _
          have HT2 := Lib.hid (HT.out.trans (T34.mono (T' := fun j => j = w.heap.size ∨ w1.heap.size ≤ j) (fun j _ hj => by subst hj; exact hgT)))
          have HVL2 : Hid ((vs ++ [Value.slice al lm cq]).length = ol2) := Lib.hid (by rw [List.length_append, HVL.out]; exact hol2)
          have HOL2 : Hid ((o ++ [l]).length = ol2) := Lib.hid (by rw [List.length_append, HOL.out]; exact hol2)
          have HLM2 : Hid (([] : List Int).length = 0) := Lib.hid rfl
          have hgT2 : g4 = w.heap.size ∨ w1.heap.size ≤ g4 := .inr (hown4.lt g4 rfl).1
          have hwb2 : w1.heap.size ≤ w4.heap.size := by omega
          have hbr2 : w4.heap.size ≤ w4.heap.size := Nat.le_refl _
          have hbo2 : w1.heap.size = w1.heap.size ∨ w1.heap.size = w.heap.size ∧ g4 = w.heap.size ∧ cap4 = ol2 + 1 := .inl rfl
          clear TA3 TG3 T34 hlines4 hfull4 hown4 hgrow4 HO2 HFULL HOWN HLINE HT HVL HOL HLM hgT hwb hbo hbr
          have xk : IntKind.i64.wrap ((ol2 : Int) + 1 - 1) = (ol2 : Int) := by rw [show (ol2 : Int) + 1 - 1 = (ol2 : Int) from by omega]; exact IntWalk.i64_in _ (by omega)
          have hvl := HVL2.out
          have e0 : w4.cell? ⟨g4, ol2, none⟩ = some (.slice none 0 0) := by
            rw [HOWN2.out.cellAt _ (by omega), List.getElem?_append_right (by omega), hvl]; simp
          have e1 : w4.cell? ⟨g1, k, none⟩ = some (.slice (some ⟨gi, oi, none⟩) m ci) := HT2.out.cell (hcc) (by show ¬ (g1 = _ ∨ _ ≤ g1); omega)
          have hS : w4.drew.cell? ⟨g4, ol2, none⟩ = some (.slice none 0 0) ∧ w4.drew.cell? ⟨g1, k, none⟩ = some (.slice (some ⟨gi, oi, none⟩) m ci) := ⟨e0, e1⟩
          have HYC : Hid (∀ j v, (ys.map (Value.int .i32))[j]? = some v → w4.drew.cell? ((⟨gi, oi, none⟩ : Addr).add j) = some v) := by
            refine Lib.hid fun j v hj => ?_
            rw [List.getElem?_map, Option.map_eq_some_iff] at hj
            obtain ⟨x, hx, rfl⟩ := hj
            rw [add_none]; exact HT2.out.cell (HYW.out j x hx) (by show ¬ (gi = _ ∨ _ ≤ gi); omega)
          have hol1 : (ol2 : Int) < (ol2 : Int) + 1 := by omega
          have hgsz : g4 < w4.heap.size := (HOWN2.out.lt g4 rfl).2
          refine region_begin (fun w' => w'.cell? ⟨g4, ol2, none⟩ = some (.slice none 0 0) ∧ w'.cell? ⟨g1, k, none⟩ = some (.slice (some ⟨gi, oi, none⟩) m ci)) (fun j => j == 12) hmx ?_
          refine take_first (i := 0) rfl (by kernel_rfl) (by kernel_rfl) (by kernel_rfl) (by kernel_rfl) (fun _ _ _ h => h) hS (.inl ⟨by rfl, fun w' hw' => by obtain ⟨e0, e1⟩ := hw'; go_simp; try with_reducible rfl⟩) ?_
          refine take_first (i := 1) rfl (by kernel_rfl) (by kernel_rfl) (by kernel_rfl) (by kernel_rfl) (fun _ _ _ h => h) hS (.inl ⟨by rfl, fun w' hw' => by obtain ⟨e0, e1⟩ := hw'; go_simp; try with_reducible rfl⟩) ?_
          refine take_first (i := 2) rfl (by kernel_rfl) (by kernel_rfl) (by kernel_rfl) (by kernel_rfl) (fun _ _ _ h => h) hS (.inl ⟨by rfl, fun w' hw' => by obtain ⟨e0, e1⟩ := hw'; go_simp; try with_reducible rfl⟩) ?_
          refine take_first (i := 3) rfl (by kernel_rfl) (by kernel_rfl) (by kernel_rfl) (by kernel_rfl) (fun _ _ _ h => h) hS (.inl ⟨by rfl, fun w' hw' => by obtain ⟨e0, e1⟩ := hw'; go_simp; try with_reducible rfl⟩) ?_
          refine take_first (i := 4) rfl (by kernel_rfl) (by kernel_rfl) (by kernel_rfl) (by kernel_rfl) (fun _ _ _ h => h) hS (.inl ⟨by rfl, fun w' hw' => by obtain ⟨e0, e1⟩ := hw'; go_simp; try with_reducible rfl⟩) ?_
          refine take_first (i := 5) rfl (by kernel_rfl) (by kernel_rfl) (by kernel_rfl) (by kernel_rfl) (fun _ _ _ h => h) hS (.inl ⟨by rfl, fun w' hw' => by obtain ⟨e0, e1⟩ := hw'; go_simp; try with_reducible rfl⟩) ?_
          refine take_first (i := 6) rfl (by kernel_rfl) (by kernel_rfl) (by kernel_rfl) (by kernel_rfl) (fun _ _ _ h => h) hS (.inl ⟨by rfl, fun w' hw' => by obtain ⟨e0, e1⟩ := hw'; go_simp; try with_reducible rfl⟩) ?_
          refine take_first (i := 7) rfl (by kernel_rfl) (by kernel_rfl) (by kernel_rfl) (by kernel_rfl) (fun _ _ _ h => h) hS (.inl ⟨by rfl, fun w' hw' => by obtain ⟨e0, e1⟩ := hw'; go_simp; try with_reducible rfl⟩) ?_
          refine take_first (i := 8) rfl (by kernel_rfl) (by kernel_rfl) (by kernel_rfl) (by kernel_rfl) (fun _ _ _ h => h) hS (.inl ⟨by rfl, fun w' hw' => by obtain ⟨e0, e1⟩ := hw'; go_simp; try with_reducible rfl⟩) ?_
          refine take_g (i := 9) (by kernel_rfl) rfl rfl fun K hK => ?_
          go_wp2
          refine hK _ _ (.inr hS) ?_
          clear hK
          refine take_g (i := 10) (by kernel_rfl) rfl rfl fun K hK => ?_
          refine wp_append_own _ _ _ 22 rfl w4.heap.size 21 i1 _ 1 4 Try.underlying22 hi1 hy0 hy1 hy2 rfl (by decide) (.slice none 0 0) 0 _ rfl (HLINE2.out.drew) ⟨gi, oi, none⟩ m ci (ys.map (Value.int .i32)) rfl (by rw [List.length_map, HYL.out]; omega) HYC.out (one_cells _ _) (by unfold maxLen; omega) (by omega) (by show w4.heap.size ≤ w4.heap.size; omega) ?_
          intro v5 w5 hown5 hgrow5 _
          rw [Nat.zero_add] at hown5
          obtain ⟨a5, c5, hv5⟩ := own_slice hown5
          subst hv5
          have hneg : (Value.slice none 0 0).ownBlock ≠ some g4 := fun e => rows_ne HOWN2.out HLINE2.out (by decide) rfl e
          have hlb : ∀ j, (Value.slice none 0 0).ownBlock = some j → w4.heap.size ≤ j := fun j e => (HLINE2.out.lt j e).1
          have TD : Turn (fun _ => False) w4 w4.drew := Turn.drew _ _
          have TG0 : Turn (fun j => (Value.slice none 0 0).ownBlock = some j) w4.drew w5 := Turn.of_grown hgrow5 (fun _ e => e)
          have TG : Turn (fun j => (Value.slice none 0 0).ownBlock = some j) w4 w5 := (TD.mono (fun _ _ h => h.elim)).trans TG0
          have f0 : w5.cell? ⟨g4, ol2, none⟩ = some (.slice none 0 0) := TG.cell e0 (fun e => hneg e)
          have f1 : w5.cell? ⟨g1, k, none⟩ = some (.slice (some ⟨gi, oi, none⟩) m ci) := TG.cell e1 (fun e => by have := hlb _ e; simp only at this; omega)
          have hrow5 := TG.kept HOWN2.out (fun j hj e => by injection hj with hj; subst hj; exact hneg e)
          have fz := hrow5.frozenAt ol2
          have hst := hrow5.stored ol2 (.slice a5 m c5)
          have hset : (((vs ++ [Value.slice al lm cq]) ++ [Value.slice none 0 0]).set ol2 (.slice a5 m c5)) = (vs ++ [Value.slice al lm cq]) ++ [.slice a5 m c5] := by
            rw [List.set_append_right _ _ (by omega), hvl]; simp
          rw [hset] at hst
          have TS : Turn (fun j => j = g4) w5 (w5.setCell ⟨g4, ol2, none⟩ (.slice a5 m c5)) := Turn.setCell (T := fun j => j = g4) (p := ⟨g4, ol2, none⟩) _ _ rfl
          have TA : Turn (fun j => (Value.slice none 0 0).ownBlock = some j ∨ j = g4) w4 (w5.setCell ⟨g4, ol2, none⟩ (.slice a5 m c5)) := (TG.mono (fun _ _ e => .inl e)).trans (TS.mono (fun _ _ e => .inr e))
          have hrow6 := hst.1
          have hline6 := TS.kept hown5 (fun j hj e => rows_ne hrow5 hown5 (by decide) rfl (by rw [hj, e]))
          have hfull6 := HFULL2.out.keep TA (fun i j u hu hj hlt => by
            intro e
            rcases e with e | e
            · have := hlb _ e; omega
            · obtain ⟨xs', hx'⟩ : ∃ xs', (o ++ [l])[i]? = some xs' := ⟨_, List.getElem?_eq_getElem (by have := (List.getElem?_eq_some_iff.1 hu).1; rw [HFULL2.out.1] at this; exact this)⟩
              obtain ⟨a', n', c', q1, q2, _⟩ := HFULL2.out.2 i xs' hx'
              rw [hu] at q1
              injection q1 with q1
              rw [q1] at hj
              exact rows_ne HOWN2.out q2 (by decide) rfl (by rw [hj, e]))
          have ht6 := HT2.out.trans (TA.mono (T' := fun j => j = w.heap.size ∨ w1.heap.size ≤ j) (fun j _ hj => by
            rcases hj with hj | hj
            · have := hlb _ hj; exact .inr (by omega)
            · subst hj; exact hgT2))
          have hsz6 : w4.heap.size ≤ (w5.setCell ⟨g4, ol2, none⟩ (.slice a5 m c5)).heap.size := Nat.le_trans (by omega) TA.size
          have hll : ([] ++ ys).length = m := by rw [List.length_append, HLM2.out, HYL.out]; try omega
          have R : Hid (RI w w1 (.slice (some ⟨g4, 0, none⟩) (ol2 + 1) cap4) (fS W (cl xs) (k + 1)).1 (fS W (cl xs) (k + 1)).2.1 (w5.setCell ⟨g4, ol2, none⟩ (.slice a5 m c5))) := by
            have e : fS W (cl xs) (k + 1) = (o ++ [l], ys, W - nn) := HSTEP.out
            rw [e]
            show RI w w1 (.slice (some ⟨g4, 0, none⟩) (ol2 + 1) cap4) (o ++ [l]) ([] ++ ys) _
            rw [← List.map_append] at hline6
            refine ⟨(vs ++ [.slice al lm cq]), a5, c5, w4.heap.size, g4, cap4, w1.heap.size, by rw [HOL2.out], hwb2, hsz6, (.inl rfl), ?_, hfull6, ?_, ht6⟩
            · rw [HOL2.out, hll]; exact hrow6
            · rw [hll]; exact hline6
          have RU : W - (fS W (cl xs) (k + 1)).2.2 = nn := by
            have e : fS W (cl xs) (k + 1) = (o ++ [l], ys, W - nn) := HSTEP.out
            rw [e]; simp only; omega
          have HRU := Lib.hid RU
          refine hK _ _ (.inr ⟨f0, f1⟩) ?_
          clear hK hst hset TS TA hrow6 hline6 hfull6 ht6 hown5 hgrow5 TG TG0 TD hrow5 RU HFULL2 HLINE2 HOWN2 HT2 HSTEP
          refine take_g (i := 11) (by kernel_rfl) rfl rfl fun K hK => ?_
          go_wp2
          refine hK _ _ (.inr ⟨f0, f1⟩) ?_
          clear hK
          refine take_g (i := 12) (by kernel_rfl) rfl rfl fun K hK => ?_
          go_wp2
          refine hK _ _ (.inl rfl) ?_
          clear hK
          refine take_done (by kernel_rfl) ?_ _
          have xu : IntKind.i64.wrap nn = nn := IntWalk.i64_in _ (by omega)
          clear f0 f1 fz e0 e1 hS
          generalize (w5.setCell ⟨g4, ol2, none⟩ (.slice a5 m c5)) = w6 at *
          go_wp2
          go_roundw
          case rel => exact ⟨k + 1, by omega, by go_num, by rw [HRU.out], R⟩
          case measure => simp [intOf]; omega
        · have d10 : decide (W < W - r + nn) = false := decide_eq_false (by omega)
          have HSTEP : Hid (fS W (cl xs) (k + 1) = (o, l ++ ys, r - nn)) := Lib.hid (HN2.out nn HSIL.out rfl hr)
          have xk : IntKind.i64.wrap ((ol : Int) + 1 - 1) = (ol : Int) := by rw [show (ol : Int) + 1 - 1 = (ol : Int) from by omega]; exact IntWalk.i64_in _ (by omega)
          have hvl := HVL.out
          have e0 : w3.cell? ⟨g, ol, none⟩ = some (.slice al lm cq) := by
            rw [HOWN.out.cellAt _ (by omega), List.getElem?_append_right (by omega), hvl]; simp
          have e1 : w3.cell? ⟨g1, k, none⟩ = some (.slice (some ⟨gi, oi, none⟩) m ci) := HT.out.cell (hcc) (by show ¬ (g1 = _ ∨ _ ≤ g1); omega)
          have hS : w3.drew.cell? ⟨g, ol, none⟩ = some (.slice al lm cq) ∧ w3.drew.cell? ⟨g1, k, none⟩ = some (.slice (some ⟨gi, oi, none⟩) m ci) := ⟨e0, e1⟩
          have HYC : Hid (∀ j v, (ys.map (Value.int .i32))[j]? = some v → w3.drew.cell? ((⟨gi, oi, none⟩ : Addr).add j) = some v) := by
            refine Lib.hid fun j v hj => ?_
            rw [List.getElem?_map, Option.map_eq_some_iff] at hj
            obtain ⟨x, hx, rfl⟩ := hj
            rw [add_none]; exact HT.out.cell (HYW.out j x hx) (by show ¬ (gi = _ ∨ _ ≤ gi); omega)
          have hol1 : (ol : Int) < (ol : Int) + 1 := by omega
          have hgsz : g < w3.heap.size := (HOWN.out.lt g rfl).2
          go_wp2
          refine region_begin (fun w' => w'.cell? ⟨g, ol, none⟩ = some (.slice al lm cq) ∧ w'.cell? ⟨g1, k, none⟩ = some (.slice (some ⟨gi, oi, none⟩) m ci)) (fun j => j == 12) hmx ?_
          refine take_first (i := 0) rfl (by kernel_rfl) (by kernel_rfl) (by kernel_rfl) (by kernel_rfl) (fun _ _ _ h => h) hS (.inl ⟨by rfl, fun w' hw' => by obtain ⟨e0, e1⟩ := hw'; go_simp; try with_reducible rfl⟩) ?_
          refine take_first (i := 1) rfl (by kernel_rfl) (by kernel_rfl) (by kernel_rfl) (by kernel_rfl) (fun _ _ _ h => h) hS (.inl ⟨by rfl, fun w' hw' => by obtain ⟨e0, e1⟩ := hw'; go_simp; try with_reducible rfl⟩) ?_
          refine take_first (i := 2) rfl (by kernel_rfl) (by kernel_rfl) (by kernel_rfl) (by kernel_rfl) (fun _ _ _ h => h) hS (.inl ⟨by rfl, fun w' hw' => by obtain ⟨e0, e1⟩ := hw'; go_simp; try with_reducible rfl⟩) ?_
          refine take_first (i := 3) rfl (by kernel_rfl) (by kernel_rfl) (by kernel_rfl) (by kernel_rfl) (fun _ _ _ h => h) hS (.inl ⟨by rfl, fun w' hw' => by obtain ⟨e0, e1⟩ := hw'; go_simp; try with_reducible rfl⟩) ?_
          refine take_first (i := 4) rfl (by kernel_rfl) (by kernel_rfl) (by kernel_rfl) (by kernel_rfl) (fun _ _ _ h => h) hS (.inl ⟨by rfl, fun w' hw' => by obtain ⟨e0, e1⟩ := hw'; go_simp; try with_reducible rfl⟩) ?_
          refine take_first (i := 5) rfl (by kernel_rfl) (by kernel_rfl) (by kernel_rfl) (by kernel_rfl) (fun _ _ _ h => h) hS (.inl ⟨by rfl, fun w' hw' => by obtain ⟨e0, e1⟩ := hw'; go_simp; try with_reducible rfl⟩) ?_
          refine take_first (i := 6) rfl (by kernel_rfl) (by kernel_rfl) (by kernel_rfl) (by kernel_rfl) (fun _ _ _ h => h) hS (.inl ⟨by rfl, fun w' hw' => by obtain ⟨e0, e1⟩ := hw'; go_simp; try with_reducible rfl⟩) ?_
          refine take_first (i := 7) rfl (by kernel_rfl) (by kernel_rfl) (by kernel_rfl) (by kernel_rfl) (fun _ _ _ h => h) hS (.inl ⟨by rfl, fun w' hw' => by obtain ⟨e0, e1⟩ := hw'; go_simp; try with_reducible rfl⟩) ?_
          refine take_first (i := 8) rfl (by kernel_rfl) (by kernel_rfl) (by kernel_rfl) (by kernel_rfl) (fun _ _ _ h => h) hS (.inl ⟨by rfl, fun w' hw' => by obtain ⟨e0, e1⟩ := hw'; go_simp; try with_reducible rfl⟩) ?_
          refine take_g (i := 9) (by kernel_rfl) rfl rfl fun K hK => ?_
          go_wp2
          refine hK _ _ (.inr hS) ?_
          clear hK
          refine take_g (i := 10) (by kernel_rfl) rfl rfl fun K hK => ?_
          refine wp_append_own _ _ _ 22 rfl b' 21 i1 _ 1 4 Try.underlying22 hi1 hy0 hy1 hy2 rfl (by decide) (.slice al lm cq) lm _ rfl (HLINE.out.drew) ⟨gi, oi, none⟩ m ci (ys.map (Value.int .i32)) rfl (by rw [List.length_map, HYL.out]; omega) HYC.out (one_cells _ _) (by unfold maxLen; omega) (by omega) (by show b' ≤ w3.heap.size; omega) ?_
          intro v5 w5 hown5 hgrow5 _
          obtain ⟨a5, c5, hv5⟩ := own_slice hown5
          subst hv5
          have hneg : (Value.slice al lm cq).ownBlock ≠ some g := fun e => rows_ne HOWN.out HLINE.out (by decide) rfl e
          have hlb : ∀ j, (Value.slice al lm cq).ownBlock = some j → b' ≤ j := fun j e => (HLINE.out.lt j e).1
          have TD : Turn (fun _ => False) w3 w3.drew := Turn.drew _ _
          have TG0 : Turn (fun j => (Value.slice al lm cq).ownBlock = some j) w3.drew w5 := Turn.of_grown hgrow5 (fun _ e => e)
          have TG : Turn (fun j => (Value.slice al lm cq).ownBlock = some j) w3 w5 := (TD.mono (fun _ _ h => h.elim)).trans TG0
          have f0 : w5.cell? ⟨g, ol, none⟩ = some (.slice al lm cq) := TG.cell e0 (fun e => hneg e)
          have f1 : w5.cell? ⟨g1, k, none⟩ = some (.slice (some ⟨gi, oi, none⟩) m ci) := TG.cell e1 (fun e => by have := hlb _ e; simp only at this; omega)
          have hrow5 := TG.kept HOWN.out (fun j hj e => by injection hj with hj; subst hj; exact hneg e)
          have fz := hrow5.frozenAt ol
          have hst := hrow5.stored ol (.slice a5 (lm + m) c5)
          have hset : ((vs ++ [Value.slice al lm cq]).set ol (.slice a5 (lm + m) c5)) = vs ++ [.slice a5 (lm + m) c5] := by
            rw [List.set_append_right _ _ (by omega), hvl]; simp
          rw [hset] at hst
          have TS : Turn (fun j => j = g) w5 (w5.setCell ⟨g, ol, none⟩ (.slice a5 (lm + m) c5)) := Turn.setCell (T := fun j => j = g) (p := ⟨g, ol, none⟩) _ _ rfl
          have TA : Turn (fun j => (Value.slice al lm cq).ownBlock = some j ∨ j = g) w3 (w5.setCell ⟨g, ol, none⟩ (.slice a5 (lm + m) c5)) := (TG.mono (fun _ _ e => .inl e)).trans (TS.mono (fun _ _ e => .inr e))
          have hrow6 := hst.1
          have hline6 := TS.kept hown5 (fun j hj e => rows_ne hrow5 hown5 (by decide) rfl (by rw [hj, e]))
          have hfull6 := HFULL.out.keep TA (fun i j u hu hj hlt => by
            intro e
            rcases e with e | e
            · have := hlb _ e; omega
            · obtain ⟨xs', hx'⟩ : ∃ xs', o[i]? = some xs' := ⟨_, List.getElem?_eq_getElem (by have := (List.getElem?_eq_some_iff.1 hu).1; rw [HFULL.out.1] at this; exact this)⟩
              obtain ⟨a', n', c', q1, q2, _⟩ := HFULL.out.2 i xs' hx'
              rw [hu] at q1
              injection q1 with q1
              rw [q1] at hj
              exact rows_ne HOWN.out q2 (by decide) rfl (by rw [hj, e]))
          have ht6 := HT.out.trans (TA.mono (T' := fun j => j = w.heap.size ∨ w1.heap.size ≤ j) (fun j _ hj => by
            rcases hj with hj | hj
            · have := hlb _ hj; exact .inr (by omega)
            · subst hj; exact hgT))
          have hsz6 : b' ≤ (w5.setCell ⟨g, ol, none⟩ (.slice a5 (lm + m) c5)).heap.size := Nat.le_trans (by omega) TA.size
          have hll : (l ++ ys).length = (lm + m) := by rw [List.length_append, HLM.out, HYL.out]; try omega
          have R : Hid (RI w w1 (.slice (some ⟨g, 0, none⟩) (ol + 1) cap) (fS W (cl xs) (k + 1)).1 (fS W (cl xs) (k + 1)).2.1 (w5.setCell ⟨g, ol, none⟩ (.slice a5 (lm + m) c5))) := by
            have e : fS W (cl xs) (k + 1) = (o, l ++ ys, r - nn) := HSTEP.out
            rw [e]
            show RI w w1 (.slice (some ⟨g, 0, none⟩) (ol + 1) cap) o (l ++ ys) _
            rw [← List.map_append] at hline6
            refine ⟨vs, a5, c5, b', g, cap, bo, by rw [HOL.out], hwb, hsz6, (by rw [HOL.out]; exact hbo), ?_, hfull6, ?_, ht6⟩
            · rw [HOL.out, hll]; exact hrow6
            · rw [hll]; exact hline6
          have RU : W - (fS W (cl xs) (k + 1)).2.2 = W - r + nn := by
            have e : fS W (cl xs) (k + 1) = (o, l ++ ys, r - nn) := HSTEP.out
            rw [e]; simp only; omega
          have HRU := Lib.hid RU
          refine hK _ _ (.inr ⟨f0, f1⟩) ?_
          clear hK hst hset TS TA hrow6 hline6 hfull6 ht6 hown5 hgrow5 TG TG0 TD hrow5 RU HFULL HLINE HOWN HT HSTEP
          refine take_g (i := 11) (by kernel_rfl) rfl rfl fun K hK => ?_
          go_wp2
          refine hK _ _ (.inr ⟨f0, f1⟩) ?_
          clear hK
          refine take_g (i := 12) (by kernel_rfl) rfl rfl fun K hK => ?_
          go_wp2
          refine hK _ _ (.inl rfl) ?_
          clear hK
          refine take_done (by kernel_rfl) ?_ _
          have xu : IntKind.i64.wrap ((W - r) + nn) = (W - r) + nn := IntWalk.i64_in _ (by omega)
          clear f0 f1 fz e0 e1 hS
          generalize (w5.setCell ⟨g, ol, none⟩ (.slice a5 (lm + m) c5)) = w6 at *
          go_wp2
          go_roundw
          case rel => exact ⟨k + 1, by omega, by go_num, by rw [HRU.out], R⟩
          case measure => simp [intOf]; omega
      · have hn0 : nn = 0 := by
          have e := HDEF.out
          rw [hsil] at e
          simp only [if_true] at e
          subst e
          split at hnm <;> omega
        subst hn0
        have d9 : ((0 : Int) == 0) = true := rfl
        have HE := Lib.hid (HN3.out hsil)
        clear hsil
        go_wp2
        go_roundw
        case rel => exact ⟨k + 1, by omega, by go_num, by rw [HE.out.2.2], by rw [HE.out.1, HE.out.2.1]; exact HR3.out⟩
        case measure => simp [intOf]; omega
    · obtain rfl : k = cn := by omega
      clear hlt hk
      have HFE : Hid (fl W xs = (fS W (cl xs) k).1 ++ [(fS W (cl xs) k).2.1]) := by unfold fl; rw [HCN.out]; exact Lib.hid rfl
      obtain ⟨vs, al, cq, b', g, cap, bo, hv, hwb, hbr, hbo, hrow, hfull, hline, hT⟩ := H.out
      subst hv
      have hszz : w.heap.size ≤ w1.heap.size := by have := HB1.out.size; omega
      have HBE := Lib.hid (HB1.out.trans (hT.below hszz (fun j hj => by omega)))
      clear H hT
      go_wp2
      go_ret
      refine ⟨_, rfl, ?_, HBE.out⟩
      rw [HFE.out]
      refine ⟨vs ++ [.slice al (fS W (cl xs) k).2.1.length cq], by simp [hfull.1], ?_, fun i ys hi => ?_⟩
      · rw [List.length_append]
        exact hrow.mono (by omega)
      · obtain ⟨a', n', c', e1, e2, _⟩ := (hfull.push (B := wr.heap.size) hline hwb hbr (Nat.le_refl _)).2 i ys hi
        exact ⟨a', n', c', e1, e2.mono hszz⟩

end Go.Proofs.Ytihanlahegngoaa.Fit

/-
  The walk of the statement GraphemeCuts.
-/
import Derived.Test.YtihanlahegngoaaSame16
import Derived.Test.YtihanlahegngoaaGraCut
import Derived.IntWalk
namespace Go.Proofs.Ytihanlahegngoaa.Gra
set_option linter.unusedSimpArgs false
set_option linter.unusedVariables false
open Go Go.RowKit Go.Shelf Mem Turn GraLaw Same Seg

theorem ctrl (x y : Int) (hy : y = 1 ∨ y = 2 ∨ y = 3) (h : ¬ (x = 1 ∧ y = 2)) : (Pairs.pj (Pairs.cls x) (Pairs.cls y) == 1) = false ∧ (Pairs.pj (Pairs.cls x) (Pairs.cls y) == 2) = false := by
  have hc : Pairs.cls x = x ∨ Pairs.cls x = 0 := by unfold Pairs.cls; split; exact .inr rfl; exact .inl rfl
  have h0 : ∀ z, Pairs.pj 0 z = Pairs.pj 0 z := fun _ => rfl
  rcases hy with rfl | rfl | rfl
  · have e : Pairs.cls 1 = 1 := by decide
    rw [e]
    have : Pairs.pj (Pairs.cls x) 1 = 0 := by
      unfold Pairs.pj
      have : Pairs.brkB 1 = true := by decide
      simp [this]
    rw [this]; decide
  · have e : Pairs.cls 2 = 2 := by decide
    rw [e]
    have hx : x ≠ 1 := fun hx => h ⟨hx, rfl⟩
    have hx' : (Pairs.cls x == 1) = false := by rcases hc with e | e <;> rw [e] <;> simp [hx]
    have : Pairs.pj (Pairs.cls x) 2 = 0 := by
      unfold Pairs.pj
      have : Pairs.brkB 2 = true := by decide
      simp [this, hx']
    rw [this]; decide
  · have e : Pairs.cls 3 = 3 := by decide
    rw [e]
    have : Pairs.pj (Pairs.cls x) 3 = 0 := by
      unfold Pairs.pj
      have : Pairs.brkB 3 = true := by decide
      simp [this]
    rw [this]; decide

theorem prop_ctrl (r : Int) (h : Gcb.val r = 1 ∨ Gcb.val r = 2 ∨ Gcb.val r = 3) : Pict.isB r = false ∧ Conj.val r ≠ 1 := by
  refine ⟨?_, fun hc => ?_⟩
  · cases hp : Pict.isB r
    · rfl
    · have := Tells.pict_other r hp; omega
  · have := Tells.consonant_other r hc; omega

/-- a number that breaks begins a cluster -/
theorem breaks_at (a b : List Int) (y : Int) (hy : b[0]? = some y) (hv : Gcb.val y = 1 ∨ Gcb.val y = 2 ∨ Gcb.val y = 3)
    (hx : Gcb.val y = 2 → ∀ x, a[a.length - 1]? = some x → Gcb.val x ≠ 1) : Jn (a ++ b) a.length = false := by
  rcases Nat.eq_zero_or_pos a.length with h0 | h0
  · rw [h0]; exact Jn_zero _
  · obtain ⟨p1, p2⟩ := prop_ctrl y hv
    have hpy : props (a ++ b) a.length = prop y := by
      unfold props
      rw [List.getD_eq_getElem?_getD, List.getElem?_append_right (Nat.le_refl _), Nat.sub_self, hy]; rfl
    obtain ⟨x, hxx⟩ : ∃ x, a[a.length - 1]? = some x := ⟨_, List.getElem?_eq_getElem (by omega)⟩
    have hpx : props (a ++ b) (a.length - 1) = prop x := by
      unfold props
      rw [List.getD_eq_getElem?_getD, List.getElem?_append_left (by omega), hxx]; rfl
    have hc := ctrl (Gcb.val x) (Gcb.val y) hv (fun h => hx h.2 x hxx h.1)
    show joinsR (props (a ++ b)) a.length = false
    unfold joinsR
    have e1 : conjR (props (a ++ b)) a.length = false := by
      unfold conjR
      rw [hpy]
      have : ((prop y).co == 1) = false := by show (Conj.val y == 1) = false; simp [p2]
      rw [this]; rfl
    have e2 : pictR (props (a ++ b)) a.length = false := by
      unfold pictR
      rw [hpy]
      have : (prop y).pi = false := p1
      rw [this]; rfl
    rw [e1, e2, hpx, hpy]
    have e3 : (Pairs.pj (Pairs.cls (prop x).br) (Pairs.cls (prop y).br) == 1) = false := hc.1
    have e4 : (Pairs.pj (Pairs.cls (prop x).br) (Pairs.cls (prop y).br) == 2) = false := hc.2
    rw [e3, e4]
    simp

theorem src_of_runes {w : World} {a : Option Addr} {n c : Nat} {xs : List Int} (h : Runes w a n c xs) : Src w a n 1 (xs.map (Value.int .i32)) := by
  obtain ⟨hl, h⟩ := h.ints
  rcases a with _ | ad
  · rcases h with h0 | ⟨b, off, e, _⟩
    · subst h0
      exact .inl ⟨rfl, rfl, by rw [List.eq_nil_of_length_eq_zero hl]; rfl⟩
    · cases e
  · refine .inr ⟨ad, rfl, by simp [hl], fun j u hj => ?_⟩
    rw [List.getElem?_map, Option.map_eq_some_iff] at hj
    obtain ⟨x, hx, rfl⟩ := hj
    rcases h with h0 | ⟨b, off, e, _, hc⟩
    · have := (List.getElem?_eq_some_iff.1 hx).1; omega
    · injection e with e
      subst e
      rw [add_none]
      exact hc j x hx

theorem runes_of_own {w : World} {base : Nat} {a : Option Addr} {n c : Nat} {xs : List Int} (h : w.ownsRow base 21 1 (.slice a n c) n (xs.map (Value.int .i32))) (hr : R32 xs) : Runes w a n c xs := by
  refine ⟨ints_of_own h, hr, ?_, ?_⟩
  · rcases h.2 with ⟨h1, h2⟩ | ⟨g, cap, cur, h1, _, _, h4, _⟩
    · injection h1 with _ _ h1; omega
    · injection h1 with _ _ h1; omega
  · rcases h.2 with ⟨h1, h2⟩ | ⟨g, cap, cur, h1, _, _, h4, h5, _⟩
    · injection h1 with _ _ h1; omega
    · injection h1 with _ _ h1; unfold maxLen at h5; omega

theorem lists_append {w w' : World} {base : Nat} {v v' : Value} {xss yss : List (List Int)} {vs us : List Value} (hv : vs.length = xss.length) (hT : Turn (fun j => v.ownBlock = some j) w w')
    (h0 : w.ownsRow base 22 1 v xss.length vs)
    (h1 : ∀ (i : Nat) (xs : List Int), xss[i]? = some xs → ∃ a n c, vs[i]? = some (.slice a n c) ∧ w.ownsRow base 21 1 (.slice a n c) n (xs.map (Value.int .i32)))
    (h2 : ∀ (i : Nat) (xs : List Int), yss[i]? = some xs → ∃ a n c, us[i]? = some (.slice a n c) ∧ w.ownsRow base 21 1 (.slice a n c) n (xs.map (Value.int .i32)))
    (hu : us.length = yss.length) (h : w'.ownsRow base 22 1 v' (xss.length + yss.length) (vs ++ us)) : Lists w' base v' (xss ++ yss) := by
  refine ⟨vs ++ us, by simp [hv, hu], by rw [List.length_append]; exact h, fun i xs hi => ?_⟩
  rcases Nat.lt_or_ge i xss.length with hl | hl
  · rw [List.getElem?_append_left hl] at hi
    obtain ⟨a, n, c, e1, e2⟩ := h1 i xs hi
    exact ⟨a, n, c, by rw [List.getElem?_append_left (by omega)]; exact e1, hT.kept e2 (fun g hg hx => rows_ne h0 e2 (by decide) hx hg)⟩
  · rw [List.getElem?_append_right hl] at hi
    obtain ⟨a, n, c, e1, e2⟩ := h2 _ xs hi
    exact ⟨a, n, c, by rw [List.getElem?_append_right (by omega), hv]; exact e1, hT.kept e2 (fun g hg hx => rows_ne h0 e2 (by decide) hx hg)⟩

theorem src_of_own {w : World} {base : Nat} {e : TypeId} {a : Option Addr} {n c : Nat} {xs : List Value} (h : w.ownsRow base e 1 (.slice a n c) n xs) : Src w a n 1 xs := by
  rcases h.2 with ⟨h1, h2⟩ | ⟨g, cap, cur, h1, _⟩
  · injection h1 with h1 _
    subst h1 h2
    exact .inl ⟨rfl, rfl, List.eq_nil_of_length_eq_zero (by have := h.1; omega)⟩
  · injection h1 with h1 _
    subst h1
    exact .inr ⟨_, rfl, h.1, h.cells (g := g) rfl⟩

theorem lists_slice2 {w : World} {base : Nat} {v : Value} {xss : List (List Int)} (h : Lists w base v xss) : ∃ a c, v = .slice a xss.length c := by
  obtain ⟨vs, _, h, _⟩ := h
  exact own_slice h

set_option maxRecDepth 100000 in
set_option maxHeartbeats 8000000 in
theorem cuts_main (w : World) (a : Option Addr) (n1 c1 : Nat) (xs : List Int) (h1 : Runes w a n1 c1 xs) (b : Option Addr) (n2 c2 : Nat) (ys : List Int) (h2 : Runes w b n2 c2 ys) (k1 : n1 ≤ 300) (k2 : n2 ≤ 300) (k3 : 0 < n2) :
    Calls Try.prog 7 #[.slice a n1 c1, .slice b n2 c2] w fun e w' => e = .returned (.bool true) ∧ Below w.heap.size w w' := by
  have d1 : decide (300 < (n1 : Int)) = false := by simp; omega
  have d2 : decide (300 < (n2 : Int)) = false := by simp; omega
  have d3 : ((n2 : Int) == 0) = false := by simp; omega
  have H1 := Lib.hid h1
  have H2 := Lib.hid h2
  have S1 := Lib.hid (src_of_runes h1)
  have S2 := Lib.hid (src_of_runes h2)
  obtain ⟨i0, hi, hz0, hz1, hz2⟩ := info_parts info_i32
  obtain ⟨i1, hi1, hy0, hy1, hy2⟩ := info_parts info_sl
  obtain ⟨hl2, g2⟩ := h2.ints
  obtain ⟨y, hy⟩ : ∃ y, ys[0]? = some y := ⟨_, List.getElem?_eq_getElem (by omega)⟩
  obtain ⟨bb, off, rfl, hbb, hcb⟩ : ∃ bb off, b = some ⟨bb, off, none⟩ ∧ bb < w.heap.size ∧ ∀ i x, ys[i]? = some x → w.cell? ⟨bb, off + i, none⟩ = some (.int .i32 x) := by
    rcases g2 with g2 | ⟨bb, off, e, hb, hc⟩
    · omega
    · exact ⟨bb, off, e, hb, hc⟩
  obtain ⟨r1, r2⟩ := h2.r32.at hy
  have hc0 := hcb 0 y hy
  have HY := Lib.hid hy
  have HL1 := Lib.hid h1.ints.1
  have HL2 := Lib.hid hl2
  clear hcb hy h1 h2 g2 hl2
  go_enter Try.func7, Try.ntmps7
  go_wp2_with fail
  refine (works_any _).mono ?_; rintro e w1 ⟨rfl, hb1⟩
  have hcy := (hb1.cell (p := ⟨bb, off + 0, none⟩) hbb).trans hc0
  rw [Nat.add_zero] at hcy
  have B1 := Lib.hid hb1
  clear hb1 hc0
  go_wp2_with fail
  refine (Gcb.ref_val y r1 r2 _).mono ?_; rintro e w2 ⟨rfl, hb2⟩
  have B2 := Lib.hid (B1.out.trans (hb2.mono B1.out.size))
  clear hb2 hcy B1
  generalize hv : Gcb.val y = v at *
  have HV := Lib.hid hv
  clear hv
  by_cases v1 : v < 1
  · go_wp2
    go_ret
    exact ⟨rfl, B2.out⟩
  · by_cases v3 : 3 < v
    · go_wp2
      go_ret
      exact ⟨rfl, B2.out⟩
    · have dv1 : decide (v < 1) = false := by simp; omega
      have dv3 : decide (3 < v) = false := by simp; omega
      have hv123 : Hid (v = 1 ∨ v = 2 ∨ v = 3) := by show _ ∨ _; omega
      by_cases v2 : v = 2
      · have dv2 : (v == 2) = true := by simp [v2]
        by_cases hn1 : n1 = 0
        · have dn : decide ((0 : Int) < n1) = false := by simp; omega
          have HJ : Hid (Jn (xs ++ ys) xs.length = false) := by
            refine Lib.hid (breaks_at xs ys y HY.out (by rw [HV.out]; exact hv123.out) (fun _ x hx => ?_))
            have := (List.getElem?_eq_some_iff.1 hx).1
            have h9 := HL1.out
            omega
          have hle0 : n1 ≤ 0 := by omega
          clear hn1 v2
          go_wp2_with (first
            | (at_builtin; refine wpList_append_src _ rfl _ _ 22 rfl w2.heap.size 21 i0 _ 1 4 Try.underlying22 hi hz0 hz1 hz2 rfl (by decide) (.slice (some ⟨w2.heap.size, 0, none⟩) 0 0) 0 [] rfl (World.ownsRow_made w2 #[] 0 (Nat.le_refl _) (by unfold maxLen; omega) rfl) a n1 c1 (xs.map (Value.int .i32)) rfl ((S1.out.keep (B2.out)).keep ((Below.refl _ _).alloc (Nat.le_refl _) _)) (one_cells _ _) (by unfold maxLen; omega) (by omega) (by simp) ?_; intro u1 w4 hown4 hgrow4; rw [Nat.zero_add, List.nil_append] at hown4; obtain ⟨A4, C4, rfl⟩ := own_slice hown4; have B4 := Lib.hid ((B2.out.alloc B2.out.size _).grown hgrow4 (by have := B2.out.size; simp; omega) (fun k e => by injection (show some w2.heap.size = some k from e) with e; have := B2.out.size; omega)))
            | (at_builtin; refine wpList_append_src _ rfl _ _ 22 rfl w2.heap.size 21 i0 _ 1 4 Try.underlying22 hi hz0 hz1 hz2 rfl (by decide) _ n1 _ rfl hown4 (some ⟨bb, off, none⟩) n2 c2 (ys.map (Value.int .i32)) rfl (S2.out.keep B4.out) (one_cells _ _) (by unfold maxLen; omega) (by omega) (Nat.le_trans (by simp) hgrow4.size) ?_; intro u2 w5 hown5 hgrow5; obtain ⟨A5, C5, rfl⟩ := own_slice hown5; have B5 := Lib.hid (B4.out.grown hgrow5 B4.out.size (fun k e => Nat.le_trans B2.out.size (hown4.lt k e).1))))
          rw [← List.map_append] at hown5
          have R5 := Lib.hid (runes_of_own hown5 (fun z hz => (List.mem_append.1 hz).elim (H1.out.r32 z) (H2.out.r32 z)))
          clear hown4 hgrow4 hown5 hgrow5 B4
          refine (clusters_any A5 (n1 + n2) C5 (xs ++ ys) w5 R5.out (by omega)).mono ?_
          rintro e w6 ⟨v6, rfl, hl6, hb6⟩
          have B6 := Lib.hid (B5.out.trans (hb6.mono B5.out.size))
          rw [cls_append xs ys (.inr HJ.out)] at hl6
          have L6 := Lib.hid hl6.reads
          have hs6 := B6.out.size
          clear hb6 hl6 B5 R5
          obtain ⟨A6, C6, hv6, hr6⟩ := L6.out
          subst hv6
          clear hr6
          go_wp2_with fail
          refine (clusters_any a n1 c1 xs w6 (H1.out.below B6.out) (by omega)).mono ?_
          rintro e w7 ⟨v7, rfl, hl7, hb7⟩
          have B7 := Lib.hid (B6.out.trans (hb7.mono B6.out.size))
          have BB7 := Lib.hid hb7
          obtain ⟨A7, C7, rfl⟩ := lists_slice2 hl7
          have HL7 := Lib.hid hl7
          have hW67 := hb7.size
          clear hb7 B6 hl7
          go_wp2_with fail
          refine (clusters_any (some ⟨bb, off, none⟩) n2 c2 ys w7 (H2.out.below B7.out) (by omega)).mono ?_
          rintro e w8 ⟨v8, rfl, hl8, hb8⟩
          have B8 := Lib.hid (B7.out.trans (hb8.mono B7.out.size))
          have BB8 := Lib.hid (BB7.out.trans (hb8.mono BB7.out.size))
          have HL7 := Lib.hid (lists_below HL7.out hb8)
          have hw78 := hb8.size
          have hw67 : w6.heap.size ≤ w7.heap.size := hW67
          clear hb8 B7 BB7
          obtain ⟨us, hu1, hu2, hu3⟩ := hl8
          obtain ⟨A8, C8, rfl⟩ := own_slice hu2
          obtain ⟨vs, hv1, hv2, hv3⟩ := HL7.out
          have hcx : (cls xs).length ≤ 300 := by have := cnt_le (J := Jn xs) xs.length; have h9 := HL1.out; simp [cls]; omega
          have hcy : (cls ys).length ≤ 300 := by have := cnt_le (J := Jn ys) ys.length; have h9 := HL2.out; simp [cls]; omega
          have hsrc : Src w8 A8 (cls ys).length 1 us := src_of_own hu2
          have hone : ∀ u ∈ us, u.oneCell' = true := by
            intro u hu
            obtain ⟨i, hi⟩ := List.mem_iff_getElem?.1 hu
            have hil : i < (cls ys).length := by have := (List.getElem?_eq_some_iff.1 hi).1; omega
            obtain ⟨a', n', c', e1, _⟩ := hu3 i _ (List.getElem?_eq_getElem hil)
            rw [hi] at e1
            injection e1 with e1
            subst e1; rfl
          have HU3 := Lib.hid hu3
          have HV3 := Lib.hid hv3
          have HU1 := Lib.hid hu1
          have HV1 := Lib.hid hv1
          clear hu3 hv3 hu1 hv1 HL7
          go_wp2_with (at_builtin; refine wpList_append_src _ rfl _ _ 40 rfl w6.heap.size 22 i1 _ 1 24 Try.underlying40 hi1 hy0 hy1 hy2 rfl (by decide) _ (cls xs).length _ rfl hv2 A8 (cls ys).length C8 us rfl hsrc hone (by unfold maxLen; omega) (by omega) (by omega) ?_; intro u9 w9 hown9 hgrow9; obtain ⟨A9, C9, rfl⟩ := own_slice hown9)
          have T9 : Turn (fun j => Value.ownBlock (.slice A7 (cls xs).length C7) = some j) w8 w9 := Turn.of_grown hgrow9 (fun j e => e)
          have L9 := Lib.hid (lists_append (w := w8) HV1.out T9 hv2 HV3.out (fun i zs hz => by obtain ⟨a', n', c', e1, e2⟩ := HU3.out i zs hz; exact ⟨a', n', c', e1, e2.mono (by omega)⟩) HU1.out hown9).reads
          have hb9 : Below w6.heap.size w8 w9 := T9.below (by omega) (fun j hj => (hv2.lt j hj).1)
          have B9 := Lib.hid (B8.out.trans (hb9.mono hs6))
          have L10 := Lib.hid (L6.out.below (BB8.out.trans hb9))
          have hlen : (cls xs ++ cls ys).length = (cls xs).length + (cls ys).length := List.length_append
          have hc16 : (cls xs ++ cls ys).length ≤ 9223372036854775807 := by omega
          clear T9 hb9 hgrow9 hown9 B8 BB8 L6 hv2 hu2 hsrc hone HU3 HV3 HU1 HV1
          have L11 : Hid (RLists w9 (.slice A6 ((cls xs).length + (cls ys).length) C6) (cls xs ++ cls ys)) := by rw [← hlen]; exact L10
          with_reducible refine (same16_true _ _ _ w9 L11.out L9.out hc16).mono ?_
          rintro e w10 ⟨rfl, hb10⟩
          have B10 := Lib.hid (B9.out.trans (hb10.mono B9.out.size))
          clear hb10 L9 L10 L11 B9
          go_wp2
          go_ret
          exact ⟨rfl, B10.out⟩
        · have dn : decide ((0 : Int) < n1) = true := by simp; omega
          obtain ⟨x, hx⟩ : ∃ x, xs[n1 - 1]? = some x := ⟨_, List.getElem?_eq_getElem (by have := HL1.out; omega)⟩
          obtain ⟨q1, q2⟩ := H1.out.r32.at hx
          obtain ⟨ab, aoff, rfl, hab, hca⟩ : ∃ bb off, a = some ⟨bb, off, none⟩ ∧ bb < w.heap.size ∧ ∀ i x, xs[i]? = some x → w.cell? ⟨bb, off + i, none⟩ = some (.int .i32 x) := by
            rcases H1.out.ints.2 with g2 | ⟨bb, off, e, hb, hc⟩
            · omega
            · exact ⟨bb, off, e, hb, hc⟩
          have hcx := (B2.out.cell (p := ⟨ab, aoff + (n1 - 1), none⟩) hab).trans (hca _ _ hx)
          have HX := Lib.hid hx
          have x1 : IntKind.i64.wrap ((n1 : Int) - 1) = (n1 : Int) - 1 := IntWalk.i64_in _ (by omega)
          have x2 : (0 : Int) ≤ (n1 : Int) - 1 := by omega
          have x3 : ((n1 : Int) - 1).toNat = n1 - 1 := by omega
          have x4 : (n1 : Int) - 1 < n1 := by omega
          have hlt0 : 0 < n1 := by omega
          clear hn1 v2 hca hx
          go_wp2_with fail
          clear x1 x2 x3 x4
          refine (Gcb.ref_val x q1 q2 _).mono ?_; rintro e w3 ⟨rfl, hb3⟩
          have B3 := Lib.hid (B2.out.trans (hb3.mono B2.out.size))
          clear hb3 hcx
          generalize hvx : Gcb.val x = u at *
          have HVX := Lib.hid hvx
          clear hvx
          by_cases hu1 : u = 1
          · have du : (u == 1) = true := by simp [hu1]
            clear hu1
            go_wp2
            go_ret
            exact ⟨rfl, B3.out⟩
          · have du : (u == 1) = false := by simp [hu1]
            have HJ : Hid (Jn (xs ++ ys) xs.length = false) := by
              refine Lib.hid (breaks_at xs ys y HY.out (by rw [HV.out]; exact hv123.out) (fun _ x' hx' => ?_))
              rw [HL1.out, HX.out] at hx'
              injection hx' with hx'
              subst hx'
              rw [HVX.out]; exact hu1
            clear hu1
            go_wp2_with (first
              | (at_builtin; refine wpList_append_src _ rfl _ _ 22 rfl w3.heap.size 21 i0 _ 1 4 Try.underlying22 hi hz0 hz1 hz2 rfl (by decide) (.slice (some ⟨w3.heap.size, 0, none⟩) 0 0) 0 [] rfl (World.ownsRow_made w3 #[] 0 (Nat.le_refl _) (by unfold maxLen; omega) rfl) (some ⟨ab, aoff, none⟩) n1 c1 (xs.map (Value.int .i32)) rfl ((S1.out.keep (B3.out)).keep ((Below.refl _ _).alloc (Nat.le_refl _) _)) (one_cells _ _) (by unfold maxLen; omega) (by omega) (by simp) ?_; intro u1 w4 hown4 hgrow4; rw [Nat.zero_add, List.nil_append] at hown4; obtain ⟨A4, C4, rfl⟩ := own_slice hown4; have B4 := Lib.hid ((B3.out.alloc B3.out.size _).grown hgrow4 (by have := B3.out.size; simp; omega) (fun k e => by injection (show some w3.heap.size = some k from e) with e; have := B3.out.size; omega)))
              | (at_builtin; refine wpList_append_src _ rfl _ _ 22 rfl w3.heap.size 21 i0 _ 1 4 Try.underlying22 hi hz0 hz1 hz2 rfl (by decide) _ n1 _ rfl hown4 (some ⟨bb, off, none⟩) n2 c2 (ys.map (Value.int .i32)) rfl (S2.out.keep B4.out) (one_cells _ _) (by unfold maxLen; omega) (by omega) (Nat.le_trans (by simp) hgrow4.size) ?_; intro u2 w5 hown5 hgrow5; obtain ⟨A5, C5, rfl⟩ := own_slice hown5; have B5 := Lib.hid (B4.out.grown hgrow5 B4.out.size (fun k e => Nat.le_trans B3.out.size (hown4.lt k e).1))))
            rw [← List.map_append] at hown5
            have R5 := Lib.hid (runes_of_own hown5 (fun z hz => (List.mem_append.1 hz).elim (H1.out.r32 z) (H2.out.r32 z)))
            clear hown4 hgrow4 hown5 hgrow5 B4
            refine (clusters_any A5 (n1 + n2) C5 (xs ++ ys) w5 R5.out (by omega)).mono ?_
            rintro e w6 ⟨v6, rfl, hl6, hb6⟩
            have B6 := Lib.hid (B5.out.trans (hb6.mono B5.out.size))
            rw [cls_append xs ys (.inr HJ.out)] at hl6
            have L6 := Lib.hid hl6.reads
            have hs6 := B6.out.size
            clear hb6 hl6 B5 R5
            obtain ⟨A6, C6, hv6, hr6⟩ := L6.out
            subst hv6
            clear hr6
            go_wp2_with fail
            refine (clusters_any (some ⟨ab, aoff, none⟩) n1 c1 xs w6 (H1.out.below B6.out) (by omega)).mono ?_
            rintro e w7 ⟨v7, rfl, hl7, hb7⟩
            have B7 := Lib.hid (B6.out.trans (hb7.mono B6.out.size))
            have BB7 := Lib.hid hb7
            obtain ⟨A7, C7, rfl⟩ := lists_slice2 hl7
            have HL7 := Lib.hid hl7
            have hW67 := hb7.size
            clear hb7 B6 hl7
            go_wp2_with fail
            refine (clusters_any (some ⟨bb, off, none⟩) n2 c2 ys w7 (H2.out.below B7.out) (by omega)).mono ?_
            rintro e w8 ⟨v8, rfl, hl8, hb8⟩
            have B8 := Lib.hid (B7.out.trans (hb8.mono B7.out.size))
            have BB8 := Lib.hid (BB7.out.trans (hb8.mono BB7.out.size))
            have HL7 := Lib.hid (lists_below HL7.out hb8)
            have hw78 := hb8.size
            have hw67 : w6.heap.size ≤ w7.heap.size := hW67
            clear hb8 B7 BB7
            obtain ⟨us, hu1, hu2, hu3⟩ := hl8
            obtain ⟨A8, C8, rfl⟩ := own_slice hu2
            obtain ⟨vs, hv1, hv2, hv3⟩ := HL7.out
            have hcx : (cls xs).length ≤ 300 := by have := cnt_le (J := Jn xs) xs.length; have h9 := HL1.out; simp [cls]; omega
            have hcy : (cls ys).length ≤ 300 := by have := cnt_le (J := Jn ys) ys.length; have h9 := HL2.out; simp [cls]; omega
            have hsrc : Src w8 A8 (cls ys).length 1 us := src_of_own hu2
            have hone : ∀ u ∈ us, u.oneCell' = true := by
              intro u hu
              obtain ⟨i, hi⟩ := List.mem_iff_getElem?.1 hu
              have hil : i < (cls ys).length := by have := (List.getElem?_eq_some_iff.1 hi).1; omega
              obtain ⟨a', n', c', e1, _⟩ := hu3 i _ (List.getElem?_eq_getElem hil)
              rw [hi] at e1
              injection e1 with e1
              subst e1; rfl
            have HU3 := Lib.hid hu3
            have HV3 := Lib.hid hv3
            have HU1 := Lib.hid hu1
            have HV1 := Lib.hid hv1
            clear hu3 hv3 hu1 hv1 HL7
            go_wp2_with (at_builtin; refine wpList_append_src _ rfl _ _ 40 rfl w6.heap.size 22 i1 _ 1 24 Try.underlying40 hi1 hy0 hy1 hy2 rfl (by decide) _ (cls xs).length _ rfl hv2 A8 (cls ys).length C8 us rfl hsrc hone (by unfold maxLen; omega) (by omega) (by omega) ?_; intro u9 w9 hown9 hgrow9; obtain ⟨A9, C9, rfl⟩ := own_slice hown9)
            have T9 : Turn (fun j => Value.ownBlock (.slice A7 (cls xs).length C7) = some j) w8 w9 := Turn.of_grown hgrow9 (fun j e => e)
            have L9 := Lib.hid (lists_append (w := w8) HV1.out T9 hv2 HV3.out (fun i zs hz => by obtain ⟨a', n', c', e1, e2⟩ := HU3.out i zs hz; exact ⟨a', n', c', e1, e2.mono (by omega)⟩) HU1.out hown9).reads
            have hb9 : Below w6.heap.size w8 w9 := T9.below (by omega) (fun j hj => (hv2.lt j hj).1)
            have B9 := Lib.hid (B8.out.trans (hb9.mono hs6))
            have L10 := Lib.hid (L6.out.below (BB8.out.trans hb9))
            have hlen : (cls xs ++ cls ys).length = (cls xs).length + (cls ys).length := List.length_append
            have hc16 : (cls xs ++ cls ys).length ≤ 9223372036854775807 := by omega
            clear T9 hb9 hgrow9 hown9 B8 BB8 L6 hv2 hu2 hsrc hone HU3 HV3 HU1 HV1
            have L11 : Hid (RLists w9 (.slice A6 ((cls xs).length + (cls ys).length) C6) (cls xs ++ cls ys)) := by rw [← hlen]; exact L10
            with_reducible refine (same16_true _ _ _ w9 L11.out L9.out hc16).mono ?_
            rintro e w10 ⟨rfl, hb10⟩
            have B10 := Lib.hid (B9.out.trans (hb10.mono B9.out.size))
            clear hb10 L9 L10 L11 B9
            go_wp2
            go_ret
            exact ⟨rfl, B10.out⟩
      · have dv2 : (v == 2) = false := by simp [v2]
        have HJ : Hid (Jn (xs ++ ys) xs.length = false) := Lib.hid (breaks_at xs ys y HY.out (by rw [HV.out]; exact hv123.out) (fun h => absurd (HV.out.symm.trans h) v2))
        go_wp2_with (first
          | (at_builtin; refine wpList_append_src _ rfl _ _ 22 rfl w2.heap.size 21 i0 _ 1 4 Try.underlying22 hi hz0 hz1 hz2 rfl (by decide) (.slice (some ⟨w2.heap.size, 0, none⟩) 0 0) 0 [] rfl (World.ownsRow_made w2 #[] 0 (Nat.le_refl _) (by unfold maxLen; omega) rfl) a n1 c1 (xs.map (Value.int .i32)) rfl ((S1.out.keep (B2.out)).keep ((Below.refl _ _).alloc (Nat.le_refl _) _)) (one_cells _ _) (by unfold maxLen; omega) (by omega) (by simp) ?_; intro u1 w4 hown4 hgrow4; rw [Nat.zero_add, List.nil_append] at hown4; obtain ⟨A4, C4, rfl⟩ := own_slice hown4; have B4 := Lib.hid ((B2.out.alloc B2.out.size _).grown hgrow4 (by have := B2.out.size; simp; omega) (fun k e => by injection (show some w2.heap.size = some k from e) with e; have := B2.out.size; omega)))
          | (at_builtin; refine wpList_append_src _ rfl _ _ 22 rfl w2.heap.size 21 i0 _ 1 4 Try.underlying22 hi hz0 hz1 hz2 rfl (by decide) _ n1 _ rfl hown4 (some ⟨bb, off, none⟩) n2 c2 (ys.map (Value.int .i32)) rfl (S2.out.keep B4.out) (one_cells _ _) (by unfold maxLen; omega) (by omega) (Nat.le_trans (by simp) hgrow4.size) ?_; intro u2 w5 hown5 hgrow5; obtain ⟨A5, C5, rfl⟩ := own_slice hown5; have B5 := Lib.hid (B4.out.grown hgrow5 B4.out.size (fun k e => Nat.le_trans B2.out.size (hown4.lt k e).1))))
        rw [← List.map_append] at hown5
        have R5 := Lib.hid (runes_of_own hown5 (fun z hz => (List.mem_append.1 hz).elim (H1.out.r32 z) (H2.out.r32 z)))
        clear hown4 hgrow4 hown5 hgrow5 B4
        refine (clusters_any A5 (n1 + n2) C5 (xs ++ ys) w5 R5.out (by omega)).mono ?_
        rintro e w6 ⟨v6, rfl, hl6, hb6⟩
        have B6 := Lib.hid (B5.out.trans (hb6.mono B5.out.size))
        rw [cls_append xs ys (.inr HJ.out)] at hl6
        have L6 := Lib.hid hl6.reads
        have hs6 := B6.out.size
        clear hb6 hl6 B5 R5
        obtain ⟨A6, C6, hv6, hr6⟩ := L6.out
        subst hv6
        clear hr6
        go_wp2_with fail
        refine (clusters_any a n1 c1 xs w6 (H1.out.below B6.out) (by omega)).mono ?_
        rintro e w7 ⟨v7, rfl, hl7, hb7⟩
        have B7 := Lib.hid (B6.out.trans (hb7.mono B6.out.size))
        have BB7 := Lib.hid hb7
        obtain ⟨A7, C7, rfl⟩ := lists_slice2 hl7
        have HL7 := Lib.hid hl7
        have hW67 := hb7.size
        clear hb7 B6 hl7
        go_wp2_with fail
        refine (clusters_any (some ⟨bb, off, none⟩) n2 c2 ys w7 (H2.out.below B7.out) (by omega)).mono ?_
        rintro e w8 ⟨v8, rfl, hl8, hb8⟩
        have B8 := Lib.hid (B7.out.trans (hb8.mono B7.out.size))
        have BB8 := Lib.hid (BB7.out.trans (hb8.mono BB7.out.size))
        have HL7 := Lib.hid (lists_below HL7.out hb8)
        have hw78 := hb8.size
        have hw67 : w6.heap.size ≤ w7.heap.size := hW67
        clear hb8 B7 BB7
        obtain ⟨us, hu1, hu2, hu3⟩ := hl8
        obtain ⟨A8, C8, rfl⟩ := own_slice hu2
        obtain ⟨vs, hv1, hv2, hv3⟩ := HL7.out
        have hcx : (cls xs).length ≤ 300 := by have := cnt_le (J := Jn xs) xs.length; have h9 := HL1.out; simp [cls]; omega
        have hcy : (cls ys).length ≤ 300 := by have := cnt_le (J := Jn ys) ys.length; have h9 := HL2.out; simp [cls]; omega
        have hsrc : Src w8 A8 (cls ys).length 1 us := src_of_own hu2
        have hone : ∀ u ∈ us, u.oneCell' = true := by
          intro u hu
          obtain ⟨i, hi⟩ := List.mem_iff_getElem?.1 hu
          have hil : i < (cls ys).length := by have := (List.getElem?_eq_some_iff.1 hi).1; omega
          obtain ⟨a', n', c', e1, _⟩ := hu3 i _ (List.getElem?_eq_getElem hil)
          rw [hi] at e1
          injection e1 with e1
          subst e1; rfl
        have HU3 := Lib.hid hu3
        have HV3 := Lib.hid hv3
        have HU1 := Lib.hid hu1
        have HV1 := Lib.hid hv1
        clear hu3 hv3 hu1 hv1 HL7
        go_wp2_with (at_builtin; refine wpList_append_src _ rfl _ _ 40 rfl w6.heap.size 22 i1 _ 1 24 Try.underlying40 hi1 hy0 hy1 hy2 rfl (by decide) _ (cls xs).length _ rfl hv2 A8 (cls ys).length C8 us rfl hsrc hone (by unfold maxLen; omega) (by omega) (by omega) ?_; intro u9 w9 hown9 hgrow9; obtain ⟨A9, C9, rfl⟩ := own_slice hown9)
        have T9 : Turn (fun j => Value.ownBlock (.slice A7 (cls xs).length C7) = some j) w8 w9 := Turn.of_grown hgrow9 (fun j e => e)
        have L9 := Lib.hid (lists_append (w := w8) HV1.out T9 hv2 HV3.out (fun i zs hz => by obtain ⟨a', n', c', e1, e2⟩ := HU3.out i zs hz; exact ⟨a', n', c', e1, e2.mono (by omega)⟩) HU1.out hown9).reads
        have hb9 : Below w6.heap.size w8 w9 := T9.below (by omega) (fun j hj => (hv2.lt j hj).1)
        have B9 := Lib.hid (B8.out.trans (hb9.mono hs6))
        have L10 := Lib.hid (L6.out.below (BB8.out.trans hb9))
        have hlen : (cls xs ++ cls ys).length = (cls xs).length + (cls ys).length := List.length_append
        have hc16 : (cls xs ++ cls ys).length ≤ 9223372036854775807 := by omega
        clear T9 hb9 hgrow9 hown9 B8 BB8 L6 hv2 hu2 hsrc hone HU3 HV3 HU1 HV1
        have L11 : Hid (RLists w9 (.slice A6 ((cls xs).length + (cls ys).length) C6) (cls xs ++ cls ys)) := by rw [← hlen]; exact L10
        with_reducible refine (same16_true _ _ _ w9 L11.out L9.out hc16).mono ?_
        rintro e w10 ⟨rfl, hb10⟩
        have B10 := Lib.hid (B9.out.trans (hb10.mono B9.out.size))
        clear hb10 L9 L10 L11 B9
        go_wp2
        go_ret
        exact ⟨rfl, B10.out⟩

set_option maxHeartbeats 2000000 in
theorem cuts_any (w : World) (a : Option Addr) (n1 c1 : Nat) (xs : List Int) (h1 : Runes w a n1 c1 xs) (b : Option Addr) (n2 c2 : Nat) (ys : List Int) (h2 : Runes w b n2 c2 ys) :
    Calls Try.prog 7 #[.slice a n1 c1, .slice b n2 c2] w fun e w' => e = .returned (.bool true) ∧ Below w.heap.size w w' := by
  have m1 : n1 ≤ 9223372036854775807 := Nat.le_trans h1.le h1.max
  have m2 : n2 ≤ 9223372036854775807 := Nat.le_trans h2.le h2.max
  by_cases k1 : 300 < n1
  · have d1 : decide (300 < (n1 : Int)) = true := by simp; omega
    clear h1 h2
    go_enter Try.func7, Try.ntmps7
    go_wp2_with fail
    refine (works_any _).mono ?_; rintro e w1 ⟨rfl, hb1⟩
    go_wp2_with fail
    refine (works_any _).mono ?_; rintro e w2 ⟨rfl, hb2⟩
    have hb2 := hb1.trans (hb2.mono hb1.size)
    go_wp2
    go_ret
    exact ⟨rfl, hb2⟩
  · have d1 : decide (300 < (n1 : Int)) = false := by simp; omega
    by_cases k2 : 300 < n2
    · have d2 : decide (300 < (n2 : Int)) = true := by simp; omega
      clear h1 h2
      go_enter Try.func7, Try.ntmps7
      go_wp2_with fail
      refine (works_any _).mono ?_; rintro e w1 ⟨rfl, hb1⟩
      go_wp2_with fail
      refine (works_any _).mono ?_; rintro e w2 ⟨rfl, hb2⟩
      have hb2 := hb1.trans (hb2.mono hb1.size)
      go_wp2
      go_ret
      exact ⟨rfl, hb2⟩
    · by_cases k3 : n2 = 0
      · subst k3
        clear h1 h2
        go_enter Try.func7, Try.ntmps7
        go_wp2_with fail
        refine (works_any _).mono ?_; rintro e w1 ⟨rfl, hb1⟩
        go_wp2_with fail
        refine (works_any _).mono ?_; rintro e w2 ⟨rfl, hb2⟩
        have hb2 := hb1.trans (hb2.mono hb1.size)
        go_wp2
        go_ret
        exact ⟨rfl, hb2⟩
      · exact cuts_main w a n1 c1 xs h1 b n2 c2 ys h2 (by omega) (by omega) (by omega)

end Go.Proofs.Ytihanlahegngoaa.Gra

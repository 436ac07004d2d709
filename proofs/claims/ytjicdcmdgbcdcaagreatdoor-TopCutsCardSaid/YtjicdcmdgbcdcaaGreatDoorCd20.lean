/-
  place: Put.
  grid.Lines.
-/
import Derived.Test.YtjicdcmdgbcdcaaGreatDoorCd19

section
namespace Go.Proofs.YtjicdcmdgbcdcaaGreatDoor.Scr
set_option linter.unusedSimpArgs false
set_option linter.unusedVariables false
open Go Go.RowKit Mem Turn Ring

/-- what stands at the place where ways meet: the pen as it was, the text, the room for the result -/
def PutMid (X : Nat → Prop) (π W : Nat) (p : PenC) (w : World) (t : List Int) (v : Value) (wx : World) : Prop :=
  PenAt wx X π p W ∧ TxtAt wx v t ∧ wx.heap[w.heap.size]? = some (.cells (curA 0 0 false) 36 (0, 0)) ∧ Turn X w wx

set_option maxRecDepth 100000 in
set_option maxHeartbeats 16000000 in
theorem put_exact (X : Nat → Prop) (π W : Nat) (wide : Int) (p : PenC) (v : Value) (t : List Int) (w : World) (h : PenAt w X π p W) (hX : ∀ b, X b → PenTyp w b) (hok : PenOK p W) (hw : wide = 1 ∨ wide = 2) (ht : TxtAt w v t) (hne : t ≠ []) (hv : VarsX w X) :
    Calls Tryz.prog 113 #[ptr π, .int .i64 wide, v] w fun e w' => e = .returned (curV (putA p wide W)) ∧ PenTo w X π (putP p wide t W) W w' := by
  have hmx : Tryz.prog.follows .mixedOrders = true := by kernel_rfl
  have HOK := Lib.hid hok
  have HX := Lib.hid hX
  have HV := Lib.hid hv
  have HNE := Lib.hid (textP_ne wide t W hne)
  have hπ : π < w.heap.size := h.typ.lt
  have hw2 := wideP_two wide W
  have HWP := Lib.hid hw2
  have HPA := Lib.hid (show putA p wide W = ⟨(roomP p (wideP wide W) W).at_.row, (roomP p (wideP wide W) W).at_.col, false⟩ from rfl)
  have HPP := Lib.hid (show putP p wide t W = putRow (roomP p (wideP wide W) W) (wideP wide W) (textP wide t W) W from rfl)
  have HROOM := Lib.hid (hok.room (wideP wide W) hw2)
  have hnX : ¬ X w.heap.size := fun e => by have := (hX _ e).lt; omega
  have HNX := Lib.hid hnX
  obtain ⟨γ, β, Q, hp⟩ := h
  have e1 := heap_alloc_new w (.cells (curA 0 0 false) 36)
  have hb1 : Below w.heap.size w (w.alloc (.cells (curA 0 0 false) 36)) := (Below.refl _ _).alloc (Nat.le_refl _) _
  have T1 : Turn (fun _ => False) w (w.alloc (.cells (curA 0 0 false) 36)) := Turn.alloc _ _ _
  have HP1 := Lib.hid (hp.below hb1)
  have HT1 : Hid (TxtAt (w.alloc (.cells (curA 0 0 false) 36)) v t) := Lib.hid (ht.turn T1 (Free.no _ _))
  have HE1 := Lib.hid e1
  have HB1 := Lib.hid hb1
  clear hp ht e1 hb1 T1 hX hnX hw2 hv hok
  obtain ⟨lt, hlt⟩ : ∃ b, decide ((W : Int) < wide) = b := ⟨_, rfl⟩
  have HWT : Hid (wideP wide W = (if lt then 1 else wide) ∧ textP wide t W = (if lt then [65533] else t)) := Lib.hid (by
    unfold wideP textP
    rw [show max 1 (min wide 2) = wide from by omega, ← hlt]
    by_cases h : (W : Int) < wide <;> simp [h])
  generalize wideP wide W = wd at *
  generalize textP wide t W = tx at *
  generalize putP p wide t W = pp at *
  generalize putA p wide W = pa at *
  go_enter Tryz.func113, Tryz.ntmps113
  go_upto_region 1 with fail
  generalize (w.alloc (.cells #[.int .i64 0, .int .i64 0, .bool false] 36)) = w1 at *
  have HRD := Lib.hid (ready_is X π γ β W Q p w1 HP1.out)
  rw [← HOK.out.held] at HRD
  go_wp2_with fail
  refine HRD.out.mono ?_
  rintro e w2 ⟨rfl, hp2, ht2⟩
  have HM : Hid (PutMid X π W p w t v w2 ∧ PenIs w2 X π γ β Q p W) := Lib.hid (by
    have hx : X π := hp2.xπ
    have hne : w.heap.size ≠ π := fun e => HNX.out (e ▸ hx)
    have hf : Free (fun b => b = π) w1 21 := fun b e _ => by subst e; exact HP1.out.typ.not (by decide)
    exact ⟨⟨⟨γ, β, Q, hp2⟩, HT1.out.turn ht2 hf, ht2.heap HE1.out hne, ((Turn.of_new HB1.out : Turn (fun _ => False) w w1).mono (fun _ _ h => h.elim)).trans (ht2.mono (fun b _ e => by rw [e]; exact hx))⟩, hp2⟩)
  clear HRD HP1 HT1 HE1 HB1 hp2 ht2
  have HWD := Lib.hid (gwide_any γ β W _ w2 HM.out.2.grid HM.out.2.rows.all)
  obtain ⟨c0, _⟩ := HM.out.2.cells
  have hW1 := HM.out.2.w1
  have hW2 := HM.out.2.w2
  rcases hw with rfl | rfl
  all_goals
    go_wp2_with fail
    refine HWD.out.mono ?_
    rintro e wx ⟨rfl, rfl⟩
    go_upto_if 21 with fail
    go_cut [1, 2] (fun s1 s2 wx => s1 = .int .i64 wd ∧ ∃ v', v' = s2 ∧ Hid (PutMid X π W p w tx v' wx))
    case first =>
      cases lt
      · have HA : Hid (PutMid X π W p w tx v w2) := Lib.hid (by rw [HWT.out.2]; exact HM.out.1)
        have HI := Lib.hid HWT.out.1
        go_wp2_with fail
        go_meet
        exact ⟨by rw [HI.out]; rfl, _, rfl, HA⟩
      · have HA : Hid (PutMid X π W p w tx (.slice (some ⟨w2.heap.size, 0, none⟩) 1 1) (w2.alloc (.cells #[.int .i32 65533] 21))) := Lib.hid (by
          have T : Turn (fun _ => False) w2 (w2.alloc (.cells #[.int .i32 65533] 21)) := Turn.alloc _ _ _
          obtain ⟨⟨m1, m2, m3, m4⟩, _⟩ := HM.out
          refine ⟨m1.below ((Below.refl _ _).alloc (Nat.le_refl _) _), ?_, T.heap m3 id, m4.trans (T.mono (fun _ _ h => h.elim))⟩
          rw [HWT.out.2]
          exact TxtAt.lit w2 [65533] 1 rfl (by omega) _ rfl)
        have HI := Lib.hid HWT.out.1
        go_wp2_with fail
        go_meet
        exact ⟨by rw [HI.out]; rfl, _, rfl, HA⟩
    case rest =>
      obtain ⟨rfl, s2, rfl, hmid⟩ := hcut
      obtain ⟨⟨γ1, β1, Q1, hp1⟩, htx, he, htn⟩ := hmid.out
      obtain ⟨X0, hp0, hs0, ht0⟩ := hp1.exact
      have HS0 := Lib.hid hs0
      have HF0 : Hid (Free X0 wc 21) := Lib.hid (PenTyp.free ht0 (by decide))
      have HT := Lib.hid htx
      have HE := Lib.hid he
      have HTN := Lib.hid htn
      have HRM := Lib.hid (room_any X0 π W wd p wc ⟨γ1, β1, Q1, hp0⟩ HOK.out HWP.out (((HV.out.to htn (fun b e => .inl e)).sub hs0).hv))
      clear hmid htx he htn hp1 c0 hlt hp0 hs0 ht0 HM HWD HOK
      go_wp2_with fail
      refine HRM.out.mono ?_
      rintro e w3 ⟨rfl, hto⟩
      have HROOM2 := HROOM
      have HG : Hid (∃ X2 γ2 β2 Q2, PenIs w3 X2 π γ2 β2 Q2 (roomP p wd W) W ∧ (∀ b, X2 b → X b ∨ w.heap.size ≤ b) ∧ (∀ b, X2 b → PenTyp w3 b) ∧ TxtAt w3 s2 tx ∧ w3.heap[w.heap.size]? = some (.cells (curA 0 0 false) 36 (0, 0)) ∧ Turn X w w3) := Lib.hid (by
        obtain ⟨X1, ⟨γ2, β2, Q2, h1⟩, h2, h3⟩ := hto
        obtain ⟨X2, h4, h5, h6⟩ := h1.exact
        refine ⟨X2, γ2, β2, Q2, h4, fun b hb => ?_, h6, HT.out.turn h3 HF0.out, h3.heap HE.out (fun e => HNX.out (HS0.out _ e)), HTN.out.trans (h3.mono (fun b _ e => HS0.out b e))⟩
        rcases h2 b (h5 b hb) with e | e
        · exact .inl (HS0.out b e)
        · exact .inr (Nat.le_trans HTN.out.size e))
      clear hto HRM HT HE HTN HF0 HS0
      obtain ⟨X2, γ2, β2, Q2, hp3, hx2, hy2, ht3, he3, hn3⟩ := HG.out
      clear HG
      generalize roomP p wd W = p1 at *
      obtain ⟨hok1, hfit⟩ := HROOM.out
      obtain ⟨r0, r1, k0, k1, _⟩ := hok1.rng
      obtain ⟨k, hk⟩ : ∃ k : Nat, p1.at_.row = (k : Int) := ⟨p1.at_.row.toNat, by omega⟩
      obtain ⟨c, hc⟩ : ∃ c : Nat, p1.at_.col = (c : Int) := ⟨p1.at_.col.toNat, by omega⟩
      have hkl : k < p1.rows.length := by omega
      have hcw : (c : Int) + wd ≤ W := by rw [← hc]; exact hfit
      obtain ⟨q, hq⟩ : ∃ q, Q2[k]? = some q := ⟨_, List.getElem?_eq_getElem (by rw [hp3.rows.len]; exact hkl)⟩
      obtain ⟨l, hl, g1, g2, _, _⟩ := hp3.rows.line hq
      have hsl := (hok1.rows l (List.mem_of_getElem? hl)).2
      have hgetD : p1.rows.getD k ([], false) = l := by rw [List.getD_eq_getElem?_getD, hl]; rfl
      have hnb : ¬ X2 w.heap.size := fun e => (hy2 _ e).not (by decide) ⟨_, _, he3⟩
      have HRI : Hid (∀ W', Below w3.heap.size w3 W' → Calls Tryz.prog 70 #[ptr γ2, .int .i64 (k : Int)] W' fun e w' => e = .returned (ptr q.1) ∧ W' = w') := Lib.hid fun W' hb => row_in γ2 β2 k q.1 _ W' (hp3.below hb).grid (by rw [List.getElem?_map, hq]; rfl)
      have HMP : Hid (∀ W', Below w3.heap.size w3 W' → Calls Tryz.prog 162 #[ptr q.1, .int .i64 (c : Int), .int .i64 wd, s2] W' fun e w' => e = .returned .nilIface ∧ PenIs w' X2 π γ2 β2 Q2 { p1 with rows := p1.rows.set k (paintN l c (ofC wd tx)) } W ∧ Turn (fun b => b = q.1 ∨ b = q.2) W' w') := Lib.hid fun W' hb => by
        have T : Turn (fun _ => False) w3 W' := Turn.of_new hb
        refine (mput_ok _ False q.1 q.2 c l wd s2 tx W' (g1.turn T (Free.no _ _) id id) (sound_first hsl) (ht3.turn T (Free.no _ _)) HNE.out (by rw [g2]; rcases HWP.out with e | e <;> split <;> omega)).mono ?_
        rintro e w' ⟨h1, h2, h3⟩
        exact ⟨h1, ((hp3.below hb).row hq h2 (by rw [paintN_len]; exact g2) h3).1, h3⟩
      have HQN : Hid (¬ (π = q.1 ∨ π = q.2) ∧ q.1 < w3.heap.size ∧ q.2 < w3.heap.size ∧ X2 q.1 ∧ X2 q.2) := Lib.hid (by
        obtain ⟨_, _, _, _, g3, g4⟩ := hp3.rows.line hq
        refine ⟨?_, g1.typ.lt, g1.cells.typ.lt, g3, g4⟩
        rintro (e | e)
        · exact hp3.typ.ne g1.typ (by decide) e
        · exact hp3.typ.ne g1.cells.typ (by decide) e)
      have HWD : Hid (∀ w8, PenIs w8 X2 π γ2 β2 Q2 { p1 with rows := p1.rows.set k (paintN l c (ofC wd tx)) } W → Calls Tryz.prog 36 #[ptr γ2] w8 fun e w' => e = .returned (.int .i64 (W : Int)) ∧ w8 = w') := Lib.hid fun w8 h8 => gwide_any γ2 β2 W _ w8 h8.grid h8.rows.all
      have HAF : Hid (∀ W', Calls Tryz.prog 163 #[.agg #[.int .i64 (k : Int), .int .i64 (c : Int), .bool false], .int .i64 wd, .int .i64 (W : Int), .bool p1.auto] W' fun e w' => e = .returned (curV (afterC ⟨(k : Int), (c : Int), false⟩ wd W p1.auto)) ∧ Below W'.heap.size W' w') := Lib.hid fun W' => after_any _ _ _ _ _ _ W' (by rcases HWP.out with e | e <;> omega) (by rcases HWP.out with e | e <;> omega) (by omega) (by have := hp3.w2; omega)
      have HFIN : Hid (∀ w8 r c' b, PenIs w8 X2 π γ2 β2 Q2 { p1 with rows := p1.rows.set k (paintN l c (ofC wd tx)) } W → afterC ⟨(k : Int), (c : Int), false⟩ wd W p1.auto = ⟨r, c', b⟩ → PenIs (curW w8 π r c' b) X2 π γ2 β2 Q2 pp W) := Lib.hid fun w8 r c' b h8 e => by
        have h9 := h8.cur r c' b
        rw [HPP.out]
        unfold putRow
        rw [hk, hc, Int.toNat_natCast, Int.toNat_natCast, hgetD, e]
        exact h9
      have HPA2 : Hid (pa = ⟨(k : Int), (c : Int), false⟩) := Lib.hid (by rw [HPA.out, hk, hc])
      have HP3 := Lib.hid hp3
      have HE3 := Lib.hid he3
      have HN3 := Lib.hid hn3
      have HX2 := Lib.hid hx2
      have HNB := Lib.hid hnb
      obtain ⟨c0, c1, c2, _, c4, _⟩ := hp3.cells
      rw [hk] at c1
      rw [hc] at c2
      have C0 := Lib.hid c0
      have C4 := Lib.hid c4
      obtain ⟨aft, haft⟩ : ∃ z, z = afterC ⟨(k : Int), (c : Int), false⟩ wd W p1.auto := ⟨_, rfl⟩
      rw [← haft] at HAF HFIN
      obtain ⟨ar, ac, ab⟩ := aft
      generalize p1.auto = au at *
      clear hp3 ht3 he3 hn3 hx2 hy2 hnb hok1 hfit r0 r1 k0 k1 hk hc hkl hcw hq hl g1 g2 hsl hgetD HROOM HROOM2 HPP HPA HNE haft c0 c4
      go_upto_region 7 with fail
      refine region_begin3 (fun w' => w'.cell? ⟨π, 1, none⟩ = some (.int .i64 (k : Int)) ∧ w'.cell? ⟨π, 2, none⟩ = some (.int .i64 (c : Int))) (fun _ => false) 13 rfl hmx (by intro _ _ d _ _ h; cases d <;> exact h) fun hQP => ?_
      have hS : w3.drew.cell? ⟨π, 1, none⟩ = some (.int .i64 (k : Int)) ∧ w3.drew.cell? ⟨π, 2, none⟩ = some (.int .i64 (c : Int)) := ⟨c1, c2⟩
      have HB4 : Hid (Below w3.heap.size w3 w3.drew) := Lib.hid ((Below.refl _ _).drew)
      clear c1 c2
      generalize w3.drew = w4 at *
      refine take_f 0 26 rfl rfl (by kernel_rfl) (by kernel_rfl) (by kernel_rfl) (by kernel_rfl) hQP hS (.inl ⟨by kernel_rfl, fun w' hw' => by obtain ⟨e0, e1⟩ := hw'; go_simp; try with_reducible rfl⟩) ?_
      refine take_f 1 27 rfl rfl (by kernel_rfl) (by kernel_rfl) (by kernel_rfl) (by kernel_rfl) hQP hS (.inl ⟨by kernel_rfl, fun w' hw' => by obtain ⟨e0, e1⟩ := hw'; go_simp; try with_reducible rfl⟩) ?_
      refine take_f 2 28 rfl rfl (by kernel_rfl) (by kernel_rfl) (by kernel_rfl) (by kernel_rfl) hQP hS (.inl ⟨by kernel_rfl, fun w' hw' => by obtain ⟨e0, e1⟩ := hw'; go_simp; try with_reducible rfl⟩) ?_
      refine take_f 3 29 rfl rfl (by kernel_rfl) (by kernel_rfl) (by kernel_rfl) (by kernel_rfl) hQP hS (.inl ⟨by kernel_rfl, fun w' hw' => by obtain ⟨e0, e1⟩ := hw'; go_simp; try with_reducible rfl⟩) ?_
      refine take_f 4 30 rfl rfl (by kernel_rfl) (by kernel_rfl) (by kernel_rfl) (by kernel_rfl) hQP hS (.inl ⟨by kernel_rfl, fun w' hw' => by obtain ⟨e0, e1⟩ := hw'; go_simp; try with_reducible rfl⟩) ?_
      refine take_f 5 31 rfl rfl (by kernel_rfl) (by kernel_rfl) (by kernel_rfl) (by kernel_rfl) hQP hS (.inl ⟨by kernel_rfl, fun w' hw' => by obtain ⟨e0, e1⟩ := hw'; go_simp; try with_reducible rfl⟩) ?_
      refine take_f 6 32 rfl rfl (by kernel_rfl) (by kernel_rfl) (by kernel_rfl) (by kernel_rfl) hQP hS (.inl ⟨by kernel_rfl, fun w' hw' => by obtain ⟨e0, e1⟩ := hw'; go_simp; try with_reducible rfl⟩) ?_
      refine take_f 7 33 rfl rfl (by kernel_rfl) (by kernel_rfl) (by kernel_rfl) (by kernel_rfl) hQP hS (.inl ⟨by kernel_rfl, fun w' hw' => by obtain ⟨e0, e1⟩ := hw'; go_simp; try with_reducible rfl⟩) ?_
      refine take_f 8 34 rfl rfl (by kernel_rfl) (by kernel_rfl) (by kernel_rfl) (by kernel_rfl) hQP hS (.inl ⟨by kernel_rfl, fun w' hw' => by obtain ⟨e0, e1⟩ := hw'; go_simp; try with_reducible rfl⟩) ?_
      refine take_f 9 35 rfl rfl (by kernel_rfl) (by kernel_rfl) (by kernel_rfl) (by kernel_rfl) hQP hS (.inl ⟨by kernel_rfl, fun w' hw' => by obtain ⟨e0, e1⟩ := hw'; go_simp; try with_reducible rfl⟩) ?_
      refine take_f 10 36 rfl rfl (by kernel_rfl) (by kernel_rfl) (by kernel_rfl) (by kernel_rfl) hQP hS (.inl ⟨by kernel_rfl, fun w' hw' => by obtain ⟨e0, e1⟩ := hw'; go_simp; try with_reducible rfl⟩) ?_
      try simp only [List.setIfInBounds_toArray, List.set_cons_succ, List.set_cons_zero]
      refine take_one (i := 11) (by kernel_rfl) rfl rfl fun KQ hK => ?_
      go_wp2_with fail
      have T5 : Turn (fun _ => False) w4 (w4.alloc (.cells (curA 0 0 false) 36)) := Turn.alloc _ _ _
      have hnew := heap_alloc_new w4 (.cells (curA 0 0 false) 36)
      have hS : (w4.alloc (.cells (curA 0 0 false) 36)).cell? ⟨π, 1, none⟩ = some (.int .i64 (k : Int)) ∧ (w4.alloc (.cells (curA 0 0 false) 36)).cell? ⟨π, 2, none⟩ = some (.int .i64 (c : Int)) := ⟨T5.cell hS.1 id, T5.cell hS.2 id⟩
      have HB5 : Hid (Below w3.heap.size w3 (w4.alloc (.cells (curA 0 0 false) 36)) ∧ w3.heap.size ≤ w4.heap.size) := Lib.hid ⟨HB4.out.alloc HB4.out.size _, HB4.out.size⟩
      refine hK _ _ (.inr hS) ?_
      clear hK T5
      have hπn : ¬ π = w4.heap.size := by have := HB5.out.2; have := HP3.out.typ.lt; omega
      generalize w4.heap.size = nb at *
      generalize (w4.alloc (.cells (curA 0 0 false) 36)) = w5 at *
      try simp only [List.setIfInBounds_toArray, List.set_cons_succ, List.set_cons_zero]
      have TR := turn_setRow w5 nb (curA (k : Int) (c : Int) false)
      have hSn : (w5.setRow nb (curA (k : Int) (c : Int) false)).cell? ⟨π, 1, none⟩ = some (.int .i64 (k : Int)) ∧ (w5.setRow nb (curA (k : Int) (c : Int) false)).cell? ⟨π, 2, none⟩ = some (.int .i64 (c : Int)) := ⟨TR.cell hS.1 hπn, TR.cell hS.2 hπn⟩
      refine take_store_row 12 (by kernel_rfl) rfl rfl rfl 36 (.tmp 7) (.tmp 36) rfl nb (curA (k : Int) (c : Int) false) (by rfl) (by rfl) 36 (curA 0 0 false) hnew (size_cur _ _ _) rfl (one_cur _ _ _) (.inr hSn) ?_
      have HN6 := Lib.hid (setRow_heap w5 nb _ (curA (k : Int) (c : Int) false) 36 (0, 0) hnew)
      have HB6 : Hid (Below w3.heap.size w3 (w5.setRow nb (curA (k : Int) (c : Int) false)) ∧ w3.heap.size ≤ nb) := Lib.hid ⟨HB5.out.1.trans ((turn_setRow w5 nb _).below HB5.out.1.size (fun j e => by rw [e]; exact HB5.out.2)), HB5.out.2⟩
      clear hnew HB5 HB4 hS hSn TR
      generalize (w5.setRow nb (curA (k : Int) (c : Int) false)) = w6 at *
      refine take_done (by kernel_rfl) ?_ _
      try simp only [List.setIfInBounds_toArray, List.set_cons_succ, List.set_cons_zero]
      have hpl := HP3.out.typ.lt
      have T6 : Turn (fun _ => False) w3 w6 := Turn.of_new HB6.out.1
      have p0 := T6.cell C0.out id
      obtain ⟨n0, n1, _⟩ := cells3 HN6.out
      have HRI6 := Lib.hid (HRI.out _ HB6.out.1.drew)
      have HMP6 := Lib.hid (HMP.out _ HB6.out.1.drew)
      clear T6 HRI HMP
      go_upto_region 8 with fail
      refine region_begin3 (fun w' => w'.cell? ⟨π, 0, none⟩ = some (ptr γ2) ∧ w'.cell? ⟨nb, 0, none⟩ = some (.int .i64 (k : Int)) ∧ w'.cell? ⟨nb, 1, none⟩ = some (.int .i64 (c : Int))) (fun _ => false) 12 rfl hmx (by intro _ _ d _ _ h; cases d <;> exact h) fun hQP => ?_
      have hS : w6.drew.cell? ⟨π, 0, none⟩ = some (ptr γ2) ∧ w6.drew.cell? ⟨nb, 0, none⟩ = some (.int .i64 (k : Int)) ∧ w6.drew.cell? ⟨nb, 1, none⟩ = some (.int .i64 (c : Int)) := ⟨p0, n0, n1⟩
      have HB7 : Hid (Below w3.heap.size w3 w6.drew) := Lib.hid HB6.out.1.drew
      have HN7 : Hid (w6.drew.heap[nb]? = some (.cells (curA (k : Int) (c : Int) false) 36 (0, 0))) := Lib.hid HN6.out
      clear p0 n0 n1 HN6
      generalize w6.drew = w7 at *
      refine take_f 0 37 rfl rfl (by kernel_rfl) (by kernel_rfl) (by kernel_rfl) (by kernel_rfl) hQP hS (.inl ⟨by kernel_rfl, fun w' hw' => by obtain ⟨e0, e1, e2⟩ := hw'; go_simp; try with_reducible rfl⟩) ?_
      refine take_f 1 38 rfl rfl (by kernel_rfl) (by kernel_rfl) (by kernel_rfl) (by kernel_rfl) hQP hS (.inl ⟨by kernel_rfl, fun w' hw' => by obtain ⟨e0, e1, e2⟩ := hw'; go_simp; try with_reducible rfl⟩) ?_
      refine take_f 2 39 rfl rfl (by kernel_rfl) (by kernel_rfl) (by kernel_rfl) (by kernel_rfl) hQP hS (.inl ⟨by kernel_rfl, fun w' hw' => by obtain ⟨e0, e1, e2⟩ := hw'; go_simp; try with_reducible rfl⟩) ?_
      refine take_f 3 40 rfl rfl (by kernel_rfl) (by kernel_rfl) (by kernel_rfl) (by kernel_rfl) hQP hS (.inl ⟨by kernel_rfl, fun w' hw' => by obtain ⟨e0, e1, e2⟩ := hw'; go_simp; try with_reducible rfl⟩) ?_
      refine take_f 4 41 rfl rfl (by kernel_rfl) (by kernel_rfl) (by kernel_rfl) (by kernel_rfl) hQP hS (.inl ⟨by kernel_rfl, fun w' hw' => by obtain ⟨e0, e1, e2⟩ := hw'; go_simp; try with_reducible rfl⟩) ?_
      refine take_f 5 42 rfl rfl (by kernel_rfl) (by kernel_rfl) (by kernel_rfl) (by kernel_rfl) hQP hS (.inl ⟨by kernel_rfl, fun w' hw' => by obtain ⟨e0, e1, e2⟩ := hw'; go_simp; try with_reducible rfl⟩) ?_
      refine take_f 7 44 rfl rfl (by kernel_rfl) (by kernel_rfl) (by kernel_rfl) (by kernel_rfl) hQP hS (.inl ⟨by kernel_rfl, fun w' hw' => by obtain ⟨e0, e1, e2⟩ := hw'; go_simp; try with_reducible rfl⟩) ?_
      refine take_f 8 45 rfl rfl (by kernel_rfl) (by kernel_rfl) (by kernel_rfl) (by kernel_rfl) hQP hS (.inl ⟨by kernel_rfl, fun w' hw' => by obtain ⟨e0, e1, e2⟩ := hw'; go_simp; try with_reducible rfl⟩) ?_
      refine take_f 9 46 rfl rfl (by kernel_rfl) (by kernel_rfl) (by kernel_rfl) (by kernel_rfl) hQP hS (.inl ⟨by kernel_rfl, fun w' hw' => by obtain ⟨e0, e1, e2⟩ := hw'; go_simp; try with_reducible rfl⟩) ?_
      refine take_f 10 47 rfl rfl (by kernel_rfl) (by kernel_rfl) (by kernel_rfl) (by kernel_rfl) hQP hS (.inl ⟨by kernel_rfl, fun w' hw' => by obtain ⟨e0, e1, e2⟩ := hw'; go_simp; try with_reducible rfl⟩) ?_
      try simp only [List.setIfInBounds_toArray, List.set_cons_succ, List.set_cons_zero]
      refine take_g (i := 6) (by kernel_rfl) rfl (by kernel_rfl) fun KQ hK => ?_
      go_wp2_with fail
      refine HRI6.out.mono ?_
      rintro e wx ⟨rfl, rfl⟩
      refine hK _ _ (.inr hS) ?_
      clear hK HRI6
      try simp only [List.setIfInBounds_toArray, List.set_cons_succ, List.set_cons_zero]
      refine take_g (i := 11) (by kernel_rfl) rfl (by kernel_rfl) fun KQ hK => ?_
      go_wp2_with fail
      refine HMP6.out.mono ?_
      rintro e w8 ⟨rfl, hp8, ht8⟩
      have HP8 := Lib.hid hp8
      have HT8 : Hid (Turn X2 w7 w8) := Lib.hid (ht8.mono (fun b _ e => by
        obtain ⟨_, _, _, x1, x2⟩ := HQN.out
        rcases e with e | e <;> rw [e]
        · exact x1
        · exact x2))
      have HN8 : Hid (w8.heap[nb]? = some (.cells (curA (k : Int) (c : Int) false) 36 (0, 0))) := Lib.hid (ht8.heap HN7.out (fun e => by
        obtain ⟨_, x1, x2, _⟩ := HQN.out
        have := HB6.out.2
        rcases e with e | e <;> omega))
      have hnq : ¬ (nb = q.1 ∨ nb = q.2) := fun e => by
        obtain ⟨_, x1, x2, _⟩ := HQN.out
        have := HB6.out.2
        rcases e with e | e <;> omega
      have hS : w8.cell? ⟨π, 0, none⟩ = some (ptr γ2) ∧ w8.cell? ⟨nb, 0, none⟩ = some (.int .i64 (k : Int)) ∧ w8.cell? ⟨nb, 1, none⟩ = some (.int .i64 (c : Int)) := ⟨ht8.cell hS.1 HQN.out.1, ht8.cell hS.2.1 hnq, ht8.cell hS.2.2 hnq⟩
      refine hK _ _ (.inr hS) ?_
      clear hK hp8 ht8 hS HN7 HMP6 hnq
      refine take_done (by kernel_rfl) ?_ _
      try simp only [List.setIfInBounds_toArray, List.set_cons_succ, List.set_cons_zero]
      have HWD8 := Lib.hid (HWD.out w8.drew (HP8.out.below (Below.refl _ _).drew))
      have p0 := HP8.out.cells.1
      have p4 := HP8.out.cells.2.2.2.2.1
      have HFI : Hid (∀ w9, Below w8.heap.size w8 w9 → PenIs (curW w9 π ar ac ab) X2 π γ2 β2 Q2 pp W) := Lib.hid fun w9 hb => HFIN.out w9 ar ac ab (HP8.out.below hb) rfl
      have HFR : Hid (∀ w9 j, Below w8.heap.size w8 w9 → w9.frozen? ⟨π, j, none⟩ = false) := Lib.hid fun w9 j hb => (HP8.out.below hb).cells.2.2.2.2.2 j
      have hπ8 := HP8.out.typ.lt
      have HNL : Hid (nb < w8.heap.size ∧ ¬ π = nb) := Lib.hid ⟨(Array.getElem?_eq_some_iff.1 HN8.out).1, hπn⟩
      simp only at p4
      go_upto_region 9 with fail
      refine region_begin3 (fun w' => w'.heap[nb]? = some (.cells (curA (k : Int) (c : Int) false) 36 (0, 0)) ∧ w'.cell? ⟨π, 0, none⟩ = some (ptr γ2) ∧ w'.cell? ⟨π, 4, none⟩ = some (.bool au)) (fun j => j == 15) 16 rfl hmx (by intro _ _ d _ _ h; cases d <;> exact h) fun hQP => ?_
      have hS : w8.drew.heap[nb]? = some (.cells (curA (k : Int) (c : Int) false) 36 (0, 0)) ∧ w8.drew.cell? ⟨π, 0, none⟩ = some (ptr γ2) ∧ w8.drew.cell? ⟨π, 4, none⟩ = some (.bool au) := ⟨HN8.out, p0, p4⟩
      have HB9 : Hid (Below w8.heap.size w8 w8.drew) := Lib.hid (Below.refl _ _).drew
      clear p0 p4 HFIN HWD HN8
      generalize w8.drew = w9 at *
      refine take_f 0 49 rfl rfl (by kernel_rfl) (by kernel_rfl) (by kernel_rfl) (by kernel_rfl) hQP hS (.inl ⟨by kernel_rfl, fun w' hw' => by obtain ⟨e0, e1, e2⟩ := hw'; go_simp; try with_reducible rfl⟩) ?_
      refine take_f 2 51 rfl rfl (by kernel_rfl) (by kernel_rfl) (by kernel_rfl) (by kernel_rfl) hQP hS (.inl ⟨by kernel_rfl, fun w' hw' => by obtain ⟨e0, e1, e2⟩ := hw'; go_simp; try with_reducible rfl⟩) ?_
      refine take_f 3 52 rfl rfl (by kernel_rfl) (by kernel_rfl) (by kernel_rfl) (by kernel_rfl) hQP hS (.inl ⟨by kernel_rfl, fun w' hw' => by obtain ⟨e0, e1, e2⟩ := hw'; go_simp; try with_reducible rfl⟩) ?_
      refine take_f 4 53 rfl rfl (by kernel_rfl) (by kernel_rfl) (by kernel_rfl) (by kernel_rfl) hQP hS (.inl ⟨by kernel_rfl, fun w' hw' => by obtain ⟨e0, e1, e2⟩ := hw'; go_simp; try with_reducible rfl⟩) ?_
      refine take_f 5 54 rfl rfl (by kernel_rfl) (by kernel_rfl) (by kernel_rfl) (by kernel_rfl) hQP hS (.inl ⟨by kernel_rfl, fun w' hw' => by obtain ⟨e0, e1, e2⟩ := hw'; go_simp; try with_reducible rfl⟩) ?_
      refine take_f 6 55 rfl rfl (by kernel_rfl) (by kernel_rfl) (by kernel_rfl) (by kernel_rfl) hQP hS (.inl ⟨by kernel_rfl, fun w' hw' => by obtain ⟨e0, e1, e2⟩ := hw'; go_simp; try with_reducible rfl⟩) ?_
      refine take_f 8 57 rfl rfl (by kernel_rfl) (by kernel_rfl) (by kernel_rfl) (by kernel_rfl) hQP hS (.inl ⟨by kernel_rfl, fun w' hw' => by obtain ⟨e0, e1, e2⟩ := hw'; go_simp; try with_reducible rfl⟩) ?_
      refine take_f 9 58 rfl rfl (by kernel_rfl) (by kernel_rfl) (by kernel_rfl) (by kernel_rfl) hQP hS (.inl ⟨by kernel_rfl, fun w' hw' => by obtain ⟨e0, e1, e2⟩ := hw'; go_simp; try with_reducible rfl⟩) ?_
      refine take_f 10 59 rfl rfl (by kernel_rfl) (by kernel_rfl) (by kernel_rfl) (by kernel_rfl) hQP hS (.inl ⟨by kernel_rfl, fun w' hw' => by obtain ⟨e0, e1, e2⟩ := hw'; go_simp; try with_reducible rfl⟩) ?_
      refine take_f 11 60 rfl rfl (by kernel_rfl) (by kernel_rfl) (by kernel_rfl) (by kernel_rfl) hQP hS (.inl ⟨by kernel_rfl, fun w' hw' => by obtain ⟨e0, e1, e2⟩ := hw'; go_simp; try with_reducible rfl⟩) ?_
      try simp only [List.setIfInBounds_toArray, List.set_cons_succ, List.set_cons_zero]
      refine take_f 1 50 rfl rfl (by kernel_rfl) (by kernel_rfl) (by kernel_rfl) (by kernel_rfl) hQP hS (yields_load_row 36 (.tmp 7) rfl (by kernel_rfl) nb (by rfl) _ (curA (k : Int) (c : Int) false) _ _ (fun w' hw' => hw'.1) Tryz.underlying36 rfl (size_cur _ _ _)) ?_
      try simp only [List.setIfInBounds_toArray, List.set_cons_succ, List.set_cons_zero]
      refine take_g (i := 7) (by kernel_rfl) rfl (by kernel_rfl) fun KQ hK => ?_
      go_wp2_with fail
      refine HWD8.out.mono ?_
      rintro e wx ⟨rfl, rfl⟩
      refine hK _ _ (.inr hS) ?_
      clear hK HWD8
      refine take_g (i := 12) (by kernel_rfl) rfl (by kernel_rfl) fun KQ hK => ?_
      go_wp2_with fail
      refine (HAF.out _).mono ?_
      rintro e w10 ⟨rfl, hb10⟩
      have T10 : Turn (fun _ => False) w9 w10 := Turn.of_new hb10
      have hS : w10.heap[nb]? = some (.cells (curA (k : Int) (c : Int) false) 36 (0, 0)) ∧ w10.cell? ⟨π, 0, none⟩ = some (ptr γ2) ∧ w10.cell? ⟨π, 4, none⟩ = some (.bool au) := ⟨T10.heap hS.1 id, T10.cell hS.2.1 id, T10.cell hS.2.2 id⟩
      have HB10 : Hid (Below w8.heap.size w8 w10) := Lib.hid (HB9.out.trans (hb10.mono HB9.out.size))
      refine hK _ _ (.inr hS) ?_
      clear hK HAF HB9 T10 hb10
      refine take_g (i := 13) (by kernel_rfl) rfl (by kernel_rfl) fun KQ hK => ?_
      go_wp2_with fail
      refine hK _ _ (.inr hS) ?_
      clear hK
      refine take_f 14 63 rfl rfl (by kernel_rfl) (by kernel_rfl) (by kernel_rfl) (by kernel_rfl) hQP hS (.inl ⟨by kernel_rfl, fun w' hw' => by obtain ⟨e0, e1, e2⟩ := hw'; go_simp; try with_reducible rfl⟩) ?_
      try simp only [List.setIfInBounds_toArray, List.set_cons_succ, List.set_cons_zero]
      have y1 := HFR.out w10 1 HB10.out
      have y2 := HFR.out w10 2 HB10.out
      have y3 := HFR.out w10 3 HB10.out
      obtain ⟨_, x1, x2, x3, _, _⟩ := (HP8.out.below HB10.out).cells
      have HNB10 := Lib.hid hS.1
      refine take_g (i := 15) (by kernel_rfl) rfl (by kernel_rfl) fun KQ hK => ?_
      go_wp2_with fail
      have T11 := curW_turn w10 π ar ac ab
      have HP11 := Lib.hid (HFI.out w10 HB10.out)
      have HN11 := Lib.hid (T11.heap HNB10.out (fun e => HNL.out.2 e.symm))
      have HT11 : Hid (Turn X2 w3 (curW w10 π ar ac ab)) := Lib.hid (by
        have a : Turn X2 w3 w7 := (Turn.of_new HB7.out : Turn (fun _ => False) w3 w7).mono (fun _ _ h => h.elim)
        have b : Turn X2 w8 w10 := (Turn.of_new HB10.out : Turn (fun _ => False) w8 w10).mono (fun _ _ h => h.elim)
        exact ((a.trans HT8.out).trans b).trans (T11.mono (fun b _ e => by rw [e]; exact HP3.out.xπ)))
      refine hK _ _ (.inl rfl) ?_
      clear hK hS x1 x2 x3 y1 y2 y3 T11 HFI HFR HNB10 HB10 HB7 HT8 HP8
      have hw : ((w10.setCell ⟨π, 1, none⟩ (.int .i64 ar)).setCell ⟨π, 2, none⟩ (.int .i64 ac)).setCell ⟨π, 3, none⟩ (.bool ab) = curW w10 π ar ac ab := rfl
      first | rw [hw] | skip
      clear hw
      generalize curW w10 π ar ac ab = w11 at *
      refine take_done (by kernel_rfl) ?_ _
      try simp only [List.setIfInBounds_toArray, List.set_cons_succ, List.set_cons_zero]
      have he11 := HT11.out.heap HE3.out HNB.out
      have HF : Hid (PenTo w X π pp W (w11.setRow w.heap.size (curA (k : Int) (c : Int) false))) := Lib.hid (by
        have TR := turn_setRow w11 w.heap.size (curA (k : Int) (c : Int) false)
        have hfr : Free (fun b => b = w.heap.size) w11 21 := fun b e _ => by
          subst e
          exact Typ.not ⟨_, _, he11⟩ (by decide)
        refine ⟨X2, ⟨γ2, β2, Q2, HP11.out.turn TR hfr (fun b hb e => HNB.out (e ▸ hb))⟩, HX2.out, ?_⟩
        have a : Turn (fun b => X b ∨ w.heap.size ≤ b) w w3 := HN3.out.mono (fun _ _ e => .inl e)
        have b : Turn (fun b => X b ∨ w.heap.size ≤ b) w3 w11 := HT11.out.mono (fun b _ e => HX2.out b e)
        exact ((a.trans b).trans (TR.mono (fun b _ e => .inr (by omega)))).mono (fun b hb e => e.elim id (fun e => by omega)))
      have HR := Lib.hid (setRow_heap w11 w.heap.size _ (curA (k : Int) (c : Int) false) 36 (0, 0) he11)
      go_wp2_with (first
        | (refine wpList_load_row rfl 36 _ rfl nb rfl _ (curA (k : Int) (c : Int) false) (0, 0) _ HN11.out Tryz.underlying36 rfl (size_cur _ _ _) ?_)
        | (refine wpList_store_row rfl 36 _ _ rfl w.heap.size (curA (k : Int) (c : Int) false) rfl rfl _ _ he11 (size_cur _ _ _) rfl (one_cur _ _ _) ?_))
      refine bodyPost_ret (results_cell_row rfl _ _ w.heap.size 36 _ (0, 0) _ rfl HR.out Tryz.underlying36 rfl (size_cur _ _ _)) rfl ?_
      exact ⟨by rw [HPA2.out], HF.out⟩

/-- TO PUT A CLUSTER -/
theorem put_pen (X : Nat → Prop) (π W : Nat) (wide : Int) (p : PenC) (v : Value) (t : List Int) (w : World) (h : PenAt w X π p W) (hok : PenOK p W) (hw : wide = 1 ∨ wide = 2) (ht : TxtAt w v t) (hne : t ≠ []) (hv : VarsX w X) :
    Calls Tryz.prog 113 #[ptr π, .int .i64 wide, v] w fun e w' => e = .returned (curV (putA p wide W)) ∧ PenTo w X π (putP p wide t W) W w' := by
  obtain ⟨X0, h0, h1, h2⟩ := h.exact
  exact (put_exact X0 π W wide p v t w h0 h2 hok hw ht hne (hv.sub h1)).mono fun e w' ⟨a, b⟩ => ⟨a, b.wide h1⟩
end Go.Proofs.YtjicdcmdgbcdcaaGreatDoor.Scr
end
section
namespace Go.Proofs.YtjicdcmdgbcdcaaGreatDoor.Scr
set_option linter.unusedSimpArgs false
set_option linter.unusedVariables false
open Go Go.RowKit Mem Turn Ring

/-- cells that nobody writes: told by their blocks' types -/
def CellsT (w : World) (v : Value) (cs : List CellC) : Prop := CellsAt (fun b => Typ w 80 b ∨ Typ w 21 b) False w v cs
theorem CellsT.turn {w w' : World} {T : Nat → Prop} {v : Value} {cs : List CellC} (h : CellsT w v cs) (ht : Turn T w w') (h1 : Free T w 80) (h2 : Free T w 21) : CellsT w' v cs := by
  have hn : ∀ b, (Typ w 80 b ∨ Typ w 21 b) → b < w.heap.size → ¬ T b := fun b hb hl hT => hb.elim (h1 b hT hl) (h2 b hT hl)
  obtain ⟨a, c, e1, e2, e3, e4⟩ := h
  refine ⟨a, c, e1, e2, e3, e4.imp id fun ⟨b, off, e, hb, hd, hc⟩ => ⟨b, off, e, Nat.lt_of_lt_of_le hb ht.size, hd.imp (fun x => x.turn ht (hn b hd hb)) (fun x => x.turn ht (hn b hd hb)), fun j x hx => ?_⟩⟩
  obtain ⟨g1, g2, tv, g3, g4⟩ := hc j x hx
  refine ⟨ht.cell g1 (hn b hd hb), fun f => f.elim, tv, ht.cell g3 (hn b hd hb), ?_⟩
  obtain ⟨a', c', k1, k2, k3, k4⟩ := g4
  refine ⟨a', c', k1, k2, k3, k4.imp id fun ⟨b, off, e, hb, hd, hc⟩ => ⟨b, off, e, Nat.lt_of_lt_of_le hb ht.size, hd.imp (fun x => x.turn ht (hn b hd hb)) (fun x => x.turn ht (hn b hd hb)), fun j x hx => ⟨ht.cell (hc j x hx).1 (hn b hd hb), fun f => f.elim⟩⟩⟩
theorem CellsT.any {w : World} {v : Value} {cs : List CellC} (h : CellsT w v cs) : CellsAt (fun _ => True) False w v cs := CellsAt.mono h (fun _ _ _ => trivial)
theorem OwnCells.typ {B : Nat} {w : World} {v : Value} {cs : List CellC} (h : OwnCells B w v cs) (hs : cs.length ≤ 100000) : CellsT w v cs := by
  obtain ⟨rs, h1, h2⟩ := h
  have hty : ∀ g, v.ownBlock = some g → Typ w 80 g := fun g hg => owns_typ h1 hg
  obtain ⟨a, c, rfl, h3, h4⟩ := own_form h1
  refine ⟨a, c, rfl, h3, by omega, h4.imp id fun ⟨g, e, e2, hb, hg, hf, hc⟩ => ⟨g, 0, e, hg, .inl (hty g e2), fun j x hx => ?_⟩⟩
  obtain ⟨r, hr⟩ : ∃ r, rs[j]? = some r := ⟨_, List.getElem?_eq_getElem (by rw [h2.1]; exact (List.getElem?_eq_some_iff.1 hx).1)⟩
  obtain ⟨e1, e3⟩ := h2.2 j r x hr hx
  obtain ⟨g1, g2⟩ := flatC_get hr
  rw [Nat.zero_add]
  exact ⟨by rw [← e1]; exact hc _ _ g1, fun f => f.elim, r.2, hc _ _ g2, TextAt.mono e3 (fun b hb _ => .inr hb)⟩
/-- rows of lines -/
def LinesOf (w : World) (rs : List (Value × Bool)) (ls : List LineC) : Prop :=
  rs.length = ls.length ∧ ∀ (j : Nat) (r : Value × Bool) (x : LineC), rs[j]? = some r → ls[j]? = some x → r.2 = x.2 ∧ CellsT w r.1 x.1
theorem LinesOf.turn {w w' : World} {T : Nat → Prop} {rs : List (Value × Bool)} {ls : List LineC} (h : LinesOf w rs ls) (ht : Turn T w w') (h1 : Free T w 80) (h2 : Free T w 21) : LinesOf w' rs ls :=
  ⟨h.1, fun j r x hr hx => ⟨(h.2 j r x hr hx).1, (h.2 j r x hr hx).2.turn ht h1 h2⟩⟩
theorem LinesOf.snoc {w : World} {rs : List (Value × Bool)} {ls : List LineC} {v : Value} {l : LineC} (h : LinesOf w rs ls) (hv : CellsT w v l.1) : LinesOf w (rs ++ [(v, l.2)]) (ls ++ [l]) := by
  refine ⟨by simp [h.1], fun j r x hr hx => ?_⟩
  by_cases hj : j < rs.length
  · rw [List.getElem?_append_left hj] at hr
    rw [List.getElem?_append_left (by rw [← h.1]; exact hj)] at hx
    exact h.2 j r x hr hx
  · have hj2 := (List.getElem?_eq_some_iff.1 hr).1
    simp at hj2
    have : j = rs.length := by omega
    subst this
    rw [List.getElem?_append_right (Nat.le_refl _), Nat.sub_self] at hr
    rw [List.getElem?_append_right (by rw [h.1]; exact Nat.le_refl _), h.1, Nat.sub_self] at hx
    simp at hr hx
    subst hr hx
    exact ⟨rfl, hv⟩
/-- the lines of a view, all of their own -/
def OwnLines (B : Nat) (w : World) (v : Value) (ls : List LineC) : Prop := ∃ rs, w.ownsRow B 45 2 v ls.length (flatL rs) ∧ LinesOf w rs ls

set_option maxRecDepth 100000 in
set_option maxHeartbeats 16000000 in
theorem lines_any (γ β W : Nat) (X : Nat → Prop) (Q : List (Nat × Nat)) (L : List LineC) (w : World) (h : GridAt w γ β (Q.map (·.1))) (hr : RowsAt w X Q L W) (hW : W ≤ 1024) :
    Calls Tryz.prog 38 #[ptr γ] w fun e w' => ∃ v, e = .returned v ∧ OwnLines w.heap.size w' v L ∧ Below w.heap.size w w' := by
  have hmx : Tryz.prog.follows .mixedOrders = true := by kernel_rfl
  obtain ⟨i0, hi, hz0, hz1, hz2⟩ := info_parts info_line
  have hln : (Q.map (·.1)).length = L.length := by rw [List.length_map, hr.len]
  have HH : Hid (Calls Tryz.prog 37 #[ptr γ] w fun e w' => e = .returned (.int .i64 (L.length : Int)) ∧ w = w') := Lib.hid (by
    have := high_any γ β _ w h
    rw [hln] at this
    exact this)
  have hle : L.length ≤ 1024 := by have := h.le; rw [hln] at this; exact this
  have HG := Lib.hid h
  have HR := Lib.hid hr
  have HHD : Hid (∃ c, L.length ≤ c ∧ w.cell? ⟨γ, 0, none⟩ = some (.slice (some ⟨β, 0, none⟩) L.length c)) := Lib.hid (by
    obtain ⟨⟨c, h3, h4⟩, _⟩ := h
    rw [hln] at h3 h4
    exact ⟨c, h3, by simp [World.cell?, h4]⟩)
  obtain ⟨n, hn⟩ : ∃ n, n = L.length := ⟨_, rfl⟩
  have HN := Lib.hid hn
  rw [← hn] at HH hle HHD
  clear h hr hln hn
  go_enter Tryz.func38, Tryz.ntmps38
  go_wp2_with fail
  refine HH.out.mono ?_
  rintro e w1 ⟨rfl, rfl⟩
  go_wp2_with fail
  go_loopg [3, 4, 7] n (fun gg v3 v4 i wx => ∃ k : Nat, n - k = gg ∧ k ≤ n ∧ i = .int .i64 k ∧ Hid (∃ rs, wx.ownsRow w.heap.size 45 2 v3 k (flatL rs) ∧ LinesOf wx rs (L.take k) ∧ Below w.heap.size w wx))
  case atStart => exact ⟨0, rfl, Nat.zero_le _, rfl, Lib.hid ⟨[], World.ownsRow_nil _ _ _ _, ⟨rfl, fun j r x hr _ => by cases hr⟩, Below.refl _ _⟩⟩
  case round =>
    obtain ⟨k, rfl, hk, rfl, H⟩ := hrel
    obtain ⟨rs, ho, hl, hb⟩ := H.out
    obtain ⟨av, cv, hav⟩ := Turn.own_slice ho
    subst hav
    by_cases hlt : k < n
    · have hlt' : (k : Int) < (n : Int) := by omega
      have T0 : Turn (fun _ => False) w wr := Turn.of_new hb
      obtain ⟨cc, hcc, g0⟩ := HHD.out
      have g0 := T0.cell g0 id
      obtain ⟨q, hq⟩ : ∃ q, Q[k]? = some q := ⟨_, List.getElem?_eq_getElem (by rw [HR.out.len, ← HN.out]; exact hlt)⟩
      obtain ⟨l, hlq, g1, g2, _, _⟩ := HR.out.line hq
      have g3 := T0.cell (HG.out.cell (i := k) (ρ := q.1) (by rw [List.getElem?_map, hq]; rfl)).1 id
      have g1 := g1.turn T0 (Free.no _ _) id id
      have HTK : Hid (L.take (k + 1) = L.take k ++ [l]) := Lib.hid (by rw [List.take_add_one, hlq]; rfl)
      have HCE := Lib.hid (cells_any q.1 q.2 l wr.drew (g1.turn (Turn.drew (fun _ => False) wr) (Free.no _ _) id id))
      have HWR : Hid (∀ w', Below wr.heap.size wr w' → Calls Tryz.prog 79 #[ptr q.1] w' fun e w2 => e = .returned (.bool l.2) ∧ w' = w2) := Lib.hid fun w' hb => wrap_any q.1 q.2 l w' (g1.turn (Turn.of_new hb : Turn (fun _ => False) wr w') (Free.no _ _) id id)
      have HO := Lib.hid ho
      have HL := Lib.hid hl
      have HB := Lib.hid hb
      have HGL : Hid (l.1.length ≤ 1024) := Lib.hid g1.le
      have hsz := hb.size
      obtain ⟨ρ, κ⟩ := q
      simp only at g3 HCE HWR
      clear ho hl hb T0 hq hlq g1 g2 H
      go_upto_region 5 with fail
      refine region_begin3 (fun w' => w'.cell? ⟨γ, 0, none⟩ = some (.slice (some ⟨β, 0, none⟩) n cc) ∧ w'.cell? ⟨β, k, none⟩ = some (ptr ρ)) (fun _ => false) 21 rfl hmx (by intro _ _ d _ _ h; cases d <;> exact h) fun hQP => ?_
      have hS : wr.drew.cell? ⟨γ, 0, none⟩ = some (.slice (some ⟨β, 0, none⟩) n cc) ∧ wr.drew.cell? ⟨β, k, none⟩ = some (ptr ρ) := ⟨g0, g3⟩
      have HD : Hid (Below wr.heap.size wr wr.drew ∧ wr.drew.heap.size = wr.heap.size) := Lib.hid ⟨(Below.refl _ _).drew, rfl⟩
      clear g0 g3
      generalize wr.drew = w1 at *
      refine take_f 0 10 rfl rfl (by kernel_rfl) (by kernel_rfl) (by kernel_rfl) (by kernel_rfl) hQP hS (.inl ⟨by kernel_rfl, fun w' hw' => by obtain ⟨e0, e1⟩ := hw'; go_simp; try with_reducible rfl⟩) ?_
      refine take_f 1 11 rfl rfl (by kernel_rfl) (by kernel_rfl) (by kernel_rfl) (by kernel_rfl) hQP hS (.inl ⟨by kernel_rfl, fun w' hw' => by obtain ⟨e0, e1⟩ := hw'; go_simp; try with_reducible rfl⟩) ?_
      refine take_f 2 12 rfl rfl (by kernel_rfl) (by kernel_rfl) (by kernel_rfl) (by kernel_rfl) hQP hS (.inl ⟨by kernel_rfl, fun w' hw' => by obtain ⟨e0, e1⟩ := hw'; go_simp; try with_reducible rfl⟩) ?_
      refine take_f 3 13 rfl rfl (by kernel_rfl) (by kernel_rfl) (by kernel_rfl) (by kernel_rfl) hQP hS (.inl ⟨by kernel_rfl, fun w' hw' => by obtain ⟨e0, e1⟩ := hw'; go_simp; try with_reducible rfl⟩) ?_
      refine take_f 4 14 rfl rfl (by kernel_rfl) (by kernel_rfl) (by kernel_rfl) (by kernel_rfl) hQP hS (.inl ⟨by kernel_rfl, fun w' hw' => by obtain ⟨e0, e1⟩ := hw'; go_simp; try with_reducible rfl⟩) ?_
      refine take_f 5 15 rfl rfl (by kernel_rfl) (by kernel_rfl) (by kernel_rfl) (by kernel_rfl) hQP hS (.inl ⟨by kernel_rfl, fun w' hw' => by obtain ⟨e0, e1⟩ := hw'; go_simp; try with_reducible rfl⟩) ?_
      refine take_f 6 16 rfl rfl (by kernel_rfl) (by kernel_rfl) (by kernel_rfl) (by kernel_rfl) hQP hS (.inl ⟨by kernel_rfl, fun w' hw' => by obtain ⟨e0, e1⟩ := hw'; go_simp; try with_reducible rfl⟩) ?_
      refine take_f 7 17 rfl rfl (by kernel_rfl) (by kernel_rfl) (by kernel_rfl) (by kernel_rfl) hQP hS (.inl ⟨by kernel_rfl, fun w' hw' => by obtain ⟨e0, e1⟩ := hw'; go_simp; try with_reducible rfl⟩) ?_
      refine take_f 9 19 rfl rfl (by kernel_rfl) (by kernel_rfl) (by kernel_rfl) (by kernel_rfl) hQP hS (.inl ⟨by kernel_rfl, fun w' hw' => by obtain ⟨e0, e1⟩ := hw'; go_simp; try with_reducible rfl⟩) ?_
      refine take_f 10 20 rfl rfl (by kernel_rfl) (by kernel_rfl) (by kernel_rfl) (by kernel_rfl) hQP hS (.inl ⟨by kernel_rfl, fun w' hw' => by obtain ⟨e0, e1⟩ := hw'; go_simp; try with_reducible rfl⟩) ?_
      refine take_f 11 21 rfl rfl (by kernel_rfl) (by kernel_rfl) (by kernel_rfl) (by kernel_rfl) hQP hS (.inl ⟨by kernel_rfl, fun w' hw' => by obtain ⟨e0, e1⟩ := hw'; go_simp; try with_reducible rfl⟩) ?_
      refine take_f 12 22 rfl rfl (by kernel_rfl) (by kernel_rfl) (by kernel_rfl) (by kernel_rfl) hQP hS (.inl ⟨by kernel_rfl, fun w' hw' => by obtain ⟨e0, e1⟩ := hw'; go_simp; try with_reducible rfl⟩) ?_
      refine take_f 13 23 rfl rfl (by kernel_rfl) (by kernel_rfl) (by kernel_rfl) (by kernel_rfl) hQP hS (.inl ⟨by kernel_rfl, fun w' hw' => by obtain ⟨e0, e1⟩ := hw'; go_simp; try with_reducible rfl⟩) ?_
      refine take_f 14 24 rfl rfl (by kernel_rfl) (by kernel_rfl) (by kernel_rfl) (by kernel_rfl) hQP hS (.inl ⟨by kernel_rfl, fun w' hw' => by obtain ⟨e0, e1⟩ := hw'; go_simp; try with_reducible rfl⟩) ?_
      refine take_f 15 25 rfl rfl (by kernel_rfl) (by kernel_rfl) (by kernel_rfl) (by kernel_rfl) hQP hS (.inl ⟨by kernel_rfl, fun w' hw' => by obtain ⟨e0, e1⟩ := hw'; go_simp; try with_reducible rfl⟩) ?_
      try simp only [List.setIfInBounds_toArray, List.set_cons_succ, List.set_cons_zero]
      refine take_g (i := 8) (by kernel_rfl) rfl (by kernel_rfl) fun KQ hK => ?_
      go_wp2_with fail
      refine HCE.out.mono ?_
      rintro e w2 ⟨v2, rfl, hv2, hb2⟩
      have T2 : Turn (fun _ => False) w1 w2 := Turn.of_new hb2
      have HB2 : Hid (Below wr.heap.size wr w2) := Lib.hid (HD.out.1.trans (hb2.mono HD.out.1.size))
      have HV2 := Lib.hid (hv2.typ (by have := HGL.out; omega))
      obtain ⟨a2, c2, hve, _⟩ := id HV2.out
      subst hve
      have hS : w2.cell? ⟨γ, 0, none⟩ = some (.slice (some ⟨β, 0, none⟩) n cc) ∧ w2.cell? ⟨β, k, none⟩ = some (ptr ρ) := ⟨T2.cell hS.1 id, T2.cell hS.2 id⟩
      refine hK _ _ (.inr hS) ?_
      clear hK hv2 hb2 T2 HCE
      refine take_g (i := 16) (by kernel_rfl) rfl (by kernel_rfl) fun KQ hK => ?_
      go_wp2_with fail
      refine (HWR.out _ HB2.out).mono ?_
      rintro e wx ⟨rfl, rfl⟩
      refine hK _ _ (.inr hS) ?_
      clear hK HWR
      refine take_f 17 27 rfl rfl (by kernel_rfl) (by kernel_rfl) (by kernel_rfl) (by kernel_rfl) hQP hS (.inl ⟨by kernel_rfl, fun w' hw' => by obtain ⟨e0, e1⟩ := hw'; go_simp; try with_reducible rfl⟩) ?_
      try simp only [List.setIfInBounds_toArray, List.set_cons_succ, List.set_cons_zero]
      refine take_g (i := 18) (by kernel_rfl) rfl (by kernel_rfl) fun KQ hK => ?_
      go_wp2_with fail
      have T3 : Turn (fun _ => False) w2 (w2.alloc (.cells #[.slice a2 l.1.length c2, .bool l.2] 45)) := Turn.alloc _ _ _
      have hS : (w2.alloc (.cells #[.slice a2 l.1.length c2, .bool l.2] 45)).cell? ⟨γ, 0, none⟩ = some (.slice (some ⟨β, 0, none⟩) n cc) ∧ (w2.alloc (.cells #[.slice a2 l.1.length c2, .bool l.2] 45)).cell? ⟨β, k, none⟩ = some (ptr ρ) := ⟨T3.cell hS.1 id, T3.cell hS.2 id⟩
      refine hK _ _ (.inr hS) ?_
      clear hK
      have hnews : ∀ j u, [Value.slice a2 l.1.length c2, .bool l.2][j]? = some u → (w2.alloc (.cells #[.slice a2 l.1.length c2, .bool l.2] 45)).cell? ((⟨w2.heap.size, 0, none⟩ : Addr).add j) = some u := cell_new2 _ _ _ _
      have T23 : Turn (fun _ => False) wr (w2.alloc (.cells #[.slice a2 l.1.length c2, .bool l.2] 45)) := (Turn.of_new HB2.out : Turn (fun _ => False) wr w2).trans T3
      have hown3 := T23.kept HO.out (fun _ _ => id)
      have HL3 := Lib.hid (HL.out.turn T23 (Free.no _ _) (Free.no _ _))
      have HV3 := Lib.hid (HV2.out.turn T3 (Free.no _ _) (Free.no _ _))
      have HB3 := Lib.hid (HB.out.trans (T23.below hsz (fun _ h => h.elim)))
      clear T3 T23
      generalize (w2.alloc (.cells #[.slice a2 l.1.length c2, .bool l.2] 45)) = w3 at *
      refine take_append_at 19 29 (by kernel_rfl) rfl rfl rfl (.tmp 10) (.tmp 28) 34 rfl w.heap.size 45 i0 _ 2 32 Tryz.underlying34 hi hz0 hz1 hz2 rfl (by decide) (.slice av k cv) k (flatL rs) (by rfl) hown3 ⟨w2.heap.size, 0, none⟩ 1 1 [.slice a2 l.1.length c2, .bool l.2] (by rfl) rfl hnews (by intro u hu; simp at hu; rcases hu with rfl | rfl <;> rfl) (by unfold maxLen; omega) (by omega) HB3.out.size ?_
      intro v6 w6 hown6 hgrow6 _
      have HX : Hid (∃ rs, w6.ownsRow w.heap.size 45 2 v6 (k + 1) (flatL rs) ∧ LinesOf w6 rs (L.take (k + 1)) ∧ Below w.heap.size w w6) := Lib.hid (by
        have hs9 : ∀ g, (Value.slice av k cv).ownBlock = some g → Typ w3 45 g := fun g hg => owns_typ hown3 hg
        have T6 : Turn (fun j => (Value.slice av k cv).ownBlock = some j) w3 w6 := Turn.of_grown hgrow6 (fun g e => e)
        refine ⟨rs ++ [(.slice a2 l.1.length c2, l.2)], ?_, ?_, HB3.out.trans (T6.below HB3.out.size (fun j e => (hown3.lt j e).1))⟩
        · rw [flatL_app]; exact hown6
        · rw [HTK.out]
          exact (HL3.out.turn T6 (fun b hb _ => (hs9 b hb).not (by decide)) (fun b hb _ => (hs9 b hb).not (by decide))).snoc (HV3.out.turn T6 (fun b hb _ => (hs9 b hb).not (by decide)) (fun b hb _ => (hs9 b hb).not (by decide))))
      have hγβ : γ < w.heap.size ∧ β < w.heap.size := ⟨HG.out.typ1.lt, HG.out.typ2.lt⟩
      have T6 : Turn (fun j => (Value.slice av k cv).ownBlock = some j) w3 w6 := Turn.of_grown hgrow6 (fun g e => e)
      have hS : w6.cell? ⟨γ, 0, none⟩ = some (.slice (some ⟨β, 0, none⟩) n cc) ∧ w6.cell? ⟨β, k, none⟩ = some (ptr ρ) := ⟨T6.cell hS.1 (fun e => by have := (hown3.lt _ e).1; simp only at this; omega), T6.cell hS.2 (fun e => by have := (hown3.lt _ e).1; simp only at this; omega)⟩
      refine ⟨.inr hS, ?_⟩
      obtain ⟨a6, c6, rfl⟩ := Turn.own_slice hown6
      clear hown6 hgrow6 T6 hown3 hnews HL3 HV3 HO HL hγβ
      refine take_f 20 3 rfl rfl (by kernel_rfl) (by kernel_rfl) (by kernel_rfl) (by kernel_rfl) hQP hS (.inl ⟨by kernel_rfl, fun w' hw' => by obtain ⟨e0, e1⟩ := hw'; go_simp; try with_reducible rfl⟩) ?_
      refine take_done (by kernel_rfl) ?_ _
      try simp only [List.setIfInBounds_toArray, List.set_cons_succ, List.set_cons_zero]
      clear hS
      go_wp2_with fail
      go_roundg (n - (k + 1))
      case measure => omega
      case rel => exact ⟨k + 1, rfl, by omega, by go_num, HX⟩
    · obtain rfl : k = n := by omega
      have HF : Hid (∃ v, v = Value.slice av k cv ∧ OwnLines w.heap.size wr v L ∧ Below w.heap.size w wr) := Lib.hid ⟨_, rfl, ⟨rs, by rw [← HN.out]; exact ho, by rw [HN.out, List.take_length] at hl; exact hl⟩, hb⟩
      clear ho hl hb H
      go_wp2_with fail
      go_ret
      obtain ⟨v, rfl, h1, h2⟩ := HF.out
      exact ⟨_, rfl, h1, h2⟩
end Go.Proofs.YtjicdcmdgbcdcaaGreatDoor.Scr
end

/-
  place: Put.
-/
import Derived.Test.YtjicdcmdgbcdcaaGreatDoorSd28

section
namespace Go.Proofs.YtjicdcmdgbcdcaaGreatDoor.Scr
set_option linter.unusedSimpArgs false
set_option linter.unusedVariables false
open Go Go.RowKit Mem Turn Ring

/-- what stands at the place where ways meet: the pen as it was, the text, the room for the result -/
def PutMid (X : Nat → Prop) (π W : Nat) (p : PenC) (w : World) (t : List Int) (v : Value) (wx : World) : Prop :=
  PenAt wx X π p W ∧ TxtAt wx v t ∧ wx.heap[w.heap.size]? = some (.cells (curA 0 0 false) 36 (0, 0)) ∧ Turn X w wx

set_option maxRecDepth 100000 in
set_option maxHeartbeats 16000000 in
theorem put_exact (X : Nat → Prop) (π W : Nat) (wide : Int) (p : PenC) (v : Value) (t : List Int) (w : World) (h : PenAt w X π p W) (hX : ∀ b, X b → PenTyp w b) (hok : PenOK p W) (hw : wide = 1 ∨ wide = 2) (ht : TxtAt w v t) (hne : t ≠ []) (hv : VarsX w X) :
    Calls Tryz.prog 113 #[ptr π, .int .i64 wide, v] w fun e w' => e = .returned (curV (putA p wide W)) ∧ PenTo w X π (putP p wide t W) W w' := by
  have hmx : Tryz.prog.follows .mixedOrders = true := by kernel_rfl
  have HOK := Lib.hid hok
  have HX := Lib.hid hX
  have HV := Lib.hid hv
  have HNE := Lib.hid (textP_ne wide t W hne)
  have hπ : π < w.heap.size := h.typ.lt
  have hw2 := wideP_two wide W
  have HWP := Lib.hid hw2
  have HPA := Lib.hid (show putA p wide W = ⟨(roomP p (wideP wide W) W).at_.row, (roomP p (wideP wide W) W).at_.col, false⟩ from rfl)
  have HPP := Lib.hid (show putP p wide t W = putRow (roomP p (wideP wide W) W) (wideP wide W) (textP wide t W) W from rfl)
  have HROOM := Lib.hid (hok.room (wideP wide W) hw2)
  have hnX : ¬ X w.heap.size := fun e => by have := (hX _ e).lt; omega
  have HNX := Lib.hid hnX
  obtain ⟨γ, β, Q, hp⟩ := h
  have e1 := heap_alloc_new w (.cells (curA 0 0 false) 36)
  have hb1 : Below w.heap.size w (w.alloc (.cells (curA 0 0 false) 36)) := (Below.refl _ _).alloc (Nat.le_refl _) _
  have T1 : Turn (fun _ => False) w (w.alloc (.cells (curA 0 0 false) 36)) := Turn.alloc _ _ _
  have HP1 := Lib.hid (hp.below hb1)
  have HT1 : Hid (TxtAt (w.alloc (.cells (curA 0 0 false) 36)) v t) := Lib.hid (ht.turn T1 (Free.no _ _))
  have HE1 := Lib.hid e1
  have HB1 := Lib.hid hb1
  clear hp ht e1 hb1 T1 hX hnX hw2 hv hok
  obtain ⟨lt, hlt⟩ : ∃ b, decide ((W : Int) < wide) = b := ⟨_, rfl⟩
  have HWT : Hid (wideP wide W = (if lt then 1 else wide) ∧ textP wide t W = (if lt then [65533] else t)) := Lib.hid (by
    unfold wideP textP
    rw [show max 1 (min wide 2) = wide from by omega, ← hlt]
    by_cases h : (W : Int) < wide <;> simp [h])
  generalize wideP wide W = wd at *
  generalize textP wide t W = tx at *
  generalize putP p wide t W = pp at *
  generalize putA p wide W = pa at *
  go_enter Tryz.func113, Tryz.ntmps113
  go_upto_region 1 with fail
  generalize (w.alloc (.cells #[.int .i64 0, .int .i64 0, .bool false] 36)) = w1 at *
  have HRD := Lib.hid (ready_is X π γ β W Q p w1 HP1.out)
  rw [← HOK.out.held] at HRD
  go_wp2_with fail
  refine HRD.out.mono ?_
  rintro e w2 ⟨rfl, hp2, ht2⟩
  have HM : Hid (PutMid X π W p w t v w2 ∧ PenIs w2 X π γ β Q p W) := Lib.hid (by
    have hx : X π := hp2.xπ
    have hne : w.heap.size ≠ π := fun e => HNX.out (e ▸ hx)
    have hf : Free (fun b => b = π) w1 21 := fun b e _ => by subst e; exact HP1.out.typ.not (by decide)
    exact ⟨⟨⟨γ, β, Q, hp2⟩, HT1.out.turn ht2 hf, ht2.heap HE1.out hne, ((Turn.of_new HB1.out : Turn (fun _ => False) w w1).mono (fun _ _ h => h.elim)).trans (ht2.mono (fun b _ e => by rw [e]; exact hx))⟩, hp2⟩)
  clear HRD HP1 HT1 HE1 HB1 hp2 ht2
  have HWD := Lib.hid (gwide_any γ β W _ w2 HM.out.2.grid HM.out.2.rows.all)
  obtain ⟨c0, _⟩ := HM.out.2.cells
  have hW1 := HM.out.2.w1
  have hW2 := HM.out.2.w2
  rcases hw with rfl | rfl
  all_goals
    go_wp2_with fail
    refine HWD.out.mono ?_
    rintro e wx ⟨rfl, rfl⟩
    go_upto_if 21 with fail
    go_cut [1, 2] (fun s1 s2 wx => s1 = .int .i64 wd ∧ ∃ v', v' = s2 ∧ Hid (PutMid X π W p w tx v' wx))
    case first =>
      cases lt
      · have HA : Hid (PutMid X π W p w tx v w2) := Lib.hid (by rw [HWT.out.2]; exact HM.out.1)
        have HI := Lib.hid HWT.out.1
        go_wp2_with fail
        go_meet
        exact ⟨by rw [HI.out]; rfl, _, rfl, HA⟩
      · have HA : Hid (PutMid X π W p w tx (.slice (some ⟨w2.heap.size, 0, none⟩) 1 1) (w2.alloc (.cells #[.int .i32 65533] 21))) := Lib.hid (by
          have T : Turn (fun _ => False) w2 (w2.alloc (.cells #[.int .i32 65533] 21)) := Turn.alloc _ _ _
          obtain ⟨⟨m1, m2, m3, m4⟩, _⟩ := HM.out
          refine ⟨m1.below ((Below.refl _ _).alloc (Nat.le_refl _) _), ?_, T.heap m3 id, m4.trans (T.mono (fun _ _ h => h.elim))⟩
          rw [HWT.out.2]
          exact TxtAt.lit w2 [65533] 1 rfl (by omega) _ rfl)
        have HI := Lib.hid HWT.out.1
        go_wp2_with fail
        go_meet
        exact ⟨by rw [HI.out]; rfl, _, rfl, HA⟩
    case rest =>
      obtain ⟨rfl, s2, rfl, hmid⟩ := hcut
      obtain ⟨⟨γ1, β1, Q1, hp1⟩, htx, he, htn⟩ := hmid.out
      obtain ⟨X0, hp0, hs0, ht0⟩ := hp1.exact
      have HS0 := Lib.hid hs0
      have HF0 : Hid (Free X0 wc 21) := Lib.hid (PenTyp.free ht0 (by decide))
      have HT := Lib.hid htx
      have HE := Lib.hid he
      have HTN := Lib.hid htn
      have HRM := Lib.hid (room_any X0 π W wd p wc ⟨γ1, β1, Q1, hp0⟩ HOK.out HWP.out (((HV.out.to htn (fun b e => .inl e)).sub hs0).hv))
      clear hmid htx he htn hp1 c0 hlt hp0 hs0 ht0 HM HWD HOK
      go_wp2_with fail
      refine HRM.out.mono ?_
      rintro e w3 ⟨rfl, hto⟩
      have HROOM2 := HROOM
      have HG : Hid (∃ X2 γ2 β2 Q2, PenIs w3 X2 π γ2 β2 Q2 (roomP p wd W) W ∧ (∀ b, X2 b → X b ∨ w.heap.size ≤ b) ∧ (∀ b, X2 b → PenTyp w3 b) ∧ TxtAt w3 s2 tx ∧ w3.heap[w.heap.size]? = some (.cells (curA 0 0 false) 36 (0, 0)) ∧ Turn X w w3) := Lib.hid (by
        obtain ⟨X1, ⟨γ2, β2, Q2, h1⟩, h2, h3⟩ := hto
        obtain ⟨X2, h4, h5, h6⟩ := h1.exact
        refine ⟨X2, γ2, β2, Q2, h4, fun b hb => ?_, h6, HT.out.turn h3 HF0.out, h3.heap HE.out (fun e => HNX.out (HS0.out _ e)), HTN.out.trans (h3.mono (fun b _ e => HS0.out b e))⟩
        rcases h2 b (h5 b hb) with e | e
        · exact .inl (HS0.out b e)
        · exact .inr (Nat.le_trans HTN.out.size e))
      clear hto HRM HT HE HTN HF0 HS0
      obtain ⟨X2, γ2, β2, Q2, hp3, hx2, hy2, ht3, he3, hn3⟩ := HG.out
      clear HG
      generalize roomP p wd W = p1 at *
      obtain ⟨hok1, hfit⟩ := HROOM.out
      obtain ⟨r0, r1, k0, k1, _⟩ := hok1.rng
      obtain ⟨k, hk⟩ : ∃ k : Nat, p1.at_.row = (k : Int) := ⟨p1.at_.row.toNat, by omega⟩
      obtain ⟨c, hc⟩ : ∃ c : Nat, p1.at_.col = (c : Int) := ⟨p1.at_.col.toNat, by omega⟩
      have hkl : k < p1.rows.length := by omega
      have hcw : (c : Int) + wd ≤ W := by rw [← hc]; exact hfit
      obtain ⟨q, hq⟩ : ∃ q, Q2[k]? = some q := ⟨_, List.getElem?_eq_getElem (by rw [hp3.rows.len]; exact hkl)⟩
      obtain ⟨l, hl, g1, g2, _, _⟩ := hp3.rows.line hq
      have hsl := (hok1.rows l (List.mem_of_getElem? hl)).2
      have hgetD : p1.rows.getD k ([], false) = l := by rw [List.getD_eq_getElem?_getD, hl]; rfl
      have hnb : ¬ X2 w.heap.size := fun e => (hy2 _ e).not (by decide) ⟨_, _, he3⟩
      have HRI : Hid (∀ W', Below w3.heap.size w3 W' → Calls Tryz.prog 70 #[ptr γ2, .int .i64 (k : Int)] W' fun e w' => e = .returned (ptr q.1) ∧ W' = w') := Lib.hid fun W' hb => row_in γ2 β2 k q.1 _ W' (hp3.below hb).grid (by rw [List.getElem?_map, hq]; rfl)
      have HMP : Hid (∀ W', Below w3.heap.size w3 W' → Calls Tryz.prog 162 #[ptr q.1, .int .i64 (c : Int), .int .i64 wd, s2] W' fun e w' => e = .returned .nilIface ∧ PenIs w' X2 π γ2 β2 Q2 { p1 with rows := p1.rows.set k (paintN l c (ofC wd tx)) } W ∧ Turn (fun b => b = q.1 ∨ b = q.2) W' w') := Lib.hid fun W' hb => by
        have T : Turn (fun _ => False) w3 W' := Turn.of_new hb
        refine (mput_ok _ False q.1 q.2 c l wd s2 tx W' (g1.turn T (Free.no _ _) id id) (sound_first hsl) (ht3.turn T (Free.no _ _)) HNE.out (by rw [g2]; rcases HWP.out with e | e <;> split <;> omega)).mono ?_
        rintro e w' ⟨h1, h2, h3⟩
        exact ⟨h1, ((hp3.below hb).row hq h2 (by rw [paintN_len]; exact g2) h3).1, h3⟩
      have HQN : Hid (¬ (π = q.1 ∨ π = q.2) ∧ q.1 < w3.heap.size ∧ q.2 < w3.heap.size ∧ X2 q.1 ∧ X2 q.2) := Lib.hid (by
        obtain ⟨_, _, _, _, g3, g4⟩ := hp3.rows.line hq
        refine ⟨?_, g1.typ.lt, g1.cells.typ.lt, g3, g4⟩
        rintro (e | e)
        · exact hp3.typ.ne g1.typ (by decide) e
        · exact hp3.typ.ne g1.cells.typ (by decide) e)
      have HWD : Hid (∀ w8, PenIs w8 X2 π γ2 β2 Q2 { p1 with rows := p1.rows.set k (paintN l c (ofC wd tx)) } W → Calls Tryz.prog 36 #[ptr γ2] w8 fun e w' => e = .returned (.int .i64 (W : Int)) ∧ w8 = w') := Lib.hid fun w8 h8 => gwide_any γ2 β2 W _ w8 h8.grid h8.rows.all
      have HAF : Hid (∀ W', Calls Tryz.prog 163 #[.agg #[.int .i64 (k : Int), .int .i64 (c : Int), .bool false], .int .i64 wd, .int .i64 (W : Int), .bool p1.auto] W' fun e w' => e = .returned (curV (afterC ⟨(k : Int), (c : Int), false⟩ wd W p1.auto)) ∧ Below W'.heap.size W' w') := Lib.hid fun W' => after_any _ _ _ _ _ _ W' (by rcases HWP.out with e | e <;> omega) (by rcases HWP.out with e | e <;> omega) (by omega) (by have := hp3.w2; omega)
      have HFIN : Hid (∀ w8 r c' b, PenIs w8 X2 π γ2 β2 Q2 { p1 with rows := p1.rows.set k (paintN l c (ofC wd tx)) } W → afterC ⟨(k : Int), (c : Int), false⟩ wd W p1.auto = ⟨r, c', b⟩ → PenIs (curW w8 π r c' b) X2 π γ2 β2 Q2 pp W) := Lib.hid fun w8 r c' b h8 e => by
        have h9 := h8.cur r c' b
        rw [HPP.out]
        unfold putRow
        rw [hk, hc, Int.toNat_natCast, Int.toNat_natCast, hgetD, e]
        exact h9
      have HPA2 : Hid (pa = ⟨(k : Int), (c : Int), false⟩) := Lib.hid (by rw [HPA.out, hk, hc])
      have HP3 := Lib.hid hp3
      have HE3 := Lib.hid he3
      have HN3 := Lib.hid hn3
      have HX2 := Lib.hid hx2
      have HNB := Lib.hid hnb
      obtain ⟨c0, c1, c2, _, c4, _⟩ := hp3.cells
      rw [hk] at c1
      rw [hc] at c2
      have C0 := Lib.hid c0
      have C4 := Lib.hid c4
      obtain ⟨aft, haft⟩ : ∃ z, z = afterC ⟨(k : Int), (c : Int), false⟩ wd W p1.auto := ⟨_, rfl⟩
      rw [← haft] at HAF HFIN
      obtain ⟨ar, ac, ab⟩ := aft
      generalize p1.auto = au at *
      clear hp3 ht3 he3 hn3 hx2 hy2 hnb hok1 hfit r0 r1 k0 k1 hk hc hkl hcw hq hl g1 g2 hsl hgetD HROOM HROOM2 HPP HPA HNE haft c0 c4
      go_upto_region 7 with fail
      refine region_begin3 (fun w' => w'.cell? ⟨π, 1, none⟩ = some (.int .i64 (k : Int)) ∧ w'.cell? ⟨π, 2, none⟩ = some (.int .i64 (c : Int))) (fun _ => false) 13 rfl hmx (by intro _ _ d _ _ h; cases d <;> exact h) fun hQP => ?_
      have hS : w3.drew.cell? ⟨π, 1, none⟩ = some (.int .i64 (k : Int)) ∧ w3.drew.cell? ⟨π, 2, none⟩ = some (.int .i64 (c : Int)) := ⟨c1, c2⟩
      have HB4 : Hid (Below w3.heap.size w3 w3.drew) := Lib.hid ((Below.refl _ _).drew)
      clear c1 c2
      generalize w3.drew = w4 at *
      refine take_f 0 26 rfl rfl (by kernel_rfl) (by kernel_rfl) (by kernel_rfl) (by kernel_rfl) hQP hS (.inl ⟨by kernel_rfl, fun w' hw' => by obtain ⟨e0, e1⟩ := hw'; go_simp; try with_reducible rfl⟩) ?_
      refine take_f 1 27 rfl rfl (by kernel_rfl) (by kernel_rfl) (by kernel_rfl) (by kernel_rfl) hQP hS (.inl ⟨by kernel_rfl, fun w' hw' => by obtain ⟨e0, e1⟩ := hw'; go_simp; try with_reducible rfl⟩) ?_
      refine take_f 2 28 rfl rfl (by kernel_rfl) (by kernel_rfl) (by kernel_rfl) (by kernel_rfl) hQP hS (.inl ⟨by kernel_rfl, fun w' hw' => by obtain ⟨e0, e1⟩ := hw'; go_simp; try with_reducible rfl⟩) ?_
      refine take_f 3 29 rfl rfl (by kernel_rfl) (by kernel_rfl) (by kernel_rfl) (by kernel_rfl) hQP hS (.inl ⟨by kernel_rfl, fun w' hw' => by obtain ⟨e0, e1⟩ := hw'; go_simp; try with_reducible rfl⟩) ?_
      refine take_f 4 30 rfl rfl (by kernel_rfl) (by kernel_rfl) (by kernel_rfl) (by kernel_rfl) hQP hS (.inl ⟨by kernel_rfl, fun w' hw' => by obtain ⟨e0, e1⟩ := hw'; go_simp; try with_reducible rfl⟩) ?_
      refine take_f 5 31 rfl rfl (by kernel_rfl) (by kernel_rfl) (by kernel_rfl) (by kernel_rfl) hQP hS (.inl ⟨by kernel_rfl, fun w' hw' => by obtain ⟨e0, e1⟩ := hw'; go_simp; try with_reducible rfl⟩) ?_
      refine take_f 6 32 rfl rfl (by kernel_rfl) (by kernel_rfl) (by kernel_rfl) (by kernel_rfl) hQP hS (.inl ⟨by kernel_rfl, fun w' hw' => by obtain ⟨e0, e1⟩ := hw'; go_simp; try with_reducible rfl⟩) ?_
      refine take_f 7 33 rfl rfl (by kernel_rfl) (by kernel_rfl) (by kernel_rfl) (by kernel_rfl) hQP hS (.inl ⟨by kernel_rfl, fun w' hw' => by obtain ⟨e0, e1⟩ := hw'; go_simp; try with_reducible rfl⟩) ?_
      refine take_f 8 34 rfl rfl (by kernel_rfl) (by kernel_rfl) (by kernel_rfl) (by kernel_rfl) hQP hS (.inl ⟨by kernel_rfl, fun w' hw' => by obtain ⟨e0, e1⟩ := hw'; go_simp; try with_reducible rfl⟩) ?_
      refine take_f 9 35 rfl rfl (by kernel_rfl) (by kernel_rfl) (by kernel_rfl) (by kernel_rfl) hQP hS (.inl ⟨by kernel_rfl, fun w' hw' => by obtain ⟨e0, e1⟩ := hw'; go_simp; try with_reducible rfl⟩) ?_
      refine take_f 10 36 rfl rfl (by kernel_rfl) (by kernel_rfl) (by kernel_rfl) (by kernel_rfl) hQP hS (.inl ⟨by kernel_rfl, fun w' hw' => by obtain ⟨e0, e1⟩ := hw'; go_simp; try with_reducible rfl⟩) ?_
      try simp only [List.setIfInBounds_toArray, List.set_cons_succ, List.set_cons_zero]
      refine take_one (i := 11) (by kernel_rfl) rfl rfl fun KQ hK => ?_
      go_wp2_with fail
      have T5 : Turn (fun _ => False) w4 (w4.alloc (.cells (curA 0 0 false) 36)) := Turn.alloc _ _ _
      have hnew := heap_alloc_new w4 (.cells (curA 0 0 false) 36)
      have hS : (w4.alloc (.cells (curA 0 0 false) 36)).cell? ⟨π, 1, none⟩ = some (.int .i64 (k : Int)) ∧ (w4.alloc (.cells (curA 0 0 false) 36)).cell? ⟨π, 2, none⟩ = some (.int .i64 (c : Int)) := ⟨T5.cell hS.1 id, T5.cell hS.2 id⟩
      have HB5 : Hid (Below w3.heap.size w3 (w4.alloc (.cells (curA 0 0 false) 36)) ∧ w3.heap.size ≤ w4.heap.size) := Lib.hid ⟨HB4.out.alloc HB4.out.size _, HB4.out.size⟩
      refine hK _ _ (.inr hS) ?_
      clear hK T5
      have hπn : ¬ π = w4.heap.size := by have := HB5.out.2; have := HP3.out.typ.lt; omega
      generalize w4.heap.size = nb at *
      generalize (w4.alloc (.cells (curA 0 0 false) 36)) = w5 at *
      try simp only [List.setIfInBounds_toArray, List.set_cons_succ, List.set_cons_zero]
      have TR := turn_setRow w5 nb (curA (k : Int) (c : Int) false)
      have hSn : (w5.setRow nb (curA (k : Int) (c : Int) false)).cell? ⟨π, 1, none⟩ = some (.int .i64 (k : Int)) ∧ (w5.setRow nb (curA (k : Int) (c : Int) false)).cell? ⟨π, 2, none⟩ = some (.int .i64 (c : Int)) := ⟨TR.cell hS.1 hπn, TR.cell hS.2 hπn⟩
      refine take_store_row 12 (by kernel_rfl) rfl rfl rfl 36 (.tmp 7) (.tmp 36) rfl nb (curA (k : Int) (c : Int) false) (by rfl) (by rfl) 36 (curA 0 0 false) hnew (size_cur _ _ _) rfl (one_cur _ _ _) (.inr hSn) ?_
      have HN6 := Lib.hid (setRow_heap w5 nb _ (curA (k : Int) (c : Int) false) 36 (0, 0) hnew)
      have HB6 : Hid (Below w3.heap.size w3 (w5.setRow nb (curA (k : Int) (c : Int) false)) ∧ w3.heap.size ≤ nb) := Lib.hid ⟨HB5.out.1.trans ((turn_setRow w5 nb _).below HB5.out.1.size (fun j e => by rw [e]; exact HB5.out.2)), HB5.out.2⟩
      clear hnew HB5 HB4 hS hSn TR
      generalize (w5.setRow nb (curA (k : Int) (c : Int) false)) = w6 at *
      refine take_done (by kernel_rfl) ?_ _
      try simp only [List.setIfInBounds_toArray, List.set_cons_succ, List.set_cons_zero]
      have hpl := HP3.out.typ.lt
      have T6 : Turn (fun _ => False) w3 w6 := Turn.of_new HB6.out.1
      have p0 := T6.cell C0.out id
      obtain ⟨n0, n1, _⟩ := cells3 HN6.out
      have HRI6 := Lib.hid (HRI.out _ HB6.out.1.drew)
      have HMP6 := Lib.hid (HMP.out _ HB6.out.1.drew)
      clear T6 HRI HMP
      go_upto_region 8 with fail
      refine region_begin3 (fun w' => w'.cell? ⟨π, 0, none⟩ = some (ptr γ2) ∧ w'.cell? ⟨nb, 0, none⟩ = some (.int .i64 (k : Int)) ∧ w'.cell? ⟨nb, 1, none⟩ = some (.int .i64 (c : Int))) (fun _ => false) 12 rfl hmx (by intro _ _ d _ _ h; cases d <;> exact h) fun hQP => ?_
      have hS : w6.drew.cell? ⟨π, 0, none⟩ = some (ptr γ2) ∧ w6.drew.cell? ⟨nb, 0, none⟩ = some (.int .i64 (k : Int)) ∧ w6.drew.cell? ⟨nb, 1, none⟩ = some (.int .i64 (c : Int)) := ⟨p0, n0, n1⟩
      have HB7 : Hid (Below w3.heap.size w3 w6.drew) := Lib.hid HB6.out.1.drew
      have HN7 : Hid (w6.drew.heap[nb]? = some (.cells (curA (k : Int) (c : Int) false) 36 (0, 0))) := Lib.hid HN6.out
      clear p0 n0 n1 HN6
      generalize w6.drew = w7 at *
      refine take_f 0 37 rfl rfl (by kernel_rfl) (by kernel_rfl) (by kernel_rfl) (by kernel_rfl) hQP hS (.inl ⟨by kernel_rfl, fun w' hw' => by obtain ⟨e0, e1, e2⟩ := hw'; go_simp; try with_reducible rfl⟩) ?_
      refine take_f 1 38 rfl rfl (by kernel_rfl) (by kernel_rfl) (by kernel_rfl) (by kernel_rfl) hQP hS (.inl ⟨by kernel_rfl, fun w' hw' => by obtain ⟨e0, e1, e2⟩ := hw'; go_simp; try with_reducible rfl⟩) ?_
      refine take_f 2 39 rfl rfl (by kernel_rfl) (by kernel_rfl) (by kernel_rfl) (by kernel_rfl) hQP hS (.inl ⟨by kernel_rfl, fun w' hw' => by obtain ⟨e0, e1, e2⟩ := hw'; go_simp; try with_reducible rfl⟩) ?_
      refine take_f 3 40 rfl rfl (by kernel_rfl) (by kernel_rfl) (by kernel_rfl) (by kernel_rfl) hQP hS (.inl ⟨by kernel_rfl, fun w' hw' => by obtain ⟨e0, e1, e2⟩ := hw'; go_simp; try with_reducible rfl⟩) ?_
      refine take_f 4 41 rfl rfl (by kernel_rfl) (by kernel_rfl) (by kernel_rfl) (by kernel_rfl) hQP hS (.inl ⟨by kernel_rfl, fun w' hw' => by obtain ⟨e0, e1, e2⟩ := hw'; go_simp; try with_reducible rfl⟩) ?_
      refine take_f 5 42 rfl rfl (by kernel_rfl) (by kernel_rfl) (by kernel_rfl) (by kernel_rfl) hQP hS (.inl ⟨by kernel_rfl, fun w' hw' => by obtain ⟨e0, e1, e2⟩ := hw'; go_simp; try with_reducible rfl⟩) ?_
      refine take_f 7 44 rfl rfl (by kernel_rfl) (by kernel_rfl) (by kernel_rfl) (by kernel_rfl) hQP hS (.inl ⟨by kernel_rfl, fun w' hw' => by obtain ⟨e0, e1, e2⟩ := hw'; go_simp; try with_reducible rfl⟩) ?_
      refine take_f 8 45 rfl rfl (by kernel_rfl) (by kernel_rfl) (by kernel_rfl) (by kernel_rfl) hQP hS (.inl ⟨by kernel_rfl, fun w' hw' => by obtain ⟨e0, e1, e2⟩ := hw'; go_simp; try with_reducible rfl⟩) ?_
      refine take_f 9 46 rfl rfl (by kernel_rfl) (by kernel_rfl) (by kernel_rfl) (by kernel_rfl) hQP hS (.inl ⟨by kernel_rfl, fun w' hw' => by obtain ⟨e0, e1, e2⟩ := hw'; go_simp; try with_reducible rfl⟩) ?_
      refine take_f 10 47 rfl rfl (by kernel_rfl) (by kernel_rfl) (by kernel_rfl) (by kernel_rfl) hQP hS (.inl ⟨by kernel_rfl, fun w' hw' => by obtain ⟨e0, e1, e2⟩ := hw'; go_simp; try with_reducible rfl⟩) ?_
      try simp only [List.setIfInBounds_toArray, List.set_cons_succ, List.set_cons_zero]
      refine take_g (i := 6) (by kernel_rfl) rfl (by kernel_rfl) fun KQ hK => ?_
      go_wp2_with fail
      refine HRI6.out.mono ?_
      rintro e wx ⟨rfl, rfl⟩
      refine hK _ _ (.inr hS) ?_
      clear hK HRI6
      try simp only [List.setIfInBounds_toArray, List.set_cons_succ, List.set_cons_zero]
      refine take_g (i := 11) (by kernel_rfl) rfl (by kernel_rfl) fun KQ hK => ?_
      go_wp2_with fail
      refine HMP6.out.mono ?_
      rintro e w8 ⟨rfl, hp8, ht8⟩
      have HP8 := Lib.hid hp8
      have HT8 : Hid (Turn X2 w7 w8) := Lib.hid (ht8.mono (fun b _ e => by
        obtain ⟨_, _, _, x1, x2⟩ := HQN.out
        rcases e with e | e <;> rw [e]
        · exact x1
        · exact x2))
      have HN8 : Hid (w8.heap[nb]? = some (.cells (curA (k : Int) (c : Int) false) 36 (0, 0))) := Lib.hid (ht8.heap HN7.out (fun e => by
        obtain ⟨_, x1, x2, _⟩ := HQN.out
        have := HB6.out.2
        rcases e with e | e <;> omega))
      have hnq : ¬ (nb = q.1 ∨ nb = q.2) := fun e => by
        obtain ⟨_, x1, x2, _⟩ := HQN.out
        have := HB6.out.2
        rcases e with e | e <;> omega
      have hS : w8.cell? ⟨π, 0, none⟩ = some (ptr γ2) ∧ w8.cell? ⟨nb, 0, none⟩ = some (.int .i64 (k : Int)) ∧ w8.cell? ⟨nb, 1, none⟩ = some (.int .i64 (c : Int)) := ⟨ht8.cell hS.1 HQN.out.1, ht8.cell hS.2.1 hnq, ht8.cell hS.2.2 hnq⟩
      refine hK _ _ (.inr hS) ?_
      clear hK hp8 ht8 hS HN7 HMP6 hnq
      refine take_done (by kernel_rfl) ?_ _
      try simp only [List.setIfInBounds_toArray, List.set_cons_succ, List.set_cons_zero]
      have HWD8 := Lib.hid (HWD.out w8.drew (HP8.out.below (Below.refl _ _).drew))
      have p0 := HP8.out.cells.1
      have p4 := HP8.out.cells.2.2.2.2.1
      have HFI : Hid (∀ w9, Below w8.heap.size w8 w9 → PenIs (curW w9 π ar ac ab) X2 π γ2 β2 Q2 pp W) := Lib.hid fun w9 hb => HFIN.out w9 ar ac ab (HP8.out.below hb) rfl
      have HFR : Hid (∀ w9 j, Below w8.heap.size w8 w9 → w9.frozen? ⟨π, j, none⟩ = false) := Lib.hid fun w9 j hb => (HP8.out.below hb).cells.2.2.2.2.2 j
      have hπ8 := HP8.out.typ.lt
      have HNL : Hid (nb < w8.heap.size ∧ ¬ π = nb) := Lib.hid ⟨(Array.getElem?_eq_some_iff.1 HN8.out).1, hπn⟩
      simp only at p4
      go_upto_region 9 with fail
      refine region_begin3 (fun w' => w'.heap[nb]? = some (.cells (curA (k : Int) (c : Int) false) 36 (0, 0)) ∧ w'.cell? ⟨π, 0, none⟩ = some (ptr γ2) ∧ w'.cell? ⟨π, 4, none⟩ = some (.bool au)) (fun j => j == 15) 16 rfl hmx (by intro _ _ d _ _ h; cases d <;> exact h) fun hQP => ?_
      have hS : w8.drew.heap[nb]? = some (.cells (curA (k : Int) (c : Int) false) 36 (0, 0)) ∧ w8.drew.cell? ⟨π, 0, none⟩ = some (ptr γ2) ∧ w8.drew.cell? ⟨π, 4, none⟩ = some (.bool au) := ⟨HN8.out, p0, p4⟩
      have HB9 : Hid (Below w8.heap.size w8 w8.drew) := Lib.hid (Below.refl _ _).drew
      clear p0 p4 HFIN HWD HN8
      generalize w8.drew = w9 at *
      refine take_f 0 49 rfl rfl (by kernel_rfl) (by kernel_rfl) (by kernel_rfl) (by kernel_rfl) hQP hS (.inl ⟨by kernel_rfl, fun w' hw' => by obtain ⟨e0, e1, e2⟩ := hw'; go_simp; try with_reducible rfl⟩) ?_
      refine take_f 2 51 rfl rfl (by kernel_rfl) (by kernel_rfl) (by kernel_rfl) (by kernel_rfl) hQP hS (.inl ⟨by kernel_rfl, fun w' hw' => by obtain ⟨e0, e1, e2⟩ := hw'; go_simp; try with_reducible rfl⟩) ?_
      refine take_f 3 52 rfl rfl (by kernel_rfl) (by kernel_rfl) (by kernel_rfl) (by kernel_rfl) hQP hS (.inl ⟨by kernel_rfl, fun w' hw' => by obtain ⟨e0, e1, e2⟩ := hw'; go_simp; try with_reducible rfl⟩) ?_
      refine take_f 4 53 rfl rfl (by kernel_rfl) (by kernel_rfl) (by kernel_rfl) (by kernel_rfl) hQP hS (.inl ⟨by kernel_rfl, fun w' hw' => by obtain ⟨e0, e1, e2⟩ := hw'; go_simp; try with_reducible rfl⟩) ?_
      refine take_f 5 54 rfl rfl (by kernel_rfl) (by kernel_rfl) (by kernel_rfl) (by kernel_rfl) hQP hS (.inl ⟨by kernel_rfl, fun w' hw' => by obtain ⟨e0, e1, e2⟩ := hw'; go_simp; try with_reducible rfl⟩) ?_
      refine take_f 6 55 rfl rfl (by kernel_rfl) (by kernel_rfl) (by kernel_rfl) (by kernel_rfl) hQP hS (.inl ⟨by kernel_rfl, fun w' hw' => by obtain ⟨e0, e1, e2⟩ := hw'; go_simp; try with_reducible rfl⟩) ?_
      refine take_f 8 57 rfl rfl (by kernel_rfl) (by kernel_rfl) (by kernel_rfl) (by kernel_rfl) hQP hS (.inl ⟨by kernel_rfl, fun w' hw' => by obtain ⟨e0, e1, e2⟩ := hw'; go_simp; try with_reducible rfl⟩) ?_
      refine take_f 9 58 rfl rfl (by kernel_rfl) (by kernel_rfl) (by kernel_rfl) (by kernel_rfl) hQP hS (.inl ⟨by kernel_rfl, fun w' hw' => by obtain ⟨e0, e1, e2⟩ := hw'; go_simp; try with_reducible rfl⟩) ?_
      refine take_f 10 59 rfl rfl (by kernel_rfl) (by kernel_rfl) (by kernel_rfl) (by kernel_rfl) hQP hS (.inl ⟨by kernel_rfl, fun w' hw' => by obtain ⟨e0, e1, e2⟩ := hw'; go_simp; try with_reducible rfl⟩) ?_
      refine take_f 11 60 rfl rfl (by kernel_rfl) (by kernel_rfl) (by kernel_rfl) (by kernel_rfl) hQP hS (.inl ⟨by kernel_rfl, fun w' hw' => by obtain ⟨e0, e1, e2⟩ := hw'; go_simp; try with_reducible rfl⟩) ?_
      try simp only [List.setIfInBounds_toArray, List.set_cons_succ, List.set_cons_zero]
      refine take_f 1 50 rfl rfl (by kernel_rfl) (by kernel_rfl) (by kernel_rfl) (by kernel_rfl) hQP hS (yields_load_row 36 (.tmp 7) rfl (by kernel_rfl) nb (by rfl) _ (curA (k : Int) (c : Int) false) _ _ (fun w' hw' => hw'.1) Tryz.underlying36 rfl (size_cur _ _ _)) ?_
      try simp only [List.setIfInBounds_toArray, List.set_cons_succ, List.set_cons_zero]
      refine take_g (i := 7) (by kernel_rfl) rfl (by kernel_rfl) fun KQ hK => ?_
      go_wp2_with fail
      refine HWD8.out.mono ?_
      rintro e wx ⟨rfl, rfl⟩
      refine hK _ _ (.inr hS) ?_
      clear hK HWD8
      refine take_g (i := 12) (by kernel_rfl) rfl (by kernel_rfl) fun KQ hK => ?_
      go_wp2_with fail
      refine (HAF.out _).mono ?_
      rintro e w10 ⟨rfl, hb10⟩
      have T10 : Turn (fun _ => False) w9 w10 := Turn.of_new hb10
      have hS : w10.heap[nb]? = some (.cells (curA (k : Int) (c : Int) false) 36 (0, 0)) ∧ w10.cell? ⟨π, 0, none⟩ = some (ptr γ2) ∧ w10.cell? ⟨π, 4, none⟩ = some (.bool au) := ⟨T10.heap hS.1 id, T10.cell hS.2.1 id, T10.cell hS.2.2 id⟩
      have HB10 : Hid (Below w8.heap.size w8 w10) := Lib.hid (HB9.out.trans (hb10.mono HB9.out.size))
      refine hK _ _ (.inr hS) ?_
      clear hK HAF HB9 T10 hb10
      refine take_g (i := 13) (by kernel_rfl) rfl (by kernel_rfl) fun KQ hK => ?_
      go_wp2_with fail
      refine hK _ _ (.inr hS) ?_
      clear hK
      refine take_f 14 63 rfl rfl (by kernel_rfl) (by kernel_rfl) (by kernel_rfl) (by kernel_rfl) hQP hS (.inl ⟨by kernel_rfl, fun w' hw' => by obtain ⟨e0, e1, e2⟩ := hw'; go_simp; try with_reducible rfl⟩) ?_
      try simp only [List.setIfInBounds_toArray, List.set_cons_succ, List.set_cons_zero]
      have y1 := HFR.out w10 1 HB10.out
      have y2 := HFR.out w10 2 HB10.out
      have y3 := HFR.out w10 3 HB10.out
      obtain ⟨_, x1, x2, x3, _, _⟩ := (HP8.out.below HB10.out).cells
      have HNB10 := Lib.hid hS.1
      refine take_g (i := 15) (by kernel_rfl) rfl (by kernel_rfl) fun KQ hK => ?_
      go_wp2_with fail
      have T11 := curW_turn w10 π ar ac ab
      have HP11 := Lib.hid (HFI.out w10 HB10.out)
      have HN11 := Lib.hid (T11.heap HNB10.out (fun e => HNL.out.2 e.symm))
      have HT11 : Hid (Turn X2 w3 (curW w10 π ar ac ab)) := Lib.hid (by
        have a : Turn X2 w3 w7 := (Turn.of_new HB7.out : Turn (fun _ => False) w3 w7).mono (fun _ _ h => h.elim)
        have b : Turn X2 w8 w10 := (Turn.of_new HB10.out : Turn (fun _ => False) w8 w10).mono (fun _ _ h => h.elim)
        exact ((a.trans HT8.out).trans b).trans (T11.mono (fun b _ e => by rw [e]; exact HP3.out.xπ)))
      refine hK _ _ (.inl rfl) ?_
      clear hK hS x1 x2 x3 y1 y2 y3 T11 HFI HFR HNB10 HB10 HB7 HT8 HP8
      have hw : ((w10.setCell ⟨π, 1, none⟩ (.int .i64 ar)).setCell ⟨π, 2, none⟩ (.int .i64 ac)).setCell ⟨π, 3, none⟩ (.bool ab) = curW w10 π ar ac ab := rfl
      first | rw [hw] | skip
      clear hw
      generalize curW w10 π ar ac ab = w11 at *
      refine take_done (by kernel_rfl) ?_ _
      try simp only [List.setIfInBounds_toArray, List.set_cons_succ, List.set_cons_zero]
      have he11 := HT11.out.heap HE3.out HNB.out
      have HF : Hid (PenTo w X π pp W (w11.setRow w.heap.size (curA (k : Int) (c : Int) false))) := Lib.hid (by
        have TR := turn_setRow w11 w.heap.size (curA (k : Int) (c : Int) false)
        have hfr : Free (fun b => b = w.heap.size) w11 21 := fun b e _ => by
          subst e
          exact Typ.not ⟨_, _, he11⟩ (by decide)
        refine ⟨X2, ⟨γ2, β2, Q2, HP11.out.turn TR hfr (fun b hb e => HNB.out (e ▸ hb))⟩, HX2.out, ?_⟩
        have a : Turn (fun b => X b ∨ w.heap.size ≤ b) w w3 := HN3.out.mono (fun _ _ e => .inl e)
        have b : Turn (fun b => X b ∨ w.heap.size ≤ b) w3 w11 := HT11.out.mono (fun b _ e => HX2.out b e)
        exact ((a.trans b).trans (TR.mono (fun b _ e => .inr (by omega)))).mono (fun b hb e => e.elim id (fun e => by omega)))
      have HR := Lib.hid (setRow_heap w11 w.heap.size _ (curA (k : Int) (c : Int) false) 36 (0, 0) he11)
      go_wp2_with (first
        | (refine wpList_load_row rfl 36 _ rfl nb rfl _ (curA (k : Int) (c : Int) false) (0, 0) _ HN11.out Tryz.underlying36 rfl (size_cur _ _ _) ?_)
        | (refine wpList_store_row rfl 36 _ _ rfl w.heap.size (curA (k : Int) (c : Int) false) rfl rfl _ _ he11 (size_cur _ _ _) rfl (one_cur _ _ _) ?_))
      refine bodyPost_ret (results_cell_row rfl _ _ w.heap.size 36 _ (0, 0) _ rfl HR.out Tryz.underlying36 rfl (size_cur _ _ _)) rfl ?_
      exact ⟨by rw [HPA2.out], HF.out⟩

/-- TO PUT A CLUSTER -/
theorem put_pen (X : Nat → Prop) (π W : Nat) (wide : Int) (p : PenC) (v : Value) (t : List Int) (w : World) (h : PenAt w X π p W) (hok : PenOK p W) (hw : wide = 1 ∨ wide = 2) (ht : TxtAt w v t) (hne : t ≠ []) (hv : VarsX w X) :
    Calls Tryz.prog 113 #[ptr π, .int .i64 wide, v] w fun e w' => e = .returned (curV (putA p wide W)) ∧ PenTo w X π (putP p wide t W) W w' := by
  obtain ⟨X0, h0, h1, h2⟩ := h.exact
  exact (put_exact X0 π W wide p v t w h0 h2 hok hw ht hne (hv.sub h1)).mono fun e w' ⟨a, b⟩ => ⟨a, b.wide h1⟩
end Go.Proofs.YtjicdcmdgbcdcaaGreatDoor.Scr
end

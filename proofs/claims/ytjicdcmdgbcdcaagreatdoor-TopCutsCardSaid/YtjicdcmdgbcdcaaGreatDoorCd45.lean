/-
  Screens; screen.New, Do (printed by gen_scr.py).
  screen.View.
-/
import Derived.Test.YtjicdcmdgbcdcaaGreatDoorCd20
import Derived.Test.YtjicdcmdgbcdcaaGreatDoorCd34
import Derived.Test.YtjicdcmdgbcdcaaGreatDoorCd44

section
namespace Go.Proofs.YtjicdcmdgbcdcaaGreatDoor.Scr
set_option linter.unusedSimpArgs false
set_option linter.unusedVariables false
open Go Go.RowKit Mem Turn Ring

/-- a screen: its block σ; all else that it may turn lies in X -/
def ScrAt (w : World) (X : Nat → Prop) (σ : Nat) (s : ScrC) : Prop := ∃ φ π, w.heap[σ]? = some (.cells #[ptr φ, ptr π] 86 (0, 0)) ∧ ¬ X σ ∧ FeedAt w X φ π s.f s.W
theorem FeedIs.mono_ {w : World} {X X' : Nat → Prop} {φ π W : Nat} {ov : Value} {f : FeedC} (h : FeedIs w X φ π ov f W) (hX : ∀ b, X b → X' b) : FeedIs w X' φ π ov f W := ⟨h.hdr, h.pen.mono hX, h.opn.mono hX, hX _ h.xφ⟩
theorem FeedTyp.lt_ {w : World} {b : Nat} (h : FeedTyp w b) : b < w.heap.size := by
  rcases h with h | h | h
  · exact h.lt
  · exact h.lt
  · exact h.lt
def ScrTo (w : World) (X : Nat → Prop) (σ : Nat) (s : ScrC) (w' : World) : Prop := ∃ X', ScrAt w' X' σ s ∧ (∀ b, X' b → X b ∨ w.heap.size ≤ b) ∧ Turn X w w'
theorem ScrAt.below {w w' : World} {X : Nat → Prop} {σ : Nat} {s : ScrC} (h : ScrAt w X σ s) (hb : Below w.heap.size w w') : ScrAt w' X σ s := by
  obtain ⟨φ, π, h1, h2, ov, h3⟩ := h
  exact ⟨φ, π, (Turn.of_new hb : Turn (fun _ => False) w w').heap h1 id, h2, ov, h3.below hb⟩
theorem ScrTo.of {w w1 w' : World} {X X0 : Nat → Prop} {σ φ π W : Nat} {f : FeedC} {s : ScrC} (hs : s = ⟨f, W⟩) (hb : Below w.heap.size w w1) (h1 : w.heap[σ]? = some (.cells #[ptr φ, ptr π] 86 (0, 0))) (h2 : ¬ X σ) (hX : ∀ b, X0 b → X b) (h : FeedTo w1 X0 φ π f W w') : ScrTo w X σ s w' := by
  obtain ⟨X', h3, h4, h5⟩ := h
  have hlt := (Array.getElem?_eq_some_iff.1 h1).1
  have T : Turn (fun _ => False) w w1 := Turn.of_new hb
  have hn : ¬ X0 σ := fun e => h2 (hX _ e)
  subst hs
  refine ⟨X', ⟨φ, π, h5.heap (T.heap h1 id) hn, fun e => ?_, h3⟩, fun b e => ?_, (T.mono (fun _ _ h => h.elim)).trans (h5.mono (fun b _ e => hX b e))⟩
  · have := hb.size
    exact (h4 _ e).elim hn (fun e => by omega)
  · exact (h4 _ e).imp (hX b) (fun e => Nat.le_trans hb.size e)

set_option maxRecDepth 100000 in
set_option maxHeartbeats 8000000 in
theorem snew_any (wd ht : Int) (w : World) :
    Calls Tryz.prog 7 #[.int .i64 wd, .int .i64 ht] w fun e w' => ∃ σ, e = .returned (ptr σ) ∧ ScrAt w' (fun b => w.heap.size ≤ b ∧ b ≠ σ) σ (newS wd ht) ∧ w.heap.size ≤ σ ∧ Below w.heap.size w w' := by
  have HP := Lib.hid (pnew_any wd ht w)
  go_enter Tryz.func7, Tryz.ntmps7
  go_wp2_with fail
  refine HP.out.mono ?_
  rintro e w1 ⟨π, rfl, hp, hb1⟩
  have HB1 := Lib.hid hb1
  have HN := Lib.hid (fnew_any _ π _ _ w1 hp)
  clear hp hb1 HP
  go_wp2_with fail
  refine HN.out.mono ?_
  rintro e w2 ⟨φ, rfl, hφ, hf, hb2⟩
  have HF : Hid (ScrAt (w2.alloc (.cells #[ptr φ, ptr π] 86)) (fun b => w.heap.size ≤ b ∧ b ≠ w2.heap.size) w2.heap.size (newS wd ht) ∧ w.heap.size ≤ w2.heap.size ∧ Below w.heap.size w (w2.alloc (.cells #[ptr φ, ptr π] 86))) := Lib.hid (by
    have hsz := HB1.out.size
    have hb12 := HB1.out.trans (hb2.mono hsz)
    have hb3 : Below w2.heap.size w2 (w2.alloc (.cells #[ptr φ, ptr π] 86)) := (Below.refl _ _).alloc (Nat.le_refl _) _
    obtain ⟨X0, h0, hx0, hy0⟩ := FeedAt.exact ⟨_, hf⟩
    refine ⟨⟨φ, π, heap_alloc_new w2 _, fun e => e.2 rfl, ?_⟩, hb12.size, hb12.trans (hb3.mono hb12.size)⟩
    obtain ⟨ov, h0⟩ := h0
    refine ⟨ov, (h0.below hb3).mono_ (fun b hb => ⟨?_, ?_⟩)⟩
    · rcases hx0 b hb with e | e
      · exact e
      · subst e
        rw [hφ]
        exact hsz
    · intro e
      have := (hy0 b hb).lt_
      omega)
  clear hf hb2 HN hφ
  go_wp2_with fail
  go_ret
  exact ⟨_, rfl, HF.out⟩

/-- a call on a shut feeder's pen -/
theorem FeedIs.penTo_ {w w' : World} {X0 X1 : Nat → Prop} {φ π W W' : Nat} {f : FeedC} {p' : PenC} (h : FeedIs w X0 φ π (.pointer none) f W) (ho : f.opn = none) (hX : ∀ b, X1 b → X0 b) (hT : ∀ b, X1 b → PenTyp w b) (hp : PenTo w X1 π p' W' w') : FeedTo w X0 φ π { f with pen := p' } W' w' := by
  obtain ⟨X2, h1, h2, h3⟩ := hp
  have hφ : ¬ X1 φ := fun e => h.notPen φ rfl (hT _ e)
  refine ⟨fun b => X0 b ∨ X2 b, ⟨.pointer none, h3.heap h.hdr hφ, h1.mono (fun b e => .inr e), ?_, .inl h.xφ⟩, fun b e => ?_, h3.mono (fun b _ e => hX b e)⟩
  · simp only [ho]
    rfl
  · exact e.elim .inl (fun e => (h2 b e).imp (hX b) id)
/-- what Do returns -/
def RetN (kd : Int) (e : Ending) : Prop := ∃ v, e = .returned v ∧ (kd = 0 → v = .nilIface)
/-- what is lent to a call -/
theorem ScrAt.exact {w : World} {X : Nat → Prop} {σ : Nat} {s : ScrC} (h : ScrAt w X σ s) : ∃ φ π X0, w.heap[σ]? = some (.cells #[ptr φ, ptr π] 86 (0, 0)) ∧ FeedAt w X0 φ π s.f s.W ∧ (∀ b, X0 b → X b) ∧ ∀ b, X0 b → FeedTyp w b := by
  obtain ⟨φ, π, h1, h2, h3⟩ := h
  obtain ⟨X0, h4, h5, h6⟩ := h3.exact
  exact ⟨φ, π, X0, h1, h4, h5, h6⟩

set_option maxRecDepth 100000 in
set_option maxHeartbeats 16000000 in
theorem sdo_any (X : Nat → Prop) (σ : Nat) (s : ScrC) (kd a b : Int) (ba : Option Addr) (bn bc : Nat) (l : List Int) (w : World) (h : ScrAt w X σ s) (hok : FeedOK s.f s.W) (hv : VarsX w X) (ht : ∀ w', Turn X w w' → Same.Ints .u8 w' ba bn l) (hl : ∀ r ∈ l, 0 ≤ r ∧ r ≤ 255) (hsz : bn ≤ 9223372036854775807)
    (ha1 : -9223372036854775808 ≤ a) (ha2 : a ≤ 9223372036854775807) :
    Calls Tryz.prog 8 #[ptr σ, opV kd a b (.slice ba bn bc)] w fun e w' => RetN kd e ∧ ScrTo w X σ (doS s ⟨kd, a, b, l⟩) w' := by
  have hmx : Tryz.prog.follows .mixedOrders = true := by kernel_rfl
  obtain ⟨φ, π, X0, hs, hf, hx0, hy0⟩ := h.exact
  have hσn : ¬ X σ := by
    obtain ⟨_, _, _, h2, _⟩ := h
    exact h2
  have hσl := (Array.getElem?_eq_some_iff.1 hs).1
  have e1 := heap_alloc_new w (.cells (opA kd a b (.slice ba bn bc)) 30)
  have hb1 : Below w.heap.size w (w.alloc (.cells (opA kd a b (.slice ba bn bc)) 30)) := (Below.refl _ _).alloc (Nat.le_refl _) _
  have hs1 : (w.alloc (.cells (opA kd a b (.slice ba bn bc)) 30)).heap.size = w.heap.size + 1 := by simp
  have T1 : Turn (fun _ => False) w (w.alloc (.cells (opA kd a b (.slice ba bn bc)) 30)) := Turn.of_new hb1
  have HS1 := Lib.hid (T1.heap hs id)
  obtain ⟨ov, hf⟩ := hf
  have HF1 := Lib.hid (show FeedAt _ X0 φ π s.f s.W from ⟨ov, hf.below hb1⟩)
  have HY1 : Hid (∀ b, X0 b → FeedTyp w b) := Lib.hid hy0
  have HNQ : Hid (¬ X0 w.heap.size) := Lib.hid fun e => by have := (hy0 _ e).lt_; omega
  have HNS : Hid (¬ X0 σ) := Lib.hid fun e => hσn (hx0 _ e)
  have HV1 := Lib.hid ((hv.sub hx0).below hb1)
  have HIN : Hid (∀ w', Turn X0 (w.alloc (.cells (opA kd a b (.slice ba bn bc)) 30)) w' → Same.Ints .u8 w' ba bn l) := Lib.hid fun w' hw => ht w' ((T1.mono (fun _ _ h => h.elim)).trans (hw.mono (fun b _ e => hx0 b e)))
  have HB1 := Lib.hid hb1
  have HE1 := Lib.hid e1
  have HOK := Lib.hid hok
  have HTO : Hid (∀ (w1 w' : World) (f : FeedC) (W : Nat), Below w.heap.size w w1 → FeedTo w1 X0 φ π f W w' → ScrTo w X σ ⟨f, W⟩ w') := Lib.hid fun w1 w' f W hb hto => ScrTo.of rfl hb hs hσn hx0 hto
  have HDO := Lib.hid (show doS s ⟨kd, a, b, l⟩ = if kd = 0 then { s with f := bytesF s.W s.f l } else if kd = 1 then { s with f := flushF s.W s.f } else if kd = 13 then ⟨{ closeF s.f with pen := sizeP s.f.pen a b }, sizeW a⟩ else if wrongE kd a = 0 then { s with f := { closeF s.f with pen := editP s.f.pen kd a b s.W } } else s from rfl)
  obtain ⟨o0, o1, o2, o3⟩ := cells4 e1
  obtain ⟨s0, s1⟩ : _ ∧ _ := ⟨show (w.alloc (.cells (opA kd a b (.slice ba bn bc)) 30)).cell? ⟨σ, 0, none⟩ = some (ptr φ) from by simp [World.cell?, HS1.out], show (w.alloc (.cells (opA kd a b (.slice ba bn bc)) 30)).cell? ⟨σ, 1, none⟩ = some (ptr π) from by simp [World.cell?, HS1.out]⟩
  clear h hok hv ht hs hf hx0 hy0 hσn e1 hb1 T1
  go_enter Tryz.func8, Tryz.ntmps8
  go_upto_region 1 with fail
  generalize (w.alloc (.cells (opA kd a b (.slice ba bn bc)) 30)) = w1 at *
  by_cases h0 : kd = 0
  · subst h0
    have HE := Lib.hid (HDO.out.trans (if_pos rfl))
    go_upto_region 10 with fail
    refine region_begin3 (fun w' => w'.cell? ⟨σ, 0, none⟩ = some (ptr φ) ∧ w'.cell? ⟨w.heap.size, 3, none⟩ = some (.slice ba bn bc)) (fun _ => false) 7 rfl hmx (by intro _ _ d _ _ h; cases d <;> exact h) fun hQP => ?_
    have hS : w1.drew.cell? ⟨σ, 0, none⟩ = some (ptr φ) ∧ w1.drew.cell? ⟨w.heap.size, 3, none⟩ = some (.slice ba bn bc) := ⟨s0, o3⟩
    have hd : Below w1.heap.size w1 w1.drew := (Below.refl _ _).drew
    have HD := Lib.hid (HB1.out.trans (hd.mono HB1.out.size))
    have HC := Lib.hid (bytes_any X0 φ π s.W s.f ba bn bc l w1.drew (by obtain ⟨ov, h⟩ := HF1.out; exact ⟨ov, h.below hd⟩) HOK.out (HV1.out.below hd) (fun w' hw => HIN.out w' ((Turn.drew _ _).trans hw)) hl hsz)
    clear HDO hl hd s0 s1 o0 o1 o2 o3
    generalize w1.drew = w2 at *
    refine take_f 0 29 rfl rfl (by kernel_rfl) (by kernel_rfl) (by kernel_rfl) (by kernel_rfl) hQP hS (.inl ⟨by kernel_rfl, fun w' hw' => by obtain ⟨e0, e1⟩ := hw'; go_simp; try with_reducible rfl⟩) ?_
    refine take_f 1 30 rfl rfl (by kernel_rfl) (by kernel_rfl) (by kernel_rfl) (by kernel_rfl) hQP hS (.inl ⟨by kernel_rfl, fun w' hw' => by obtain ⟨e0, e1⟩ := hw'; go_simp; try with_reducible rfl⟩) ?_
    refine take_f 2 31 rfl rfl (by kernel_rfl) (by kernel_rfl) (by kernel_rfl) (by kernel_rfl) hQP hS (.inl ⟨by kernel_rfl, fun w' hw' => by obtain ⟨e0, e1⟩ := hw'; go_simp; try with_reducible rfl⟩) ?_
    refine take_f 3 32 rfl rfl (by kernel_rfl) (by kernel_rfl) (by kernel_rfl) (by kernel_rfl) hQP hS (.inl ⟨by kernel_rfl, fun w' hw' => by obtain ⟨e0, e1⟩ := hw'; go_simp; try with_reducible rfl⟩) ?_
    refine take_f 4 33 rfl rfl (by kernel_rfl) (by kernel_rfl) (by kernel_rfl) (by kernel_rfl) hQP hS (.inl ⟨by kernel_rfl, fun w' hw' => by obtain ⟨e0, e1⟩ := hw'; go_simp; try with_reducible rfl⟩) ?_
    refine take_f 5 34 rfl rfl (by kernel_rfl) (by kernel_rfl) (by kernel_rfl) (by kernel_rfl) hQP hS (.inl ⟨by kernel_rfl, fun w' hw' => by obtain ⟨e0, e1⟩ := hw'; go_simp; try with_reducible rfl⟩) ?_
    try simp only [List.setIfInBounds_toArray, List.set_cons_succ, List.set_cons_zero]
    refine take_g (i := 6) (by kernel_rfl) rfl (by kernel_rfl) fun KQ hK => ?_
    go_wp2_with fail
    refine HC.out.mono ?_
    rintro e w3 ⟨rfl, hto⟩
    have HF := Lib.hid (HTO.out _ _ _ _ HD.out hto)
    have hS3 := And.intro (hto.choose_spec.2.2.cell hS.1 HNS.out) (hto.choose_spec.2.2.cell hS.2 HNQ.out)
    refine hK _ _ (.inr hS3) ?_
    clear hK hS hS3 hto HC
    refine take_done (by kernel_rfl) ?_ _
    try simp only [List.setIfInBounds_toArray, List.set_cons_succ, List.set_cons_zero]
    go_wp2_with fail
    go_ret
    exact ⟨⟨_, rfl, fun _ => rfl⟩, by rw [HE.out]; exact HF.out⟩
  · have z0 : (kd == 0) = false := by simpa using h0
    have HK0 : Hid (∀ v : Value, kd = 0 → v = .nilIface) := Lib.hid fun _ e => absurd e h0
    have HD1 := Lib.hid (HDO.out.trans (if_neg h0))
    clear HDO hl HIN
    by_cases h1 : kd = 1
    · subst h1
      have HE := Lib.hid (HD1.out.trans (if_pos rfl))
      have HC := Lib.hid (fflush_any X0 φ π s.W s.f w1 HF1.out HOK.out HV1.out)
      clear HD1 h0
      go_wp2_with fail
      refine HC.out.mono ?_
      rintro e w3 ⟨rfl, hto⟩
      have HF := Lib.hid (HTO.out _ _ _ _ HB1.out hto)
      clear hto HC
      go_wp2_with fail
      go_ret
      exact ⟨⟨_, rfl, fun e => by omega⟩, by rw [HE.out]; exact HF.out⟩
    · have z1 : (kd == 1) = false := by simpa using h1
      have HD2 := Lib.hid (HD1.out.trans (if_neg h1))
      clear HD1
      obtain ⟨ov, hfi⟩ := HF1.out
      have HCL := Lib.hid (close_is X0 φ π s.W ov s.f w1 hfi)
      have HXF := Lib.hid hfi.xφ
      have hσφ : ¬ σ = φ := fun e => HNS.out (by rw [e]; exact hfi.xφ)
      have hqφ : ¬ w.heap.size = φ := fun e => HNQ.out (by rw [e]; exact hfi.xφ)
      clear hfi
      by_cases h13 : kd = 13
      · subst h13
        have HE := Lib.hid (HD2.out.trans (if_pos rfl))
        clear HD2 h0 h1
        go_wp2_with fail
        refine HCL.out.mono ?_
        rintro e w2 ⟨rfl, hf2, ht2⟩
        have HT2 := Lib.hid ht2
        replace s0 := ht2.cell s0 hσφ
        replace s1 := ht2.cell s1 hσφ
        replace o1 := ht2.cell o1 hqφ
        replace o2 := ht2.cell o2 hqφ
        clear ht2 HCL
        obtain ⟨γ, β, Q, hp⟩ := hf2.pen
        obtain ⟨X1, hp1, hx1, hy1⟩ := hp.exact
        have hd : Below w2.heap.size w2 w2.drew := (Below.refl _ _).drew
        have HSZ := Lib.hid (size_is X1 π γ β s.W Q (closeF s.f).pen a b w2.drew (hp1.below hd) (show PenOK (closeF s.f).pen s.W from HOK.out.pen))
        have HTO2 : Hid (∀ w', PenTo w2.drew X1 π (sizeP (closeF s.f).pen a b) (sizeW a) w' → ScrTo w X σ ⟨{ closeF s.f with pen := sizeP (closeF s.f).pen a b }, sizeW a⟩ w') := Lib.hid fun w' hto => by
          have h3 := (hf2.below hd).penTo_ rfl hx1 (fun b e => (hy1 b e).turn (Turn.of_new hd : Turn (fun _ => False) w2 w2.drew) id) hto
          refine HTO.out w1 w' _ _ HB1.out (FeedTo.step (fun b e => .inl e) ?_ h3)
          exact (HT2.out.mono (fun b _ e => by rw [e]; exact HXF.out)).trans (Turn.drew _ _)
        have HX1 := Lib.hid hx1
        clear hf2 hp hp1 hx1 hy1 hd HT2
        go_upto_region 15 with fail
        refine region_begin3 (fun w' => w'.cell? ⟨σ, 1, none⟩ = some (ptr π) ∧ w'.cell? ⟨w.heap.size, 1, none⟩ = some (.int .i64 a) ∧ w'.cell? ⟨w.heap.size, 2, none⟩ = some (.int .i64 b)) (fun _ => false) 9 rfl hmx (by intro _ _ d _ _ h; cases d <;> exact h) fun hQP => ?_
        have hS : w2.drew.cell? ⟨σ, 1, none⟩ = some (ptr π) ∧ w2.drew.cell? ⟨w.heap.size, 1, none⟩ = some (.int .i64 a) ∧ w2.drew.cell? ⟨w.heap.size, 2, none⟩ = some (.int .i64 b) := ⟨s1, o1, o2⟩
        clear s0 s1 o0 o1 o2 o3
        generalize w2.drew = w3 at *
        refine take_f 0 50 rfl rfl (by kernel_rfl) (by kernel_rfl) (by kernel_rfl) (by kernel_rfl) hQP hS (.inl ⟨by kernel_rfl, fun w' hw' => by obtain ⟨e0, e1, e2⟩ := hw'; go_simp; try with_reducible rfl⟩) ?_
        refine take_f 1 51 rfl rfl (by kernel_rfl) (by kernel_rfl) (by kernel_rfl) (by kernel_rfl) hQP hS (.inl ⟨by kernel_rfl, fun w' hw' => by obtain ⟨e0, e1, e2⟩ := hw'; go_simp; try with_reducible rfl⟩) ?_
        refine take_f 2 52 rfl rfl (by kernel_rfl) (by kernel_rfl) (by kernel_rfl) (by kernel_rfl) hQP hS (.inl ⟨by kernel_rfl, fun w' hw' => by obtain ⟨e0, e1, e2⟩ := hw'; go_simp; try with_reducible rfl⟩) ?_
        refine take_f 3 53 rfl rfl (by kernel_rfl) (by kernel_rfl) (by kernel_rfl) (by kernel_rfl) hQP hS (.inl ⟨by kernel_rfl, fun w' hw' => by obtain ⟨e0, e1, e2⟩ := hw'; go_simp; try with_reducible rfl⟩) ?_
        refine take_f 4 54 rfl rfl (by kernel_rfl) (by kernel_rfl) (by kernel_rfl) (by kernel_rfl) hQP hS (.inl ⟨by kernel_rfl, fun w' hw' => by obtain ⟨e0, e1, e2⟩ := hw'; go_simp; try with_reducible rfl⟩) ?_
        refine take_f 5 55 rfl rfl (by kernel_rfl) (by kernel_rfl) (by kernel_rfl) (by kernel_rfl) hQP hS (.inl ⟨by kernel_rfl, fun w' hw' => by obtain ⟨e0, e1, e2⟩ := hw'; go_simp; try with_reducible rfl⟩) ?_
        refine take_f 6 56 rfl rfl (by kernel_rfl) (by kernel_rfl) (by kernel_rfl) (by kernel_rfl) hQP hS (.inl ⟨by kernel_rfl, fun w' hw' => by obtain ⟨e0, e1, e2⟩ := hw'; go_simp; try with_reducible rfl⟩) ?_
        refine take_f 7 57 rfl rfl (by kernel_rfl) (by kernel_rfl) (by kernel_rfl) (by kernel_rfl) hQP hS (.inl ⟨by kernel_rfl, fun w' hw' => by obtain ⟨e0, e1, e2⟩ := hw'; go_simp; try with_reducible rfl⟩) ?_
        try simp only [List.setIfInBounds_toArray, List.set_cons_succ, List.set_cons_zero]
        refine take_g (i := 8) (by kernel_rfl) rfl (by kernel_rfl) fun KQ hK => ?_
        go_wp2_with fail
        refine HSZ.out.mono ?_
        rintro e w4 ⟨rfl, hto⟩
        have HF := Lib.hid (HTO2.out _ hto)
        have ht4 : Turn X1 w3 w4 := hto.choose_spec.2.2
        have hS4 := And.intro (ht4.cell hS.1 (fun e => HNS.out (HX1.out _ e))) (And.intro (ht4.cell hS.2.1 (fun e => HNQ.out (HX1.out _ e))) (ht4.cell hS.2.2 (fun e => HNQ.out (HX1.out _ e))))
        refine hK _ _ (.inr hS4) ?_
        clear hK hS hS4 ht4 hto HSZ HTO2
        refine take_done (by kernel_rfl) ?_ _
        try simp only [List.setIfInBounds_toArray, List.set_cons_succ, List.set_cons_zero]
        go_wp2_with fail
        go_ret
        exact ⟨⟨_, rfl, fun e => by omega⟩, by rw [HE.out]; exact HF.out⟩
      · have z13 : (kd == 13) = false := by simpa using h13
        have HD3 := Lib.hid (HD2.out.trans (if_neg h13))
        have HWR := Lib.hid (wrong_any kd a b ba bn bc w1 HV1.out.vars HV1.out.l1 HV1.out.l2)
        clear HD2 h0 h1 h13
        go_wp2_with (refine wpList_load_row rfl 30 _ rfl w.heap.size rfl _ (opA kd a b (.slice ba bn bc)) (0, 0) _ HE1.out Tryz.underlying30 rfl (size_op _ _ _ _) ?_)
        refine HWR.out.mono ?_
        rintro e w2 hwr
        clear HWR HCL
        have hb2 := hwr.2
        have HB2 := Lib.hid (HB1.out.trans (hb2.mono HB1.out.size))
        have T2 : Turn (fun _ => False) w1 w2 := Turn.of_new hb2
        have HE2 := Lib.hid (T2.heap HE1.out id)
        replace s0 := T2.cell s0 id
        replace s1 := T2.cell s1 id
        obtain ⟨ov, hfi⟩ := HF1.out
        have hf2 := hfi.below hb2
        have HV2 := Lib.hid (HV1.out.below hb2)
        by_cases hw0 : wrongE kd a = 0
        · have he : e = .returned .nilIface := by
            rcases hwr.1 with h | h
            · exact h.2
            · exact absurd hw0 h.1
          subst he
          have HE := Lib.hid (HD3.out.trans (if_pos hw0))
          have HCL := Lib.hid (close_is X0 φ π s.W ov s.f w2 hf2)
          clear hwr HD3 hfi hf2 T2 hb2
          go_wp2_with fail
          refine HCL.out.mono ?_
          rintro e w3 ⟨rfl, hf3, ht3⟩
          have HT3 := Lib.hid ht3
          replace s1 := ht3.cell s1 hσφ
          have he3 := ht3.heap HE2.out hqφ
          obtain ⟨γ, β, Q, hp⟩ := hf3.pen
          obtain ⟨X1, hp1, hx1, hy1⟩ := hp.exact
          have hd : Below w3.heap.size w3 w3.drew := (Below.refl _ _).drew
          have hvd : VarsX w3 X0 := HV2.out.to (ht3.mono (fun b _ e => by rw [e]; exact HXF.out)) (fun b e => .inl e)
          have HSZ := Lib.hid (edo_is X1 π γ β s.W Q (closeF s.f).pen kd a b ba bn bc w3.drew (hp1.below hd) (fun b e => (hy1 b e).turn (Turn.of_new hd : Turn (fun _ => False) w3 w3.drew) id) (show PenOK (closeF s.f).pen s.W from HOK.out.pen) ((hvd.sub hx1).below hd) hw0 ha1 ha2)
          have HTO2 : Hid (∀ w', PenTo w3.drew X1 π (editP (closeF s.f).pen kd a b s.W) s.W w' → ScrTo w X σ ⟨{ closeF s.f with pen := editP (closeF s.f).pen kd a b s.W }, s.W⟩ w') := Lib.hid fun w' hto => by
            have h3 := (hf3.below hd).penTo_ rfl hx1 (fun b e => (hy1 b e).turn (Turn.of_new hd : Turn (fun _ => False) w3 w3.drew) id) hto
            refine HTO.out w2 w' _ _ HB2.out (FeedTo.step (fun b e => .inl e) ?_ h3)
            exact (HT3.out.mono (fun b _ e => by rw [e]; exact HXF.out)).trans (Turn.drew _ _)
          have HX1 := Lib.hid hx1
          have HE3 := Lib.hid (show w3.drew.heap[w.heap.size]? = _ from he3)
          clear hf3 hp hp1 hx1 hy1 hd HT3 HCL hvd ht3 he3
          go_upto_region 8 with fail
          refine region_begin3 (fun w' => w'.cell? ⟨σ, 1, none⟩ = some (ptr π) ∧ w'.heap[w.heap.size]? = some (.cells (opA kd a b (.slice ba bn bc)) 30 (0, 0))) (fun _ => false) 7 rfl hmx (by intro _ _ d _ _ h; cases d <;> exact h) fun hQP => ?_
          have hS : w3.drew.cell? ⟨σ, 1, none⟩ = some (ptr π) ∧ w3.drew.heap[w.heap.size]? = some (.cells (opA kd a b (.slice ba bn bc)) 30 (0, 0)) := ⟨s1, HE3.out⟩
          clear s0 s1 o0 o1 o2 o3
          generalize w3.drew = w4 at *
          refine take_f 0 21 rfl rfl (by kernel_rfl) (by kernel_rfl) (by kernel_rfl) (by kernel_rfl) hQP hS (.inl ⟨by kernel_rfl, fun w' hw' => by obtain ⟨e0, e1⟩ := hw'; go_simp; try with_reducible rfl⟩) ?_
          refine take_f 1 22 rfl rfl (by kernel_rfl) (by kernel_rfl) (by kernel_rfl) (by kernel_rfl) hQP hS (.inl ⟨by kernel_rfl, fun w' hw' => by obtain ⟨e0, e1⟩ := hw'; go_simp; try with_reducible rfl⟩) ?_
          refine take_f 2 23 rfl rfl (by kernel_rfl) (by kernel_rfl) (by kernel_rfl) (by kernel_rfl) hQP hS (.inl ⟨by kernel_rfl, fun w' hw' => by obtain ⟨e0, e1⟩ := hw'; go_simp; try with_reducible rfl⟩) ?_
          refine take_f 3 24 rfl rfl (by kernel_rfl) (by kernel_rfl) (by kernel_rfl) (by kernel_rfl) hQP hS (.inl ⟨by kernel_rfl, fun w' hw' => by obtain ⟨e0, e1⟩ := hw'; go_simp; try with_reducible rfl⟩) ?_
          try simp only [List.setIfInBounds_toArray, List.set_cons_succ, List.set_cons_zero]
          refine take_f 4 25 rfl rfl (by kernel_rfl) (by kernel_rfl) (by kernel_rfl) (by kernel_rfl) hQP hS (yields_load_row 30 (.tmp 3) rfl (by kernel_rfl) w.heap.size (by rfl) _ (opA kd a b (.slice ba bn bc)) _ _ (fun w' hw' => hw'.2) Tryz.underlying30 rfl (size_op _ _ _ _)) ?_
          try simp only [List.setIfInBounds_toArray, List.set_cons_succ, List.set_cons_zero]
          refine take_g (i := 5) (by kernel_rfl) rfl (by kernel_rfl) fun KQ hK => ?_
          go_wp2_with fail
          refine HSZ.out.mono ?_
          rintro e w5 ⟨rfl, hto⟩
          have HF := Lib.hid (HTO2.out _ hto)
          have ht4 : Turn X1 w4 w5 := hto.choose_spec.2.2
          have hS4 := And.intro (ht4.cell hS.1 (fun e => HNS.out (HX1.out _ e))) (ht4.heap hS.2 (fun e => HNQ.out (HX1.out _ e)))
          refine hK _ _ (.inr hS4) ?_
          clear hK hS ht4 hto HSZ HTO2
          have hS := hS4
          refine take_f 6 4 rfl rfl (by kernel_rfl) (by kernel_rfl) (by kernel_rfl) (by kernel_rfl) hQP hS (.inl ⟨by kernel_rfl, fun w' hw' => by obtain ⟨e0, e1⟩ := hw'; go_simp; try with_reducible rfl⟩) ?_
          refine take_done (by kernel_rfl) ?_ _
          try simp only [List.setIfInBounds_toArray, List.set_cons_succ, List.set_cons_zero]
          clear hS hS4
          go_wp2_with fail
          go_ret
          exact ⟨⟨_, rfl, HK0.out _⟩, by rw [HE.out]; exact HF.out⟩
        · obtain ⟨t, v, rfl⟩ : ∃ t v, e = .returned (.iface t v) := by
            rcases hwr.1 with h | h
            · exact absurd h.1 hw0
            · exact h.2
          have HF : Hid (ScrTo w X σ (doS s ⟨kd, a, b, l⟩) w2) := Lib.hid (by
            rw [HD3.out, if_neg hw0]
            exact HTO.out w2 w2 s.f s.W HB2.out (FeedTo.refl ⟨ov, hf2⟩))
          clear hwr hfi hf2 T2 hb2
          go_wp2_with fail
          go_ret
          exact ⟨⟨_, rfl, HK0.out _⟩, HF.out⟩
end Go.Proofs.YtjicdcmdgbcdcaaGreatDoor.Scr
end
section
namespace Go.Proofs.YtjicdcmdgbcdcaaGreatDoor.Scr
set_option linter.unusedSimpArgs false
set_option linter.unusedVariables false
open Go Go.RowKit Mem Turn Ring

abbrev viewA (wd ht : Int) (v : Value) (r c : Int) (pb au : Bool) : Array Value := #[.int .i64 wd, .int .i64 ht, v, .int .i64 r, .int .i64 c, .bool pb, .bool au]
def viewV (s : ScrC) (v : Value) : Value := .agg (viewA s.W s.f.pen.rows.length v s.f.pen.at_.row s.f.pen.at_.col s.f.pen.at_.pend s.f.pen.auto)
theorem one_view (wd ht : Int) (a : Option Addr) (n c2 : Nat) (r c : Int) (pb au : Bool) : (viewA wd ht (.slice a n c2) r c pb au).all (·.oneCell') = true := by simp [viewA, Value.oneCell']
theorem size_view (wd ht : Int) (v : Value) (r c : Int) (pb au : Bool) : (Tryz.prog.info? 38).map (·.size) = some (viewA wd ht v r c pb au).size := by kernel_rfl

set_option maxRecDepth 100000 in
set_option maxHeartbeats 16000000 in
theorem view_any (X : Nat → Prop) (σ : Nat) (s : ScrC) (w : World) (h : ScrAt w X σ s) (hW : s.W ≤ 1024) :
    Calls Tryz.prog 9 #[ptr σ] w fun e w' => ∃ v, e = .returned (viewV s v) ∧ OwnLines w.heap.size w' v s.f.pen.rows ∧ Below w.heap.size w w' := by
  have hmx : Tryz.prog.follows .mixedOrders = true := by kernel_rfl
  obtain ⟨φ, π, hs, _, ov, hf⟩ := h
  obtain ⟨γ, β, Q, hp⟩ := hf.pen
  have s1 : w.cell? ⟨σ, 1, none⟩ = some (ptr π) := by simp [World.cell?, hs]
  have hz : Hid (viewV s = fun v => .agg (viewA s.W s.f.pen.rows.length v s.f.pen.at_.row s.f.pen.at_.col s.f.pen.at_.pend s.f.pen.auto)) := Lib.hid rfl
  have hb1 : Below w.heap.size w (w.alloc (.cells (viewA 0 0 (.slice none 0 0) 0 0 false false) 38)) := (Below.refl _ _).alloc (Nat.le_refl _) _
  have HN1 := Lib.hid (heap_alloc_new w (.cells (viewA 0 0 (.slice none 0 0) 0 0 false false) 38))
  have T1 : Turn (fun _ => False) w (w.alloc (.cells (viewA 0 0 (.slice none 0 0) 0 0 false false) 38)) := Turn.of_new hb1
  have hs1 : (w.alloc (.cells (viewA 0 0 (.slice none 0 0) 0 0 false false) 38)).heap.size = w.heap.size + 1 := by simp
  replace s1 := T1.cell s1 id
  have hp1 := hp.below hb1
  have HP1 := Lib.hid hp1
  have HB1 := Lib.hid hb1
  obtain ⟨c0, c1, c2, c3, c4, _⟩ := hp1.cells
  clear hs hf hp T1 hb1 hp1
  go_enter Tryz.func9, Tryz.ntmps9
  go_upto_region 1 with fail
  generalize (w.alloc (.cells (viewA 0 0 (.slice none 0 0) 0 0 false false) 38)) = w1 at *
  have hrl := HP1.out.rows.len
  have HHI : Hid (∀ W', Below w1.heap.size w1 W' → Calls Tryz.prog 37 #[ptr γ] W' fun e w' => e = .returned (.int .i64 (s.f.pen.rows.length : Int)) ∧ W' = w') := Lib.hid fun W' hb => by
    have := high_any γ β _ W' (HP1.out.below hb).grid
    rw [List.length_map, hrl] at this
    exact this
  have HWI : Hid (∀ W', Below w1.heap.size w1 W' → Calls Tryz.prog 36 #[ptr γ] W' fun e w' => e = .returned (.int .i64 (s.W : Int)) ∧ W' = w') := Lib.hid fun W' hb => gwide_any γ β s.W _ W' (HP1.out.below hb).grid (HP1.out.below hb).rows.all
  have HLI : Hid (∀ W', Below w1.heap.size w1 W' → Calls Tryz.prog 38 #[ptr γ] W' fun e w' => ∃ v, e = .returned v ∧ OwnLines W'.heap.size w' v s.f.pen.rows ∧ Below W'.heap.size W' w') := Lib.hid fun W' hb => lines_any γ β s.W X Q _ W' (HP1.out.below hb).grid (HP1.out.below hb).rows hW
  generalize hqL : s.f.pen.rows = L at *
  generalize hqHn : L.length = Hn at *
  generalize hqr : s.f.pen.at_.row = r at *
  generalize hqcc : s.f.pen.at_.col = cc at *
  generalize hqpb : s.f.pen.at_.pend = pb at *
  generalize hqau : s.f.pen.auto = au at *
  generalize hqWW : s.W = WW at *
  have HVV : Hid (∀ v, viewV s v = .agg (viewA WW Hn v r cc pb au) ∧ s.f.pen.rows = L) := Lib.hid fun v => by
    refine ⟨?_, hqL⟩
    unfold viewV
    rw [hqL, hqHn, hqr, hqcc, hqpb, hqau, hqWW]
  clear hz hrl hqL hqHn hqr hqcc hqpb hqau hqWW
  go_upto_region 4 with fail
  refine region_begin3 (fun w' => w'.cell? ⟨σ, 1, none⟩ = some (ptr π) ∧ w'.cell? ⟨π, 1, none⟩ = some (.int .i64 r) ∧ w'.cell? ⟨π, 2, none⟩ = some (.int .i64 cc) ∧ w'.cell? ⟨π, 3, none⟩ = some (.bool pb) ∧ w'.cell? ⟨π, 4, none⟩ = some (.bool au)) (fun j => j == 21) 22 rfl hmx (by intro _ _ d _ _ h; cases d <;> exact h) fun hQP => ?_
  have hS : w1.drew.cell? ⟨σ, 1, none⟩ = some (ptr π) ∧ w1.drew.cell? ⟨π, 1, none⟩ = some (.int .i64 r) ∧ w1.drew.cell? ⟨π, 2, none⟩ = some (.int .i64 cc) ∧ w1.drew.cell? ⟨π, 3, none⟩ = some (.bool pb) ∧ w1.drew.cell? ⟨π, 4, none⟩ = some (.bool au) := ⟨s1, c1, c2, c3, c4⟩
  have HD : Hid (Below w1.heap.size w1 w1.drew) := Lib.hid (Below.refl _ _).drew
  clear c0 c1 c2 c3 c4 s1
  generalize w1.drew = w2 at *
  refine take_f 0 14 rfl rfl (by kernel_rfl) (by kernel_rfl) (by kernel_rfl) (by kernel_rfl) hQP hS (.inl ⟨by kernel_rfl, fun w' hw' => by obtain ⟨e0, e1, e2, e3, e4⟩ := hw'; go_simp; try with_reducible rfl⟩) ?_
  refine take_f 2 16 rfl rfl (by kernel_rfl) (by kernel_rfl) (by kernel_rfl) (by kernel_rfl) hQP hS (.inl ⟨by kernel_rfl, fun w' hw' => by obtain ⟨e0, e1, e2, e3, e4⟩ := hw'; go_simp; try with_reducible rfl⟩) ?_
  refine take_f 4 18 rfl rfl (by kernel_rfl) (by kernel_rfl) (by kernel_rfl) (by kernel_rfl) hQP hS (.inl ⟨by kernel_rfl, fun w' hw' => by obtain ⟨e0, e1, e2, e3, e4⟩ := hw'; go_simp; try with_reducible rfl⟩) ?_
  refine take_f 6 20 rfl rfl (by kernel_rfl) (by kernel_rfl) (by kernel_rfl) (by kernel_rfl) hQP hS (.inl ⟨by kernel_rfl, fun w' hw' => by obtain ⟨e0, e1, e2, e3, e4⟩ := hw'; go_simp; try with_reducible rfl⟩) ?_
  refine take_f 7 21 rfl rfl (by kernel_rfl) (by kernel_rfl) (by kernel_rfl) (by kernel_rfl) hQP hS (.inl ⟨by kernel_rfl, fun w' hw' => by obtain ⟨e0, e1, e2, e3, e4⟩ := hw'; go_simp; try with_reducible rfl⟩) ?_
  refine take_f 8 22 rfl rfl (by kernel_rfl) (by kernel_rfl) (by kernel_rfl) (by kernel_rfl) hQP hS (.inl ⟨by kernel_rfl, fun w' hw' => by obtain ⟨e0, e1, e2, e3, e4⟩ := hw'; go_simp; try with_reducible rfl⟩) ?_
  refine take_f 9 23 rfl rfl (by kernel_rfl) (by kernel_rfl) (by kernel_rfl) (by kernel_rfl) hQP hS (.inl ⟨by kernel_rfl, fun w' hw' => by obtain ⟨e0, e1, e2, e3, e4⟩ := hw'; go_simp; try with_reducible rfl⟩) ?_
  refine take_f 10 24 rfl rfl (by kernel_rfl) (by kernel_rfl) (by kernel_rfl) (by kernel_rfl) hQP hS (.inl ⟨by kernel_rfl, fun w' hw' => by obtain ⟨e0, e1, e2, e3, e4⟩ := hw'; go_simp; try with_reducible rfl⟩) ?_
  refine take_f 11 25 rfl rfl (by kernel_rfl) (by kernel_rfl) (by kernel_rfl) (by kernel_rfl) hQP hS (.inl ⟨by kernel_rfl, fun w' hw' => by obtain ⟨e0, e1, e2, e3, e4⟩ := hw'; go_simp; try with_reducible rfl⟩) ?_
  refine take_f 12 26 rfl rfl (by kernel_rfl) (by kernel_rfl) (by kernel_rfl) (by kernel_rfl) hQP hS (.inl ⟨by kernel_rfl, fun w' hw' => by obtain ⟨e0, e1, e2, e3, e4⟩ := hw'; go_simp; try with_reducible rfl⟩) ?_
  refine take_f 13 27 rfl rfl (by kernel_rfl) (by kernel_rfl) (by kernel_rfl) (by kernel_rfl) hQP hS (.inl ⟨by kernel_rfl, fun w' hw' => by obtain ⟨e0, e1, e2, e3, e4⟩ := hw'; go_simp; try with_reducible rfl⟩) ?_
  refine take_f 14 28 rfl rfl (by kernel_rfl) (by kernel_rfl) (by kernel_rfl) (by kernel_rfl) hQP hS (.inl ⟨by kernel_rfl, fun w' hw' => by obtain ⟨e0, e1, e2, e3, e4⟩ := hw'; go_simp; try with_reducible rfl⟩) ?_
  refine take_f 15 29 rfl rfl (by kernel_rfl) (by kernel_rfl) (by kernel_rfl) (by kernel_rfl) hQP hS (.inl ⟨by kernel_rfl, fun w' hw' => by obtain ⟨e0, e1, e2, e3, e4⟩ := hw'; go_simp; try with_reducible rfl⟩) ?_
  refine take_f 16 30 rfl rfl (by kernel_rfl) (by kernel_rfl) (by kernel_rfl) (by kernel_rfl) hQP hS (.inl ⟨by kernel_rfl, fun w' hw' => by obtain ⟨e0, e1, e2, e3, e4⟩ := hw'; go_simp; try with_reducible rfl⟩) ?_
  refine take_f 17 31 rfl rfl (by kernel_rfl) (by kernel_rfl) (by kernel_rfl) (by kernel_rfl) hQP hS (.inl ⟨by kernel_rfl, fun w' hw' => by obtain ⟨e0, e1, e2, e3, e4⟩ := hw'; go_simp; try with_reducible rfl⟩) ?_
  refine take_f 18 32 rfl rfl (by kernel_rfl) (by kernel_rfl) (by kernel_rfl) (by kernel_rfl) hQP hS (.inl ⟨by kernel_rfl, fun w' hw' => by obtain ⟨e0, e1, e2, e3, e4⟩ := hw'; go_simp; try with_reducible rfl⟩) ?_
  refine take_f 19 33 rfl rfl (by kernel_rfl) (by kernel_rfl) (by kernel_rfl) (by kernel_rfl) hQP hS (.inl ⟨by kernel_rfl, fun w' hw' => by obtain ⟨e0, e1, e2, e3, e4⟩ := hw'; go_simp; try with_reducible rfl⟩) ?_
  try simp only [List.setIfInBounds_toArray, List.set_cons_succ, List.set_cons_zero]
  refine take_g (i := 1) (by kernel_rfl) rfl (by kernel_rfl) fun KQ hK => ?_
  go_wp2_with fail
  refine (HWI.out _ HD.out).mono ?_
  rintro e wx ⟨rfl, rfl⟩
  refine hK _ _ (.inr hS) ?_
  clear hK HWI
  try simp only [List.setIfInBounds_toArray, List.set_cons_succ, List.set_cons_zero]
  refine take_g (i := 3) (by kernel_rfl) rfl (by kernel_rfl) fun KQ hK => ?_
  go_wp2_with fail
  refine (HHI.out _ HD.out).mono ?_
  rintro e wx ⟨rfl, rfl⟩
  refine hK _ _ (.inr hS) ?_
  clear hK HHI
  try simp only [List.setIfInBounds_toArray, List.set_cons_succ, List.set_cons_zero]
  refine take_g (i := 5) (by kernel_rfl) rfl (by kernel_rfl) fun KQ hK => ?_
  go_wp2_with fail
  refine (HLI.out _ HD.out).mono ?_
  rintro e w3 ⟨v, rfl, ho, hb3⟩
  obtain ⟨av, cv, hav⟩ := Turn.own_slice ho.choose_spec.1
  subst hav
  have T3 : Turn (fun _ => False) w2 w3 := Turn.of_new hb3
  have hS3 := And.intro (T3.cell hS.1 id) (And.intro (T3.cell hS.2.1 id) (And.intro (T3.cell hS.2.2.1 id) (And.intro (T3.cell hS.2.2.2.1 id) (T3.cell hS.2.2.2.2 id))))
  refine hK _ _ (.inr hS3) ?_
  clear hK HLI hS T3
  have hS := hS3
  refine take_f 20 34 rfl rfl (by kernel_rfl) (by kernel_rfl) (by kernel_rfl) (by kernel_rfl) hQP hS (.inl ⟨by kernel_rfl, fun w' hw' => by obtain ⟨e0, e1, e2, e3, e4⟩ := hw'; go_simp; try with_reducible rfl⟩) ?_
  try simp only [List.setIfInBounds_toArray, List.set_cons_succ, List.set_cons_zero]
  have hb13 := HD.out.trans (hb3.mono HD.out.size)
  have hnew := (Turn.of_new hb13 : Turn (fun _ => False) w1 w3).heap HN1.out id
  have HO := Lib.hid ho
  have HB3 := Lib.hid (HB1.out.trans (hb13.mono (by omega)))
  have hsz2 : w.heap.size < w2.heap.size := by have := HD.out.size; omega
  clear ho hb3 hb13
  refine take_store_row 21 (by kernel_rfl) rfl rfl rfl 38 (.tmp 2) (.tmp 34) rfl w.heap.size (viewA WW Hn (.slice av L.length cv) r cc pb au) (by rfl) (by rfl) 38 (viewA 0 0 (.slice none 0 0) 0 0 false false) hnew (size_view _ _ _ _ _ _ _) rfl (one_view _ _ _ _ _ _ _ _ _) (.inl rfl) ?_
  have HF : Hid (((w3.setRow w.heap.size (viewA WW Hn (.slice av L.length cv) r cc pb au)).heap[w.heap.size]? = some (.cells (viewA WW Hn (.slice av L.length cv) r cc pb au) 38 (0, 0))) ∧ OwnLines w.heap.size (w3.setRow w.heap.size (viewA WW Hn (.slice av L.length cv) r cc pb au)) (.slice av L.length cv) L ∧ Below w.heap.size w (w3.setRow w.heap.size (viewA WW Hn (.slice av L.length cv) r cc pb au))) := Lib.hid (by
    have T := turn_setRow w3 w.heap.size (viewA WW Hn (.slice av L.length cv) r cc pb au)
    have hty : Typ w3 38 w.heap.size := ⟨_, _, hnew⟩
    refine ⟨setRow_heap w3 w.heap.size _ _ _ (0, 0) hnew, ?_, HB3.out.trans (T.below HB3.out.size (fun j e => by rw [e]; exact Nat.le_refl _))⟩
    obtain ⟨rs, h1, h2⟩ := HO.out
    refine ⟨rs, owns_base (T.kept h1 (fun g hg e => ?_)) (Nat.le_of_lt hsz2), h2.turn T (fun b e _ => by subst e; exact hty.not (by decide)) (fun b e _ => by subst e; exact hty.not (by decide))⟩
    subst e
    exact hty.not (by decide) (owns_typ h1 hg))
  generalize (w3.setRow w.heap.size (viewA WW Hn (.slice av L.length cv) r cc pb au)) = w5 at *
  clear hS hS3 hnew
  refine take_done (by kernel_rfl) ?_ _
  try simp only [List.setIfInBounds_toArray, List.set_cons_succ, List.set_cons_zero]
  go_wp2_with fail
  refine bodyPost_ret (results_cell_row rfl _ _ w.heap.size 38 _ (0, 0) _ rfl HF.out.1 Tryz.underlying38 rfl (size_view _ _ _ _ _ _ _)) rfl ?_
  exact ⟨.slice av L.length cv, by rw [(HVV.out _).1], by rw [(HVV.out (.bool true)).2]; exact HF.out.2.1, HF.out.2.2⟩
end Go.Proofs.YtjicdcmdgbcdcaaGreatDoor.Scr
end

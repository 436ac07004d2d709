/-
  linotypetop.TopCuts.
-/
import Derived.Test.YtjicdcmdgbcdcaaGreatDoorCd47
import Derived.Test.YtjicdcmdgbcdcaaGreatDoorCd48
import Derived.Test.YtjicdcmdgbcdcaaGreatDoorCd49
import Derived.Test.YtjicdcmdgbcdcaaGreatDoorCd50
import Derived.BigQuiet
section
namespace Go.Proofs.YtjicdcmdgbcdcaaGreatDoor.Scr
set_option linter.unusedSimpArgs false
set_option linter.unusedVariables false
open Go Go.RowKit Mem Turn Ring

theorem bytesF_app (W : Nat) (b : List Int) : ∀ (a : List Int) (f : FeedC), bytesF W f (a ++ b) = bytesF W (bytesF W f a) b
  | [], _ => rfl
  | x :: a, f => bytesF_app W b a (byteF W f x)
/-- bytes brought one piece behind the other -/
noncomputable def bring (s : ScrC) (l : List Int) : ScrC := { s with f := bytesF s.W s.f l }
theorem doS_bring (s : ScrC) (a b : Int) (l : List Int) : doS s ⟨0, a, b, l⟩ = bring s l := rfl
theorem bring_app (s : ScrC) (a b : List Int) : bring s (a ++ b) = bring (bring s a) b := by
  unfold bring
  rw [bytesF_app]
theorem len_flat (L : List (List Int)) (x : List Int) (h : x ∈ L) : x.length ≤ L.flatten.length := by
  induction L with
  | nil => cases h
  | cons y L ih =>
    rw [List.flatten_cons, List.length_append]
    rcases List.mem_cons.1 h with rfl | h
    · omega
    · have := ih h; omega
theorem bring_piece (s : ScrC) (P : List (Value × List Int)) (k : Nat) (x : Value × List Int) (h : P[k]? = some x) : bring s ((P.take (k + 1)).map (·.2)).flatten = bring (bring s ((P.take k).map (·.2)).flatten) x.2 := by
  rw [List.take_add_one, h, List.map_append, List.flatten_append, bring_app]
  simp
theorem own_len {w : World} {base : Nat} {e : TypeId} {n : Nat} {v : Value} {xs : List Value} (h : w.ownsRow base e 1 v n xs) : n ≤ 9223372036854775807 := by
  have h1 := h.1
  rcases h.2 with ⟨_, hx⟩ | ⟨g', cap', cur, hv, hb, hg, hn, hcap, hsz, htk⟩
  · rw [hx] at h1
    simp at h1
    omega
  · unfold maxLen at hcap
    omega
theorem two_new {N : Nat} {w0 w1 w2 : World} {σ τ : Nat} {s t : ScrC} (h1 : Live N w0 w1 σ s) (h2 : Live w1.heap.size w1 w2 τ t) (hτ : w1.heap.size ≤ τ) (hN : N ≤ w0.heap.size) : Two N w0 w2 σ τ s t := by
  obtain ⟨⟨X, a1, a2⟩, k1, b1⟩ := h1
  obtain ⟨⟨Y, c1, c2⟩, k2, b2⟩ := h2
  obtain ⟨X0, g1, g2⟩ := Own1.of a1
  obtain ⟨Y0, g3, g4⟩ := Own1.of c1
  have T : Turn (fun _ => False) w1 w2 := Turn.of_new b2
  have hs := b1.size
  have hx : ∀ b, X0 b → b < w1.heap.size := fun b hb => (g1.typ b hb).lt_
  have hσ := g1.lt
  refine ⟨⟨X0, Y0, g1.turn T (Free.no _ _) (fun _ _ => id) id, g3, fun b hb hy => ?_, fun hb => ?_, fun hb => ?_, fun b hb => a2 b (g2 b hb), fun b hb => ?_⟩, k1, k2, fun e => by omega, b1.trans (b2.mono (by omega))⟩
  · have := hx b hb
    have := c2 b (g4 b hy)
    omega
  · have := hx _ hb
    omega
  · have := c2 _ (g4 _ hb)
    omega
  · have := c2 b (g4 b hb)
    omega
theorem bytes_own {w : World} {B n : Nat} {v : Value} {xs : List Int} (h : w.ownsRow B 5 1 v n (xs.map (Value.int .u8))) : ∃ a c, v = .slice a n c ∧ Same.Ints .u8 w a n xs := by
  have hl : xs.length = n := by have := h.1; simp at this; omega
  obtain ⟨a, c, rfl, hc, h4⟩ := own_form h
  refine ⟨a, c, rfl, hl, h4.imp id ?_⟩
  rintro ⟨g, e, _, _, hg, _, hcell⟩
  exact ⟨g, 0, e, hg, fun i x hx => by rw [Nat.zero_add]; exact hcell i _ (by rw [List.getElem?_map, hx]; rfl)⟩
/-- what Do may turn -/
def DoT (N : Nat) (w : World) (b : Nat) : Prop := FeedTyp w b ∧ N ≤ b
theorem DoT.u8 {N : Nat} {w : World} {b : Nat} (h : DoT N w b) : ¬ Typ w 5 b := h.1.not (by decide)
theorem DoT.bs {N : Nat} {w : World} {b : Nat} (h : DoT N w b) : ¬ Typ w 28 b := h.1.not (by decide)
theorem Pieces.done {N B : Nat} {w w' : World} {v : Value} {P : List (Value × List Int)} (h : Pieces w B v P) (ht : Turn (DoT N w) w w') : Pieces w' B v P :=
  h.turn ht (fun _ e _ => e.bs) (fun _ e _ => e.u8)
/-- an operation that came in, done -/
theorem two_in {N : Nat} {w0 w : World} {σ τ : Nat} {s t : ScrC} (h : Two N w0 w σ τ s t) (hv : VarsN N w0) (o : OpC) (ba : Option Addr) (n bc : Nat) (hn : o.bytes.length = n) (hin : Lies N w0 ba n o.bytes) (hr : OpRng o) :
    Calls Tryz.prog 8 #[ptr σ, opV o.kind o.a o.b (.slice ba n bc)] w fun e w' => RetN o.kind e ∧ Two N w0 w' σ τ (doS s o) t := by
  refine (two_do h hv o ba n bc hn (fun w' ht => hin w' (h.bel.trans (ht.below (by have := h.bel.size; have := hv.2.2.2; omega) (fun b e => e.2)))) hr).mono ?_
  rintro e w' ⟨h1, h2, _⟩
  exact ⟨h1, h2⟩
/-- a piece, fed -/
theorem two_piece {N B : Nat} {w0 w : World} {σ τ : Nat} {s t : ScrC} (h : Two N w0 w σ τ s t) (hv : VarsN N w0) (v : Value) (P : List (Value × List Int)) (hp : Pieces w B v P) (k : Nat) (x : Value × List Int) (hx : P[k]? = some x) (hr : ∀ r ∈ x.2, 0 ≤ r ∧ r ≤ 255) (hl : x.2.length ≤ 140737488351232) :
    Calls Tryz.prog 8 #[ptr τ, opV 0 0 0 x.1] w fun e w' => RetN 0 e ∧ Two N w0 w' σ τ s (bring t x.2) ∧ Pieces w' B v P := by
  obtain ⟨a, c, e, hi⟩ := bytes_own (hp.2 x (List.mem_of_getElem? hx))
  rw [e]
  refine (two_do h.swap hv ⟨0, 0, 0, x.2⟩ a x.2.length c rfl (fun w' ht => ?_) ⟨by simp, by simp, hr, hl⟩).mono ?_
  · obtain ⟨a', c', e', hi'⟩ := bytes_own ((hp.done ht).2 x (List.mem_of_getElem? hx))
    rw [e] at e'
    injection e' with e1
    subst e1
    exact hi'
  · rintro e w' ⟨h1, h2, ht⟩
    rw [doS_bring] at h2
    exact ⟨h1, h2.swap, hp.done ht⟩
theorem two_held {N : Nat} {w0 w : World} {σ τ : Nat} {s t : ScrC} (h : Two N w0 w σ τ s t) : Calls Tryz.prog 24 #[ptr σ] w fun e w' => e = .returned (.int .i64 s.f.dec.held) ∧ w = w' := by
  obtain ⟨⟨X, Y, h1, _⟩, _⟩ := h
  exact sheld_any X σ s w h1.at_
theorem two_open {N : Nat} {w0 w : World} {σ τ : Nat} {s t : ScrC} (h : Two N w0 w σ τ s t) : Calls Tryz.prog 26 #[ptr σ] w fun e w' => (∃ a c, e = .returned (.slice a (openT s.f).length c) ∧ Same.Ints .i32 w' a (openT s.f).length (openT s.f)) ∧ Below w.heap.size w w' := by
  obtain ⟨⟨X, Y, h1, _⟩, _⟩ := h
  exact sopen_any X σ s w h1.at_
theorem openT_len {f : FeedC} {W : Nat} (h : FeedOK f W) : (openT f).length ≤ 16 := by
  unfold openT
  split
  · rename_i c e
    exact (h.opn c e).le
  · simp
theorem IsOps.part {w : World} {a : Option Addr} {n c : Nat} {ops : List OpC} (h : IsOps w a n c ops) {k : Nat} {o : OpC} (ho : ops[k]? = some o) : ∃ b off ba bc, a = some ⟨b, off, none⟩ ∧ (∀ w', Below w.heap.size w w' → w'.rangeAt b (off + k * 4) [.int .i64 o.kind, .int .i64 o.a, .int .i64 o.b, .slice ba o.bytes.length bc]) ∧ Lies w.heap.size w ba o.bytes.length o.bytes ∧ OpRng o ∧ ∀ w', Below w.heap.size w w' → BytesIn w' (.slice ba o.bytes.length bc) o.bytes := by
  obtain ⟨b, off, ba, bc, rfl, hb, h1, h2, h3⟩ := h.lies ho
  refine ⟨b, off, ba, bc, rfl, h1, h2, h3, fun w' hw => ?_⟩
  have hi := (h2 w' hw).2
  have hle : o.bytes.length ≤ bc := by
    obtain ⟨g1, g2, g3, g4, g5⟩ := h
    have hk := (List.getElem?_eq_some_iff.1 ho).1
    obtain ⟨b', off', e, hb', hc⟩ := g5.resolve_left (by omega)
    obtain ⟨_, _, _, ba', bc', c3, c4, _⟩ := hc k o ho
    injection e with e
    injection e with e1 e2
    subst e1 e2
    have := h1 w (Below.refl _ _) 3 _ rfl
    rw [c3] at this
    injection this with this
    injection this with _ _ this
    omega
  refine ⟨_, _, rfl, hle, by have := h3.len; omega, ?_⟩
  rcases hi with hi | ⟨b', off', e, hl, hc⟩
  · exact .inl hi
  · exact .inr ⟨b', off', e, hl, hc⟩

set_option maxRecDepth 100000 in
set_option maxHeartbeats 16000000 in
theorem top_cuts (dw dh : Int) (a : Option Addr) (n c : Nat) (ops : List OpC) (aa : Option Addr) (m ac : Nat) (zs : List Int) (w : World) (hv : VarsN w.heap.size w) (ho : IsOps w a n c ops) (ha : Same.Ints .i64 w aa m zs) :
    Calls Tryz.prog 5 #[.agg #[.int .i64 dw, .int .i64 dh], .slice a n c, .slice aa m ac] w fun e w' => e = .returned (.bool true) ∧ Below w.heap.size w w' := by
  have hmx : Tryz.prog.follows .mixedOrders = true := by kernel_rfl
  have hb1 : Below w.heap.size w (w.alloc (.cells #[.int .i64 dw, .int .i64 dh] 23)) := (Below.refl _ _).alloc (Nat.le_refl _) _
  have hn1 := heap_alloc_new w (.cells #[.int .i64 dw, .int .i64 dh] 23)
  have hs1 : (w.alloc (.cells #[.int .i64 dw, .int .i64 dh] 23)).heap.size = w.heap.size + 1 := by simp
  have HV := Lib.hid hv
  have HO := Lib.hid ho
  have HA := Lib.hid ha
  have HB1 := Lib.hid hb1
  have HN1 := Lib.hid hn1
  have HS1 := Lib.hid hs1
  have hnb := ho.2.2.1
  clear hv ho ha hb1 hn1 hs1
  go_enter Tryz.func5, Tryz.ntmps5
  go_upto_region 1 with fail
  generalize (w.alloc (.cells #[.int .i64 dw, .int .i64 dh] 23)) = w1 at *
  have HPL := Lib.hid (fun (w2 : World) (hb : Below w.heap.size w w2) => plays_ok w2 (HV.out.up hb hb.size (Nat.le_refl _)))
  have HGR := Lib.hid (fun (w2 : World) (hb : Below w.heap.size w w2) => great_any a n c ops w2 (HO.out.below hb))
  go_cut [24] (fun s wx => (∃ big, s = .bool big ∧ (big = false → m ≤ 40)) ∧ Hid (Below w.heap.size w wx ∧ wx.heap[w.heap.size]? = some (.cells #[.int .i64 dw, .int .i64 dh] 23 (0, 0))))
  case first =>
    go_wp2_with fail
    refine (HPL.out w1 HB1.out).mono ?_
    rintro e w2 ⟨rfl, hb2⟩
    have hn2 := (Turn.of_new hb2 : Turn (fun _ => False) w1 w2).heap HN1.out id
    have HF : Hid (Below w.heap.size w w2 ∧ w2.heap[w.heap.size]? = some (.cells #[.int .i64 dw, .int .i64 dh] 23 (0, 0))) := Lib.hid ⟨HB1.out.trans (hb2.mono (by have := HS1.out; omega)), hn2⟩
    clear hb2 hn2
    go_wp2_with fail
    refine (HGR.out w2 HF.out.1).mono ?_
    rintro e w3 ⟨⟨g, rfl⟩, rfl⟩
    cases g
    · rcases hd0 : decide ((40 : Int) < (m : Int)) with _ | _
      · go_wp2_with fail
        go_meet
        exact ⟨⟨_, rfl, fun _ => by simp at hd0; omega⟩, HF⟩
      · go_wp2_with fail
        go_meet
        exact ⟨⟨_, rfl, fun h => by cases h⟩, HF⟩
    · go_wp2_with fail
      go_meet
      exact ⟨⟨_, rfl, fun h => by cases h⟩, HF⟩
  case rest =>
    obtain ⟨⟨big, rfl, hbig⟩, hwc⟩ := hcut
    obtain ⟨hbc, hnc⟩ := hwc.out
    have HBC := Lib.hid hbc
    have c0 : wc.cell? ⟨w.heap.size, 0, none⟩ = some (.int .i64 dw) := by simp [World.cell?, hnc]
    have c1 : wc.cell? ⟨w.heap.size, 1, none⟩ = some (.int .i64 dh) := by simp [World.cell?, hnc]
    clear hbc hnc hwc HB1 HN1 HS1
    cases big
    · have hm40 : m ≤ 40 := hbig rfl
      clear hbig HPL HGR
      go_upto_region 3 with fail
      change Code.wp _ _ _ ⟨_, _⟩ _
      go_cut [7, 8] (fun s7 s8 wx => (∃ x y : Int, s7 = .int .i64 x ∧ s8 = .int .i64 y) ∧ Hid (Below w.heap.size w wx))
      case first =>
        go_quiet (fail)
        go_wp2_with fail
        go_meet
        exact ⟨⟨_, _, rfl, rfl⟩, Lib.hid (HBC.out.trans ((bdrew _ _).mono HBC.out.size))⟩
      case rest =>
        obtain ⟨⟨x, y, rfl, rfl⟩, hwc3⟩ := hcut
        have HB3 := Lib.hid hwc3.out
        have HV3 := Lib.hid (HV.out.turn HB3.out)
        clear hwc3 c0 c1 HBC
        generalize wc = wd at *
        have HNW := Lib.hid (live_new x y wd)
        obtain ⟨s0, hs0⟩ : ∃ s0, s0 = newS x y := ⟨_, rfl⟩
        rw [← hs0] at HNW
        have HS0 := Lib.hid hs0
        clear hs0
        go_wp2_with fail
        refine HNW.out.mono ?_
        rintro e w2 ⟨σ, rfl, hl, hσ⟩
        have HL := Lib.hid hl
        have HNW2 := Lib.hid (live_new x y w2)
        rw [← HS0.out] at HNW2
        clear hl hσ HNW
        go_wp2_with fail
        refine HNW2.out.mono ?_
        rintro e w3 ⟨τ, rfl, hl2, hτ⟩
        have HT : Hid (Two wd.heap.size wd w3 σ τ s0 s0) := Lib.hid (two_new HL.out hl2 hτ (Nat.le_refl _))
        have HVD : Hid (VarsN wd.heap.size wd) := Lib.hid (HV.out.up HB3.out HB3.out.size (Nat.le_refl _))
        have HOD := Lib.hid (HO.out.below HB3.out)
        have HAD := Lib.hid (HA.out.below HB3.out)
        clear hl2 hτ HNW2 HL HS0 HV3
        go_wp2_with fail
        go_loopg [11, 12, 13] n (fun gg v11 v12 v13 wx => ∃ (k : Nat) (s : ScrC), n - k = gg ∧ k ≤ n ∧ v11 = .int .i64 (k : Int) ∧ Hid (Two wd.heap.size wd wx σ τ s s))
        case atStart => exact ⟨0, s0, rfl, Nat.zero_le _, rfl, HT⟩
        case round =>
          clear HT
          obtain ⟨k, s, rfl, hk, rfl, H⟩ := hrel
          by_cases hlt : k < n
          · have hlt' : (k : Int) < (n : Int) := by omega
            obtain ⟨o, hok⟩ : ∃ o, ops[k]? = some o := ⟨_, List.getElem?_eq_getElem (by rw [HOD.out.1]; exact hlt)⟩
            obtain ⟨b, off, ba, bc, rfl, hrg, hin, hr, hbi⟩ := HOD.out.part hok
            obtain ⟨mb, hmb⟩ : ∃ mb, o.bytes.length = mb := ⟨_, rfl⟩
            rw [hmb] at hrg hin hbi
            have hrr := hrg wr H.out.bel
            have HRG := Lib.hid hrg
            have HBI := Lib.hid hbi
            have HOR := Lib.hid hr
            have HMB := Lib.hid hmb
            have HT1 := Lib.hid (fun (w : World) (s t : ScrC) (σ τ : Nat) (h : Two wd.heap.size wd w σ τ s t) => two_in h HVD.out o ba mb bc hmb hin hr)
            have HTS := Lib.hid (HT1.out wr s s σ τ H.out)
            clear hok hrg hin hr hmb hbi H
            go_wp2_with (refine wpList_load_mid rfl 30 _ rfl b (off + k * 4) rfl [.int .i64 o.kind, .int .i64 o.a, .int .i64 o.b, .slice ba mb bc] _ hrr Tryz.underlying30 rfl (size_op _ _ _ _) ?_)
            refine HTS.out.mono ?_
            rintro e w4 ⟨⟨v0, rfl, -⟩, h4⟩
            obtain ⟨s', hs'⟩ : ∃ s', s' = doS s o := ⟨_, rfl⟩
            rw [← hs'] at h4
            have HS' := Lib.hid hs'
            have hrr4 := HRG.out w4 h4.bel
            have H4 := Lib.hid h4
            have x0 : w4.cell? ⟨b, off + k * 4, none⟩ = some (.int .i64 o.kind) := hrr4 0 _ rfl
            have x3 : w4.cell? ⟨b, off + k * 4 + 3, none⟩ = some (.slice ba mb bc) := hrr4 3 _ rfl
            have HR4 := Lib.hid hrr4
            clear hs' h4 hrr hrr4 HTS
            by_cases hkd : o.kind = 0
            · have hkb : (o.kind == 0) = true := by rw [hkd]; rfl
              have HCP := Lib.hid (cut_pieces ba mb bc o.bytes aa m ac zs w4 (HBI.out w4 H4.out.bel) (HAD.out.below H4.out.bel) (by omega))
              have HRNG := Lib.hid HOR.out.bs
              have HLEN := Lib.hid HOR.out.len
              have hdo : s' = bring s o.bytes := by
                rw [HS'.out]
                obtain ⟨ok, oa, ob, obs⟩ := o
                simp only at hkd
                subst hkd
                rfl
              have HDO := Lib.hid hdo
              clear hkd hdo
              go_wp2_with fail
              refine HCP.out.mono ?_
              rintro e w5 ⟨v, P, rfl, hp, hfl, hb5⟩
              obtain ⟨pa, pc, rfl, hpc, _⟩ := own_form hp.1
              obtain ⟨M, hM⟩ : ∃ M, P.length = M := ⟨_, rfl⟩
              rw [hM] at hp hpc ⊢
              have HM := Lib.hid hM
              have HP5 : Hid (Two wd.heap.size wd w5 σ τ s' (bring s ((P.take 0).map (·.2)).flatten) ∧ Pieces w5 w4.heap.size (.slice pa M pc) P) := Lib.hid ⟨H4.out.below (Nat.le_refl _) hb5, hp⟩
              have HFL := Lib.hid hfl
              clear hp hfl hb5 hM HCP H4 HR4 x0 x3
              go_wp2_with fail
              generalize wr = wq at *
              go_loopg [13] M (fun gg v13 wx => ∃ j : Nat, M - j = gg ∧ j ≤ M ∧ v13 = .int .i64 (j : Int) ∧ Hid (Two wd.heap.size wd wx σ τ s' (bring s ((P.take j).map (·.2)).flatten) ∧ Pieces wx w4.heap.size (.slice pa M pc) P))
              case atStart => exact ⟨0, rfl, Nat.zero_le _, rfl, HP5⟩
              case round =>
                clear HP5
                obtain ⟨j, rfl, hj, rfl, HJ⟩ := hrel
                by_cases hjm : j < M
                · have hjm' : (j : Int) < (M : Int) := by omega
                  obtain ⟨x, hx⟩ : ∃ x, P[j]? = some x := ⟨_, List.getElem?_eq_getElem (by rw [HM.out]; exact hjm)⟩
                  have hpo := HJ.out.2.1
                  have hML := own_len hpo
                  rw [HM.out] at hML
                  rw [HM.out] at hpo
                  obtain ⟨pa', pc', e, _, hcase⟩ := own_form hpo
                  injection e with e e2 e3
                  subst e
                  clear e2 e3
                  obtain ⟨g, rfl, _, _, _, _, hcell⟩ := hcase.resolve_left (by omega)
                  have hc1 := hcell j x.1 (by rw [List.getElem?_map, hx]; rfl)
                  have hmem : x.2 ∈ P.map (·.2) := List.mem_map.2 ⟨x, List.mem_of_getElem? hx, rfl⟩
                  have hlx := len_flat _ _ hmem
                  rw [HFL.out] at hlx
                  have HTP := Lib.hid (two_piece HJ.out.1 HVD.out (.slice (some ⟨g, 0, none⟩) M pc) P HJ.out.2 j x hx (fun r hr => HRNG.out r (by rw [← HFL.out]; exact List.mem_flatten.2 ⟨x.2, hmem, hr⟩)) (Nat.le_trans hlx HLEN.out))
                  have HBP := Lib.hid (bring_piece s P j x hx)
                  obtain ⟨xa, xc, hxv, _⟩ := bytes_own (HJ.out.2.2 x (List.mem_of_getElem? hx))
                  obtain ⟨xl, hxl⟩ : ∃ xl, x.2.length = xl := ⟨_, rfl⟩
                  rw [hxl] at hxv
                  rw [hxv] at hc1 HTP
                  clear hpo hcase hcell hmem hlx hx hxv hxl HJ
                  go_wp2_with fail
                  refine HTP.out.mono ?_
                  rintro e w6 ⟨⟨v0, rfl, -⟩, h6, hp6⟩
                  have H6 : Hid (Two wd.heap.size wd w6 σ τ s' (bring s ((P.take (j + 1)).map (·.2)).flatten) ∧ Pieces w6 w4.heap.size (.slice (some ⟨g, 0, none⟩) M pc) P) := Lib.hid ⟨by rw [HBP.out]; exact h6, hp6⟩
                  clear h6 hp6 HTP HBP hc1
                  go_wp2_with fail
                  go_roundg (M - (j + 1))
                  case measure => omega
                  case rel => exact ⟨j + 1, rfl, by omega, by go_num, H6⟩
                · obtain rfl : j = M := by omega
                  have hjj : ¬ (j : Int) < (j : Int) := by omega
                  have HE : Hid (Two wd.heap.size wd wr σ τ s' s') := Lib.hid (by
                    have := HJ.out.1
                    rw [List.take_of_length_le (by rw [HM.out]; exact Nat.le_refl _), HFL.out, ← HDO.out] at this
                    exact this)
                  clear HJ
                  go_wp2_with fail
                  go_roundg (n - (k + 1))
                  case measure => omega
                  case rel => exact ⟨k + 1, s', rfl, by omega, by go_num, HE⟩
            · have hkb : (o.kind == 0) = false := by simp [hkd]
              have HTT := Lib.hid (HT1.out w4 s s' τ σ H4.out.swap)
              have hrr4 := HR4.out
              clear H4 HBI HMB HOR HRG HR4 x3
              go_wp2_with (refine wpList_load_mid rfl 30 _ rfl b (off + k * 4) rfl [.int .i64 o.kind, .int .i64 o.a, .int .i64 o.b, .slice ba mb bc] _ hrr4 Tryz.underlying30 rfl (size_op _ _ _ _) ?_)
              refine HTT.out.mono ?_
              rintro e w5 ⟨⟨v1, rfl, -⟩, h5⟩
              rw [← HS'.out] at h5
              have H5 := Lib.hid h5.swap
              clear h5 hrr4 x0 HTT
              go_wp2_with fail
              go_roundg (n - (k + 1))
              case measure => omega
              case rel => exact ⟨k + 1, s', rfl, by omega, by go_num, H5⟩
          · obtain rfl : k = n := by omega
            have hge : ¬ (k : Int) < (k : Int) := by omega
            have HH := Lib.hid H.out
            obtain ⟨Wn, Hn, r0, c0, pb, au, hvv⟩ : ∃ (Wn Hn r0 c0 : Int) (pb au : Bool), ∀ v, viewV s v = .agg (viewA Wn Hn v r0 c0 pb au) := ⟨_, _, _, _, _, _, fun _ => rfl⟩
            have HVV := Lib.hid hvv
            have hL := H.out.ok1.pen.h2
            obtain ⟨L, hLe⟩ : ∃ L, s.f.pen.rows = L := ⟨_, rfl⟩
            have HLE := Lib.hid hLe
            rw [hLe] at hL
            clear hvv hLe H
            have HV1 := Lib.hid (live_view HH.out.live)
            go_wp2_with fail
            refine HV1.out.mono ?_
            rintro e w7 ⟨v1, rfl, ho1, hb7⟩
            have HH7 : Hid (Two wd.heap.size wd w7 σ τ s s) := Lib.hid (HH.out.below (Nat.le_refl _) hb7)
            rw [HVV.out]
            rw [HLE.out] at ho1
            obtain ⟨a1, k1, rfl, _, _⟩ := ho1.lines
            have HO1 := Lib.hid ho1.lines
            have HV2 := Lib.hid (live_view HH7.out.swap.live)
            clear ho1 hb7 HV1 HH
            go_wp2_with fail
            refine HV2.out.mono ?_
            rintro e w8 ⟨v2, rfl, ho2, hb8⟩
            have HH8 : Hid (Two wd.heap.size wd w8 σ τ s s) := Lib.hid (HH7.out.below (Nat.le_refl _) hb8)
            rw [HVV.out]
            rw [HLE.out] at ho2
            obtain ⟨a2, k2, rfl, _, _⟩ := ho2.lines
            have HS40 := Lib.hid (same40 Wn Hn r0 c0 pb au a1 a2 L.length k1 k2 L w8 (LinesAt.below_ HO1.out hb8) ho2.lines (by omega))
            clear ho2 hb8 HV2 HH7 HO1
            go_wp2_with fail
            refine HS40.out.mono ?_
            rintro e w9 ⟨rfl, hb9⟩
            have HH9 : Hid (Two wd.heap.size wd w9 σ τ s s) := Lib.hid (HH8.out.below (Nat.le_refl _) hb9)
            have HD1 := Lib.hid (two_held HH9.out)
            have HD2 := Lib.hid (two_held HH9.out.swap)
            have HP1 := Lib.hid (two_open HH9.out)
            generalize s.f.dec.held = hd at *
            clear hb9 HS40 HH8
            go_wp2_with fail
            refine HD1.out.mono ?_
            rintro e w10 ⟨rfl, rfl⟩
            go_wp2_with fail
            refine HD2.out.mono ?_
            rintro e w10 ⟨rfl, rfl⟩
            clear HD1 HD2
            have hdd : (hd == hd) = true := by simp
            go_wp2_with fail
            refine HP1.out.mono ?_
            rintro e w10 ⟨⟨a3, k3, rfl, hi3⟩, hb10⟩
            have HH10 : Hid (Two wd.heap.size wd w10 σ τ s s) := Lib.hid (HH9.out.below (Nat.le_refl _) hb10)
            have HP2 := Lib.hid (two_open HH10.out.swap)
            have HI3 := Lib.hid hi3
            have HOL := Lib.hid (openT_len HH10.out.ok1)
            generalize openT s.f = ot at *
            clear hb10 hi3 HP1 HH9
            go_wp2_with fail
            refine HP2.out.mono ?_
            rintro e w11 ⟨⟨a4, k4, rfl, hi4⟩, hb11⟩
            have HSA := Lib.hid (Same.same_any a3 ot.length k3 ot a4 ot.length k4 ot w11 (HI3.out.below hb11) hi4 (by have := HOL.out; omega))
            have HB11 := Lib.hid ((HB3.out.trans (HH10.out.bel.mono HB3.out.size)).trans (hb11.mono (Nat.le_trans HB3.out.size HH10.out.bel.size)))
            clear hi4 hb11 HP2 HI3
            go_wp2_with fail
            refine HSA.out.mono ?_
            rintro e w12 ⟨rfl, hb12⟩
            have HB12 := Lib.hid (HB11.out.trans (hb12.mono HB11.out.size))
            have hte : decide True = true := by simp
            rw [hte]
            clear hb12 HSA
            go_wp2_with fail
            go_ret
            exact ⟨rfl, HB12.out⟩
    · clear hbig
      go_wp2_with fail
      refine (HPL.out wc HBC.out).mono ?_
      rintro e w2 ⟨rfl, hb2⟩
      have HB2 := Lib.hid (HBC.out.trans (hb2.mono HBC.out.size))
      clear hb2
      go_wp2_with fail
      go_ret
      exact ⟨rfl, HB2.out⟩
end Go.Proofs.YtjicdcmdgbcdcaaGreatDoor.Scr
end

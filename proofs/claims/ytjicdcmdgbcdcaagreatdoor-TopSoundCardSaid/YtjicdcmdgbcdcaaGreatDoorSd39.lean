/-
  edit: screen.
  script.Script.line at a line of bytes.
-/
import Derived.Test.YtjicdcmdgbcdcaaGreatDoorSd30
import Derived.Test.YtjicdcmdgbcdcaaGreatDoorSd38

section
namespace Go.Proofs.YtjicdcmdgbcdcaaGreatDoor.Scr
set_option linter.unusedSimpArgs false
set_option linter.unusedVariables false
open Go Go.RowKit Mem Turn Ring

theorem range_getD (L : List LineC) : (List.range L.length).map (fun i => L.getD i ([], false)) = L := by
  refine List.ext_getElem (by simp) fun i h1 h2 => ?_
  simp [List.getD_eq_getElem?_getD, List.getElem?_eq_getElem h2]
theorem screenK_zero (mode row : Int) (L : List LineC) : screenK mode row L 0 = L := by
  unfold screenK
  have : (fun i : Nat => if i < 0 ∧ screenHits mode row (i : Int) = true then eraseAll (L.getD i ([], false)) else L.getD i ([], false)) = fun i => L.getD i ([], false) := by
    funext i
    rw [if_neg (by omega)]
  rw [this]
  exact range_getD L
theorem screenK_get (mode row : Int) (L : List LineC) (k i : Nat) (hi : i < L.length) : (screenK mode row L k)[i]? = some (if i < k ∧ screenHits mode row i = true then eraseAll (L.getD i ([], false)) else L.getD i ([], false)) := by
  unfold screenK
  rw [List.getElem?_map, List.getElem?_range hi]
  rfl
theorem screenK_succ (mode row : Int) (L : List LineC) (k : Nat) (hk : k < L.length) : screenK mode row L (k + 1) = if screenHits mode row k = true then (screenK mode row L k).set k (eraseAll (L.getD k ([], false))) else screenK mode row L k := by
  refine List.ext_getElem? fun i => ?_
  by_cases hi : i < L.length
  · rw [screenK_get _ _ _ _ _ hi]
    by_cases hh : screenHits mode row k = true
    · rw [if_pos hh, List.getElem?_set]
      by_cases he : k = i
      · subst he
        rw [if_pos rfl, if_pos ⟨by omega, hh⟩, if_pos (by rw [screenK_len]; exact hk)]
      · rw [if_neg he, screenK_get _ _ _ _ _ hi]
        by_cases h2 : i < k
        · simp [h2, show i < k + 1 from by omega]
        · rw [if_neg (fun x => by omega), if_neg (fun x => by omega)]
    · rw [if_neg hh, screenK_get _ _ _ _ _ hi]
      by_cases h2 : i < k
      · simp [h2, show i < k + 1 from by omega]
      · by_cases h3 : i = k
        · subst h3
          rw [if_neg (fun x => hh x.2), if_neg (fun x => hh x.2)]
        · rw [if_neg (fun x => by omega), if_neg (fun x => by omega)]
  · rw [List.getElem?_eq_none (by rw [screenK_len]; omega)]
    split
    · rw [List.getElem?_eq_none (by rw [List.length_set, screenK_len]; omega)]
    · rw [List.getElem?_eq_none (by rw [screenK_len]; omega)]
/-- a row of the pen by its number, and what its own calls leave of the pen -/
theorem PenIs.there {w : World} {X : Nat → Prop} {π γ β W : Nat} {Q : List (Nat × Nat)} {p : PenC} (h : PenIs w X π γ β Q p W) (hr : RowsOK p.rows W) (k : Nat) (hkl : k < p.rows.length) :
    ∃ (ρ κ : Nat) (l : LineC), (Q.map (·.1))[k]? = some ρ ∧ p.rows[k]? = some l ∧ RowAt w ρ κ l ∧ l.1.length = W ∧ soundB l.1 = true ∧
      ∀ w' l', l'.1.length = W → RowTo w ρ κ l' w' → PenIs w' X π γ β Q { p with rows := p.rows.set k l' } W ∧ Turn X w w' := by
  obtain ⟨q, hq⟩ : ∃ q, Q[k]? = some q := ⟨_, List.getElem?_eq_getElem (by rw [h.rows.len]; exact hkl)⟩
  obtain ⟨l, hl, g1, g2, g3, g4⟩ := h.rows.line hq
  exact ⟨q.1, q.2, l, by rw [List.getElem?_map, hq]; rfl, hl, g1, g2, (hr l (List.mem_of_getElem? hl)).2, fun w' l' hf hto => h.row hq hto.1 hf hto.2⟩

set_option maxRecDepth 100000 in
set_option maxHeartbeats 16000000 in
theorem escreen_is (X : Nat → Prop) (π γ β W : Nat) (Q : List (Nat × Nat)) (p : PenC) (mode : Int) (w : World) (h : PenIs w X π γ β Q p W) (hok : PenOK p W) (hv : VarsX w X) (hm : mode = 0 ∨ mode = 1 ∨ mode = 2) :
    Calls Tryz.prog 129 #[ptr π, .int .i64 mode] w fun e w' => e = .returned (.tuple #[]) ∧ PenIs w' X π γ β Q (screenP p mode) W ∧ Turn X w w' := by
  have HLI := Lib.hid (line_is X π γ β W Q p mode w h hok hv)
  have HOK := Lib.hid (hok.lineP mode)
  obtain ⟨r0, r1, _⟩ := hok.rng
  obtain ⟨r, hr⟩ : ∃ r : Nat, p.at_.row = (r : Int) := ⟨p.at_.row.toNat, by omega⟩
  have HSP := Lib.hid (show screenP p mode = { lineP p mode with rows := screenK mode p.at_.row (lineP p mode).rows (lineP p mode).rows.length } from rfl)
  have hat : (lineP p mode).at_.row = (r : Int) := hr
  rw [hr] at HSP
  generalize lineP p mode = q at *
  have HAT := Lib.hid hat
  have HV := Lib.hid hv
  clear h hok hv hr hat r0 r1
  go_enter Tryz.func129, Tryz.ntmps129
  go_wp2_with fail
  refine HLI.out.mono ?_
  rintro e w1 ⟨rfl, hp1, ht1⟩
  obtain ⟨c0, _⟩ := hp1.cells
  have HHI : Hid (Calls Tryz.prog 37 #[ptr γ] w1 fun e w' => e = .returned (.int .i64 (q.rows.length : Int)) ∧ w1 = w') := Lib.hid (by
    have := high_any γ β _ w1 hp1.grid
    rw [List.length_map, hp1.rows.len] at this
    exact this)
  have HP1 := Lib.hid hp1
  have HT1 := Lib.hid ht1
  obtain ⟨n, hn⟩ : ∃ n, n = q.rows.length := ⟨_, rfl⟩
  have HN := Lib.hid hn
  have hnle : n ≤ 1024 := by rw [hn]; exact HOK.out.h2
  rw [← hn] at HHI
  clear hp1 ht1 HLI hn
  go_wp2_with fail
  refine HHI.out.mono ?_
  rintro e wx ⟨rfl, rfl⟩
  go_wp2_with fail
  clear c0
  go_loopg [4, 13] n (fun gg s4 i wx => ∃ k : Nat, n - k = gg ∧ k ≤ n ∧ i = .int .i64 k ∧ Hid (PenIs wx X π γ β Q { q with rows := screenK mode r q.rows k } W ∧ Turn X w wx))
  case atStart => exact ⟨0, rfl, Nat.zero_le _, rfl, Lib.hid ⟨by rw [screenK_zero]; exact HP1.out, HT1.out⟩⟩
  case round =>
    obtain ⟨k, rfl, hk, rfl, H⟩ := hrel
    by_cases hlt : k < n
    · have hlt' : (k : Int) < (n : Int) := by omega
      obtain ⟨hp, ht⟩ := H.out
      obtain ⟨c0, c1, _⟩ := hp.cells
      simp only at c1
      rw [HAT.out] at c1
      have hkl : k < q.rows.length := by rw [← HN.out]; exact hlt
      obtain ⟨ρ, κ, l, g0, gl, g1, g2, g3, g4⟩ := hp.there (screenK_ok _ _ _ _ _ HOK.out.rows) k (by show k < (screenK _ _ _ _).length; rw [screenK_len]; exact hkl)
      have HRI := Lib.hid (row_in γ β k ρ _ wr hp.grid g0)
      have HER := Lib.hid (eall_any ρ κ l wr g1 g3 (((HV.out.to ht (fun b e => .inl e)).hb)))
      have HYES : Hid (∀ w', screenHits mode r k = true → RowTo wr ρ κ (eraseAll l) w' → PenIs w' X π γ β Q { q with rows := screenK mode r q.rows (k + 1) } W ∧ Turn X w w') := Lib.hid fun w' hh hto => by
        obtain ⟨a1, a2⟩ := g4 w' (eraseAll l) (by rw [eraseAll_len]; exact g2) hto
        have hle : l = q.rows.getD k ([], false) := by
          have h1 : (screenK mode r q.rows k)[k]? = some l := gl
          rw [screenK_get _ _ _ _ _ hkl, if_neg (by omega)] at h1
          exact (Option.some.inj h1).symm
        rw [screenK_succ _ _ _ _ hkl, if_pos hh, ← hle]
        exact ⟨a1, ht.trans a2⟩
      have HNO : Hid (¬ screenHits mode r k = true → PenIs wr X π γ β Q { q with rows := screenK mode r q.rows (k + 1) } W ∧ Turn X w wr) := Lib.hid fun hh => by
        rw [screenK_succ _ _ _ _ hkl, if_neg hh]
        exact ⟨hp, ht⟩
      clear hp ht g0 gl g1 g2 g3 g4 H hkl
      have hcase : (mode = 2 ∧ screenHits mode r k = true) ∨ (mode = 0 ∧ r < k ∧ screenHits mode r k = true) ∨ (mode = 0 ∧ ¬ r < k ∧ ¬ screenHits mode r k = true) ∨ (mode = 1 ∧ k < r ∧ screenHits mode r k = true) ∨ (mode = 1 ∧ ¬ k < r ∧ ¬ screenHits mode r k = true) := by
        rcases hm with e | e | e
        · subst e
          by_cases h : r < k
          · exact .inr (.inl ⟨rfl, h, by simp [screenHits, h]⟩)
          · exact .inr (.inr (.inl ⟨rfl, h, by simp [screenHits, h]⟩))
        · subst e
          by_cases h : k < r
          · exact .inr (.inr (.inr (.inl ⟨rfl, h, by simp [screenHits, h]⟩)))
          · exact .inr (.inr (.inr (.inr ⟨rfl, h, by simp [screenHits, h]⟩)))
        · subst e
          exact .inl ⟨rfl, by simp [screenHits]⟩
      clear hm
      rcases hcase with ⟨rfl, hh⟩ | ⟨rfl, hc, hh⟩ | ⟨rfl, hc, hh⟩ | ⟨rfl, hc, hh⟩ | ⟨rfl, hc, hh⟩
      · have HH := Lib.hid hh
        clear hh
        go_wp2_with fail
        refine HRI.out.mono ?_
        rintro e wx ⟨rfl, rfl⟩
        go_wp2_with fail
        refine HER.out.mono ?_
        rintro e w2 ⟨rfl, hto⟩
        have HX := Lib.hid (HYES.out w2 HH.out hto)
        clear hto c0 c1
        go_wp2_with fail
        go_roundg (n - (k + 1))
        case measure => omega
        case rel => exact ⟨k + 1, rfl, by omega, by go_num, HX⟩
      · have HH := Lib.hid hh
        have hc' : (r : Int) < (k : Int) := by omega
        clear hh
        go_wp2_with fail
        refine HRI.out.mono ?_
        rintro e wx ⟨rfl, rfl⟩
        go_wp2_with fail
        refine HER.out.mono ?_
        rintro e w2 ⟨rfl, hto⟩
        have HX := Lib.hid (HYES.out w2 HH.out hto)
        clear hto c0 c1
        go_wp2_with fail
        go_roundg (n - (k + 1))
        case measure => omega
        case rel => exact ⟨k + 1, rfl, by omega, by go_num, HX⟩
      · have HX := Lib.hid (HNO.out hh)
        have hc' : ¬ (r : Int) < (k : Int) := by omega
        clear hh
        go_wp2_with fail
        go_roundg (n - (k + 1))
        case measure => omega
        case rel => exact ⟨k + 1, rfl, by omega, by go_num, HX⟩
      · have HH := Lib.hid hh
        have hc' : (k : Int) < (r : Int) := by omega
        clear hh
        go_wp2_with fail
        refine HRI.out.mono ?_
        rintro e wx ⟨rfl, rfl⟩
        go_wp2_with fail
        refine HER.out.mono ?_
        rintro e w2 ⟨rfl, hto⟩
        have HX := Lib.hid (HYES.out w2 HH.out hto)
        clear hto c0 c1
        go_wp2_with fail
        go_roundg (n - (k + 1))
        case measure => omega
        case rel => exact ⟨k + 1, rfl, by omega, by go_num, HX⟩
      · have HX := Lib.hid (HNO.out hh)
        have hc' : ¬ (k : Int) < (r : Int) := by omega
        clear hh
        go_wp2_with fail
        go_roundg (n - (k + 1))
        case measure => omega
        case rel => exact ⟨k + 1, rfl, by omega, by go_num, HX⟩
    · have hlt' : ¬ (k : Int) < (n : Int) := by omega
      obtain rfl : k = n := by omega
      have HF : Hid (PenIs wr X π γ β Q (screenP p mode) W ∧ Turn X w wr) := Lib.hid (by
        rw [HSP.out, ← HN.out]
        exact H.out)
      clear H hm
      go_wp2_with fail
      go_end0
      exact ⟨rfl, HF.out⟩
end Go.Proofs.YtjicdcmdgbcdcaaGreatDoor.Scr
end
section
namespace Go.Proofs.YtjicdcmdgbcdcaaGreatDoor.Scr
set_option linter.unusedSimpArgs false
set_option linter.unusedVariables false
open Go Go.RowKit Mem Turn Ring

def flatO (L : List (OpC × Value)) : List Value := L.flatMap fun p => [.int .i64 p.1.kind, .int .i64 p.1.a, .int .i64 p.1.b, p.2]
theorem flatO_app (A B : List (OpC × Value)) : flatO (A ++ B) = flatO A ++ flatO B := by simp [flatO]
theorem flatO_len (L : List (OpC × Value)) : (flatO L).length = L.length * 4 := by
  induction L with
  | nil => rfl
  | cons x L ih => simp only [flatO, List.flatMap_cons, List.length_append, List.length_cons, List.length_nil] at ih ⊢; omega
/-- operations of the call's own -/
def OpsM (w : World) (B : Nat) (v : Value) (L : List (OpC × Value)) : Prop := w.ownsRow B 30 4 v L.length (flatO L) ∧ ∀ p ∈ L, w.ownsRow B 5 1 p.2 p.1.bytes.length (p.1.bytes.map (Value.int .u8))
def ScriptAt (w : World) (σ : Nat) (W H : Int) (v : Value) : Prop := w.heap[σ]? = some (.cells #[.int .i64 W, .int .i64 H, v] 49 (0, 0))
theorem OpsM.turn {w w' : World} {T : Nat → Prop} {B : Nat} {v : Value} {L : List (OpC × Value)} (h : OpsM w B v L) (ht : Turn T w w') (h1 : ∀ b, T b → b < w.heap.size → ¬ Typ w 30 b) (h2 : ∀ b, T b → b < w.heap.size → ¬ Typ w 5 b) : OpsM w' B v L :=
  ⟨ht.kept h.1 (fun g hg e => h1 g e (owns_typ h.1 hg).lt (owns_typ h.1 hg)), fun p hp => ht.kept (h.2 p hp) (fun g hg e => h2 g e (owns_typ (h.2 p hp) hg).lt (owns_typ (h.2 p hp) hg))⟩
theorem info_op : (Tryz.prog.info? 30).map (fun i => (i.zero, i.size, i.bytes)) = some (some (.agg #[.int .i64 0, .int .i64 0, .int .i64 0, .slice none 0 0]), 4, 48) := by kernel_rfl

set_option maxRecDepth 100000 in
set_option maxHeartbeats 16000000 in
/-- a line behind the first one -/
theorem line_more (σ B : Nat) (W H n : Int) (v : Value) (L : List (OpC × Value)) (s : ByteArray) (rs : List Int) (w : World) (h : ScriptAt w σ W H v) (hL : OpsM w B v L) (hB : B ≤ σ) (hn : 0 < n) (hl : L.length ≤ 100000)
    (hp : ∀ w, Calls Tryz.prog 84 #[.string s] w fun e w' => ∃ v, e = .returned (.tuple #[opV 0 0 0 v, .nilIface]) ∧ w'.ownsRow w.heap.size 5 1 v rs.length (rs.map (Value.int .u8)) ∧ Below w.heap.size w w') :
    Calls Tryz.prog 45 #[.pointer (some ⟨σ, 0, none⟩), .int .i64 n, .string s] w fun e w' => e = .returned .nilIface ∧ ∃ v' p, ScriptAt w' σ W H v' ∧ OpsM w' B v' (L ++ [(⟨0, 0, 0, rs⟩, p)]) ∧ Below B w w' := by
  have hmx : Tryz.prog.follows .mixedOrders = true := by kernel_rfl
  obtain ⟨i0, hi, hz0, hz1, hz2⟩ := info_parts info_op
  obtain ⟨m, hm⟩ : ∃ m, rs.length = m := ⟨_, rfl⟩
  have HM := Lib.hid hm
  have HP := Lib.hid hp
  obtain ⟨k, hk⟩ : ∃ k, L.length = k := ⟨_, rfl⟩
  have HK := Lib.hid hk
  obtain ⟨av, cv, hav⟩ := Turn.own_slice hL.1
  rw [hk] at hav hl
  subst hav
  have HH := Lib.hid h
  have HL := Lib.hid hL
  have hsw : σ < w.heap.size := (Array.getElem?_eq_some_iff.1 h).1
  have HLT : Hid (∀ j, (Value.slice av k cv).ownBlock = some j → j < w.heap.size) := Lib.hid fun j e => (hL.1.lt j e).2
  clear h hL hp hm hk
  go_enter Tryz.func45, Tryz.ntmps45
  go_wp2_with fail
  refine (HP.out _).mono ?_
  rintro e w1 ⟨p, rfl, ho, hb⟩
  obtain ⟨pa, pc, hpa⟩ := Turn.own_slice ho
  rw [HM.out] at hpa
  subst hpa
  have T1 : Turn (fun _ => False) w w1 := Turn.of_new hb
  have HH1 := Lib.hid (show ScriptAt w1 σ W H (.slice av k cv) from T1.heap HH.out id)
  have HL1 := Lib.hid (HL.out.turn T1 (fun _ h => h.elim) (fun _ h => h.elim))
  have HO := Lib.hid (owns_base ho (show B ≤ w.heap.size by omega))
  have HB := Lib.hid hb
  have hnew : (w1.alloc (.cells (opA 0 0 0 (.slice none 0 0)) 30)).heap[w1.heap.size]? = some (.cells (opA 0 0 0 (.slice none 0 0)) 30 (0, 0)) := heap_alloc_new w1 _
  have hrow : (w1.alloc (.cells (opA 0 0 0 (.slice none 0 0)) 30)).setRow w1.heap.size (opA 0 0 0 (.slice pa m pc)) = w1.alloc (.cells (opA 0 0 0 (.slice pa m pc)) 30) := World.setRow_alloc_new w1 _ _ _
  clear ho hb T1 HP HH HL
  go_upto_region 3 with (refine wpList_store_row rfl 30 _ _ rfl w1.heap.size (opA 0 0 0 (.slice pa m pc)) rfl rfl _ _ hnew (size_op _ _ _ _) rfl (one_op _ _ _ _ _ _) ?_)
  have T1 : Turn (fun _ => False) w1 (w1.alloc (.cells (opA 0 0 0 (.slice pa m pc)) 30)) := Turn.alloc _ _ _
  have HH2 := Lib.hid (show ScriptAt (w1.alloc (.cells (opA 0 0 0 (.slice pa m pc)) 30)) σ W H (.slice av k cv) from T1.heap HH1.out id)
  have HL2 := Lib.hid (HL1.out.turn T1 (fun _ h => h.elim) (fun _ h => h.elim))
  have HO2 := Lib.hid (T1.kept HO.out (fun _ _ => id))
  have HB2 : Hid (Below w.heap.size w (w1.alloc (.cells (opA 0 0 0 (.slice pa m pc)) 30))) := Lib.hid (HB.out.alloc HB.out.size _)
  have HN2 := Lib.hid (heap_alloc_new w1 (.cells (opA 0 0 0 (.slice pa m pc)) 30))
  have HSZ := Lib.hid (show (w1.alloc (.cells (opA 0 0 0 (.slice pa m pc)) 30)).heap.size = w1.heap.size + 1 by simp)
  generalize (w1.alloc (.cells (opA 0 0 0 (.slice pa m pc)) 30)) = w2 at *
  have HBS := Lib.hid HB.out.size
  obtain ⟨q, hq⟩ : ∃ q, w1.heap.size = q := ⟨_, rfl⟩
  rw [hq] at HN2 HSZ HBS
  simp only [hq]
  clear hnew hrow T1 HH1 HL1 HO HB hq
  have c2 : w2.cell? ⟨σ, 2, none⟩ = some (.slice av k cv) := by
    have := HH2.out
    unfold ScriptAt at this
    simp [World.cell?, this]
  have HSW := Lib.hid hsw
  refine region_begin3 (fun w' => w'.cell? ⟨σ, 2, none⟩ = some (.slice av k cv) ∧ w'.heap[q]? = some (.cells (opA 0 0 0 (.slice pa m pc)) 30 (0, 0))) (fun j => j == 10) 11 rfl hmx (by intro _ _ d _ _ h; cases d <;> exact h) fun hQP => ?_
  have hS : w2.drew.cell? ⟨σ, 2, none⟩ = some (.slice av k cv) ∧ w2.drew.heap[q]? = some (.cells (opA 0 0 0 (.slice pa m pc)) 30 (0, 0)) := ⟨c2, HN2.out⟩
  refine take_f 0 19 rfl rfl (by kernel_rfl) (by kernel_rfl) (by kernel_rfl) (by kernel_rfl) hQP hS (.inl ⟨by kernel_rfl, fun w' hw' => by obtain ⟨e0, e1⟩ := hw'; go_simp; try with_reducible rfl⟩) ?_
  refine take_f 1 20 rfl rfl (by kernel_rfl) (by kernel_rfl) (by kernel_rfl) (by kernel_rfl) hQP hS (.inl ⟨by kernel_rfl, fun w' hw' => by obtain ⟨e0, e1⟩ := hw'; go_simp; try with_reducible rfl⟩) ?_
  refine take_f 2 21 rfl rfl (by kernel_rfl) (by kernel_rfl) (by kernel_rfl) (by kernel_rfl) hQP hS (.inl ⟨by kernel_rfl, fun w' hw' => by obtain ⟨e0, e1⟩ := hw'; go_simp; try with_reducible rfl⟩) ?_
  refine take_f 3 22 rfl rfl (by kernel_rfl) (by kernel_rfl) (by kernel_rfl) (by kernel_rfl) hQP hS (.inl ⟨by kernel_rfl, fun w' hw' => by obtain ⟨e0, e1⟩ := hw'; go_simp; try with_reducible rfl⟩) ?_
  refine take_f 4 23 rfl rfl (by kernel_rfl) (by kernel_rfl) (by kernel_rfl) (by kernel_rfl) hQP hS (.inl ⟨by kernel_rfl, fun w' hw' => by obtain ⟨e0, e1⟩ := hw'; go_simp; try with_reducible rfl⟩) ?_
  try simp only [List.setIfInBounds_toArray, List.set_cons_succ, List.set_cons_zero]
  refine take_f 5 24 rfl rfl (by kernel_rfl) (by kernel_rfl) (by kernel_rfl) (by kernel_rfl) hQP hS (yields_load_row 30 (.tmp 7) rfl (by kernel_rfl) q (by rfl) _ (opA 0 0 0 (.slice pa m pc)) _ _ (fun w' hw' => hw'.2) Tryz.underlying30 rfl (size_op _ _ _ _)) ?_
  try simp only [List.setIfInBounds_toArray, List.set_cons_succ, List.set_cons_zero]
  refine take_one (i := 6) (by kernel_rfl) rfl rfl fun KQ hK => ?_
  go_wp2_with fail
  have hnews : ∀ j u, [Value.int .i64 0, .int .i64 0, .int .i64 0, .slice pa m pc][j]? = some u → (w2.alloc (.cells #[.int .i64 0, .int .i64 0, .int .i64 0, .slice pa m pc] 30)).drew.cell? ((⟨w2.heap.size, 0, none⟩ : Addr).add j) = some u := Gra.cell_new4 w2 _ _ _ _ _
  have T3 : Turn (fun _ => False) w2 (w2.alloc (.cells #[.int .i64 0, .int .i64 0, .int .i64 0, .slice pa m pc] 30)).drew := (Turn.alloc _ w2 _).trans (Turn.drew _ _)
  have hS3 : (w2.alloc (.cells #[.int .i64 0, .int .i64 0, .int .i64 0, .slice pa m pc] 30)).drew.cell? ⟨σ, 2, none⟩ = some (.slice av k cv) ∧ (w2.alloc (.cells #[.int .i64 0, .int .i64 0, .int .i64 0, .slice pa m pc] 30)).drew.heap[q]? = some (.cells (opA 0 0 0 (.slice pa m pc)) 30 (0, 0)) := ⟨T3.cell c2 id, T3.heap HN2.out id⟩
  refine hK _ _ (.inr hS3) ?_
  clear hK hS
  have hs3 : (w2.alloc (.cells #[.int .i64 0, .int .i64 0, .int .i64 0, .slice pa m pc] 30)).drew.heap.size = w2.heap.size + 1 := World.size_alloc w2 _
  have HH3 := Lib.hid (show ScriptAt (w2.alloc (.cells #[.int .i64 0, .int .i64 0, .int .i64 0, .slice pa m pc] 30)).drew σ W H (.slice av k cv) from T3.heap HH2.out id)
  have HL3 := Lib.hid (HL2.out.turn T3 (fun _ h => h.elim) (fun _ h => h.elim))
  have HO3 := Lib.hid (T3.kept HO2.out (fun _ _ => id))
  have HB3 := Lib.hid (HB2.out.trans ((T3.below (Nat.le_refl _) (fun _ h => h.elim)).mono HB2.out.size))
  generalize (w2.alloc (.cells #[.int .i64 0, .int .i64 0, .int .i64 0, .slice pa m pc] 30)).drew = w5 at *
  have HS3 := Lib.hid hs3
  clear T3 HH2 HL2 HO2 HB2 c2 hs3
  have HSZ2 := Lib.hid (show B ≤ w2.heap.size by have := HSZ.out; have := HBS.out; omega)
  refine take_append_at 7 26 (by kernel_rfl) rfl rfl rfl (.tmp 23) (.tmp 25) 24 rfl B 30 i0 _ 4 48 Tryz.underlying24 hi hz0 hz1 hz2 rfl (by decide) (.slice av k cv) k (flatO L) (by rfl) (by rw [← HK.out]; rw [HK.out]; have := HL3.out.1; rw [HK.out] at this; exact this) ⟨w2.heap.size, 0, none⟩ 1 1 [.int .i64 0, .int .i64 0, .int .i64 0, .slice pa m pc] (by rfl) rfl hnews (by intro u hu; simp at hu; rcases hu with rfl | rfl <;> rfl) (by unfold maxLen; omega) (by omega) (by have := HS3.out; have := HSZ2.out; omega) ?_
  intro v9 w9 hown9 hgrow9 hat9
  obtain ⟨a9, cap9, rfl⟩ := Turn.own_slice hown9
  have T9 : Turn (fun j => (Value.slice av k cv).ownBlock = some j) w5 w9 := Turn.of_grown hgrow9 (fun g e => e)
  have hty : ∀ j, (Value.slice av k cv).ownBlock = some j → Typ w5 30 j := fun j e => owns_typ (by have := HL3.out.1; exact this) e
  have hσ : Typ w5 49 σ := ⟨_, _, HH3.out⟩
  have hnσ : ¬ (Value.slice av k cv).ownBlock = some σ := fun e => hσ.not (by decide) (hty σ e)
  have hnq : ¬ (Value.slice av k cv).ownBlock = some q := fun e => by have := HLT.out q e; have := HBS.out; omega
  have hS9 := And.intro (T9.cell hS3.1 hnσ) (T9.heap hS3.2 hnq)
  refine ⟨.inr hS9, ?_⟩
  have T10 : Turn (fun j => j = σ) w9 (w9.setCell ⟨σ, 2, none⟩ (.slice a9 (k + 1) cap9)) := Turn.setCell _ _ rfl
  have hσ9 := T9.heap HH3.out hnσ
  have HF : Hid (ScriptAt (w9.setCell ⟨σ, 2, none⟩ (.slice a9 (k + 1) cap9)) σ W H (.slice a9 (k + 1) cap9) ∧ OpsM (w9.setCell ⟨σ, 2, none⟩ (.slice a9 (k + 1) cap9)) B (.slice a9 (k + 1) cap9) (L ++ [(⟨0, 0, 0, rs⟩, .slice pa m pc)]) ∧ Below B w (w9.setCell ⟨σ, 2, none⟩ (.slice a9 (k + 1) cap9))) := Lib.hid (by
    have hσt : Typ w9 49 σ := ⟨_, _, hσ9⟩
    refine ⟨?_, ⟨?_, fun p hp => ?_⟩, ?_⟩
    · unfold ScriptAt
      rw [heap_set1 (cs := [.int .i64 W, .int .i64 H, .slice av k cv]) hσ9 2 (.slice a9 (k + 1) cap9)]
      rfl
    · rw [List.length_append, HK.out, flatO_app]
      exact T10.kept hown9 (fun g hg e => by subst e; exact hσt.not (by decide) (owns_typ hown9 hg))
    · have hu : w5.ownsRow B 5 1 p.2 p.1.bytes.length (p.1.bytes.map (Value.int .u8)) := by
        rcases List.mem_append.1 hp with e | e
        · exact HL3.out.2 p e
        · simp at e
          subst e
          have := HO3.out
          simp only
          rw [HM.out] at this ⊢
          exact this
      have h9 := T9.kept hu (fun g hg e => (hty g e).not (by decide) (owns_typ hu hg))
      exact T10.kept h9 (fun g hg e => by subst e; exact hσt.not (by decide) (owns_typ h9 hg))
    · have hs5 := HS3.out
      have h2 := HSZ2.out
      have hb5 : Below B w w5 := HB3.out.mono (by omega)
      refine hb5.trans ((T9.below (by omega) (fun j e => ?_)).trans (T10.below (by have := T9.size; omega) (fun j e => by omega)))
      exact (HL3.out.1.lt j e).1)
  have c9 := hS9.1
  have f9 : w9.frozen? ⟨σ, 2, none⟩ = false := by
    unfold ScriptAt at *
    simp [World.frozen?, hσ9]
  have HS9 := Lib.hid hS9
  clear hS3 hS9 T9 T10 hown9 hgrow9 hat9 HH3 HL3 HO3 HB3 hty hσ hnσ hnq hσ9 hnews
  try simp only [List.setIfInBounds_toArray, List.set_cons_succ, List.set_cons_zero]
  refine take_one (i := 8) (by kernel_rfl) rfl rfl fun KQ hK => ?_
  go_wp2_with fail
  refine hK _ _ (.inr HS9.out) ?_
  clear hK
  refine take_one (i := 9) (by kernel_rfl) rfl rfl fun KQ hK => ?_
  go_wp2_with fail
  refine hK _ _ (.inr HS9.out) ?_
  clear hK
  refine take_one (i := 10) (by kernel_rfl) rfl rfl fun KQ hK => ?_
  go_wp2_with fail
  refine hK _ _ (.inl rfl) ?_
  clear hK c9 f9
  refine take_done (by kernel_rfl) ?_ _
  try simp only [List.setIfInBounds_toArray, List.set_cons_succ, List.set_cons_zero]
  go_wp2_with fail
  go_ret
  exact ⟨rfl, _, _, HF.out.1, HF.out.2.1, HF.out.2.2⟩

set_option maxRecDepth 100000 in
set_option maxHeartbeats 16000000 in
/-- the first line -/
theorem line_first (σ B : Nat) (W H x y : Int) (v : Value) (s u1 u2 : ByteArray) (w : World) (h : ScriptAt w σ W H v) (hv : v = .slice none 0 0) (hB : B ≤ σ)
    (hs : SplitB 32 s [⟨#[115, 105, 122, 101]⟩, u1, u2]) (hc : Lib.countByte s.data.toList 32 + 1 = 3) (hsz : s.size ≤ 100000) (h2 : 2 ≤ s.size) (z1 : u1.size ≤ 100000) (z2 : u2.size ≤ 100000) (hx : numF u1 = (x, true)) (hy : numF u2 = (y, true)) :
    Calls Tryz.prog 45 #[.pointer (some ⟨σ, 0, none⟩), .int .i64 0, .string s] w fun e w' => e = .returned .nilIface ∧ ScriptAt w' σ x y v ∧ Below B w w' := by
  have hmx : Tryz.prog.follows .mixedOrders = true := by kernel_rfl
  have HSP := Lib.hid (fun w => sSplit1 s 32 [⟨#[115, 105, 122, 101]⟩, u1, u2] 3 w hs rfl hc (by omega) hsz)
  have HNU := Lib.hid (fun b c w h => numbers_two b 3 c [⟨#[115, 105, 122, 101]⟩, u1, u2] u1 u2 x y 1 w h (by omega) rfl rfl rfl rfl hx hy)
  have HZ := Lib.hid (And.intro z1 z2)
  have HH := Lib.hid h
  have hsw : σ < w.heap.size := (Array.getElem?_eq_some_iff.1 h).1
  clear h hs hc hsz h2 z1 z2 hx hy
  go_enter Tryz.func45, Tryz.ntmps45
  go_wp2_with fail
  refine (HSP.out _).mono ?_
  rintro e w1 ⟨cp, rfl, hcp, hw, hb⟩
  have hwords : WordsAt w1 w.heap.size [⟨#[115, 105, 122, 101]⟩, u1, u2] := ⟨hw, by
    intro x hx
    simp at hx
    rcases hx with rfl | rfl | rfl
    · decide
    · exact HZ.out.1
    · exact HZ.out.2⟩
  have hcell := hwords.cell (j := 0) rfl
  have HN := Lib.hid (HNU.out _ cp _ hwords)
  have HH1 := Lib.hid (show ScriptAt w1 σ W H v from (Turn.of_new hb : Turn (fun _ => False) w w1).heap HH.out id)
  have HB := Lib.hid hb
  have hcp0 : (0 : Int) < 3 := by decide
  clear hw hb hwords HNU HH
  go_wp2_with fail
  refine HN.out.mono ?_
  rintro e w2 ⟨rfl, hb⟩
  have HH2 := Lib.hid (show ScriptAt w2 σ W H v from (Turn.of_new hb : Turn (fun _ => False) w1 w2).heap HH1.out id)
  have HB2 := Lib.hid (HB.out.trans (hb.mono HB.out.size))
  have hnew : (w2.alloc (.cells #[.int .i64 0, .int .i64 0] 149)).heap[w2.heap.size]? = some (.cells #[.int .i64 0, .int .i64 0] 149 (0, 0)) := heap_alloc_new w2 _
  have hrow : (w2.alloc (.cells #[.int .i64 0, .int .i64 0] 149)).setRow w2.heap.size #[.int .i64 x, .int .i64 y] = w2.alloc (.cells #[.int .i64 x, .int .i64 y] 149) := World.setRow_alloc_new w2 _ _ _
  clear hb hcell HN HH1
  go_upto_region 9 with (refine wpList_store_row rfl 149 _ _ rfl w2.heap.size #[.int .i64 x, .int .i64 y] rfl rfl _ _ hnew (size_two _ _) rfl (one_two _ _) ?_)
  have T1 : Turn (fun _ => False) w2 (w2.alloc (.cells #[.int .i64 x, .int .i64 y] 149)) := Turn.alloc _ _ _
  have HH3 := Lib.hid (show ScriptAt (w2.alloc (.cells #[.int .i64 x, .int .i64 y] 149)) σ W H v from T1.heap HH2.out id)
  have HB3 : Hid (Below w.heap.size w (w2.alloc (.cells #[.int .i64 x, .int .i64 y] 149))) := Lib.hid (HB2.out.alloc HB2.out.size _)
  have hn3 := heap_alloc_new w2 (.cells #[.int .i64 x, .int .i64 y] 149)
  generalize (w2.alloc (.cells #[.int .i64 x, .int .i64 y] 149)) = w3 at *
  have HBS := Lib.hid HB2.out.size
  obtain ⟨q, hq⟩ : ∃ q, w2.heap.size = q := ⟨_, rfl⟩
  rw [hq] at hn3 HBS
  simp only [hq]
  clear hnew hrow T1 HH2 HB2 HB hq
  have q0 : w3.cell? ⟨q, 0, none⟩ = some (.int .i64 x) := by simp [World.cell?, hn3]
  have q1 : w3.cell? ⟨q, 1, none⟩ = some (.int .i64 y) := by simp [World.cell?, hn3]
  refine region_begin3 (fun w' => w'.cell? ⟨q, 0, none⟩ = some (.int .i64 x) ∧ w'.cell? ⟨q, 1, none⟩ = some (.int .i64 y)) (fun _ => false) 12 rfl hmx (by intro _ _ d _ _ h; cases d <;> exact h) fun hQP => ?_
  have hS : w3.drew.cell? ⟨q, 0, none⟩ = some (.int .i64 x) ∧ w3.drew.cell? ⟨q, 1, none⟩ = some (.int .i64 y) := ⟨q0, q1⟩
  refine take_f 0 42 rfl rfl (by kernel_rfl) (by kernel_rfl) (by kernel_rfl) (by kernel_rfl) hQP hS (.inl ⟨by kernel_rfl, fun w' hw' => by obtain ⟨e0, e1⟩ := hw'; go_simp; try with_reducible rfl⟩) ?_
  refine take_f 1 43 rfl rfl (by kernel_rfl) (by kernel_rfl) (by kernel_rfl) (by kernel_rfl) hQP hS (.inl ⟨by kernel_rfl, fun w' hw' => by obtain ⟨e0, e1⟩ := hw'; go_simp; try with_reducible rfl⟩) ?_
  refine take_f 2 44 rfl rfl (by kernel_rfl) (by kernel_rfl) (by kernel_rfl) (by kernel_rfl) hQP hS (.inl ⟨by kernel_rfl, fun w' hw' => by obtain ⟨e0, e1⟩ := hw'; go_simp; try with_reducible rfl⟩) ?_
  refine take_f 3 45 rfl rfl (by kernel_rfl) (by kernel_rfl) (by kernel_rfl) (by kernel_rfl) hQP hS (.inl ⟨by kernel_rfl, fun w' hw' => by obtain ⟨e0, e1⟩ := hw'; go_simp; try with_reducible rfl⟩) ?_
  refine take_f 4 46 rfl rfl (by kernel_rfl) (by kernel_rfl) (by kernel_rfl) (by kernel_rfl) hQP hS (.inl ⟨by kernel_rfl, fun w' hw' => by obtain ⟨e0, e1⟩ := hw'; go_simp; try with_reducible rfl⟩) ?_
  refine take_f 5 47 rfl rfl (by kernel_rfl) (by kernel_rfl) (by kernel_rfl) (by kernel_rfl) hQP hS (.inl ⟨by kernel_rfl, fun w' hw' => by obtain ⟨e0, e1⟩ := hw'; go_simp; try with_reducible rfl⟩) ?_
  refine take_f 6 48 rfl rfl (by kernel_rfl) (by kernel_rfl) (by kernel_rfl) (by kernel_rfl) hQP hS (.inl ⟨by kernel_rfl, fun w' hw' => by obtain ⟨e0, e1⟩ := hw'; go_simp; try with_reducible rfl⟩) ?_
  refine take_f 7 49 rfl rfl (by kernel_rfl) (by kernel_rfl) (by kernel_rfl) (by kernel_rfl) hQP hS (.inl ⟨by kernel_rfl, fun w' hw' => by obtain ⟨e0, e1⟩ := hw'; go_simp; try with_reducible rfl⟩) ?_
  try simp only [List.setIfInBounds_toArray, List.set_cons_succ, List.set_cons_zero]
  have hσ3 : w3.drew.heap[σ]? = some (.cells #[.int .i64 W, .int .i64 H, v] 49 (0, 0)) := HH3.out
  have HB4 : Hid (Below w.heap.size w w3.drew) := Lib.hid HB3.out.drew
  clear q0 q1 HH3 HB3 hn3
  generalize w3.drew = w3 at *
  have c0 : w3.cell? ⟨σ, 0, none⟩ = some (.int .i64 W) := by simp [World.cell?, hσ3]
  have f0 : w3.frozen? ⟨σ, 0, none⟩ = false := by simp [World.frozen?, hσ3]
  have hqσ : ¬ q = σ := by
    have := HBS.out
    omega
  have T4 : Turn (fun b => b = σ) w3 (w3.setCell ⟨σ, 0, none⟩ (.int .i64 x)) := Turn.setCell (T := fun b => b = σ) (p := ⟨σ, 0, none⟩) w3 (.int .i64 x) rfl
  have hσ4 : (w3.setCell ⟨σ, 0, none⟩ (.int .i64 x)).heap[σ]? = some (.cells #[.int .i64 x, .int .i64 H, v] 49 (0, 0)) := by
    rw [heap_set1 (cs := [.int .i64 W, .int .i64 H, v]) hσ3 0 (.int .i64 x)]
    rfl
  have hS4 := And.intro (T4.cell hS.1 (p := ⟨q, 0, none⟩) hqσ) (T4.cell hS.2 (p := ⟨q, 1, none⟩) hqσ)
  have HT4 := Lib.hid T4
  refine take_one (i := 8) (by kernel_rfl) rfl rfl fun KQ hK => ?_
  go_wp2_with fail
  refine hK _ _ (.inr hS4) ?_
  clear hK T4 hσ3 c0 f0 hS
  generalize (w3.setCell ⟨σ, 0, none⟩ (.int .i64 x)) = w4 at *
  have c1 : w4.cell? ⟨σ, 1, none⟩ = some (.int .i64 H) := by simp [World.cell?, hσ4]
  have f1 : w4.frozen? ⟨σ, 1, none⟩ = false := by simp [World.frozen?, hσ4]
  have T5 : Turn (fun b => b = σ) w4 (w4.setCell ⟨σ, 1, none⟩ (.int .i64 y)) := Turn.setCell (T := fun b => b = σ) (p := ⟨σ, 1, none⟩) w4 (.int .i64 y) rfl
  have hσ5 : (w4.setCell ⟨σ, 1, none⟩ (.int .i64 y)).heap[σ]? = some (.cells #[.int .i64 x, .int .i64 y, v] 49 (0, 0)) := by
    rw [heap_set1 (cs := [.int .i64 x, .int .i64 H, v]) hσ4 1 (.int .i64 y)]
    rfl
  have hS5 := And.intro (T5.cell hS4.1 (p := ⟨q, 0, none⟩) hqσ) (T5.cell hS4.2 (p := ⟨q, 1, none⟩) hqσ)
  have HF : Hid (ScriptAt (w4.setCell ⟨σ, 1, none⟩ (.int .i64 y)) σ x y v ∧ Below B w (w4.setCell ⟨σ, 1, none⟩ (.int .i64 y))) := Lib.hid (by
    refine ⟨hσ5, ?_⟩
    have h3 : B ≤ w3.heap.size := by have := HB4.out.size; omega
    exact (HB4.out.mono (by omega)).trans ((HT4.out.below h3 (fun b e => by omega)).trans (T5.below (by have := HT4.out.size; omega) (fun b e => by omega)))
    )
  have HS4 := Lib.hid hS4
  have HS5 := Lib.hid hS5
  clear T5 hσ5 hσ4 hS4 hS5
  refine take_one (i := 9) (by kernel_rfl) rfl rfl fun KQ hK => ?_
  go_wp2_with fail
  refine hK _ _ (.inr HS4.out) ?_
  clear hK
  refine take_one (i := 10) (by kernel_rfl) rfl rfl fun KQ hK => ?_
  go_wp2_with fail
  refine hK _ _ (.inr HS4.out) ?_
  clear hK
  refine take_one (i := 11) (by kernel_rfl) rfl rfl fun KQ hK => ?_
  go_wp2_with fail
  refine hK _ _ (.inr HS5.out) ?_
  clear hK
  refine take_done (by kernel_rfl) ?_ _
  try simp only [List.setIfInBounds_toArray, List.set_cons_succ, List.set_cons_zero]
  go_wp2_with fail
  go_ret
  exact ⟨rfl, HF.out.1, HF.out.2⟩
end Go.Proofs.YtjicdcmdgbcdcaaGreatDoor.Scr
end

/-
  shift.Insert, shift.Delete.
  shift.turns; shift.Insert, shift.Delete.
-/
import Derived.Test.YtjicdcmdgbcdcaaGreatDoorSd42

section
namespace Go.Proofs.YtjicdcmdgbcdcaaGreatDoor.Scr
set_option linter.unusedSimpArgs false
set_option linter.unusedVariables false
open Go Go.RowKit Mem Turn Ring

set_option maxRecDepth 100000 in
set_option maxHeartbeats 8000000 in
theorem ins1_any (g n c B q : Nat) (cs : List CellC) (col k : Nat) (w : World) (h : CO w B g n c cs) (hq : w.heap[q]? = some (.cells #[.int .i64 (col : Int)] 3 (0, 0))) (hc : col < n) (hn : n ≤ 1024) (hk0 : 0 < k) (hk : k ≤ 1024) :
    Calls Tryz.prog 196 #[.slice (some ⟨g, 0, none⟩) n c, .int .i64 (k : Int), .pointer (some ⟨q, 0, none⟩)] w fun e w' => ∃ v, e = .returned v ∧ OwnCells B w' v (insertC cs col k) ∧ Turn (fun b => b = g) w w' := by
  have hmx : Tryz.prog.follows .mixedOrders = true := by kernel_rfl
  obtain ⟨i0, hi0, hz0, hz1, hz2⟩ := info_parts info_cell
  have HB := Lib.hid (fun w => blanks_any (k : Int) k (by omega) w)
  have HH := Lib.hid h
  have HQ := Lib.hid hq
  have hqc : w.cell? ⟨q, 0, none⟩ = some (.int .i64 (col : Int)) := by simp [World.cell?, hq]
  have hcn : (col : Int) < (n : Int) := by omega
  have hglt := h.typ.lt
  have hqlt : q < w.heap.size := (Array.getElem?_eq_some_iff.1 hq).1
  have hqg : ¬ q = g := fun e => (show Typ w 3 q from ⟨_, _, hq⟩).ne h.typ (by decide) e
  obtain ⟨D, hD⟩ : ∃ D, D = cs.take col ++ (blanks k ++ cs.drop col) := ⟨_, rfl⟩
  have hcs := h.1
  have hDl : D.length = n + k := by
    rw [hD, List.length_append, List.length_append, List.length_take, List.length_drop, blanks_len, ← hcs]
    omega
  have HI := Lib.hid (show insertC cs col k = (if kindAt (D.take n) (n - 1) = 2 then (D.take n).set (n - 1) blank else D.take n) from by rw [hD, hcs]; rfl)
  have HD := Lib.hid hD
  clear h hq hcs hD
  go_enter Tryz.func196, Tryz.ntmps196
  go_upto_region 2 with fail
  refine region_begin3 (fun w' => w'.cell? ⟨q, 0, none⟩ = some (.int .i64 (col : Int))) (fun _ => false) 8 rfl hmx (by intro _ _ d _ _ h; cases d <;> exact h) fun hQP => ?_
  have hS : w.drew.cell? ⟨q, 0, none⟩ = some (.int .i64 (col : Int)) := hqc
  have HB0 : Hid (Below w.heap.size w w.drew) := Lib.hid ((Below.refl _ _).drew)
  clear hqc
  generalize w.drew = w0 at *
  refine take_f 0 9 rfl rfl (by kernel_rfl) (by kernel_rfl) (by kernel_rfl) (by kernel_rfl) hQP hS (.inl ⟨by kernel_rfl, fun w' hw' => by go_simp; try with_reducible rfl⟩) ?_
  refine take_f 1 10 rfl rfl (by kernel_rfl) (by kernel_rfl) (by kernel_rfl) (by kernel_rfl) hQP hS (.inl ⟨by kernel_rfl, fun w' hw' => by go_simp; try with_reducible rfl⟩) ?_
  refine take_f 2 11 rfl rfl (by kernel_rfl) (by kernel_rfl) (by kernel_rfl) (by kernel_rfl) hQP hS (.inl ⟨by kernel_rfl, fun w' hw' => by go_simp; try with_reducible rfl⟩) ?_
  refine take_f 5 14 rfl rfl (by kernel_rfl) (by kernel_rfl) (by kernel_rfl) (by kernel_rfl) hQP hS (.inl ⟨by kernel_rfl, fun w' hw' => by go_simp; try with_reducible rfl⟩) ?_
  try simp only [List.setIfInBounds_toArray, List.set_cons_succ, List.set_cons_zero]
  refine take_g (i := 3) (by kernel_rfl) rfl (by kernel_rfl) fun KQ hK => ?_
  go_wp2_with fail
  refine (HB.out _).mono ?_
  rintro e w1 ⟨rfl, rfl⟩
  have T1 : Turn (fun _ => False) w0 (w0.alloc (.cells (flatC (List.replicate k (0, .slice none 0 0))).toArray 80)) := Turn.alloc _ _ _
  have HV := Lib.hid (CO.blanks w0 k hk)
  have hS1 := T1.cell hS id
  have HT1 := Lib.hid ((Turn.of_new (T := fun b => b = g) HB0.out).trans (T1.mono fun _ _ h => h.elim))
  have hsz : w.heap.size ≤ w0.heap.size := HB0.out.size
  have HH1 := Lib.hid ((HH.out.turn (Turn.of_new HB0.out : Turn (fun _ => False) w w0) (Free.no _ _) id).turn T1 (Free.no _ _) id)
  clear hS T1
  generalize (w0.alloc (.cells (flatC (List.replicate k (0, .slice none 0 0))).toArray 80)) = w2 at *
  generalize hvb : w0.heap.size = vb at *
  refine hK _ _ (.inr hS1) ?_
  clear hK
  try simp only [List.setIfInBounds_toArray, List.set_cons_succ, List.set_cons_zero]
  have HN := Lib.hid (HH1.out.ins col vb k hc hk0 (by omega) (by omega) k (HV.out.base (Nat.zero_le _)) (by omega))
  refine take_g (i := 4) (by kernel_rfl) rfl (by kernel_rfl) fun KQ hK => ?_
  go_wp2_with fail
  refine HN.out.mono ?_
  rintro e w3 ⟨g3, c3, rfl, hg3, h3, ht3⟩
  have HG3 := Lib.hid (show g3 = g ∨ w.heap.size ≤ g3 from hg3.imp id fun h => Nat.le_trans HT1.out.size h)
  clear hg3
  have hS3 : w3.cell? ⟨q, 0, none⟩ = some (.int .i64 (col : Int)) := ht3.cell hS1 hqg
  refine hK _ _ (.inr hS3) ?_
  clear hK
  try simp only [List.setIfInBounds_toArray, List.set_cons_succ, List.set_cons_zero]
  have hlo := h3.lo.2
  have hn3 : n ≤ c3 := by omega
  have hn4 : (n : Int) ≤ (c3 : Int) := by omega
  have hS := hS3
  refine take_f 6 15 rfl rfl (by kernel_rfl) (by kernel_rfl) (by kernel_rfl) (by kernel_rfl) hQP hS (.inl ⟨by kernel_rfl, fun w' hw' => by go_simp; try with_reducible rfl⟩) ?_
  refine take_f 7 0 rfl rfl (by kernel_rfl) (by kernel_rfl) (by kernel_rfl) (by kernel_rfl) hQP hS (.inl ⟨by kernel_rfl, fun w' hw' => by go_simp; try with_reducible rfl⟩) ?_
  refine take_done (by kernel_rfl) ?_ _
  try simp only [List.setIfInBounds_toArray, List.set_cons_succ, List.set_cons_zero]
  have HE := Lib.hid (h3.take (m := n) (by omega))
  have HT3 := Lib.hid (HT1.out.trans ht3)
  rw [← HD.out] at HE
  have hne : 1 ≤ n := by omega
  obtain ⟨p, rfl⟩ : ∃ p, n = p + 1 := ⟨n - 1, by omega⟩
  rw [show p + 1 - 1 = p from rfl] at HI
  obtain ⟨v, x0, x1, x2, x3⟩ := HE.out.cell (i := p) (by omega)
  clear h3 ht3 HN HH1 HH HV hS hS1 hS3
  by_cases hk2 : kindAt (D.take (p + 1)) p = 2
  · have HF : Hid (OwnCells B (putW w3 g3 p 0 (.slice none 0 0)) (.slice (some ⟨g3, 0, none⟩) (p + 1) c3) (insertC cs col k) ∧ Turn (fun b => b = g) w (putW w3 g3 p 0 (.slice none 0 0))) := Lib.hid (by
      refine ⟨?_, ((HT3.out.mono fun _ _ e => .inl e : Turn (fun b => b = g ∨ b = g3) w w3).trans ((putW_turn _ _ _ _ _).mono fun _ _ e => .inr e)).mono fun b hb e => e.elim id fun e => ?_⟩
      · rw [HI.out, if_pos hk2]
        exact (HE.out.blank (i := p) (by omega)).own
      · have := HG3.out
        omega)
    rw [hk2] at x0
    go_wp2_with fail
    go_ret
    exact ⟨_, rfl, HF.out⟩
  · have HF : Hid (OwnCells B w3 (.slice (some ⟨g3, 0, none⟩) (p + 1) c3) (insertC cs col k)) := Lib.hid (by
      rw [HI.out, if_neg hk2]
      exact HE.out.own)
    go_wp2_with fail
    go_ret
    exact ⟨_, rfl, HF.out, HT3.out⟩

set_option maxRecDepth 100000 in
set_option maxHeartbeats 8000000 in
theorem del1_any (g n c B q : Nat) (cs : List CellC) (col k : Nat) (w : World) (h : CO w B g n c cs) (h0 : kindAt cs 0 ≠ 3) (hq : w.heap[q]? = some (.cells #[.int .i64 (col : Int)] 3 (0, 0))) (hc : col + k ≤ n) (hn : n ≤ 1024) (hk0 : 0 < k) (hk : k ≤ 1024) :
    Calls Tryz.prog 198 #[.slice (some ⟨g, 0, none⟩) n c, .int .i64 (k : Int), .pointer (some ⟨q, 0, none⟩)] w fun e w' => ∃ v, e = .returned v ∧ OwnCells B w' v (deleteC cs col k) ∧ Turn (fun b => b = g) w w' := by
  have hmx : Tryz.prog.follows .mixedOrders = true := by kernel_rfl
  obtain ⟨i0, hi0, hz0, hz1, hz2⟩ := info_parts info_cell
  have HB := Lib.hid (fun w => blanks_any (k : Int) k (by omega) w)
  have HH := Lib.hid h
  have hqc : w.cell? ⟨q, 0, none⟩ = some (.int .i64 (col : Int)) := by simp [World.cell?, hq]
  have hqg : ¬ q = g := fun e => (show Typ w 3 q from ⟨_, _, hq⟩).ne h.typ (by decide) e
  obtain ⟨j, hj⟩ : ∃ j, j = col + k := ⟨_, rfl⟩
  have hw : IntKind.i64.wrap ((col : Int) + (k : Int)) = (j : Int) := by rw [IntKind.wrap_i64]; omega
  have HD := Lib.hid (show deleteC cs col k = (tearC cs j).take col ++ (tearC cs j).drop j ++ blanks k from by rw [hj]; rfl)
  have HT := Lib.hid (h.tear g n c B cs j w h0 (by omega) (by omega))
  replace hj := Lib.hid hj
  clear h hq
  go_enter Tryz.func198, Tryz.ntmps198
  go_wp2_with fail
  refine HT.out.mono ?_
  rintro e w1 ⟨rfl, h1, ht1⟩
  replace hqc := ht1.cell hqc hqg
  have HT1 := Lib.hid ht1
  have H1 := Lib.hid (h1.del col j (by have := hj.out; omega) (by have := hj.out; omega))
  clear h1 ht1 HT
  go_wp2_with fail
  refine H1.out.mono ?_
  rintro e w2 ⟨rfl, h2, ht2⟩
  have HT2 := Lib.hid (HT1.out.trans ht2)
  have H2 := Lib.hid h2
  obtain ⟨m, hm⟩ : ∃ m, m = col + (n - j) := ⟨_, rfl⟩
  have hmk : m + k = n := by have := hj.out; omega
  rw [← hm] at H2 ⊢
  replace hm := Lib.hid hm
  clear h2 ht2 H1 HT1 hqc
  go_wp2_with fail
  refine (HB.out _).mono ?_
  rintro e w3 ⟨rfl, rfl⟩
  have T3 : Turn (fun _ => False) w2 (w2.alloc (.cells (flatC (List.replicate k (0, .slice none 0 0))).toArray 80)) := Turn.alloc _ _ _
  have HV := Lib.hid (CO.blanks w2 k hk)
  have HT3 := Lib.hid (HT2.out.trans (T3.mono fun _ _ h => h.elim))
  have H3 := Lib.hid (H2.out.turn T3 (Free.no _ _) id)
  clear T3 H2 HT2 HB
  generalize (w2.alloc (.cells (flatC (List.replicate k (0, .slice none 0 0))).toArray 80)) = w4 at *
  generalize w2.heap.size = vb at *
  obtain ⟨e1, rs, o1, t1⟩ := H3.out
  obtain ⟨e2, vs, o2, t2⟩ := HV.out
  have HO := Lib.hid o1
  have hvl : (flatC vs).length = k * 2 := o2.1
  have hvc : ∀ t u, (flatC vs)[t]? = some u → w4.cell? ((⟨vb, 0, none⟩ : Addr).add t) = some u := fun t u hu => o2.cells (g := vb) rfl t u hu
  have hv1 := flatC_one _ t2.one
  generalize hfv : flatC vs = fv at *
  have HVC := Lib.hid hvc
  have HV1 := Lib.hid hv1
  have HVL := Lib.hid hvl
  have hnc := H3.out.lo.2
  have hBs : B ≤ w4.heap.size := by have := H3.out.lo; have := H3.out.typ.lt; omega
  replace e1 := Lib.hid e1
  replace e2 := Lib.hid e2
  replace hfv := Lib.hid hfv
  clear hvc hv1 o1 o2 hvl
  go_wp2_with (at_builtin; (refine wpList_append_own _ rfl _ _ 43 rfl B 80 i0 _ 2 32 Tryz.underlying43 hi0 hz0 hz1 hz2 rfl (by decide) (.slice (some ⟨g, 0, none⟩) m c) m _ rfl HO.out ⟨vb, 0, none⟩ k k fv rfl HVL.out HVC.out HV1.out (by unfold maxLen; omega) (by omega) (by omega) ?_); intro v5 w5 hown5 hgrow5 _)
  have T5 : Turn (fun j => j = g) w4 w5 := Turn.of_grown hgrow5 (fun g' e => by injection e with e; exact e.symm)
  have HF : Hid (OwnCells B w5 v5 (deleteC cs col k) ∧ Turn (fun b => b = g) w w5) := Lib.hid (by
    refine ⟨⟨rs ++ vs, ?_, ?_⟩, HT3.out.trans T5⟩
    · rw [HD.out, flatC_app, hfv.out, List.length_append, ← e1.out, ← e2.out]
      exact hown5
    · rw [HD.out]
      exact (t1.app t2).turn T5 H3.out.free)
  go_ret
  exact ⟨_, rfl, HF.out⟩
end Go.Proofs.YtjicdcmdgbcdcaaGreatDoor.Scr
end
section
namespace Go.Proofs.YtjicdcmdgbcdcaaGreatDoor.Scr
set_option linter.unusedSimpArgs false
set_option linter.unusedVariables false
open Go Go.RowKit Mem Turn Ring

theorem tearC_head {cs : List CellC} (col : Nat) (h : kindAt cs 0 ≠ 3) : kindAt (tearC cs col) 0 ≠ 3 := by
  unfold tearC
  split
  · unfold kindAt at h ⊢
    rw [List.getD_eq_getElem?_getD] at h ⊢
    by_cases h1 : col = 0
    · subst h1
      rcases cs with _ | ⟨x, l⟩
      · exact h
      · simp [blank]
    · rw [List.getElem?_set_ne (by omega)]
      by_cases h2 : col - 1 = 0
      · rw [h2]
        rcases cs with _ | ⟨x, l⟩
        · exact h
        · simp [blank]
      · rw [List.getElem?_set_ne (by omega)]
        exact h
  · exact h

/-- what is done to a row's cells -/
def DoesC (fid q : Nat) (col W : Nat) (do_ : List CellC → Nat → Nat → List CellC) : Prop :=
  ∀ (g c B k : Nat) (cs : List CellC) (w : World), CO w B g W c cs → kindAt cs 0 ≠ 3 → w.heap[q]? = some (.cells #[.int .i64 (col : Int)] 3 (0, 0)) → col + k ≤ W → W ≤ 1024 → 0 < k →
    Calls Tryz.prog fid #[.slice (some ⟨g, 0, none⟩) W c, .int .i64 (k : Int), .pointer (some ⟨q, 0, none⟩)] w fun e w' => ∃ v, e = .returned v ∧ OwnCells B w' v (do_ cs col k) ∧ Turn (fun b => b = g) w w'

set_option maxRecDepth 100000 in
set_option maxHeartbeats 8000000 in
theorem turns_any (fid q ρ κ : Nat) (l : LineC) (col n : Int) (do_ : List CellC → Nat → Nat → List CellC) (w : World) (h : RowAt w ρ κ l) (hs : soundB l.1 = true) (hv : ∀ w', Below w.heap.size w w' → Vars w' ∧ 3 < w'.heap.size)
    (hq : w.heap[q]? = some (.cells #[.int .i64 col] 3 (0, 0))) (hdo : 0 ≤ col → col < l.1.length → DoesC fid q col.toNat l.1.length do_) (hdl : ∀ cs c k, cs.length = l.1.length → c + k ≤ cs.length → (do_ cs c k).length ≤ 100000) (hent : ∀ args w, (callFunc fid args).run Tryz.prog w = .ok (.enter fid args) w) (hn1 : -9223372036854775808 ≤ n) (hn2 : n ≤ 9223372036854775807) :
    Calls Tryz.prog 195 #[ptr ρ, .int .i64 col, .int .i64 n, .func (.func fid) #[] #[.pointer (some ⟨q, 0, none⟩)]] w fun e w' => e = .returned (.tuple #[]) ∧ RowTo w ρ κ (shiftR do_ l col n) w' := by
  have hmx : Tryz.prog.follows .mixedOrders = true := by kernel_rfl
  have hle := h.le
  have HW := Lib.hid (wide_any ρ κ l w h)
  have HC := Lib.hid (cells_any ρ κ l w h)
  have HS := Lib.hid (show shiftR do_ l col n = (if col < 0 ∨ (l.1.length : Int) ≤ col ∨ n < 1 then l else paint l 0 (do_ (tearC l.1 col.toNat) col.toNat (min n ((l.1.length : Int) - col)).toNat)) from rfl)
  have HH := Lib.hid h
  have HV := Lib.hid hv
  have HSO := Lib.hid hs
  have HQ := Lib.hid hq
  have HDL := Lib.hid hdl
  have HENT := Lib.hid hent
  obtain ⟨N, hN⟩ : ∃ N, N = l.1.length := ⟨_, rfl⟩
  rw [← hN] at HW HS hle hdo
  replace hN := Lib.hid hN
  by_cases hno : col < 0 ∨ (N : Int) ≤ col ∨ n < 1
  · have HF : Hid (RowTo w ρ κ (shiftR do_ l col n) w) := Lib.hid (by
      rw [HS.out, if_pos hno]
      exact ⟨HH.out, Turn.refl _ _⟩)
    clear h hs hv hdo HC HV HQ hq hdl hent
    go_enter Tryz.func195, Tryz.ntmps195
    go_wp2_with fail
    refine HW.out.mono ?_
    rintro e wx ⟨rfl, rfl⟩
    go_wp2_with fail
    all_goals
      refine bodyPost_ret (results_none rfl _ _ _) rfl ?_
      exact ⟨rfl, HF.out⟩
  · obtain ⟨c, hc⟩ : ∃ c : Nat, col = c := ⟨col.toNat, by omega⟩
    subst hc
    have hcN : (c : Int) < (N : Int) := by omega
    have hn0 : 1 ≤ n := by omega
    have hn0' : ¬ n < 1 := by omega
    have HDO := Lib.hid (hdo (by omega) hcN)
    obtain ⟨k, hk⟩ : ∃ k : Nat, (k : Int) = min n ((N : Int) - c) := ⟨(min n ((N : Int) - c)).toNat, by omega⟩
    have hk1 : c + k ≤ N := by omega
    have hk0 : 0 < k := by omega
    have HF := Lib.hid (show shiftR do_ l c n = paint l 0 (do_ (tearC l.1 c) c k) from by
      rw [HS.out, if_neg hno, ← hk]
      rfl)
    have HK := Lib.hid hk
    clear hs hv hdo hq hdl HS hno hk hent
    go_enter Tryz.func195, Tryz.ntmps195
    go_wp2_with fail
    refine HW.out.mono ?_
    rintro e wx ⟨rfl, rfl⟩
    go_wp2_with fail
    refine HC.out.mono ?_
    rintro e w1 ⟨v, rfl, ho, hb⟩
    have hlen := h.pos
    obtain ⟨g, cp, rfl, h1⟩ := CO.of_own ho hlen
    rw [← hN.out] at h1 ⊢
    have hg := h1.lo.1
    have T1 : Turn (fun _ => False) w w1 := Turn.of_new hb
    have HQ1 := Lib.hid (T1.heap HQ.out id)
    have HR1 := Lib.hid (h.turn T1 (Free.no _ _) id id)
    have HB1 := Lib.hid hb
    have HT := Lib.hid (h1.tear g N cp w.heap.size l.1 c w1 (sound_first HSO.out) (by omega) (by omega))
    have hρ := h.typ.lt
    have hκ := h.cells.typ.lt
    have hqlt : q < w.heap.size := (Array.getElem?_eq_some_iff.1 HQ.out).1
    clear ho hb T1 h1 h HC HW HQ
    go_wp2_with fail
    refine HT.out.mono ?_
    rintro e w2 ⟨rfl, h2, ht2⟩
    have HB2 := Lib.hid (HB1.out.trans (ht2.below HB1.out.size (fun j e => by rw [e]; exact hg)))
    have HR2 := Lib.hid (HH.out.turn (Turn.of_new HB2.out : Turn (fun _ => False) w w2) (Free.no _ _) id id)
    have HQ2 := Lib.hid (ht2.heap HQ1.out (fun e => by omega))
    have H2 := Lib.hid h2
    have hwm : IntKind.i64.wrap ((N : Int) - (c : Int)) = (N : Int) - (c : Int) := by rw [IntKind.wrap_i64]; omega
    have hmin : min n ((N : Int) - (c : Int)) = (k : Int) := HK.out.symm
    clear h2 ht2 HT HQ1 HR1 HB1
    go_wp2_with fail
    have HD := Lib.hid (HDO.out g cp w.heap.size k (tearC l.1 c) w2 H2.out (tearC_head c (sound_first HSO.out)) HQ2.out (by omega) hle hk0)
    have HTL : Hid ((tearC l.1 c).length = N) := Lib.hid (by rw [tearC_len, ← hN.out])
    generalize tearC l.1 c = tc at *
    go_wp2_with (simp only [HENT.out])
    refine HD.out.mono ?_
    rintro e w3 ⟨v3, rfl, h3, ht3⟩
    have HB3 := Lib.hid (HB2.out.trans (ht3.below HB2.out.size (fun j e => by rw [e]; exact hg)))
    have HR3 := Lib.hid (HH.out.turn (Turn.of_new HB3.out : Turn (fun _ => False) w w3) (Free.no _ _) id id)
    have HP := Lib.hid (paint_any ρ κ 0 l v3 (do_ tc c k) w3 HR3.out (sound_first HSO.out) (HV.out w3 HB3.out).1 (h3.on HR3.out hρ hκ (HDL.out _ _ _ (by rw [HTL.out, hN.out]) (by rw [HTL.out]; exact hk1))) (HV.out w3 HB3.out).2 (by decide) (by decide))
    clear h3 ht3 HD HQ2 H2 HR2 HB2
    go_wp2_with fail
    refine HP.out.mono ?_
    rintro e w4 ⟨⟨v4, _, rfl⟩, hr4, ht4⟩
    have HZ : Hid (RowTo w ρ κ (shiftR do_ l c n) w4) := Lib.hid (by
      rw [HF.out]
      exact ⟨hr4, (Turn.of_new HB3.out).trans ht4⟩)
    clear hr4 ht4 HP
    go_wp2_with fail
    go_end0
    exact ⟨rfl, HZ.out⟩

theorem enter_ins : ∀ args w, (callFunc 196 args).run Tryz.prog w = .ok (.enter 196 args) w := fun args w => by
  have hf := Tryz.func196
  have h1 : (Tryz.f196).name ≠ "runtime.NumGoroutine" := by decide
  obtain ⟨c, hb⟩ : ∃ c, (Tryz.f196).body = some c := ⟨_, rfl⟩
  simp [callFunc, hf, h1, hb]
theorem enter_del : ∀ args w, (callFunc 198 args).run Tryz.prog w = .ok (.enter 198 args) w := fun args w => by
  have hf := Tryz.func198
  have h1 : (Tryz.f198).name ≠ "runtime.NumGoroutine" := by decide
  obtain ⟨c, hb⟩ : ∃ c, (Tryz.f198).body = some c := ⟨_, rfl⟩
  simp [callFunc, hf, h1, hb]
theorem insertC_len {cs : List CellC} {c k : Nat} : (insertC cs c k).length ≤ cs.length := by
  unfold insertC
  split
  · rw [List.length_set, List.length_take]; omega
  · rw [List.length_take]; omega
theorem deleteC_len {cs : List CellC} {c k : Nat} (h : c + k ≤ cs.length) : (deleteC cs c k).length ≤ cs.length := by
  unfold deleteC
  rw [List.length_append, List.length_append, List.length_take, List.length_drop, tearC_len, blanks_len]
  omega
section
variable (ρ κ : Nat) (l : LineC) (w : World) (h : RowAt w ρ κ l) (hs : soundB l.1 = true) (hv : ∀ w', Below w.heap.size w w' → Vars w' ∧ 3 < w'.heap.size)
include h hs hv
theorem insert_is (col n : Int) (hn1 : -9223372036854775808 ≤ n) (hn2 : n ≤ 9223372036854775807) : Calls Tryz.prog 131 #[ptr ρ, .int .i64 col, .int .i64 n] w fun e w' => e = .returned (.tuple #[]) ∧ RowTo w ρ κ (shiftR insertC l col n) w' := by
  have TA : Turn (fun _ => False) w (w.alloc (.cells #[.int .i64 col] 3)) := Turn.alloc _ _ _
  have hq := heap_alloc_new w (.cells #[.int .i64 col] 3)
  have hle := h.le
  have HT := Lib.hid (turns_any 196 w.heap.size ρ κ l col n insertC _ (h.turn TA (Free.no _ _) id id) hs (fun w' hb => hv w' (((Below.refl _ _).alloc (Nat.le_refl _) _).trans (hb.mono (by simp)))) hq
    (fun h1 h2 g c B k cs w h3 h4 h5 h6 h7 h8 => ins1_any g _ c B _ cs col.toNat k w h3 h5 (by omega) h7 h8 (by omega)) (fun cs c k h1 h2 => by have := insertC_len (cs := cs) (c := c) (k := k); omega) enter_ins hn1 hn2)
  have HA := Lib.hid TA
  clear h hs hv hq TA
  go_enter Tryz.func131, Tryz.ntmps131
  go_wp2_with fail
  refine HT.out.mono ?_
  rintro e w1 ⟨rfl, hr, ht⟩
  have HF : Hid (RowTo w ρ κ (shiftR insertC l col n) w1) := Lib.hid ⟨hr, (HA.out.mono fun _ _ h => h.elim).trans ht⟩
  clear hr ht HT
  go_wp2_with fail
  go_end0
  exact ⟨rfl, HF.out⟩
theorem delete_is (col n : Int) (hn1 : -9223372036854775808 ≤ n) (hn2 : n ≤ 9223372036854775807) : Calls Tryz.prog 132 #[ptr ρ, .int .i64 col, .int .i64 n] w fun e w' => e = .returned (.tuple #[]) ∧ RowTo w ρ κ (shiftR deleteC l col n) w' := by
  have TA : Turn (fun _ => False) w (w.alloc (.cells #[.int .i64 col] 3)) := Turn.alloc _ _ _
  have hq := heap_alloc_new w (.cells #[.int .i64 col] 3)
  have hle := h.le
  have HT := Lib.hid (turns_any 198 w.heap.size ρ κ l col n deleteC _ (h.turn TA (Free.no _ _) id id) hs (fun w' hb => hv w' (((Below.refl _ _).alloc (Nat.le_refl _) _).trans (hb.mono (by simp)))) hq
    (fun h1 h2 g c B k cs w h3 h4 h5 h6 h7 h8 => del1_any g _ c B _ cs col.toNat k w h3 h4 h5 h6 h7 h8 (by omega)) (fun cs c k h1 h2 => by have := deleteC_len (cs := cs) (c := c) (k := k) h2; omega) enter_del hn1 hn2)
  have HA := Lib.hid TA
  clear h hs hv hq TA
  go_enter Tryz.func132, Tryz.ntmps132
  go_wp2_with fail
  refine HT.out.mono ?_
  rintro e w1 ⟨rfl, hr, ht⟩
  have HF : Hid (RowTo w ρ κ (shiftR deleteC l col n) w1) := Lib.hid ⟨hr, (HA.out.mono fun _ _ h => h.elim).trans ht⟩
  clear hr ht HT
  go_wp2_with fail
  go_end0
  exact ⟨rfl, HF.out⟩
end
end Go.Proofs.YtjicdcmdgbcdcaaGreatDoor.Scr
end

/-
  shift.turns; shift.Insert, shift.Delete.
  edit: cells (printed by gen_cells.py).
-/
import Derived.Test.YtjicdcmdgbcdcaaGreatDoorCd35
import Derived.Test.YtjicdcmdgbcdcaaGreatDoorCd40

section
namespace Go.Proofs.YtjicdcmdgbcdcaaGreatDoor.Scr
set_option linter.unusedSimpArgs false
set_option linter.unusedVariables false
open Go Go.RowKit Mem Turn Ring

theorem tearC_head {cs : List CellC} (col : Nat) (h : kindAt cs 0 ≠ 3) : kindAt (tearC cs col) 0 ≠ 3 := by
  unfold tearC
  split
  · unfold kindAt at h ⊢
    rw [List.getD_eq_getElem?_getD] at h ⊢
    by_cases h1 : col = 0
    · subst h1
      rcases cs with _ | ⟨x, l⟩
      · exact h
      · simp [blank]
    · rw [List.getElem?_set_ne (by omega)]
      by_cases h2 : col - 1 = 0
      · rw [h2]
        rcases cs with _ | ⟨x, l⟩
        · exact h
        · simp [blank]
      · rw [List.getElem?_set_ne (by omega)]
        exact h
  · exact h

/-- what is done to a row's cells -/
def DoesC (fid q : Nat) (col W : Nat) (do_ : List CellC → Nat → Nat → List CellC) : Prop :=
  ∀ (g c B k : Nat) (cs : List CellC) (w : World), CO w B g W c cs → kindAt cs 0 ≠ 3 → w.heap[q]? = some (.cells #[.int .i64 (col : Int)] 3 (0, 0)) → col + k ≤ W → W ≤ 1024 → 0 < k →
    Calls Tryz.prog fid #[.slice (some ⟨g, 0, none⟩) W c, .int .i64 (k : Int), .pointer (some ⟨q, 0, none⟩)] w fun e w' => ∃ v, e = .returned v ∧ OwnCells B w' v (do_ cs col k) ∧ Turn (fun b => b = g) w w'

set_option maxRecDepth 100000 in
set_option maxHeartbeats 8000000 in
theorem turns_any (fid q ρ κ : Nat) (l : LineC) (col n : Int) (do_ : List CellC → Nat → Nat → List CellC) (w : World) (h : RowAt w ρ κ l) (hs : soundB l.1 = true) (hv : ∀ w', Below w.heap.size w w' → Vars w' ∧ 3 < w'.heap.size)
    (hq : w.heap[q]? = some (.cells #[.int .i64 col] 3 (0, 0))) (hdo : 0 ≤ col → col < l.1.length → DoesC fid q col.toNat l.1.length do_) (hdl : ∀ cs c k, cs.length = l.1.length → c + k ≤ cs.length → (do_ cs c k).length ≤ 100000) (hent : ∀ args w, (callFunc fid args).run Tryz.prog w = .ok (.enter fid args) w) (hn1 : -9223372036854775808 ≤ n) (hn2 : n ≤ 9223372036854775807) :
    Calls Tryz.prog 195 #[ptr ρ, .int .i64 col, .int .i64 n, .func (.func fid) #[] #[.pointer (some ⟨q, 0, none⟩)]] w fun e w' => e = .returned (.tuple #[]) ∧ RowTo w ρ κ (shiftR do_ l col n) w' := by
  have hmx : Tryz.prog.follows .mixedOrders = true := by kernel_rfl
  have hle := h.le
  have HW := Lib.hid (wide_any ρ κ l w h)
  have HC := Lib.hid (cells_any ρ κ l w h)
  have HS := Lib.hid (show shiftR do_ l col n = (if col < 0 ∨ (l.1.length : Int) ≤ col ∨ n < 1 then l else paint l 0 (do_ (tearC l.1 col.toNat) col.toNat (min n ((l.1.length : Int) - col)).toNat)) from rfl)
  have HH := Lib.hid h
  have HV := Lib.hid hv
  have HSO := Lib.hid hs
  have HQ := Lib.hid hq
  have HDL := Lib.hid hdl
  have HENT := Lib.hid hent
  obtain ⟨N, hN⟩ : ∃ N, N = l.1.length := ⟨_, rfl⟩
  rw [← hN] at HW HS hle hdo
  replace hN := Lib.hid hN
  by_cases hno : col < 0 ∨ (N : Int) ≤ col ∨ n < 1
  · have HF : Hid (RowTo w ρ κ (shiftR do_ l col n) w) := Lib.hid (by
      rw [HS.out, if_pos hno]
      exact ⟨HH.out, Turn.refl _ _⟩)
    clear h hs hv hdo HC HV HQ hq hdl hent
    go_enter Tryz.func195, Tryz.ntmps195
    go_wp2_with fail
    refine HW.out.mono ?_
    rintro e wx ⟨rfl, rfl⟩
    go_wp2_with fail
    all_goals
      refine bodyPost_ret (results_none rfl _ _ _) rfl ?_
      exact ⟨rfl, HF.out⟩
  · obtain ⟨c, hc⟩ : ∃ c : Nat, col = c := ⟨col.toNat, by omega⟩
    subst hc
    have hcN : (c : Int) < (N : Int) := by omega
    have hn0 : 1 ≤ n := by omega
    have hn0' : ¬ n < 1 := by omega
    have HDO := Lib.hid (hdo (by omega) hcN)
    obtain ⟨k, hk⟩ : ∃ k : Nat, (k : Int) = min n ((N : Int) - c) := ⟨(min n ((N : Int) - c)).toNat, by omega⟩
    have hk1 : c + k ≤ N := by omega
    have hk0 : 0 < k := by omega
    have HF := Lib.hid (show shiftR do_ l c n = paint l 0 (do_ (tearC l.1 c) c k) from by
      rw [HS.out, if_neg hno, ← hk]
      rfl)
    have HK := Lib.hid hk
    clear hs hv hdo hq hdl HS hno hk hent
    go_enter Tryz.func195, Tryz.ntmps195
    go_wp2_with fail
    refine HW.out.mono ?_
    rintro e wx ⟨rfl, rfl⟩
    go_wp2_with fail
    refine HC.out.mono ?_
    rintro e w1 ⟨v, rfl, ho, hb⟩
    have hlen := h.pos
    obtain ⟨g, cp, rfl, h1⟩ := CO.of_own ho hlen
    rw [← hN.out] at h1 ⊢
    have hg := h1.lo.1
    have T1 : Turn (fun _ => False) w w1 := Turn.of_new hb
    have HQ1 := Lib.hid (T1.heap HQ.out id)
    have HR1 := Lib.hid (h.turn T1 (Free.no _ _) id id)
    have HB1 := Lib.hid hb
    have HT := Lib.hid (h1.tear g N cp w.heap.size l.1 c w1 (sound_first HSO.out) (by omega) (by omega))
    have hρ := h.typ.lt
    have hκ := h.cells.typ.lt
    have hqlt : q < w.heap.size := (Array.getElem?_eq_some_iff.1 HQ.out).1
    clear ho hb T1 h1 h HC HW HQ
    go_wp2_with fail
    refine HT.out.mono ?_
    rintro e w2 ⟨rfl, h2, ht2⟩
    have HB2 := Lib.hid (HB1.out.trans (ht2.below HB1.out.size (fun j e => by rw [e]; exact hg)))
    have HR2 := Lib.hid (HH.out.turn (Turn.of_new HB2.out : Turn (fun _ => False) w w2) (Free.no _ _) id id)
    have HQ2 := Lib.hid (ht2.heap HQ1.out (fun e => by omega))
    have H2 := Lib.hid h2
    have hwm : IntKind.i64.wrap ((N : Int) - (c : Int)) = (N : Int) - (c : Int) := by rw [IntKind.wrap_i64]; omega
    have hmin : min n ((N : Int) - (c : Int)) = (k : Int) := HK.out.symm
    clear h2 ht2 HT HQ1 HR1 HB1
    go_wp2_with fail
    have HD := Lib.hid (HDO.out g cp w.heap.size k (tearC l.1 c) w2 H2.out (tearC_head c (sound_first HSO.out)) HQ2.out (by omega) hle hk0)
    have HTL : Hid ((tearC l.1 c).length = N) := Lib.hid (by rw [tearC_len, ← hN.out])
    generalize tearC l.1 c = tc at *
    go_wp2_with (simp only [HENT.out])
    refine HD.out.mono ?_
    rintro e w3 ⟨v3, rfl, h3, ht3⟩
    have HB3 := Lib.hid (HB2.out.trans (ht3.below HB2.out.size (fun j e => by rw [e]; exact hg)))
    have HR3 := Lib.hid (HH.out.turn (Turn.of_new HB3.out : Turn (fun _ => False) w w3) (Free.no _ _) id id)
    have HP := Lib.hid (paint_any ρ κ 0 l v3 (do_ tc c k) w3 HR3.out (sound_first HSO.out) (HV.out w3 HB3.out).1 (h3.on HR3.out hρ hκ (HDL.out _ _ _ (by rw [HTL.out, hN.out]) (by rw [HTL.out]; exact hk1))) (HV.out w3 HB3.out).2 (by decide) (by decide))
    clear h3 ht3 HD HQ2 H2 HR2 HB2
    go_wp2_with fail
    refine HP.out.mono ?_
    rintro e w4 ⟨⟨v4, _, rfl⟩, hr4, ht4⟩
    have HZ : Hid (RowTo w ρ κ (shiftR do_ l c n) w4) := Lib.hid (by
      rw [HF.out]
      exact ⟨hr4, (Turn.of_new HB3.out).trans ht4⟩)
    clear hr4 ht4 HP
    go_wp2_with fail
    go_end0
    exact ⟨rfl, HZ.out⟩

theorem enter_ins : ∀ args w, (callFunc 196 args).run Tryz.prog w = .ok (.enter 196 args) w := fun args w => by
  have hf := Tryz.func196
  have h1 : (Tryz.f196).name ≠ "runtime.NumGoroutine" := by decide
  obtain ⟨c, hb⟩ : ∃ c, (Tryz.f196).body = some c := ⟨_, rfl⟩
  simp [callFunc, hf, h1, hb]
theorem enter_del : ∀ args w, (callFunc 198 args).run Tryz.prog w = .ok (.enter 198 args) w := fun args w => by
  have hf := Tryz.func198
  have h1 : (Tryz.f198).name ≠ "runtime.NumGoroutine" := by decide
  obtain ⟨c, hb⟩ : ∃ c, (Tryz.f198).body = some c := ⟨_, rfl⟩
  simp [callFunc, hf, h1, hb]
theorem insertC_len {cs : List CellC} {c k : Nat} : (insertC cs c k).length ≤ cs.length := by
  unfold insertC
  split
  · rw [List.length_set, List.length_take]; omega
  · rw [List.length_take]; omega
theorem deleteC_len {cs : List CellC} {c k : Nat} (h : c + k ≤ cs.length) : (deleteC cs c k).length ≤ cs.length := by
  unfold deleteC
  rw [List.length_append, List.length_append, List.length_take, List.length_drop, tearC_len, blanks_len]
  omega
section
variable (ρ κ : Nat) (l : LineC) (w : World) (h : RowAt w ρ κ l) (hs : soundB l.1 = true) (hv : ∀ w', Below w.heap.size w w' → Vars w' ∧ 3 < w'.heap.size)
include h hs hv
theorem insert_is (col n : Int) (hn1 : -9223372036854775808 ≤ n) (hn2 : n ≤ 9223372036854775807) : Calls Tryz.prog 131 #[ptr ρ, .int .i64 col, .int .i64 n] w fun e w' => e = .returned (.tuple #[]) ∧ RowTo w ρ κ (shiftR insertC l col n) w' := by
  have TA : Turn (fun _ => False) w (w.alloc (.cells #[.int .i64 col] 3)) := Turn.alloc _ _ _
  have hq := heap_alloc_new w (.cells #[.int .i64 col] 3)
  have hle := h.le
  have HT := Lib.hid (turns_any 196 w.heap.size ρ κ l col n insertC _ (h.turn TA (Free.no _ _) id id) hs (fun w' hb => hv w' (((Below.refl _ _).alloc (Nat.le_refl _) _).trans (hb.mono (by simp)))) hq
    (fun h1 h2 g c B k cs w h3 h4 h5 h6 h7 h8 => ins1_any g _ c B _ cs col.toNat k w h3 h5 (by omega) h7 h8 (by omega)) (fun cs c k h1 h2 => by have := insertC_len (cs := cs) (c := c) (k := k); omega) enter_ins hn1 hn2)
  have HA := Lib.hid TA
  clear h hs hv hq TA
  go_enter Tryz.func131, Tryz.ntmps131
  go_wp2_with fail
  refine HT.out.mono ?_
  rintro e w1 ⟨rfl, hr, ht⟩
  have HF : Hid (RowTo w ρ κ (shiftR insertC l col n) w1) := Lib.hid ⟨hr, (HA.out.mono fun _ _ h => h.elim).trans ht⟩
  clear hr ht HT
  go_wp2_with fail
  go_end0
  exact ⟨rfl, HF.out⟩
theorem delete_is (col n : Int) (hn1 : -9223372036854775808 ≤ n) (hn2 : n ≤ 9223372036854775807) : Calls Tryz.prog 132 #[ptr ρ, .int .i64 col, .int .i64 n] w fun e w' => e = .returned (.tuple #[]) ∧ RowTo w ρ κ (shiftR deleteC l col n) w' := by
  have TA : Turn (fun _ => False) w (w.alloc (.cells #[.int .i64 col] 3)) := Turn.alloc _ _ _
  have hq := heap_alloc_new w (.cells #[.int .i64 col] 3)
  have hle := h.le
  have HT := Lib.hid (turns_any 198 w.heap.size ρ κ l col n deleteC _ (h.turn TA (Free.no _ _) id id) hs (fun w' hb => hv w' (((Below.refl _ _).alloc (Nat.le_refl _) _).trans (hb.mono (by simp)))) hq
    (fun h1 h2 g c B k cs w h3 h4 h5 h6 h7 h8 => del1_any g _ c B _ cs col.toNat k w h3 h4 h5 h6 h7 h8 (by omega)) (fun cs c k h1 h2 => by have := deleteC_len (cs := cs) (c := c) (k := k) h2; omega) enter_del hn1 hn2)
  have HA := Lib.hid TA
  clear h hs hv hq TA
  go_enter Tryz.func132, Tryz.ntmps132
  go_wp2_with fail
  refine HT.out.mono ?_
  rintro e w1 ⟨rfl, hr, ht⟩
  have HF : Hid (RowTo w ρ κ (shiftR deleteC l col n) w1) := Lib.hid ⟨hr, (HA.out.mono fun _ _ h => h.elim).trans ht⟩
  clear hr ht HT
  go_wp2_with fail
  go_end0
  exact ⟨rfl, HF.out⟩
end
end Go.Proofs.YtjicdcmdgbcdcaaGreatDoor.Scr
end
section
namespace Go.Proofs.YtjicdcmdgbcdcaaGreatDoor.Scr
set_option linter.unusedSimpArgs false
set_option linter.unusedVariables false
open Go Go.RowKit Mem Turn Ring

theorem PenIs.auto_ {w : World} {X : Nat → Prop} {π γ β : Nat} {Q : List (Nat × Nat)} {p : PenC} {W : Nat} (h : PenIs w X π γ β Q p W) (b : Bool) : PenIs (w.setCell ⟨π, 4, none⟩ (.bool b)) X π γ β Q { p with auto := b } W := by
  have T : Turn (fun j => j = π) w (w.setCell ⟨π, 4, none⟩ (.bool b)) := Turn.setCell _ _ rfl
  refine ⟨?_, h.grid.turn T (h.grid.typ1.ne h.typ (by decide)) (h.grid.typ2.ne h.typ (by decide)), h.rows.turn T (fun x e _ => by subst e; exact h.typ.not (by decide)) (fun q hq => ?_), h.xπ, h.xγ, h.xβ, h.w1, h.w2⟩
  · have h0 := h.hdr
    have h1 := heap_set1 (cs := [ptr γ, .int .i64 p.at_.row, .int .i64 p.at_.col, .bool p.at_.pend, .bool p.auto]) h0 4 (.bool b)
    simpa using h1
  · obtain ⟨i, hi⟩ := List.getElem?_of_mem hq
    obtain ⟨l, _, g1, _⟩ := h.rows.line hi
    exact ⟨g1.typ.ne h.typ (by decide), g1.cells.typ.ne h.typ (by decide)⟩

set_option maxRecDepth 100000 in
set_option maxHeartbeats 16000000 in
theorem ecells_is (X : Nat → Prop) (π γ β W : Nat) (Q : List (Nat × Nat)) (p : PenC) (kd a b : Int) (ba : Option Addr) (bn bc : Nat) (w : World) (h : PenIs w X π γ β Q p W) (hX : ∀ b, X b → PenTyp w b) (hok : PenOK p W) (hv : VarsX w X)
    (hk : kd = 2 ∨ kd = 3 ∨ kd = 4 ∨ kd = 5 ∨ kd = 6 ∨ kd = 7 ∨ kd = 12) (hm : kd = 4 → a = 0 ∨ a = 1 ∨ a = 2) (ha1 : -9223372036854775808 ≤ a) (ha2 : a ≤ 9223372036854775807) :
    Calls Tryz.prog 76 #[ptr π, opV kd a b (.slice ba bn bc)] w fun e w' => e = .returned (.tuple #[]) ∧ PenTo w X π (cellsP p kd a b W) W w' := by
  have hmx : Tryz.prog.follows .mixedOrders = true := by kernel_rfl
  have e1 := heap_alloc_new w (.cells (opA kd a b (.slice ba bn bc)) 30)
  have hb1 : Below w.heap.size w (w.alloc (.cells (opA kd a b (.slice ba bn bc)) 30)) := (Below.refl _ _).alloc (Nat.le_refl _) _
  have hp1 := h.below hb1
  obtain ⟨k, ρ, κ, l, hkr, hkl, hq, g1, g2, g3, g4, g5⟩ := hp1.here hok
  obtain ⟨o0, o1, o2, _⟩ := cells4 e1
  have HNX : Hid (¬ X w.heap.size) := Lib.hid fun e => by have := (hX _ e).lt; omega
  have hs1 : (w.alloc (.cells (opA kd a b (.slice ba bn bc)) 30)).heap.size = w.heap.size + 1 := by simp
  have HV1 := Lib.hid (hv.below hb1)
  have HP1 := Lib.hid hp1
  have HB1 := Lib.hid hb1
  have HOK := Lib.hid hok
  have HKR := Lib.hid hkr
  have HG := Lib.hid g1
  have HGW := Lib.hid g2
  have HSO := Lib.hid g3
  have HG5 := Lib.hid g5
  have HQ := Lib.hid hq
  have HCP := Lib.hid (show cellsP p kd a b W = if kd = 2 then { p with at_ := moveC a b W p.rows.length } else if kd = 3 then lineP p a else if kd = 4 then screenP p a else if kd = 5 then setRow p (fun l => eraseN l p.at_.col a) else if kd = 6 then setRow p (fun l => shiftR insertC l p.at_.col a) else if kd = 7 then setRow p (fun l => shiftR deleteC l p.at_.col a) else if kd = 12 then { p with auto := !(a == 0) } else p from rfl)
  obtain ⟨c0, c1, c2, c3, c4, cf⟩ := hp1.cells
  rw [hkr] at c1
  generalize hcol : p.at_.col = col at *
  replace hcol := Lib.hid hcol
  have hnq : w.heap.size ≠ ρ ∧ w.heap.size ≠ κ := ⟨fun e => (show Typ _ 30 w.heap.size from ⟨_, _, e1⟩).ne g1.typ (by decide) e, fun e => (show Typ _ 30 w.heap.size from ⟨_, _, e1⟩).ne g1.cells.typ (by decide) e⟩
  clear h hv hok hkr g1 g2 g3 g5 hq hp1 hb1 hX e1
  go_enter Tryz.func76, Tryz.ntmps76
  go_upto_region 1 with fail
  generalize (w.alloc (.cells (opA kd a b (.slice ba bn bc)) 30)) = w1 at *
  change Code.wp _ _ _ ⟨_, _⟩ _
  go_cut [4] (fun s wx => s = ptr ρ ∧ Hid (Below w1.heap.size w1 wx))
  case first =>
    refine region_begin3 (fun w' => w'.cell? ⟨π, 0, none⟩ = some (ptr γ) ∧ w'.cell? ⟨π, 1, none⟩ = some (.int .i64 (k : Int))) (fun _ => false) 11 rfl hmx (by intro _ _ d _ _ h; cases d <;> exact h) fun hQP => ?_
    have hS : w1.drew.cell? ⟨π, 0, none⟩ = some (ptr γ) ∧ w1.drew.cell? ⟨π, 1, none⟩ = some (.int .i64 (k : Int)) := ⟨c0, c1⟩
    clear c0 c1 c2 c3 c4 cf o0 o1 o2
    have HD : Hid (Below w1.heap.size w1 w1.drew) := Lib.hid (Below.refl _ _).drew
    have HRI := Lib.hid (row_in γ β k ρ _ w1.drew (HP1.out.below HD.out).grid HQ.out)
    generalize w1.drew = w2 at *
    refine take_f 0 5 rfl rfl (by kernel_rfl) (by kernel_rfl) (by kernel_rfl) (by kernel_rfl) hQP hS (.inl ⟨by kernel_rfl, fun w' hw' => by obtain ⟨e0, e1⟩ := hw'; go_simp; try with_reducible rfl⟩) ?_
    refine take_f 1 6 rfl rfl (by kernel_rfl) (by kernel_rfl) (by kernel_rfl) (by kernel_rfl) hQP hS (.inl ⟨by kernel_rfl, fun w' hw' => by obtain ⟨e0, e1⟩ := hw'; go_simp; try with_reducible rfl⟩) ?_
    refine take_f 2 7 rfl rfl (by kernel_rfl) (by kernel_rfl) (by kernel_rfl) (by kernel_rfl) hQP hS (.inl ⟨by kernel_rfl, fun w' hw' => by obtain ⟨e0, e1⟩ := hw'; go_simp; try with_reducible rfl⟩) ?_
    refine take_f 3 8 rfl rfl (by kernel_rfl) (by kernel_rfl) (by kernel_rfl) (by kernel_rfl) hQP hS (.inl ⟨by kernel_rfl, fun w' hw' => by obtain ⟨e0, e1⟩ := hw'; go_simp; try with_reducible rfl⟩) ?_
    refine take_f 4 9 rfl rfl (by kernel_rfl) (by kernel_rfl) (by kernel_rfl) (by kernel_rfl) hQP hS (.inl ⟨by kernel_rfl, fun w' hw' => by obtain ⟨e0, e1⟩ := hw'; go_simp; try with_reducible rfl⟩) ?_
    refine take_f 5 10 rfl rfl (by kernel_rfl) (by kernel_rfl) (by kernel_rfl) (by kernel_rfl) hQP hS (.inl ⟨by kernel_rfl, fun w' hw' => by obtain ⟨e0, e1⟩ := hw'; go_simp; try with_reducible rfl⟩) ?_
    refine take_f 6 11 rfl rfl (by kernel_rfl) (by kernel_rfl) (by kernel_rfl) (by kernel_rfl) hQP hS (.inl ⟨by kernel_rfl, fun w' hw' => by obtain ⟨e0, e1⟩ := hw'; go_simp; try with_reducible rfl⟩) ?_
    refine take_f 7 12 rfl rfl (by kernel_rfl) (by kernel_rfl) (by kernel_rfl) (by kernel_rfl) hQP hS (.inl ⟨by kernel_rfl, fun w' hw' => by obtain ⟨e0, e1⟩ := hw'; go_simp; try with_reducible rfl⟩) ?_
    refine take_f 8 13 rfl rfl (by kernel_rfl) (by kernel_rfl) (by kernel_rfl) (by kernel_rfl) hQP hS (.inl ⟨by kernel_rfl, fun w' hw' => by obtain ⟨e0, e1⟩ := hw'; go_simp; try with_reducible rfl⟩) ?_
    try simp only [List.setIfInBounds_toArray, List.set_cons_succ, List.set_cons_zero]
    refine take_g (i := 9) (by kernel_rfl) rfl (by kernel_rfl) fun KQ hK => ?_
    go_wp2_with fail
    refine HRI.out.mono ?_
    rintro e wx ⟨rfl, rfl⟩
    refine hK _ _ (.inr hS) ?_
    clear hK HRI
    refine take_f 10 4 rfl rfl (by kernel_rfl) (by kernel_rfl) (by kernel_rfl) (by kernel_rfl) hQP hS (.inl ⟨by kernel_rfl, fun w' hw' => by obtain ⟨e0, e1⟩ := hw'; go_simp; try with_reducible rfl⟩) ?_
    refine take_done (by kernel_rfl) ?_ _
    try simp only [List.setIfInBounds_toArray, List.set_cons_succ, List.set_cons_zero]
    clear hS
    go_wp2_with fail
    go_meet
    exact ⟨rfl, HD⟩
  case rest =>
    obtain ⟨rfl, hwc⟩ := hcut
    have hb : Below w1.heap.size w1 wc := hwc.out
    have hw1 : w1.heap.size = w.heap.size + 1 := hs1
    have HBW : Hid (Below w.heap.size w wc) := Lib.hid (HB1.out.trans (hb.mono (by omega)))
    have T : Turn (fun _ => False) w1 wc := Turn.of_new hb
    replace o0 := T.cell o0 id
    replace o1 := T.cell o1 id
    replace o2 := T.cell o2 id
    replace c0 := T.cell c0 id
    replace c2 := T.cell c2 id
    have HR : Hid (RowAt wc ρ κ l) := Lib.hid (HG.out.turn T (Free.no _ _) id id)
    have HB := Lib.hid hb
    have HPC := Lib.hid (HP1.out.below hb)
    have HVC := Lib.hid (HV1.out.below hb)
    clear hwc hb T c1 c3 cf hs1 HP1 HV1 HG
    have HFI : Hid (∀ (f : LineC → LineC) (w' : World), (f l).1.length = W → RowTo wc ρ κ (f l) w' → PenTo w X π (setRow p f) W w') := Lib.hid fun f w' hl hr => by
      have := HG5.out wc w' f HB.out hl hr
      exact PenTo.pre HB1.out (PenTo.of this)
    rcases hk with rfl | rfl | rfl | rfl | rfl | rfl | rfl
    · have HE := Lib.hid ((HCP.out).trans (if_pos rfl))
      clear HCP
      have HHI : Hid (∀ W', Below wc.heap.size wc W' → Calls Tryz.prog 37 #[ptr γ] W' fun e w' => e = .returned (.int .i64 (p.rows.length : Int)) ∧ W' = w') := Lib.hid fun W' hb => by
        have := high_any γ β _ W' (HPC.out.below hb).grid
        rw [List.length_map, HPC.out.rows.len] at this
        exact this
      have HWI : Hid (∀ W', Below wc.heap.size wc W' → Calls Tryz.prog 36 #[ptr γ] W' fun e w' => e = .returned (.int .i64 (W : Int)) ∧ W' = w') := Lib.hid fun W' hb => gwide_any γ β W _ W' (HPC.out.below hb).grid (HPC.out.below hb).rows.all
      have HMV : Hid (∀ W', Calls Tryz.prog 73 #[.int .i64 a, .int .i64 b, .int .i64 (W : Int), .int .i64 (p.rows.length : Int)] W' fun e w' => e = .returned (curV (moveC a b W p.rows.length)) ∧ Below W'.heap.size W' w') := Lib.hid fun W' => move_any a b W p.rows.length W'
      generalize p.rows.length = H at *
      obtain ⟨mv, hmv⟩ : ∃ mv, mv = moveC a b W H := ⟨_, rfl⟩
      rw [← hmv] at HMV HE
      clear hmv
      obtain ⟨mr, mc, mp⟩ := mv
      go_upto_region 4 with fail
      refine region_begin3 (fun w' => w'.cell? ⟨π, 0, none⟩ = some (ptr γ) ∧ w'.cell? ⟨w.heap.size, 1, none⟩ = some (.int .i64 a) ∧ w'.cell? ⟨w.heap.size, 2, none⟩ = some (.int .i64 b)) (fun _ => false) 19 rfl hmx (by intro _ _ d _ _ h; cases d <;> exact h) fun hQP => ?_
      have hS : wc.drew.cell? ⟨π, 0, none⟩ = some (ptr γ) ∧ wc.drew.cell? ⟨w.heap.size, 1, none⟩ = some (.int .i64 a) ∧ wc.drew.cell? ⟨w.heap.size, 2, none⟩ = some (.int .i64 b) := ⟨c0, o1, o2⟩
      have HD : Hid (Below wc.heap.size wc wc.drew) := Lib.hid (Below.refl _ _).drew
      clear c0 c2 o0 o1 o2 HR HQ
      generalize wc.drew = w3 at *
      refine take_f 0 19 rfl rfl (by kernel_rfl) (by kernel_rfl) (by kernel_rfl) (by kernel_rfl) hQP hS (.inl ⟨by kernel_rfl, fun w' hw' => by obtain ⟨e0, e1, e2⟩ := hw'; go_simp; try with_reducible rfl⟩) ?_
      refine take_f 1 20 rfl rfl (by kernel_rfl) (by kernel_rfl) (by kernel_rfl) (by kernel_rfl) hQP hS (.inl ⟨by kernel_rfl, fun w' hw' => by obtain ⟨e0, e1, e2⟩ := hw'; go_simp; try with_reducible rfl⟩) ?_
      refine take_f 2 21 rfl rfl (by kernel_rfl) (by kernel_rfl) (by kernel_rfl) (by kernel_rfl) hQP hS (.inl ⟨by kernel_rfl, fun w' hw' => by obtain ⟨e0, e1, e2⟩ := hw'; go_simp; try with_reducible rfl⟩) ?_
      refine take_f 3 22 rfl rfl (by kernel_rfl) (by kernel_rfl) (by kernel_rfl) (by kernel_rfl) hQP hS (.inl ⟨by kernel_rfl, fun w' hw' => by obtain ⟨e0, e1, e2⟩ := hw'; go_simp; try with_reducible rfl⟩) ?_
      refine take_f 4 23 rfl rfl (by kernel_rfl) (by kernel_rfl) (by kernel_rfl) (by kernel_rfl) hQP hS (.inl ⟨by kernel_rfl, fun w' hw' => by obtain ⟨e0, e1, e2⟩ := hw'; go_simp; try with_reducible rfl⟩) ?_
      refine take_f 5 24 rfl rfl (by kernel_rfl) (by kernel_rfl) (by kernel_rfl) (by kernel_rfl) hQP hS (.inl ⟨by kernel_rfl, fun w' hw' => by obtain ⟨e0, e1, e2⟩ := hw'; go_simp; try with_reducible rfl⟩) ?_
      refine take_f 6 25 rfl rfl (by kernel_rfl) (by kernel_rfl) (by kernel_rfl) (by kernel_rfl) hQP hS (.inl ⟨by kernel_rfl, fun w' hw' => by obtain ⟨e0, e1, e2⟩ := hw'; go_simp; try with_reducible rfl⟩) ?_
      refine take_f 7 26 rfl rfl (by kernel_rfl) (by kernel_rfl) (by kernel_rfl) (by kernel_rfl) hQP hS (.inl ⟨by kernel_rfl, fun w' hw' => by obtain ⟨e0, e1, e2⟩ := hw'; go_simp; try with_reducible rfl⟩) ?_
      refine take_f 8 27 rfl rfl (by kernel_rfl) (by kernel_rfl) (by kernel_rfl) (by kernel_rfl) hQP hS (.inl ⟨by kernel_rfl, fun w' hw' => by obtain ⟨e0, e1, e2⟩ := hw'; go_simp; try with_reducible rfl⟩) ?_
      refine take_f 10 29 rfl rfl (by kernel_rfl) (by kernel_rfl) (by kernel_rfl) (by kernel_rfl) hQP hS (.inl ⟨by kernel_rfl, fun w' hw' => by obtain ⟨e0, e1, e2⟩ := hw'; go_simp; try with_reducible rfl⟩) ?_
      refine take_f 11 30 rfl rfl (by kernel_rfl) (by kernel_rfl) (by kernel_rfl) (by kernel_rfl) hQP hS (.inl ⟨by kernel_rfl, fun w' hw' => by obtain ⟨e0, e1, e2⟩ := hw'; go_simp; try with_reducible rfl⟩) ?_
      refine take_f 12 31 rfl rfl (by kernel_rfl) (by kernel_rfl) (by kernel_rfl) (by kernel_rfl) hQP hS (.inl ⟨by kernel_rfl, fun w' hw' => by obtain ⟨e0, e1, e2⟩ := hw'; go_simp; try with_reducible rfl⟩) ?_
      refine take_f 13 32 rfl rfl (by kernel_rfl) (by kernel_rfl) (by kernel_rfl) (by kernel_rfl) hQP hS (.inl ⟨by kernel_rfl, fun w' hw' => by obtain ⟨e0, e1, e2⟩ := hw'; go_simp; try with_reducible rfl⟩) ?_
      try simp only [List.setIfInBounds_toArray, List.set_cons_succ, List.set_cons_zero]
      refine take_g (i := 9) (by kernel_rfl) rfl (by kernel_rfl) fun KQ hK => ?_
      go_wp2_with fail
      refine (HWI.out _ HD.out).mono ?_
      rintro e wx ⟨rfl, rfl⟩
      refine hK _ _ (.inr hS) ?_
      clear hK HWI
      try simp only [List.setIfInBounds_toArray, List.set_cons_succ, List.set_cons_zero]
      refine take_g (i := 14) (by kernel_rfl) rfl (by kernel_rfl) fun KQ hK => ?_
      go_wp2_with fail
      refine (HHI.out _ HD.out).mono ?_
      rintro e wx ⟨rfl, rfl⟩
      refine hK _ _ (.inr hS) ?_
      clear hK HHI
      try simp only [List.setIfInBounds_toArray, List.set_cons_succ, List.set_cons_zero]
      refine take_g (i := 15) (by kernel_rfl) rfl (by kernel_rfl) fun KQ hK => ?_
      go_wp2_with fail
      refine (HMV.out _).mono ?_
      rintro e w4 ⟨rfl, hb4⟩
      have hb5 := HD.out.trans (hb4.mono HD.out.size)
      have T4 : Turn (fun _ => False) w3 w4 := Turn.of_new hb4
      have hS4 := And.intro (T4.cell hS.1 id) (And.intro (T4.cell hS.2.1 id) (T4.cell hS.2.2 id))
      refine hK _ _ (.inr hS4) ?_
      clear hK HMV hS T4
      have hS := hS4
      refine take_f 16 35 rfl rfl (by kernel_rfl) (by kernel_rfl) (by kernel_rfl) (by kernel_rfl) hQP hS (.inl ⟨by kernel_rfl, fun w' hw' => by obtain ⟨e0, e1, e2⟩ := hw'; go_simp; try with_reducible rfl⟩) ?_
      refine take_f 17 36 rfl rfl (by kernel_rfl) (by kernel_rfl) (by kernel_rfl) (by kernel_rfl) hQP hS (.inl ⟨by kernel_rfl, fun w' hw' => by obtain ⟨e0, e1, e2⟩ := hw'; go_simp; try with_reducible rfl⟩) ?_
      try simp only [List.setIfInBounds_toArray, List.set_cons_succ, List.set_cons_zero]
      have hp4 := HPC.out.below hb5
      obtain ⟨_, y1, y2, y3, _, yf⟩ := hp4.cells
      have f1 := yf 1
      have f2 := yf 2
      have f3 := yf 3
      have HF : Hid (PenTo w X π { p with at_ := ⟨mr, mc, mp⟩ } W (curW w4 π mr mc mp)) := Lib.hid (by
        refine PenTo.pre HBW.out (PenTo.pre hb5 ⟨X, ⟨γ, β, Q, hp4.cur mr mc mp⟩, fun _ e => .inl e, (curW_turn w4 π mr mc mp).mono (fun b _ e => by rw [e]; exact hp4.xπ)⟩))
      have hSf : (curW w4 π mr mc mp).cell? ⟨π, 0, none⟩ = some (ptr γ) ∧ (curW w4 π mr mc mp).cell? ⟨w.heap.size, 1, none⟩ = some (.int .i64 a) ∧ (curW w4 π mr mc mp).cell? ⟨w.heap.size, 2, none⟩ = some (.int .i64 b) :=
        ⟨(hp4.cur mr mc mp).cells.1, (curW_turn w4 π mr mc mp).cell hS.2.1 (fun e => HNX.out (by rw [show w.heap.size = π from e]; exact hp4.xπ)), (curW_turn w4 π mr mc mp).cell hS.2.2 (fun e => HNX.out (by rw [show w.heap.size = π from e]; exact hp4.xπ))⟩
      clear hp4 yf hb4 hb5 hS4
      refine take_one (i := 18) (by kernel_rfl) rfl rfl fun KQ hK => ?_
      go_wp2_with fail
      refine hK _ _ (.inr hSf) ?_
      clear hK hS hSf y1 y2 y3 f1 f2 f3
      refine take_done (by kernel_rfl) ?_ _
      try simp only [List.setIfInBounds_toArray, List.set_cons_succ, List.set_cons_zero]
      rw [show ((w4.setCell ⟨π, 1, none⟩ (.int .i64 mr)).setCell ⟨π, 2, none⟩ (.int .i64 mc)).setCell ⟨π, 3, none⟩ (.bool mp) = curW w4 π mr mc mp from rfl]
      go_wp2_with fail
      go_end0
      exact ⟨rfl, by rw [HE.out]; exact HF.out⟩
    · have HE := Lib.hid (((HCP.out).trans (if_neg (by decide))).trans (if_pos rfl))
      clear HCP
      have HC := Lib.hid (line_is X π γ β W Q p a wc HPC.out HOK.out HVC.out)
      go_wp2_with fail
      refine HC.out.mono ?_
      rintro e w2 ⟨rfl, hto⟩
      have HF := Lib.hid (PenTo.pre HBW.out (PenTo.of hto))
      clear hto
      go_wp2_with fail
      go_end0
      exact ⟨rfl, by rw [HE.out]; exact HF.out⟩
    · have HE := Lib.hid ((((HCP.out).trans (if_neg (by decide))).trans (if_neg (by decide))).trans (if_pos rfl))
      clear HCP
      have HC := Lib.hid (escreen_is X π γ β W Q p a wc HPC.out HOK.out HVC.out (hm rfl))
      clear hm
      go_wp2_with fail
      refine HC.out.mono ?_
      rintro e w2 ⟨rfl, hto⟩
      have HF := Lib.hid (PenTo.pre HBW.out (PenTo.of hto))
      clear hto
      go_wp2_with fail
      go_end0
      exact ⟨rfl, by rw [HE.out]; exact HF.out⟩
    · have HE := Lib.hid (((((HCP.out).trans (if_neg (by decide))).trans (if_neg (by decide))).trans (if_neg (by decide))).trans (if_pos rfl))
      clear HCP
      go_upto_region 10 with fail
      refine region_begin3 (fun w' => w'.cell? ⟨π, 2, none⟩ = some (.int .i64 col) ∧ w'.cell? ⟨w.heap.size, 1, none⟩ = some (.int .i64 a)) (fun _ => false) 9 rfl hmx (by intro _ _ d _ _ h; cases d <;> exact h) fun hQP => ?_
      have hS : wc.drew.cell? ⟨π, 2, none⟩ = some (.int .i64 col) ∧ wc.drew.cell? ⟨w.heap.size, 1, none⟩ = some (.int .i64 a) := ⟨c2, o1⟩
      have HD : Hid (Below wc.heap.size wc wc.drew) := Lib.hid (Below.refl _ _).drew
      have HTD := Lib.hid (Turn.drew (fun b => b = ρ ∨ b = κ) wc)
      have HR3 := Lib.hid (HR.out.turn (Turn.of_new HD.out : Turn (fun _ => False) wc wc.drew) (Free.no _ _) id id)
      have HV3 := Lib.hid (HVC.out.below HD.out)
      clear c0 c2 o0 o1 o2 HR HPC HVC HQ
      generalize wc.drew = w3 at *
      have HC := Lib.hid (ecells_any ρ κ l w3 HR3.out HSO.out HV3.out.hb col a)
      refine take_f 0 51 rfl rfl (by kernel_rfl) (by kernel_rfl) (by kernel_rfl) (by kernel_rfl) hQP hS (.inl ⟨by kernel_rfl, fun w' hw' => by obtain ⟨e0, e1⟩ := hw'; go_simp; try with_reducible rfl⟩) ?_
      refine take_f 1 52 rfl rfl (by kernel_rfl) (by kernel_rfl) (by kernel_rfl) (by kernel_rfl) hQP hS (.inl ⟨by kernel_rfl, fun w' hw' => by obtain ⟨e0, e1⟩ := hw'; go_simp; try with_reducible rfl⟩) ?_
      refine take_f 2 53 rfl rfl (by kernel_rfl) (by kernel_rfl) (by kernel_rfl) (by kernel_rfl) hQP hS (.inl ⟨by kernel_rfl, fun w' hw' => by obtain ⟨e0, e1⟩ := hw'; go_simp; try with_reducible rfl⟩) ?_
      refine take_f 3 54 rfl rfl (by kernel_rfl) (by kernel_rfl) (by kernel_rfl) (by kernel_rfl) hQP hS (.inl ⟨by kernel_rfl, fun w' hw' => by obtain ⟨e0, e1⟩ := hw'; go_simp; try with_reducible rfl⟩) ?_
      refine take_f 4 55 rfl rfl (by kernel_rfl) (by kernel_rfl) (by kernel_rfl) (by kernel_rfl) hQP hS (.inl ⟨by kernel_rfl, fun w' hw' => by obtain ⟨e0, e1⟩ := hw'; go_simp; try with_reducible rfl⟩) ?_
      refine take_f 5 56 rfl rfl (by kernel_rfl) (by kernel_rfl) (by kernel_rfl) (by kernel_rfl) hQP hS (.inl ⟨by kernel_rfl, fun w' hw' => by obtain ⟨e0, e1⟩ := hw'; go_simp; try with_reducible rfl⟩) ?_
      refine take_f 6 57 rfl rfl (by kernel_rfl) (by kernel_rfl) (by kernel_rfl) (by kernel_rfl) hQP hS (.inl ⟨by kernel_rfl, fun w' hw' => by obtain ⟨e0, e1⟩ := hw'; go_simp; try with_reducible rfl⟩) ?_
      refine take_f 7 58 rfl rfl (by kernel_rfl) (by kernel_rfl) (by kernel_rfl) (by kernel_rfl) hQP hS (.inl ⟨by kernel_rfl, fun w' hw' => by obtain ⟨e0, e1⟩ := hw'; go_simp; try with_reducible rfl⟩) ?_
      try simp only [List.setIfInBounds_toArray, List.set_cons_succ, List.set_cons_zero]
      refine take_g (i := 8) (by kernel_rfl) rfl (by kernel_rfl) fun KQ hK => ?_
      go_wp2_with fail
      refine HC.out.mono ?_
      rintro e w2 ⟨rfl, hto⟩
      have HF := Lib.hid (HFI.out (fun l => eraseN l col a) w2 (by simp only [eraseN_len]; exact HGW.out) ⟨hto.1, HTD.out.trans hto.2⟩)
      refine hK _ _ (.inr ⟨hto.2.cell hS.1 g4, hto.2.cell hS.2 (fun e => e.elim hnq.1 hnq.2)⟩) ?_
      clear hK hS HC
      refine take_done (by kernel_rfl) ?_ _
      try simp only [List.setIfInBounds_toArray, List.set_cons_succ, List.set_cons_zero]
      clear hto
      go_wp2_with fail
      go_end0
      exact ⟨rfl, by rw [HE.out]; exact HF.out⟩
    · have HE := Lib.hid ((((((HCP.out).trans (if_neg (by decide))).trans (if_neg (by decide))).trans (if_neg (by decide))).trans (if_neg (by decide))).trans (if_pos rfl))
      clear HCP
      go_upto_region 12 with fail
      refine region_begin3 (fun w' => w'.cell? ⟨π, 2, none⟩ = some (.int .i64 col) ∧ w'.cell? ⟨w.heap.size, 1, none⟩ = some (.int .i64 a)) (fun _ => false) 9 rfl hmx (by intro _ _ d _ _ h; cases d <;> exact h) fun hQP => ?_
      have hS : wc.drew.cell? ⟨π, 2, none⟩ = some (.int .i64 col) ∧ wc.drew.cell? ⟨w.heap.size, 1, none⟩ = some (.int .i64 a) := ⟨c2, o1⟩
      have HD : Hid (Below wc.heap.size wc wc.drew) := Lib.hid (Below.refl _ _).drew
      have HTD := Lib.hid (Turn.drew (fun b => b = ρ ∨ b = κ) wc)
      have HR3 := Lib.hid (HR.out.turn (Turn.of_new HD.out : Turn (fun _ => False) wc wc.drew) (Free.no _ _) id id)
      have HV3 := Lib.hid (HVC.out.below HD.out)
      clear c0 c2 o0 o1 o2 HR HPC HVC HQ
      generalize wc.drew = w3 at *
      have HC := Lib.hid (insert_is ρ κ l w3 HR3.out HSO.out HV3.out.hb col a ha1 ha2)
      refine take_f 0 62 rfl rfl (by kernel_rfl) (by kernel_rfl) (by kernel_rfl) (by kernel_rfl) hQP hS (.inl ⟨by kernel_rfl, fun w' hw' => by obtain ⟨e0, e1⟩ := hw'; go_simp; try with_reducible rfl⟩) ?_
      refine take_f 1 63 rfl rfl (by kernel_rfl) (by kernel_rfl) (by kernel_rfl) (by kernel_rfl) hQP hS (.inl ⟨by kernel_rfl, fun w' hw' => by obtain ⟨e0, e1⟩ := hw'; go_simp; try with_reducible rfl⟩) ?_
      refine take_f 2 64 rfl rfl (by kernel_rfl) (by kernel_rfl) (by kernel_rfl) (by kernel_rfl) hQP hS (.inl ⟨by kernel_rfl, fun w' hw' => by obtain ⟨e0, e1⟩ := hw'; go_simp; try with_reducible rfl⟩) ?_
      refine take_f 3 65 rfl rfl (by kernel_rfl) (by kernel_rfl) (by kernel_rfl) (by kernel_rfl) hQP hS (.inl ⟨by kernel_rfl, fun w' hw' => by obtain ⟨e0, e1⟩ := hw'; go_simp; try with_reducible rfl⟩) ?_
      refine take_f 4 66 rfl rfl (by kernel_rfl) (by kernel_rfl) (by kernel_rfl) (by kernel_rfl) hQP hS (.inl ⟨by kernel_rfl, fun w' hw' => by obtain ⟨e0, e1⟩ := hw'; go_simp; try with_reducible rfl⟩) ?_
      refine take_f 5 67 rfl rfl (by kernel_rfl) (by kernel_rfl) (by kernel_rfl) (by kernel_rfl) hQP hS (.inl ⟨by kernel_rfl, fun w' hw' => by obtain ⟨e0, e1⟩ := hw'; go_simp; try with_reducible rfl⟩) ?_
      refine take_f 6 68 rfl rfl (by kernel_rfl) (by kernel_rfl) (by kernel_rfl) (by kernel_rfl) hQP hS (.inl ⟨by kernel_rfl, fun w' hw' => by obtain ⟨e0, e1⟩ := hw'; go_simp; try with_reducible rfl⟩) ?_
      refine take_f 7 69 rfl rfl (by kernel_rfl) (by kernel_rfl) (by kernel_rfl) (by kernel_rfl) hQP hS (.inl ⟨by kernel_rfl, fun w' hw' => by obtain ⟨e0, e1⟩ := hw'; go_simp; try with_reducible rfl⟩) ?_
      try simp only [List.setIfInBounds_toArray, List.set_cons_succ, List.set_cons_zero]
      refine take_g (i := 8) (by kernel_rfl) rfl (by kernel_rfl) fun KQ hK => ?_
      go_wp2_with fail
      refine HC.out.mono ?_
      rintro e w2 ⟨rfl, hto⟩
      have HF := Lib.hid (HFI.out (fun l => shiftR insertC l col a) w2 (by simp only [shiftR_len]; exact HGW.out) ⟨hto.1, HTD.out.trans hto.2⟩)
      refine hK _ _ (.inr ⟨hto.2.cell hS.1 g4, hto.2.cell hS.2 (fun e => e.elim hnq.1 hnq.2)⟩) ?_
      clear hK hS HC
      refine take_done (by kernel_rfl) ?_ _
      try simp only [List.setIfInBounds_toArray, List.set_cons_succ, List.set_cons_zero]
      clear hto
      go_wp2_with fail
      go_end0
      exact ⟨rfl, by rw [HE.out]; exact HF.out⟩
    · have HE := Lib.hid (((((((HCP.out).trans (if_neg (by decide))).trans (if_neg (by decide))).trans (if_neg (by decide))).trans (if_neg (by decide))).trans (if_neg (by decide))).trans (if_pos rfl))
      clear HCP
      go_upto_region 14 with fail
      refine region_begin3 (fun w' => w'.cell? ⟨π, 2, none⟩ = some (.int .i64 col) ∧ w'.cell? ⟨w.heap.size, 1, none⟩ = some (.int .i64 a)) (fun _ => false) 9 rfl hmx (by intro _ _ d _ _ h; cases d <;> exact h) fun hQP => ?_
      have hS : wc.drew.cell? ⟨π, 2, none⟩ = some (.int .i64 col) ∧ wc.drew.cell? ⟨w.heap.size, 1, none⟩ = some (.int .i64 a) := ⟨c2, o1⟩
      have HD : Hid (Below wc.heap.size wc wc.drew) := Lib.hid (Below.refl _ _).drew
      have HTD := Lib.hid (Turn.drew (fun b => b = ρ ∨ b = κ) wc)
      have HR3 := Lib.hid (HR.out.turn (Turn.of_new HD.out : Turn (fun _ => False) wc wc.drew) (Free.no _ _) id id)
      have HV3 := Lib.hid (HVC.out.below HD.out)
      clear c0 c2 o0 o1 o2 HR HPC HVC HQ
      generalize wc.drew = w3 at *
      have HC := Lib.hid (delete_is ρ κ l w3 HR3.out HSO.out HV3.out.hb col a ha1 ha2)
      refine take_f 0 73 rfl rfl (by kernel_rfl) (by kernel_rfl) (by kernel_rfl) (by kernel_rfl) hQP hS (.inl ⟨by kernel_rfl, fun w' hw' => by obtain ⟨e0, e1⟩ := hw'; go_simp; try with_reducible rfl⟩) ?_
      refine take_f 1 74 rfl rfl (by kernel_rfl) (by kernel_rfl) (by kernel_rfl) (by kernel_rfl) hQP hS (.inl ⟨by kernel_rfl, fun w' hw' => by obtain ⟨e0, e1⟩ := hw'; go_simp; try with_reducible rfl⟩) ?_
      refine take_f 2 75 rfl rfl (by kernel_rfl) (by kernel_rfl) (by kernel_rfl) (by kernel_rfl) hQP hS (.inl ⟨by kernel_rfl, fun w' hw' => by obtain ⟨e0, e1⟩ := hw'; go_simp; try with_reducible rfl⟩) ?_
      refine take_f 3 76 rfl rfl (by kernel_rfl) (by kernel_rfl) (by kernel_rfl) (by kernel_rfl) hQP hS (.inl ⟨by kernel_rfl, fun w' hw' => by obtain ⟨e0, e1⟩ := hw'; go_simp; try with_reducible rfl⟩) ?_
      refine take_f 4 77 rfl rfl (by kernel_rfl) (by kernel_rfl) (by kernel_rfl) (by kernel_rfl) hQP hS (.inl ⟨by kernel_rfl, fun w' hw' => by obtain ⟨e0, e1⟩ := hw'; go_simp; try with_reducible rfl⟩) ?_
      refine take_f 5 78 rfl rfl (by kernel_rfl) (by kernel_rfl) (by kernel_rfl) (by kernel_rfl) hQP hS (.inl ⟨by kernel_rfl, fun w' hw' => by obtain ⟨e0, e1⟩ := hw'; go_simp; try with_reducible rfl⟩) ?_
      refine take_f 6 79 rfl rfl (by kernel_rfl) (by kernel_rfl) (by kernel_rfl) (by kernel_rfl) hQP hS (.inl ⟨by kernel_rfl, fun w' hw' => by obtain ⟨e0, e1⟩ := hw'; go_simp; try with_reducible rfl⟩) ?_
      refine take_f 7 80 rfl rfl (by kernel_rfl) (by kernel_rfl) (by kernel_rfl) (by kernel_rfl) hQP hS (.inl ⟨by kernel_rfl, fun w' hw' => by obtain ⟨e0, e1⟩ := hw'; go_simp; try with_reducible rfl⟩) ?_
      try simp only [List.setIfInBounds_toArray, List.set_cons_succ, List.set_cons_zero]
      refine take_g (i := 8) (by kernel_rfl) rfl (by kernel_rfl) fun KQ hK => ?_
      go_wp2_with fail
      refine HC.out.mono ?_
      rintro e w2 ⟨rfl, hto⟩
      have HF := Lib.hid (HFI.out (fun l => shiftR deleteC l col a) w2 (by simp only [shiftR_len]; exact HGW.out) ⟨hto.1, HTD.out.trans hto.2⟩)
      refine hK _ _ (.inr ⟨hto.2.cell hS.1 g4, hto.2.cell hS.2 (fun e => e.elim hnq.1 hnq.2)⟩) ?_
      clear hK hS HC
      refine take_done (by kernel_rfl) ?_ _
      try simp only [List.setIfInBounds_toArray, List.set_cons_succ, List.set_cons_zero]
      clear hto
      go_wp2_with fail
      go_end0
      exact ⟨rfl, by rw [HE.out]; exact HF.out⟩
    · have HE := Lib.hid ((((((((HCP.out).trans (if_neg (by decide))).trans (if_neg (by decide))).trans (if_neg (by decide))).trans (if_neg (by decide))).trans (if_neg (by decide))).trans (if_neg (by decide))).trans (if_pos rfl))
      clear HCP
      obtain ⟨_, _, _, _, c4, cf⟩ := HPC.out.cells
      have f4 := cf 4
      have hau : (a != 0) = !(a == 0) := rfl
      have HF : Hid (PenTo w X π { p with auto := !(a == 0) } W (wc.setCell ⟨π, 4, none⟩ (.bool !(a == 0)))) := Lib.hid (by
        refine PenTo.pre HBW.out ⟨X, ⟨γ, β, Q, HPC.out.auto_ _⟩, fun _ e => .inl e, Turn.setCell _ _ HPC.out.xπ⟩)
      clear cf
      go_wp2_with fail
      go_end0
      exact ⟨rfl, by rw [HE.out]; exact HF.out⟩
end Go.Proofs.YtjicdcmdgbcdcaaGreatDoor.Scr
end

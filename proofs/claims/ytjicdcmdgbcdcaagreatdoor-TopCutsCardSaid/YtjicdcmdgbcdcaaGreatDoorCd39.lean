/-
  script.feed, Parse at a line of bytes.
  script.Script.line at a line of bytes.
  script.Read at a text of a size and lines of bytes.
-/
import Derived.Test.YtjicdcmdgbcdcaaGreatDoorCd22
import Derived.Test.YtjicdcmdgbcdcaaGreatDoorCd32
import Derived.Test.YtjicdcmdgbcdcaaGreatDoorCd34

section
namespace Go.Proofs.YtjicdcmdgbcdcaaGreatDoor.Scr
set_option linter.unusedSimpArgs false
set_option linter.unusedVariables false
open Go Go.RowKit Mem Turn Ring

theorem one_op (k a b : Int) (ad : Option Addr) (n c : Nat) : (opA k a b (.slice ad n c)).all (·.oneCell') = true := by simp [opA, Value.oneCell']
set_option maxRecDepth 100000 in
set_option maxHeartbeats 8000000 in
theorem sfeed_ok (b c : Nat) (ws : List ByteArray) (u : ByteArray) (rs : List Int) (w : World) (h : WordsAt w b ws) (hn : ws.length = 2) (h1 : ws[1]? = some u) (hx : HexOf u rs) (hr : rs ≠ []) :
    Calls Tryz.prog 135 #[.slice (some ⟨b, 0, none⟩) 2 c] w fun e w' => ∃ v, e = .returned (.tuple #[opV 0 0 0 v, .nilIface]) ∧ w'.ownsRow w.heap.size 5 1 v rs.length (rs.map (Value.int .u8)) ∧ Below w.heap.size w w' := by
  obtain ⟨m, hm⟩ : ∃ m, rs.length = m := ⟨_, rfl⟩
  have hm1 : 1 ≤ m := by rw [← hm]; exact List.length_pos_iff.2 hr
  have HR := Lib.hid (fun w => raw_any u rs m w hx hm hm1 (h.2 u (List.mem_of_getElem? h1)))
  have hb1 : Below w.heap.size w (w.alloc (.cells (opA 0 0 0 (.slice none 0 0)) 30)) := (Below.refl _ _).alloc (Nat.le_refl _) _
  have hnew := heap_alloc_new w (.cells (opA 0 0 0 (.slice none 0 0)) 30)
  have hcell := (h.below hb1).cell h1
  have HB1 := Lib.hid hb1
  have hsz : (w.alloc (.cells (opA 0 0 0 (.slice none 0 0)) 30)).heap.size = w.heap.size + 1 := by simp
  rw [hm]
  clear h hb1 hx hr hm hn h1
  go_enter Tryz.func135, Tryz.ntmps135
  go_upto_region 1 with fail
  generalize (w.alloc (.cells (opA 0 0 0 (.slice none 0 0)) 30)) = w1 at *
  have HN := Lib.hid hnew
  have HS := Lib.hid hsz
  clear hnew hsz
  go_wp2_with fail
  refine (HR.out _).mono ?_
  rintro e w2 ⟨v, rfl, ho, hb⟩
  obtain ⟨av, cv, rfl⟩ := Turn.own_slice ho
  have hnew2 := (Turn.of_new hb : Turn (fun _ => False) w1 w2).heap HN.out id
  have HO := Lib.hid ho
  have HB := Lib.hid (HB1.out.trans (hb.mono (by have := HS.out; omega)))
  have HBS := Lib.hid hb.size
  clear ho hb hcell HR
  go_wp2_with (refine wpList_store_row rfl 30 _ _ rfl w.heap.size (opA 0 0 0 (.slice av m cv)) rfl rfl _ _ hnew2 (size_op _ _ _ _) rfl (one_op _ _ _ _ _ _) ?_)
  have hfin := setRow_heap w2 w.heap.size _ (opA 0 0 0 (.slice av m cv)) 30 (0, 0) hnew2
  refine bodyPost_ret (res_cell_tmp rfl _ _ w.heap.size 30 _ (0, 0) _ rfl hfin Tryz.underlying30 rfl (size_op _ _ _ _)) rfl ?_
  have T := turn_setRow w2 w.heap.size (opA 0 0 0 (.slice av m cv))
  have hs := HS.out
  refine ⟨_, rfl, owns_base (T.kept HO.out (fun g hg e => ?_)) (by omega), HB.out.trans (T.below HB.out.size (fun j e => by rw [e]; exact Nat.le_refl _))⟩
  have := (HO.out.lt g hg).1
  omega

set_option maxRecDepth 100000 in
set_option maxHeartbeats 8000000 in
theorem parse_feed (s : ByteArray) (u : ByteArray) (rs : List Int) (w : World) (hs : SplitB 32 s [⟨#[102, 101, 101, 100]⟩, u]) (hc : Lib.countByte s.data.toList 32 + 1 = 2) (hsz : s.size ≤ 100000) (h1 : 1 ≤ s.size) (hu : u.size ≤ 100000) (hx : HexOf u rs) (hr : rs ≠ []) :
    Calls Tryz.prog 84 #[.string s] w fun e w' => ∃ v, e = .returned (.tuple #[opV 0 0 0 v, .nilIface]) ∧ w'.ownsRow w.heap.size 5 1 v rs.length (rs.map (Value.int .u8)) ∧ Below w.heap.size w w' := by
  have HSP := Lib.hid (fun w => sSplit1 s 32 [⟨#[102, 101, 101, 100]⟩, u] 2 w hs rfl hc (by omega) hsz)
  have HFE := Lib.hid (fun b c w h => sfeed_ok b c [⟨#[102, 101, 101, 100]⟩, u] u rs w h rfl rfl hx hr)
  have HU := Lib.hid hu
  have hb1 : Below w.heap.size w (w.alloc (.cells (opA 0 0 0 (.slice none 0 0)) 30)) := (Below.refl _ _).alloc (Nat.le_refl _) _
  have hnew := heap_alloc_new w (.cells (opA 0 0 0 (.slice none 0 0)) 30)
  have HB1 := Lib.hid hb1
  have HS := Lib.hid (show (w.alloc (.cells (opA 0 0 0 (.slice none 0 0)) 30)).heap.size = w.heap.size + 1 by simp)
  obtain ⟨m, hm⟩ : ∃ m, rs.length = m := ⟨_, rfl⟩
  rw [hm] at HFE ⊢
  clear hb1 hx hr hm hs hc h1 hu
  go_enter Tryz.func84, Tryz.ntmps84
  go_upto_region 1 with fail
  generalize (w.alloc (.cells (opA 0 0 0 (.slice none 0 0)) 30)) = w1 at *
  have HN := Lib.hid hnew
  clear hnew
  go_wp2_with fail
  refine (HSP.out _).mono ?_
  rintro e w2 ⟨cp, rfl, hcp, hw, hb⟩
  have hwords : WordsAt w2 w1.heap.size [⟨#[102, 101, 101, 100]⟩, u] := ⟨hw, by
    intro x hx
    simp at hx
    rcases hx with rfl | rfl
    · decide
    · exact HU.out⟩
  have hcell := hwords.cell (j := 0) rfl
  have hnew2 := (Turn.of_new hb : Turn (fun _ => False) w1 w2).heap HN.out id
  have HF := Lib.hid (HFE.out _ cp _ hwords)
  have HB := Lib.hid (HB1.out.trans (hb.mono (by have := HS.out; omega)))
  have HBS := Lib.hid hb.size
  have hcp0 : (0 : Int) < 2 := by decide
  clear hw hb hwords HFE
  go_wp2_with fail
  refine HF.out.mono ?_
  rintro e w3 ⟨v, rfl, ho, hb⟩
  obtain ⟨av, cv, rfl⟩ := Turn.own_slice ho
  have hnew3 := (Turn.of_new hb : Turn (fun _ => False) w2 w3).heap hnew2 id
  have HO := Lib.hid ho
  have HB3 := Lib.hid (HB.out.trans (hb.mono HB.out.size))
  have HBS3 := Lib.hid hb.size
  clear ho hb hcell hnew2
  go_wp2_with (refine wpList_store_row rfl 30 _ _ rfl w.heap.size (opA 0 0 0 (.slice av m cv)) rfl rfl _ _ hnew3 (size_op _ _ _ _) rfl (one_op _ _ _ _ _ _) ?_)
  have hfin := setRow_heap w3 w.heap.size _ (opA 0 0 0 (.slice av m cv)) 30 (0, 0) hnew3
  refine bodyPost_ret (res_cell_tmp rfl _ _ w.heap.size 30 _ (0, 0) _ rfl hfin Tryz.underlying30 rfl (size_op _ _ _ _)) rfl ?_
  have T := turn_setRow w3 w.heap.size (opA 0 0 0 (.slice av m cv))
  have hs := HS.out
  have hs2 := HBS.out
  refine ⟨_, rfl, owns_base (T.kept HO.out (fun g hg e => ?_)) (by omega), HB3.out.trans (T.below HB3.out.size (fun j e => by rw [e]; exact Nat.le_refl _))⟩
  have := (HO.out.lt g hg).1
  omega
end Go.Proofs.YtjicdcmdgbcdcaaGreatDoor.Scr
end
section
namespace Go.Proofs.YtjicdcmdgbcdcaaGreatDoor.Scr
set_option linter.unusedSimpArgs false
set_option linter.unusedVariables false
open Go Go.RowKit Mem Turn Ring

def flatO (L : List (OpC × Value)) : List Value := L.flatMap fun p => [.int .i64 p.1.kind, .int .i64 p.1.a, .int .i64 p.1.b, p.2]
theorem flatO_app (A B : List (OpC × Value)) : flatO (A ++ B) = flatO A ++ flatO B := by simp [flatO]
/-- operations of the call's own -/
def OpsM (w : World) (B : Nat) (v : Value) (L : List (OpC × Value)) : Prop := w.ownsRow B 30 4 v L.length (flatO L) ∧ ∀ p ∈ L, w.ownsRow B 5 1 p.2 p.1.bytes.length (p.1.bytes.map (Value.int .u8))
def ScriptAt (w : World) (σ : Nat) (W H : Int) (v : Value) : Prop := w.heap[σ]? = some (.cells #[.int .i64 W, .int .i64 H, v] 49 (0, 0))
theorem OpsM.turn {w w' : World} {T : Nat → Prop} {B : Nat} {v : Value} {L : List (OpC × Value)} (h : OpsM w B v L) (ht : Turn T w w') (h1 : ∀ b, T b → b < w.heap.size → ¬ Typ w 30 b) (h2 : ∀ b, T b → b < w.heap.size → ¬ Typ w 5 b) : OpsM w' B v L :=
  ⟨ht.kept h.1 (fun g hg e => h1 g e (owns_typ h.1 hg).lt (owns_typ h.1 hg)), fun p hp => ht.kept (h.2 p hp) (fun g hg e => h2 g e (owns_typ (h.2 p hp) hg).lt (owns_typ (h.2 p hp) hg))⟩
theorem info_op : (Tryz.prog.info? 30).map (fun i => (i.zero, i.size, i.bytes)) = some (some (.agg #[.int .i64 0, .int .i64 0, .int .i64 0, .slice none 0 0]), 4, 48) := by kernel_rfl

set_option maxRecDepth 100000 in
set_option maxHeartbeats 16000000 in
/-- a line behind the first one -/
theorem line_more (σ B : Nat) (W H n : Int) (v : Value) (L : List (OpC × Value)) (s : ByteArray) (rs : List Int) (w : World) (h : ScriptAt w σ W H v) (hL : OpsM w B v L) (hB : B ≤ σ) (hn : 0 < n) (hl : L.length ≤ 100000)
    (hp : ∀ w, Calls Tryz.prog 84 #[.string s] w fun e w' => ∃ v, e = .returned (.tuple #[opV 0 0 0 v, .nilIface]) ∧ w'.ownsRow w.heap.size 5 1 v rs.length (rs.map (Value.int .u8)) ∧ Below w.heap.size w w') :
    Calls Tryz.prog 45 #[.pointer (some ⟨σ, 0, none⟩), .int .i64 n, .string s] w fun e w' => e = .returned .nilIface ∧ ∃ v' p, ScriptAt w' σ W H v' ∧ OpsM w' B v' (L ++ [(⟨0, 0, 0, rs⟩, p)]) ∧ Below B w w' := by
  have hmx : Tryz.prog.follows .mixedOrders = true := by kernel_rfl
  obtain ⟨i0, hi, hz0, hz1, hz2⟩ := info_parts info_op
  obtain ⟨m, hm⟩ : ∃ m, rs.length = m := ⟨_, rfl⟩
  have HM := Lib.hid hm
  have HP := Lib.hid hp
  obtain ⟨k, hk⟩ : ∃ k, L.length = k := ⟨_, rfl⟩
  have HK := Lib.hid hk
  obtain ⟨av, cv, hav⟩ := Turn.own_slice hL.1
  rw [hk] at hav hl
  subst hav
  have HH := Lib.hid h
  have HL := Lib.hid hL
  have hsw : σ < w.heap.size := (Array.getElem?_eq_some_iff.1 h).1
  have HLT : Hid (∀ j, (Value.slice av k cv).ownBlock = some j → j < w.heap.size) := Lib.hid fun j e => (hL.1.lt j e).2
  clear h hL hp hm hk
  go_enter Tryz.func45, Tryz.ntmps45
  go_wp2_with fail
  refine (HP.out _).mono ?_
  rintro e w1 ⟨p, rfl, ho, hb⟩
  obtain ⟨pa, pc, hpa⟩ := Turn.own_slice ho
  rw [HM.out] at hpa
  subst hpa
  have T1 : Turn (fun _ => False) w w1 := Turn.of_new hb
  have HH1 := Lib.hid (show ScriptAt w1 σ W H (.slice av k cv) from T1.heap HH.out id)
  have HL1 := Lib.hid (HL.out.turn T1 (fun _ h => h.elim) (fun _ h => h.elim))
  have HO := Lib.hid (owns_base ho (show B ≤ w.heap.size by omega))
  have HB := Lib.hid hb
  have hnew : (w1.alloc (.cells (opA 0 0 0 (.slice none 0 0)) 30)).heap[w1.heap.size]? = some (.cells (opA 0 0 0 (.slice none 0 0)) 30 (0, 0)) := heap_alloc_new w1 _
  have hrow : (w1.alloc (.cells (opA 0 0 0 (.slice none 0 0)) 30)).setRow w1.heap.size (opA 0 0 0 (.slice pa m pc)) = w1.alloc (.cells (opA 0 0 0 (.slice pa m pc)) 30) := World.setRow_alloc_new w1 _ _ _
  clear ho hb T1 HP HH HL
  go_upto_region 3 with (refine wpList_store_row rfl 30 _ _ rfl w1.heap.size (opA 0 0 0 (.slice pa m pc)) rfl rfl _ _ hnew (size_op _ _ _ _) rfl (one_op _ _ _ _ _ _) ?_)
  have T1 : Turn (fun _ => False) w1 (w1.alloc (.cells (opA 0 0 0 (.slice pa m pc)) 30)) := Turn.alloc _ _ _
  have HH2 := Lib.hid (show ScriptAt (w1.alloc (.cells (opA 0 0 0 (.slice pa m pc)) 30)) σ W H (.slice av k cv) from T1.heap HH1.out id)
  have HL2 := Lib.hid (HL1.out.turn T1 (fun _ h => h.elim) (fun _ h => h.elim))
  have HO2 := Lib.hid (T1.kept HO.out (fun _ _ => id))
  have HB2 : Hid (Below w.heap.size w (w1.alloc (.cells (opA 0 0 0 (.slice pa m pc)) 30))) := Lib.hid (HB.out.alloc HB.out.size _)
  have HN2 := Lib.hid (heap_alloc_new w1 (.cells (opA 0 0 0 (.slice pa m pc)) 30))
  have HSZ := Lib.hid (show (w1.alloc (.cells (opA 0 0 0 (.slice pa m pc)) 30)).heap.size = w1.heap.size + 1 by simp)
  generalize (w1.alloc (.cells (opA 0 0 0 (.slice pa m pc)) 30)) = w2 at *
  have HBS := Lib.hid HB.out.size
  obtain ⟨q, hq⟩ : ∃ q, w1.heap.size = q := ⟨_, rfl⟩
  rw [hq] at HN2 HSZ HBS
  simp only [hq]
  clear hnew hrow T1 HH1 HL1 HO HB hq
  have c2 : w2.cell? ⟨σ, 2, none⟩ = some (.slice av k cv) := by
    have := HH2.out
    unfold ScriptAt at this
    simp [World.cell?, this]
  have HSW := Lib.hid hsw
  refine region_begin3 (fun w' => w'.cell? ⟨σ, 2, none⟩ = some (.slice av k cv) ∧ w'.heap[q]? = some (.cells (opA 0 0 0 (.slice pa m pc)) 30 (0, 0))) (fun j => j == 10) 11 rfl hmx (by intro _ _ d _ _ h; cases d <;> exact h) fun hQP => ?_
  have hS : w2.drew.cell? ⟨σ, 2, none⟩ = some (.slice av k cv) ∧ w2.drew.heap[q]? = some (.cells (opA 0 0 0 (.slice pa m pc)) 30 (0, 0)) := ⟨c2, HN2.out⟩
  refine take_f 0 19 rfl rfl (by kernel_rfl) (by kernel_rfl) (by kernel_rfl) (by kernel_rfl) hQP hS (.inl ⟨by kernel_rfl, fun w' hw' => by obtain ⟨e0, e1⟩ := hw'; go_simp; try with_reducible rfl⟩) ?_
  refine take_f 1 20 rfl rfl (by kernel_rfl) (by kernel_rfl) (by kernel_rfl) (by kernel_rfl) hQP hS (.inl ⟨by kernel_rfl, fun w' hw' => by obtain ⟨e0, e1⟩ := hw'; go_simp; try with_reducible rfl⟩) ?_
  refine take_f 2 21 rfl rfl (by kernel_rfl) (by kernel_rfl) (by kernel_rfl) (by kernel_rfl) hQP hS (.inl ⟨by kernel_rfl, fun w' hw' => by obtain ⟨e0, e1⟩ := hw'; go_simp; try with_reducible rfl⟩) ?_
  refine take_f 3 22 rfl rfl (by kernel_rfl) (by kernel_rfl) (by kernel_rfl) (by kernel_rfl) hQP hS (.inl ⟨by kernel_rfl, fun w' hw' => by obtain ⟨e0, e1⟩ := hw'; go_simp; try with_reducible rfl⟩) ?_
  refine take_f 4 23 rfl rfl (by kernel_rfl) (by kernel_rfl) (by kernel_rfl) (by kernel_rfl) hQP hS (.inl ⟨by kernel_rfl, fun w' hw' => by obtain ⟨e0, e1⟩ := hw'; go_simp; try with_reducible rfl⟩) ?_
  try simp only [List.setIfInBounds_toArray, List.set_cons_succ, List.set_cons_zero]
  refine take_f 5 24 rfl rfl (by kernel_rfl) (by kernel_rfl) (by kernel_rfl) (by kernel_rfl) hQP hS (yields_load_row 30 (.tmp 7) rfl (by kernel_rfl) q (by rfl) _ (opA 0 0 0 (.slice pa m pc)) _ _ (fun w' hw' => hw'.2) Tryz.underlying30 rfl (size_op _ _ _ _)) ?_
  try simp only [List.setIfInBounds_toArray, List.set_cons_succ, List.set_cons_zero]
  refine take_one (i := 6) (by kernel_rfl) rfl rfl fun KQ hK => ?_
  go_wp2_with fail
  have hnews : ∀ j u, [Value.int .i64 0, .int .i64 0, .int .i64 0, .slice pa m pc][j]? = some u → (w2.alloc (.cells #[.int .i64 0, .int .i64 0, .int .i64 0, .slice pa m pc] 30)).drew.cell? ((⟨w2.heap.size, 0, none⟩ : Addr).add j) = some u := Gra.cell_new4 w2 _ _ _ _ _
  have T3 : Turn (fun _ => False) w2 (w2.alloc (.cells #[.int .i64 0, .int .i64 0, .int .i64 0, .slice pa m pc] 30)).drew := (Turn.alloc _ w2 _).trans (Turn.drew _ _)
  have hS3 : (w2.alloc (.cells #[.int .i64 0, .int .i64 0, .int .i64 0, .slice pa m pc] 30)).drew.cell? ⟨σ, 2, none⟩ = some (.slice av k cv) ∧ (w2.alloc (.cells #[.int .i64 0, .int .i64 0, .int .i64 0, .slice pa m pc] 30)).drew.heap[q]? = some (.cells (opA 0 0 0 (.slice pa m pc)) 30 (0, 0)) := ⟨T3.cell c2 id, T3.heap HN2.out id⟩
  refine hK _ _ (.inr hS3) ?_
  clear hK hS
  have hs3 : (w2.alloc (.cells #[.int .i64 0, .int .i64 0, .int .i64 0, .slice pa m pc] 30)).drew.heap.size = w2.heap.size + 1 := World.size_alloc w2 _
  have HH3 := Lib.hid (show ScriptAt (w2.alloc (.cells #[.int .i64 0, .int .i64 0, .int .i64 0, .slice pa m pc] 30)).drew σ W H (.slice av k cv) from T3.heap HH2.out id)
  have HL3 := Lib.hid (HL2.out.turn T3 (fun _ h => h.elim) (fun _ h => h.elim))
  have HO3 := Lib.hid (T3.kept HO2.out (fun _ _ => id))
  have HB3 := Lib.hid (HB2.out.trans ((T3.below (Nat.le_refl _) (fun _ h => h.elim)).mono HB2.out.size))
  generalize (w2.alloc (.cells #[.int .i64 0, .int .i64 0, .int .i64 0, .slice pa m pc] 30)).drew = w5 at *
  have HS3 := Lib.hid hs3
  clear T3 HH2 HL2 HO2 HB2 c2 hs3
  have HSZ2 := Lib.hid (show B ≤ w2.heap.size by have := HSZ.out; have := HBS.out; omega)
  refine take_append_at 7 26 (by kernel_rfl) rfl rfl rfl (.tmp 23) (.tmp 25) 24 rfl B 30 i0 _ 4 48 Tryz.underlying24 hi hz0 hz1 hz2 rfl (by decide) (.slice av k cv) k (flatO L) (by rfl) (by rw [← HK.out]; rw [HK.out]; have := HL3.out.1; rw [HK.out] at this; exact this) ⟨w2.heap.size, 0, none⟩ 1 1 [.int .i64 0, .int .i64 0, .int .i64 0, .slice pa m pc] (by rfl) rfl hnews (by intro u hu; simp at hu; rcases hu with rfl | rfl <;> rfl) (by unfold maxLen; omega) (by omega) (by have := HS3.out; have := HSZ2.out; omega) ?_
  intro v9 w9 hown9 hgrow9 hat9
  obtain ⟨a9, cap9, rfl⟩ := Turn.own_slice hown9
  have T9 : Turn (fun j => (Value.slice av k cv).ownBlock = some j) w5 w9 := Turn.of_grown hgrow9 (fun g e => e)
  have hty : ∀ j, (Value.slice av k cv).ownBlock = some j → Typ w5 30 j := fun j e => owns_typ (by have := HL3.out.1; exact this) e
  have hσ : Typ w5 49 σ := ⟨_, _, HH3.out⟩
  have hnσ : ¬ (Value.slice av k cv).ownBlock = some σ := fun e => hσ.not (by decide) (hty σ e)
  have hnq : ¬ (Value.slice av k cv).ownBlock = some q := fun e => by have := HLT.out q e; have := HBS.out; omega
  have hS9 := And.intro (T9.cell hS3.1 hnσ) (T9.heap hS3.2 hnq)
  refine ⟨.inr hS9, ?_⟩
  have T10 : Turn (fun j => j = σ) w9 (w9.setCell ⟨σ, 2, none⟩ (.slice a9 (k + 1) cap9)) := Turn.setCell _ _ rfl
  have hσ9 := T9.heap HH3.out hnσ
  have HF : Hid (ScriptAt (w9.setCell ⟨σ, 2, none⟩ (.slice a9 (k + 1) cap9)) σ W H (.slice a9 (k + 1) cap9) ∧ OpsM (w9.setCell ⟨σ, 2, none⟩ (.slice a9 (k + 1) cap9)) B (.slice a9 (k + 1) cap9) (L ++ [(⟨0, 0, 0, rs⟩, .slice pa m pc)]) ∧ Below B w (w9.setCell ⟨σ, 2, none⟩ (.slice a9 (k + 1) cap9))) := Lib.hid (by
    have hσt : Typ w9 49 σ := ⟨_, _, hσ9⟩
    refine ⟨?_, ⟨?_, fun p hp => ?_⟩, ?_⟩
    · unfold ScriptAt
      rw [heap_set1 (cs := [.int .i64 W, .int .i64 H, .slice av k cv]) hσ9 2 (.slice a9 (k + 1) cap9)]
      rfl
    · rw [List.length_append, HK.out, flatO_app]
      exact T10.kept hown9 (fun g hg e => by subst e; exact hσt.not (by decide) (owns_typ hown9 hg))
    · have hu : w5.ownsRow B 5 1 p.2 p.1.bytes.length (p.1.bytes.map (Value.int .u8)) := by
        rcases List.mem_append.1 hp with e | e
        · exact HL3.out.2 p e
        · simp at e
          subst e
          have := HO3.out
          simp only
          rw [HM.out] at this ⊢
          exact this
      have h9 := T9.kept hu (fun g hg e => (hty g e).not (by decide) (owns_typ hu hg))
      exact T10.kept h9 (fun g hg e => by subst e; exact hσt.not (by decide) (owns_typ h9 hg))
    · have hs5 := HS3.out
      have h2 := HSZ2.out
      have hb5 : Below B w w5 := HB3.out.mono (by omega)
      refine hb5.trans ((T9.below (by omega) (fun j e => ?_)).trans (T10.below (by have := T9.size; omega) (fun j e => by omega)))
      exact (HL3.out.1.lt j e).1)
  have c9 := hS9.1
  have f9 : w9.frozen? ⟨σ, 2, none⟩ = false := by
    unfold ScriptAt at *
    simp [World.frozen?, hσ9]
  have HS9 := Lib.hid hS9
  clear hS3 hS9 T9 T10 hown9 hgrow9 hat9 HH3 HL3 HO3 HB3 hty hσ hnσ hnq hσ9 hnews
  try simp only [List.setIfInBounds_toArray, List.set_cons_succ, List.set_cons_zero]
  refine take_one (i := 8) (by kernel_rfl) rfl rfl fun KQ hK => ?_
  go_wp2_with fail
  refine hK _ _ (.inr HS9.out) ?_
  clear hK
  refine take_one (i := 9) (by kernel_rfl) rfl rfl fun KQ hK => ?_
  go_wp2_with fail
  refine hK _ _ (.inr HS9.out) ?_
  clear hK
  refine take_one (i := 10) (by kernel_rfl) rfl rfl fun KQ hK => ?_
  go_wp2_with fail
  refine hK _ _ (.inl rfl) ?_
  clear hK c9 f9
  refine take_done (by kernel_rfl) ?_ _
  try simp only [List.setIfInBounds_toArray, List.set_cons_succ, List.set_cons_zero]
  go_wp2_with fail
  go_ret
  exact ⟨rfl, _, _, HF.out.1, HF.out.2.1, HF.out.2.2⟩

set_option maxRecDepth 100000 in
set_option maxHeartbeats 16000000 in
/-- the first line -/
theorem line_first (σ B : Nat) (W H x y : Int) (v : Value) (s u1 u2 : ByteArray) (w : World) (h : ScriptAt w σ W H v) (hv : v = .slice none 0 0) (hB : B ≤ σ)
    (hs : SplitB 32 s [⟨#[115, 105, 122, 101]⟩, u1, u2]) (hc : Lib.countByte s.data.toList 32 + 1 = 3) (hsz : s.size ≤ 100000) (h2 : 2 ≤ s.size) (z1 : u1.size ≤ 100000) (z2 : u2.size ≤ 100000) (hx : numF u1 = (x, true)) (hy : numF u2 = (y, true)) :
    Calls Tryz.prog 45 #[.pointer (some ⟨σ, 0, none⟩), .int .i64 0, .string s] w fun e w' => e = .returned .nilIface ∧ ScriptAt w' σ x y v ∧ Below B w w' := by
  have hmx : Tryz.prog.follows .mixedOrders = true := by kernel_rfl
  have HSP := Lib.hid (fun w => sSplit1 s 32 [⟨#[115, 105, 122, 101]⟩, u1, u2] 3 w hs rfl hc (by omega) hsz)
  have HNU := Lib.hid (fun b c w h => numbers_two b 3 c [⟨#[115, 105, 122, 101]⟩, u1, u2] u1 u2 x y 1 w h (by omega) rfl rfl rfl rfl hx hy)
  have HZ := Lib.hid (And.intro z1 z2)
  have HH := Lib.hid h
  have hsw : σ < w.heap.size := (Array.getElem?_eq_some_iff.1 h).1
  clear h hs hc hsz h2 z1 z2 hx hy
  go_enter Tryz.func45, Tryz.ntmps45
  go_wp2_with fail
  refine (HSP.out _).mono ?_
  rintro e w1 ⟨cp, rfl, hcp, hw, hb⟩
  have hwords : WordsAt w1 w.heap.size [⟨#[115, 105, 122, 101]⟩, u1, u2] := ⟨hw, by
    intro x hx
    simp at hx
    rcases hx with rfl | rfl | rfl
    · decide
    · exact HZ.out.1
    · exact HZ.out.2⟩
  have hcell := hwords.cell (j := 0) rfl
  have HN := Lib.hid (HNU.out _ cp _ hwords)
  have HH1 := Lib.hid (show ScriptAt w1 σ W H v from (Turn.of_new hb : Turn (fun _ => False) w w1).heap HH.out id)
  have HB := Lib.hid hb
  have hcp0 : (0 : Int) < 3 := by decide
  clear hw hb hwords HNU HH
  go_wp2_with fail
  refine HN.out.mono ?_
  rintro e w2 ⟨rfl, hb⟩
  have HH2 := Lib.hid (show ScriptAt w2 σ W H v from (Turn.of_new hb : Turn (fun _ => False) w1 w2).heap HH1.out id)
  have HB2 := Lib.hid (HB.out.trans (hb.mono HB.out.size))
  have hnew : (w2.alloc (.cells #[.int .i64 0, .int .i64 0] 149)).heap[w2.heap.size]? = some (.cells #[.int .i64 0, .int .i64 0] 149 (0, 0)) := heap_alloc_new w2 _
  have hrow : (w2.alloc (.cells #[.int .i64 0, .int .i64 0] 149)).setRow w2.heap.size #[.int .i64 x, .int .i64 y] = w2.alloc (.cells #[.int .i64 x, .int .i64 y] 149) := World.setRow_alloc_new w2 _ _ _
  clear hb hcell HN HH1
  go_upto_region 9 with (refine wpList_store_row rfl 149 _ _ rfl w2.heap.size #[.int .i64 x, .int .i64 y] rfl rfl _ _ hnew (size_two _ _) rfl (one_two _ _) ?_)
  have T1 : Turn (fun _ => False) w2 (w2.alloc (.cells #[.int .i64 x, .int .i64 y] 149)) := Turn.alloc _ _ _
  have HH3 := Lib.hid (show ScriptAt (w2.alloc (.cells #[.int .i64 x, .int .i64 y] 149)) σ W H v from T1.heap HH2.out id)
  have HB3 : Hid (Below w.heap.size w (w2.alloc (.cells #[.int .i64 x, .int .i64 y] 149))) := Lib.hid (HB2.out.alloc HB2.out.size _)
  have hn3 := heap_alloc_new w2 (.cells #[.int .i64 x, .int .i64 y] 149)
  generalize (w2.alloc (.cells #[.int .i64 x, .int .i64 y] 149)) = w3 at *
  have HBS := Lib.hid HB2.out.size
  obtain ⟨q, hq⟩ : ∃ q, w2.heap.size = q := ⟨_, rfl⟩
  rw [hq] at hn3 HBS
  simp only [hq]
  clear hnew hrow T1 HH2 HB2 HB hq
  have q0 : w3.cell? ⟨q, 0, none⟩ = some (.int .i64 x) := by simp [World.cell?, hn3]
  have q1 : w3.cell? ⟨q, 1, none⟩ = some (.int .i64 y) := by simp [World.cell?, hn3]
  refine region_begin3 (fun w' => w'.cell? ⟨q, 0, none⟩ = some (.int .i64 x) ∧ w'.cell? ⟨q, 1, none⟩ = some (.int .i64 y)) (fun _ => false) 12 rfl hmx (by intro _ _ d _ _ h; cases d <;> exact h) fun hQP => ?_
  have hS : w3.drew.cell? ⟨q, 0, none⟩ = some (.int .i64 x) ∧ w3.drew.cell? ⟨q, 1, none⟩ = some (.int .i64 y) := ⟨q0, q1⟩
  refine take_f 0 42 rfl rfl (by kernel_rfl) (by kernel_rfl) (by kernel_rfl) (by kernel_rfl) hQP hS (.inl ⟨by kernel_rfl, fun w' hw' => by obtain ⟨e0, e1⟩ := hw'; go_simp; try with_reducible rfl⟩) ?_
  refine take_f 1 43 rfl rfl (by kernel_rfl) (by kernel_rfl) (by kernel_rfl) (by kernel_rfl) hQP hS (.inl ⟨by kernel_rfl, fun w' hw' => by obtain ⟨e0, e1⟩ := hw'; go_simp; try with_reducible rfl⟩) ?_
  refine take_f 2 44 rfl rfl (by kernel_rfl) (by kernel_rfl) (by kernel_rfl) (by kernel_rfl) hQP hS (.inl ⟨by kernel_rfl, fun w' hw' => by obtain ⟨e0, e1⟩ := hw'; go_simp; try with_reducible rfl⟩) ?_
  refine take_f 3 45 rfl rfl (by kernel_rfl) (by kernel_rfl) (by kernel_rfl) (by kernel_rfl) hQP hS (.inl ⟨by kernel_rfl, fun w' hw' => by obtain ⟨e0, e1⟩ := hw'; go_simp; try with_reducible rfl⟩) ?_
  refine take_f 4 46 rfl rfl (by kernel_rfl) (by kernel_rfl) (by kernel_rfl) (by kernel_rfl) hQP hS (.inl ⟨by kernel_rfl, fun w' hw' => by obtain ⟨e0, e1⟩ := hw'; go_simp; try with_reducible rfl⟩) ?_
  refine take_f 5 47 rfl rfl (by kernel_rfl) (by kernel_rfl) (by kernel_rfl) (by kernel_rfl) hQP hS (.inl ⟨by kernel_rfl, fun w' hw' => by obtain ⟨e0, e1⟩ := hw'; go_simp; try with_reducible rfl⟩) ?_
  refine take_f 6 48 rfl rfl (by kernel_rfl) (by kernel_rfl) (by kernel_rfl) (by kernel_rfl) hQP hS (.inl ⟨by kernel_rfl, fun w' hw' => by obtain ⟨e0, e1⟩ := hw'; go_simp; try with_reducible rfl⟩) ?_
  refine take_f 7 49 rfl rfl (by kernel_rfl) (by kernel_rfl) (by kernel_rfl) (by kernel_rfl) hQP hS (.inl ⟨by kernel_rfl, fun w' hw' => by obtain ⟨e0, e1⟩ := hw'; go_simp; try with_reducible rfl⟩) ?_
  try simp only [List.setIfInBounds_toArray, List.set_cons_succ, List.set_cons_zero]
  have hσ3 : w3.drew.heap[σ]? = some (.cells #[.int .i64 W, .int .i64 H, v] 49 (0, 0)) := HH3.out
  have HB4 : Hid (Below w.heap.size w w3.drew) := Lib.hid HB3.out.drew
  clear q0 q1 HH3 HB3 hn3
  generalize w3.drew = w3 at *
  have c0 : w3.cell? ⟨σ, 0, none⟩ = some (.int .i64 W) := by simp [World.cell?, hσ3]
  have f0 : w3.frozen? ⟨σ, 0, none⟩ = false := by simp [World.frozen?, hσ3]
  have hqσ : ¬ q = σ := by
    have := HBS.out
    omega
  have T4 : Turn (fun b => b = σ) w3 (w3.setCell ⟨σ, 0, none⟩ (.int .i64 x)) := Turn.setCell (T := fun b => b = σ) (p := ⟨σ, 0, none⟩) w3 (.int .i64 x) rfl
  have hσ4 : (w3.setCell ⟨σ, 0, none⟩ (.int .i64 x)).heap[σ]? = some (.cells #[.int .i64 x, .int .i64 H, v] 49 (0, 0)) := by
    rw [heap_set1 (cs := [.int .i64 W, .int .i64 H, v]) hσ3 0 (.int .i64 x)]
    rfl
  have hS4 := And.intro (T4.cell hS.1 (p := ⟨q, 0, none⟩) hqσ) (T4.cell hS.2 (p := ⟨q, 1, none⟩) hqσ)
  have HT4 := Lib.hid T4
  refine take_one (i := 8) (by kernel_rfl) rfl rfl fun KQ hK => ?_
  go_wp2_with fail
  refine hK _ _ (.inr hS4) ?_
  clear hK T4 hσ3 c0 f0 hS
  generalize (w3.setCell ⟨σ, 0, none⟩ (.int .i64 x)) = w4 at *
  have c1 : w4.cell? ⟨σ, 1, none⟩ = some (.int .i64 H) := by simp [World.cell?, hσ4]
  have f1 : w4.frozen? ⟨σ, 1, none⟩ = false := by simp [World.frozen?, hσ4]
  have T5 : Turn (fun b => b = σ) w4 (w4.setCell ⟨σ, 1, none⟩ (.int .i64 y)) := Turn.setCell (T := fun b => b = σ) (p := ⟨σ, 1, none⟩) w4 (.int .i64 y) rfl
  have hσ5 : (w4.setCell ⟨σ, 1, none⟩ (.int .i64 y)).heap[σ]? = some (.cells #[.int .i64 x, .int .i64 y, v] 49 (0, 0)) := by
    rw [heap_set1 (cs := [.int .i64 x, .int .i64 H, v]) hσ4 1 (.int .i64 y)]
    rfl
  have hS5 := And.intro (T5.cell hS4.1 (p := ⟨q, 0, none⟩) hqσ) (T5.cell hS4.2 (p := ⟨q, 1, none⟩) hqσ)
  have HF : Hid (ScriptAt (w4.setCell ⟨σ, 1, none⟩ (.int .i64 y)) σ x y v ∧ Below B w (w4.setCell ⟨σ, 1, none⟩ (.int .i64 y))) := Lib.hid (by
    refine ⟨hσ5, ?_⟩
    have h3 : B ≤ w3.heap.size := by have := HB4.out.size; omega
    exact (HB4.out.mono (by omega)).trans ((HT4.out.below h3 (fun b e => by omega)).trans (T5.below (by have := HT4.out.size; omega) (fun b e => by omega)))
    )
  have HS4 := Lib.hid hS4
  have HS5 := Lib.hid hS5
  clear T5 hσ5 hσ4 hS4 hS5
  refine take_one (i := 9) (by kernel_rfl) rfl rfl fun KQ hK => ?_
  go_wp2_with fail
  refine hK _ _ (.inr HS4.out) ?_
  clear hK
  refine take_one (i := 10) (by kernel_rfl) rfl rfl fun KQ hK => ?_
  go_wp2_with fail
  refine hK _ _ (.inr HS4.out) ?_
  clear hK
  refine take_one (i := 11) (by kernel_rfl) rfl rfl fun KQ hK => ?_
  go_wp2_with fail
  refine hK _ _ (.inr HS5.out) ?_
  clear hK
  refine take_done (by kernel_rfl) ?_ _
  try simp only [List.setIfInBounds_toArray, List.set_cons_succ, List.set_cons_zero]
  go_wp2_with fail
  go_ret
  exact ⟨rfl, HF.out.1, HF.out.2⟩
end Go.Proofs.YtjicdcmdgbcdcaaGreatDoor.Scr
end
section
namespace Go.Proofs.YtjicdcmdgbcdcaaGreatDoor.Scr
set_option linter.unusedSimpArgs false
set_option linter.unusedVariables false
open Go Go.RowKit Mem Turn Ring

structure CutAt (t line rest : ByteArray) (i : Nat) : Prop where
  ne : ([10] == t.toList) = false
  ix : Lib.indexByte t.data.toList 10 = (i : Int)
  le : i + 1 ≤ t.size
  sz : t.size ≤ 100000
  a : t.extract 0 i = line
  b : t.extract (i + 1) t.size = rest
structure FeedLine (line : ByteArray) (rs : List Int) (u : ByteArray) : Prop where
  sp : SplitB 32 line [⟨#[102, 101, 101, 100]⟩, u]
  ct : Lib.countByte line.data.toList 32 + 1 = 2
  sz : line.size ≤ 100000
  s1 : 1 ≤ line.size
  us : u.size ≤ 100000
  hx : HexOf u rs
  ne : rs ≠ []
def FeedLines : ByteArray → List (List Int) → Prop
  | t, [] => t = ⟨#[]⟩
  | t, rs :: L => ∃ i line rest u, CutAt t line rest i ∧ FeedLine line rs u ∧ FeedLines rest L
structure SizeLine (line : ByteArray) (x y : Int) (u1 u2 : ByteArray) : Prop where
  sp : SplitB 32 line [⟨#[115, 105, 122, 101]⟩, u1, u2]
  ct : Lib.countByte line.data.toList 32 + 1 = 3
  sz : line.size ≤ 100000
  s2 : 2 ≤ line.size
  z1 : u1.size ≤ 100000
  z2 : u2.size ≤ 100000
  hx : numF u1 = (x, true)
  hy : numF u2 = (y, true)
theorem size_script (x y : Int) (v : Value) : (Tryz.prog.info? 49).map (·.size) = some (#[Value.int .i64 x, .int .i64 y, v] : Array Value).size := by kernel_rfl
theorem one_script (x y : Int) (ad : Option Addr) (n c : Nat) : (#[Value.int .i64 x, .int .i64 y, .slice ad n c] : Array Value).all (·.oneCell') = true := by simp [Value.oneCell']
/-- how the script stands behind n lines -/
def ReadS (w wx : World) (σ n : Nat) (x y : Int) (tk text : ByteArray) (L Lr : List (List Int)) : Prop :=
  Below w.heap.size w wx ∧ wx.heap[w.heap.size]? = some (.cells #[.int .i64 0, .int .i64 0, .slice none 0 0] 49 (0, 0)) ∧
  ((n = 0 ∧ tk = text ∧ Lr = L ∧ ScriptAt wx σ 0 0 (.slice none 0 0)) ∨
   (1 ≤ n ∧ FeedLines tk Lr ∧ ∃ v LL, ScriptAt wx σ x y v ∧ OpsM wx (w.heap.size + 1) v LL ∧ LL.map (·.1) ++ Lr.map (fun rs => ⟨0, 0, 0, rs⟩) = L.map (fun rs => (⟨0, 0, 0, rs⟩ : OpC))))

set_option maxRecDepth 100000 in
set_option maxHeartbeats 16000000 in
theorem read_ok (text line rest u1 u2 : ByteArray) (i : Nat) (x y : Int) (L : List (List Int)) (w : World) (hc : CutAt text line rest i) (hsl : SizeLine line x y u1 u2) (hf : FeedLines rest L) (hsz : text.size ≤ 65536) (hLn : L.length ≤ 60000) :
    Calls Tryz.prog 14 #[.string text] w fun e w' => ∃ v LL, e = .returned (.tuple #[.agg #[.int .i64 x, .int .i64 y, v], .nilIface]) ∧ OpsM w' w.heap.size v LL ∧ LL.map (·.1) = L.map (fun rs => (⟨0, 0, 0, rs⟩ : OpC)) ∧ Below w.heap.size w w' := by
  have HC := Lib.hid hc
  have HSL := Lib.hid hsl
  have HF := Lib.hid hf
  have HLN := Lib.hid hLn
  have hsz' : decide ((65536 : Int) < (text.size : Int)) = false := decide_eq_false (by omega)
  obtain ⟨m, hm⟩ : ∃ m, L.length = m := ⟨_, rfl⟩
  have HM := Lib.hid hm
  clear hc hsl hf hLn hm
  go_enter Tryz.func14, Tryz.ntmps14
  go_upto_region 4 with fail
  have HI : Hid (ReadS w ((w.alloc (.cells #[.int .i64 0, .int .i64 0, .slice none 0 0] 49)).alloc (.cells #[.int .i64 0, .int .i64 0, .slice none 0 0] 49)) (w.heap.size + 1) 0 x y text text L L) := Lib.hid (by
    refine ⟨((Below.refl _ _).alloc (Nat.le_refl _) _).alloc (by simp) _, ?_, .inl ⟨rfl, rfl, rfl, ?_⟩⟩
    · rw [hp_old _ _ _ (by simp), heap_alloc_new]
    · have := heap_alloc_new (w.alloc (.cells #[.int .i64 0, .int .i64 0, .slice none 0 0] 49)) (.cells #[.int .i64 0, .int .i64 0, .slice none 0 0] 49)
      rw [World.size_alloc] at this
      exact this)
  generalize ((w.alloc (.cells #[.int .i64 0, .int .i64 0, .slice none 0 0] 49)).alloc (.cells #[.int .i64 0, .int .i64 0, .slice none 0 0] 49)) = w1 at *
  obtain ⟨B, hB⟩ : ∃ B, w.heap.size = B := ⟨_, rfl⟩
  rw [hB]
  have HBB := Lib.hid hB
  rw [show w.heap.size + 1 = B + 1 by rw [hB]] at HI
  clear hB
  go_wp2_with fail
  go_loopg [0, 5, 6, 7, 8, 9] (m + 1) (fun gg v0 v5 v6 v7 v8 v9 wx => ∃ (n : Nat) (tk : ByteArray) (Lr : List (List Int)), (if n = 0 then Lr.length + 1 else Lr.length) = gg ∧ v0 = .string tk ∧ v5 = .int .i64 (n : Int) ∧ n + Lr.length ≤ m + 1 ∧ Hid (ReadS w wx (B + 1) n x y tk text L Lr))
  case atStart => exact ⟨0, text, L, by rw [if_pos rfl, HM.out], rfl, rfl, by rw [HM.out]; omega, HI⟩
  case round =>
    obtain ⟨n, tk, Lr, hgg, rfl, rfl, hnm, H⟩ := hrel
    obtain ⟨hbw, hres, hcase⟩ := H.out
    rw [HBB.out] at hres hbw
    have HBW := Lib.hid hbw
    have HRES := Lib.hid hres
    clear hbw hres H
    by_cases h0 : n = 0
    · subst h0
      rw [if_pos rfl] at hgg
      obtain ⟨-, rfl, rfl, hs⟩ := hcase.resolve_right (fun h => by omega)
      have HST := Lib.hid hs
      have HCUT := Lib.hid (sCut1 tk line rest 10 i wr HC.out.ne HC.out.ix HC.out.le HC.out.sz HC.out.a HC.out.b)
      clear hs hcase
      go_wp2_with fail
      refine HCUT.out.mono ?_
      rintro e w2 ⟨rfl, hb2⟩
      have HS2 := Lib.hid (show ScriptAt w2 (B + 1) 0 0 (.slice none 0 0) from (Turn.of_new hb2 : Turn (fun _ => False) wr w2).heap HST.out id)
      have HR2 := Lib.hid ((Turn.of_new hb2 : Turn (fun _ => False) wr w2).heap HRES.out id)
      have HB2 := Lib.hid (HBW.out.trans (hb2.mono (by have := HBW.out.size; have := HBB.out; omega)))
      have HLI := Lib.hid (line_first (B + 1) (B + 1) 0 0 x y (.slice none 0 0) line u1 u2 w2 HS2.out rfl (Nat.le_refl _) HSL.out.sp HSL.out.ct HSL.out.sz HSL.out.s2 HSL.out.z1 HSL.out.z2 HSL.out.hx HSL.out.hy)
      clear hb2 HCUT HST HRES HBW
      go_wp2_with fail
      refine HLI.out.mono ?_
      rintro e w3 ⟨rfl, hs3, hb3⟩
      have HRD : Hid (ReadS w w3 (B + 1) 1 x y rest tk Lr Lr) := Lib.hid (by
        have hBw := HBB.out
        have hsz2 : B + 1 < w2.heap.size := (Array.getElem?_eq_some_iff.1 HS2.out).1
        refine ⟨?_, ?_, .inr ⟨Nat.le_refl _, HF.out, _, [], hs3, ⟨World.ownsRow_nil _ _ _ _, by simp⟩, by simp⟩⟩
        · rw [hBw]
          exact HB2.out.trans (hb3.mono (by omega))
        · rw [hBw]
          rw [hb3.block B (by omega)]
          exact HR2.out)
      clear hs3 hb3 HLI HS2 HR2 HB2
      go_wp2_with fail
      go_roundg Lr.length
      case measure => omega
      case rel => exact ⟨1, rest, Lr, by simp, rfl, by go_num, by have := HM.out; omega, HRD⟩
    · rw [if_neg h0] at hgg
      obtain ⟨h1n, hfl, v, LL, hs, hop, hmap⟩ := hcase.resolve_left (fun h => h0 h.1)
      rw [HBB.out] at hop
      have hn0 : ((n : Int) == 0) = false := by rw [beq_eq_false_iff_ne]; omega
      have hnp : (0 : Int) < (n : Int) := by omega
      rcases Lr with _ | ⟨rs, Lr⟩
      · obtain rfl : tk = ⟨#[]⟩ := hfl
        obtain ⟨av, cv, hav⟩ := Turn.own_slice hop.1
        obtain ⟨k, hk⟩ : ∃ k, LL.length = k := ⟨_, rfl⟩
        rw [hk] at hav
        subst hav
        have HS := Lib.hid hs
        have HOP := Lib.hid hop
        have HMAP := Lib.hid hmap
        have hs' : wr.heap[B + 1]? = some (.cells #[.int .i64 x, .int .i64 y, .slice av k cv] 49 (0, 0)) := hs
        have hres := HRES.out
        clear hs hop hmap HC HSL
        go_wp2_with (first | (refine wpList_load_row rfl 49 _ rfl (B + 1) rfl _ #[.int .i64 x, .int .i64 y, .slice av k cv] (0, 0) _ hs' Tryz.underlying49 rfl (size_script _ _ _) ?_) | (refine wpList_store_row rfl 49 _ _ rfl B #[.int .i64 x, .int .i64 y, .slice av k cv] rfl rfl _ _ hres (size_script _ _ _) rfl (one_script _ _ _ _ _) ?_))
        have hfin := setRow_heap wr B _ #[.int .i64 x, .int .i64 y, .slice av k cv] 49 (0, 0) hres
        have T := turn_setRow wr B #[.int .i64 x, .int .i64 y, .slice av k cv]
        refine bodyPost_ret (res_cell_tmp rfl _ _ B 49 _ (0, 0) _ rfl hfin Tryz.underlying49 rfl (size_script _ _ _)) rfl ?_
        have hty : Typ wr 49 B := ⟨_, _, hres⟩
        have hbs := HBW.out.size
        have hBw := HBB.out
        have hO := HOP.out.turn T (fun b e _ => by subst e; exact hty.not (by decide)) (fun b e _ => by subst e; exact hty.not (by decide))
        refine ⟨_, LL, rfl, ⟨owns_base hO.1 (by omega), fun p hp => owns_base (hO.2 p hp) (by omega)⟩, ?_, ?_⟩
        · have := HMAP.out
          simpa using this
        · rw [hBw]
          exact HBW.out.trans (T.below (by omega) (fun j e => by rw [e]; exact Nat.le_refl _))
      · obtain ⟨j, ln, rt, u, hcut, hfe, hfl2⟩ := hfl
        have HCUT := Lib.hid (sCut1 tk ln rt 10 j wr hcut.ne hcut.ix hcut.le hcut.sz hcut.a hcut.b)
        have HFL := Lib.hid hfl2
        have HMAP := Lib.hid hmap
        have HS := Lib.hid hs
        have HOP := Lib.hid hop
        have hne : (tk.toList == []) = false := nil_ne (by have := hcut.le; omega)
        have HFE := Lib.hid hfe
        have hlen : LL.length ≤ 100000 := by
          have := congrArg List.length hmap
          simp at this
          have := HLN.out
          omega
        have HLEN := Lib.hid hlen
        clear hcut hfl2 hmap hs hop hfe hlen
        go_wp2_with fail
        refine HCUT.out.mono ?_
        rintro e w2 ⟨rfl, hb2⟩
        have T2 : Turn (fun _ => False) wr w2 := Turn.of_new hb2
        have HS2 := Lib.hid (show ScriptAt w2 (B + 1) x y v from T2.heap HS.out id)
        have HO2 := Lib.hid (HOP.out.turn T2 (fun _ h => h.elim) (fun _ h => h.elim))
        have HR2 := Lib.hid (T2.heap HRES.out id)
        have HB2 := Lib.hid (HBW.out.trans (hb2.mono (by have := HBW.out.size; have := HBB.out; omega)))
        have HLI := Lib.hid (line_more (B + 1) (B + 1) x y n v LL ln rs w2 HS2.out HO2.out (Nat.le_refl _) hnp HLEN.out (fun w => parse_feed ln u rs w HFE.out.sp HFE.out.ct HFE.out.sz HFE.out.s1 HFE.out.us HFE.out.hx HFE.out.ne))
        clear hb2 T2 HCUT HS HOP HRES HBW
        go_wp2_with fail
        refine HLI.out.mono ?_
        rintro e w3 ⟨rfl, v3, p3, hs3, ho3, hb3⟩
        have HRD : Hid (ReadS w w3 (B + 1) (n + 1) x y rt text L Lr) := Lib.hid (by
          have hBw := HBB.out
          have hsz2 : B + 1 < w2.heap.size := (Array.getElem?_eq_some_iff.1 HS2.out).1
          refine ⟨?_, ?_, .inr ⟨by omega, HFL.out, v3, _, hs3, by rw [hBw]; exact ho3, ?_⟩⟩
          · rw [hBw]
            exact HB2.out.trans (hb3.mono (by omega))
          · rw [hBw]
            rw [hb3.block B (by omega)]
            exact HR2.out
          · have := HMAP.out
            simpa using this)
        have hwn : IntKind.i64.wrap ((n : Int) + 1) = (n : Int) + 1 := by rw [IntKind.wrap_i64]; have := HLN.out; have := HM.out; omega
        clear hs3 ho3 hb3 HLI HS2 HR2 HB2 HO2
        simp only [List.length_cons] at hgg hnm
        go_wp2_with fail
        go_roundg Lr.length
        case measure => omega
        case rel => exact ⟨n + 1, rt, Lr, by simp, rfl, by go_num, by omega, HRD⟩
end Go.Proofs.YtjicdcmdgbcdcaaGreatDoor.Scr
end

/-
  pack.builder.number.
-/
import Derived.Test.YtpeniadomjijcaaPackN
namespace Go.Proofs.Ytpeniadomjijcaa.Pack
set_option linter.unusedSimpArgs false
set_option linter.unusedVariables false
open Go Go.RowKit Mem Turn

set_option maxRecDepth 100000 in
set_option maxHeartbeats 8000000 in
theorem number_any (qb kb eb qt base : Nat) (rest : Value) (fs : List Nat) (bs : List (List Int)) (x : List Int) (w : World) (hB : BAt w qb rest kb eb qt) (hK : KAt w kb bs) (hT : TAt w qt base fs bs)
    (hl : ∀ b ∈ bs, b.length = 256) (hx : x.length = 256) (hn : bs.length ≤ 5000) (l1 : qb < base) (l2 : kb < base) (l3 : qt < base) (hb : base ≤ w.heap.size) :
    Calls Try.prog 21 #[.pointer (some ⟨qb, 0, none⟩), .agg (arr x)] w fun e w' =>
      e = .returned (.int .u16 ((num x bs).2 : Int)) ∧ KAt w' kb (num x bs).1 ∧ TAt w' qt base fs (num x bs).1 ∧ Turn (fun j => j = kb ∨ j = qt ∨ base ≤ j) w w' := by
  obtain ⟨ib, hib, hb0, hb1, hb2⟩ := info_parts info_block
  have HB := Lib.hid hB
  have HK := Lib.hid hK
  have HT := Lib.hid hT
  clear hB hK hT
  go_enter Try.func21, Try.ntmps21
  go_wp2
  have hmx : Try.prog.follows .mixedOrders = true := by kernel_rfl
  have hsz : (w.alloc (.cells (arr x) 51)).heap.size = w.heap.size + 1 := by simp
  have hw1 : Below w.heap.size w (w.alloc (.cells (arr x) 51)) := (Below.refl _ _).alloc (Nat.le_refl _) _
  have hloc : Hid ((w.alloc (.cells (arr x) 51)).heap[w.heap.size]? = some (.cells (arr x) 51 (0, 0))) := Lib.hid (World.alloc_heap_new w _)
  have T1 : Turn (fun _ => False) w (w.alloc (.cells (arr x) 51)) := Turn.of_new hw1
  have HB1 := Lib.hid (HB.out.turn T1 id)
  have HK1 := Lib.hid (HK.out.turn T1 id)
  have HT1 := Lib.hid (HT.out.turn T1 id (fun _ _ => id))
  have HT0 := Lib.hid T1
  clear T1 hw1
  generalize (w.alloc (.cells (arr x) 51)) = w1 at *
  have c1 : w1.cell? ⟨qb, 1, none⟩ = some (.map (some kb)) := (HB1.out).c1
  obtain ⟨v0, ok, hlk, hcase⟩ : ∃ (v0 : Int) (ok : Bool), (Instr.lookup 40 (.map (some kb)) (.agg (arr x)) true).run Try.prog w1.drew = .ok (.tuple #[.int .u16 v0, .bool ok]) w1.drew ∧ Hid ((ok = true ∧ num x bs = (bs, bs.idxOf x) ∧ v0 = (bs.idxOf x : Int)) ∨ (ok = false ∧ x ∉ bs ∧ num x bs = (bs ++ [x], bs.length))) := by
    have hlk := run_look w1.drew (HK1.out.drew) hl x hx
    by_cases hm : x ∈ bs
    · rw [if_pos hm, decide_eq_true hm] at hlk
      exact ⟨_, _, hlk, Lib.hid (.inl ⟨rfl, by unfold num; rw [if_pos hm], rfl⟩)⟩
    · rw [if_neg hm, decide_eq_false hm] at hlk
      exact ⟨_, _, hlk, Lib.hid (.inr ⟨rfl, hm, by unfold num; rw [if_neg hm]⟩)⟩
  refine region_begin2 (fun w' => w'.cell? ⟨qb, 1, none⟩ = some (.map (some kb))) (fun _ => false) hmx (by intro _ _ d _ _ h; cases d <;> exact h) fun hQP => ?_
  have hS : w1.drew.cell? ⟨qb, 1, none⟩ = some (.map (some kb)) := c1
  refine take_first (i := 0) rfl (by kernel_rfl) (by kernel_rfl) (by kernel_rfl) (by kernel_rfl) (fun _ _ _ h => hQP _ _ _ _ _ h) hS (.inl ⟨by rfl, fun w' hw' => by have e0 : w'.cell? ⟨qb, 1, none⟩ = some (.map (some kb)) := hw'; go_simp; try with_reducible rfl⟩) ?_
  refine take_first (i := 1) rfl (by kernel_rfl) (by kernel_rfl) (by kernel_rfl) (by kernel_rfl) (fun _ _ _ h => hQP _ _ _ _ _ h) hS (.inl ⟨by rfl, fun w' hw' => by have e0 : w'.cell? ⟨qb, 1, none⟩ = some (.map (some kb)) := hw'; go_simp; try with_reducible rfl⟩) ?_
  refine take_first (i := 2) rfl (by kernel_rfl) (by kernel_rfl) (by kernel_rfl) (by kernel_rfl) (fun _ _ _ h => hQP _ _ _ _ _ h) hS (.inl ⟨by rfl, fun w' hw' => by have e0 : w'.cell? ⟨qb, 1, none⟩ = some (.map (some kb)) := hw'; go_simp; try with_reducible rfl⟩) ?_
  refine take_first (i := 3) rfl (by kernel_rfl) (by kernel_rfl) (by kernel_rfl) (by kernel_rfl) (fun _ _ _ h => hQP _ _ _ _ _ h) hS (.inl ⟨by rfl, fun w' hw' => by have e0 : w'.cell? ⟨qb, 1, none⟩ = some (.map (some kb)) := hw'; go_simp; try with_reducible rfl⟩) ?_
  refine take_g (i := 4) (by kernel_rfl) rfl rfl fun K hK => ?_
  refine wp_load_row 51 _ rfl w.heap.size rfl _ _ (0, 0) _ hloc.out Try.underlying51 rfl (by rw [arr_size, hx]; exact size_block) (hK _ _ (.inr hS) ?_)
  clear hK
  refine take_g (i := 5) (by kernel_rfl) rfl rfl fun K hK => ?_
  go_wp2
  refine hK _ _ (.inr hS) ?_
  clear hK
  refine take_g (i := 6) (by kernel_rfl) rfl rfl fun K hK => ?_
  go_wp2
  refine hK _ _ (.inr hS) ?_
  clear hK hlk
  refine take_first (i := 7) rfl (by kernel_rfl) (by kernel_rfl) (by kernel_rfl) (by kernel_rfl) (fun _ _ _ h => hQP _ _ _ _ _ h) hS (.inl ⟨by rfl, fun w' hw' => by go_simp; try with_reducible rfl⟩) ?_
  refine take_first (i := 8) rfl (by kernel_rfl) (by kernel_rfl) (by kernel_rfl) (by kernel_rfl) (fun _ _ _ h => hQP _ _ _ _ _ h) hS (.inl ⟨by rfl, fun w' hw' => by go_simp; try with_reducible rfl⟩) ?_
  refine take_g (i := 9) (by kernel_rfl) rfl rfl fun K hK => ?_
  go_wp2
  refine hK _ _ (.inr hS) ?_
  clear hK
  refine take_g (i := 10) (by kernel_rfl) rfl rfl fun K hK => ?_
  go_wp2
  refine hK _ _ (.inr hS) ?_
  clear hK
  refine take_done (by kernel_rfl) ?_ _
  have HT1d : Hid (Turn (fun _ => False) w w1.drew) := Lib.hid (HT0.out.trans (Turn.drewN _ w1 1))
  rcases hcase.out with ⟨rfl, hnum, rfl⟩ | ⟨rfl, hm, hnum⟩
  · have HN := Lib.hid hnum
    clear hcase hnum
    generalize (bs.idxOf x) = ix at *
    go_wp2
    go_ret
    rw [HN.out]
    exact ⟨rfl, HK1.out, HT1.out, HT1d.out.mono (fun _ _ h => h.elim)⟩
  · have HN := Lib.hid hnum
    have HM := Lib.hid hm
    obtain ⟨fc, bv, t1, t2, t3, t4⟩ := HT.out
    obtain ⟨av, cv, rfl⟩ := Sp.own_sl t4
    have HG0 : Hid (∀ g, (Value.slice av bs.length cv).ownBlock = some g → g < w.heap.size) := Lib.hid fun g hg => (t4.lt g hg).2
    have t1 := HT0.out.heap t1 id
    have t4 := HT0.out.kept t4 (fun _ _ => id)
    have HQ := Lib.hid t1
    have HFL := Lib.hid t2
    have HF := Lib.hid t3
    have HO := Lib.hid t4
    have q1 : w1.cell? ⟨qt, 4352, none⟩ = some (.slice av bs.length cv) := by simp [World.cell?, t1, ← t2]
    have q0 := HB1.out.c3
    have hN := hn
    generalize hbl : bs.length = L at *
    have HBL := Lib.hid hbl
    have u1 : IntKind.u16.wrap (L : Int) = (L : Int) := by
      unfold IntKind.wrap
      simp [IntKind.bits, IntKind.signed]
      omega
    clear hcase hnum hm t1 t2 t3 t4 hbl
    go_wp2
    refine region_begin2 (fun w' => w'.heap[w.heap.size]? = some (.cells (arr x) 51 (0, 0)) ∧ w'.cell? ⟨qb, 1, none⟩ = some (.map (some kb))) (fun j => j == 6) hmx (by intro _ _ d _ _ h; cases d <;> exact h) fun hQP => ?_
    have hS : w1.drew.drew.heap[w.heap.size]? = some (.cells (arr x) 51 (0, 0)) ∧ w1.drew.drew.cell? ⟨qb, 1, none⟩ = some (.map (some kb)) := ⟨hloc.out, c1⟩
    refine take_first (i := 4) (v := .agg (arr x)) rfl (by kernel_rfl) (by kernel_rfl) (by kernel_rfl) (by kernel_rfl) (fun _ _ _ h => hQP _ _ _ _ _ h) hS (.inl ⟨by rfl, fun w' hw' => yields_row 51 _ rfl w.heap.size rfl _ _ (0, 0) _ hw'.1 Try.underlying51 rfl (by rw [arr_size, hx]; exact size_block)⟩) ?_
    refine take_first (i := 0) rfl (by kernel_rfl) (by kernel_rfl) (by kernel_rfl) (by kernel_rfl) (fun _ _ _ h => hQP _ _ _ _ _ h) hS (.inl ⟨by rfl, fun w' hw' => by obtain ⟨e9, e0⟩ := hw'; go_simp; try with_reducible rfl⟩) ?_
    refine take_first (i := 1) rfl (by kernel_rfl) (by kernel_rfl) (by kernel_rfl) (by kernel_rfl) (fun _ _ _ h => hQP _ _ _ _ _ h) hS (.inl ⟨by rfl, fun w' hw' => by obtain ⟨e9, e0⟩ := hw'; go_simp; try with_reducible rfl⟩) ?_
    refine take_first (i := 2) rfl (by kernel_rfl) (by kernel_rfl) (by kernel_rfl) (by kernel_rfl) (fun _ _ _ h => hQP _ _ _ _ _ h) hS (.inl ⟨by rfl, fun w' hw' => by obtain ⟨e9, e0⟩ := hw'; go_simp; try with_reducible rfl⟩) ?_
    refine take_first (i := 5) rfl (by kernel_rfl) (by kernel_rfl) (by kernel_rfl) (by kernel_rfl) (fun _ _ _ h => hQP _ _ _ _ _ h) hS (.inl ⟨by rfl, fun w' hw' => by obtain ⟨e9, e0⟩ := hw'; go_simp; try with_reducible rfl⟩) ?_
    refine take_g (i := 3) (by kernel_rfl) rfl rfl fun K hK => ?_
    go_wp2
    refine hK _ _ (.inr hS) ?_
    clear hK
    obtain ⟨w2, hup, hK2, hT2⟩ := run_put w1.drew.drew HK1.out hl x hx HM.out
    rw [HBL.out] at hup
    have hqk : qb ≠ kb := by
      intro e
      obtain ⟨es, clk, h1, _⟩ := HK1.out
      have h2 : w1.heap[qb]? = _ := HB1.out
      rw [e, h1] at h2
      injection h2 with h2
      cases h2
    have htk : qt ≠ kb := by
      intro e
      obtain ⟨es, clk, h1, _⟩ := HK1.out
      have h2 := HQ.out
      rw [e, h1] at h2
      injection h2 with h2
      cases h2
    have hqt : qb ≠ qt := by
      intro e
      have h2 := HQ.out
      have h3 : w1.heap[qb]? = _ := HB1.out
      rw [e, h2] at h3
      injection h3 with h3
      injection h3 with _ h3
      exact absurd h3 (by decide)
    have T2 : Turn (fun j => j = kb) w1 w2 := (Turn.drewN (fun j => j = kb) w1 2).trans hT2
    have HB2 := Lib.hid (HB1.out.turn T2 hqk)
    have HQ2 := Lib.hid (T2.heap HQ.out htk)
    have HO2 := Lib.hid (T2.kept HO.out (fun g hg e => by have := (HO.out.lt g hg).1; omega))
    have HL2 := Lib.hid (T2.heap hloc.out (fun e => by omega))
    have HT2 := Lib.hid (HT0.out.mono (fun _ _ h => h.elim) |>.trans T2 : Turn (fun j => j = kb) w w2)
    have HK2 := Lib.hid hK2
    refine take_g (i := 6) (by kernel_rfl) rfl rfl fun K hK => ?_
    go_wp2
    refine hK _ _ (.inl rfl) ?_
    clear hK hS c1 hup hK2 hT2 T2 q0 q1 hqk HK1 HO HQ HB1
    refine take_done (by kernel_rfl) ?_ _
    go_wp2
    have q0 := HB2.out.c3
    have q1 : w2.cell? ⟨qt, 4352, none⟩ = some (.slice av L cv) := by have h := HQ2.out; simp [World.cell?, h, ← HFL.out]
    have hs2 : w2.heap.size ≥ base := Nat.le_trans hb HT2.out.size
    refine region_begin3 (fun w' => w'.heap[w.heap.size]? = some (.cells (arr x) 51 (0, 0)) ∧ w'.cell? ⟨qb, 3, none⟩ = some (.pointer (some ⟨qt, 0, none⟩)) ∧ w'.cell? ⟨qt, 4352, none⟩ = some (.slice av L cv)) (fun j => j == 16) 17 rfl hmx (by intro _ _ d _ _ h; cases d <;> exact h) fun hQP => ?_
    have hS : w2.drew.heap[w.heap.size]? = some (.cells (arr x) 51 (0, 0)) ∧ w2.drew.cell? ⟨qb, 3, none⟩ = some (.pointer (some ⟨qt, 0, none⟩)) ∧ w2.drew.cell? ⟨qt, 4352, none⟩ = some (.slice av L cv) := ⟨HL2.out, q0, q1⟩
    refine take_first2 0 (some 33) rfl rfl (by kernel_rfl) (by kernel_rfl) (by kernel_rfl) (by kernel_rfl) hQP hS (.inl ⟨by rfl, fun w' hw' => by obtain ⟨e9, e0, e1⟩ := hw'; go_simp; try with_reducible rfl⟩) ?_
    refine take_first2 1 (some 34) rfl rfl (by kernel_rfl) (by kernel_rfl) (by kernel_rfl) (by kernel_rfl) hQP hS (.inl ⟨by rfl, fun w' hw' => by obtain ⟨e9, e0, e1⟩ := hw'; go_simp; try with_reducible rfl⟩) ?_
    refine take_first2 2 (some 35) rfl rfl (by kernel_rfl) (by kernel_rfl) (by kernel_rfl) (by kernel_rfl) hQP hS (.inl ⟨by rfl, fun w' hw' => by obtain ⟨e9, e0, e1⟩ := hw'; go_simp; try with_reducible rfl⟩) ?_
    refine take_first2 3 (some 36) rfl rfl (by kernel_rfl) (by kernel_rfl) (by kernel_rfl) (by kernel_rfl) hQP hS (.inl ⟨by rfl, fun w' hw' => by obtain ⟨e9, e0, e1⟩ := hw'; go_simp; try with_reducible rfl⟩) ?_
    refine take_first2 4 (some 37) rfl rfl (by kernel_rfl) (by kernel_rfl) (by kernel_rfl) (by kernel_rfl) hQP hS (.inl ⟨by rfl, fun w' hw' => by obtain ⟨e9, e0, e1⟩ := hw'; go_simp; try with_reducible rfl⟩) ?_
    refine take_first2 5 (some 38) rfl rfl (by kernel_rfl) (by kernel_rfl) (by kernel_rfl) (by kernel_rfl) hQP hS (.inl ⟨by rfl, fun w' hw' => by obtain ⟨e9, e0, e1⟩ := hw'; go_simp; try with_reducible rfl⟩) ?_
    refine take_first2 6 (some 39) rfl rfl (by kernel_rfl) (by kernel_rfl) (by kernel_rfl) (by kernel_rfl) hQP hS (.inl ⟨by rfl, fun w' hw' => by obtain ⟨e9, e0, e1⟩ := hw'; go_simp; try with_reducible rfl⟩) ?_
    refine take_first2 7 (some 40) rfl rfl (by kernel_rfl) (by kernel_rfl) (by kernel_rfl) (by kernel_rfl) hQP hS (.inl ⟨by rfl, fun w' hw' => by obtain ⟨e9, e0, e1⟩ := hw'; go_simp; try with_reducible rfl⟩) ?_
    refine take_first2 8 (some 41) rfl rfl (by kernel_rfl) (by kernel_rfl) (by kernel_rfl) (by kernel_rfl) hQP hS (.inl ⟨by rfl, fun w' hw' => by obtain ⟨e9, e0, e1⟩ := hw'; go_simp; try with_reducible rfl⟩) ?_
    refine take_first2 9 (some 42) rfl rfl (by kernel_rfl) (by kernel_rfl) (by kernel_rfl) (by kernel_rfl) hQP hS (.inl ⟨by rfl, fun w' hw' => by obtain ⟨e9, e0, e1⟩ := hw'; go_simp; try with_reducible rfl⟩) ?_
    refine take_first2 10 (some 43) rfl rfl (by kernel_rfl) (by kernel_rfl) (by kernel_rfl) (by kernel_rfl) hQP hS (.inl ⟨by rfl, fun w' hw' => by obtain ⟨e9, e0, e1⟩ := hw'; go_simp; try with_reducible rfl⟩) ?_
    have he3 : ∀ (aa : Act) v1 v2 v3 v4 v5 v6 v7 v8 v9 v10 v11, ((((((((((((aa.put (some 33) v1).put (some 34) v2).put (some 35) v3).put (some 36) v4).put (some 37) v5).put (some 38) v6).put (some 39) v7).put (some 40) v8).put (some 41) v9).put (some 42) v10).put (some 43) v11).eval (.tmp 3)) = aa.eval (.tmp 3) := by
      intros
      repeat (refine (eval_put_ne (by decide)).trans ?_)
      rfl
    refine take_row 11 44 (by kernel_rfl) rfl rfl rfl 51 (.tmp 3) rfl w.heap.size ((he3 _ _ _ _ _ _ _ _ _ _ _ _).trans rfl) _ _ (0, 0) _ HL2.out Try.underlying51 rfl (by rw [arr_size, hx]; exact size_block) (.inr hS) ?_
    have B3 : Below w2.heap.size w2 (w2.drew.alloc (.cells (arr x) 51)) := ((Below.refl _ _).drew).alloc (Nat.le_refl _) _
    have hnew : (w2.drew.alloc (.cells (arr x) 51)).heap[w2.heap.size]? = some (.cells (x.map (Value.int .u16)).toArray 51 (0, 0)) := World.alloc_heap_new w2.drew _
    have hs3 : base ≤ (w2.drew.alloc (.cells (arr x) 51)).heap.size := Nat.le_trans hs2 B3.size
    have q39a : (w2.drew.alloc (.cells (arr x) 51)).heap[w.heap.size]? = some (.cells (arr x) 51 (0, 0)) := (Turn.of_new B3 : Turn (fun _ => False) w2 _).heap HL2.out id
    have q30a : (w2.drew.alloc (.cells (arr x) 51)).cell? ⟨qb, 3, none⟩ = some (.pointer (some ⟨qt, 0, none⟩)) := (Turn.of_new B3 : Turn (fun _ => False) w2 _).cell q0 id
    have q31a : (w2.drew.alloc (.cells (arr x) 51)).cell? ⟨qt, 4352, none⟩ = some (.slice av L cv) := (Turn.of_new B3 : Turn (fun _ => False) w2 _).cell q1 id
    refine take_build1 12 45 (by kernel_rfl) rfl rfl rfl (.tmp 44) rfl x hx (eval_put_eq (by (repeat rw [size_put]); exact of_decide_eq_true rfl)) (.inr ⟨q39a, q30a, q31a⟩) ?_
    generalize (w2.drew.alloc (.cells (arr x) 51)) = w3 at *
    have T3 : Turn (fun _ => False) w2 w3 := Turn.of_new B3
    have q30 : w3.cell? ⟨qb, 3, none⟩ = some (.pointer (some ⟨qt, 0, none⟩)) := T3.cell q0 id
    have q31 : w3.cell? ⟨qt, 4352, none⟩ = some (.slice av L cv) := T3.cell q1 id
    have HO3 := Lib.hid (T3.kept HO2.out (fun _ _ => id))
    have HQ3 := Lib.hid (T3.heap HQ2.out id)
    have HT3 := Lib.hid (HT2.out.trans (Turn.of_new B3) : Turn (fun j => j = kb) w w3)
    have HK3 := Lib.hid (HK2.out.turn T3 id)
    have q39 := T3.heap HL2.out id
    clear hS B3 q0 q1 T3 HO2 HQ2 HT2 HK2 q39a q30a q31a
    have hS : w3.heap[w.heap.size]? = some (.cells (arr x) 51 (0, 0)) ∧ w3.cell? ⟨qb, 3, none⟩ = some (.pointer (some ⟨qt, 0, none⟩)) ∧ w3.cell? ⟨qt, 4352, none⟩ = some (.slice av L cv) := ⟨q39, q30, q31⟩
    refine take_append 13 46 (by kernel_rfl) rfl rfl rfl (.tmp 43) (.tmp 45) 44 rfl base 51 ib _ 256 512 Try.underlying44 hib hb0 hb1 hb2 (by show (Array.replicate 256 (Value.int .u16 0)).size = 256; rw [Array.size_replicate]) (by decide) (.slice av L cv) L (flat bs) ((eval_put_ne (by decide)).trans ((eval_put_ne (by decide)).trans (eval_put_eq (by (repeat rw [size_put]); exact of_decide_eq_true rfl)))) HO3.out ⟨w2.heap.size, 0, none⟩ 1 1 (x.map (Value.int .u16)) (eval_put_eq (by (repeat rw [size_put]); exact of_decide_eq_true rfl)) (by rw [List.length_map, hx]) (row_cells hnew) (one16 x) (by unfold maxLen; omega) (by omega) hs3 ?_
    intro v9 w9 hown9 hgrow9
    obtain ⟨a9, c9, rfl⟩ := Sp.own_sl hown9
    have TG : Turn (fun j => base ≤ j) w3 w9 := Turn.of_grown hgrow9 (fun g e => (HO3.out.lt g e).1)
    have q90 : w9.cell? ⟨qb, 3, none⟩ = some (.pointer (some ⟨qt, 0, none⟩)) := TG.cell q30 (fun e => by simp only at e; omega)
    have q91 : w9.cell? ⟨qt, 4352, none⟩ = some (.slice av L cv) := TG.cell q31 (fun e => by simp only at e; omega)
    have hq9 := TG.heap HQ3.out (fun e => by omega)
    have f9 : w9.frozen? ⟨qt, 4352, none⟩ = false := by simp [World.frozen?, hq9]
    have HQ9 := Lib.hid hq9
    have HO9 := Lib.hid hown9
    have HK9 := Lib.hid (HK3.out.turn TG (fun e => by omega))
    have HT9 := Lib.hid ((HT3.out.mono (fun _ _ h => .inl h) : Turn (fun j => j = kb ∨ base ≤ j) w w3).trans (TG.mono (fun _ _ h => .inr h)))
    have q99 : w9.heap[w.heap.size]? = some (.cells (arr x) 51 (0, 0)) := by
      exact (Turn.of_grown hgrow9 (T := fun j => (Value.slice av L cv).ownBlock = some j) (fun g e => e)).heap q39 (fun e => by have := HG0.out _ e; omega)
    have hS' : w9.heap[w.heap.size]? = some (.cells (arr x) 51 (0, 0)) ∧ w9.cell? ⟨qb, 3, none⟩ = some (.pointer (some ⟨qt, 0, none⟩)) ∧ w9.cell? ⟨qt, 4352, none⟩ = some (.slice av L cv) := ⟨q99, q90, q91⟩
    refine ⟨.inr hS', ?_⟩
    clear hS hnew hq9 TG hgrow9 hown9 q30 q31 q39 HO3 HQ3 HT3 HK3
    have hS := hS'
    clear hS'
    refine take_g (i := 14) (by kernel_rfl) rfl rfl fun K hK => ?_
    go_wp2
    refine hK _ _ (.inr hS) ?_
    clear hK
    refine take_g (i := 15) (by kernel_rfl) rfl rfl fun K hK => ?_
    go_wp2
    refine hK _ _ (.inr hS) ?_
    clear hK
    refine take_g (i := 16) (by kernel_rfl) rfl rfl fun K hK => ?_
    go_wp2
    refine hK _ _ (.inl rfl) ?_
    clear hK hS q90 q91 q99 f9
    refine take_done (by kernel_rfl) ?_ _
    go_wp2
    go_ret
    rw [HN.out]
    have TS : Turn (fun j => j = qt) w9 (w9.setCell ⟨qt, 4352, none⟩ (.slice a9 (L + 1) c9)) := Turn.setCell _ _ rfl
    have hset := set_last HQ9.out (.slice a9 (L + 1) c9)
    rw [HFL.out] at hset
    refine ⟨rfl, HK9.out.turn TS htk.symm, ⟨fc, _, hset, HFL.out, HF.out, ?_⟩, (HT9.out.mono (fun _ _ h => h.elim .inl (fun h => .inr (.inr h))) : Turn (fun j => j = kb ∨ j = qt ∨ base ≤ j) w w9).trans (TS.mono (fun _ _ h => .inr (.inl h)))⟩
    rw [flat_app, List.length_append, HBL.out]
    have e : flat [x] = x.map (Value.int .u16) := by simp [flat]
    rw [e]
    exact TS.kept HO9.out (fun g hg e => by have := (HO9.out.lt g hg).1; omega)
end Go.Proofs.Ytpeniadomjijcaa.Pack

/-
  Package cluster at nil; works of layer 20.
-/
import Derived.Test.YtnmnpackjalbbaaCluEq
import Derived.Test.YtnmnpackjalbbaaTake
namespace Go.Proofs.Ytnmnpackjalbbaa.Clu
set_option linter.unusedSimpArgs false
set_option linter.unusedVariables false
open Go Go.RowKit Mem Seg Turn Gra

set_option maxHeartbeats 1000000 in
theorem len_nil (w : World) : Calls Try.prog 23 #[.pointer none] w fun e w' => e = .returned (.int .i64 0) ∧ w = w' := by
  go_enter Try.func23, Try.ntmps23
  go_wp2
  go_ret
  exact ⟨rfl, rfl⟩

set_option maxHeartbeats 1000000 in
theorem full_nil (w : World) : Calls Try.prog 24 #[.pointer none] w fun e w' => e = .returned (.bool false) ∧ w = w' := by
  go_enter Try.func24, Try.ntmps24
  go_wp2_with fail
  refine (len_nil w).mono ?_
  rintro e w1 ⟨rfl, rfl⟩
  go_wp2
  go_ret
  exact ⟨rfl, rfl⟩

set_option maxHeartbeats 1000000 in
theorem add_nil (r : Int) (w : World) : Calls Try.prog 22 #[.pointer none, .int .i32 r] w fun e w' => e = .returned (.bool false) ∧ w = w' := by
  go_enter Try.func22, Try.ntmps22
  go_wp2
  go_ret
  exact ⟨rfl, rfl⟩

set_option maxHeartbeats 1000000 in
theorem text_nil (w : World) : Calls Try.prog 26 #[.pointer none] w fun e w' => e = .returned (.slice none 0 0) ∧ w = w' := by
  go_enter Try.func26, Try.ntmps26
  go_wp2
  go_ret
  exact ⟨rfl, rfl⟩

theorem yields_load_clu {ops : Array Oper} {S : World → Prop} {o : Oper} {a : Act} (x : Operand) (ho : o.op = .load 35 x) (g : Nat) (l : List Int) (hx : a.eval x = .pointer (some ⟨g, 0, none⟩))
    (hw : Region.wanted o (yielded ops a.tmps) = true) (hS : ∀ w, S w → CAt w g l) : YieldsIf Try.prog ops S o (.agg (cv l).toArray) a := by
  refine .inl ⟨hw, fun w h => ?_⟩
  obtain ⟨hl, T, hT⟩ := hS w h
  unfold execOp
  simp only [ho, hx, Instr.loadAt, Instr.sureAddr, Sem.run_bind, Sem.run_pure, Result.andThen_ok, run_loadVar_row w g T _ (cv l).toArray (0, 0) _ hT Try.underlying35 rfl (size_clu hl)]

/-- a literal row of runes -/
theorem ints_lit (w : World) (xs : List Int) (n : Nat) (hx : xs.length = n) (cs : Array Value) (hcs : cs = (xs.map (Value.int .i32)).toArray) (T : TypeId) :
    Same.Ints .i32 (w.alloc (.cells cs T)) (some ⟨w.heap.size, 0, none⟩) n xs := by
  subst hcs
  refine ⟨hx, .inr ⟨w.heap.size, 0, rfl, by simp, fun i x hi => ?_⟩⟩
  have := heap_alloc_new w (.cells (xs.map (Value.int .i32)).toArray T)
  unfold World.cell?
  rw [this]
  simp [hi]

theorem cat_of (w : World) (l : List Int) (hl : l.length ≤ 16) (T : TypeId) : CAt (w.alloc (.cells (cv l).toArray T)) w.heap.size l := ⟨hl, T, by show (w.heap.push _)[w.heap.size]? = _; simp⟩

set_option maxRecDepth 100000 in
set_option maxHeartbeats 8000000 in
theorem works_any (w : World) :
    Calls Try.prog 21 #[] w fun e w' => e = .returned (.bool true) ∧ Below w.heap.size w w' := by
  go_enter Try.func21, Try.ntmps21
  go_wp2_with fail
  have I1 := ints_lit w [5, 6] 2 rfl #[.int .i32 5, .int .i32 6] rfl 21
  have B1 : Below w.heap.size w (w.alloc (.cells #[.int .i32 5, .int .i32 6] 21)) := (Below.refl _ _).alloc (Nat.le_refl _) _
  generalize (w.alloc (.cells #[.int .i32 5, .int .i32 6] 21)) = w1 at *
  refine (of_any _ 2 2 [5, 6] w1 I1 (by omega)).mono ?_
  rintro e w2 ⟨rfl, hb2⟩
  have B2 := Lib.hid (B1.trans (hb2.mono B1.size))
  have hq2 : w.heap.size ≤ w2.heap.size := B2.out.size
  clear I1 B1 hb2
  have e2 : (cv (List.take 16 [5, 6])).toArray = (cv [5, 6]).toArray := rfl
  rw [e2]
  clear e2
  go_wp2_with (refine wpList_store_clu rfl _ _ rfl rfl _ _ [5, 6] (by decide) rfl rfl rfl ?_)
  have C2 := cat_of w2 [5, 6] (by decide) 35
  have B2 := B2.out.alloc B2.out.size (.cells (cv [5, 6]).toArray 35)
  have hq : w.heap.size ≤ w2.heap.size := by assumption
  generalize w2.heap.size = q at *
  generalize (w2.alloc (.cells (cv [5, 6]).toArray 35)) = w3 at *
  have hmx : Try.prog.follows .mixedOrders = true := by kernel_rfl
  refine region_begin (fun _ => True) (fun _ => true) hmx ?_
  have C3 : CAt w3.drew q [5, 6] := C2
  have B3 : Below w.heap.size w w3.drew := B2.drew
  clear C2 B2
  generalize w3.drew = w4 at *
  refine take_g (i := 0) (by kernel_rfl) rfl rfl fun K hK => ?_
  go_wp2_with fail
  refine (len_any q [5, 6] _ C3).mono ?_
  rintro e w5 ⟨rfl, rfl⟩
  refine hK _ _ (.inl (by simp)) ?_
  clear hK
  refine take_g (i := 1) (by kernel_rfl) rfl rfl fun K hK => ?_
  go_wp2
  refine hK _ _ (.inl (by simp)) ?_
  clear hK
  refine take_g (i := 2) (by kernel_rfl) rfl rfl fun K hK => ?_
  go_wp2
  refine hK _ _ (.inl (by simp)) ?_
  clear hK
  refine take_g (i := 3) (by kernel_rfl) rfl rfl fun K hK => ?_
  go_wp2_with fail
  refine (add_any q [5, 6] 7 _ C3).mono ?_
  rintro e w5 ⟨rfl, C5, hb5⟩
  have B5 := Lib.hid (B3.trans (hb5.below hq B3.size))
  have C5 : Hid (CAt w5 q [5, 6, 7]) := C5
  clear C3 B3 hb5
  refine hK _ _ (.inl (by simp)) ?_
  clear hK
  refine take_g (i := 4) (by kernel_rfl) rfl rfl fun K hK => ?_
  go_wp2
  refine hK _ _ (.inl (by simp)) ?_
  clear hK
  refine take_g (i := 5) (by kernel_rfl) rfl rfl fun K hK => ?_
  go_wp2
  refine hK _ _ (.inl (by simp)) ?_
  clear hK
  refine take_2 (i := 6) (j := 7) (by kernel_rfl) rfl rfl rfl rfl (fun K hK => ?_) (fun K hK => ?_)
  case' refine_1 =>
    go_wp2_with fail
    refine (text_any q [5, 6, 7] _ C5.out).mono ?_
    rintro e w6 ⟨v, rfl, ho, hb6⟩
    obtain ⟨av, cv', rfl⟩ := own_slice ho
    have HV : Same.Ints .i32 w6 av 3 [5, 6, 7] := ints_of_own ho
    have C6 := C5.out.below hb6 C5.out.lt
    have B6 := B5.out.trans (hb6.mono B5.out.size)
    clear C5 B5 ho hb6
    refine hK _ _ (.inl (by simp)) ?_
    clear hK
    refine take_g (i := 7) (by kernel_rfl) rfl rfl fun K hK => ?_
    go_wp2
    have HL := ints_lit w6 [5, 6, 7] 3 rfl #[.int .i32 5, .int .i32 6, .int .i32 7] rfl 21
    have hbl := (Below.refl w6.heap.size w6).alloc (Nat.le_refl _) (.cells #[.int .i32 5, .int .i32 6, .int .i32 7] 21)
    have HV := HV.below hbl
    have C6 := C6.below hbl C6.lt
    have B6 := B6.alloc B6.size (.cells #[.int .i32 5, .int .i32 6, .int .i32 7] 21)
    generalize (w6.alloc (.cells #[.int .i32 5, .int .i32 6, .int .i32 7] 21)) = w7 at *
    generalize w6.heap.size = bl at *
    refine hK _ _ (.inl (by simp)) ?_
    clear hK hbl
  case' refine_2 =>
    go_wp2
    have HL := ints_lit w5 [5, 6, 7] 3 rfl #[.int .i32 5, .int .i32 6, .int .i32 7] rfl 21
    have hbl := (Below.refl w5.heap.size w5).alloc (Nat.le_refl _) (.cells #[.int .i32 5, .int .i32 6, .int .i32 7] 21)
    have C6 := C5.out.below hbl C5.out.lt
    have B6 := B5.out.alloc B5.out.size (.cells #[.int .i32 5, .int .i32 6, .int .i32 7] 21)
    clear C5 B5
    generalize (w5.alloc (.cells #[.int .i32 5, .int .i32 6, .int .i32 7] 21)) = w6 at *
    generalize w5.heap.size = bl at *
    refine hK _ _ (.inl (by simp)) ?_
    clear hK hbl
    refine take_g (i := 6) (by kernel_rfl) rfl rfl fun K hK => ?_
    have C6 := Lib.hid C6
    have B6 := Lib.hid B6
    have HL := Lib.hid HL
    go_wp2_with fail
    refine (text_any q [5, 6, 7] _ C6.out).mono ?_
    rintro e w7 ⟨v, rfl, ho, hb6⟩
    obtain ⟨av, cv', rfl⟩ := own_slice ho
    have HV : Same.Ints .i32 w7 av 3 [5, 6, 7] := ints_of_own ho
    have HL := HL.out.below hb6
    have C6 := C6.out.below hb6 C6.out.lt
    have B6 := B6.out.trans (hb6.mono B6.out.size)
    clear ho hb6
    refine hK _ _ (.inl (by simp)) ?_
    clear hK
  all_goals
    have C7 := Lib.hid C6
    have B7 := Lib.hid B6
    have HS := Lib.hid (Same.same_any av 3 cv' [5, 6, 7] (some ⟨bl, 0, none⟩) 3 3 [5, 6, 7] w7 HV HL (by omega))
    clear HV HL C6 B6
    refine take_g (i := 8) (by kernel_rfl) rfl rfl fun K hK => ?_
    go_wp2_with fail
    refine HS.out.mono ?_
    rintro e w8 ⟨rfl, hb8⟩
    have C8 := C7.out.below hb8 C7.out.lt
    have B8 := B7.out.trans (hb8.mono B7.out.size)
    rw [show decide True = true from rfl]
    clear HS C7 B7 hb8
    refine hK _ _ (.inl (by simp)) ?_
    clear hK
    refine take_g (i := 9) (by kernel_rfl) rfl rfl fun K hK => ?_
    go_wp2
    refine hK _ _ (.inl (by simp)) ?_
    clear hK
    refine take_g (i := 10) (by kernel_rfl) rfl rfl fun K hK => ?_
    go_wp2
    refine hK _ _ (.inl (by simp)) ?_
    clear hK
    refine take_re (S' := fun w' => CAt w' q [5, 6, 7]) (L' := fun j => j == 14) (fun _ => rfl) ?_
    refine take_first (i := 11) rfl (by kernel_rfl) (by kernel_rfl) (by kernel_rfl) (by kernel_rfl) (fun _ _ _ h => h) C8 (yields_load_clu _ rfl q [5, 6, 7] rfl rfl (fun _ h => h)) ?_
    refine take_g (i := 12) (by kernel_rfl) rfl rfl fun K hK => ?_
    have C8 := Lib.hid C8
    have B8 := Lib.hid B8
    go_wp2
    have HL := ints_lit w8 [5, 6] 2 rfl #[.int .i32 5, .int .i32 6] rfl 21
    have hbl := (Below.refl w8.heap.size w8).alloc (Nat.le_refl _) (.cells #[.int .i32 5, .int .i32 6] 21)
    have C9 := C8.out.below hbl C8.out.lt
    have B9 := B8.out.alloc B8.out.size (.cells #[.int .i32 5, .int .i32 6] 21)
    clear C8 B8 hbl
    generalize (w8.alloc (.cells #[.int .i32 5, .int .i32 6] 21)) = w9 at *
    generalize w8.heap.size = bl2 at *
    refine hK _ _ (.inr C9) ?_
    clear hK
    have C9 := Lib.hid C9
    have B9 := Lib.hid B9
    have HO := Lib.hid (of_any (some ⟨bl2, 0, none⟩) 2 2 [5, 6] w9 HL (by omega))
    clear HL
    refine take_g (i := 13) (by kernel_rfl) rfl rfl fun K hK => ?_
    go_wp2_with fail
    refine HO.out.mono ?_
    rintro e w10 ⟨rfl, hb10⟩
    have C10 := C9.out.below hb10 C9.out.lt
    have B10 := Lib.hid (B9.out.trans (hb10.mono B9.out.size))
    rw [show List.take 16 [(5 : Int), 6] = [5, 6] from rfl]
    refine hK _ _ (.inr C10) ?_
    clear hK HO C9 B9 hb10
    have hne : ∀ w, (binOp .neq 35 (.agg (cv [5, 6, 7]).toArray) (.agg (cv [5, 6]).toArray)).run Try.prog w = .ok (.bool true) w := fun w => by rw [neq_clu w (by decide) (by decide)]; rfl
    have hgd : ∀ op w x y, (eqGuard op 35 x y (.agg (cv [5, 6, 7]).toArray) (.agg (cv [5, 6]).toArray)).run Try.prog w = .ok () w := fun op w x y => guard_clu w op x y _ _
    generalize (cv [5, 6, 7]).toArray = X at *
    generalize (cv [5, 6]).toArray = Y at *
    refine take_g (i := 14) (by kernel_rfl) rfl rfl fun K hK => ?_
    go_wp2
    refine hK _ _ (.inl (by simp)) ?_
    clear hK
    refine take_g (i := 15) (by kernel_rfl) rfl rfl fun K hK => ?_
    go_wp2
    refine hK _ _ (.inr C10) ?_
    clear hK
    refine take_g (i := 16) (by kernel_rfl) rfl rfl fun K hK => ?_
    go_wp2
    refine hK _ _ (.inr C10) ?_
    clear hK
    refine take_done (by kernel_rfl) ?_ _
    go_wp2
    go_ret
    exact ⟨rfl, B10.out⟩

end Go.Proofs.Ytnmnpackjalbbaa.Clu

/-
  The walk of the statement ClusterKeeps.
-/
import Derived.Test.YtnmnpackjalbbaaCluV
namespace Go.Proofs.Ytnmnpackjalbbaa.Clu
set_option linter.unusedSimpArgs false
set_option linter.unusedVariables false
open Go Go.RowKit Mem Seg Turn Gra

theorem wpList_load_clu_g {ops : Array Oper} {rest : List Oper} {o : Oper} {a : Act} {w : World} {Q : Exit → Act → World → Prop} (hw : Region.wanted o (yielded ops a.tmps) = true) (x : Operand) (ho : o.op = .load 35 x)
    (g : Nat) (l : List Int) (hc : CAt w g l) (hx : a.eval x = .pointer (some ⟨g, 0, none⟩)) (h : wpList Try.prog ops Q rest (a.put o.dst (.agg (cv l).toArray)) w) : wpList Try.prog ops Q (o :: rest) a w :=
  wpList_step fun K hK => by rw [if_pos hw]; exact wp_load_clu x ho g l hc hx (hK _ _ h)

theorem take_len (xs : List Int) (k : Nat) (h : k ≤ xs.length) : ((xs.take k).take 16).length = min k 16 := by
  rw [List.length_take, List.length_take]; omega
theorem take_16 (xs : List Int) (k : Nat) (h : 16 ≤ k) : (xs.take k).take 16 = xs.take 16 := by
  rw [List.take_take, Nat.min_eq_left h]

set_option maxRecDepth 100000 in
set_option maxHeartbeats 16000000 in
theorem keeps_any (w : World) (a : Option Addr) (n c : Nat) (xs : List Int) (h : Runes w a n c xs) :
    Calls Try.prog 5 #[.slice a n c] w fun e w' => e = .returned (.bool true) ∧ Below w.heap.size w w' := by
  have hm : n ≤ 9223372036854775807 := Nat.le_trans h.le h.max
  have hcn := h.le
  have HL := Lib.hid h.ints.1
  have HH := Lib.hid h
  clear h
  by_cases g1 : 1000 < n
  · have d1 : decide (1000 < (n : Int)) = true := by simp; omega
    go_enter Try.func5, Try.ntmps5
    go_wp2_with fail
    refine (works_any _).mono ?_; rintro e w1 ⟨rfl, hb1⟩
    go_wp2_with fail
    refine (works_any _).mono ?_; rintro e w2 ⟨rfl, hb2⟩
    have hb2 := hb1.trans (hb2.mono hb1.size)
    go_wp2
    go_ret
    exact ⟨rfl, hb2⟩
  have d1 : decide (1000 < (n : Int)) = false := by simp; omega
  go_enter Try.func5, Try.ntmps5
  go_wp2_with fail
  refine (works_any _).mono ?_; rintro e w1 ⟨rfl, hb1⟩
  have B1 := hb1.alloc hb1.size (.cells #[.int .i32 0, .int .i32 0, .int .i32 0, .int .i32 0, .int .i32 0, .int .i32 0, .int .i32 0, .int .i32 0, .int .i32 0, .int .i32 0, .int .i32 0, .int .i32 0, .int .i32 0, .int .i32 0, .int .i32 0, .int .i32 0, .int .i64 0] 35)
  have C1 := cat_zero w1 35
  have hs1 := hb1.size
  clear hb1
  go_wp2
  generalize (w1.alloc (.cells #[.int .i32 0, .int .i32 0, .int .i32 0, .int .i32 0, .int .i32 0, .int .i32 0, .int .i32 0, .int .i32 0, .int .i32 0, .int .i32 0, .int .i32 0, .int .i32 0, .int .i32 0, .int .i32 0, .int .i32 0, .int .i32 0, .int .i64 0] 35)) = w2 at *
  generalize w1.heap.size = q at *
  have C1 := Lib.hid C1
  have B1 := Lib.hid B1
  go_loopw [4] (fun i wr => ∃ k : Nat, k ≤ n ∧ i = .int .i64 k ∧ Hid (CAt wr q ((xs.take k).take 16) ∧ Below w.heap.size w wr)) (fun i _ => n - (intOf i).toNat)
  case atStart => exact ⟨0, Nat.zero_le _, rfl, C1.out, B1.out⟩
  case round =>
    obtain ⟨k, hk, rfl, H⟩ := hrel
    have hA : ((xs.take k).take 16).length ≤ 16 := H.out.1.1
    by_cases hlt : k < n
    · obtain ⟨x, hx⟩ : ∃ x, xs[k]? = Option.some x := ⟨_, List.getElem?_eq_getElem (by rw [HL.out]; exact hlt)⟩
      obtain ⟨hl, h0 | ⟨b, off, rfl, hb, hc⟩⟩ := HH.out.ints
      · omega
      have CA := H.out.1
      have HAX := Lib.hid (addL_take xs k hx)
      have HLA := take_len xs k (by omega)
      have HLB := take_len xs (k + 1) (by omega)
      have HSA := Lib.hid (take_16 xs k)
      have HSB := Lib.hid (take_16 xs (k + 1))
      have hlt' : (k : Int) < n := by omega
      go_wp2_with (first | (refine wpList_load_clu rfl _ rfl q ((xs.take k).take 16) CA rfl ?_) | (refine wpList_store_clu2 rfl _ _ rfl rfl wr.heap.size [] ((xs.take k).take 16) rfl rfl (cat_zero wr 35) hA ?_; intro w3 C3 hb3; have hba : Below wr.heap.size wr (wr.alloc (.cells #[.int .i32 0, .int .i32 0, .int .i32 0, .int .i32 0, .int .i32 0, .int .i32 0, .int .i32 0, .int .i32 0, .int .i32 0, .int .i32 0, .int .i32 0, .int .i32 0, .int .i32 0, .int .i32 0, .int .i32 0, .int .i32 0, .int .i64 0] 35)) := (Below.refl _ _).alloc (Nat.le_refl _) _; have hltq := CA.lt; have hsr := H.out.2.size; have CB := (CA.below hba hltq).but hb3 (by omega); have B3 := H.out.2.trans ((hba.mono hsr).trans (hb3.below hsr (by have h2 := hba.size; omega))); have hcx := (B3.cell (p := ⟨b, off + k, none⟩) hb).trans (hc k x hx); have hneq : q ≠ wr.heap.size := (by omega); clear hba hb3 H CA hc hltq hsr; generalize wr.heap.size = qw at *; have CB := Lib.hid CB; have C3 := Lib.hid C3; have B3 := Lib.hid B3))
      refine (add_any q ((xs.take k).take 16) x w3 CB.out).mono ?_
      rintro e w4 ⟨rfl, CC, hb4⟩
      rw [HAX.out] at CC
      have C3 := Lib.hid (C3.out.but hb4 (by omega))
      have B4 := Lib.hid (B3.out.trans (hb4.below hs1 B3.out.size))
      have CC := Lib.hid CC
      have HLEN := Lib.hid (len_any q _ w4 CC.out)
      have HFULL := Lib.hid (full_any q _ w4 CC.out)
      clear hb4 HAX CB B3
      rw [HLA]
      rw [HLB] at HLEN HFULL
      by_cases h16 : k < 16
      · have d2 : decide (min k 16 < 16) = true := by simp; omega
        have d3 : decide ((k : Int) < 16) = true := by simp; omega
        have d4 : decide ((16 : Int) ≤ (k : Int)) = false := by simp; omega
        have d5 : (min (k + 1) 16 : Nat) = k + 1 := by omega
        obtain ⟨bf, e1, e2⟩ : ∃ bf : Bool, ((k : Int) + 1 == 16) = bf ∧ decide ((15 : Int) ≤ (k : Int)) = bf := by
          by_cases h15 : k = 15
          · subst h15; exact ⟨true, rfl, rfl⟩
          · exact ⟨false, by simp; omega, by simp; omega⟩
        have e3 : (bf != bf) = false := by simp
        have d7 : ¬ ((16 : Int) < (k : Int) + 1) := by omega
        have d8 : ((k : Int) + 1 != (k : Int) + 1) = false := by simp
        have x1 : IntKind.i64.wrap ((k : Int) + 1) = (k : Int) + 1 := IntWalk.i64_in _ (by omega)
        rw [d5] at HLEN HFULL
        rw [show ((k + 1 : Nat) : Int) = (k : Int) + 1 from by omega] at HLEN HFULL
        rw [e1] at HFULL
        rw [d2]
        clear HLA HLB e1
        go_wp2_with fail
        refine HLEN.out.mono ?_
        rintro e w5 ⟨rfl, rfl⟩
        go_wp2_with fail
        refine HFULL.out.mono ?_
        rintro e w5 ⟨rfl, rfl⟩
        go_wp2
        go_roundw
        case rel => exact ⟨k + 1, by omega, by go_num, CC.out, B4.out⟩
        case measure => simp [intOf]; omega
      · have d2 : decide (min k 16 < 16) = false := by simp; omega
        have d3 : decide ((k : Int) < 16) = false := by simp; omega
        have d4 : decide ((16 : Int) ≤ (k : Int)) = true := by simp; omega
        have d5 : (min (k + 1) 16 : Nat) = 16 := by omega
        have e2 : decide ((15 : Int) ≤ (k : Int)) = true := by simp; omega
        have d7 : (16 : Int) < (k : Int) + 1 := by omega
        have x1 : IntKind.i64.wrap ((k : Int) + 1) = (k : Int) + 1 := IntWalk.i64_in _ (by omega)
        rw [d5] at HLEN HFULL
        rw [show (((16 : Nat) : Int) == 16) = true from rfl] at HFULL
        have CC := Lib.hid CC.out
        rw [HSB.out (by omega)] at CC
        rw [HSA.out (by omega)] at C3
        rw [d2]
        have hA' : (xs.take 16).length ≤ 16 := by simp; omega
        have hne : ∀ w, (binOp .neq 35 (.agg (cv (xs.take 16)).toArray) (.agg (cv (xs.take 16)).toArray)).run Try.prog w = .ok (.bool false) w := fun w => by rw [neq_clu w hA' hA']; simp
        have hgd : ∀ op w x y, (eqGuard op 35 x y (.agg (cv (xs.take 16)).toArray) (.agg (cv (xs.take 16)).toArray)).run Try.prog w = .ok () w := fun op w x y => guard_clu w op x y _ _
        have HX : ∃ X, X = (cv (xs.take 16)).toArray := ⟨_, rfl⟩
        obtain ⟨X, hX⟩ := HX
        rw [← hX] at hne hgd
        have HX := Lib.hid hX
        clear HLA HLB hX
        go_wp2_with (first | (refine wpList_load_clu_g rfl _ rfl q (xs.take 16) CC.out rfl ?_; rw [← HX.out]) | (refine wpList_load_clu_g rfl _ rfl qw (xs.take 16) C3.out rfl ?_; rw [← HX.out]))
        refine HLEN.out.mono ?_
        rintro e w5 ⟨rfl, rfl⟩
        go_wp2_with fail
        refine HFULL.out.mono ?_
        rintro e w5 ⟨rfl, rfl⟩
        go_wp2
        go_roundw
        case rel => exact ⟨k + 1, by omega, by go_num, by rw [HSB.out (by omega)]; exact CC.out, B4.out⟩
        case measure => simp [intOf]; omega
    · obtain rfl : k = n := by omega
      have CA := H.out.1
      have B2 := Lib.hid H.out.2
      have hx16 : (xs.take k).take 16 = xs.take 16 := by rw [← HL.out, List.take_length]
      rw [hx16] at CA hA
      obtain ⟨m, hme⟩ : ∃ m : Nat, m = min k 16 := ⟨_, rfl⟩
      have hmin1 : (if (16 : Int) < (k : Int) then (16 : Int) else (k : Int)) = (m : Int) := by split <;> omega
      have hlm : (xs.take 16).length = m := by rw [List.length_take, HL.out, hme]; omega
      have km : (m : Int) ≤ (c : Int) := by omega
      have km' : m ≤ c := by omega
      have km16 : m ≤ 16 := by omega
      have HI := Lib.hid (show ∀ W, Below w.heap.size w W → Same.Ints .i32 W a m (xs.take 16) from fun W hW => by
        have := runes_take16 (HH.out.below hW) (Nat.min_le_left k 16)
        rw [hme]
        have e : xs.take (min k 16) = xs.take 16 := by rw [← HL.out, List.take_eq_take_min (i := 16), Nat.min_comm]
        rw [e] at this
        exact this.ints)
      have HOF := Lib.hid (show ∀ W, Below w.heap.size w W → Calls Try.prog 25 #[.slice a k c] W fun e w' => e = .returned (.agg (cv (xs.take 16)).toArray) ∧ Below W.heap.size W w' from fun W hW => of_any a k c xs W (HH.out.below hW).ints hm)
      have hne : ∀ w, (binOp .neq 35 (.agg (cv (xs.take 16)).toArray) (.agg (cv (xs.take 16)).toArray)).run Try.prog w = .ok (.bool false) w := fun w => by rw [neq_clu w hA hA]; simp
      have hgd : ∀ op w x y, (eqGuard op 35 x y (.agg (cv (xs.take 16)).toArray) (.agg (cv (xs.take 16)).toArray)).run Try.prog w = .ok () w := fun op w x y => guard_clu w op x y _ _
      obtain ⟨X, hX⟩ : ∃ X, X = (cv (xs.take 16)).toArray := ⟨_, rfl⟩
      rw [← hX] at hne hgd
      have HX := Lib.hid hX
      clear hX hme hx16 H hlt hk
      generalize xs.take 16 = A at *
      have C0 := Lib.hid CA
      clear CA
      go_wp2_with fail
      refine (HOF.out wr B2.out).mono ?_
      rintro e w3 ⟨rfl, hb3⟩
      have C0 := C0.out.below hb3 C0.out.lt
      have B3 := B2.out.trans (hb3.mono B2.out.size)
      clear hb3
      go_wp2_with (refine wpList_store_clu rfl _ _ rfl rfl _ _ A hA rfl rfl rfl ?_)
      have C2 := cat_of w3 A hA 35
      have hba := (Below.refl w3.heap.size w3).alloc (Nat.le_refl _) (.cells (cv A).toArray 35)
      have C0 := Lib.hid (C0.below hba C0.lt)
      have B4 := Lib.hid (B3.alloc B3.size (.cells (cv A).toArray 35))
      have hq2 : w.heap.size ≤ w3.heap.size := B3.size
      clear hba B3 B2
      generalize (w3.alloc (.cells (cv A).toArray 35)) = w4 at *
      generalize w3.heap.size = q2 at *
      have hlt2 := C2.lt
      have C2 := Lib.hid C2
      refine (text_any q2 A w4 C2.out).mono ?_
      rintro e w5 ⟨v, rfl, ho, hb5⟩
      rw [hlm] at ho
      obtain ⟨av, cv', rfl⟩ := own_slice ho
      have C0 := Lib.hid (C0.out.below hb5 C0.out.lt)
      have C2 := Lib.hid (C2.out.below hb5 C2.out.lt)
      have B5 := Lib.hid (B4.out.trans (hb5.mono B4.out.size))
      have HS := Lib.hid (Same.same_any av m cv' A a m c A w5 (ints_of_own ho) (HI.out w5 B5.out) (by omega))
      have HG : Hid (∀ g, av = some ⟨g, 0, none⟩ → q2 < g ∧ ∃ cur T, w5.heap[g]? = some (.cells cur T (0, 0)) ∧ m ≤ cur.size) := by
        refine Lib.hid fun g hg => ?_
        subst hg
        rcases ho.2 with ⟨h1, _⟩ | ⟨g', cap, cur, h1, h2, h3, h4, h5, h6, h7⟩
        · simp at h1
        · simp only [Value.slice.injEq, Option.some.injEq, Addr.mk.injEq, and_true, true_and] at h1
          obtain ⟨rfl, rfl⟩ := h1
          exact ⟨by omega, cur, _, h3, by omega⟩
      have HN : Hid (0 < m → ∃ g, av = some ⟨g, 0, none⟩) := by
        refine Lib.hid fun h0 => ?_
        rcases ho.2 with ⟨_, h1⟩ | ⟨g', cap, cur, h1, _⟩
        · omega
        · simp only [Value.slice.injEq] at h1
          exact ⟨g', h1.1⟩
      clear hb5 ho B4
      go_wp2_with (first | (refine wpList_load_clu rfl _ rfl q2 A C2.out rfl ?_; rw [← HX.out]) | (refine wpList_load_clu rfl _ rfl q A C0.out rfl ?_; rw [← HX.out]))
      refine HS.out.mono ?_
      rintro e w6 ⟨rfl, hb6⟩
      have C2 := Lib.hid (C2.out.below hb6 C2.out.lt)
      have B6 := Lib.hid (B5.out.trans (hb6.mono B5.out.size))
      have HG := Lib.hid (fun g hg => by
        obtain ⟨h1, cur, T, h2, h3⟩ := HG.out g hg
        exact (⟨h1, cur, T, (hb6.block g (Array.getElem?_eq_some_iff.1 h2).1).trans h2, h3⟩ : q2 < g ∧ ∃ cur T, w6.heap[g]? = some (.cells cur T (0, 0)) ∧ m ≤ cur.size))
      rw [show decide True = true from rfl]
      clear hb6 C0 B5 HS hne hgd HX
      go_wp2
      go_loopw [9] (fun i wr => ∃ k : Nat, k ≤ m ∧ i = .int .i64 k ∧ Hid ((∀ g, av = some ⟨g, 0, none⟩ → q2 < g ∧ ∃ cur T, wr.heap[g]? = some (.cells cur T (0, 0)) ∧ m ≤ cur.size) ∧ CAt wr q2 A ∧ Below w.heap.size w wr)) (fun i _ => m - (intOf i).toNat)
      case atStart => exact ⟨0, Nat.zero_le _, rfl, HG.out, C2.out, B6.out⟩
      case round =>
        obtain ⟨p, hp, rfl, H⟩ := hrel
        by_cases hpm : p < m
        · obtain ⟨g, rfl⟩ := HN.out (by omega)
          obtain ⟨hgq, cur, T, hbl, hcs⟩ := H.out.1 g rfl
          have hpm' : (p : Int) < m := by omega
          have hpc : p < cur.size := by omega
          have pc : wr.cell? ⟨g, p, none⟩ = some cur[p] := by simp [World.cell?, hbl]
          have pf : wr.frozen? ⟨g, p, none⟩ = false := by simp [World.frozen?, hbl]
          have R : Hid ((∀ g', some (⟨g, 0, none⟩ : Addr) = some ⟨g', 0, none⟩ → q2 < g' ∧ ∃ cur T, (wr.setCell ⟨g, p, none⟩ (.int .i32 (-1))).heap[g']? = some (.cells cur T (0, 0)) ∧ m ≤ cur.size) ∧ CAt (wr.setCell ⟨g, p, none⟩ (.int .i32 (-1))) q2 A ∧ Below w.heap.size w (wr.setCell ⟨g, p, none⟩ (.int .i32 (-1)))) := by
            refine Lib.hid ⟨fun g' hg' => ?_, ?_, H.out.2.2.setCell (p := ⟨g, p, none⟩) (by show _ ≤ g; omega) _⟩
            · injection hg' with hg'
              injection hg' with hg'
              subst hg'
              exact ⟨hgq, _, T, heap_setCell hbl, by simpa using hcs⟩
            · exact H.out.2.1.but ((But.refl g wr).setCell p _) (by omega)
          clear hbl
          go_wp2
          go_roundw
          case rel => exact ⟨p + 1, by omega, by go_num, R⟩
          case measure => simp [intOf]; omega
        · obtain rfl : p = m := by omega
          have C2 := H.out.2.1
          have B7 := Lib.hid H.out.2.2
          clear H HG hpm
          go_wp2
          have hmx : Try.prog.follows .mixedOrders = true := by kernel_rfl
          refine region_begin (fun _ => True) (fun _ => false) hmx ?_
          have C2 : CAt wr.drew q2 A := C2
          have B7 := Lib.hid B7.out.drew
          generalize wr.drew = w8 at *
          refine take_first (i := 1) rfl (by kernel_rfl) (by kernel_rfl) (by kernel_rfl) (by kernel_rfl) (fun _ _ _ h => h) trivial (.inl ⟨by rfl, fun w' hw' => by go_simp; try with_reducible rfl⟩) ?_
          refine take_first (i := 2) rfl (by kernel_rfl) (by kernel_rfl) (by kernel_rfl) (by kernel_rfl) (fun _ _ _ h => h) trivial (.inl ⟨by rfl, fun w' hw' => by go_simp; try with_reducible rfl⟩) ?_
          refine take_first (i := 3) rfl (by kernel_rfl) (by kernel_rfl) (by kernel_rfl) (by kernel_rfl) (fun _ _ _ h => h) trivial (.inl ⟨by rfl, fun w' hw' => by go_simp; try with_reducible rfl⟩) ?_
          refine take_g (i := 0) (by kernel_rfl) rfl rfl fun K hK => ?_
          have C2 := Lib.hid C2
          go_wp2_with fail
          refine (text_any q2 A w8 C2.out).mono ?_
          rintro e w9 ⟨v, rfl, ho, hb9⟩
          rw [hlm] at ho
          obtain ⟨av2, cv2, rfl⟩ := own_slice ho
          have B9 := Lib.hid (B7.out.trans (hb9.mono B7.out.size))
          have HS := Lib.hid (Same.same_any av2 p cv2 A a p c A w9 (ints_of_own ho) (HI.out w9 B9.out) (by omega))
          clear ho hb9 B7
          refine hK _ _ (.inr trivial) ?_
          clear hK
          refine take_g (i := 4) (by kernel_rfl) rfl rfl fun K hK => ?_
          go_wp2_with fail
          refine HS.out.mono ?_
          rintro e w10 ⟨rfl, hb10⟩
          have B10 := Lib.hid (B9.out.trans (hb10.mono B9.out.size))
          rw [show decide True = true from rfl]
          clear hb10 B9 HS
          refine hK _ _ (.inr trivial) ?_
          clear hK
          refine take_g (i := 5) (by kernel_rfl) rfl rfl fun K hK => ?_
          go_wp2
          refine hK _ _ (.inr trivial) ?_
          clear hK
          refine take_g (i := 6) (by kernel_rfl) rfl rfl fun K hK => ?_
          go_wp2
          refine hK _ _ (.inr trivial) ?_
          clear hK
          refine take_g (i := 7) (by kernel_rfl) rfl rfl fun K hK => ?_
          go_wp2_with fail
          refine (add_nil 5 _).mono ?_
          rintro e w11 ⟨rfl, rfl⟩
          refine hK _ _ (.inr trivial) ?_
          clear hK
          refine take_g (i := 8) (by kernel_rfl) rfl rfl fun K hK => ?_
          go_wp2
          refine hK _ _ (.inr trivial) ?_
          clear hK
          refine take_g (i := 9) (by kernel_rfl) rfl rfl fun K hK => ?_
          go_wp2
          refine hK _ _ (.inr trivial) ?_
          clear hK
          refine take_g (i := 10) (by kernel_rfl) rfl rfl fun K hK => ?_
          go_wp2
          refine hK _ _ (.inr trivial) ?_
          clear hK
          refine take_g (i := 11) (by kernel_rfl) rfl rfl fun K hK => ?_
          go_wp2
          refine hK _ _ (.inr trivial) ?_
          clear hK
          refine take_g (i := 12) (by kernel_rfl) rfl rfl fun K hK => ?_
          go_wp2_with fail
          refine (len_nil _).mono ?_
          rintro e w11 ⟨rfl, rfl⟩
          refine hK _ _ (.inr trivial) ?_
          clear hK
          refine take_g (i := 13) (by kernel_rfl) rfl rfl fun K hK => ?_
          go_wp2
          refine hK _ _ (.inr trivial) ?_
          clear hK
          refine take_g (i := 14) (by kernel_rfl) rfl rfl fun K hK => ?_
          go_wp2
          refine hK _ _ (.inr trivial) ?_
          clear hK
          refine take_g (i := 15) (by kernel_rfl) rfl rfl fun K hK => ?_
          go_wp2
          refine hK _ _ (.inr trivial) ?_
          clear hK
          refine take_g (i := 16) (by kernel_rfl) rfl rfl fun K hK => ?_
          go_wp2
          refine hK _ _ (.inr trivial) ?_
          clear hK
          refine take_g (i := 17) (by kernel_rfl) rfl rfl fun K hK => ?_
          go_wp2_with fail
          refine (text_nil _).mono ?_
          rintro e w11 ⟨rfl, rfl⟩
          refine hK _ _ (.inr trivial) ?_
          clear hK
          refine take_g (i := 18) (by kernel_rfl) rfl rfl fun K hK => ?_
          go_wp2
          refine hK _ _ (.inr trivial) ?_
          clear hK
          refine take_g (i := 19) (by kernel_rfl) rfl rfl fun K hK => ?_
          go_wp2
          refine hK _ _ (.inr trivial) ?_
          clear hK
          refine take_g (i := 20) (by kernel_rfl) rfl rfl fun K hK => ?_
          go_wp2
          refine hK _ _ (.inr trivial) ?_
          clear hK
          refine take_g (i := 21) (by kernel_rfl) rfl rfl fun K hK => ?_
          go_wp2
          refine hK _ _ (.inr trivial) ?_
          clear hK
          refine take_g (i := 22) (by kernel_rfl) rfl rfl fun K hK => ?_
          go_wp2
          refine hK _ _ (.inr trivial) ?_
          clear hK
          refine take_g (i := 23) (by kernel_rfl) rfl rfl fun K hK => ?_
          go_wp2_with fail
          refine (full_nil _).mono ?_
          rintro e w11 ⟨rfl, rfl⟩
          refine hK _ _ (.inr trivial) ?_
          clear hK
          refine take_g (i := 24) (by kernel_rfl) rfl rfl fun K hK => ?_
          go_wp2
          refine hK _ _ (.inr trivial) ?_
          clear hK
          refine take_g (i := 25) (by kernel_rfl) rfl rfl fun K hK => ?_
          go_wp2
          refine hK _ _ (.inr trivial) ?_
          clear hK
          refine take_g (i := 26) (by kernel_rfl) rfl rfl fun K hK => ?_
          go_wp2
          refine hK _ _ (.inr trivial) ?_
          clear hK
          refine take_done (by kernel_rfl) ?_ _
          go_wp2
          go_ret
          exact ⟨rfl, B10.out⟩

end Go.Proofs.Ytnmnpackjalbbaa.Clu

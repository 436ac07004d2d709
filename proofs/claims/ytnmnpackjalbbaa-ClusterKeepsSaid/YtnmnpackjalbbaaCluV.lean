/-
  Words for clusters in drawn regions; the walk of the statement ClusterSame.
-/
import Derived.Test.YtnmnpackjalbbaaCluW
namespace Go.Proofs.Ytnmnpackjalbbaa.Clu
set_option linter.unusedSimpArgs false
set_option linter.unusedVariables false
open Go Go.RowKit Mem Seg Turn Gra

theorem wpList_store_clu2 {ops : Array Oper} {rest : List Oper} {o : Oper} {a : Act} {w : World} {Q : Exit → Act → World → Prop} (hgd : o.guard = none) (x y : Operand) (ho : o.op = .store 35 x y) (hd : o.dst = none)
    (g : Nat) (l0 l : List Int) (hx : a.eval x = .pointer (some ⟨g, 0, none⟩)) (hy : a.eval y = .agg (cv l).toArray) (hc : CAt w g l0) (hl : l.length ≤ 16)
    (h : ∀ w', CAt w' g l → But g w w' → wpList Try.prog ops Q rest a w') : wpList Try.prog ops Q (o :: rest) a w := by
  obtain ⟨hl0, T, hT⟩ := hc
  refine wpList_store_row hgd _ x y ho g (cv l).toArray hx hy T (cv l0).toArray hT (size_clu hl) (by rw [List.size_toArray, List.size_toArray, cv_len hl, cv_len hl0]) (cv_one l) ?_
  rw [hd]
  refine h _ ⟨hl, T, setRow_heap _ g _ (cv l).toArray T (0, 0) hT⟩ ?_
  exact ⟨rfl, rfl, rfl, by simp [World.setRow], fun k _ hn => by simp [World.setRow, Array.getElem?_modify, Ne.symm hn]⟩

theorem _root_.Go.Proofs.Ytnmnpackjalbbaa.Gra.runes_take16 {w : World} {a : Option Addr} {n c : Nat} {xs : List Int} (h : Runes w a n c xs) {j : Nat} (hj : j ≤ n) : Runes w a j c (xs.take j) := by
  obtain ⟨⟨h1, h2⟩, h3, h4, h5⟩ := h
  refine ⟨⟨by simp; omega, ?_⟩, fun x hx => h3 x (List.mem_of_mem_take hx), by omega, h5⟩
  rcases h2 with h0 | ⟨b, off, rfl, hb, hc⟩
  · exact .inl (by omega)
  · refine .inr ⟨b, off, rfl, hb, fun i x hx => hc i x ?_⟩
    rw [List.getElem?_take] at hx
    split at hx
    · exact hx
    · cases hx

theorem yields_eql_clu {ops : Array Oper} {S : World → Prop} {o : Oper} {a : Act} (x y : Operand) (ho : o.op = .binOp .eql 35 x y 35) (X Y : List Int) (hX : X.length ≤ 16) (hY : Y.length ≤ 16)
    (hx : a.eval x = .agg (cv X).toArray) (hy : a.eval y = .agg (cv Y).toArray) (hw : Region.wanted o (yielded ops a.tmps) = true) : YieldsIf Try.prog ops S o (.bool (decide (X = Y))) a := by
  refine .inl ⟨hw, fun w h => ?_⟩
  unfold execOp
  simp only [ho, hx, hy]
  have h1 := guard_clu w .eql x y (cv X).toArray (cv Y).toArray
  have h2 := eql_clu w hX hY
  generalize (cv X).toArray = X' at *
  generalize (cv Y).toArray = Y' at *
  generalize decide (X = Y) = b at *
  simp only [Sem.run_bind, h1, Result.andThen_ok, h2, Sem.run_pure]

/-! ClusterSame -/
theorem zeros : (cv []).toArray = #[.int .i32 0, .int .i32 0, .int .i32 0, .int .i32 0, .int .i32 0, .int .i32 0, .int .i32 0, .int .i32 0, .int .i32 0, .int .i32 0, .int .i32 0, .int .i32 0, .int .i32 0, .int .i32 0, .int .i32 0, .int .i32 0, .int .i64 0] := rfl
theorem cat_zero (w : World) (T : TypeId) : CAt (w.alloc (.cells #[.int .i32 0, .int .i32 0, .int .i32 0, .int .i32 0, .int .i32 0, .int .i32 0, .int .i32 0, .int .i32 0, .int .i32 0, .int .i32 0, .int .i32 0, .int .i32 0, .int .i32 0, .int .i32 0, .int .i32 0, .int .i32 0, .int .i64 0] T)) w.heap.size [] := cat_new w T _ rfl
theorem addL_eq {l : List Int} (r : Int) (hl : l.length ≤ 16) : (addL l r).length ≤ 16 ∧ (addL l r = l ↔ l.length = 16) := by
  unfold addL
  split
  · refine ⟨by simp; omega, ?_⟩
    constructor
    · intro h
      have := congrArg List.length h
      simp at this
    · intro h; omega
  · exact ⟨hl, by simp; omega⟩

set_option maxRecDepth 100000 in
set_option maxHeartbeats 16000000 in
theorem csame_any (w : World) (a1 : Option Addr) (n1 c1 : Nat) (xs : List Int) (h1 : Runes w a1 n1 c1 xs) (a2 : Option Addr) (n2 c2 : Nat) (ys : List Int) (h2 : Runes w a2 n2 c2 ys) (r : Int) (hr1 : -2147483648 ≤ r) (hr2 : r ≤ 2147483647) :
    Calls Try.prog 6 #[.slice a1 n1 c1, .slice a2 n2 c2, .int .i32 r] w fun e w' => e = .returned (.bool true) ∧ Below w.heap.size w w' := by
  have hm1 : n1 ≤ 9223372036854775807 := Nat.le_trans h1.le h1.max
  have hm2 : n2 ≤ 9223372036854775807 := Nat.le_trans h2.le h2.max
  have hc1 := h1.le
  have hc2 := h2.le
  have HL1 := Lib.hid h1.ints.1
  have HL2 := Lib.hid h2.ints.1
  have H1 := Lib.hid h1
  have H2 := Lib.hid h2
  clear h1 h2
  by_cases g1 : 1000 < n1
  · have d1 : decide (1000 < (n1 : Int)) = true := by simp; omega
    go_enter Try.func6, Try.ntmps6
    go_wp2_with fail
    refine (works_any _).mono ?_; rintro e w1 ⟨rfl, hb1⟩
    go_wp2_with fail
    refine (works_any _).mono ?_; rintro e w2 ⟨rfl, hb2⟩
    have hb2 := hb1.trans (hb2.mono hb1.size)
    go_wp2
    go_ret
    exact ⟨rfl, hb2⟩
  have d1 : decide (1000 < (n1 : Int)) = false := by simp; omega
  by_cases g2 : 1000 < n2
  · have d2 : decide (1000 < (n2 : Int)) = true := by simp; omega
    go_enter Try.func6, Try.ntmps6
    go_wp2_with fail
    refine (works_any _).mono ?_; rintro e w1 ⟨rfl, hb1⟩
    go_wp2_with fail
    refine (works_any _).mono ?_; rintro e w2 ⟨rfl, hb2⟩
    have hb2 := hb1.trans (hb2.mono hb1.size)
    go_wp2
    go_ret
    exact ⟨rfl, hb2⟩
  have d2 : decide (1000 < (n2 : Int)) = false := by simp; omega
  go_enter Try.func6, Try.ntmps6
  go_wp2_with fail
  refine (works_any _).mono ?_; rintro e w1 ⟨rfl, hb1⟩
  have B1 := Lib.hid hb1
  clear hb1
  go_wp2_with fail
  refine (of_any a1 n1 c1 xs _ (H1.out.below B1.out).ints hm1).mono ?_; rintro e w2 ⟨rfl, hb2⟩
  have B2 := Lib.hid (B1.out.trans (hb2.mono B1.out.size))
  clear hb2
  go_wp2_with fail
  refine (of_any a2 n2 c2 ys _ (H2.out.below B2.out).ints hm2).mono ?_; rintro e w3 ⟨rfl, hb3⟩
  have B3 := Lib.hid (B2.out.trans (hb3.mono B2.out.size))
  clear hb3
  have hA : (xs.take 16).length ≤ 16 := by simp; omega
  have hB : (ys.take 16).length ≤ 16 := by simp; omega
  have hA2 : (xs.take 16).length = 16 ↔ 16 ≤ n1 := by rw [List.length_take, HL1.out]; omega
  have hs3 := B3.out.size
  have HI1 := Lib.hid (show ∀ W, Below w.heap.size w W → ∀ m : Nat, m = min n1 16 → Same.Ints .i32 W a1 m (xs.take 16) from fun W hW m hm => by
    have := runes_take16 (H1.out.below hW) (Nat.min_le_left n1 16)
    rw [hm]
    have e : xs.take (min n1 16) = xs.take 16 := by rw [← HL1.out, List.take_eq_take_min (i := 16), Nat.min_comm]
    rw [e] at this
    exact this.ints)
  have HI2 := Lib.hid (show ∀ W, Below w.heap.size w W → ∀ m : Nat, m = min n2 16 → Same.Ints .i32 W a2 m (ys.take 16) from fun W hW m hm => by
    have := runes_take16 (H2.out.below hW) (Nat.min_le_left n2 16)
    rw [hm]
    have e : ys.take (min n2 16) = ys.take 16 := by rw [← HL2.out, List.take_eq_take_min (i := 16), Nat.min_comm]
    rw [e] at this
    exact this.ints)
  have HOF := Lib.hid (show ∀ W, Below w.heap.size w W → Calls Try.prog 25 #[.slice a1 n1 c1] W fun e w' => e = .returned (.agg (cv (xs.take 16)).toArray) ∧ Below W.heap.size W w' from fun W hW => of_any a1 n1 c1 xs W (H1.out.below hW).ints hm1)
  generalize xs.take 16 = A at *
  generalize ys.take 16 = B at *
  have CZ1 : Hid (CAt ((w3.alloc (.cells #[.int .i32 0, .int .i32 0, .int .i32 0, .int .i32 0, .int .i32 0, .int .i32 0, .int .i32 0, .int .i32 0, .int .i32 0, .int .i32 0, .int .i32 0, .int .i32 0, .int .i32 0, .int .i32 0, .int .i32 0, .int .i32 0, .int .i64 0] 35)).alloc (.cells #[.int .i32 0, .int .i32 0, .int .i32 0, .int .i32 0, .int .i32 0, .int .i32 0, .int .i32 0, .int .i32 0, .int .i32 0, .int .i32 0, .int .i32 0, .int .i32 0, .int .i32 0, .int .i32 0, .int .i32 0, .int .i32 0, .int .i64 0] 35)) w3.heap.size []) := (cat_zero w3 35).below ((Below.refl _ _).alloc (Nat.le_refl _) _) (by simp)
  have CZ2 : Hid (CAt ((w3.alloc (.cells #[.int .i32 0, .int .i32 0, .int .i32 0, .int .i32 0, .int .i32 0, .int .i32 0, .int .i32 0, .int .i32 0, .int .i32 0, .int .i32 0, .int .i32 0, .int .i32 0, .int .i32 0, .int .i32 0, .int .i32 0, .int .i32 0, .int .i64 0] 35)).alloc (.cells #[.int .i32 0, .int .i32 0, .int .i32 0, .int .i32 0, .int .i32 0, .int .i32 0, .int .i32 0, .int .i32 0, .int .i32 0, .int .i32 0, .int .i32 0, .int .i32 0, .int .i32 0, .int .i32 0, .int .i32 0, .int .i32 0, .int .i64 0] 35)) (w3.heap.size + 1) []) := by
    have := cat_zero (w3.alloc (.cells #[.int .i32 0, .int .i32 0, .int .i32 0, .int .i32 0, .int .i32 0, .int .i32 0, .int .i32 0, .int .i32 0, .int .i32 0, .int .i32 0, .int .i32 0, .int .i32 0, .int .i32 0, .int .i32 0, .int .i32 0, .int .i32 0, .int .i64 0] 35)) 35
    have hs : (w3.alloc (.cells #[.int .i32 0, .int .i32 0, .int .i32 0, .int .i32 0, .int .i32 0, .int .i32 0, .int .i32 0, .int .i32 0, .int .i32 0, .int .i32 0, .int .i32 0, .int .i32 0, .int .i32 0, .int .i32 0, .int .i32 0, .int .i32 0, .int .i64 0] 35)).heap.size = w3.heap.size + 1 := by simp
    rw [hs] at this
    exact this
  have B4 : Hid (Below w.heap.size w ((w3.alloc (.cells #[.int .i32 0, .int .i32 0, .int .i32 0, .int .i32 0, .int .i32 0, .int .i32 0, .int .i32 0, .int .i32 0, .int .i32 0, .int .i32 0, .int .i32 0, .int .i32 0, .int .i32 0, .int .i32 0, .int .i32 0, .int .i32 0, .int .i64 0] 35)).alloc (.cells #[.int .i32 0, .int .i32 0, .int .i32 0, .int .i32 0, .int .i32 0, .int .i32 0, .int .i32 0, .int .i32 0, .int .i32 0, .int .i32 0, .int .i32 0, .int .i32 0, .int .i32 0, .int .i32 0, .int .i32 0, .int .i32 0, .int .i64 0] 35))) := (B3.out.alloc hs3 _).alloc (by simp; omega) _
  go_wp2_with (first | (refine wpList_store_clu2 rfl _ _ rfl rfl w3.heap.size [] A rfl rfl CZ1.out hA ?_; intro w5 C1 hb5) | (refine wpList_store_clu2 rfl _ _ rfl rfl (w3.heap.size + 1) [] B rfl rfl (CZ2.out.but hb5 (by omega)) hB ?_; intro w6 C2 hb6))
  have B6 : Below w.heap.size w w6 := B4.out.trans ((hb5.below hs3 B4.out.size).trans (hb6.below (by omega) (by have h1 := B4.out.size; have h2 := hb5.size; omega)))
  have C1 := C1.but hb6 (by omega)
  have hq1 : w.heap.size ≤ w3.heap.size := hs3
  have hlt2 := C2.lt
  clear CZ1 CZ2 B3 B4 hb5 hb6 hs3
  generalize hq2 : w3.heap.size + 1 = q2 at *
  generalize w3.heap.size = q1 at *
  have hmx : Try.prog.follows .mixedOrders = true := by kernel_rfl
  refine region_begin (fun w' => CAt w' q1 A ∧ CAt w' q2 B) (fun _ => false) hmx ?_
  have C1 : CAt w6.drew q1 A := C1
  have C2 : CAt w6.drew q2 B := C2
  have B6 : Below w.heap.size w w6.drew := B6.drew
  generalize w6.drew = w7 at *
  obtain ⟨m1, hm1e⟩ : ∃ m1 : Nat, m1 = min n1 16 := ⟨_, rfl⟩
  obtain ⟨m2, hm2e⟩ : ∃ m2 : Nat, m2 = min n2 16 := ⟨_, rfl⟩
  have hmin1 : (if (16 : Int) < (n1 : Int) then (16 : Int) else (n1 : Int)) = (m1 : Int) := by split <;> omega
  have hmin2 : (if (16 : Int) < (n2 : Int) then (16 : Int) else (n2 : Int)) = (m2 : Int) := by split <;> omega
  have k1 : (m1 : Int) ≤ (c1 : Int) := by omega
  have k2 : (m2 : Int) ≤ (c2 : Int) := by omega
  have k3 : m1 ≤ c1 := by omega
  have k4 : m2 ≤ c2 := by omega
  have HM1 := Lib.hid hm1e
  have HM2 := Lib.hid hm2e
  have hmx1 : m1 ≤ 9223372036854775807 := by omega
  clear hm1e hm2e
  refine take_first (i := 0) rfl (by kernel_rfl) (by kernel_rfl) (by kernel_rfl) (by kernel_rfl) (fun _ _ _ h => h) ⟨C1, C2⟩ (yields_load_clu _ rfl q1 A rfl rfl (fun _ h => h.1)) ?_
  refine take_first (i := 1) rfl (by kernel_rfl) (by kernel_rfl) (by kernel_rfl) (by kernel_rfl) (fun _ _ _ h => h) ⟨C1, C2⟩ (yields_load_clu _ rfl q2 B rfl rfl (fun _ h => h.2)) ?_
  refine take_first (i := 2) rfl (by kernel_rfl) (by kernel_rfl) (by kernel_rfl) (by kernel_rfl) (fun _ _ _ h => h) ⟨C1, C2⟩ (yields_eql_clu _ _ rfl A B hA hB rfl rfl rfl) ?_
  refine take_first (i := 3) rfl (by kernel_rfl) (by kernel_rfl) (by kernel_rfl) (by kernel_rfl) (fun _ _ _ h => h) ⟨C1, C2⟩ (.inl ⟨by rfl, fun w' hw' => by go_simp; try with_reducible rfl⟩) ?_
  refine take_first (i := 4) rfl (by kernel_rfl) (by kernel_rfl) (by kernel_rfl) (by kernel_rfl) (fun _ _ _ h => h) ⟨C1, C2⟩ (.inl ⟨by rfl, fun w' hw' => by go_simp; try with_reducible rfl⟩) ?_
  refine take_first (i := 5) rfl (by kernel_rfl) (by kernel_rfl) (by kernel_rfl) (by kernel_rfl) (fun _ _ _ h => h) ⟨C1, C2⟩ (.inl ⟨by rfl, fun w' hw' => by go_simp; try with_reducible rfl⟩) ?_
  refine take_first (i := 6) rfl (by kernel_rfl) (by kernel_rfl) (by kernel_rfl) (by kernel_rfl) (fun _ _ _ h => h) ⟨C1, C2⟩ (.inl ⟨by rfl, fun w' hw' => by go_simp; try with_reducible rfl⟩) ?_
  refine take_first (i := 7) rfl (by kernel_rfl) (by kernel_rfl) (by kernel_rfl) (by kernel_rfl) (fun _ _ _ h => h) ⟨C1, C2⟩ (.inl ⟨by rfl, fun w' hw' => by go_simp; try with_reducible rfl⟩) ?_
  refine take_first (i := 8) rfl (by kernel_rfl) (by kernel_rfl) (by kernel_rfl) (by kernel_rfl) (fun _ _ _ h => h) ⟨C1, C2⟩ (.inl ⟨by rfl, fun w' hw' => by go_simp; try with_reducible rfl⟩) ?_
  refine take_first (i := 9) rfl (by kernel_rfl) (by kernel_rfl) (by kernel_rfl) (by kernel_rfl) (fun _ _ _ h => h) ⟨C1, C2⟩ (.inl ⟨by rfl, fun w' hw' => by go_simp; try with_reducible rfl⟩) ?_
  refine take_first (i := 10) rfl (by kernel_rfl) (by kernel_rfl) (by kernel_rfl) (by kernel_rfl) (fun _ _ _ h => h) ⟨C1, C2⟩ (.inl ⟨by rfl, fun w' hw' => by go_simp; try with_reducible rfl⟩) ?_
  refine take_first (i := 11) rfl (by kernel_rfl) (by kernel_rfl) (by kernel_rfl) (by kernel_rfl) (fun _ _ _ h => h) ⟨C1, C2⟩ (.inl ⟨by rfl, fun w' hw' => by go_simp; try with_reducible rfl⟩) ?_
  refine take_first (i := 12) rfl (by kernel_rfl) (by kernel_rfl) (by kernel_rfl) (by kernel_rfl) (fun _ _ _ h => h) ⟨C1, C2⟩ (.inl ⟨by rfl, fun w' hw' => by go_simp; try with_reducible rfl⟩) ?_
  refine take_g (i := 13) (by kernel_rfl) rfl rfl fun K hK => ?_
  have HS := Lib.hid (Same.same_any a1 m1 c1 A a2 m2 c2 B w7 (HI1.out w7 B6 m1 HM1.out) (HI2.out w7 B6 m2 HM2.out) hmx1)
  have C1 := Lib.hid C1
  have C2 := Lib.hid C2
  have B6 := Lib.hid B6
  go_wp2_with fail
  refine HS.out.mono ?_
  rintro e w8 ⟨rfl, hb8⟩
  have C1 := C1.out.below hb8 C1.out.lt
  have C2 := C2.out.below hb8 C2.out.lt
  have B8 := Lib.hid (B6.out.trans (hb8.mono B6.out.size))
  refine hK _ _ (.inr ⟨C1, C2⟩) ?_
  clear hK HS hb8 B6
  generalize decide (A = B) = dAB at *
  have xAB : (dAB != dAB) = false := by simp
  refine take_g (i := 14) (by kernel_rfl) rfl rfl fun K hK => ?_
  go_wp2
  refine hK _ _ (.inr ⟨C1, C2⟩) ?_
  clear hK
  refine take_done (by kernel_rfl) ?_ _
  go_wp2_with (first | (refine wpList_load_clu rfl _ rfl q1 A C1 rfl ?_) | (refine wpList_store_clu2 rfl _ _ rfl rfl w8.heap.size [] A rfl rfl (cat_zero w8 35) hA ?_; intro w9 C3 hb9))
  have hba : Below w8.heap.size w8 (w8.alloc (.cells #[.int .i32 0, .int .i32 0, .int .i32 0, .int .i32 0, .int .i32 0, .int .i32 0, .int .i32 0, .int .i32 0, .int .i32 0, .int .i32 0, .int .i32 0, .int .i32 0, .int .i32 0, .int .i32 0, .int .i32 0, .int .i32 0, .int .i64 0] 35)) := (Below.refl _ _).alloc (Nat.le_refl _) _
  have hlt1 := C1.lt
  have C1 := (C1.below hba hlt1).but hb9 (by omega)
  have B9 := Lib.hid (B8.out.trans ((hba.mono B8.out.size).trans (hb9.below B8.out.size (by have h1 := B8.out.size; have h2 := hba.size; omega))))
  have hs9 : w8.heap.size < w9.heap.size := C3.lt
  have hs8 := B8.out.size
  clear hba hb9 C2 B8
  generalize w8.heap.size = q3 at *
  have C1 := Lib.hid C1
  have C3 := Lib.hid C3
  refine (add_any q3 A r w9 C3.out).mono ?_
  rintro e w10 ⟨rfl, C4, hb10⟩
  have C1 := C1.out.but hb10 (by omega)
  have B10 := B9.out.trans (hb10.below hs8 B9.out.size)
  obtain ⟨hE, hEA⟩ := addL_eq (l := A) r hA
  have HE : Hid ((decide (addL A r = A) == decide ((16 : Int) ≤ (n1 : Int))) = true) := by
    have : addL A r = A ↔ (16 : Int) ≤ (n1 : Int) := by rw [hEA, hA2]; omega
    by_cases hh : addL A r = A
    · rw [decide_eq_true hh, decide_eq_true (this.1 hh)]; exact Lib.hid rfl
    · rw [decide_eq_false hh, decide_eq_false (fun h => hh (this.2 h))]; exact Lib.hid rfl
  generalize addL A r = E at *
  clear hb10 C3 B9 hEA
  generalize decide (List.length A < 16) = bl at *
  go_wp2
  refine region_begin (fun w' => CAt w' q1 A ∧ CAt w' q3 E) (fun _ => false) hmx ?_
  have C1 : CAt w10.drew q1 A := C1
  have C2 : CAt w10.drew q3 E := C4
  have B10 : Below w.heap.size w w10.drew := B10.drew
  clear C4
  generalize w10.drew = w11 at *
  refine take_first (i := 0) rfl (by kernel_rfl) (by kernel_rfl) (by kernel_rfl) (by kernel_rfl) (fun _ _ _ h => h) ⟨C1, C2⟩ (yields_load_clu _ rfl q1 A rfl rfl (fun _ h => h.1)) ?_
  refine take_first (i := 1) rfl (by kernel_rfl) (by kernel_rfl) (by kernel_rfl) (by kernel_rfl) (fun _ _ _ h => h) ⟨C1, C2⟩ (.inl ⟨by rfl, fun w' hw' => by go_simp; try with_reducible rfl⟩) ?_
  refine take_g (i := 2) (by kernel_rfl) rfl rfl fun K hK => ?_
  have HO := Lib.hid (HOF.out w11 B10)
  have C1 := Lib.hid C1
  have C2 := Lib.hid C2
  have B10 := Lib.hid B10
  go_wp2_with fail
  refine HO.out.mono ?_
  rintro e w12 ⟨rfl, hb12⟩
  have C1 := C1.out.below hb12 C1.out.lt
  have C2 := C2.out.below hb12 C2.out.lt
  have B12 := Lib.hid (B10.out.trans (hb12.mono B10.out.size))
  refine hK _ _ (.inr ⟨C1, C2⟩) ?_
  clear hK HO hb12 B10
  refine take_first (i := 3) rfl (by kernel_rfl) (by kernel_rfl) (by kernel_rfl) (by kernel_rfl) (fun _ _ _ h => h) ⟨C1, C2⟩ (yields_eql_clu _ _ rfl A A hA hA rfl rfl rfl) ?_
  rw [show decide (A = A) = true from by simp]
  refine take_first (i := 4) rfl (by kernel_rfl) (by kernel_rfl) (by kernel_rfl) (by kernel_rfl) (fun _ _ _ h => h) ⟨C1, C2⟩ (.inl ⟨by rfl, fun w' hw' => by go_simp; try with_reducible rfl⟩) ?_
  refine take_first (i := 5) rfl (by kernel_rfl) (by kernel_rfl) (by kernel_rfl) (by kernel_rfl) (fun _ _ _ h => h) ⟨C1, C2⟩ (yields_load_clu _ rfl q3 E rfl rfl (fun _ h => h.2)) ?_
  refine take_first (i := 6) rfl (by kernel_rfl) (by kernel_rfl) (by kernel_rfl) (by kernel_rfl) (fun _ _ _ h => h) ⟨C1, C2⟩ (yields_load_clu _ rfl q1 A rfl rfl (fun _ h => h.1)) ?_
  refine take_first (i := 7) rfl (by kernel_rfl) (by kernel_rfl) (by kernel_rfl) (by kernel_rfl) (fun _ _ _ h => h) ⟨C1, C2⟩ (yields_eql_clu _ _ rfl E A hE hA rfl rfl rfl) ?_
  have hdd := HE.out
  generalize decide (E = A) = dE at *
  generalize hdn : decide ((16 : Int) ≤ (n1 : Int)) = dN at *
  clear HE HOF HI1 HI2
  refine take_g (i := 8) (by kernel_rfl) rfl rfl fun K hK => ?_
  go_wp2
  refine hK _ _ (.inr ⟨C1, C2⟩) ?_
  clear hK
  refine take_g (i := 9) (by kernel_rfl) rfl rfl fun K hK => ?_
  go_wp2
  refine hK _ _ (.inr ⟨C1, C2⟩) ?_
  clear hK
  refine take_g (i := 10) (by kernel_rfl) rfl rfl fun K hK => ?_
  go_wp2
  refine hK _ _ (.inr ⟨C1, C2⟩) ?_
  clear hK
  refine take_g (i := 11) (by kernel_rfl) rfl rfl fun K hK => ?_
  go_wp2
  refine hK _ _ (.inr ⟨C1, C2⟩) ?_
  clear hK
  refine take_g (i := 12) (by kernel_rfl) rfl rfl fun K hK => ?_
  go_wp2
  refine hK _ _ (.inr ⟨C1, C2⟩) ?_
  clear hK
  refine take_g (i := 13) (by kernel_rfl) rfl rfl fun K hK => ?_
  go_wp2
  refine hK _ _ (.inr ⟨C1, C2⟩) ?_
  clear hK
  refine take_done (by kernel_rfl) ?_ _
  go_wp2
  go_ret
  exact ⟨rfl, B12.out⟩

end Go.Proofs.Ytnmnpackjalbbaa.Clu

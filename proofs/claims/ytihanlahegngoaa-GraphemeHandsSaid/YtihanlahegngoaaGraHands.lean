/-
  The walk of the statement GraphemeHands.
-/
import Derived.Test.YtihanlahegngoaaGraWorks
import Derived.Test.YtihanlahegngoaaQuietTail
namespace Go.Proofs.Ytihanlahegngoaa.Gra
set_option linter.unusedSimpArgs false
set_option linter.unusedVariables false
open Go Go.RowKit Go.Shelf Mem Turn GraLaw Same
attribute [local go_sem] Oper.semAt_some

/-- the loop of GraphemeHands, between two rounds -/
def HI (most : Int) (w : World) (Q n B : Nat) (xs : List Int) (k : Nat) (W : World) : Prop :=
  ∃ v, Boxed W Q 22 v ∧ W.ownsRow (B + 3) 21 1 v (st (Jn xs) n k) ((xs.take (st (Jn xs) n k)).map (Value.int .i32)) ∧ Boxed W (Q + 1) 3 (.int .i64 (k : Int)) ∧
    Boxed W w.heap.size 3 (.int .i64 most) ∧ Boxed W (w.heap.size + 1) 4 (.bool false) ∧ Below w.heap.size w W

theorem hi_own {most : Int} {w : World} {Q n B : Nat} {xs : List Int} {k : Nat} {X Y : World} (h : HI most w Q n B xs k X) (ht : Turn (Own3 B) X Y) (h1 : w.heap.size + 2 ≤ Q) (h2 : Q + 3 ≤ B) : HI most w Q n B xs k Y := by
  obtain ⟨v, a1, a2, a3, a4, a5, a6⟩ := h
  exact ⟨v, ht.boxed a1 (fun h => by have := h.1; omega), ht.own3 a2, ht.boxed a3 (fun h => by have := h.1; omega), ht.boxed a4 (fun h => by have := h.1; omega), ht.boxed a5 (fun h => by have := h.1; omega),
    a6.trans (ht.below a6.size (fun j hj => by have := hj.1; omega))⟩

set_option maxRecDepth 100000 in
set_option maxHeartbeats 16000000 in
theorem hands_any (w : World) (a : Option Addr) (n c : Nat) (xs : List Int) (h : Runes w a n c xs) (most : Int) (hm1 : -9223372036854775808 ≤ most) (hm2 : most ≤ 9223372036854775807) :
    Calls Try.prog 6 #[.slice a n c, .int .i64 most] w fun e w' => e = .returned (.bool true) ∧ Below w.heap.size w w' := by
  have hm : n ≤ 9223372036854775807 := Nat.le_trans h.le h.max
  have HL := Lib.hid h.ints.1
  have HH := Lib.hid h
  clear h
  by_cases h1 : 1000 < n
  · have d1 : decide (1000 < (n : Int)) = true := by simp; omega
    go_enter Try.func6, Try.ntmps6
    go_wp2_with fail
    have X2 := Boxed.new (w.alloc (.cells #[.int .i64 most] 3)) 4 (.bool false)
    have hs1 : (w.alloc (.cells #[.int .i64 most] 3)).heap.size = w.heap.size + 1 := by simp
    rw [hs1] at X2
    clear hs1
    have hs2 : w.heap.size + 2 ≤ ((w.alloc (.cells #[.int .i64 most] 3)).alloc (.cells #[.bool false] 4)).heap.size := by simp
    have B0 : Below w.heap.size w ((w.alloc (.cells #[.int .i64 most] 3)).alloc (.cells #[.bool false] 4)) := ((Below.refl _ _).alloc (Nat.le_refl _) _).alloc (by simp) _
    generalize ((w.alloc (.cells #[.int .i64 most] 3)).alloc (.cells #[.bool false] 4)) = w0 at *
    refine (works_any _).mono ?_
    rintro e w1 ⟨rfl, hb1⟩
    have X3 := (Turn.of_new hb1 : Turn (fun _ => False) w0 w1).boxed X2 id
    have B1 := B0.trans (hb1.mono B0.size)
    have hs3 := hb1.size
    clear X2 B0 hb1
    go_wp2_with fail
    refine (works_any _).mono ?_
    rintro e w3 ⟨rfl, hb1⟩
    have X4 := (Turn.of_new hb1 : Turn (fun _ => False) w1 w3).boxed X3 id
    have B3 := B1.trans (hb1.mono B1.size)
    clear X3 B1 hb1
    have c4 := X4.cell
    have f4 := X4.frozen
    go_wp2
    have X5 := (X4.set (.bool true)).cell
    refine bodyPost_ret (v := .bool true) ?_ rfl ⟨rfl, B3.setCell (p := ⟨w.heap.size + 1, 0, none⟩) (by show _ ≤ w.heap.size + 1; omega) _⟩
    simp [results, Try.f6, go_sem, X5]
  · have d1 : decide (1000 < (n : Int)) = false := by simp; omega
    have hcl := cnt_le (J := Jn xs) n
    obtain ⟨i0, hi, hz0, hz1, hz2⟩ := info_parts info_i32
    refine (callsIn_wide (n := 6)).1 ?_
    refine callsIn_of_wp_marks Try.func6 rfl trivial ?_ rfl
    simp only [Try.ntmps6, List.size_toArray, List.length_cons, List.length_nil, Nat.reduceAdd, Nat.reduceSub, Array.replicate_succ, Array.replicate_zero, List.push_toArray, List.append_toArray, List.nil_append, List.cons_append]
    gi_wp2_with fail
    refine ⟨trivial, callsIn_wide.2 ?_⟩
    have X1 := (Boxed.new w 3 (.int .i64 most)).alloc (.cells #[.bool false] 4)
    have X2 := Boxed.new (w.alloc (.cells #[.int .i64 most] 3)) 4 (.bool false)
    have hs1 : (w.alloc (.cells #[.int .i64 most] 3)).heap.size = w.heap.size + 1 := by simp
    rw [hs1] at X2
    clear hs1
    have hs2 : ((w.alloc (.cells #[.int .i64 most] 3)).alloc (.cells #[.bool false] 4)).heap.size = w.heap.size + 2 := by simp
    have B0 : Below w.heap.size w ((w.alloc (.cells #[.int .i64 most] 3)).alloc (.cells #[.bool false] 4)) := ((Below.refl _ _).alloc (Nat.le_refl _) _).alloc (by simp) _
    generalize ((w.alloc (.cells #[.int .i64 most] 3)).alloc (.cells #[.bool false] 4)) = w0 at *
    refine (works_any _).mono ?_
    rintro e w1 ⟨rfl, hb1⟩
    have T1 : Turn (fun _ => False) w0 w1 := Turn.of_new hb1
    have X1 := T1.boxed X1 id
    have X2 := T1.boxed X2 id
    have hs3 := hb1.size
    have B1 := B0.trans (hb1.mono B0.size)
    clear T1 B0 hb1
    gi_wp2_with fail
    refine ⟨trivial, callsIn_wide.2 ?_⟩
    refine (all_any _ _ _ _).mono ?_
    rintro e w2 ⟨rfl, rfl⟩
    gi_wp2_with fail
    have Y1 := ((Boxed.new w1 22 (.slice none 0 0)).alloc (.cells #[.int .i64 0] 3)).alloc (.cells #[.slice a n c] 22)
    have Y2 := (Boxed.new (w1.alloc (.cells #[.slice none 0 0] 22)) 3 (.int .i64 0)).alloc (.cells #[.slice a n c] 22)
    have Y3 := Boxed.new ((w1.alloc (.cells #[.slice none 0 0] 22)).alloc (.cells #[.int .i64 0] 3)) 22 (.slice a n c)
    have s1 : (w1.alloc (.cells #[.slice none 0 0] 22)).heap.size = w1.heap.size + 1 := by simp
    have s2 : ((w1.alloc (.cells #[.slice none 0 0] 22)).alloc (.cells #[.int .i64 0] 3)).heap.size = w1.heap.size + 1 + 1 := by simp
    have s3 : (((w1.alloc (.cells #[.slice none 0 0] 22)).alloc (.cells #[.int .i64 0] 3)).alloc (.cells #[.slice a n c] 22)).heap.size = w1.heap.size + 3 := by simp
    rw [s1] at Y2
    rw [s2] at Y3
    have Z1 := ((X1.alloc (.cells #[.slice none 0 0] 22)).alloc (.cells #[.int .i64 0] 3)).alloc (.cells #[.slice a n c] 22)
    have Z2 := ((X2.alloc (.cells #[.slice none 0 0] 22)).alloc (.cells #[.int .i64 0] 3)).alloc (.cells #[.slice a n c] 22)
    have B2 : Below w.heap.size w (((w1.alloc (.cells #[.slice none 0 0] 22)).alloc (.cells #[.int .i64 0] 3)).alloc (.cells #[.slice a n c] 22)) :=
      ((B1.alloc B1.size _).alloc (by rw [s1]; omega) _).alloc (by rw [s2]; omega) _
    generalize (((w1.alloc (.cells #[.slice none 0 0] 22)).alloc (.cells #[.int .i64 0] 3)).alloc (.cells #[.slice a n c] 22)) = w2 at *
    generalize hQ : w1.heap.size = Q at *
    have hwQ : w.heap.size + 2 ≤ Q := by omega
    have s4 : w2.heap.size ≤ Q + 3 := by omega
    have s5 : Q + 3 ≤ w2.heap.size := by omega
    clear X1 X2 B1 hs3 hs2 s1 s2 hQ s3
    obtain ⟨b, off, hab, hG⟩ := gives_any HH.out
    have HA := Lib.hid hab
    have hGv := hG (Q + 1 + 1) w.heap.size w2 (Nat.le_refl _) (by omega) B2 (by omega) Y3.cell
    clear hG hab
    refine wpIn_range (gf := 64) (lb := #[.pointer (some ⟨Q + 1 + 1, 0, none⟩)]) rfl (enters_of Try.func64 (by kernel_rfl) rfl)
      hGv (Below.refl _ _) (by omega) (by omega) (fun _ => rfl)
      (HI most w Q n w2.heap.size xs)
      (fun c k W => c = .exit 0 ∧ HI most w Q n w2.heap.size xs k W ∧ (k : Int) = most) ?hI ?hIx ?h0
      (fun k => { tmps := #[.slice a n c, .int .i64 most, undef, .pointer (some ⟨w.heap.size, 0, none⟩), .pointer (some ⟨w.heap.size + 1, 0, none⟩), .pointer (some ⟨Q, 0, none⟩), .pointer (some ⟨Q + 1, 0, none⟩), .int .i64 (st (Jn xs) xs.length k), pieceV xs b off k, .bool true, .bool false, .bool false, .slice a n c, .int .i64 n, .bool false, .bool false, undef, .slice a n c, .func (.func 64) #[] #[.pointer (some ⟨Q + 1 + 1, 0, none⟩)], .int .i64 (st (Jn xs) xs.length k), pieceV xs b off k, undef, undef, undef, undef, undef, undef, undef, undef, undef, undef, undef, undef, undef, undef, undef, undef, undef, undef, undef, undef, undef, undef, undef, undef, undef, undef, undef, undef, undef, undef, undef, undef, undef, undef, undef, undef, undef, undef, undef, undef], defers := [] }) ?assign ?body ?done ?stop
    case hI => exact fun k X Y h ht => hi_own h ht (by omega) (by omega)
    case hIx => rintro c k X Y ⟨h1, h2, h3⟩ ht; exact ⟨h1, hi_own h2 ht (by omega) (by omega), h3⟩
    case h0 => 
      refine ⟨_, Y1, ?_, Y2, Z1, Z2, B2⟩
      rw [← HL.out, st_zero (Jn_zero xs)]
      exact World.ownsRow_nil _ _ _ _
    case assign =>
      intro l k W K hK
      unfold piece
      gi_wp2
      exact hK
    case body =>
      rintro l k W hk ⟨v, h1, h2, h3, h4, h5, h6⟩ hsz
      obtain ⟨A0, C0, rfl⟩ := own_slice h2
      have hmo := st_mono (J := Jn xs) (n := xs.length) (j := k) (k := k + 1) (by omega) hk
      have hle := st_le (J := Jn xs) (n := xs.length) (k := k + 1) hk
      rw [HL.out] at hmo hle hk
      have hn0 : 0 < n := by omega
      obtain ⟨rfl, hbb, hbc⟩ := HA.out hn0
      unfold pieceV
      rw [HL.out]
      have hc1 := h1.cell
      have hc3 := h3.cell
      have hc4 := h4.cell
      have hc5 := h5.cell
      have hf3 := h3.frozen
      have e2 : ((st (Jn xs) n k : Int) != st (Jn xs) n k) = false := by simp
      have hkn : k < n := by omega
      have HB6 := Lib.hid h6
      have HBC : Hid (∀ j u, (((xs.drop (st (Jn xs) n k)).take (st (Jn xs) n (k + 1) - st (Jn xs) n k)).map (Value.int .i32))[j]? = some u → W.cell? ((⟨b, off + st (Jn xs) n k, none⟩ : Addr).add j) = some u) := by
        intro j u hj
        rw [List.getElem?_map, Option.map_eq_some_iff] at hj
        obtain ⟨x, hx, rfl⟩ := hj
        rw [List.getElem?_take] at hx
        split at hx
        · rw [List.getElem?_drop] at hx
          rw [add_none]
          have := (h6.cell (p := ⟨b, off + (st (Jn xs) n k + j), none⟩) hbb).trans (hbc _ _ hx)
          rw [Nat.add_assoc]; exact this
        · cases hx
      have HEX : Hid (xs.take (st (Jn xs) n (k + 1)) = xs.take (st (Jn xs) n k) ++ (xs.drop (st (Jn xs) n k)).take (st (Jn xs) n (k + 1) - st (Jn xs) n k)) := by
        have e := List.take_add (l := xs) (i := st (Jn xs) n k) (j := st (Jn xs) n (k + 1) - st (Jn xs) n k)
        rw [show st (Jn xs) n k + (st (Jn xs) n (k + 1) - st (Jn xs) n k) = st (Jn xs) n (k + 1) from by omega] at e
        exact e
      have HNL : Hid (((xs.drop (st (Jn xs) n k)).take (st (Jn xs) n (k + 1) - st (Jn xs) n k)).length = st (Jn xs) n (k + 1) - st (Jn xs) n k) := by
        have h9 := HL.out
        simp
        exact Lib.hid (by omega)
      clear h6 hbc
      by_cases hkm : (k : Int) = most
      · have e1 : ((k : Int) == most) = true := by simp [hkm]
        have HKM := Lib.hid hkm
        clear hkm
        gi_wp2
        exact ⟨Turn.refl _ _, rfl, ⟨_, h1, h2, h3, h4, h5, HB6.out⟩, HKM.out⟩
      · have e1 : ((k : Int) == most) = false := by simp [hkm]
        clear hkm
        have HS1 : Hid (st (Jn xs) n k + (st (Jn xs) n (k + 1) - st (Jn xs) n k) = st (Jn xs) n (k + 1)) := Lib.hid (by omega)
        have hm0 : 0 < st (Jn xs) n (k + 1) - st (Jn xs) n k := by omega
        have hmn : st (Jn xs) n k + (st (Jn xs) n (k + 1) - st (Jn xs) n k) ≤ n := by omega
        generalize (xs.drop (st (Jn xs) n k)).take (st (Jn xs) n (k + 1) - st (Jn xs) n k) = ys at *
        generalize hmm : st (Jn xs) n (k + 1) - st (Jn xs) n k = m at *
        clear hmm hmo hle
        have e3 : ((m : Int) == 0) = false := by simp; omega
        gi_wp2_with (gi_at_builtin; refine wpListIn_append_own _ rfl _ _ 22 rfl (w2.heap.size + 3) 21 i0 _ 1 4 Try.underlying22 hi hz0 hz1 hz2 rfl (by decide) (.slice A0 (st (Jn xs) n k) C0) (st (Jn xs) n k) _ rfl h2 ⟨b, off + st (Jn xs) n k, none⟩ m m (ys.map (Value.int .i32)) rfl (by rw [List.length_map, HNL.out]; omega) HBC.out (one_cells _ _) (by unfold maxLen; omega) (by omega) (by omega) ?_; intro v' w3 hown' hgrow _; obtain ⟨A9, C9, rfl⟩ := own_slice hown'; obtain ⟨hv1, hv2, hr2, hT2⟩ := appended (Turn.refl (Rnd w.heap.size (Q + 1 + 1) w2.heap.size) _) h1 (by decide) h2 (by omega) (by omega) (by omega) (by omega) hown' hgrow; have hc6 := hv1.cell; have hf6 := hv1.frozen; have hn3 := h3.kept hgrow (h3.not_row (by decide) h2); have hn4 := h4.kept hgrow (h4.not_row (by decide) h2); have hn5 := h5.kept hgrow (h5.not_row (by decide) h2); have hc7 := hn3.cell; have hf7 := hn3.frozen)
        have hT3 : Turn (Rnd w.heap.size (Q + 1 + 1) w2.heap.size) W ((w3.setCell ⟨Q, 0, none⟩ (.slice A9 (st (Jn xs) n k + m) C9)).setCell ⟨Q + 1, 0, none⟩ (.int .i64 (k + 1))) := hT2.trans (Turn.setCell _ _ ⟨by show _ ≤ Q + 1; omega, by show Q + 1 ≠ _; omega, .inl (by show Q + 1 < _; omega)⟩)
        have S1 : Turn (fun j => j = Q) w3 (w3.setCell ⟨Q, 0, none⟩ (.slice A9 (st (Jn xs) n k + m) C9)) := Turn.setCell _ _ rfl
        have S2 : Turn (fun j => j = Q + 1) (w3.setCell ⟨Q, 0, none⟩ (.slice A9 (st (Jn xs) n k + m) C9)) ((w3.setCell ⟨Q, 0, none⟩ (.slice A9 (st (Jn xs) n k + m) C9)).setCell ⟨Q + 1, 0, none⟩ (.int .i64 (k + 1))) := Turn.setCell _ _ rfl
        refine ⟨hT3, _, S2.boxed hv2 (by omega), ?_, ?_, S2.boxed (S1.boxed hn4 (by omega)) (by omega), S2.boxed (S1.boxed hn5 (by omega)) (by omega), HB6.out.trans (hT3.below HB6.out.size (fun j hj => hj.1))⟩
        · rw [HEX.out, List.map_append, ← HS1.out]
          exact S2.kept hr2 (fun g hg h => by have := (hr2.lt g hg).1; omega)
        · have := (S1.boxed hn3 (by omega)).set (.int .i64 ((k : Int) + 1))
          exact this
    case done =>
      rintro W ⟨v, h1, h2, h3, h4, h5, h6⟩ hK
      rw [HL.out] at h2 h3
      obtain ⟨A0, C0, rfl⟩ := own_slice h2
      have HCN : Hid (cnt (Jn xs) n = cnt (Jn xs) n) := rfl
      have hc1 := h1.cell
      have hc3 := h3.cell
      have hc4 := h4.cell
      have hc5 := h5.cell
      have hf5 := h5.frozen
      have hsl : st (Jn xs) n (cnt (Jn xs) n) ≤ n := by first | exact st_le (by omega) | (rw [← HCN.out]; exact st_le (Nat.le_refl _))
      have HI1 := Lib.hid (ints_of_own h2)
      have HI2 : Hid (Ints .i32 W a (st (Jn xs) n (cnt (Jn xs) n)) (xs.take (st (Jn xs) n (cnt (Jn xs) n)))) := by
        obtain ⟨g1, g2⟩ := HH.out.ints.below h6
        refine ⟨by simp; omega, g2.imp (fun h => by omega) ?_⟩
        rintro ⟨b', off', e1, e2, e3⟩
        refine ⟨b', off', e1, Nat.lt_of_lt_of_le e2 (Nat.le_refl _), fun i x hi => e3 i x ?_⟩
        rw [List.getElem?_take] at hi
        split at hi
        · exact hi
        · cases hi
      have HB6 := Lib.hid h6
      have hcn := HH.out.le
      have hsc : ((st (Jn xs) n (cnt (Jn xs) n) : Nat) : Int) ≤ c := by omega
      have hsn : st (Jn xs) n (cnt (Jn xs) n) = n := st_cnt n
      have HSN := Lib.hid hsn
      have e4 : ((st (Jn xs) n (cnt (Jn xs) n) : Int) == n) = true := by rw [hsn]; simp
      have d4 : decide ((n : Int) < (st (Jn xs) n (cnt (Jn xs) n) : Nat)) = false := by rw [hsn]; simp
      clear hsn
      generalize hkk : cnt (Jn xs) n = kk at *
      clear hkk
      by_cases hkm : ((kk : Nat) : Int) = most
      · have e1 : (((kk : Nat) : Int) == most) = true := by simp [hkm]
        clear hkm
        gi_wp2
        refine wpIn_wide.2 ?_
        have cS := Lib.hid fun d os => Calls.regrown_of (w := W) (d := d) (os := os) (same_true A0 (st (Jn xs) n kk) C0 (xs.take (st (Jn xs) n kk)) a (st (Jn xs) n kk) c (Go.Sort.grow (redrawn W d) os) (HI1.out.below (below_regrown W d os)) (HI2.out.below (below_regrown W d os)) (by omega))
        have r1 := cell_regrown hc1
        have r3 := cell_regrown hc3
        have r4 := cell_regrown hc4
        refine QuietTail.wp_region_tail_below 18 (by kernel_rfl) (by kernel_rfl) ?_
        repeat (quiet_step (exact cS.out _ _))
        refine wpQuiet_nil ?_
        rintro W' ⟨⟨dq, osq⟩, rfl⟩
        have T9 : Turn (fun _ => False) W (Go.Sort.grow (redrawn W dq) osq) := Turn.of_new (below_regrown W dq osq)
        have x5 := T9.boxed h5 id
        have y5 := x5.cell
        have z5 := x5.frozen
        have hK9 := T9.heap hK id
        have HB9 := Lib.hid (HB6.out.trans ((below_regrown W dq osq).mono HB6.out.size))
        clear r1 r3 r4 cS T9 hc1 hc3 hc4 hc5 hf5 h1 h2 h3 h4 h5 hK HI1 HI2 HB6
        generalize Go.Sort.grow (redrawn W dq) osq = wn at *
        simp only [List.drop]
        go_wp2
        have x6 := x5.set (.bool true)
        have hK8 := (Turn.setCell (T := fun j => j = w.heap.size + 1) wn (.bool true) (p := ⟨w.heap.size + 1, 0, none⟩) rfl).heap hK9 (by omega)
        have HB8 := HB9.out.trans ((Turn.setCell (T := fun j => j = w.heap.size + 1) wn (.bool true) (p := ⟨w.heap.size + 1, 0, none⟩) rfl).below HB9.out.size (fun j hj => by omega))
        generalize wn.setCell ⟨w.heap.size + 1, 0, none⟩ (.bool true) = wz at *
        gi_wp2
        refine ⟨by simp, .inl ⟨_, _, rfl, run_takeDeferred hK8, ?_⟩⟩
        have x7 := (Turn.putObj (T := fun j => j = w2.heap.size) wz w2.heap.size (.deferred none) rfl).boxed x6 (by omega)
        have c7 := x7.cell
        refine ⟨.bool true, ?_, rfl, below_shut HB8 (Nat.le_refl _) (by omega) _⟩
        simp [results, Try.f6, go_sem, c7]
      · have e1 : (((kk : Nat) : Int) == most) = false := by simp [hkm]
        clear hkm
        gi_wp2
        refine wpIn_wide.2 ?_
        have cS := Lib.hid fun d os => Calls.regrown_of (w := W) (d := d) (os := os) (same_true A0 (st (Jn xs) n kk) C0 (xs.take (st (Jn xs) n kk)) a (st (Jn xs) n kk) c (Go.Sort.grow (redrawn W d) os) (HI1.out.below (below_regrown W d os)) (HI2.out.below (below_regrown W d os)) (by omega))
        have r1 := cell_regrown hc1
        have r3 := cell_regrown hc3
        have r4 := cell_regrown hc4
        refine QuietTail.wp_region_tail_below 18 (by kernel_rfl) (by kernel_rfl) ?_
        repeat (quiet_step (exact cS.out _ _))
        refine wpQuiet_nil ?_
        rintro W' ⟨⟨dq, osq⟩, rfl⟩
        have T9 : Turn (fun _ => False) W (Go.Sort.grow (redrawn W dq) osq) := Turn.of_new (below_regrown W dq osq)
        have x5 := T9.boxed h5 id
        have y5 := x5.cell
        have z5 := x5.frozen
        have hK9 := T9.heap hK id
        have HB9 := Lib.hid (HB6.out.trans ((below_regrown W dq osq).mono HB6.out.size))
        clear r1 r3 r4 cS T9 hc1 hc3 hc4 hc5 hf5 h1 h2 h3 h4 h5 hK HI1 HI2 HB6
        generalize Go.Sort.grow (redrawn W dq) osq = wn at *
        simp only [List.drop]
        go_wp2
        have x6 := x5.set (.bool true)
        have hK8 := (Turn.setCell (T := fun j => j = w.heap.size + 1) wn (.bool true) (p := ⟨w.heap.size + 1, 0, none⟩) rfl).heap hK9 (by omega)
        have HB8 := HB9.out.trans ((Turn.setCell (T := fun j => j = w.heap.size + 1) wn (.bool true) (p := ⟨w.heap.size + 1, 0, none⟩) rfl).below HB9.out.size (fun j hj => by omega))
        generalize wn.setCell ⟨w.heap.size + 1, 0, none⟩ (.bool true) = wz at *
        gi_wp2
        refine ⟨by simp, .inl ⟨_, _, rfl, run_takeDeferred hK8, ?_⟩⟩
        have x7 := (Turn.putObj (T := fun j => j = w2.heap.size) wz w2.heap.size (.deferred none) rfl).boxed x6 (by omega)
        have c7 := x7.cell
        refine ⟨.bool true, ?_, rfl, below_shut HB8 (Nat.le_refl _) (by omega) _⟩
        simp [results, Try.f6, go_sem, c7]
    case stop =>
      rintro cc k W hk ⟨rfl, ⟨v, h1, h2, h3, h4, h5, h6⟩, hkm⟩ hK
      rw [HL.out] at hk
      obtain ⟨A0, C0, rfl⟩ := own_slice h2
      have HCN : Hid (cnt (Jn xs) n = cnt (Jn xs) n) := rfl
      have hc1 := h1.cell
      have hc3 := h3.cell
      have hc4 := h4.cell
      have hc5 := h5.cell
      have hf5 := h5.frozen
      have hsl : st (Jn xs) n k ≤ n := by first | exact st_le (by omega) | (rw [← HCN.out]; exact st_le (Nat.le_refl _))
      have HI1 := Lib.hid (ints_of_own h2)
      have HI2 : Hid (Ints .i32 W a (st (Jn xs) n k) (xs.take (st (Jn xs) n k))) := by
        obtain ⟨g1, g2⟩ := HH.out.ints.below h6
        refine ⟨by simp; omega, g2.imp (fun h => by omega) ?_⟩
        rintro ⟨b', off', e1, e2, e3⟩
        refine ⟨b', off', e1, Nat.lt_of_lt_of_le e2 (Nat.le_refl _), fun i x hi => e3 i x ?_⟩
        rw [List.getElem?_take] at hi
        split at hi
        · exact hi
        · cases hi
      have HB6 := Lib.hid h6
      have hcn := HH.out.le
      have hsc : ((st (Jn xs) n k : Nat) : Int) ≤ c := by omega
      have e1 : ((k : Int) == most) = true := by simp [hkm]
      clear hkm
      have d4 : decide ((n : Int) < (st (Jn xs) n k : Nat)) = false := by simp; omega
      gi_wp2
      refine wpIn_wide.2 ?_
      have cS := Lib.hid fun d os => Calls.regrown_of (w := W) (d := d) (os := os) (same_true A0 (st (Jn xs) n k) C0 (xs.take (st (Jn xs) n k)) a (st (Jn xs) n k) c (Go.Sort.grow (redrawn W d) os) (HI1.out.below (below_regrown W d os)) (HI2.out.below (below_regrown W d os)) (by omega))
      have r1 := cell_regrown hc1
      have r3 := cell_regrown hc3
      have r4 := cell_regrown hc4
      refine QuietTail.wp_region_tail_below 18 (by kernel_rfl) (by kernel_rfl) ?_
      repeat (quiet_step (exact cS.out _ _))
      refine wpQuiet_nil ?_
      rintro W' ⟨⟨dq, osq⟩, rfl⟩
      have T9 : Turn (fun _ => False) W (Go.Sort.grow (redrawn W dq) osq) := Turn.of_new (below_regrown W dq osq)
      have x5 := T9.boxed h5 id
      have y5 := x5.cell
      have z5 := x5.frozen
      have hK9 := T9.heap hK id
      have HB9 := Lib.hid (HB6.out.trans ((below_regrown W dq osq).mono HB6.out.size))
      clear r1 r3 r4 cS T9 hc1 hc3 hc4 hc5 hf5 h1 h2 h3 h4 h5 hK HI1 HI2 HB6
      generalize Go.Sort.grow (redrawn W dq) osq = wn at *
      simp only [List.drop]
      go_wp2
      have x6 := x5.set (.bool true)
      have hK8 := (Turn.setCell (T := fun j => j = w.heap.size + 1) wn (.bool true) (p := ⟨w.heap.size + 1, 0, none⟩) rfl).heap hK9 (by omega)
      have HB8 := HB9.out.trans ((Turn.setCell (T := fun j => j = w.heap.size + 1) wn (.bool true) (p := ⟨w.heap.size + 1, 0, none⟩) rfl).below HB9.out.size (fun j hj => by omega))
      generalize wn.setCell ⟨w.heap.size + 1, 0, none⟩ (.bool true) = wz at *
      gi_wp2
      refine ⟨by simp, .inl ⟨_, _, rfl, run_takeDeferred hK8, ?_⟩⟩
      have x7 := (Turn.putObj (T := fun j => j = w2.heap.size) wz w2.heap.size (.deferred none) rfl).boxed x6 (by omega)
      have c7 := x7.cell
      refine ⟨.bool true, ?_, rfl, below_shut HB8 (Nat.le_refl _) (by omega) _⟩
      simp [results, Try.f6, go_sem, c7]

end Go.Proofs.Ytihanlahegngoaa.Gra

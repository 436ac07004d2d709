/-
  The plain law of a text that is brought to stops. No Go in sight.
  tabs.Expand.
-/
import Derived.Test.YtcbfmokafmagpaaGreatTabsA
import Derived.Test.YtcbfmokafmagpaaGreatFitLaw
import Derived.Test.YtcbfmokafmagpaaGreatRep
import Derived.Test.YtcbfmokafmagpaaGreatJustF
namespace Go.Proofs.YtcbfmokafmagpaaGreat.Stops
set_option linter.unusedSimpArgs false
set_option linter.unusedVariables false
open Go Go.RowKit Go.Shelf Mem Turn Gra Same GraLaw Mea

noncomputable def nxt (M : Int → Prop) (c : Int) : Int := Classical.epsilon (NextQ M c)
theorem nxt_eq {M : Int → Prop} {c r : Int} (h : NextQ M c r) : nxt M c = r := nextQ_one (Classical.epsilon_spec (p := NextQ M c) ⟨r, h⟩) h
/-- so many blanks -/
noncomputable def gapN (M : Int → Prop) (c : Int) : Nat := (max 1 (nxt M c - c)).toNat
noncomputable def stepE (M : Int → Prop) (s : List Int × Int) (c : List Int) : List Int × Int :=
  if c.getD 0 0 = 9 then (s.1 ++ List.replicate (gapN M s.2) 32, s.2 + gapN M s.2)
  else if c.getD (c.length - 1) 0 = 10 then (s.1 ++ c, 0) else (s.1 ++ c, s.2 + wideV c)
noncomputable def xE (M : Int → Prop) (f : Nat → List Int) : Nat → List Int × Int
  | 0 => ([], 0)
  | k + 1 => stepE M (xE M f k) (f k)
/-- what stays small -/
def Sm (s : List Int × Int) (k t : Nat) : Prop := 0 ≤ s.2 ∧ s.2 ≤ 1024 * k ∧ s.1.length ≤ 1024 * k + t
theorem step_tab {M : Int → Prop} {s : List Int × Int} {c : List Int} (h : c.getD 0 0 = 9) : stepE M s c = (s.1 ++ List.replicate (gapN M s.2) 32, s.2 + gapN M s.2) := by unfold stepE; rw [if_pos h]
theorem step_nl {M : Int → Prop} {s : List Int × Int} {c : List Int} (h : ¬ c.getD 0 0 = 9) (h2 : c.getD (c.length - 1) 0 = 10) : stepE M s c = (s.1 ++ c, 0) := by unfold stepE; rw [if_neg h, if_pos h2]
theorem step_else {M : Int → Prop} {s : List Int × Int} {c : List Int} (h : ¬ c.getD 0 0 = 9) (h2 : ¬ c.getD (c.length - 1) 0 = 10) : stepE M s c = (s.1 ++ c, s.2 + wideV c) := by unfold stepE; rw [if_neg h, if_neg h2]
theorem next_le {cs : List Int} (hr : Rise cs) {c r : Int} (h : NextQ (· ∈ cs) c r) : r ≤ 1023 := by
  rcases h with ⟨h1, _, _⟩ | ⟨h1, _⟩
  · exact (hr.2 r h1).2
  · omega
theorem gapN_le {cs : List Int} (hr : Rise cs) {c r : Int} (h : NextQ (· ∈ cs) c r) (hc : 0 ≤ c) : (gapN (· ∈ cs) c : Int) = max 1 (r - c) ∧ 1 ≤ gapN (· ∈ cs) c ∧ gapN (· ∈ cs) c ≤ 1023 := by
  unfold gapN
  rw [nxt_eq h]
  have := next_le hr h
  omega

end Go.Proofs.YtcbfmokafmagpaaGreat.Stops

namespace Go.Proofs.YtcbfmokafmagpaaGreat.Stops
set_option linter.unusedSimpArgs false
set_option linter.unusedVariables false
open Go Go.RowKit Go.Shelf Mem Turn Gra Same GraLaw Mea
attribute [local go_sem] Oper.semAt_some

/-- what a round of Expand keeps -/
def EI (w : World) (B q : Nat) (M : Int → Prop) (xs : List Int) (k : Nat) (X : World) : Prop :=
  Boxed X w.heap.size 43 (.pointer (some ⟨q, 0, none⟩)) ∧ (∃ v, Boxed X (w.heap.size + 1) 22 v ∧ X.ownsRow (B + 3) 21 1 v (xE M (cl xs) k).1.length ((xE M (cl xs) k).1.map (Value.int .i32))) ∧
    Boxed X (w.heap.size + 2) 3 (.int .i64 (xE M (cl xs) k).2) ∧ Below w.heap.size w X ∧ Sm (xE M (cl xs) k) k (st (Jn xs) xs.length k)
theorem ei_own {w X Y : World} {B q k : Nat} {M : Int → Prop} {xs : List Int} (h : EI w B q M xs k X) (ht : Turn (Own3 B) X Y) (hB : w.heap.size + 3 ≤ B) : EI w B q M xs k Y := by
  obtain ⟨h1, ⟨v, h2, h3⟩, h4, h5, h6⟩ := h
  exact ⟨ht.boxed h1 (fun h => by have := h.1; omega), ⟨v, ht.boxed h2 (fun h => by have := h.1; omega), ht.own3 h3⟩, ht.boxed h4 (fun h => by have := h.1; omega), h5.trans (ht.below h5.size (fun j hj => by have := hj.1; omega)), h6⟩

theorem out_step {w X w5 w6 : World} {B m m' : Nat} {v v' : Value} {xs ys : List Value} (hB : w.heap.size + 4 ≤ B) (hb5 : Below X.heap.size X w5) (h2 : Boxed X (w.heap.size + 1) 22 v) (h3 : X.ownsRow (B + 3) 21 1 v m xs) (hown' : w6.ownsRow (B + 3) 21 1 v' m' ys) (hgrow : w5.grownBy w6 v.ownBlock) :
    Boxed w6 (w.heap.size + 1) 22 v ∧ Boxed (w6.setCell ⟨w.heap.size + 1, 0, none⟩ v') (w.heap.size + 1) 22 v' ∧ (w6.setCell ⟨w.heap.size + 1, 0, none⟩ v').ownsRow (B + 3) 21 1 v' m' ys ∧ Turn (fun j => B + 3 ≤ j ∨ j = w.heap.size + 1) X (w6.setCell ⟨w.heap.size + 1, 0, none⟩ v') ∧ Turn (fun j => B + 3 ≤ j ∨ j = w.heap.size + 1) X w6 := by
  have T5 : Turn (fun j => B + 3 ≤ j) X w5 := Turn.of_new hb5
  have T6 : Turn (fun j => B + 3 ≤ j) w5 w6 := Turn.of_grown hgrow (fun g e => (h3.lt g e).1)
  have B6 := (T5.trans T6).boxed h2 (by omega)
  refine ⟨B6, B6.set v', (Turn.setCell (T := fun j => j = w.heap.size + 1) (p := ⟨w.heap.size + 1, 0, none⟩) _ _ rfl).kept hown' (fun g hg e => by have := (hown'.lt g hg).1; omega), ((T5.trans T6).mono fun j _ h => .inl h).trans (Turn.setCell _ _ (.inr rfl)), (T5.trans T6).mono fun j _ h => .inl h⟩

theorem ei_mk {w X Y : World} {B q k : Nat} {M : Int → Prop} {xs : List Int} {s s' : List Int × Int} {t' : Nat} {v : Value} (hB : w.heap.size + 4 ≤ B) (hT : Turn (fun j => B + 3 ≤ j ∨ j = w.heap.size + 1) X Y)
    (h1 : Boxed X w.heap.size 43 (.pointer (some ⟨q, 0, none⟩))) (h2 : Boxed Y (w.heap.size + 1) 22 v) (h3 : Y.ownsRow (B + 3) 21 1 v s'.1.length (s'.1.map (Value.int .i32)))
    (h4 : Boxed X (w.heap.size + 2) 3 (.int .i64 s.2)) (h5 : Below w.heap.size w X) (hs : xE M (cl xs) (k + 1) = s') (ht : st (Jn xs) xs.length (k + 1) = t') (hm : Sm s' (k + 1) t') :
    Turn (Rnd w.heap.size (w.heap.size + 3) B) X (Y.setCell ⟨w.heap.size + 2, 0, none⟩ (.int .i64 s'.2)) ∧ EI w B q M xs (k + 1) (Y.setCell ⟨w.heap.size + 2, 0, none⟩ (.int .i64 s'.2)) := by
  have TS : Turn (fun j => j = w.heap.size + 2) Y (Y.setCell ⟨w.heap.size + 2, 0, none⟩ (.int .i64 s'.2)) := Turn.setCell _ _ rfl
  have TA : Turn (fun j => B + 3 ≤ j ∨ j = w.heap.size + 1 ∨ j = w.heap.size + 2) X (Y.setCell ⟨w.heap.size + 2, 0, none⟩ (.int .i64 s'.2)) := (hT.mono fun j _ h => h.elim .inl (fun h => .inr (.inl h))).trans (TS.mono fun j _ h => .inr (.inr h))
  refine ⟨TA.mono fun j _ h => ⟨by omega, by omega, by omega⟩, ?_⟩
  unfold EI
  rw [hs, ht]
  refine ⟨TA.boxed h1 (by omega), ⟨v, TS.boxed h2 (by omega), TS.kept h3 (fun g hg e => by have := (h3.lt g hg).1; omega)⟩, (hT.boxed h4 (by omega)).set _, h5.trans (TA.below h5.size (fun j h => by omega)), hm⟩

set_option maxRecDepth 100000 in
set_option maxHeartbeats 8000000 in
theorem expand_any (q B : Nat) (cs : List Int) (hr : Rise cs) (w : World) (hst : StopsAt w q B cs) (a : Option Addr) (n c : Nat) (xs : List Int) (h : Runes w a n c xs) (hn : n ≤ 1000) :
    Calls Tryz.prog 24 #[.pointer (some ⟨q, 0, none⟩), .slice a n c] w fun e w' => ∃ o, o = (xE (· ∈ cs) (cl xs) (cnt (Jn xs) xs.length)).1 ∧ o.length ≤ 2000000 ∧ Fresh w w' 21 1 o.length (o.map (Value.int .i32)) e := by
  obtain ⟨i1, hi1, hy0, hy1, hy2⟩ := info_parts info_i32
  have hmx : Tryz.prog.follows .mixedOrders = true := by kernel_rfl
  obtain ⟨b, off, hab, hG⟩ := gives_any h
  have hlen := h.ints.1
  have HG := Lib.hid hG
  have HL := Lib.hid hlen
  have HA := Lib.hid hab
  have HR := Lib.hid h.r32
  have HRS := Lib.hid hr
  have HST := Lib.hid hst
  clear hab hG h hlen hr hst
  refine (callsIn_wide (n := 6)).1 ?_
  refine callsIn_of_wp_marks Tryz.func24 rfl trivial ?_ rfl
  simp only [Tryz.ntmps24, List.size_toArray, List.length_cons, List.length_nil, Nat.reduceAdd, Nat.reduceSub, Array.replicate_succ, Array.replicate_zero, List.push_toArray, List.append_toArray, List.nil_append, List.cons_append]
  gi_wp2_with fail
  refine ⟨trivial, callsIn_wide.2 ?_⟩
  refine (Gra.all_any _ _ _ _).mono ?_
  rintro e w1 ⟨rfl, rfl⟩
  gi_wp2_with fail
  have z1 : (w.alloc (.cells #[.pointer (some ⟨q, 0, none⟩)] 43)).heap.size = w.heap.size + 1 := by simp
  have z2 : ((w.alloc (.cells #[.pointer (some ⟨q, 0, none⟩)] 43)).alloc (.cells #[.slice none 0 0] 22)).heap.size = w.heap.size + 2 := by simp
  have z3 : (((w.alloc (.cells #[.pointer (some ⟨q, 0, none⟩)] 43)).alloc (.cells #[.slice none 0 0] 22)).alloc (.cells #[.int .i64 0] 3)).heap.size = w.heap.size + 3 := by simp
  have z4 : ((((w.alloc (.cells #[.pointer (some ⟨q, 0, none⟩)] 43)).alloc (.cells #[.slice none 0 0] 22)).alloc (.cells #[.int .i64 0] 3)).alloc (.cells #[.slice a n c] 22)).heap.size = w.heap.size + 4 := by simp
  have X1 := ((((Boxed.new w 43 (.pointer (some ⟨q, 0, none⟩))).alloc (.cells #[.slice none 0 0] 22)).alloc (.cells #[.int .i64 0] 3)).alloc (.cells #[.slice a n c] 22))
  have X2 := (((Boxed.new (w.alloc (.cells #[.pointer (some ⟨q, 0, none⟩)] 43)) 22 (.slice none 0 0)).alloc (.cells #[.int .i64 0] 3)).alloc (.cells #[.slice a n c] 22))
  have X3 := ((Boxed.new ((w.alloc (.cells #[.pointer (some ⟨q, 0, none⟩)] 43)).alloc (.cells #[.slice none 0 0] 22)) 3 (.int .i64 0)).alloc (.cells #[.slice a n c] 22))
  have X4 := Boxed.new (((w.alloc (.cells #[.pointer (some ⟨q, 0, none⟩)] 43)).alloc (.cells #[.slice none 0 0] 22)).alloc (.cells #[.int .i64 0] 3)) 22 (.slice a n c)
  have hbw : Below w.heap.size w ((((w.alloc (.cells #[.pointer (some ⟨q, 0, none⟩)] 43)).alloc (.cells #[.slice none 0 0] 22)).alloc (.cells #[.int .i64 0] 3)).alloc (.cells #[.slice a n c] 22)) := ((((Below.refl _ _).alloc (Nat.le_refl _) _).alloc (by simp) _).alloc (by simp; omega) _).alloc (by simp; omega) _
  rw [z1] at X2
  rw [z2] at X3
  rw [z3] at X4
  clear z1 z2 z3
  generalize ((((w.alloc (.cells #[.pointer (some ⟨q, 0, none⟩)] 43)).alloc (.cells #[.slice none 0 0] 22)).alloc (.cells #[.int .i64 0] 3)).alloc (.cells #[.slice a n c] 22)) = w2 at *
  refine wpIn_range (gf := 55) (lb := #[.pointer (some ⟨w.heap.size + 3, 0, none⟩)]) rfl (enters_of Tryz.func55 (by kernel_rfl) rfl)
    (HG.out (w.heap.size + 3) w.heap.size w2 (Nat.le_refl _) (by omega) hbw (by omega) X4.cell) (Below.refl _ _) (by omega) (by omega) (fun _ => rfl)
    (EI w w2.heap.size q (· ∈ cs) xs)
    (fun _ _ _ => False) ?hI (fun _ _ _ _ h _ => h) ?h0
    (fun k => { tmps := #[.pointer (some ⟨q, 0, none⟩), .slice a n c, .pointer (some ⟨w.heap.size, 0, none⟩), undef, .slice none 0 0, .pointer (some ⟨w.heap.size + 1, 0, none⟩), .pointer (some ⟨w.heap.size + 1 + 1, 0, none⟩), undef, pieceV xs b off k, undef, .slice a n c, .func (.func 55) #[] #[.pointer (some ⟨w.heap.size + 1 + 1 + 1, 0, none⟩)], .int .i64 (st (Jn xs) xs.length k), pieceV xs b off k, undef, undef, undef, undef, undef, undef, undef, undef, undef, undef, undef, undef, undef, undef, undef, undef, undef, undef, undef, undef, undef, undef, undef, undef, undef, undef, undef, undef, undef, undef, undef, undef, undef, undef, undef, undef, undef, undef], defers := [] }) ?assign ?body ?done ?stop
  case hI => exact fun k X Y h ht => ei_own h ht (by omega)
  case h0 => exact ⟨X1, ⟨_, X2, World.ownsRow_nil _ _ _ _⟩, X3, hbw, by show (0 : Int) ≤ 0; omega, by show (0 : Int) ≤ _; omega, Nat.zero_le _⟩
  case assign =>
    intro l k W K hK
    unfold piece
    gi_wp2
    exact hK
  case body =>
    rintro l k X hk ⟨h1, ⟨v, h2, h3⟩, h4, h5, hsm⟩ hsz
    have hyl := cl_len xs hk
    have hmo := st_mono (J := Jn xs) (n := xs.length) (j := k) (k := k + 1) (by omega) hk
    have hle := st_le (J := Jn xs) (n := xs.length) (k := k + 1) hk
    have hcx := cnt_le (J := Jn xs) xs.length
    have hkn : k < n := by have h9 := HL.out; omega
    have HYR := Lib.hid (cl_r32 HR.out k)
    have hbb := (HA.out (by omega)).2.1
    have HYI : Hid (∀ (i : Nat) (x : Int), (cl xs k)[i]? = some x → X.cell? ⟨b, off + st (Jn xs) xs.length k + i, none⟩ = some (.int .i32 x)) := by
      refine Lib.hid fun i x hx => ?_
      have hx' : xs[st (Jn xs) xs.length k + i]? = some x := by
        unfold cl at hx
        rw [List.getElem?_take] at hx
        split at hx
        · rwa [List.getElem?_drop] at hx
        · cases hx
      have := (h5.cell (p := ⟨b, off + (st (Jn xs) xs.length k + i), none⟩) hbb).trans ((HA.out (by omega)).2.2 _ _ hx')
      rw [Nat.add_assoc]
      exact this
    have hmn : st (Jn xs) xs.length (k + 1) - st (Jn xs) xs.length k ≤ 1000 := by have h9 := HL.out; omega
    have hm0 : 0 < st (Jn xs) xs.length (k + 1) - st (Jn xs) xs.length k := by omega
    have hs0n : st (Jn xs) xs.length k ≤ 1000 := by have h9 := HL.out; omega
    have HT1 : Hid (st (Jn xs) xs.length (k + 1) = st (Jn xs) xs.length k + (st (Jn xs) xs.length (k + 1) - st (Jn xs) xs.length k)) := Lib.hid (by omega)
    have hwo := wide_one xs hk
    have hwv := wideV_bd (cl xs k)
    have HSTEP : Hid (xE (· ∈ cs) (cl xs) (k + 1) = stepE (· ∈ cs) (xE (· ∈ cs) (cl xs) k) (cl xs k)) := Lib.hid rfl
    unfold pieceV
    clear hle hmo
    generalize hS : xE (· ∈ cs) (cl xs) k = s at *
    generalize hys : cl xs k = ys at *
    generalize hmm : st (Jn xs) xs.length (k + 1) - st (Jn xs) xs.length k = m at *
    generalize hss : st (Jn xs) xs.length k = s0 at *
    obtain ⟨o, col⟩ := s
    obtain ⟨hc0, hc1, hol⟩ := hsm
    simp only at h3 h4 hc0 hc1 hol
    obtain ⟨ol, hoo⟩ : ∃ ol, o.length = ol := ⟨_, rfl⟩
    have HOL := Lib.hid hoo
    rw [hoo] at h3 hol
    obtain ⟨av, cv, rfl⟩ := own_slice h3
    obtain ⟨x0, hx0⟩ : ∃ x0, ys[0]? = some x0 := ⟨_, List.getElem?_eq_getElem (by omega)⟩
    have hg0 : ys.getD 0 0 = x0 := by simp [List.getD_eq_getElem?_getD, hx0]
    have c0 := HYI.out 0 x0 hx0
    rw [Nat.add_zero] at c0
    have hRy : Hid (Runes X (some ⟨b, off + s0, none⟩) m m ys) := ⟨⟨hyl, .inr ⟨b, off + s0, rfl, Nat.lt_of_lt_of_le hbb h5.size, HYI.out⟩⟩, HYR.out, Nat.le_refl _, by omega⟩
    have H1 := Lib.hid h1
    have H2 := Lib.hid h2
    have H3 := Lib.hid h3
    have H4 := Lib.hid h4
    have H5 := Lib.hid h5
    have HG0 := Lib.hid hg0
    have HYL := Lib.hid hyl
    have HST5 := Lib.hid (HST.out.below h5)
    have hmi : (0 : Int) < (m : Int) := by omega
    have hB4 : Hid (w.heap.size + 4 ≤ w2.heap.size) := Lib.hid (by omega)
    have HKN : Hid (k ≤ 1000) := Lib.hid (by omega)
    have q0 := h1.cell
    have q1 := h2.cell
    have q2 := h4.cell
    have f1 := h2.frozen
    have f2 := h4.frozen
    have hk1000 : k ≤ 1000 := by omega
    clear hmm hss hS hys h1 h2 h3 h4 h5 hx0 hg0 hoo hyl
    by_cases h9 : x0 = 9
    · have d9 : (x0 == 9) = true := by simp [h9]
      have HSE : Hid (xE (· ∈ cs) (cl xs) (k + 1) = (o ++ List.replicate (gapN (· ∈ cs) col) 32, col + gapN (· ∈ cs) col)) := by rw [HSTEP.out]; exact Lib.hid (step_tab (by rw [HG0.out]; exact h9))
      clear h9 HSTEP
      gi_wp2
      refine round_begin (fun w' => w'.cell? ⟨w.heap.size, 0, none⟩ = some (.pointer (some ⟨q, 0, none⟩)) ∧ w'.cell? ⟨w.heap.size + 1 + 1, 0, none⟩ = some (.int .i64 col)) (fun _ => false) hmx (by kernel_rfl) (by rintro ⟨_, _, h⟩; exact h) ?_
      have hS : X.drew.cell? ⟨w.heap.size, 0, none⟩ = some (.pointer (some ⟨q, 0, none⟩)) ∧ X.drew.cell? ⟨w.heap.size + 1 + 1, 0, none⟩ = some (.int .i64 col) := ⟨q0, q2⟩
      refine take_first (i := 0) rfl (by kernel_rfl) (by kernel_rfl) (by kernel_rfl) (by kernel_rfl) (fun _ _ _ h => h) hS (.inl ⟨by rfl, fun w' hw' => by obtain ⟨e0, e1⟩ := hw'; go_simp; try with_reducible rfl⟩) ?_
      refine take_first (i := 1) rfl (by kernel_rfl) (by kernel_rfl) (by kernel_rfl) (by kernel_rfl) (fun _ _ _ h => h) hS (.inl ⟨by rfl, fun w' hw' => by obtain ⟨e0, e1⟩ := hw'; go_simp; try with_reducible rfl⟩) ?_
      refine take_first (i := 3) rfl (by kernel_rfl) (by kernel_rfl) (by kernel_rfl) (by kernel_rfl) (fun _ _ _ h => h) hS (.inl ⟨by rfl, fun w' hw' => by obtain ⟨e0, e1⟩ := hw'; go_simp; try with_reducible rfl⟩) ?_
      refine take_g (i := 2) (by kernel_rfl) rfl rfl fun K hK => ?_
      go_wp2_with fail
      refine (next_any q B cs HRS.out X.drew (HST5.out.below (Below.refl _ _).drew) col).mono ?_
      rintro e w3 ⟨⟨r, rfl, hP⟩, rfl⟩
      have hr1 := next_le HRS.out hP
      have hgp := gapN_le HRS.out hP hc0
      have hr0 : 0 ≤ r := by
        rcases hP with ⟨g1, _, _⟩ | ⟨g1, _⟩
        · have := (HRS.out.2 r g1).1; omega
        · omega
      refine hK _ _ (.inr hS) ?_
      clear hK hP
      generalize gapN (· ∈ cs) col = N at *
      obtain ⟨D, hD⟩ : ∃ D, r - col = D := ⟨_, rfl⟩
      have u1 : IntKind.i64.wrap (r - col) = D := by rw [← hD]; exact IntWalk.i64_in _ (by omega)
      have hmaxN : max 1 D = (N : Int) := by rw [← hD]; exact hgp.1.symm
      clear hD
      obtain ⟨hgm, hN1, hN2⟩ := hgp
      clear hgm
      have u2 : IntKind.i64.wrap (col + (N : Int)) = col + (N : Int) := IntWalk.i64_in _ (by omega)
      refine take_first (i := 4) rfl (by kernel_rfl) (by kernel_rfl) (by kernel_rfl) (by kernel_rfl) (fun _ _ _ h => h) hS (.inl ⟨by rfl, fun w' hw' => by go_simp; try with_reducible rfl⟩) ?_
      refine take_first (i := 5) rfl (by kernel_rfl) (by kernel_rfl) (by kernel_rfl) (by kernel_rfl) (fun _ _ _ h => h) hS (.inl ⟨by rfl, fun w' hw' => by go_simp; try with_reducible rfl⟩) ?_
      refine take_first (i := 6) rfl (by kernel_rfl) (by kernel_rfl) (by kernel_rfl) (by kernel_rfl) (fun _ _ _ h => h) hS (.inl ⟨by rfl, fun w' hw' => by go_simp; try with_reducible rfl⟩) ?_
      clear hS
      refine take_done (by kernel_rfl) ?_ _
      gi_wp2
      refine round_begin (fun w' => w'.cell? ⟨w.heap.size + 1, 0, none⟩ = some (.slice av ol cv)) (fun j => j == 5) hmx (by kernel_rfl) (by rintro ⟨_, _, h⟩; exact h) ?_
      have hS : X.drew.drew.cell? ⟨w.heap.size + 1, 0, none⟩ = some (.slice av ol cv) := q1
      refine take_first (i := 0) rfl (by kernel_rfl) (by kernel_rfl) (by kernel_rfl) (by kernel_rfl) (fun _ _ _ h => h) hS (.inl ⟨by rfl, fun w' hw' => by have e0 : w'.cell? ⟨w.heap.size + 1, 0, none⟩ = some (.slice av ol cv) := hw'; go_simp; try with_reducible rfl⟩) ?_
      refine take_first (i := 2) rfl (by kernel_rfl) (by kernel_rfl) (by kernel_rfl) (by kernel_rfl) (fun _ _ _ h => h) hS (.inl ⟨by rfl, fun w' hw' => by have e0 : w'.cell? ⟨w.heap.size + 1, 0, none⟩ = some (.slice av ol cv) := hw'; go_simp; try with_reducible rfl⟩) ?_
      refine take_g (i := 1) (by kernel_rfl) rfl rfl fun K hK => ?_
      go_wp2
      have hbn : Below X.heap.size X (X.alloc (.cells #[.int .i32 32] 21)).drew.drew := (((Below.refl _ _).alloc (Nat.le_refl _) _).drew).drew
      have cbn : (X.alloc (.cells #[.int .i32 32] 21)).drew.drew.cell? ⟨X.heap.size, 0, none⟩ = some (.int .i32 32) := by
        show (X.alloc (.cells #[.int .i32 32] 21)).cell? ⟨X.heap.size, 0, none⟩ = _
        simp
      have sbn : X.heap.size < (X.alloc (.cells #[.int .i32 32] 21)).drew.drew.heap.size := by
        show X.heap.size < (X.alloc (.cells #[.int .i32 32] 21)).heap.size
        simp
      generalize (X.alloc (.cells #[.int .i32 32] 21)).drew.drew = w4 at *
      have HBN := Lib.hid hbn
      have hS : w4.cell? ⟨w.heap.size + 1, 0, none⟩ = some (.slice av ol cv) := (hbn.cell (World.block_lt_of_cell? _ _ q1)).trans q1
      refine hK _ _ (.inr hS) ?_
      clear hK hbn
      refine take_g (i := 3) (by kernel_rfl) rfl rfl fun K hK => ?_
      go_wp2_with fail
      refine (Rep.repeat_any X.heap.size 1 N w4 sbn cbn (by omega)).mono ?_
      rintro e w5 ⟨v5, rfl, ho5, hb5⟩
      obtain ⟨a5, c5, rfl⟩ := own_slice ho5
      have HB5 : Hid (Below X.heap.size X w5) := Lib.hid (HBN.out.trans (hb5.mono HBN.out.size))
      have HS5 := Lib.hid (Just.src_ints (ints_of_own ho5))
      have hS : w5.cell? ⟨w.heap.size + 1, 0, none⟩ = some (.slice av ol cv) := (HB5.out.cell (World.block_lt_of_cell? _ _ q1)).trans q1
      refine hK _ _ (.inr hS) ?_
      clear hK ho5 hb5 sbn cbn HBN
      refine take_g (i := 4) (by kernel_rfl) rfl rfl fun K hK => ?_
      have H35 : Hid (w5.ownsRow (w2.heap.size + 3) 21 1 (Value.slice av ol cv) ol (o.map (Value.int .i32))) := Lib.hid ((Turn.of_new HB5.out : Turn (fun _ => False) _ _).kept H3.out (fun _ _ => id))
      refine wp_append_src _ _ _ 22 rfl (w2.heap.size + 3) 21 i1 _ 1 4 Tryz.underlying22 hi1 hy0 hy1 hy2 rfl (by decide) (Value.slice av ol cv) ol _ rfl H35.out a5 N c5 ((List.replicate N (32 : Int)).map (Value.int .i32)) rfl HS5.out (one_cells _ _) (by unfold maxLen; omega) (by omega) (by have := HB5.out.size; omega) ?_
      intro v9 w9 hown9 hgrow9
      rw [← List.map_append] at hown9
      obtain ⟨a9, c9, rfl⟩ := own_slice hown9
      have HO := Lib.hid (out_step hB4.out HB5.out H2.out H3.out hown9 hgrow9)
      have p1 := HO.out.1.cell
      have p2 := HO.out.1.frozen
      clear hgrow9 hown9 HS5
      refine hK _ _ (.inr p1) ?_
      clear hK
      refine take_g (i := 5) (by kernel_rfl) rfl rfl fun K hK => ?_
      go_wp2
      refine hK _ _ (.inl rfl) ?_
      clear hK p1 p2 hS q0 q1 q2 f1 f2
      refine take_done (by kernel_rfl) ?_ _
      have hr1' : Hid (Boxed (w9.setCell ⟨w.heap.size + 1, 0, none⟩ (Value.slice a9 (ol + N) c9)) (w.heap.size + 2) 3 (.int .i64 col)) := Lib.hid (HO.out.2.2.2.1.boxed H4.out (by have := hB4.out; omega))
      have q2 := hr1'.out.cell
      have f2 := hr1'.out.frozen
      gi_wp2
      refine ei_mk (s := (o, col)) (s' := (o ++ List.replicate N 32, col + N)) hB4.out HO.out.2.2.2.1 H1.out HO.out.2.1 ?_ H4.out H5.out HSE.out HT1.out ⟨by show (0 : Int) ≤ col + N; omega, by show col + (N : Int) ≤ _; omega, ?_⟩
      · have := HO.out.2.2.1
        rw [show (o ++ List.replicate N (32 : Int)).length = ol + N by rw [List.length_append, HOL.out, List.length_replicate]]
        exact this
      · show (o ++ List.replicate N (32 : Int)).length ≤ _
        rw [List.length_append, HOL.out, List.length_replicate]
        omega
    · have d9 : (x0 == 9) = false := by simp [h9]
      obtain ⟨x1, hx1⟩ : ∃ x1, ys[m - 1]? = some x1 := ⟨_, List.getElem?_eq_getElem (by have := HYL.out; omega)⟩
      have c1 := HYI.out (m - 1) x1 hx1
      have hgl : ys.getD (ys.length - 1) 0 = x1 := by rw [HYL.out]; simp [List.getD_eq_getElem?_getD, hx1]
      have u3 : IntKind.i64.wrap ((m : Int) - 1) = (m : Int) - 1 := IntWalk.i64_in _ (by omega)
      have e3 : ((m : Int) - 1).toNat = m - 1 := by omega
      have g3 : (0 : Int) ≤ (m : Int) - 1 := by omega
      have g4 : (m : Int) - 1 < (m : Int) := by omega
      have HSR : Hid (Turn.Src X (some ⟨b, off + s0, none⟩) m 1 (ys.map (Value.int .i32))) := Lib.hid (Just.src_ints hRy.out.ints)
      clear hx1
      by_cases h10 : x1 = 10
      · have d10 : (x1 == 10) = true := by simp [h10]
        have HSE : Hid (xE (· ∈ cs) (cl xs) (k + 1) = (o ++ ys, 0)) := by rw [HSTEP.out]; exact Lib.hid (step_nl (by rw [HG0.out]; exact h9) (by rw [hgl]; exact h10))
        clear h9 h10 HSTEP hgl
        have hQ2 : Hid (∀ {Y : World}, Turn (fun j => w2.heap.size + 3 ≤ j ∨ j = w.heap.size + 1) X Y → Y.cell? ⟨w.heap.size + 1 + 1, 0, none⟩ = some (.int .i64 col) ∧ Y.frozen? ⟨w.heap.size + 1 + 1, 0, none⟩ = false) := Lib.hid fun T => ⟨(T.boxed H4.out (by have := hB4.out; omega)).cell, (T.boxed H4.out (by have := hB4.out; omega)).frozen⟩
        gi_wp2_with (gi_at_builtin; refine wpListIn_of_plain rfl (by intro c h; cases h) fun K hK => ?_; (refine wp_append_src _ _ _ 22 rfl (w2.heap.size + 3) 21 i1 _ 1 4 Tryz.underlying22 hi1 hy0 hy1 hy2 rfl (by decide) (Value.slice av ol cv) ol _ rfl H3.out (some ⟨b, off + s0, none⟩) m m (ys.map (Value.int .i32)) rfl HSR.out (one_cells _ _) (by unfold maxLen; omega) (by omega) (by omega) ?_); intro v9 w9 hown9 hgrow9; rw [← List.map_append] at hown9; obtain ⟨a9, c9, rfl⟩ := own_slice hown9; have HO := Lib.hid (out_step hB4.out (Below.refl _ X) H2.out H3.out hown9 hgrow9); have p1 := HO.out.1.cell; have p2 := HO.out.1.frozen; have p3 := (hQ2.out HO.out.2.2.2.2).1; have p4 := (hQ2.out HO.out.2.2.2.2).2; clear hgrow9 hown9; refine hK _ _ ?_; clear hK)
        refine ei_mk (s := (o, col)) (s' := (o ++ ys, 0)) hB4.out HO.out.2.2.2.1 H1.out HO.out.2.1 ?_ H4.out H5.out HSE.out HT1.out ⟨by show (0 : Int) ≤ 0; omega, by show (0 : Int) ≤ _; omega, ?_⟩
        · have := HO.out.2.2.1
          rw [show (o ++ ys).length = ol + m by rw [List.length_append, HOL.out, HYL.out]]
          exact this
        · show (o ++ ys).length ≤ _
          rw [List.length_append, HOL.out, HYL.out]
          omega
      · have d10 : (x1 == 10) = false := by simp [h10]
        have HSE : Hid (xE (· ∈ cs) (cl xs) (k + 1) = (o ++ ys, col + wideV ys)) := by rw [HSTEP.out]; exact Lib.hid (step_else (by rw [HG0.out]; exact h9) (by rw [hgl]; exact h10))
        clear h9 h10 HSTEP hgl
        have hQ2 : Hid (∀ {Y : World}, Turn (fun j => w2.heap.size + 3 ≤ j ∨ j = w.heap.size + 1) X Y → Y.cell? ⟨w.heap.size + 1 + 1, 0, none⟩ = some (.int .i64 col) ∧ Y.frozen? ⟨w.heap.size + 1 + 1, 0, none⟩ = false) := Lib.hid fun T => ⟨(T.boxed H4.out (by have := hB4.out; omega)).cell, (T.boxed H4.out (by have := hB4.out; omega)).frozen⟩
        gi_wp2_with (gi_at_builtin; refine wpListIn_of_plain rfl (by intro c h; cases h) fun K hK => ?_; (refine wp_append_src _ _ _ 22 rfl (w2.heap.size + 3) 21 i1 _ 1 4 Tryz.underlying22 hi1 hy0 hy1 hy2 rfl (by decide) (Value.slice av ol cv) ol _ rfl H3.out (some ⟨b, off + s0, none⟩) m m (ys.map (Value.int .i32)) rfl HSR.out (one_cells _ _) (by unfold maxLen; omega) (by omega) (by omega) ?_); intro v9 w9 hown9 hgrow9; rw [← List.map_append] at hown9; obtain ⟨a9, c9, rfl⟩ := own_slice hown9; have HO := Lib.hid (out_step hB4.out (Below.refl _ X) H2.out H3.out hown9 hgrow9); have p1 := HO.out.1.cell; have p2 := HO.out.1.frozen; have p3 := (hQ2.out HO.out.2.2.2.2).1; have p4 := (hQ2.out HO.out.2.2.2.2).2; clear hgrow9 hown9; refine hK _ _ ?_; clear hK)
        have HRN : Hid (Runes (w9.setCell ⟨w.heap.size + 1, 0, none⟩ (Value.slice a9 (ol + m) c9)) (some ⟨b, off + s0, none⟩) m m ys) := by
          have T9 := HO.out.2.2.2.1
          have hb4 := hB4.out
          refine ⟨⟨HYL.out, .inr ⟨b, off + s0, rfl, ?_, fun i x hx => ?_⟩⟩, HYR.out, Nat.le_refl _, by omega⟩
          · exact Nat.lt_of_lt_of_le (Nat.lt_of_lt_of_le hbb H5.out.size) T9.size
          · exact (T9.cell (HYI.out i x hx) (fun h => by simp only at h; omega))
        have HP3 : Hid ((w9.setCell ⟨w.heap.size + 1, 0, none⟩ (Value.slice a9 (ol + m) c9)).cell? ⟨w.heap.size + 1 + 1, 0, none⟩ = some (.int .i64 col) ∧ (w9.setCell ⟨w.heap.size + 1, 0, none⟩ (Value.slice a9 (ol + m) c9)).frozen? ⟨w.heap.size + 1 + 1, 0, none⟩ = false) := Lib.hid (hQ2.out HO.out.2.2.2.1)
        clear p1 p2 p3 p4
        generalize hY : w9.setCell ⟨w.heap.size + 1, 0, none⟩ (Value.slice a9 (ol + m) c9) = Y at *
        have u4 : IntKind.i64.wrap (col + wideV ys) = col + wideV ys := IntWalk.i64_in _ (by omega)
        have HOY := Lib.hid HO.out.2
        clear HO hY
        have HBY : Hid (Boxed Y (w.heap.size + 2) 3 (.int .i64 col)) := Lib.hid (HOY.out.2.2.1.boxed H4.out (by have := hB4.out; omega))
        refine round_begin (fun w' => w'.cell? ⟨w.heap.size + 1 + 1, 0, none⟩ = some (.int .i64 col)) (fun j => j == 4) hmx (by kernel_rfl) (by rintro ⟨_, _, h⟩; exact h) ?_
        have hS : Y.drew.cell? ⟨w.heap.size + 1 + 1, 0, none⟩ = some (.int .i64 col) := HP3.out.1
        refine take_first (i := 0) rfl (by kernel_rfl) (by kernel_rfl) (by kernel_rfl) (by kernel_rfl) (fun _ _ _ h => h) hS (.inl ⟨by rfl, fun w' hw' => by have e0 : w'.cell? ⟨w.heap.size + 1 + 1, 0, none⟩ = some (.int .i64 col) := hw'; go_simp; try with_reducible rfl⟩) ?_
        refine take_first (i := 1) rfl (by kernel_rfl) (by kernel_rfl) (by kernel_rfl) (by kernel_rfl) (fun _ _ _ h => h) hS (.inl ⟨by rfl, fun w' hw' => by have e0 : w'.cell? ⟨w.heap.size + 1 + 1, 0, none⟩ = some (.int .i64 col) := hw'; go_simp; try with_reducible rfl⟩) ?_
        refine take_g (i := 2) (by kernel_rfl) rfl rfl fun K hK => ?_
        go_wp2_with fail
        refine (cols_any (some ⟨b, off + s0, none⟩) m m ys Y.drew (HRN.out.below (Below.refl _ _).drew) (by omega)).mono ?_
        rw [hwo]
        rintro e Z ⟨rfl, hbZ⟩
        have hbY : Below Y.heap.size Y Z := (Below.refl _ _).drew.trans hbZ
        have TZ : Turn (fun _ => False) Y Z := Turn.of_new hbY
        have hBZ := TZ.boxed HBY.out id
        have q2 := hBZ.cell
        have f2 := hBZ.frozen
        have HFIN : Hid (Boxed Z (w.heap.size + 1) 22 (Value.slice a9 (ol + m) c9) ∧ Z.ownsRow (w2.heap.size + 3) 21 1 (Value.slice a9 (ol + m) c9) (ol + m) ((o ++ ys).map (Value.int .i32)) ∧ Turn (fun j => w2.heap.size + 3 ≤ j ∨ j = w.heap.size + 1) X Z) :=
          Lib.hid ⟨TZ.boxed HOY.out.1 id, TZ.kept HOY.out.2.1 (fun _ _ => id), HOY.out.2.2.1.trans (Turn.of_new hbY)⟩
        refine hK _ _ (.inr q2) ?_
        clear hK hbY hbZ TZ hBZ HOY HBY
        refine take_g (i := 3) (by kernel_rfl) rfl rfl fun K hK => ?_
        go_wp2
        refine hK _ _ (.inr q2) ?_
        clear hK
        refine take_g (i := 4) (by kernel_rfl) rfl rfl fun K hK => ?_
        go_wp2
        refine hK _ _ (.inl rfl) ?_
        clear hK
        refine take_done (by kernel_rfl) ?_ _
        gi_wp2
        refine ei_mk (s := (o, col)) (s' := (o ++ ys, col + wideV ys)) hB4.out HFIN.out.2.2 H1.out HFIN.out.1 ?_ H4.out H5.out HSE.out HT1.out ⟨by show (0 : Int) ≤ col + wideV ys; omega, by show col + wideV ys ≤ _; omega, ?_⟩
        · have := HFIN.out.2.1
          rw [show (o ++ ys).length = ol + m by rw [List.length_append, HOL.out, HYL.out]]
          exact this
        · show (o ++ ys).length ≤ _
          rw [List.length_append, HOL.out, HYL.out]
          omega
  case done =>
    rintro X ⟨h1, ⟨v, h2, h3⟩, h4, h5, hsm⟩ hK
    have hcl := cnt_le (J := Jn xs) xs.length
    have hst' := st_cnt (J := Jn xs) xs.length
    have hln := HL.out
    have c1 := h2.cell
    have HK := Lib.hid hK
    have HB := Lib.hid h5
    have H3 := Lib.hid h3
    obtain ⟨_, _, hol⟩ := hsm
    rw [hst'] at hol
    generalize hgo : (xE (· ∈ cs) (cl xs) (cnt (Jn xs) xs.length)).1 = o at *
    have HGO := Lib.hid hgo
    clear hK h1 h2 h3 h4 h5 hgo
    gi_wp2
    refine ⟨by simp, .inl ⟨_, _, rfl, run_takeDeferred HK.out, ?_⟩⟩
    refine ⟨_, results_tmp rfl _ _ _, o, HGO.out.symm, by omega, v, rfl, (ownsRow_putObj H3.out _ HK.out rfl).mono (by omega), below_shut HB.out (Nat.le_refl _) (by omega) _⟩
  case stop =>
    rintro c k W _ h _
    exact h.elim

end Go.Proofs.YtcbfmokafmagpaaGreat.Stops

/-
  fitline.Lines.
-/
import Derived.Test.YtihanlahegngoaaFit
namespace Go.Proofs.Ytihanlahegngoaa.Fit
set_option linter.unusedSimpArgs false
set_option linter.unusedVariables false
open Go Go.RowKit Go.Shelf Mem Seg Turn Gra Same GraLaw Mea
attribute [local go_sem] Oper.semAt_some

/-- a cluster is put on a line -/
noncomputable def stepF (W : Int) (s : List (List Int) × List Int × Int) (c : List Int) : List (List Int) × List Int × Int :=
  if Basew.silentB (c.getD 0 0) then s
  else if s.2.2 < (if W < wideV c then W else wideV c) then (s.1 ++ [s.2.1], c, W - (if W < wideV c then W else wideV c))
  else (s.1, s.2.1 ++ c, s.2.2 - (if W < wideV c then W else wideV c))
theorem step_yes {W : Int} {s : List (List Int) × List Int × Int} {c : List Int} (h : Basew.silentB (c.getD 0 0) = true) : stepF W s c = s := by unfold stepF; rw [if_pos h]
theorem step_new {W : Int} {s : List (List Int) × List Int × Int} {c : List Int} {nn : Int} (h : Basew.silentB (c.getD 0 0) = false) (hn : (if W < wideV c then W else wideV c) = nn) (hr : s.2.2 < nn) : stepF W s c = (s.1 ++ [s.2.1], c, W - nn) := by
  unfold stepF; rw [hn, if_neg (by rw [h]; exact Bool.false_ne_true), if_pos hr]
theorem step_more {W : Int} {s : List (List Int) × List Int × Int} {c : List Int} {nn : Int} (h : Basew.silentB (c.getD 0 0) = false) (hn : (if W < wideV c then W else wideV c) = nn) (hr : nn ≤ s.2.2) : stepF W s c = (s.1, s.2.1 ++ c, s.2.2 - nn) := by
  unfold stepF; rw [hn, if_neg (by rw [h]; exact Bool.false_ne_true), if_neg (by omega)]
noncomputable def fS (W : Int) (f : Nat → List Int) : Nat → List (List Int) × List Int × Int
  | 0 => ([], [], W)
  | k + 1 => stepF W (fS W f k) (f k)
theorem wide_nn {W : Int} (hW : 1 ≤ W) (c : List Int) : 0 ≤ (if W < wideV c then W else wideV c) ∧ (if W < wideV c then W else wideV c) ≤ W ∧ (if W < wideV c then W else wideV c) ≤ 2 := by
  have hv := wideV_bd c
  by_cases h : W < wideV c
  · rw [if_pos h]; omega
  · rw [if_neg h]; omega
theorem fS_room {W : Int} (hW : 1 ≤ W) (f : Nat → List Int) (k : Nat) : 0 ≤ (fS W f k).2.2 ∧ (fS W f k).2.2 ≤ W := by
  induction k with
  | zero => exact ⟨by show 0 ≤ W; omega, Int.le_refl _⟩
  | succ k ih =>
    have hv := wide_nn hW (f k)
    show 0 ≤ (stepF W (fS W f k) (f k)).2.2 ∧ (stepF W (fS W f k) (f k)).2.2 ≤ W
    cases hs : Basew.silentB ((f k).getD 0 0)
    · rcases Int.lt_or_le (fS W f k).2.2 (if W < wideV (f k) then W else wideV (f k)) with h | h
      · rw [step_new hs rfl h]; exact ⟨by show 0 ≤ W - _; omega, by show W - _ ≤ W; omega⟩
      · rw [step_more hs rfl h]; exact ⟨by show 0 ≤ _ - _; omega, by show _ - _ ≤ W; omega⟩
    · rw [step_yes hs]; exact ih
theorem fS_len {W : Int} (f : Nat → List Int) (k : Nat) : (fS W f k).1.length ≤ k := by
  induction k with
  | zero => exact Nat.le_refl _
  | succ k ih =>
    show (stepF W (fS W f k) (f k)).1.length ≤ k + 1
    cases hs : Basew.silentB ((f k).getD 0 0)
    · rcases Int.lt_or_le (fS W f k).2.2 (if W < wideV (f k) then W else wideV (f k)) with h | h
      · rw [step_new hs rfl h]; simp; omega
      · rw [step_more hs rfl h]; exact Nat.le_succ_of_le ih
    · rw [step_yes hs]; omega
/-- the line in hand is no longer than what has come -/
theorem fS_line {W : Int} (xs : List Int) (k : Nat) (hk : k ≤ cnt (Jn xs) xs.length) : (fS W (cl xs) k).2.1.length ≤ st (Jn xs) xs.length k := by
  induction k with
  | zero => exact Nat.zero_le _
  | succ k ih =>
    have ih := ih (by omega)
    have hl := cl_len xs (k := k) hk
    have hm := st_mono (J := Jn xs) (n := xs.length) (j := k) (k := k + 1) (by omega) hk
    show (stepF W (fS W (cl xs) k) (cl xs k)).2.1.length ≤ _
    cases hs : Basew.silentB ((cl xs k).getD 0 0)
    · rcases Int.lt_or_le (fS W (cl xs) k).2.2 (if W < wideV (cl xs k) then W else wideV (cl xs k)) with h | h
      · rw [step_new hs rfl h]; show (cl xs k).length ≤ _; omega
      · rw [step_more hs rfl h]; show ((fS W (cl xs) k).2.1 ++ cl xs k).length ≤ _; rw [List.length_append]; omega
    · rw [step_yes hs]; omega
/-- a text's lines -/
noncomputable def fl (W : Int) (xs : List Int) : List (List Int) := (fS W (cl xs) (cnt (Jn xs) xs.length)).1 ++ [(fS W (cl xs) (cnt (Jn xs) xs.length)).2.1]

theorem wp_weak {P : Program} {c : Code} {K : Act → World → Prop} {Q : Exit → Act → World → Prop} {a : Act} {w : World} (h : c.wp P (Exit.then K (fun _ _ _ => False)) a w) : c.wp P (Exit.then K Q) a w :=
  Code.wp_mono (Q := Exit.then K (fun _ _ _ => False)) (fun e a w he => by cases e <;> first | exact he | exact he.elim) h

/-- what a round of Lines keeps -/
def LI (w : World) (B : Nat) (W : Int) (xs : List Int) (k : Nat) (X : World) : Prop :=
  Boxed X (w.heap.size + 1) 77 (.pointer (some ⟨w.heap.size, 0, none⟩)) ∧ BrI X w.heap.size (B + 3) W (fS W (cl xs) k).1 (fS W (cl xs) k).2.1 (fS W (cl xs) k).2.2 ∧ Below w.heap.size w X
theorem li_own {w X Y : World} {B : Nat} {W : Int} {xs : List Int} {k : Nat} (h : LI w B W xs k X) (ht : Turn (Own3 B) X Y) (hB : w.heap.size + 2 ≤ B) : LI w B W xs k Y :=
  ⟨ht.boxed h.1 (fun h => by have := h.1; omega), h.2.1.keep ht (fun j hj => by have := hj.1; have := hj.2; omega), h.2.2.trans (ht.below h.2.2.size (fun j hj => by have := hj.1; omega))⟩

set_option maxRecDepth 100000 in
set_option maxHeartbeats 8000000 in
theorem lines_any (a : Option Addr) (n c : Nat) (xs : List Int) (w : World) (h : Runes w a n c xs) (hn : n ≤ 1000) (x W m0 : Int) (hx1 : -9223372036854775808 ≤ x) (hx2 : x ≤ 9223372036854775807) (hm0 : (if (1024 : Int) < x then (1024 : Int) else x) = m0) (hW : (if (1 : Int) < m0 then m0 else (1 : Int)) = W) :
    Calls Try.prog 51 #[.slice a n c, .int .i64 x] w fun e w' => ∃ v, e = .returned v ∧ Lists w' w.heap.size v (fl W xs) ∧ Below w.heap.size w w' := by
  have hW1 : 1 ≤ W ∧ W ≤ 1024 := by split at hm0 <;> split at hW <;> omega
  obtain ⟨b, off, hab, hG⟩ := gives_any h
  have hlen := h.ints.1
  have HG := Lib.hid hG
  have HL := Lib.hid hlen
  have HA := Lib.hid hab
  have HR := Lib.hid h.r32
  clear hab hG h hlen
  refine (callsIn_wide (n := 6)).1 ?_
  refine callsIn_of_wp_marks Try.func51 rfl trivial ?_ rfl
  simp only [Try.ntmps51, List.size_toArray, List.length_cons, List.length_nil, Nat.reduceAdd, Nat.reduceSub, Array.replicate_succ, Array.replicate_zero, List.push_toArray, List.append_toArray, List.nil_append, List.cons_append]
  gi_wp2_with fail
  refine ⟨trivial, callsIn_wide.2 ?_⟩
  refine (all_any _ _ _ _).mono ?_
  rintro e w1 ⟨rfl, rfl⟩
  gi_wp2_with fail
  have z1 : (w.alloc (.cells #[.int .i64 W, .int .i64 W, .slice none 0 0, .slice none 0 0] 79)).heap.size = w.heap.size + 1 := by simp
  have z2 : ((w.alloc (.cells #[.int .i64 W, .int .i64 W, .slice none 0 0, .slice none 0 0] 79)).alloc (.cells #[.pointer (some ⟨w.heap.size, 0, none⟩)] 77)).heap.size = w.heap.size + 2 := by simp
  have z3 : (((w.alloc (.cells #[.int .i64 W, .int .i64 W, .slice none 0 0, .slice none 0 0] 79)).alloc (.cells #[.pointer (some ⟨w.heap.size, 0, none⟩)] 77)).alloc (.cells #[.slice a n c] 22)).heap.size = w.heap.size + 3 := by simp
  have X0 : Q4 (((w.alloc (.cells #[.int .i64 W, .int .i64 W, .slice none 0 0, .slice none 0 0] 79)).alloc (.cells #[.pointer (some ⟨w.heap.size, 0, none⟩)] 77)).alloc (.cells #[.slice a n c] 22)) w.heap.size W W (.slice none 0 0) (.slice none 0 0) := by
    refine ⟨79, ?_⟩
    rw [heap_alloc_old _ _ _ (by rw [z2]; omega), heap_alloc_old _ _ _ (by rw [z1]; omega), heap_alloc_new]
  have X1 := (Boxed.new (w.alloc (.cells #[.int .i64 W, .int .i64 W, .slice none 0 0, .slice none 0 0] 79)) 77 (.pointer (some ⟨w.heap.size, 0, none⟩))).alloc (.cells #[.slice a n c] 22)
  have X2 := Boxed.new ((w.alloc (.cells #[.int .i64 W, .int .i64 W, .slice none 0 0, .slice none 0 0] 79)).alloc (.cells #[.pointer (some ⟨w.heap.size, 0, none⟩)] 77)) 22 (.slice a n c)
  have hbw : Below w.heap.size w (((w.alloc (.cells #[.int .i64 W, .int .i64 W, .slice none 0 0, .slice none 0 0] 79)).alloc (.cells #[.pointer (some ⟨w.heap.size, 0, none⟩)] 77)).alloc (.cells #[.slice a n c] 22)) := (((Below.refl _ _).alloc (Nat.le_refl _) _).alloc (by omega) _).alloc (by omega) _
  rw [z1] at X1
  rw [z2] at X2
  clear z1 z2
  generalize (((w.alloc (.cells #[.int .i64 W, .int .i64 W, .slice none 0 0, .slice none 0 0] 79)).alloc (.cells #[.pointer (some ⟨w.heap.size, 0, none⟩)] 77)).alloc (.cells #[.slice a n c] 22)) = w2 at *
  refine wpIn_range (gf := 64) (lb := #[.pointer (some ⟨w.heap.size + 2, 0, none⟩)]) rfl (enters_of Try.func64 (by kernel_rfl) rfl)
    (HG.out (w.heap.size + 2) w.heap.size w2 (Nat.le_refl _) (by omega) hbw (by omega) X2.cell) (Below.refl _ _) (by omega) (by omega) (fun _ => rfl)
    (LI w w2.heap.size W xs)
    (fun _ _ _ => False) ?hI (fun _ _ _ _ h _ => h) ?h0
    (fun k => { tmps := #[.slice a n c, .int .i64 W, undef, undef, .slice none 0 0, .pointer (some ⟨w.heap.size + 1, 0, none⟩), undef, pieceV xs b off k, .int .i64 x, .int .i64 m0, .int .i64 W, .int .i64 W, .int .i64 W, .agg #[.int .i64 W, .int .i64 W, .slice none 0 0, .slice none 0 0], .pointer (some ⟨w.heap.size, 0, none⟩), .slice a n c, .func (.func 64) #[] #[.pointer (some ⟨w.heap.size + 2, 0, none⟩)], .int .i64 (st (Jn xs) xs.length k), pieceV xs b off k, undef, undef, undef, undef, undef, undef, undef, undef, undef, undef, undef, undef, undef, undef, undef, undef, undef, undef], defers := [] }) ?assign ?body ?done ?stop
  case hI => exact fun k X Y h ht => li_own h ht (by omega)
  case h0 => exact ⟨X1, ⟨_, _, w2.heap.size + 3, Nat.le_refl _, .inr rfl, by omega, X0, ⟨[], rfl, World.ownsRow_nil _ _ _ _, fun i xs hx => by simp [fS] at hx⟩, World.ownsRow_nil _ _ _ _⟩, hbw⟩
  case assign =>
    intro l k W K hK
    unfold piece
    gi_wp2
    exact hK
  case body =>
    rintro l k X hk ⟨h1, h2, h3⟩ hsz
    have hyl := cl_len xs hk
    have hmo := st_mono (J := Jn xs) (n := xs.length) (j := k) (k := k + 1) (by omega) hk
    have hle := st_le (J := Jn xs) (n := xs.length) (k := k + 1) hk
    have hcx := cnt_le (J := Jn xs) xs.length
    have hkn : k < n := by have h9 := HL.out; omega
    have HYR := Lib.hid (cl_r32 HR.out k)
    have hbb := (HA.out (by omega)).2.1
    have HYI : Hid (∀ (i : Nat) (x : Int), (cl xs k)[i]? = some x → X.cell? ⟨b, off + st (Jn xs) xs.length k + i, none⟩ = some (.int .i32 x)) := by
      refine Lib.hid fun i x hx => ?_
      have hx' : xs[st (Jn xs) xs.length k + i]? = some x := by
        unfold cl at hx
        rw [List.getElem?_take] at hx
        split at hx
        · rwa [List.getElem?_drop] at hx
        · cases hx
      have := (h3.cell (p := ⟨b, off + (st (Jn xs) xs.length k + i), none⟩) hbb).trans ((HA.out (by omega)).2.2 _ _ hx')
      rw [Nat.add_assoc]
      exact this
    have hmn : st (Jn xs) xs.length (k + 1) - st (Jn xs) xs.length k ≤ 1000 := by have h9 := HL.out; omega
    have hm0' : 0 < st (Jn xs) xs.length (k + 1) - st (Jn xs) xs.length k := by omega
    have hwo := wide_one xs hk
    have hrm := fS_room hW1.1 (cl xs) k
    have hfl := fS_len (W := W) (cl xs) k
    have hfn := fS_line (W := W) xs k (Nat.le_of_lt hk)
    have hnn := wide_nn hW1.1 (cl xs k)
    have hs0n : st (Jn xs) xs.length k ≤ 1000 := by have h9 := HL.out; omega
    have HLI : Hid (∀ Y s', stepF W (fS W (cl xs) k) (cl xs k) = s' → Boxed Y (w.heap.size + 1) 77 (.pointer (some ⟨w.heap.size, 0, none⟩)) → BrI Y w.heap.size (w2.heap.size + 3) W s'.1 s'.2.1 s'.2.2 → Below w.heap.size w Y → LI w w2.heap.size W xs (k + 1) Y) :=
      Lib.hid fun Y s' e a1 a2 a3 => by
        have e2 : fS W (cl xs) (k + 1) = s' := e
        exact ⟨a1, by rw [e2]; exact a2, a3⟩
    unfold pieceV
    clear hle hmo
    generalize hS : fS W (cl xs) k = s at *
    generalize hys : cl xs k = ys at *
    generalize hmm : st (Jn xs) xs.length (k + 1) - st (Jn xs) xs.length k = m at *
    generalize hss : st (Jn xs) xs.length k = s0 at *
    generalize hN : (if W < wideV ys then W else wideV ys) = nn at *
    have HN := Lib.hid hN
    obtain ⟨x0, hx0⟩ : ∃ x0, ys[0]? = some x0 := ⟨_, List.getElem?_eq_getElem (by omega)⟩
    have hg0 : ys.getD 0 0 = x0 := by simp [List.getD_eq_getElem?_getD, hx0]
    have c0 := HYI.out 0 x0 hx0
    rw [Nat.add_zero] at c0
    have hRy : Hid (Runes X (some ⟨b, off + s0, none⟩) m m ys) := ⟨⟨hyl, .inr ⟨b, off + s0, rfl, Nat.lt_of_lt_of_le hbb h3.size, HYI.out⟩⟩, HYR.out, Nat.le_refl _, by omega⟩
    have H1 := Lib.hid h1
    have H2 := Lib.hid h2
    have H3 := Lib.hid h3
    have HG0 := Lib.hid hg0
    have hmi : (0 : Int) < (m : Int) := by omega
    have cp := h1.cell
    clear hmm hss hS hys h1 h2 h3 hx0 hg0 HYI hN
    generalize hwv : wideV ys = wv at *
    have HWV := Lib.hid hwv
    clear hwv
    gi_wp2_with fail
    refine ⟨trivial, CallsIn.inRound l (callsIn_wide.2 ?_)⟩
    refine (Basew.silent_any x0 X).mono ?_
    rintro e X1 ⟨rfl, rfl⟩
    cases hsil : Basew.silentB x0
    · have hst : Basew.silentB (ys.getD 0 0) = false := by rw [HG0.out]; exact hsil
      have HST := Lib.hid hst
      clear hst hsil
      rcases Int.lt_or_le s.2.2 nn with hr | hr
      · have HP := Lib.hid (put_new w.heap.size (w2.heap.size + 3) W s.1 s.2.1 s.2.2 (some ⟨b, off + s0, none⟩) m m ys X H2.out hRy.out hm0' (by omega) HYR.out (Nat.le_refl _) (by omega) wv nn hwo HN.out ⟨hrm.1, hrm.2, hW1.2, hnn.1, by omega⟩ (by intro b' o' e; injection e with e; injection e with e1 e2; omega) (by omega) (by omega) (by omega) hr)
        gi_wp2_with fail
        refine ⟨trivial, CallsIn.inRound l (callsIn_wide.2 ?_)⟩
        refine HP.out.mono ?_
        rintro e X2 ⟨rfl, hbr, hT⟩
        have hTR : Turn (Rnd w.heap.size (w.heap.size + 2) w2.heap.size) X X2 := hT.mono (fun j _ hj => hj.elim (fun e => ⟨by omega, by omega, .inl (by omega)⟩) (fun e => ⟨by omega, by omega, .inr e⟩))
        have F := HLI.out X2 _ (step_new HST.out (by rw [HWV.out]; exact HN.out) hr) (hT.boxed H1.out (fun h => by omega)) hbr (H3.out.trans (hT.below H3.out.size (fun j hj => by omega)))
        have FF := Lib.hid (And.intro hTR F)
        clear hbr hT hTR F HP
        gi_wp2
        exact FF.out
      · have HP := Lib.hid (put_more w.heap.size (w2.heap.size + 3) W s.1 s.2.1 s.2.2 (some ⟨b, off + s0, none⟩) m m ys X H2.out hRy.out hm0' (by omega) HYR.out (Nat.le_refl _) (by omega) wv nn hwo HN.out ⟨hrm.1, hrm.2, hW1.2, hnn.1, by omega⟩ (by intro b' o' e; injection e with e; injection e with e1 e2; omega) (by omega) (by omega) (by omega) hr)
        gi_wp2_with fail
        refine ⟨trivial, CallsIn.inRound l (callsIn_wide.2 ?_)⟩
        refine HP.out.mono ?_
        rintro e X2 ⟨rfl, hbr, hT⟩
        have hTR : Turn (Rnd w.heap.size (w.heap.size + 2) w2.heap.size) X X2 := hT.mono (fun j _ hj => hj.elim (fun e => ⟨by omega, by omega, .inl (by omega)⟩) (fun e => ⟨by omega, by omega, .inr e⟩))
        have F := HLI.out X2 _ (step_more HST.out (by rw [HWV.out]; exact HN.out) hr) (hT.boxed H1.out (fun h => by omega)) hbr (H3.out.trans (hT.below H3.out.size (fun j hj => by omega)))
        have FF := Lib.hid (And.intro hTR F)
        clear hbr hT hTR F HP
        gi_wp2
        exact FF.out
    · have hst : Basew.silentB (ys.getD 0 0) = true := by rw [HG0.out]; exact hsil
      have F := HLI.out X _ (step_yes hst) H1.out H2.out H3.out
      have FF := Lib.hid (And.intro (Turn.refl (Rnd w.heap.size (w.heap.size + 2) w2.heap.size) X) F)
      clear hst F hsil
      gi_wp2
      exact FF.out
  case done =>
    rintro X ⟨h1, ⟨vo, vl, b', hb1, hb2, hqb, hQ, hO, hLn⟩, h3⟩ hK
    obtain ⟨i2, hi2, hx0, hx1', hx2'⟩ := info_parts info_sl
    have hmx : Try.prog.follows .mixedOrders = true := by kernel_rfl
    have hfl := fS_len (W := W) (cl xs) (cnt (Jn xs) xs.length)
    have hcl := cnt_le (J := Jn xs) xs.length
    have hln := HL.out
    have HFL : Hid (fl W xs = (fS W (cl xs) (cnt (Jn xs) xs.length)).1 ++ [(fS W (cl xs) (cnt (Jn xs) xs.length)).2.1]) := Lib.hid rfl
    generalize fS W (cl xs) (cnt (Jn xs) xs.length) = s at *
    obtain ⟨o, ln, r⟩ := s
    simp only at hO hLn hQ hfl HFL
    obtain ⟨al, cq, hvl⟩ := own_slice hLn
    subst hvl
    have HQ := Lib.hid hQ
    have HO := Lib.hid hO
    have HLN := Lib.hid hLn
    have H1 := Lib.hid h1
    have H3 := Lib.hid h3
    have HK := Lib.hid hK
    clear hQ hO hLn h1 h3 hK
    gi_wp2
    refine wpIn_wide.2 ?_
    refine wp_weak ?_
    refine region_begin (fun w' => w'.cell? ⟨w.heap.size + 1, 0, none⟩ = some (.pointer (some ⟨w.heap.size, 0, none⟩)) ∧ w'.cell? ⟨w.heap.size, 2, none⟩ = some vo ∧ w'.cell? ⟨w.heap.size, 3, none⟩ = some (.slice al ln.length cq)) (fun _ => false) hmx ?_
    have hS : X.drew.cell? ⟨w.heap.size + 1, 0, none⟩ = some (.pointer (some ⟨w.heap.size, 0, none⟩)) ∧ X.drew.cell? ⟨w.heap.size, 2, none⟩ = some vo ∧ X.drew.cell? ⟨w.heap.size, 3, none⟩ = some (.slice al ln.length cq) := ⟨H1.out.cell, HQ.out.c2, HQ.out.c3⟩
    have hsX := H3.out.size
    refine take_first (i := 0) rfl (by kernel_rfl) (by kernel_rfl) (by kernel_rfl) (by kernel_rfl) (fun _ _ _ h => h) hS (.inl ⟨by rfl, fun w' hw' => by obtain ⟨e0, e2, e3⟩ := hw'; go_simp; try with_reducible rfl⟩) ?_
    refine take_first (i := 1) rfl (by kernel_rfl) (by kernel_rfl) (by kernel_rfl) (by kernel_rfl) (fun _ _ _ h => h) hS (.inl ⟨by rfl, fun w' hw' => by obtain ⟨e0, e2, e3⟩ := hw'; go_simp; try with_reducible rfl⟩) ?_
    refine take_first (i := 2) rfl (by kernel_rfl) (by kernel_rfl) (by kernel_rfl) (by kernel_rfl) (fun _ _ _ h => h) hS (.inl ⟨by rfl, fun w' hw' => by obtain ⟨e0, e2, e3⟩ := hw'; go_simp; try with_reducible rfl⟩) ?_
    refine take_first (i := 3) rfl (by kernel_rfl) (by kernel_rfl) (by kernel_rfl) (by kernel_rfl) (fun _ _ _ h => h) hS (.inl ⟨by rfl, fun w' hw' => by obtain ⟨e0, e2, e3⟩ := hw'; go_simp; try with_reducible rfl⟩) ?_
    refine take_first (i := 4) rfl (by kernel_rfl) (by kernel_rfl) (by kernel_rfl) (by kernel_rfl) (fun _ _ _ h => h) hS (.inl ⟨by rfl, fun w' hw' => by obtain ⟨e0, e2, e3⟩ := hw'; go_simp; try with_reducible rfl⟩) ?_
    refine take_first (i := 5) rfl (by kernel_rfl) (by kernel_rfl) (by kernel_rfl) (by kernel_rfl) (fun _ _ _ h => h) hS (.inl ⟨by rfl, fun w' hw' => by obtain ⟨e0, e2, e3⟩ := hw'; go_simp; try with_reducible rfl⟩) ?_
    refine take_first (i := 6) rfl (by kernel_rfl) (by kernel_rfl) (by kernel_rfl) (by kernel_rfl) (fun _ _ _ h => h) hS (.inl ⟨by rfl, fun w' hw' => by obtain ⟨e0, e2, e3⟩ := hw'; go_simp; try with_reducible rfl⟩) ?_
    refine take_first (i := 7) rfl (by kernel_rfl) (by kernel_rfl) (by kernel_rfl) (by kernel_rfl) (fun _ _ _ h => h) hS (.inl ⟨by rfl, fun w' hw' => by obtain ⟨e0, e2, e3⟩ := hw'; go_simp; try with_reducible rfl⟩) ?_
    refine take_g (i := 8) (by kernel_rfl) rfl rfl fun K hK => ?_
    go_wp2
    obtain ⟨vs, v1, v2, v3⟩ := HO.out
    have hpX := H1.out.lt
    have hqX := HQ.out.lt
    have c1' : (X.drew.alloc (.cells #[.slice al ln.length cq] 22)).cell? ⟨w.heap.size + 1, 0, none⟩ = some (.pointer (some ⟨w.heap.size, 0, none⟩)) := by rw [World.cell?_alloc_lt _ _ _ (by show _ < X.heap.size; omega)]; exact hS.1
    have c2' : (X.drew.alloc (.cells #[.slice al ln.length cq] 22)).cell? ⟨w.heap.size, 2, none⟩ = some vo := by rw [World.cell?_alloc_lt _ _ _ (by show _ < X.heap.size; omega)]; exact hS.2.1
    have c3' : (X.drew.alloc (.cells #[.slice al ln.length cq] 22)).cell? ⟨w.heap.size, 3, none⟩ = some (.slice al ln.length cq) := by rw [World.cell?_alloc_lt _ _ _ (by show _ < X.heap.size; omega)]; exact hS.2.2
    refine hK _ _ (.inr ⟨c1', c2', c3'⟩) ?_
    clear hK
    have TA : Turn (fun _ => False) X (X.drew.alloc (.cells #[.slice al ln.length cq] 22)) := (Turn.drew _ _).trans (Turn.alloc _ _ _)
    have v2a := TA.kept v2 (fun _ _ => id)
    have hLa := TA.kept HLN.out (fun _ _ => id)
    have h3a : ∀ (i : Nat) (xs : List Int), o[i]? = some xs → ∃ a n c, vs[i]? = some (.slice a n c) ∧ (X.drew.alloc (.cells #[.slice al ln.length cq] 22)).ownsRow w.heap.size 21 1 (.slice a n c) n (xs.map (Value.int .i32)) ∧ ∀ g, (Value.slice a n c).ownBlock = some g → g < b' := fun i xs hx => by
      obtain ⟨a, n, c, e1, e2, e3⟩ := v3 i xs hx
      exact ⟨a, n, c, e1, (TA.kept e2 (fun _ _ => id)).mono (by omega), e3⟩
    have HBA := Lib.hid (H3.out.trans (TA.below hsX (fun j hj => hj.elim)))
    have HKA := Lib.hid (TA.heap HK.out id)
    have QA := HQ.out.keep TA id
    have PA := TA.boxed H1.out id
    clear c1' c2' c3' v3 hS
    have hsA : w.heap.size ≤ (X.drew.alloc (.cells #[.slice al ln.length cq] 22)).heap.size := Nat.le_trans hsX TA.size
    refine take_g (i := 9) (by kernel_rfl) rfl rfl fun K hK => ?_
    refine wp_append_own _ _ _ 40 rfl w.heap.size 22 i2 _ 1 24 Try.underlying40 hi2 hx0 hx1' hx2' rfl (by decide) vo o.length vs rfl (v2a.mono (by omega)) ⟨X.heap.size, 0, none⟩ 1 1 [.slice al ln.length cq] rfl rfl (cell_new1 _ _ _) ?_ (by unfold maxLen; omega) (by omega) hsA ?_
    · intro v hv
      rw [List.mem_singleton] at hv
      subst hv
      rfl
    intro v5 w5 hown5 hgrow5 _
    have TG : Turn (fun j => vo.ownBlock = some j) (X.drew.alloc (.cells #[.slice al ln.length cq] 22)) w5 := Turn.of_grown hgrow5 (fun _ e => e)
    have hvb : ∀ g, vo.ownBlock = some g → w2.heap.size + 3 ≤ g := fun g e => (v2.lt g e).1
    have Q5 := QA.keep TG (fun e => by have := hvb _ e; omega)
    have P5 := PA
    have P5 := TG.boxed PA (fun e => by have := hvb _ e; omega)
    have hk5 := TG.heap HKA.out (fun e => by have := hvb _ e; omega)
    rw [z3] at hk5
    have HK5 := Lib.hid hk5
    clear hk5
    have B5 := Lib.hid (HBA.out.trans (TG.below (by exact HBA.out.size) (fun j hj => by have := hvb _ hj; omega)))
    have O5 := Lib.hid (Outs.push v1 (v2a.mono (by omega)) h3a hLa (by omega) hown5 hgrow5)
    have hS5 : w5.cell? ⟨w.heap.size + 1, 0, none⟩ = some (.pointer (some ⟨w.heap.size, 0, none⟩)) ∧ w5.cell? ⟨w.heap.size, 2, none⟩ = some vo ∧ w5.cell? ⟨w.heap.size, 3, none⟩ = some (.slice al ln.length cq) := ⟨P5.cell, Q5.c2, Q5.c3⟩
    refine hK _ _ (.inr hS5) ?_
    clear hK hown5 hgrow5 TG TA v2a hLa h3a HKA QA PA HBA
    refine take_g (i := 10) (by kernel_rfl) rfl rfl fun K hK => ?_
    go_wp2
    refine hK _ _ (.inr hS5) ?_
    clear hK
    refine take_done (by kernel_rfl) ?_ _
    gi_wp2
    refine ⟨by simp, .inl ⟨_, _, rfl, run_takeDeferred HK5.out, ?_⟩⟩
    refine ⟨_, results_tmp rfl _ _ _, v5, rfl, ?_, below_shut B5.out (Nat.le_refl _) (by omega) _⟩
    rw [HFL.out]
    obtain ⟨vs5, u1, u2, u3⟩ := O5.out
    refine ⟨vs5, u1, ownsRow_putObj u2 _ HK5.out rfl, fun i ys hi => ?_⟩
    obtain ⟨a', n', c', e1, e2, _⟩ := u3 i ys hi
    exact ⟨a', n', c', e1, ownsRow_putObj e2 _ HK5.out rfl⟩
  case stop =>
    rintro c k W _ h _
    exact h.elim

end Go.Proofs.Ytihanlahegngoaa.Fit

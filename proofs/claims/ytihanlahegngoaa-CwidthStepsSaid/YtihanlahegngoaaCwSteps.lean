/-
  The walk of the statement CwidthSteps.
-/
import Derived.Test.YtihanlahegngoaaCwRef
import Derived.Test.YtihanlahegngoaaRound
import Derived.Lib.QuietBelow
namespace Go.Proofs.Ytihanlahegngoaa.Cw
set_option linter.unusedSimpArgs false
set_option linter.unusedVariables false
open Go Go.RowKit Go.Sort Mem Seg Gra Turn

def p4 (p : P4) : List Value := [.int .i64 p.br, .bool p.pi, .int .i64 p.co, .int .i64 p.ea]
/-- the cells of the first k properties -/
def pcl (ps : Nat → P4) : Nat → List Value
  | 0 => []
  | k + 1 => pcl ps k ++ p4 (ps k)
theorem pcl_len (ps : Nat → P4) (k : Nat) : (pcl ps k).length = k * 4 := by
  induction k with
  | zero => rfl
  | succ k ih => simp [pcl, p4, ih]; omega
theorem pcl_get (ps : Nat → P4) {k i : Nat} (h : i < k) (j : Nat) (hj : j < 4) : (pcl ps k)[i * 4 + j]? = (p4 (ps i))[j]? := by
  induction k with
  | zero => omega
  | succ k ih =>
    simp only [pcl]
    rcases Nat.lt_or_ge i k with hi | hi
    · rw [List.getElem?_append_left (by rw [pcl_len]; omega)]; exact ih hi
    · have : i = k := by omega
      subst this
      rw [List.getElem?_append_right (by rw [pcl_len]; omega), pcl_len]
      congr 1; omega
theorem pcl_congr {ps qs : Nat → P4} {k : Nat} (h : ∀ i, i < k → ps i = qs i) : pcl ps k = pcl qs k := by
  induction k with
  | zero => rfl
  | succ k ih => simp only [pcl]; rw [ih fun i hi => h i (by omega), h k (by omega)]
theorem pcl_one (ps : Nat → P4) (k : Nat) : ∀ u ∈ pcl ps k, u.oneCell' = true := by
  induction k with
  | zero => intro u hu; cases hu
  | succ k ih =>
    intro u hu
    rcases List.mem_append.1 hu with hu | hu
    · exact ih u hu
    · simp [p4] at hu
      rcases hu with rfl | rfl | rfl | rfl <;> rfl

theorem src_of {w : World} {A : Option Addr} {m C : Nat} {ps : Nat → P4} (h : IsProps w A m C ps) : Src w A m 4 (pcl ps m) := by
  rcases h with rfl | ⟨b, off, rfl, h1, h2, h3, hc⟩
  · cases A with
    | none => exact .inl ⟨rfl, rfl, rfl⟩
    | some ad => exact .inr ⟨ad, rfl, rfl, fun j u hj => by simp [pcl] at hj⟩
  · refine .inr ⟨_, rfl, pcl_len ps m, fun j u hj => ?_⟩
    have hjl := (List.getElem?_eq_some_iff.1 hj).1
    rw [pcl_len] at hjl
    obtain ⟨i, r, hr, rfl⟩ : ∃ i r, r < 4 ∧ j = i * 4 + r := ⟨j / 4, j % 4, by omega, by omega⟩
    have hi : i < m := by omega
    rw [pcl_get ps hi r hr] at hj
    obtain ⟨c0, c1, c2, c3⟩ := hc i hi
    rw [Seg_add_none]
    match r, hr, hj with
    | 0, _, hj => simp [p4] at hj; subst hj; exact c0
    | 1, _, hj => simp [p4] at hj; subst hj; rw [← Nat.add_assoc]; exact c1
    | 2, _, hj => simp [p4] at hj; subst hj; rw [← Nat.add_assoc]; exact c2
    | 3, _, hj => simp [p4] at hj; subst hj; rw [← Nat.add_assoc]; exact c3
where
  Seg_add_none (b off n : Nat) : (Addr.mk b off none).add n = ⟨b, off + n, none⟩ := by
    unfold Addr.add
    split <;> simp_all

theorem isProps_own {w : World} {base : Nat} {a : Option Addr} {n c : Nat} {ps : Nat → P4} (h : w.ownsRow base 29 4 (.slice a n c) n (pcl ps n)) : IsProps w a n c ps := by
  rcases h.2 with ⟨_, h0⟩ | ⟨g, cap, cur, h1, h2, h3, h4, h5, _⟩
  · exact .inl (by omega)
  · injection h1 with h1 _ h1c
    subst h1
    refine .inr ⟨g, 0, rfl, by omega, by omega, (Array.getElem?_eq_some_iff.1 h3).1, fun i hi => ?_⟩
    have key : ∀ j u, j < 4 → (p4 (ps i))[j]? = some u → w.cell? ⟨g, 0 + i * 4 + j, none⟩ = some u := by
      intro j u hj hu
      have := h.cells (g := g) rfl (i * 4 + j) u (by rw [pcl_get ps hi j hj]; exact hu)
      rw [src_of.Seg_add_none] at this
      rwa [Nat.add_assoc]
    exact ⟨by simpa using key 0 _ (by omega) rfl, key 1 _ (by omega) rfl, key 2 _ (by omega) rfl, key 3 _ (by omega) rfl⟩

theorem IsProps.below {w w' : World} {A : Option Addr} {m C : Nat} {ps : Nat → P4} (h : IsProps w A m C ps) (hb : Below w.heap.size w w') : IsProps w' A m C ps := by
  rcases h with h | ⟨b, off, rfl, h1, h2, h3, hc⟩
  · exact .inl h
  · refine .inr ⟨b, off, rfl, h1, h2, Nat.lt_of_lt_of_le h3 hb.size, fun i hi => ?_⟩
    obtain ⟨c0, c1, c2, c3⟩ := hc i hi
    exact ⟨(hb.cell (p := ⟨b, _, none⟩) h3).trans c0, (hb.cell (p := ⟨b, _, none⟩) h3).trans c1, (hb.cell (p := ⟨b, _, none⟩) h3).trans c2, (hb.cell (p := ⟨b, _, none⟩) h3).trans c3⟩

theorem wide_mono (l : Nat → Int) (ps : Nat → P4) (k : Nat) : wid (wideTo l ps k) ≤ wid (wideTo l ps (k + 1)) := by
  show wid (wideTo l ps k) ≤ wid (wideTo l ps k || wd l ps k)
  cases wideTo l ps k <;> cases wd l ps k <;> decide

theorem wideTo_congr {l l' : Nat → Int} {ps : Nat → P4} : ∀ {k : Nat}, (∀ i, i < k → l i = l' i) → wideTo l ps k = wideTo l' ps k
  | 0, _ => rfl
  | k + 1, h => by
    have e : wd l ps k = wd l' ps k := by unfold wd; rw [h k (by omega)]
    show (wideTo l ps k || wd l ps k) = (wideTo l' ps k || wd l' ps k)
    rw [wideTo_congr fun i hi => h i (by omega), e]

theorem num_take (xs : List Int) {m i : Nat} (h : i < m) : num (xs.take m) i = num xs i := by
  unfold num
  rw [List.getD_eq_getElem?_getD, List.getD_eq_getElem?_getD, List.getElem?_take_of_lt h]

def slen : Value → Nat
  | .slice _ n _ => n
  | _ => 0

set_option maxRecDepth 100000 in
set_option maxHeartbeats 8000000 in
theorem steps_any (w : World) (a : Option Addr) (n c : Nat) (xs : List Int) (h : Runes w a n c xs) (a2 : Option Addr) (n2 c2 : Nat) (ps : Nat → P4) (hp : IsProps w a2 n2 c2 ps) :
    Calls Try.prog 4 #[.slice a n c, .slice a2 n2 c2] w fun e w' => e = .returned (.bool true) ∧ Below w.heap.size w w' := by
  obtain ⟨i0, hi, hz0, hz1, hz2⟩ := info_parts info_prop
  have hm : n ≤ 9223372036854775807 := Nat.le_trans h.le h.max
  have HL := Lib.hid h.ints.1
  have HH := Lib.hid h
  have HP := Lib.hid hp
  clear h hp
  by_cases h1 : 200 < n
  · have d1 : decide (200 < (n : Int)) = true := by simp; omega
    go_enter Try.func4, Try.ntmps4
    go_wp2_with fail
    refine (works_any _).mono ?_; rintro e w1 ⟨rfl, hb1⟩
    go_wp2_with fail
    refine (works_any _).mono ?_; rintro e w2 ⟨rfl, hb2⟩
    have hb2 := hb1.trans (hb2.mono hb1.size)
    go_wp2
    go_ret
    exact ⟨rfl, hb2⟩
  have d1 : decide (200 < (n : Int)) = false := by simp; omega
  go_enter Try.func4, Try.ntmps4
  go_wp2_with fail
  refine (works_any _).mono ?_; rintro e w1 ⟨rfl, hb1⟩
  have B1 := Lib.hid hb1
  have hs1 := hb1.size
  clear hb1
  go_wp2
  go_loopw [1] (fun v wr => ∃ (A : Option Addr) (m C : Nat) (qs : Nat → P4), v = .slice A m C ∧ Hid (IsProps wr A m C qs ∧ Below w.heap.size w wr)) (fun v _ => n - slen v)
  case atStart => exact ⟨_, _, _, ps, rfl, IsProps.below HP.out B1.out, B1.out⟩
  case round =>
    obtain ⟨A, m, C, qs, rfl, H⟩ := hrel
    by_cases hlt : m < n
    · obtain ⟨x, hx⟩ : ∃ x, xs[m]? = some x := ⟨_, List.getElem?_eq_getElem (by rw [HL.out]; exact hlt)⟩
      obtain ⟨hl, h0 | ⟨b, off, rfl, hb, hc⟩⟩ := HH.out.ints
      · omega
      have hcx := (H.out.2.cell (p := ⟨b, off + m, none⟩) hb).trans (hc m x hx)
      obtain ⟨hr1, hr2⟩ := HH.out.r32.at hx
      have hlt' : (m : Int) < n := by omega
      have hmx : Try.prog.follows .mixedOrders = true := by kernel_rfl
      have HC := Lib.hid hcx
      clear hx hc hl
      go_wp2_with fail
      refine region_begin (fun w' => w'.cell? ⟨b, off + m, none⟩ = some (.int .i32 x)) (fun j => j == 11) hmx ?_
      refine take_first (i := 1) rfl (by kernel_rfl) (by kernel_rfl) (by kernel_rfl) (by kernel_rfl) (fun _ _ _ h => h) HC.out (.inl ⟨by rfl, fun w' hw' => by have hw2 : w'.cell? ⟨b, off + m, none⟩ = some (.int .i32 x) := hw'; go_simp; try with_reducible rfl⟩) ?_
      refine take_first (i := 3) rfl (by kernel_rfl) (by kernel_rfl) (by kernel_rfl) (by kernel_rfl) (fun _ _ _ h => h) HC.out (.inl ⟨by rfl, fun w' hw' => by have hw2 : w'.cell? ⟨b, off + m, none⟩ = some (.int .i32 x) := hw'; go_simp; try with_reducible rfl⟩) ?_
      refine take_first (i := 4) rfl (by kernel_rfl) (by kernel_rfl) (by kernel_rfl) (by kernel_rfl) (fun _ _ _ h => h) HC.out (.inl ⟨by rfl, fun w' hw' => by have hw2 : w'.cell? ⟨b, off + m, none⟩ = some (.int .i32 x) := hw'; go_simp; try with_reducible rfl⟩) ?_
      refine take_first (i := 5) rfl (by kernel_rfl) (by kernel_rfl) (by kernel_rfl) (by kernel_rfl) (fun _ _ _ h => h) HC.out (.inl ⟨by rfl, fun w' hw' => by have hw2 : w'.cell? ⟨b, off + m, none⟩ = some (.int .i32 x) := hw'; go_simp; try with_reducible rfl⟩) ?_
      refine take_first (i := 6) rfl (by kernel_rfl) (by kernel_rfl) (by kernel_rfl) (by kernel_rfl) (fun _ _ _ h => h) HC.out (.inl ⟨by rfl, fun w' hw' => by have hw2 : w'.cell? ⟨b, off + m, none⟩ = some (.int .i32 x) := hw'; go_simp; try with_reducible rfl⟩) ?_
      refine take_first (i := 7) rfl (by kernel_rfl) (by kernel_rfl) (by kernel_rfl) (by kernel_rfl) (fun _ _ _ h => h) HC.out (.inl ⟨by rfl, fun w' hw' => by have hw2 : w'.cell? ⟨b, off + m, none⟩ = some (.int .i32 x) := hw'; go_simp; try with_reducible rfl⟩) ?_
      have hs0 : wr.drew.heap.size = wr.heap.size := rfl
      have BD : Hid (Below wr.heap.size wr wr.drew) := (Below.refl _ _).drew
      refine take_one (i := 0) (by kernel_rfl) rfl rfl fun K hK => ?_
      go_wp2
      have BA : Hid (Below wr.heap.size wr (wr.drew.alloc (.cells #[] 29))) := BD.out.alloc (by simp) _
      refine hK _ _ (.inr ((BA.out.cell (p := ⟨b, off + m, none⟩) (Nat.lt_of_lt_of_le hb H.out.2.size)).trans HC.out)) ?_
      clear hK
      have O0 : Hid ((wr.drew.alloc (.cells #[] 29)).ownsRow wr.heap.size 29 4 (.slice (some ⟨wr.heap.size, 0, none⟩) 0 0) 0 []) := World.ownsRow_made wr.drew #[] 0 (Nat.le_refl _) (by unfold maxLen; omega) rfl
      have S0 := Lib.hid (src_of (IsProps.below H.out.1 BA.out))
      refine take_one (i := 2) (by kernel_rfl) rfl rfl fun K hK => ?_
      refine wp_append_src _ _ _ 27 rfl wr.heap.size 29 i0 _ 4 32 Try.underlying27 hi hz0 hz1 hz2 rfl (by decide) (.slice (some ⟨wr.heap.size, 0, none⟩) 0 0) 0 [] rfl O0.out A m C (pcl qs m) rfl S0.out (pcl_one qs m) (by unfold maxLen; omega) (by omega) (by simp) ?_
      intro v1 w3 hown1 hgrow1
      have B3 : Hid (Below wr.heap.size wr w3) := BA.out.grown hgrow1 (by simp) (fun k e => by injection (show some wr.heap.size = some k from e) with e; omega)
      have O3 := Lib.hid hown1
      have hs3 := B3.out.size
      clear hown1 hgrow1 BA O0 S0
      refine hK _ _ (.inr ((B3.out.cell (p := ⟨b, off + m, none⟩) (Nat.lt_of_lt_of_le hb H.out.2.size)).trans HC.out)) ?_
      clear hK
      refine take_one (i := 8) (by kernel_rfl) rfl rfl fun K hK => ?_
      go_wp2_with fail
      refine (Ucd.ref_any x hr1 hr2 _).mono ?_
      rintro e w4 ⟨rfl, hb4⟩
      unfold Ucd.ofV Ucd.propV
      have B4 : Hid (Below wr.heap.size wr w4) := B3.out.trans (hb4.mono hs3)
      have O4 := Lib.hid ((Turn.of_new hb4 : Turn (fun _ => False) _ _).kept O3.out (fun _ _ => id))
      have hs4 := B4.out.size
      clear hb4 B3 O3
      refine hK _ _ (.inr ((B4.out.cell (p := ⟨b, off + m, none⟩) (Nat.lt_of_lt_of_le hb H.out.2.size)).trans HC.out)) ?_
      clear hK
      refine take_one (i := 9) (by kernel_rfl) rfl rfl fun K hK => ?_
      go_wp2
      have B5 : Hid (Below wr.heap.size wr (w4.alloc (.cells #[.int .i64 (Gcb.val x), .bool (Pict.isB x), .int .i64 (Conj.val x), .int .i64 (East.val x)] 29))) := B4.out.alloc hs4 _
      refine hK _ _ (.inr ((B5.out.cell (p := ⟨b, off + m, none⟩) (Nat.lt_of_lt_of_le hb H.out.2.size)).trans HC.out)) ?_
      clear hK
      refine take_one (i := 10) (by kernel_rfl) rfl rfl fun K hK => ?_
      refine wp_append_own _ _ _ 27 rfl wr.heap.size 29 i0 _ 4 32 Try.underlying27 hi hz0 hz1 hz2 rfl (by decide) v1 (0 + m) _ rfl (O4.out.alloc _) ⟨w4.heap.size, 0, none⟩ 1 1 [.int .i64 (Gcb.val x), .bool (Pict.isB x), .int .i64 (Conj.val x), .int .i64 (East.val x)] rfl rfl (cell_new4 _ _ _ _ _ _) (by simp [Value.oneCell']) (by unfold maxLen; omega) (by omega) (by simp; omega) ?_
      intro v2 w6 hown2 hgrow2 _
      have B6 : Hid (Below wr.heap.size wr w6) := B5.out.grown hgrow2 (by simp; omega) (fun g e => (O4.out.lt g e).1)
      have e6 : [] ++ pcl qs m ++ [.int .i64 (Gcb.val x), .bool (Pict.isB x), .int .i64 (Conj.val x), .int .i64 (East.val x)] = pcl (fun i => if i < m then qs i else prop x) (m + 1) := by
        show _ = pcl _ m ++ p4 (if m < m then qs m else prop x)
        rw [pcl_congr (ps := fun i => if i < m then qs i else prop x) (qs := qs) fun i hi => if_pos hi, if_neg (Nat.lt_irrefl m)]
        rfl
      rw [e6, Nat.zero_add] at hown2
      obtain ⟨A6, C6, rfl⟩ := own_slice hown2
      have P6 := Lib.hid (isProps_own hown2)
      clear hown2 hgrow2 O4 B5 e6
      refine hK _ _ (.inr ((B6.out.cell (p := ⟨b, off + m, none⟩) (Nat.lt_of_lt_of_le hb H.out.2.size)).trans HC.out)) ?_
      clear hK
      refine take_one (i := 11) (by kernel_rfl) rfl rfl fun K hK => ?_
      go_wp2
      refine hK _ _ (.inl rfl) ?_
      clear hK
      refine take_done (by kernel_rfl) ?_ _
      go_wp2
      go_roundw
      case rel => exact ⟨A6, m + 1, C6, _, rfl, P6.out, H.out.2.trans (B6.out.mono H.out.2.size)⟩
      case measure => simp [slen]; omega
    · have hge : (n : Int) ≤ m := by omega
      have HQ := Lib.hid H.out.1
      have HB := Lib.hid H.out.2
      have hmn : n ≤ m := by omega
      have dm : decide (m < n) = false := by simp; omega
      clear H hlt
      generalize wr = wq at *
      have hqs := HB.out.size
      go_wp2
      have A0 := Lib.hid (at_new wq 32)
      have B0 : Hid (Below wq.heap.size wq (wq.alloc (.cells #[.bool false, .bool false, .bool false] 32))) := (Below.refl _ _).alloc (Nat.le_refl _) _
      generalize (wq.alloc (.cells #[.bool false, .bool false, .bool false] 32)) = w0 at *
      go_loopw [6] (fun i wa => ∃ r : Nat, r ≤ 2 ∧ i = .int .i64 r ∧ Hid (At wa wq.heap.size zero ∧ Below wq.heap.size wq wa)) (fun i _ => 2 - (intOf i).toNat)
      case atStart => exact ⟨0, by omega, rfl, A0.out, B0.out⟩
      case round =>
        obtain ⟨r, hr, rfl, HA⟩ := hrel
        by_cases hr2 : r < 2
        · have hr2' : (r : Int) < 2 := by omega
          go_wp2
          go_loopw [7, 8] (fun l i wb => ∃ k : Nat, k ≤ n ∧ i = .int .i64 k ∧ l = .int .i64 (wid (wideTo (num xs) qs k)) ∧ Hid (At wb wq.heap.size (gAt (num xs) qs k) ∧ Below wq.heap.size wq wb)) (fun _ i _ => n - (intOf i).toNat)
          case atStart => exact ⟨0, Nat.zero_le _, rfl, rfl, HA.out.1, HA.out.2⟩
          case round =>
            obtain ⟨k, hk, rfl, rfl, HI⟩ := hrel
            by_cases hkn : k < n
            · obtain ⟨x, hx⟩ : ∃ x, xs[k]? = some x := ⟨_, List.getElem?_eq_getElem (by rw [HL.out]; exact hkn)⟩
              obtain ⟨hl, h0 | ⟨b, off, rfl, hb, hc⟩⟩ := HH.out.ints
              · omega
              have hcx := (HI.out.2.cell (p := ⟨b, off + k, none⟩) (Nat.lt_of_lt_of_le hb hqs)).trans ((HB.out.cell (p := ⟨b, off + k, none⟩) hb).trans (hc k x hx))
              have hkn' : (k : Int) < n := by omega
              have hkm' : (k : Int) < m := by omega
              rcases HQ.out with h0 | ⟨b2, off2, rfl, hmc, hcm, hb2, hc2⟩
              · omega
              have HN : Hid (num xs k = x) := by unfold num; rw [List.getD_eq_getElem?_getD, hx]; exact Lib.hid rfl
              obtain ⟨p0, p1, p2, p3⟩ := hc2 k (by omega)
              have p0 := (HI.out.2.cell (p := ⟨b2, off2 + k * 4, none⟩) hb2).trans p0
              have p1 := (HI.out.2.cell (p := ⟨b2, off2 + k * 4 + 1, none⟩) hb2).trans p1
              have p2 := (HI.out.2.cell (p := ⟨b2, off2 + k * 4 + 2, none⟩) hb2).trans p2
              have p3 := (HI.out.2.cell (p := ⟨b2, off2 + k * 4 + 3, none⟩) hb2).trans p3
              have hmx : Try.prog.follows .mixedOrders = true := by kernel_rfl
              have hnx : Hid (next (gAt (num xs) qs k) x (qs k).br (qs k).pi (qs k).ea = gAt (num xs) qs (k + 1)) := by
                rw [← HN.out]; exact Lib.hid rfl
              generalize (qs k).br = br at *
              generalize (qs k).pi = pi at *
              generalize (qs k).co = co at *
              generalize (qs k).ea = ea at *
              have HS : Hid (wr.cell? ⟨b, off + k, none⟩ = some (.int .i32 x) ∧ wr.cell? ⟨b2, off2 + k * 4, none⟩ = some (.int .i64 br) ∧ wr.cell? ⟨b2, off2 + k * 4 + 1, none⟩ = some (.bool pi) ∧ wr.cell? ⟨b2, off2 + k * 4 + 2, none⟩ = some (.int .i64 co) ∧ wr.cell? ⟨b2, off2 + k * 4 + 3, none⟩ = some (.int .i64 ea)) := ⟨hcx, p0, p1, p2, p3⟩
              have HQ2 : Hid (IsProps wq (some ⟨b2, off2, none⟩) m C qs) := .inr ⟨b2, off2, rfl, hmc, hcm, hb2, hc2⟩
              clear hcx p0 p1 p2 p3 hc2 hc hx hl HQ
              go_wp2_with fail
              refine region_begin (fun w' => w'.cell? ⟨b, off + k, none⟩ = some (.int .i32 x) ∧ w'.cell? ⟨b2, off2 + k * 4, none⟩ = some (.int .i64 br) ∧ w'.cell? ⟨b2, off2 + k * 4 + 1, none⟩ = some (.bool pi) ∧ w'.cell? ⟨b2, off2 + k * 4 + 2, none⟩ = some (.int .i64 co) ∧ w'.cell? ⟨b2, off2 + k * 4 + 3, none⟩ = some (.int .i64 ea)) (fun j => j == 9) hmx ?_
              refine take_first (i := 0) rfl (by kernel_rfl) (by kernel_rfl) (by kernel_rfl) (by kernel_rfl) (fun _ _ _ h => h) HS.out (.inl ⟨by rfl, fun w' hw' => by obtain ⟨u0, u1, u2, u3, u4⟩ := hw'; go_simp; try with_reducible rfl⟩) ?_
              refine take_first (i := 1) rfl (by kernel_rfl) (by kernel_rfl) (by kernel_rfl) (by kernel_rfl) (fun _ _ _ h => h) HS.out (.inl ⟨by rfl, fun w' hw' => by obtain ⟨u0, u1, u2, u3, u4⟩ := hw'; go_simp; try with_reducible rfl⟩) ?_
              refine take_first (i := 4) rfl (by kernel_rfl) (by kernel_rfl) (by kernel_rfl) (by kernel_rfl) (fun _ _ _ h => h) HS.out (.inl ⟨by rfl, fun w' hw' => by obtain ⟨u0, u1, u2, u3, u4⟩ := hw'; go_simp; try with_reducible rfl⟩) ?_
              refine take_first (i := 5) rfl (by kernel_rfl) (by kernel_rfl) (by kernel_rfl) (by kernel_rfl) (fun _ _ _ h => h) HS.out (.inl ⟨by rfl, fun w' hw' => by obtain ⟨u0, u1, u2, u3, u4⟩ := hw'; go_simp; try with_reducible rfl⟩) ?_
              refine take_first (i := 2) rfl (by kernel_rfl) (by kernel_rfl) (by kernel_rfl) (by kernel_rfl) (fun _ _ _ h => h) HS.out (.inl ⟨by rfl, fun w' hw' => by obtain ⟨u0, u1, u2, u3, u4⟩ := hw'; go_simp; try with_reducible rfl⟩) ?_
              refine take_first (i := 6) rfl (by kernel_rfl) (by kernel_rfl) (by kernel_rfl) (by kernel_rfl) (fun _ _ _ h => h) HS.out (.inl ⟨by rfl, fun w' hw' => by obtain ⟨u0, u1, u2, u3, u4⟩ := hw'; go_simp; try with_reducible rfl⟩) ?_
              refine take_first (i := 3) rfl (by kernel_rfl) (by kernel_rfl) (by kernel_rfl) (by kernel_rfl) (fun _ _ _ h => h) HS.out (.inl ⟨by rfl, fun w' hw' => by obtain ⟨u0, u1, u2, u3, u4⟩ := hw'; go_simp; try with_reducible rfl⟩) ?_
              refine take_first (i := 7) rfl (by kernel_rfl) (by kernel_rfl) (by kernel_rfl) (by kernel_rfl) (fun _ _ _ h => h) HS.out (.inl ⟨by rfl, fun w' hw' => by obtain ⟨u0, u1, u2, u3, u4⟩ := hw'; go_simp; try with_reducible rfl⟩) ?_
              refine take_one (i := 8) (by kernel_rfl) rfl rfl fun K hK => ?_
              go_wp2_with fail
              refine (step_any wq.heap.size (gAt (num xs) qs k) x br pi co ea _ ?_).mono ?_
              · exact HI.out.1.below ((Below.refl _ _).drew)
              rw [hnx.out, gAt_wide]
              rintro e w2 ⟨rfl, hA2, hB2⟩
              have hwr := HI.out.2.size
              have HB2 : Hid (Below wq.heap.size wr w2) := ((Below.refl wr.heap.size wr).drew.mono hwr).trans (hB2.below (Nat.le_refl _) hwr)
              have HA2 := Lib.hid hA2
              clear hA2 hB2 hnx
              refine hK _ _ (.inr ⟨(HB2.out.cell (p := ⟨b, _, none⟩) (Nat.lt_of_lt_of_le hb hqs)).trans HS.out.1, (HB2.out.cell (p := ⟨b2, _, none⟩) hb2).trans HS.out.2.1, (HB2.out.cell (p := ⟨b2, _, none⟩) hb2).trans HS.out.2.2.1, (HB2.out.cell (p := ⟨b2, _, none⟩) hb2).trans HS.out.2.2.2.1, (HB2.out.cell (p := ⟨b2, _, none⟩) hb2).trans HS.out.2.2.2.2⟩) ?_
              clear hK
              refine take_one (i := 9) (by kernel_rfl) rfl rfl fun K hK => ?_
              go_wp2
              refine hK _ _ (.inl rfl) ?_
              clear hK
              refine take_done (by kernel_rfl) ?_ _
              go_wp2_with fail
              have hkc : ((k : Int) + 1) ≤ c := by have := HH.out.le; omega
              have hkC : ((k : Int) + 1) ≤ C := by omega
              have hIt : Hid (Same.Ints .i32 w2 (some ⟨b, off, none⟩) (k + 1) (xs.take (k + 1))) := by
                refine Lib.hid ⟨?_, .inr ⟨b, off, rfl, Nat.lt_of_lt_of_le (Nat.lt_of_lt_of_le hb hqs) (Nat.le_trans HI.out.2.size HB2.out.size), fun i y hy => ?_⟩⟩
                · rw [List.length_take, HL.out]; omega
                · rw [List.getElem?_take] at hy
                  split at hy
                  · obtain ⟨_, h0 | ⟨b', off', e', hb', hc'⟩⟩ := HH.out.ints
                    · omega
                    · injection e' with e'
                      injection e' with e1 e2
                      subst e1 e2
                      exact (HB2.out.cell (p := ⟨b, _, none⟩) (Nat.lt_of_lt_of_le hb hqs)).trans ((HI.out.2.cell (p := ⟨b, _, none⟩) (Nat.lt_of_lt_of_le hb hqs)).trans ((HB.out.cell (p := ⟨b, _, none⟩) hb).trans (hc' i y hy)))
                  · cases hy
              have hP9 : Hid (∀ i, i < k + 1 → w2.cell? ⟨b2, off2 + i * 4, none⟩ = wq.cell? ⟨b2, off2 + i * 4, none⟩ ∧ w2.cell? ⟨b2, off2 + i * 4 + 1, none⟩ = wq.cell? ⟨b2, off2 + i * 4 + 1, none⟩ ∧ w2.cell? ⟨b2, off2 + i * 4 + 2, none⟩ = wq.cell? ⟨b2, off2 + i * 4 + 2, none⟩ ∧ w2.cell? ⟨b2, off2 + i * 4 + 3, none⟩ = wq.cell? ⟨b2, off2 + i * 4 + 3, none⟩) := Lib.hid fun i hi =>
                ⟨(HB2.out.cell (p := ⟨b2, _, none⟩) hb2).trans (HI.out.2.cell (p := ⟨b2, _, none⟩) hb2), (HB2.out.cell (p := ⟨b2, _, none⟩) hb2).trans (HI.out.2.cell (p := ⟨b2, _, none⟩) hb2), (HB2.out.cell (p := ⟨b2, _, none⟩) hb2).trans (HI.out.2.cell (p := ⟨b2, _, none⟩) hb2), (HB2.out.cell (p := ⟨b2, _, none⟩) hb2).trans (HI.out.2.cell (p := ⟨b2, _, none⟩) hb2)⟩
              have hPt : Hid (IsProps w2 (some ⟨b2, off2, none⟩) (k + 1) C qs) := by
                rcases HQ2.out with h0 | ⟨b', off', e', _, _, _, hc'⟩
                · omega
                · injection e' with e'
                  injection e' with e1 e2
                  subst e1 e2
                  refine Lib.hid (.inr ⟨b2, off2, rfl, by omega, hcm, Nat.lt_of_lt_of_le hb2 (Nat.le_trans HI.out.2.size HB2.out.size), fun i hi => ?_⟩)
                  obtain ⟨g0, g1, g2, g3⟩ := hP9.out i hi
                  obtain ⟨f0, f1, f2, f3⟩ := hc' i (by omega)
                  exact ⟨g0.trans f0, g1.trans f1, g2.trans f2, g3.trans f3⟩
              have hwc : Hid (wideTo (num (xs.take (k + 1))) qs (k + 1) = wideTo (num xs) qs (k + 1)) := Lib.hid (wideTo_congr fun i hi => num_take xs hi)
              have cS := Lib.hid fun d os => Calls.regrown_of (w := w2) (d := d) (os := os) (row_any (some ⟨b, off, none⟩) (k + 1) c (xs.take (k + 1)) (some ⟨b2, off2, none⟩) C qs (Go.Sort.grow (redrawn w2 d) os) (hIt.out.below (below_regrown w2 d os)) (IsProps.below hPt.out (below_regrown w2 d os)) (by omega))
              rw [hwc.out] at cS
              have hmo := Lib.hid (wide_mono (num xs) qs k)
              have hB3 : Hid (Below wq.heap.size wq w2) := HI.out.2.trans HB2.out
              clear HN hmx HS HQ2 hP9 hIt hPt hwc HI HB2
              generalize wid (wideTo (num xs) qs k) = y0 at *
              generalize hy1 : wid (wideTo (num xs) qs (k + 1)) = y1 at *
              have e1 : (y1 != y1) = false := by simp
              have e2 : decide (y1 < y0) = false := by have := hmo.out; simp; omega
              have x1 : IntKind.i64.wrap ((k : Int) + 1) = (k : Int) + 1 := IntWalk.i64_in _ (by omega)
              have x2 : (0 : Int) ≤ (k : Int) + 1 := by omega
              have x3 : ((k : Int) + 1).toNat = k + 1 := by omega
              refine wp_region_quiet_below (by kernel_rfl) (by kernel_rfl) ?_
              repeat (quiet_step (exact cS.out _ _))
              refine wpQuiet_nil ?_
              intro _ hw'
              obtain ⟨⟨dq, osq⟩, hw''⟩ := hw'
              subst hw''
              have R : Hid (At (Go.Sort.grow (redrawn w2 dq) osq) wq.heap.size (gAt (num xs) qs (k + 1)) ∧ Below wq.heap.size wq (Go.Sort.grow (redrawn w2 dq) osq)) := ⟨HA2.out.below (below_regrown w2 dq osq), hB3.out.trans ((below_regrown w2 dq osq).mono hB3.out.size)⟩
              clear cS hB3 HA2
              generalize Go.Sort.grow (redrawn w2 dq) osq = wn at *
              go_wp2
              go_roundw
              case rel => exact ⟨k + 1, by omega, by go_num, by rw [hy1], R⟩
              case measure => simp [intOf]; omega
            · obtain rfl : k = n := by omega
              go_wp2_with fail
              refine (reset_any wq.heap.size _ _ HI.out.1).mono ?_
              rintro e w2 ⟨rfl, hA2, hB2⟩
              have HB2 : Hid (Below wq.heap.size wq w2) := HI.out.2.trans (hB2.below (Nat.le_refl _) HI.out.2.size)
              have HA2 := Lib.hid hA2
              clear hA2 hB2
              go_wp2
              go_roundw
              case rel => exact ⟨r + 1, by omega, by go_num, HA2.out, HB2.out⟩
              case measure => simp [intOf]; omega
        · have hr2' : ¬ (r : Int) < 2 := by omega
          go_wp2_with fail
          refine (reset_none _).mono ?_
          rintro e w2 ⟨rfl, rfl⟩
          go_wp2_with fail
          refine (step_none _ _ _ _ _ _).mono ?_
          rintro e w2 ⟨rfl, hb2⟩
          have HB2 : Hid (Below w.heap.size w w2) := (HB.out.trans (HA.out.2.mono hqs)).trans (hb2.mono (Nat.le_trans hqs HA.out.2.size))
          clear hb2
          go_wp2
          go_ret
          exact ⟨rfl, HB2.out⟩

end Go.Proofs.Ytihanlahegngoaa.Cw

/-
  The walk of the statement MeasureTells.
-/
import Derived.Test.YtihanlahegngoaaMeaAll
namespace Go.Proofs.Ytihanlahegngoaa.Mea
set_option linter.unusedSimpArgs false
set_option linter.unusedVariables false
open Go Go.RowKit Go.Shelf Mem Seg Turn Gra Clu Same GraLaw

/-- the row of pieces at g, and its texts, whatever numbers they hold: each in a block of its own making -/
def Tx (W : World) (B g : Nat) (m : Nat) : Prop :=
  ∀ k, k < m → ∃ a' n' c', W.cell? ⟨g, k * 2 + 1, none⟩ = some (.slice a' n' c') ∧ n' ≤ 9223372036854775807 ∧ (n' = 0 ∨ ∃ b' cur T, a' = some ⟨b', 0, none⟩ ∧ n' ≤ cur.size ∧ W.heap[b']? = some (.cells cur T (0, 0)) ∧ b' ≠ g ∧ B ≤ b')

theorem tx_of {w : World} {base g m c : Nat} {yss : List (List Int)} (h : PItems w base (.slice (some ⟨g, 0, none⟩) m c) yss) (hm : yss.length = m) : Tx w base g m := by
  intro k hk
  obtain ⟨ys, hy⟩ : ∃ ys, yss[k]? = some ys := ⟨_, List.getElem?_eq_getElem (by omega)⟩
  obtain ⟨g', e, _, _, hat⟩ := pitems_at h (by omega)
  injection e with e
  injection e with e
  subst e
  obtain ⟨_, a', n', c', p1, o1⟩ := hat k ys hy
  obtain ⟨vs, _, h2, _⟩ := h
  refine ⟨a', n', c', p1, ?_, ?_⟩
  · rcases o1.2 with ⟨h1, h3⟩ | ⟨b', cap, cur, h1, h3, h4, h5, h6, h7⟩
    · omega
    · have h9 : maxLen ≤ 9223372036854775807 := by unfold maxLen; omega
      exact Nat.le_trans h5 (Nat.le_trans h6 h9)
  · rcases o1.2 with ⟨h1, h3⟩ | ⟨b', cap, cur, h1, h3, h4, h5, h6, h7, h8⟩
    · exact .inl h3
    · injection h1 with h1 _ _
      subst h1
      refine .inr ⟨b', cur, _, rfl, by omega, h4, fun e => ?_, h3⟩
      subst e
      exact rows_ne h2 o1 (by decide) (show _ = some b' from rfl) rfl

theorem tx_set {W : World} {B g m b j : Nat} (h : Tx W B g m) (hb : b ≠ g) (v : Value) : Tx (W.setCell ⟨b, j, none⟩ v) B g m := by
  intro k hk
  obtain ⟨a', n', c', h1, h2, h3⟩ := h k hk
  have T : Turn (fun i => i = b) W (W.setCell ⟨b, j, none⟩ v) := Turn.setCell (p := ⟨b, j, none⟩) W v rfl
  refine ⟨a', n', c', T.cell h1 (fun e => hb (show b = g from e.symm)), h2, h3.imp id ?_⟩
  rintro ⟨b', cur, Ty, e1, e2, e3, e4, e5⟩
  by_cases hbb : b' = b
  · subst hbb
    exact ⟨b', _, Ty, e1, by simpa using e2, heap_setCell e3, e4, e5⟩
  · exact ⟨b', cur, Ty, e1, e2, T.heap e3 hbb, e4, e5⟩

theorem tx_below {W W' : World} {B g m : Nat} (h : Tx W B g m) (hg : g < W.heap.size) (hb : Below W.heap.size W W') : Tx W' B g m := by
  intro k hk
  obtain ⟨a', n', c', h1, h2, h3⟩ := h k hk
  have T : Turn (fun _ => False) W W' := Turn.of_new hb
  refine ⟨a', n', c', T.cell h1 id, h2, h3.imp id ?_⟩
  rintro ⟨b', cur, Ty, e1, e2, e3, e4, e5⟩
  exact ⟨b', cur, Ty, e1, e2, T.heap e3 id, e4, e5⟩

set_option maxRecDepth 100000 in
set_option maxHeartbeats 8000000 in
theorem tells_any (w : World) (a : Option Addr) (n c : Nat) (xs : List Int) (h : Runes w a n c xs) :
    Calls Try.prog 10 #[.slice a n c] w fun e w' => e = .returned (.bool true) ∧ Below w.heap.size w w' := by
  have hm : n ≤ 9223372036854775807 := Nat.le_trans h.le h.max
  have HL := Lib.hid h.ints.1
  have HH := Lib.hid h
  clear h
  by_cases h1 : 200 < n
  · have d1 : decide (200 < (n : Int)) = true := by simp; omega
    go_enter Try.func10, Try.ntmps10
    go_wp2_with fail
    refine (works_any _).mono ?_; rintro e w1 ⟨rfl, hb1⟩
    go_wp2_with fail
    refine (works_any _).mono ?_; rintro e w2 ⟨rfl, hb2⟩
    have hb2 := hb1.trans (hb2.mono hb1.size)
    go_wp2
    go_ret
    exact ⟨rfl, hb2⟩
  have d1 : decide (200 < (n : Int)) = false := by simp; omega
  have hn : n ≤ 100000 := by omega
  have hil : (itms xs).length ≤ 100000 := by have := itms_len xs; have h9 := HL.out; omega
  go_enter Try.func10, Try.ntmps10
  go_wp2_with fail
  refine (works_any _).mono ?_; rintro e w1 ⟨rfl, hb1⟩
  have B1 := Lib.hid hb1
  have hs1 := hb1.size
  clear hb1
  go_wp2_with fail
  refine (items_any a n c xs _ (HH.out.below B1.out) hn).mono ?_; rintro e w2 ⟨v, rfl, hP, hb2⟩
  have hP : PItems w2 w1.heap.size v (itms xs) := hP
  obtain ⟨A1, C1, rfl⟩ := pitems_slice hP
  have B2 := Lib.hid (B1.out.trans (hb2.mono B1.out.size))
  have P2 := Lib.hid hP
  clear hb2 hP
  go_wp2_with fail
  refine (items_ref a n c xs _ (HH.out.below B2.out) hn).mono ?_; rintro e w3 ⟨v3, rfl, hP3, hb3⟩
  have P3 := Lib.hid hP3
  have P23 := Lib.hid (pitems_below P2.out hb3)
  have B3 := Lib.hid (B2.out.trans (hb3.mono B2.out.size))
  clear hb3 hP3 P2
  go_wp2_with fail
  refine (psame_true _ _ _ _ (itms xs) w3 P23.out P3.out hil).mono ?_; rintro e w4 ⟨rfl, hb4⟩
  have P24 := Lib.hid (pitems_below P23.out hb4)
  have B4 := Lib.hid (B3.out.trans (hb4.mono B3.out.size))
  clear hb4 P3 P23
  go_wp2_with fail
  refine (cols_any a n c xs _ (HH.out.below B4.out) hn).mono ?_; rintro e w5 ⟨rfl, hb5⟩
  have P25 := Lib.hid (pitems_below P24.out hb5)
  have B5 := Lib.hid (B4.out.trans (hb5.mono B4.out.size))
  clear hb5 P24
  go_wp2_with fail
  refine (cols_ref a n c xs _ (HH.out.below B5.out) hn).mono ?_; rintro e w6 ⟨rfl, hb6⟩
  have P26 := Lib.hid (pitems_below P25.out hb6)
  have B6 := Lib.hid (B5.out.trans (hb6.mono B5.out.size))
  clear hb6 P25
  generalize hws : wsum (itms xs) = ws at *
  have ews : (ws != ws) = false := by simp
  clear hws
  generalize hml : (itms xs).length = m at *
  have HML := Lib.hid hml
  clear hml
  have hs6 := B6.out.size
  go_wp2
  go_loopw [4] (fun i wr => ∃ k : Nat, k ≤ m ∧ i = .int .i64 k ∧ Hid ((∀ g, A1 = some ⟨g, 0, none⟩ → Tx wr w1.heap.size g m) ∧ Below w1.heap.size w6 wr)) (fun i _ => m - (intOf i).toNat)
  case atStart => exact ⟨0, Nat.zero_le _, rfl, fun g e => by subst e; exact tx_of P26.out HML.out, Below.refl _ _⟩
  case round =>
    obtain ⟨k, hk, rfl, H⟩ := hrel
    by_cases hlt : k < m
    · have hlt' : (k : Int) < m := by omega
      obtain ⟨g, rfl, hgB, hg6, _⟩ := pitems_at P26.out (by rw [HML.out]; omega)
      obtain ⟨a', n', c', q1, q2, q3⟩ := (H.out.1 g rfl) k hlt
      have HX := Lib.hid (H.out.1 g rfl)
      have HB := Lib.hid H.out.2
      have HQ1 := Lib.hid q1
      generalize wr = wo at *
      clear H q1 q3
      go_wp2
      go_loopw [5] (fun i wb => ∃ q : Nat, q ≤ n' ∧ i = .int .i64 q ∧ Hid (Tx wb w1.heap.size g m ∧ wb.cell? ⟨g, k * 2 + 1, none⟩ = some (.slice a' n' c') ∧ Below w1.heap.size w6 wb)) (fun i _ => n' - (intOf i).toNat)
      case atStart => exact ⟨0, Nat.zero_le _, rfl, HX.out, HQ1.out, HB.out⟩
      case round =>
        obtain ⟨q, hq, rfl, HI⟩ := hrel
        have p1 := HI.out.2.1
        by_cases hqn : q < n'
        · have hqn' : (q : Int) < n' := by omega
          obtain ⟨a2, n2, c2, r1, _, r3⟩ := HI.out.1 k hlt
          rw [p1] at r1
          injection r1 with r1
          injection r1 with r1 r1b r1c
          subst r1 r1b r1c
          rcases r3 with h0 | ⟨b', cur, T, rfl, hcs, hbl, hbg, hbB⟩
          · omega
          have pc : wr.cell? ⟨b', q, none⟩ = some cur[q] := by simp [World.cell?, hbl]
          have pf : wr.frozen? ⟨b', q, none⟩ = false := by simp [World.frozen?, hbl]
          have R : Hid (Tx (wr.setCell ⟨b', q, none⟩ (.int .i32 0)) w1.heap.size g m ∧ (wr.setCell ⟨b', q, none⟩ (.int .i32 0)).cell? ⟨g, k * 2 + 1, none⟩ = some (.slice (some ⟨b', 0, none⟩) n' c') ∧ Below w1.heap.size w6 (wr.setCell ⟨b', q, none⟩ (.int .i32 0))) :=
            ⟨tx_set HI.out.1 hbg _, (Turn.setCell (T := fun i => i = b') (p := ⟨b', q, none⟩) wr (.int .i32 0) rfl).cell p1 (fun e => hbg (show b' = g from e.symm)), HI.out.2.2.setCell (p := ⟨b', q, none⟩) hbB _⟩
          clear hbl
          go_wp2
          go_roundw
          case rel => exact ⟨q + 1, by omega, by go_num, R⟩
          case measure => simp [intOf]; omega
        · obtain rfl : q = n' := by omega
          go_wp2
          go_roundw
          case rel => exact ⟨k + 1, by omega, by go_num, fun g' e => by injection e with e; injection e with e; subst e; exact HI.out.1, HI.out.2.2⟩
          case measure => simp [intOf]; omega
    · obtain rfl : k = m := by omega
      have HB := Lib.hid (B6.out.trans (H.out.2.mono hs1))
      clear H
      go_wp2_with fail
      refine (items_any a n c xs _ (HH.out.below HB.out) hn).mono ?_; rintro e w7 ⟨v7, rfl, hP7, hb7⟩
      have P7 := Lib.hid (show PItems w7 wr.heap.size v7 (itms xs) from hP7)
      have HB7 := Lib.hid (HB.out.trans (hb7.mono HB.out.size))
      clear hb7 hP7
      go_wp2_with fail
      refine (items_ref a n c xs _ (HH.out.below HB7.out) hn).mono ?_; rintro e w8 ⟨v8, rfl, hP8, hb8⟩
      have P8 := Lib.hid hP8
      have P78 := Lib.hid (pitems_below P7.out hb8)
      have HB8 := Lib.hid (HB7.out.trans (hb8.mono HB7.out.size))
      clear hb8 hP8
      go_wp2_with fail
      refine (psame_true _ _ _ _ (itms xs) w8 P78.out P8.out (by rw [HML.out]; exact hil)).mono ?_; rintro e w9 ⟨rfl, hb9⟩
      have HB9 := Lib.hid (HB8.out.trans (hb9.mono HB8.out.size))
      go_wp2
      go_ret
      exact ⟨rfl, HB9.out⟩

end Go.Proofs.Ytihanlahegngoaa.Mea

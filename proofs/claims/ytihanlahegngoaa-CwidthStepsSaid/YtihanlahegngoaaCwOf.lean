/-
  cwidth.Of and its reference.
-/
import Derived.Test.YtihanlahegngoaaCw
import Derived.Test.YtihanlahegngoaaProps
import Derived.Lib.QuietBelow
import Derived.IntWalk
namespace Go.Proofs.Ytihanlahegngoaa.Cw
set_option linter.unusedSimpArgs false
set_option linter.unusedVariables false
open Go Go.RowKit Mem Seg Gra Turn

/-- does place i make the row wide? -/
def wd (l : Nat → Int) (ps : Nat → P4) (i : Nat) : Bool := Basew.bw (ps i).br (ps i).ea == 2 || (decide (0 < i) && ((l i == 65039 && (ps (i - 1)).pi) || (ps i).pi || (ps i).br == 6))
def wideTo (l : Nat → Int) (ps : Nat → P4) : Nat → Bool
  | 0 => false
  | k + 1 => wideTo l ps k || wd l ps k
def gAt (l : Nat → Int) (ps : Nat → P4) : Nat → Ga
  | 0 => zero
  | k + 1 => next (gAt l ps k) (l k) (ps k).br (ps k).pi (ps k).ea

theorem gAt_eq (l : Nat → Int) (ps : Nat → P4) (k : Nat) : gAt l ps k = ⟨decide (0 < k), decide (0 < k) && (ps (k - 1)).pi, wideTo l ps k⟩ := by
  induction k with
  | zero => rfl
  | succ k ih =>
    simp only [gAt, ih, next, widensB, wideTo, wd]
    cases k <;> simp

theorem gAt_wide (l : Nat → Int) (ps : Nat → P4) (k : Nat) : (gAt l ps k).wide = wideTo l ps k := by rw [gAt_eq]

/-- the numbers of a row, place by place -/
def num (xs : List Int) (i : Nat) : Int := xs.getD i 0
/-- how wide a row is -/
noncomputable def width (xs : List Int) : Int := wid (wideTo (num xs) (props xs) xs.length)

set_option maxHeartbeats 4000000 in
theorem of_any (a : Option Addr) (n c : Nat) (xs : List Int) (w : World) (h : Runes w a n c xs) :
    Calls Try.prog 16 #[.slice a n c] w fun e w' => e = .returned (.int .i64 (width xs)) ∧ Below w.heap.size w w' := by
  have HI := Lib.hid h.ints
  have HR := Lib.hid h.r32
  have HL := Lib.hid h.ints.1
  have hn : n ≤ 9223372036854775807 := Nat.le_trans h.le h.max
  have HW : Hid (width xs = wid (wideTo (num xs) (props xs) n)) := by unfold width; rw [HL.out]; exact Lib.hid rfl
  clear h
  go_enter Try.func16, Try.ntmps16
  go_wp2
  have A0 := at_new w 32
  have B0 : Below w.heap.size w (w.alloc (.cells #[.bool false, .bool false, .bool false] 32)) := (Below.refl _ _).alloc (Nat.le_refl _) _
  generalize (w.alloc (.cells #[.bool false, .bool false, .bool false] 32)) = w0 at *
  have HA0 := Lib.hid A0
  have HB0 := Lib.hid B0
  clear A0 B0
  go_loopw [4, 9] (fun v i wr => ∃ k : Nat, k ≤ n ∧ i = .int .i64 k ∧ v = .int .i64 (wid (wideTo (num xs) (props xs) k)) ∧ Hid (At wr w.heap.size (gAt (num xs) (props xs) k) ∧ Below w.heap.size w wr)) (fun _ i _ => n - (intOf i).toNat)
  case atStart => exact ⟨0, Nat.zero_le _, rfl, rfl, HA0.out, HB0.out⟩
  case round =>
    obtain ⟨k, hk, rfl, rfl, H⟩ := hrel
    by_cases hlt : k < n
    · obtain ⟨x, hx⟩ : ∃ x, xs[k]? = some x := ⟨_, List.getElem?_eq_getElem (by rw [HL.out]; exact hlt)⟩
      obtain ⟨hl, h0 | ⟨b, off, rfl, hb, hc⟩⟩ := HI.out
      · omega
      have hcx := (H.out.2.cell (p := ⟨b, off + k, none⟩) hb).trans (hc k x hx)
      obtain ⟨hr1, hr2⟩ := HR.out.at hx
      have hlt' : (k : Int) < n := by omega
      have HP : Hid (props xs k = prop x) := by unfold props; rw [List.getD_eq_getElem?_getD, hx]; exact Lib.hid rfl
      have HN : Hid (num xs k = x) := by unfold num; rw [List.getD_eq_getElem?_getD, hx]; exact Lib.hid rfl
      have hA := Lib.hid H.out.1
      have hB := Lib.hid H.out.2
      clear hx hc hl H
      go_wp2_with fail
      refine (Ucd.of_any x hr1 hr2 _).mono ?_
      rintro e w1 ⟨rfl, hb1⟩
      have hA1 := Lib.hid (hA.out.below hb1)
      have hB1 := Lib.hid (hB.out.trans (hb1.mono hB.out.size))
      clear hA hB hb1 hcx
      unfold Ucd.ofV Ucd.propV
      go_wp2_with fail
      refine (step_any w.heap.size (gAt (num xs) (props xs) k) x (Gcb.val x) (Pict.isB x) (Conj.val x) (East.val x) w1 hA1.out).mono ?_
      have hnx : next (gAt (num xs) (props xs) k) x (Gcb.val x) (Pict.isB x) (East.val x) = gAt (num xs) (props xs) (k + 1) := by
        show _ = next _ _ _ _ _
        rw [HP.out, HN.out]; rfl
      rw [hnx, gAt_wide]
      rintro e w2 ⟨rfl, hA2, hB2⟩
      have R : Hid (At w2 w.heap.size (gAt (num xs) (props xs) (k + 1)) ∧ Below w.heap.size w w2) := ⟨hA2, hB1.out.trans (hB2.below (by omega) hB1.out.size)⟩
      clear hA1 hB1 hA2 hB2 hnx
      go_wp2
      go_roundw
      case rel => exact ⟨k + 1, by omega, by go_num, rfl, R⟩
      case measure => simp [intOf]; omega
    · obtain rfl : k = n := by omega
      go_wp2
      go_ret
      exact ⟨by rw [HW.out]; rfl, H.out.2⟩

set_option maxRecDepth 100000 in
set_option maxHeartbeats 8000000 in
theorem row_any (a : Option Addr) (n c : Nat) (xs : List Int) (a2 : Option Addr) (c2 : Nat) (ps : Nat → P4) (w : World) (h : Same.Ints .i32 w a n xs) (hp : IsProps w a2 n c2 ps) (hn : n ≤ 9223372036854775807) :
    Calls Try.prog 20 #[.slice a n c, .slice a2 n c2] w fun e w' => e = .returned (.int .i64 (wid (wideTo (num xs) ps n))) ∧ Below w.heap.size w w' := by
  have HI := Lib.hid h
  have HP := Lib.hid hp
  have HL := Lib.hid h.1
  clear h hp
  go_enter Try.func20, Try.ntmps20
  go_wp2
  go_loopw [5] (fun i wr => ∃ k : Nat, k ≤ n ∧ i = .int .i64 k ∧ Hid (wideTo (num xs) ps k = false ∧ Below w.heap.size w wr)) (fun i _ => n - (intOf i).toNat)
  case atStart => exact ⟨0, Nat.zero_le _, rfl, rfl, Below.refl _ _⟩
  case round =>
    obtain ⟨k, hk, rfl, H⟩ := hrel
    by_cases hlt : k < n
    · obtain ⟨x, hx⟩ : ∃ x, xs[k]? = some x := ⟨_, List.getElem?_eq_getElem (by rw [HL.out]; exact hlt)⟩
      obtain ⟨hl, h0 | ⟨b, off, rfl, hb, hc⟩⟩ := HI.out
      · omega
      rcases HP.out with h0 | ⟨b2, off2, rfl, _, _, hb2, hc2⟩
      · omega
      have HN : Hid (num xs k = x) := by unfold num; rw [List.getD_eq_getElem?_getD, hx]; exact Lib.hid rfl
      have HWD : Hid (wd (num xs) ps k = (Basew.bw (ps k).br (ps k).ea == 2 || (decide (0 < k) && ((x == 65039 && (ps (k - 1)).pi) || (ps k).pi || (ps k).br == 6)))) := by
        rw [← HN.out]; exact Lib.hid rfl
      have HB := Lib.hid H.out.2
      have HF := Lib.hid H.out.1
      have HC := Lib.hid hc2
      have HX := Lib.hid (hc k x hx)
      have hlt' : (k : Int) < n := by omega
      obtain ⟨q0, q1, q2, q3⟩ := hc2 k hlt
      have Q0 := Lib.hid q0
      have Q1 := Lib.hid q1
      have p0 := q0
      have p1 := q1
      have p2 := q2
      have p3 := q3
      clear q0 q1 q2 q3
      have p0 := (HB.out.cell (p := ⟨b2, off2 + k * 4, none⟩) hb2).trans p0
      have p1 := (HB.out.cell (p := ⟨b2, off2 + k * 4 + 1, none⟩) hb2).trans p1
      have p2 := (HB.out.cell (p := ⟨b2, off2 + k * 4 + 2, none⟩) hb2).trans p2
      have p3 := (HB.out.cell (p := ⟨b2, off2 + k * 4 + 3, none⟩) hb2).trans p3
      clear hx hc hl hc2 H
      have HO := Lib.hid (Basew.ref_any (ps k).br (ps k).pi (ps k).co (ps k).ea)
      unfold Ucd.propV at HO
      generalize Basew.bw (ps k).br (ps k).ea = bw0 at *
      generalize (ps k).br = br at *
      generalize (ps k).pi = pi at *
      generalize (ps k).co = co at *
      generalize (ps k).ea = ea at *
      go_wp2_with fail
      refine (HO.out _).mono ?_
      rintro e w1 ⟨rfl, hb1⟩
      have HB1 := Lib.hid (HB.out.trans (hb1.mono HB.out.size))
      clear hb1 p0 p1 p2 p3 HB
      have p0 := (HB1.out.cell (p := ⟨b2, off2 + k * 4, none⟩) hb2).trans Q0.out
      have p1 := (HB1.out.cell (p := ⟨b2, off2 + k * 4 + 1, none⟩) hb2).trans Q1.out
      have hcx := (HB1.out.cell (p := ⟨b, off + k, none⟩) hb).trans HX.out
      have HFin : Hid (∀ d, wd (num xs) ps k = d → wideTo (num xs) ps (k + 1) = d) := fun d hd => by show (wideTo (num xs) ps k || wd (num xs) ps k) = d; rw [HF.out, hd]; rfl
      have HTrue : Hid (wd (num xs) ps k = true → wideTo (num xs) ps n = true) := fun hd => by
        have : ∀ m, k < m → wideTo (num xs) ps m = true := by
          intro m hm
          induction m with
          | zero => omega
          | succ m ih =>
            show (wideTo (num xs) ps m || wd (num xs) ps m) = true
            rcases Nat.lt_or_ge k m with h | h
            · rw [ih h]; rfl
            · have : m = k := by omega
              subst this; rw [hd]; simp
        exact this n hlt
      clear HX Q0 Q1
      rcases hb2' : (bw0 == 2) with _ | _
      · by_cases hk0 : k = 0
        · subst hk0
          have HWF : Hid (wd (num xs) ps 0 = false) := by rw [HWD.out, hb2']; exact Lib.hid rfl
          clear HWD
          go_wp2
          go_roundw
          case rel => exact ⟨1, by omega, rfl, HFin.out _ HWF.out, HB1.out⟩
          case measure => simp [intOf]; omega
        · have hk0' : (0 : Int) < k := by omega
          have e0 : decide (0 < k) = true := by simp; omega
          have HWF := Lib.hid (HWD.out.trans (by rw [hb2', e0]))
          obtain ⟨_, m1, _, _⟩ := HC.out (k - 1) (by omega)
          have m1 := (HB1.out.cell (p := ⟨b2, off2 + (k - 1) * 4 + 1, none⟩) hb2).trans m1
          clear e0 HWD HC
          have x1 : IntKind.i64.wrap ((k : Int) - 1) = (k : Int) - 1 := IntWalk.i64_in _ (by omega)
          have x2 : (0 : Int) ≤ (k : Int) - 1 := by omega
          have x3 : ((k : Int) - 1).toNat = k - 1 := by omega
          have x4 : (k : Int) - 1 < n := by omega
          generalize (ps (k - 1)).pi = pm at *
          rcases hx1 : (x == 65039) with _ | _ <;> rcases hb6 : (br == 6) with _ | _ <;> cases pm <;> cases pi
          all_goals
            have HWG := Lib.hid (HWF.out.trans (by rw [hx1, hb6]))
            go_wp2
            first
              | (go_ret
                 exact ⟨by rw [HTrue.out (HWG.out.trans rfl)]; rfl, HB1.out⟩)
              | (go_roundw
                 case rel => exact ⟨k + 1, by omega, by go_num, HFin.out _ (HWG.out.trans rfl), HB1.out⟩
                 case measure => simp [intOf]; omega)
      · have HWT : Hid (wd (num xs) ps k = true) := by rw [HWD.out, hb2']; exact Lib.hid rfl
        go_wp2
        go_ret
        exact ⟨by rw [HTrue.out HWT.out]; rfl, HB1.out⟩
    · obtain rfl : k = n := by omega
      go_wp2
      go_ret
      exact ⟨by rw [H.out.1]; rfl, H.out.2⟩

end Go.Proofs.Ytihanlahegngoaa.Cw

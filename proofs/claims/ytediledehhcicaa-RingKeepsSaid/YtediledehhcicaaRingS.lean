/-
  The comparisons of texts, cells and lines that are alike: they answer true, and only read.
-/
import Derived.Test.YtediledehhcicaaRingD
import Derived.Deep.QuietTactic
import Derived.BigQuiet
namespace Go.Proofs.Ytediledehhcicaa.Ring
set_option linter.unusedSimpArgs false
set_option linter.unusedVariables false
open Go Go.RowKit Mem Turn

set_option maxRecDepth 100000 in
set_option maxHeartbeats 4000000 in
theorem same01 (D E : Nat → Prop) (u v : Value) (t : List Int) (w : World) (hu : TextAt D False w u t) (hv : TextAt E False w v t) :
    Calls Try.prog 20 #[u, v] w fun e w' => e = .returned (.bool true) ∧ ∃ d, w' = w.drewN d := by
  obtain ⟨a, c, rfl, ha, h4, h1⟩ := hu
  obtain ⟨b, d, rfl, hb, _, h2⟩ := hv
  have H1 := Lib.hid h1
  have H2 := Lib.hid h2
  obtain ⟨n, hn⟩ : ∃ n, t.length = n := ⟨_, rfl⟩
  have HN := Lib.hid hn
  rw [hn] at ha hb h4 ⊢
  have hn2 : n ≤ 40000000000000 := by omega
  have e0 : ((n : Int) != (n : Int)) = false := by simp
  clear h1 h2 hn h4
  go_enter Try.func20, Try.ntmps20
  go_wp2_with fail
  go_loopw [5] (fun i wr => ∃ k : Nat, k ≤ n ∧ i = .int .i64 k ∧ Hid (∃ q, wr = w.drewN q)) (fun i _ => n - (intOf i).toNat)
  case atStart => exact ⟨0, Nat.zero_le _, rfl, Lib.hid ⟨0, rfl⟩⟩
  case round =>
    obtain ⟨k, hk, rfl, H⟩ := hrel
    obtain ⟨q, rfl⟩ := H.out
    by_cases hlt : k < n
    · obtain ⟨b1, o1, rfl, _, _, c1⟩ := H1.out.resolve_left (by rw [HN.out]; omega)
      obtain ⟨b2, o2, rfl, _, _, c2⟩ := H2.out.resolve_left (by rw [HN.out]; omega)
      obtain ⟨x, hx⟩ : ∃ x, t[k]? = some x := ⟨_, List.getElem?_eq_getElem (by rw [HN.out]; exact hlt)⟩
      have q1 : (w.drewN q).cell? ⟨b1, o1 + k, none⟩ = some (.int .i32 x) := (c1 k x hx).1
      have q2 : (w.drewN q).cell? ⟨b2, o2 + k, none⟩ = some (.int .i32 x) := (c2 k x hx).1
      have hlt' : (k : Int) < n := by omega
      have hk0 : (0 : Int) ≤ (k : Int) := by omega
      have exy : (x != x) = false := by simp
      clear c1 c2 hx H
      generalize hw1 : w.drewN q = w1 at *
      have HW1 := Lib.hid hw1
      clear hw1
      go_wp2_with fail
      go_quiet (fail)
      go_wp2_with fail
      go_roundw
      case rel => exact ⟨k + 1, by omega, by go_num, Lib.hid (by rw [← HW1.out, World.drewN_drewN]; exact ⟨_, rfl⟩)⟩
      case measure => simp [intOf]; omega
    · obtain rfl : k = n := by omega
      go_wp2_with fail
      go_ret
      exact ⟨rfl, _, rfl⟩

set_option maxRecDepth 100000 in
set_option maxHeartbeats 4000000 in
theorem same23 (D E : Nat → Prop) (u v : Value) (t : List CellC) (w : World) (hu : CellsAt D False w u t) (hv : CellsAt E False w v t) :
    Calls Try.prog 17 #[u, v] w fun e w' => e = .returned (.bool true) ∧ ∃ d, w' = w.drewN d := by
  obtain ⟨a, c, rfl, ha, h4, h1⟩ := hu
  obtain ⟨b, d, rfl, hb, _, h2⟩ := hv
  have H1 := Lib.hid h1
  have H2 := Lib.hid h2
  obtain ⟨n, hn⟩ : ∃ n, t.length = n := ⟨_, rfl⟩
  have HN := Lib.hid hn
  rw [hn] at ha hb h4 ⊢
  have hn2 : n ≤ 40000000000000 := by omega
  have e0 : ((n : Int) != (n : Int)) = false := by simp
  clear h1 h2 hn h4
  go_enter Try.func17, Try.ntmps17
  go_wp2_with fail
  go_loopw [5] (fun i wr => ∃ k : Nat, k ≤ n ∧ i = .int .i64 k ∧ Hid (∃ q, wr = w.drewN q)) (fun i _ => n - (intOf i).toNat)
  case atStart => exact ⟨0, Nat.zero_le _, rfl, Lib.hid ⟨0, rfl⟩⟩
  case round =>
    obtain ⟨k, hk, rfl, H⟩ := hrel
    obtain ⟨q, rfl⟩ := H.out
    by_cases hlt : k < n
    · obtain ⟨b1, o1, rfl, _, _, c1⟩ := H1.out.resolve_left (by rw [HN.out]; omega)
      obtain ⟨b2, o2, rfl, _, _, c2⟩ := H2.out.resolve_left (by rw [HN.out]; omega)
      obtain ⟨x, hx⟩ : ∃ x, t[k]? = some x := ⟨_, List.getElem?_eq_getElem (by rw [HN.out]; exact hlt)⟩
      obtain ⟨q1, _, t1, r1, s1⟩ := c1 k x hx
      obtain ⟨q2, _, t2, r2, s2⟩ := c2 k x hx
      have CS := Lib.hid (fun (m : Nat) => same01 D E t1 t2 x.2 ((w.drewN q).drewN m) ((s1.below (bdrew w q)).below (bdrew _ m)) ((s2.below (bdrew w q)).below (bdrew _ m)))
      have q1 : (w.drewN q).cell? ⟨b1, o1 + k * 2, none⟩ = some (.int .i64 x.1) := q1
      have q2 : (w.drewN q).cell? ⟨b2, o2 + k * 2, none⟩ = some (.int .i64 x.1) := q2
      have r1 : (w.drewN q).cell? ⟨b1, o1 + k * 2 + 1, none⟩ = some t1 := r1
      have r2 : (w.drewN q).cell? ⟨b2, o2 + k * 2 + 1, none⟩ = some t2 := r2
      obtain ⟨at1, ct1, rfl, _⟩ := s1
      obtain ⟨at2, ct2, rfl, _⟩ := s2
      have hlt' : (k : Int) < n := by omega
      have hk0 : (0 : Int) ≤ (k : Int) := by omega
      have exy : (x.1 != x.1) = false := by simp
      clear c1 c2 hx H
      generalize x.2.length = tl at *
      generalize x.1 = kd at *
      generalize hw1 : w.drewN q = w1 at *
      have HW1 := Lib.hid hw1
      clear hw1
      go_wp2_with fail
      go_quiet ((go_at_call 20; exact Calls.quiet_of (CS.out _)))
      go_wp2_with fail
      go_roundw
      case rel => exact ⟨k + 1, by omega, by go_num, Lib.hid (by rw [← HW1.out, World.drewN_drewN]; exact ⟨_, rfl⟩)⟩
      case measure => simp [intOf]; omega
    · obtain rfl : k = n := by omega
      go_wp2_with fail
      go_ret
      exact ⟨rfl, _, rfl⟩

set_option maxRecDepth 100000 in
set_option maxHeartbeats 4000000 in
theorem same32 (D E : Nat → Prop) (u v : Value) (t : List LineC) (w : World) (hu : LinesAt D False w u t) (hv : LinesAt E False w v t) (hn : t.length ≤ 100000) :
    Calls Try.prog 9 #[u, v] w fun e w' => e = .returned (.bool true) ∧ ∃ d, w' = w.drewN d := by
  obtain ⟨a, c, rfl, ha, h1⟩ := hu
  obtain ⟨b, d, rfl, hb, h2⟩ := hv
  have H1 := Lib.hid h1
  have H2 := Lib.hid h2
  obtain ⟨n, hnn⟩ : ∃ n, t.length = n := ⟨_, rfl⟩
  have HN := Lib.hid hnn
  rw [hnn] at ha hb hn ⊢
  have e0 : ((n : Int) != (n : Int)) = false := by simp
  clear h1 h2 hnn
  go_enter Try.func9, Try.ntmps9
  go_wp2_with fail
  go_loopw [5] (fun i wr => ∃ k : Nat, k ≤ n ∧ i = .int .i64 k ∧ Hid (∃ q, wr = w.drewN q)) (fun i _ => n - (intOf i).toNat)
  case atStart => exact ⟨0, Nat.zero_le _, rfl, Lib.hid ⟨0, rfl⟩⟩
  case round =>
    obtain ⟨k, hk, rfl, H⟩ := hrel
    obtain ⟨q, rfl⟩ := H.out
    by_cases hlt : k < n
    · obtain ⟨b1, o1, rfl, _, _, c1⟩ := H1.out.resolve_left (by rw [HN.out]; omega)
      obtain ⟨b2, o2, rfl, _, _, c2⟩ := H2.out.resolve_left (by rw [HN.out]; omega)
      obtain ⟨x, hx⟩ : ∃ x, t[k]? = some x := ⟨_, List.getElem?_eq_getElem (by rw [HN.out]; exact hlt)⟩
      obtain ⟨t1, r1, s1, q1⟩ := c1 k x hx
      obtain ⟨t2, r2, s2, q2⟩ := c2 k x hx
      have CS := Lib.hid (fun (m : Nat) => same23 D E t1 t2 x.1 ((w.drewN q).drewN m) ((s1.below (bdrew w q)).below (bdrew _ m)) ((s2.below (bdrew w q)).below (bdrew _ m)))
      have q1 : (w.drewN q).cell? ⟨b1, o1 + k * 2 + 1, none⟩ = some (.bool x.2) := q1
      have q2 : (w.drewN q).cell? ⟨b2, o2 + k * 2 + 1, none⟩ = some (.bool x.2) := q2
      have r1 : (w.drewN q).cell? ⟨b1, o1 + k * 2, none⟩ = some t1 := r1
      have r2 : (w.drewN q).cell? ⟨b2, o2 + k * 2, none⟩ = some t2 := r2
      obtain ⟨at1, ct1, rfl, _⟩ := s1
      obtain ⟨at2, ct2, rfl, _⟩ := s2
      have hlt' : (k : Int) < n := by omega
      have hk0 : (0 : Int) ≤ (k : Int) := by omega
      have exy : (x.2 != x.2) = false := by simp
      clear c1 c2 hx H
      generalize x.1.length = tl at *
      generalize x.2 = kd at *
      generalize hw1 : w.drewN q = w1 at *
      have HW1 := Lib.hid hw1
      clear hw1
      go_wp2_with fail
      go_quiet ((go_at_call 17; exact Calls.quiet_of (CS.out _)))
      go_wp2_with fail
      go_roundw
      case rel => exact ⟨k + 1, by omega, by go_num, Lib.hid (by rw [← HW1.out, World.drewN_drewN]; exact ⟨_, rfl⟩)⟩
      case measure => simp [intOf]; omega
    · obtain rfl : k = n := by omega
      go_wp2_with fail
      go_ret
      exact ⟨rfl, _, rfl⟩
end Go.Proofs.Ytediledehhcicaa.Ring

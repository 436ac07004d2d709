/-
  The walk of the statement BasewTells.
-/
import Derived.Test.YtdfocobcchmjfaaBasew
import Derived.BigQuiet
namespace Go.Proofs.Ytdfocobcchmjfaa.Basew
set_option linter.unusedVariables false
open Go.RowKit Mem Tab Ucd

theorem f1 : rw_ 97 = 1 := by kernel_rfl
theorem f2 : rw_ 19968 = 2 := by kernel_rfl
theorem f3 : rw_ 769 = 0 := by kernel_rfl
theorem f4 : rw_ 127995 = 0 := by kernel_rfl
theorem f5 : silentB 27 = true := by decide

theorem works_any (w : World) :
    Calls Try.prog 57 #[] w fun e w' => e = .returned (.bool true) ∧ Below w.heap.size w w' := by
  go_enter Try.func57, Try.ntmps57
  go_wp2_with fail
  refine (rune_any _ (by omega) (by omega) _).mono ?_; rintro e w1 ⟨rfl, h1⟩; rw [f1]
  go_wp2_with fail
  refine (rune_any _ (by omega) (by omega) _).mono ?_; rintro e w2 ⟨rfl, h2⟩; rw [f2]
  have h2 := h1.trans (h2.mono h1.size)
  clear h1
  go_wp2_with fail
  refine (rune_any _ (by omega) (by omega) _).mono ?_; rintro e w3 ⟨rfl, h3⟩; rw [f3]
  have h3 := h2.trans (h3.mono h2.size)
  clear h2
  go_wp2_with fail
  refine (rune_any _ (by omega) (by omega) _).mono ?_; rintro e w4 ⟨rfl, h4⟩; rw [f4]
  have h4 := h3.trans (h4.mono h3.size)
  clear h3
  go_wp2_with fail
  refine (silent_any _ _).mono ?_; rintro e w5 ⟨rfl, rfl⟩; rw [f5]
  go_wp2
  go_ret
  exact ⟨rfl, h4⟩

theorem check : (List.range 160).all (fun n => !(silentB (n : Int)) || noneB (Gcb.val (n : Int))) = true := by kernel_rfl

/-- what shows nothing is 0 wide -/
theorem silent_zero (r : Int) (h : silentB r = true) : rw_ r = 0 := by
  have hr : 0 ≤ r ∧ r < 160 := by
    unfold silentB at h
    simp at h
    omega
  obtain ⟨n, rfl⟩ := Int.eq_ofNat_of_zero_le hr.1
  have := List.all_eq_true.1 check n (List.mem_range.2 (by omega))
  rw [h] at this
  simp at this
  unfold rw_ bw
  rw [this]
  rfl

theorem below_of_same {P : Program} {f : FuncId} {args : Array Value} {w : World} {v : Value} (h : Calls P f args w fun e w' => e = .returned v ∧ w = w') : Calls P f args w fun e w' => e = .returned v ∧ Below w.heap.size w w' :=
  h.mono fun _ _ ⟨h1, h2⟩ => ⟨h1, by subst h2; exact Below.refl _ _⟩

set_option maxHeartbeats 4000000 in
theorem tells_any (b : Int) (p : Bool) (c e : Int) (r : Int) (hr1 : -2147483648 ≤ r) (hr2 : r ≤ 2147483647) (w : World) :
    Calls Try.prog 14 #[propV b p c e, .int .i32 r] w fun e' w' => e' = .returned (.bool true) ∧ Below w.heap.size w w' := by
  have hz := silent_zero r
  have HO := Lib.hid (of_any b p c e)
  have HR := Lib.hid (ref_any b p c e)
  have H1 := Lib.hid (rune_any r hr1 hr2)
  have H2 := Lib.hid (rrune_any r hr1 hr2)
  have H3 := Lib.hid fun w => below_of_same (silent_any r w)
  have H4 := Lib.hid fun w => below_of_same (rsilent_any r w)
  unfold propV at *
  generalize bw b e = x at *
  generalize rw_ r = y at *
  generalize silentB r = s at *
  have c0 : (w.alloc (.cells #[.int .i64 b, .bool p, .int .i64 c, .int .i64 e] 34)).cell? ⟨w.heap.size, 0, none⟩ = some (.int .i64 b) := by simp
  have c1 : (w.alloc (.cells #[.int .i64 b, .bool p, .int .i64 c, .int .i64 e] 34)).cell? ⟨w.heap.size, 1, none⟩ = some (.bool p) := by simp
  have c2 : (w.alloc (.cells #[.int .i64 b, .bool p, .int .i64 c, .int .i64 e] 34)).cell? ⟨w.heap.size, 2, none⟩ = some (.int .i64 c) := by simp
  have c3 : (w.alloc (.cells #[.int .i64 b, .bool p, .int .i64 c, .int .i64 e] 34)).cell? ⟨w.heap.size, 3, none⟩ = some (.int .i64 e) := by simp
  have BW : Below w.heap.size w (w.alloc (.cells #[.int .i64 b, .bool p, .int .i64 c, .int .i64 e] 34)) := (Below.refl _ _).alloc (Nat.le_refl _) _
  have HC0 := Lib.hid c0
  have HC1 := Lib.hid c1
  have HC2 := Lib.hid c2
  have HC3 := Lib.hid c3
  have HBW := Lib.hid BW
  clear c0 c1 c2 c3 BW
  cases s
  all_goals
    try (obtain rfl : y = 0 := hz rfl)
    clear hz
    go_enter Try.func14, Try.ntmps14
    go_wp2_with fail
    generalize (w.alloc (.cells #[.int .i64 b, .bool p, .int .i64 c, .int .i64 e] 34)) = W at *
    have k0 := cell_regrown HC0.out
    have k1 := cell_regrown HC1.out
    have k2 := cell_regrown HC2.out
    have k3 := cell_regrown HC3.out
    have q0 := Lib.hid fun d os => Calls.regrown_of (w := W) (d := d) (os := os) (HO.out (Go.Sort.grow (redrawn W d) os))
    have q1 := Lib.hid fun d os => Calls.regrown_of (w := W) (d := d) (os := os) (HR.out (Go.Sort.grow (redrawn W d) os))
    have q2 := Lib.hid fun d os => Calls.regrown_of (w := W) (d := d) (os := os) (H1.out (Go.Sort.grow (redrawn W d) os))
    have q3 := Lib.hid fun d os => Calls.regrown_of (w := W) (d := d) (os := os) (H2.out (Go.Sort.grow (redrawn W d) os))
    have q4 := Lib.hid fun d os => Calls.regrown_of (w := W) (d := d) (os := os) (H3.out (Go.Sort.grow (redrawn W d) os))
    have q5 := Lib.hid fun d os => Calls.regrown_of (w := W) (d := d) (os := os) (H4.out (Go.Sort.grow (redrawn W d) os))
    have q6 := Lib.hid fun d os => Calls.regrown_of (w := W) (d := d) (os := os) (works_any (Go.Sort.grow (redrawn W d) os))
    refine wp_region_quiet_below (by kernel_rfl) (by kernel_rfl) ?_
    repeat (quiet_step (first | (go_at_call 51; exact q0.out _ _) | (go_at_call 52; exact q1.out _ _) | (go_at_call 53; exact q2.out _ _) | (go_at_call 54; exact q3.out _ _) | (go_at_call 55; exact q4.out _ _) | (go_at_call 56; exact q5.out _ _) | (go_at_call 57; exact q6.out _ _)))
    refine wpQuiet_nil ?_
    intro _ hw'
    obtain ⟨⟨dq, osq⟩, hw''⟩ := hw'
    subst hw''
    clear k0 k1 k2 k3 q0 q1 q2 q3 q4 q5 q6 HO HR H1 H2 H3 H4 HC0 HC1 HC2 HC3
    have hbw := HBW.out.trans ((below_regrown W dq osq).mono HBW.out.size)
    generalize Go.Sort.grow (redrawn W dq) osq = w2 at *
    have HB := Lib.hid hbw
    clear hbw HBW
    go_wp2
    go_ret
    exact ⟨rfl, HB.out⟩

end Go.Proofs.Ytdfocobcchmjfaa.Basew

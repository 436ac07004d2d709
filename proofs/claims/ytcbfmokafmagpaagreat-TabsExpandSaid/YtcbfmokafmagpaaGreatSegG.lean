/-
  Walks of the reference of layer 15: conjunct, picture.
-/
import Derived.Test.YtcbfmokafmagpaaGreatSegP
import Derived.Test.YtcbfmokafmagpaaGreatSegPlain
namespace Go.Proofs.YtcbfmokafmagpaaGreat.Seg
set_option linter.unusedSimpArgs false
set_option linter.unusedVariables false
open Go.RowKit Mem

set_option maxHeartbeats 2000000 in
theorem conjunct_ref (b off len cap : Nat) (ps : Nat → P4) (i : Nat) (w : World) (hC : Cells w b off len ps) (hi : i < len) (hlen : len ≤ 9223372036854775807) :
    Calls Tryz.prog 86 #[.slice (some ⟨b, off, none⟩) len cap, .int .i64 i] w fun e w' => e = .returned (.bool (conjR ps i)) ∧ w = w' := by
  have ci := (hC i hi).2.2.1
  have HC := Lib.hid hC
  have HR : Hid (conjR ps i = ((ps i).co == 1 && conjDown ps i 0)) := rfl
  have hi' : (i : Int) < len := by omega
  clear hC
  generalize (ps i).co = c0 at *
  by_cases h1 : c0 = 1
  · subst h1
    go_enter Tryz.func86, Tryz.ntmps86
    go_wp2
    go_loop [5, 6] (fun ls k => ∃ (m L : Nat), m ≤ i ∧ L + m ≤ i ∧ k = .int .i64 ((m : Int) - 1) ∧ ls = .int .i64 L ∧ Hid (conjDown ps m L = conjDown ps i 0)) (fun _ k => (intOf k + 1).toNat)
    case atStart => exact ⟨i, 0, Nat.le_refl _, by omega, rfl, rfl, Lib.hid rfl⟩
    case round =>
      obtain ⟨m, L, hm, hL, hk, rfl, H⟩ := hrel
      cases m with
      | zero =>
        rw [show ((0 : Nat) : Int) - 1 = -1 from rfl] at hk
        subst hk
        go_wp2
        go_ret
        exact ⟨ret_bool (by rw [HR.out, ← H.out]; rfl), rfl⟩
      | succ n =>
        rw [show ((n + 1 : Nat) : Int) - 1 = (n : Int) from by omega] at hk
        subst hk
        have cn := (HC.out n (by omega)).2.2.1
        have hn' : (n : Int) < len := by omega
        have HD : Hid (conjDown ps (n + 1) L = if (ps n).co = 1 then decide (0 < L) else if (ps n).co = 2 then conjDown ps n (L + 1) else if (ps n).co = 3 then conjDown ps n L else false) := rfl
        generalize (ps n).co = c at *
        by_cases h1 : c = 1
        · subst h1
          go_wp2
          go_ret
          exact ⟨ret_bool (by rw [HR.out, ← H.out, HD.out]; simp), rfl⟩
        · have e1 : (c == 1) = false := by simp [h1]
          by_cases h2 : c = 2
          · subst h2
            go_wp2
            go_round
            case rel => exact ⟨n, L + 1, by omega, by omega, rfl, by go_num, Lib.hid (by rw [← H.out, HD.out]; simp)⟩
            case measure => first | (simp [intOf]; done) | (simp [intOf]; omega)
          · have e2 : (c == 2) = false := by simp [h2]
            have e2' : (c != 2) = true := by simp [h2]
            by_cases h3 : c = 3
            · subst h3
              go_wp2
              go_round
              case rel => exact ⟨n, L, by omega, by omega, rfl, rfl, Lib.hid (by rw [← H.out, HD.out]; simp)⟩
              case measure => first | (simp [intOf]; done) | (simp [intOf]; omega)
            · have e3' : (c != 3) = true := by simp [h3]
              go_wp2
              go_ret
              exact ⟨ret_bool (by rw [HR.out, ← H.out, HD.out, if_neg h1, if_neg h2, if_neg h3]; rfl), rfl⟩
  · have e1 : (c0 != 1) = true := by simp [h1]
    go_enter Tryz.func86, Tryz.ntmps86
    go_wp2
    go_ret
    exact ⟨ret_bool (by rw [HR.out]; simp [h1]), rfl⟩

set_option maxHeartbeats 2000000 in
theorem picture_ref (b off len cap : Nat) (ps : Nat → P4) (i : Nat) (w : World) (hC : Cells w b off len ps) (hi : i < len) (hlen : len ≤ 9223372036854775807) :
    Calls Tryz.prog 87 #[.slice (some ⟨b, off, none⟩) len cap, .int .i64 i] w fun e w' => e = .returned (.bool (pictR ps i)) ∧ w = w' := by
  have ci := (hC i hi).2.1
  have HC := Lib.hid hC
  have HR : Hid (pictR ps i = ((ps i).pi && decide (2 ≤ i) && (ps (i - 1)).br == 5 && !(ps (i - 1)).pi && pictDown ps (i - 1))) := rfl
  have hi' : (i : Int) < len := by omega
  clear hC
  cases hp : (ps i).pi <;> rw [hp] at ci HR
  · have HR := Lib.hid (HR.out.trans (by simp : _ = false))
    clear hp
    go_enter Tryz.func87, Tryz.ntmps87
    go_wp2
    go_ret
    exact ⟨ret_bool HR.out.symm, rfl⟩
  · clear hp
    by_cases h2 : i < 2
    · have d2 : decide ((i : Int) < 2) = true := by simp; omega
      have e2 : decide (2 ≤ i) = false := by simp; omega
      have HR := Lib.hid (HR.out.trans (by rw [e2]; rfl : _ = false))
      clear e2
      go_enter Tryz.func87, Tryz.ntmps87
      go_wp2
      go_ret
      exact ⟨ret_bool HR.out.symm, rfl⟩
    · have d2 : decide ((i : Int) < 2) = false := by simp; omega
      have e2 : decide (2 ≤ i) = true := by simp; omega
      have h2' : (2 : Int) ≤ i := by omega
      obtain ⟨cb, cp, _, _⟩ := HC.out (i - 1) (by omega)
      have HR := Lib.hid (HR.out.trans (by rw [e2] : _ = (true && true && (ps (i - 1)).br == 5 && !(ps (i - 1)).pi && pictDown ps (i - 1))))
      clear e2
      generalize (ps (i - 1)).br = br at *
      generalize (ps (i - 1)).pi = pr at *
      by_cases h5 : br = 5
      · have e5 : (br != 5) = false := by simp [h5]
        have HR := Lib.hid (HR.out.trans (by rw [h5] : _ = (true && true && (5 : Int) == 5 && !pr && pictDown ps (i - 1))))
        subst h5
        cases pr
        · have HR := Lib.hid (HR.out.trans (by simp : _ = pictDown ps (i - 1)))
          go_enter Tryz.func87, Tryz.ntmps87
          go_wp2
          go_loop [5] (fun k => ∃ m : Nat, m ≤ i - 1 ∧ k = .int .i64 ((m : Int) - 1) ∧ Hid (pictDown ps m = pictDown ps (i - 1))) (fun k => (intOf k + 1).toNat)
          case atStart => exact ⟨i - 1, Nat.le_refl _, by go_num, Lib.hid rfl⟩
          case round =>
            obtain ⟨m, hm, hk, H⟩ := hrel
            cases m with
            | zero =>
              rw [show ((0 : Nat) : Int) - 1 = -1 from rfl] at hk
              subst hk
              go_wp2
              go_ret
              exact ⟨ret_bool (by rw [HR.out, ← H.out]; rfl), rfl⟩
            | succ n =>
              rw [show ((n + 1 : Nat) : Int) - 1 = (n : Int) from by omega] at hk
              subst hk
              obtain ⟨cn, cq, _, _⟩ := HC.out n (by omega)
              have hn' : (n : Int) < len := by omega
              have HD : Hid (pictDown ps (n + 1) = if (ps n).pi then true else if (ps n).br = 4 then pictDown ps n else false) := rfl
              generalize (ps n).br = c at *
              generalize (ps n).pi = q at *
              cases q
              · by_cases h4 : c = 4
                · subst h4
                  go_wp2
                  go_round
                  case rel => exact ⟨n, by omega, rfl, Lib.hid (by rw [← H.out, HD.out]; simp)⟩
                  case measure => first | (simp [intOf]; done) | (simp [intOf]; omega)
                · have e4 : (c != 4) = true := by simp [h4]
                  go_wp2
                  go_ret
                  exact ⟨ret_bool (by rw [HR.out, ← H.out, HD.out]; simp [h4]), rfl⟩
              · go_wp2
                go_ret
                exact ⟨ret_bool (by rw [HR.out, ← H.out, HD.out]; simp), rfl⟩
        · have HR := Lib.hid (HR.out.trans (by simp : _ = false))
          go_enter Tryz.func87, Tryz.ntmps87
          go_wp2
          go_ret
          exact ⟨ret_bool HR.out.symm, rfl⟩
      · have e5 : (br != 5) = true := by simp [h5]
        have e5' : (br == 5) = false := by simp [h5]
        have HR := Lib.hid (HR.out.trans (by rw [e5']; simp : _ = false))
        clear e5'
        go_enter Tryz.func87, Tryz.ntmps87
        go_wp2
        go_ret
        exact ⟨ret_bool HR.out.symm, rfl⟩

end Go.Proofs.YtcbfmokafmagpaaGreat.Seg

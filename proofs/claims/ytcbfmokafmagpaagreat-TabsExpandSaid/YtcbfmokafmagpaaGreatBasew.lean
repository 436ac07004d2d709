/-
  Package basew and its reference.
-/
import Derived.Test.YtcbfmokafmagpaaGreatUcd
import Derived.Lib.QuietBelow
namespace Go.Proofs.YtcbfmokafmagpaaGreat.Basew
set_option linter.unusedSimpArgs false
set_option linter.unusedVariables false
open Go.RowKit Mem Tab Ucd

theorem ret_int {k : IntKind} {a b : Int} (h : a = b) : Ending.returned (.int k a) = .returned (.int k b) := by rw [h]
theorem ret_bool {a b : Bool} (h : a = b) : Ending.returned (.bool a) = .returned (.bool b) := by rw [h]

def zs : List Int := [1, 2, 3, 4, 5, 10, 11]
def noneB (c : Int) : Bool := c == 1 || c == 2 || c == 3 || c == 4 || c == 5 || c == 10 || c == 11
/-- how wide a class of breaks and an east width make it -/
def bw (b e : Int) : Int := if noneB b then 0 else if e == 1 || e == 2 then 2 else 1
def silentB (r : Int) : Bool := (decide (0 ≤ r) && decide (r ≤ 31)) || (decide (127 ≤ r) && decide (r ≤ 159))

theorem none_any (c : Int) (w : World) :
    Calls Tryz.prog 135 #[.int .i64 c] w fun e w' => e = .returned (.bool (noneB c)) ∧ w = w' := by
  go_enter Tryz.func135, Tryz.ntmps135
  go_wp2
  all_goals (go_ret; exact ⟨ret_bool (by unfold noneB; simp [*]), rfl⟩)

theorem e12 (e : Int) : (e == 1) = true ∨ ((e == 1) = false ∧ (e == 2) = true) ∨ ((e == 1) = false ∧ (e == 2) = false) := by
  by_cases h1 : e = 1
  · simp [h1]
  · by_cases h2 : e = 2 <;> simp [h1, h2]

set_option maxHeartbeats 400000 in
theorem of_any (b : Int) (p : Bool) (c e : Int) (w : World) :
    Calls Tryz.prog 133 #[propV b p c e] w fun e' w' => e' = .returned (.int .i64 (bw b e)) ∧ Below w.heap.size w w' := by
  unfold propV
  have hb : bw b e = if noneB b then 0 else if e == 1 || e == 2 then 2 else 1 := rfl
  have H := Lib.hid hb
  clear hb
  rcases e12 e with h1 | ⟨h1, h2⟩ | ⟨h1, h2⟩
  all_goals
   go_enter Tryz.func133, Tryz.ntmps133
   go_wp2_with (go_at_call 135; refine (none_any _ _).mono ?_; rintro e w' ⟨rfl, rfl⟩)
   all_goals (go_ret; refine ⟨ret_int (by rw [H.out]; simp [*]), (Below.refl _ _).alloc (Nat.le_refl _) _⟩)

theorem noneB_zs (b : Int) : noneB b = zs.any fun z => b == z := by simp [noneB, zs, Bool.or_assoc]

set_option maxHeartbeats 2000000 in
theorem ref_any (b : Int) (p : Bool) (c e : Int) (w : World) :
    Calls Tryz.prog 105 #[propV b p c e] w fun e' w' => e' = .returned (.int .i64 (bw b e)) ∧ Below w.heap.size w w' := by
  unfold propV
  have hb : bw b e = if noneB b then 0 else if e == 1 || e == 2 then 2 else 1 := rfl
  have H := Lib.hid hb
  clear hb
  go_enter Tryz.func105, Tryz.ntmps105
  go_wp2
  have K0 : Blk ((w.alloc (.cells #[.int .i64 b, .bool p, .int .i64 c, .int .i64 e] 88)).alloc (.cells #[.int .i64 1, .int .i64 2, .int .i64 3, .int .i64 4, .int .i64 5, .int .i64 10, .int .i64 11] 3)) w.heap.size [.int .i64 b, .bool p, .int .i64 c, .int .i64 e] :=
    (Blk.alloc w _ _ (0, 0) [.int .i64 b, .bool p, .int .i64 c, .int .i64 e] rfl).below ((Below.refl _ _).alloc (Nat.le_refl _) _) (by simp)
  have K1 : Blk ((w.alloc (.cells #[.int .i64 b, .bool p, .int .i64 c, .int .i64 e] 88)).alloc (.cells #[.int .i64 1, .int .i64 2, .int .i64 3, .int .i64 4, .int .i64 5, .int .i64 10, .int .i64 11] 3)) (w.heap.size + 1) (zs.map (Value.int .i64)) := by
    have h := Blk.alloc (w.alloc (.cells #[.int .i64 b, .bool p, .int .i64 c, .int .i64 e] 88)) #[.int .i64 1, .int .i64 2, .int .i64 3, .int .i64 4, .int .i64 5, .int .i64 10, .int .i64 11] 3 (0, 0) (zs.map (Value.int .i64)) rfl
    simpa using h
  have BW : Below w.heap.size w ((w.alloc (.cells #[.int .i64 b, .bool p, .int .i64 c, .int .i64 e] 88)).alloc (.cells #[.int .i64 1, .int .i64 2, .int .i64 3, .int .i64 4, .int .i64 5, .int .i64 10, .int .i64 11] 3)) :=
    ((Below.refl _ _).alloc (Nat.le_refl _) _).alloc (by simp) _
  generalize ((w.alloc (.cells #[.int .i64 b, .bool p, .int .i64 c, .int .i64 e] 88)).alloc (.cells #[.int .i64 1, .int .i64 2, .int .i64 3, .int .i64 4, .int .i64 5, .int .i64 10, .int .i64 11] 3)) = W at *
  have HK0 := Lib.hid K0
  have HK1 := Lib.hid K1
  have HBW := Lib.hid BW
  clear K0 K1 BW
  go_loopw [4] (fun i wr => ∃ k : Nat, k ≤ 7 ∧ i = .int .i64 k ∧ Hid ((∀ z ∈ zs.take k, (b == z) = false) ∧ Blk wr w.heap.size [.int .i64 b, .bool p, .int .i64 c, .int .i64 e] ∧ Blk wr (w.heap.size + 1) (zs.map (Value.int .i64)) ∧ Below w.heap.size w wr)) (fun i _ => 7 - (intOf i).toNat)
  case atStart => exact ⟨0, by omega, rfl, by simp, HK0.out, HK1.out, HBW.out⟩
  case round =>
    obtain ⟨k, hk, rfl, HR⟩ := hrel
    have c0 := HR.out.2.1.cell 0 _ rfl
    have c3 := HR.out.2.1.cell 3 _ rfl
    by_cases hlt : k < 7
    · obtain ⟨z, hz⟩ : ∃ z, zs[k]? = some z := ⟨_, List.getElem?_eq_getElem (by simpa [zs] using hlt)⟩
      have ck := HR.out.2.2.1.cell k (.int .i64 z) (by rw [List.getElem?_map, hz]; rfl)
      have HZ := Lib.hid hz
      have hlt' : (k : Int) < 7 := by omega
      clear hz
      by_cases hbz : b = z
      · have ebz : (b == z) = true := by simp [hbz]
        have HN : Hid (noneB b = true) := by
          rw [noneB_zs]
          exact List.any_eq_true.2 ⟨z, List.mem_iff_getElem?.2 ⟨k, HZ.out⟩, ebz⟩
        clear hbz
        go_wp2
        go_quiet (fail)
        go_wp2
        go_ret
        exact ⟨ret_int (by rw [H.out, HN.out]; rfl), HR.out.2.2.2.trans ((bdrew _ _).mono HR.out.2.2.2.size)⟩
      · have ebz : (b == z) = false := by simp [hbz]
        clear hbz
        go_wp2
        go_quiet (fail)
        go_wp2
        go_roundw
        case rel =>
          refine ⟨k + 1, by omega, by go_num, ?_, HR.out.2.1, HR.out.2.2.1, HR.out.2.2.2.trans ((bdrew _ _).mono HR.out.2.2.2.size)⟩
          intro y hy
          rw [List.take_add_one, HZ.out] at hy
          rcases List.mem_append.1 hy with h | h
          · exact HR.out.1 y h
          · simp at h; subst h; exact ebz
        case measure => simp [intOf]; omega
    · obtain rfl : k = 7 := by omega
      have HN : Hid (noneB b = false) := by
        rw [noneB_zs]
        exact List.any_eq_false.2 fun z hz => by have := HR.out.1 z (by rw [List.take_of_length_le (by simp [zs])]; exact hz); simp [this]
      rcases e12 e with h1 | ⟨h1, h2⟩ | ⟨h1, h2⟩
      all_goals
        go_wp2
        go_ret
        exact ⟨ret_int (by rw [H.out, HN.out]; simp [*]), HR.out.2.2.2⟩

theorem sil_cases (r : Int) :
    (decide (0 ≤ r) = true ∧ decide (r < 32) = true ∧ decide (r ≤ 31) = true ∧ silentB r = true) ∨
    (decide (0 ≤ r) = true ∧ decide (r < 32) = false ∧ decide (r ≤ 31) = false ∧ decide (127 ≤ r) = true ∧ decide (r ≤ 159) = true ∧ silentB r = true) ∨
    (decide (0 ≤ r) = true ∧ decide (r < 32) = false ∧ decide (r ≤ 31) = false ∧ decide (127 ≤ r) = true ∧ decide (r ≤ 159) = false ∧ silentB r = false) ∨
    (decide (0 ≤ r) = true ∧ decide (r < 32) = false ∧ decide (r ≤ 31) = false ∧ decide (127 ≤ r) = false ∧ True ∧ silentB r = false) ∨
    (decide (0 ≤ r) = false ∧ decide (127 ≤ r) = false ∧ True ∧ silentB r = false) := by
  unfold silentB
  simp
  omega

set_option maxHeartbeats 400000 in
theorem silent_any (r : Int) (w : World) : Calls Tryz.prog 62 #[.int .i32 r] w fun e w' => e = .returned (.bool (silentB r)) ∧ w = w' := by
  rcases sil_cases r with ⟨d1, d2, d3, h⟩ | ⟨d1, d2, d3, d4, d5, h⟩ | ⟨d1, d2, d3, d4, d5, h⟩ | ⟨d1, d2, d3, d4, d5, h⟩ | ⟨d1, d2, d3, h⟩
  all_goals
    rw [h]
    clear h
    go_enter Tryz.func62, Tryz.ntmps62
    go_wp2
    go_ret
    exact ⟨rfl, rfl⟩

set_option maxHeartbeats 400000 in
theorem rsilent_any (r : Int) (w : World) : Calls Tryz.prog 59 #[.int .i32 r] w fun e w' => e = .returned (.bool (silentB r)) ∧ w = w' := by
  rcases sil_cases r with ⟨d1, d2, d3, h⟩ | ⟨d1, d2, d3, d4, d5, h⟩ | ⟨d1, d2, d3, d4, d5, h⟩ | ⟨d1, d2, d3, d4, d5, h⟩ | ⟨d1, d2, d3, h⟩
  all_goals
    rw [h]
    clear h
    go_enter Tryz.func59, Tryz.ntmps59
    go_wp2
    go_ret
    exact ⟨rfl, rfl⟩

end Go.Proofs.YtcbfmokafmagpaaGreat.Basew

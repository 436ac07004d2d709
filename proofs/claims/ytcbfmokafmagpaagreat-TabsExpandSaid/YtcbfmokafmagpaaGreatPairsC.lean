/-
  The walk of the reference's table of pairs.
-/
import Derived.Test.YtcbfmokafmagpaaGreatPairsB
import Derived.Test.YtcbfmokafmagpaaGreatMem
namespace Go.Proofs.YtcbfmokafmagpaaGreat.Pairs
set_option linter.unusedSimpArgs false
set_option linter.unusedVariables false
open Go.RowKit Mem

def rowS (a : Nat) : ByteArray := ⟨((List.range 14).map fun b : Nat => UInt8.ofNat (48 + (pj a b).toNat)).toArray⟩
def rowsL : List Value := (List.range 14).map fun a => .string (rowS a)

def RowsPost (w : World) (e : Ending) (w' : World) : Prop :=
  e = .returned (.slice (some ⟨w.heap.size, 0, none⟩) 14 14) ∧ Below w.heap.size w w' ∧ Blk w' w.heap.size rowsL

theorem rows_any (w : World) : Calls Tryz.prog 108 #[] w (RowsPost w) := by
  go_enter Tryz.func108, Tryz.ntmps108
  go_wp2
  go_ret
  exact ⟨rfl, (Below.refl _ _).alloc (Nat.le_refl _) _, Blk.alloc _ _ _ _ _ (by kernel_rfl)⟩

theorem rowsL_get (a : Nat) (h : a < 14) : rowsL[a]? = some (.string (rowS a)) := by
  unfold rowsL
  rw [List.getElem?_map, List.getElem?_range h]
  rfl

theorem rowS_size (a : Nat) : (rowS a).size = 14 := by
  unfold rowS ByteArray.size
  simp

theorem pj_le (a b : Int) : 0 ≤ pj a b ∧ pj a b ≤ 2 := by
  unfold pj
  repeat' split
  all_goals omega

theorem rowS_get (a b : Nat) (h : b < (rowS a).size) : (((rowS a)[b]'h).toNat : Int) - 48 = pj a b := by
  have e : ((rowS a)[b]'h).toNat = 48 + (pj a b).toNat := by
    show ((((List.range 14).map fun b : Nat => UInt8.ofNat (48 + (pj a b).toNat)).toArray)[b]'h).toNat = _
    have := pj_le a b
    simp
    omega
  have := pj_le a b
  omega

theorem idx (a : Int) : (∃ i : Nat, a = i ∧ i < 14 ∧ cls a = i ∧ decide (a < 0) = false ∧ decide (13 < a) = false) ∨
    (cls a = 0 ∧ a < 0 ∧ decide (a < 0) = true) ∨ (cls a = 0 ∧ 13 < a ∧ decide (a < 0) = false ∧ decide (13 < a) = true) := by
  by_cases h : 0 ≤ a ∧ a ≤ 13
  · obtain ⟨i, rfl⟩ := Int.eq_ofNat_of_zero_le h.1
    refine .inl ⟨i, rfl, by omega, ?_, by simp, by simp; omega⟩
    unfold cls
    rw [if_neg (by omega)]
  · have e : cls a = 0 := by unfold cls; rw [if_pos (by omega)]
    simp [e]
    omega

set_option maxHeartbeats 1000000 in
theorem rjoin_ii (a b : Int) (hi : ∃ i : Nat, a = i ∧ i < 14 ∧ cls a = i ∧ decide (a < 0) = false ∧ decide (13 < a) = false) (hj : ∃ i : Nat, b = i ∧ i < 14 ∧ cls b = i ∧ decide (b < 0) = false ∧ decide (13 < b) = false) (w : World) :
    Calls Tryz.prog 85 #[.int .i64 a, .int .i64 b] w fun e w' => e = .returned (.int .i64 (pj (cls a) (cls b))) ∧ Below w.heap.size w w' := by
  obtain ⟨i, rfl, hla, hca, hda, hea⟩ := hi
  have HX := Lib.hid hca
  clear hca
  obtain ⟨j, rfl, hlb, hcb, hdb, heb⟩ := hj
  have HY := Lib.hid hcb
  clear hcb
  have hlt : j < (rowS i).size := by rw [rowS_size]; omega
  have h8 : ((rowS i)[j]'hlt).toNat < 256 := UInt8.toNat_lt _
  have HG := Lib.hid (rowS_get i j hlt)
  go_enter Tryz.func85, Tryz.ntmps85
  go_wp2_with fail
  refine (rows_any _).mono ?_
  rintro e w1 ⟨rfl, hb, hk⟩
  have hc := hk.cell i _ (rowsL_get i (by omega))
  generalize rowS i = s at *
  go_wp2
  go_ret
  exact ⟨ret_int (by rw [HX.out, HY.out]; exact HG.out), hb⟩

set_option maxHeartbeats 1000000 in
theorem rjoin_il (a b : Int) (hi : ∃ i : Nat, a = i ∧ i < 14 ∧ cls a = i ∧ decide (a < 0) = false ∧ decide (13 < a) = false) (hj : cls b = 0 ∧ b < 0 ∧ decide (b < 0) = true) (w : World) :
    Calls Tryz.prog 85 #[.int .i64 a, .int .i64 b] w fun e w' => e = .returned (.int .i64 (pj (cls a) (cls b))) ∧ Below w.heap.size w w' := by
  obtain ⟨i, rfl, hla, hca, hda, hea⟩ := hi
  have HX := Lib.hid hca
  clear hca
  obtain ⟨hcb, hlb, hdb⟩ := hj
  have HY := Lib.hid hcb
  clear hcb
  have hlt : 0 < (rowS i).size := by rw [rowS_size]; omega
  have h8 : ((rowS i)[0]'hlt).toNat < 256 := UInt8.toNat_lt _
  have HG := Lib.hid (rowS_get i 0 hlt)
  go_enter Tryz.func85, Tryz.ntmps85
  go_wp2_with fail
  refine (rows_any _).mono ?_
  rintro e w1 ⟨rfl, hb, hk⟩
  have hc := hk.cell i _ (rowsL_get i (by omega))
  generalize rowS i = s at *
  go_wp2
  go_ret
  exact ⟨ret_int (by rw [HX.out, HY.out]; exact HG.out), hb⟩

set_option maxHeartbeats 1000000 in
theorem rjoin_ih (a b : Int) (hi : ∃ i : Nat, a = i ∧ i < 14 ∧ cls a = i ∧ decide (a < 0) = false ∧ decide (13 < a) = false) (hj : cls b = 0 ∧ 13 < b ∧ decide (b < 0) = false ∧ decide (13 < b) = true) (w : World) :
    Calls Tryz.prog 85 #[.int .i64 a, .int .i64 b] w fun e w' => e = .returned (.int .i64 (pj (cls a) (cls b))) ∧ Below w.heap.size w w' := by
  obtain ⟨i, rfl, hla, hca, hda, hea⟩ := hi
  have HX := Lib.hid hca
  clear hca
  obtain ⟨hcb, hlb, hdb, heb⟩ := hj
  have HY := Lib.hid hcb
  clear hcb
  have hlt : 0 < (rowS i).size := by rw [rowS_size]; omega
  have h8 : ((rowS i)[0]'hlt).toNat < 256 := UInt8.toNat_lt _
  have HG := Lib.hid (rowS_get i 0 hlt)
  go_enter Tryz.func85, Tryz.ntmps85
  go_wp2_with fail
  refine (rows_any _).mono ?_
  rintro e w1 ⟨rfl, hb, hk⟩
  have hc := hk.cell i _ (rowsL_get i (by omega))
  generalize rowS i = s at *
  go_wp2
  go_ret
  exact ⟨ret_int (by rw [HX.out, HY.out]; exact HG.out), hb⟩

set_option maxHeartbeats 1000000 in
theorem rjoin_li (a b : Int) (hi : cls a = 0 ∧ a < 0 ∧ decide (a < 0) = true) (hj : ∃ i : Nat, b = i ∧ i < 14 ∧ cls b = i ∧ decide (b < 0) = false ∧ decide (13 < b) = false) (w : World) :
    Calls Tryz.prog 85 #[.int .i64 a, .int .i64 b] w fun e w' => e = .returned (.int .i64 (pj (cls a) (cls b))) ∧ Below w.heap.size w w' := by
  obtain ⟨hca, hla, hda⟩ := hi
  have HX := Lib.hid hca
  clear hca
  obtain ⟨j, rfl, hlb, hcb, hdb, heb⟩ := hj
  have HY := Lib.hid hcb
  clear hcb
  have hlt : j < (rowS 0).size := by rw [rowS_size]; omega
  have h8 : ((rowS 0)[j]'hlt).toNat < 256 := UInt8.toNat_lt _
  have HG := Lib.hid (rowS_get 0 j hlt)
  go_enter Tryz.func85, Tryz.ntmps85
  go_wp2_with fail
  refine (rows_any _).mono ?_
  rintro e w1 ⟨rfl, hb, hk⟩
  have hc := hk.cell 0 _ (rowsL_get 0 (by omega))
  generalize rowS 0 = s at *
  go_wp2
  go_ret
  exact ⟨ret_int (by rw [HX.out, HY.out]; exact HG.out), hb⟩

set_option maxHeartbeats 1000000 in
theorem rjoin_ll (a b : Int) (hi : cls a = 0 ∧ a < 0 ∧ decide (a < 0) = true) (hj : cls b = 0 ∧ b < 0 ∧ decide (b < 0) = true) (w : World) :
    Calls Tryz.prog 85 #[.int .i64 a, .int .i64 b] w fun e w' => e = .returned (.int .i64 (pj (cls a) (cls b))) ∧ Below w.heap.size w w' := by
  obtain ⟨hca, hla, hda⟩ := hi
  have HX := Lib.hid hca
  clear hca
  obtain ⟨hcb, hlb, hdb⟩ := hj
  have HY := Lib.hid hcb
  clear hcb
  have hlt : 0 < (rowS 0).size := by rw [rowS_size]; omega
  have h8 : ((rowS 0)[0]'hlt).toNat < 256 := UInt8.toNat_lt _
  have HG := Lib.hid (rowS_get 0 0 hlt)
  go_enter Tryz.func85, Tryz.ntmps85
  go_wp2_with fail
  refine (rows_any _).mono ?_
  rintro e w1 ⟨rfl, hb, hk⟩
  have hc := hk.cell 0 _ (rowsL_get 0 (by omega))
  generalize rowS 0 = s at *
  go_wp2
  go_ret
  exact ⟨ret_int (by rw [HX.out, HY.out]; exact HG.out), hb⟩

set_option maxHeartbeats 1000000 in
theorem rjoin_lh (a b : Int) (hi : cls a = 0 ∧ a < 0 ∧ decide (a < 0) = true) (hj : cls b = 0 ∧ 13 < b ∧ decide (b < 0) = false ∧ decide (13 < b) = true) (w : World) :
    Calls Tryz.prog 85 #[.int .i64 a, .int .i64 b] w fun e w' => e = .returned (.int .i64 (pj (cls a) (cls b))) ∧ Below w.heap.size w w' := by
  obtain ⟨hca, hla, hda⟩ := hi
  have HX := Lib.hid hca
  clear hca
  obtain ⟨hcb, hlb, hdb, heb⟩ := hj
  have HY := Lib.hid hcb
  clear hcb
  have hlt : 0 < (rowS 0).size := by rw [rowS_size]; omega
  have h8 : ((rowS 0)[0]'hlt).toNat < 256 := UInt8.toNat_lt _
  have HG := Lib.hid (rowS_get 0 0 hlt)
  go_enter Tryz.func85, Tryz.ntmps85
  go_wp2_with fail
  refine (rows_any _).mono ?_
  rintro e w1 ⟨rfl, hb, hk⟩
  have hc := hk.cell 0 _ (rowsL_get 0 (by omega))
  generalize rowS 0 = s at *
  go_wp2
  go_ret
  exact ⟨ret_int (by rw [HX.out, HY.out]; exact HG.out), hb⟩

set_option maxHeartbeats 1000000 in
theorem rjoin_hi (a b : Int) (hi : cls a = 0 ∧ 13 < a ∧ decide (a < 0) = false ∧ decide (13 < a) = true) (hj : ∃ i : Nat, b = i ∧ i < 14 ∧ cls b = i ∧ decide (b < 0) = false ∧ decide (13 < b) = false) (w : World) :
    Calls Tryz.prog 85 #[.int .i64 a, .int .i64 b] w fun e w' => e = .returned (.int .i64 (pj (cls a) (cls b))) ∧ Below w.heap.size w w' := by
  obtain ⟨hca, hla, hda, hea⟩ := hi
  have HX := Lib.hid hca
  clear hca
  obtain ⟨j, rfl, hlb, hcb, hdb, heb⟩ := hj
  have HY := Lib.hid hcb
  clear hcb
  have hlt : j < (rowS 0).size := by rw [rowS_size]; omega
  have h8 : ((rowS 0)[j]'hlt).toNat < 256 := UInt8.toNat_lt _
  have HG := Lib.hid (rowS_get 0 j hlt)
  go_enter Tryz.func85, Tryz.ntmps85
  go_wp2_with fail
  refine (rows_any _).mono ?_
  rintro e w1 ⟨rfl, hb, hk⟩
  have hc := hk.cell 0 _ (rowsL_get 0 (by omega))
  generalize rowS 0 = s at *
  go_wp2
  go_ret
  exact ⟨ret_int (by rw [HX.out, HY.out]; exact HG.out), hb⟩

set_option maxHeartbeats 1000000 in
theorem rjoin_hl (a b : Int) (hi : cls a = 0 ∧ 13 < a ∧ decide (a < 0) = false ∧ decide (13 < a) = true) (hj : cls b = 0 ∧ b < 0 ∧ decide (b < 0) = true) (w : World) :
    Calls Tryz.prog 85 #[.int .i64 a, .int .i64 b] w fun e w' => e = .returned (.int .i64 (pj (cls a) (cls b))) ∧ Below w.heap.size w w' := by
  obtain ⟨hca, hla, hda, hea⟩ := hi
  have HX := Lib.hid hca
  clear hca
  obtain ⟨hcb, hlb, hdb⟩ := hj
  have HY := Lib.hid hcb
  clear hcb
  have hlt : 0 < (rowS 0).size := by rw [rowS_size]; omega
  have h8 : ((rowS 0)[0]'hlt).toNat < 256 := UInt8.toNat_lt _
  have HG := Lib.hid (rowS_get 0 0 hlt)
  go_enter Tryz.func85, Tryz.ntmps85
  go_wp2_with fail
  refine (rows_any _).mono ?_
  rintro e w1 ⟨rfl, hb, hk⟩
  have hc := hk.cell 0 _ (rowsL_get 0 (by omega))
  generalize rowS 0 = s at *
  go_wp2
  go_ret
  exact ⟨ret_int (by rw [HX.out, HY.out]; exact HG.out), hb⟩

set_option maxHeartbeats 1000000 in
theorem rjoin_hh (a b : Int) (hi : cls a = 0 ∧ 13 < a ∧ decide (a < 0) = false ∧ decide (13 < a) = true) (hj : cls b = 0 ∧ 13 < b ∧ decide (b < 0) = false ∧ decide (13 < b) = true) (w : World) :
    Calls Tryz.prog 85 #[.int .i64 a, .int .i64 b] w fun e w' => e = .returned (.int .i64 (pj (cls a) (cls b))) ∧ Below w.heap.size w w' := by
  obtain ⟨hca, hla, hda, hea⟩ := hi
  have HX := Lib.hid hca
  clear hca
  obtain ⟨hcb, hlb, hdb, heb⟩ := hj
  have HY := Lib.hid hcb
  clear hcb
  have hlt : 0 < (rowS 0).size := by rw [rowS_size]; omega
  have h8 : ((rowS 0)[0]'hlt).toNat < 256 := UInt8.toNat_lt _
  have HG := Lib.hid (rowS_get 0 0 hlt)
  go_enter Tryz.func85, Tryz.ntmps85
  go_wp2_with fail
  refine (rows_any _).mono ?_
  rintro e w1 ⟨rfl, hb, hk⟩
  have hc := hk.cell 0 _ (rowsL_get 0 (by omega))
  generalize rowS 0 = s at *
  go_wp2
  go_ret
  exact ⟨ret_int (by rw [HX.out, HY.out]; exact HG.out), hb⟩

theorem rjoin_any (a b : Int) (w : World) :
    Calls Tryz.prog 85 #[.int .i64 a, .int .i64 b] w fun e w' => e = .returned (.int .i64 (pj (cls a) (cls b))) ∧ Below w.heap.size w w' := by
  rcases idx a with h | h | h <;> rcases idx b with k | k | k
  · exact rjoin_ii a b h k w
  · exact rjoin_il a b h k w
  · exact rjoin_ih a b h k w
  · exact rjoin_li a b h k w
  · exact rjoin_ll a b h k w
  · exact rjoin_lh a b h k w
  · exact rjoin_hi a b h k w
  · exact rjoin_hl a b h k w
  · exact rjoin_hh a b h k w

end Go.Proofs.YtcbfmokafmagpaaGreat.Pairs

/-
  The plain law of MeasureFits and MeasureHeads: what stands behind a border; the beginning that Head finds is one.
-/
import Derived.Test.YtcbfmokafmagpaaGreatMeaAll
namespace Go.Proofs.YtcbfmokafmagpaaGreat.Mea
set_option linter.unusedSimpArgs false
set_option linter.unusedVariables false
open Go Go.RowKit Gra GraLaw Turn Same

theorem cls_split (xs : List Int) {k : Nat} (hk : k ≤ cnt (Jn xs) xs.length) : cls xs = cls (xs.take (st (Jn xs) xs.length k)) ++ cls (xs.drop (st (Jn xs) xs.length k)) := by
  have hle := st_le hk
  have hlen : (xs.take (st (Jn xs) xs.length k)).length = st (Jn xs) xs.length k := by rw [List.length_take]; omega
  have hb : xs.drop (st (Jn xs) xs.length k) = [] ∨ Jn (xs.take (st (Jn xs) xs.length k) ++ xs.drop (st (Jn xs) xs.length k)) (xs.take (st (Jn xs) xs.length k)).length = false := by
    rw [List.take_append_drop, hlen]
    rcases Nat.lt_or_ge k (cnt (Jn xs) xs.length) with h | h
    · exact .inr (J_st h)
    · left
      have : k = cnt (Jn xs) xs.length := by omega
      subst this
      rw [st_cnt]; simp
  have e := cls_append _ _ hb
  rw [List.take_append_drop] at e
  exact e
theorem cls_len (xs : List Int) : (cls xs).length = cnt (Jn xs) xs.length := by simp [cls]
theorem cls_drop (xs : List Int) {k : Nat} (hk : k ≤ cnt (Jn xs) xs.length) : cls (xs.drop (st (Jn xs) xs.length k)) = (cls xs).drop k := by
  have e := cls_split xs hk
  rw [cls_take xs hk] at e
  have hl : ((cls xs).take k).length = k := by rw [List.length_take, cls_len]; omega
  conv => rhs; rw [e]
  exact (List.drop_left' hl).symm
theorem cls_get (xs : List Int) {k : Nat} (hk : k < cnt (Jn xs) xs.length) : (cls xs)[k]? = some (cl xs k) := by
  unfold cls
  rw [List.getElem?_map, List.getElem?_range hk]
  rfl
theorem cls_one (xs : List Int) {k : Nat} (hk : k < cnt (Jn xs) xs.length) : cls (cl xs k) = [cl xs k] := by
  have e := cls_drop xs (Nat.le_of_lt hk)
  generalize hy : xs.drop (st (Jn xs) xs.length k) = ys at *
  have h0 : (cls ys)[0]? = some (cl xs k) := by rw [e, List.getElem?_drop, Nat.add_zero]; exact cls_get xs hk
  have hc : 0 < cnt (Jn ys) ys.length := by
    have := (List.getElem?_eq_some_iff.1 h0).1
    rw [cls_len] at this; exact this
  have h1 := cls_get ys hc
  rw [h0] at h1
  have h2 : cl xs k = cl ys 0 := Option.some.inj h1
  have h3 : cl ys 0 = ys.take (st (Jn ys) ys.length 1) := by
    unfold cl
    rw [st_zero (Jn_zero ys)]
    simp
  rw [h2]
  conv => lhs; rw [h3]
  rw [cls_take ys hc]
  cases hcs : cls ys with
  | nil => rw [hcs] at h0; simp at h0
  | cons y t =>
    rw [hcs] at h0
    simp at h0
    rw [h0, h2]
    simp
theorem wide_one (xs : List Int) {k : Nat} (hk : k < cnt (Jn xs) xs.length) : wsum (itms (cl xs k)) = wideV (cl xs k) := by
  rw [itms_pieces, cls_one xs hk]
  have e := its_pieces (fun _ => cl xs k) 1
  have e2 := wsum_its (fun _ => cl xs k) 0
  rw [e] at e2
  simpa [its, wsum] using e2

theorem wsum_mono (f : Nat → List Int) {j k : Nat} (h : j ≤ k) : wsum (its f j) ≤ wsum (its f k) := by
  induction h with
  | refl => exact Int.le_refl _
  | step _ ih => rename_i m _; have := wideV_bd (f m); rw [wsum_its]; omega

theorem headP_one {xs : List Int} {w : Int} {j k : Nat} (hj : HeadP xs w j) (hk : HeadP xs w k) : j = k := by
  obtain ⟨a1, a2, a3⟩ := hj
  obtain ⟨b1, b2, b3⟩ := hk
  rcases Nat.lt_trichotomy j k with h | h | h
  · rcases a3 with a3 | a3
    · omega
    · have := wsum_mono (cl xs) (show j + 1 ≤ k from h); omega
  · exact h
  · rcases b3 with b3 | b3
    · omega
    · have := wsum_mono (cl xs) (show k + 1 ≤ j from h); omega

theorem runes_take {w : World} {a : Option Addr} {n c : Nat} {xs : List Int} (h : Runes w a n c xs) {j : Nat} (hj : j ≤ n) : Runes w a j c (xs.take j) := by
  obtain ⟨⟨h1, h2⟩, h3, h4, h5⟩ := h
  refine ⟨⟨by simp; omega, ?_⟩, r32_take h3 j, by omega, h5⟩
  rcases h2 with h0 | ⟨b, off, rfl, hb, hc⟩
  · exact .inl (by omega)
  · refine .inr ⟨b, off, rfl, hb, fun i x hx => hc i x ?_⟩
    rw [List.getElem?_take] at hx
    split at hx
    · exact hx
    · cases hx
theorem r32_drop {xs : List Int} (h : R32 xs) (k : Nat) : R32 (xs.drop k) := fun x hx => h x (List.mem_of_mem_drop hx)
theorem runes_drop {w : World} {b off n c : Nat} {xs : List Int} (h : Runes w (some ⟨b, off, none⟩) n c xs) {j : Nat} (hj : j ≤ n) : Runes w (some ⟨b, off + j, none⟩) (n - j) (c - j) (xs.drop j) := by
  obtain ⟨⟨h1, h2⟩, h3, h4, h5⟩ := h
  refine ⟨⟨by simp; omega, ?_⟩, r32_drop h3 j, by omega, by omega⟩
  rcases h2 with h0 | ⟨b', off', e, hb, hc⟩
  · exact .inl (by omega)
  · injection e with e
    injection e with e1 e2
    subst e1 e2
    refine .inr ⟨b, off + j, rfl, hb, fun i x hx => ?_⟩
    rw [List.getElem?_drop] at hx
    rw [Nat.add_assoc]
    exact hc _ x hx

end Go.Proofs.YtcbfmokafmagpaaGreat.Mea

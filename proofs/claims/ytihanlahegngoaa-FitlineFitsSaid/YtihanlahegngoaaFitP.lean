/-
  The plain law of FitlineFits: of a text without what is silent lines have room, none could take the first piece of the next one, and together they are the text.
-/
import Derived.Test.YtihanlahegngoaaFitL
namespace Go.Proofs.Ytihanlahegngoaa.Fit
set_option linter.unusedSimpArgs false
set_option linter.unusedVariables false
open Go Go.RowKit Seg Gra GraLaw Mea

/-- the line behind has a first piece, and the line ahead has no room for it -/
def NoRoom (W : Int) (a b : List Int) : Prop := ∃ y, (itms b)[0]? = some y ∧ W - min (wsum (itms a)) W < min (Cw.width y) W

structure Good (W : Int) (xs : List Int) (k : Nat) (o : List (List Int)) (l : List Int) (r : Int) : Prop where
  cat : o.flatten ++ l = xs.take (st (Jn xs) xs.length k)
  seg : ∃ p, p ≤ k ∧ l = (xs.drop (st (Jn xs) xs.length p)).take (st (Jn xs) xs.length k - st (Jn xs) xs.length p)
  room : r = W - min (wsum (itms l)) W
  fit : ∀ ln ∈ o ++ [l], 1 < W → wsum (itms ln) ≤ W
  chain : ∀ (i : Nat) (a b : List Int), (o ++ [l])[i]? = some a → (o ++ [l])[i + 1]? = some b → NoRoom W a b

theorem st_mono_le {xs : List Int} {j k : Nat} (h : j ≤ k) (hk : k ≤ cnt (Jn xs) xs.length) : st (Jn xs) xs.length j ≤ st (Jn xs) xs.length k := by
  rcases Nat.lt_or_eq_of_le h with h | rfl
  · exact Nat.le_of_lt (st_mono h hk)
  · exact Nat.le_refl _

/-- a line and the cluster behind it -/
theorem seg_next {xs : List Int} {p k : Nat} (hp : p ≤ k) (hk : k < cnt (Jn xs) xs.length) :
    (xs.drop (st (Jn xs) xs.length p)).take (st (Jn xs) xs.length k - st (Jn xs) xs.length p) ++ cl xs k = (xs.drop (st (Jn xs) xs.length p)).take (st (Jn xs) xs.length (k + 1) - st (Jn xs) xs.length p) := by
  have h1 := st_mono_le hp (Nat.le_of_lt hk)
  have h2 := st_mono (J := Jn xs) (n := xs.length) (j := k) (k := k + 1) (by omega) hk
  unfold cl
  rw [show st (Jn xs) xs.length (k + 1) - st (Jn xs) xs.length p = (st (Jn xs) xs.length k - st (Jn xs) xs.length p) + (st (Jn xs) xs.length (k + 1) - st (Jn xs) xs.length k) from by omega, List.take_add, List.drop_drop]
  rw [show st (Jn xs) xs.length p + (st (Jn xs) xs.length k - st (Jn xs) xs.length p) = st (Jn xs) xs.length k from by omega]

theorem seg_itms {xs : List Int} {p k : Nat} (hp : p ≤ k) (hk : k < cnt (Jn xs) xs.length) :
    itms ((xs.drop (st (Jn xs) xs.length p)).take (st (Jn xs) xs.length k - st (Jn xs) xs.length p) ++ cl xs k) = itms ((xs.drop (st (Jn xs) xs.length p)).take (st (Jn xs) xs.length k - st (Jn xs) xs.length p)) ++ itms (cl xs k) := by
  have h1 := st_mono_le hp (Nat.le_of_lt hk)
  have h2 := st_mono (J := Jn xs) (n := xs.length) (j := k) (k := k + 1) (by omega) hk
  have h3 := st_le (J := Jn xs) (n := xs.length) (k := k + 1) hk
  have hlen : ((xs.drop (st (Jn xs) xs.length p)).take (st (Jn xs) xs.length k - st (Jn xs) xs.length p)).length = st (Jn xs) xs.length k - st (Jn xs) xs.length p := by
    rw [List.length_take, List.length_drop]; omega
  refine itms_append _ _ (.inr ?_)
  rw [seg_next hp hk, hlen]
  have e : Jn ((xs.drop (st (Jn xs) xs.length p)).take (st (Jn xs) xs.length (k + 1) - st (Jn xs) xs.length p)) (st (Jn xs) xs.length k - st (Jn xs) xs.length p) = Jn (xs.drop (st (Jn xs) xs.length p)) (st (Jn xs) xs.length k - st (Jn xs) xs.length p) := by
    refine Jn_congr fun j hj => ?_
    unfold props
    rw [List.getD_eq_getElem?_getD, List.getD_eq_getElem?_getD, List.getElem?_take_of_lt (by omega)]
  rw [e, Jn_drop xs (J_st (by omega))]
  rw [show st (Jn xs) xs.length p + (st (Jn xs) xs.length k - st (Jn xs) xs.length p) = st (Jn xs) xs.length k from by omega]
  exact J_st hk

/-- a cluster that is shown is one piece -/
theorem one_item {xs : List Int} {k : Nat} (hk : k < cnt (Jn xs) xs.length) (hs : Basew.silentB ((cl xs k).getD 0 0) = false) : itms (cl xs k) = [(cl xs k).take 16] ∧ wideV (cl xs k) = Cw.width ((cl xs k).take 16) := by
  refine ⟨?_, by unfold wideV; rw [hs]; rfl⟩
  rw [itms_pieces, cls_one xs hk]
  have hsh : shown (cl xs k) = true := by unfold shown; rw [hs]; rfl
  unfold pieces
  rw [List.filter_cons, hsh]
  rfl

theorem append_last {α : Type} (o : List α) (l c : α) {i : Nat} {a b : α} (ha : (o ++ [l] ++ [c])[i]? = some a) (hb : (o ++ [l] ++ [c])[i + 1]? = some b) : ((o ++ [l])[i]? = some a ∧ (o ++ [l])[i + 1]? = some b) ∨ (a = l ∧ b = c) := by
  have hi : i + 1 < (o ++ [l] ++ [c]).length := (List.getElem?_eq_some_iff.1 hb).1
  simp at hi
  rcases Nat.lt_or_ge i o.length with h | h
  · left
    rw [List.getElem?_append_left (by simp; omega)] at ha hb
    exact ⟨ha, hb⟩
  · right
    have hio : i = o.length := by omega
    subst hio
    rw [List.getElem?_append_left (by simp)] at ha
    rw [List.getElem?_append_right (by simp)] at hb
    simp at ha hb
    exact ⟨ha.symm, hb.symm⟩

theorem append_swap {α : Type} (o : List α) (l l' : α) {i : Nat} {a b : α} (ha : (o ++ [l'])[i]? = some a) (hb : (o ++ [l'])[i + 1]? = some b) : ((o ++ [l])[i]? = some a) ∧ (((o ++ [l])[i + 1]? = some b) ∨ (b = l' ∧ (o ++ [l])[i + 1]? = some l)) := by
  have hi : i + 1 < (o ++ [l']).length := (List.getElem?_eq_some_iff.1 hb).1
  simp at hi
  rw [List.getElem?_append_left (by omega)] at ha
  refine ⟨by rw [List.getElem?_append_left (by omega)]; exact ha, ?_⟩
  rcases Nat.lt_or_ge (i + 1) o.length with h | h
  · left
    rw [List.getElem?_append_left h] at hb ⊢
    exact hb
  · right
    have hio : i + 1 = o.length := by omega
    rw [hio] at hb ⊢
    simp at hb ⊢
    exact hb.symm

theorem good_next {W : Int} (hW : 1 ≤ W) {xs : List Int} {k : Nat} (hk : k < cnt (Jn xs) xs.length) (hs : Basew.silentB ((cl xs k).getD 0 0) = false) {s : List (List Int) × List Int × Int} (h : Good W xs k s.1 s.2.1 s.2.2) :
    Good W xs (k + 1) (stepF W s (cl xs k)).1 (stepF W s (cl xs k)).2.1 (stepF W s (cl xs k)).2.2 := by
  obtain ⟨o, l, r⟩ := s
  obtain ⟨hcat, ⟨p, hp, hseg⟩, hroom, hfit, hchain⟩ := h
  simp only at hcat hseg hroom hfit hchain
  obtain ⟨hi1, hi2⟩ := one_item hk hs
  have hw1 := width_one ((cl xs k).take 16)
  have hwi := wide_one xs hk
  have ht := wsum_le (itms l)
  have hst0 := st_mono (J := Jn xs) (n := xs.length) (j := k) (k := k + 1) (by omega) hk
  have hcat' : o.flatten ++ (l ++ cl xs k) = xs.take (st (Jn xs) xs.length (k + 1)) := by
    rw [← List.append_assoc, hcat]
    have := seg_next (xs := xs) (p := 0) (Nat.zero_le k) hk
    rw [st_zero (Jn_zero xs)] at this
    simpa using this
  have happ : itms (l ++ cl xs k) = itms l ++ itms (cl xs k) := by rw [hseg]; exact seg_itms hp hk
  have hsum : wsum (itms (l ++ cl xs k)) = wsum (itms l) + wideV (cl xs k) := by rw [happ, wsum_app, hwi]
  obtain ⟨nn, hnn⟩ : ∃ nn, (if W < wideV (cl xs k) then W else wideV (cl xs k)) = nn := ⟨_, rfl⟩
  have hnn' : nn = min (wideV (cl xs k)) W := by rw [← hnn]; split <;> omega
  rcases Int.lt_or_le r nn with hr | hr
  · rw [step_new (s := (o, l, r)) hs hnn hr]
    refine ⟨by simpa using hcat', ⟨k, by omega, by unfold cl; rfl⟩, by rw [hwi, hnn'], ?_, ?_⟩
    · intro ln hln hW1
      rcases List.mem_append.1 hln with hln | hln
      · exact hfit ln hln hW1
      · simp at hln; subst hln; rw [hwi]; omega
    · intro i a b ha hb
      rcases append_last o l (cl xs k) ha hb with ⟨h1, h2⟩ | ⟨rfl, rfl⟩
      · exact hchain i a b h1 h2
      · exact ⟨_, by rw [hi1]; rfl, by rw [← hi2, ← hnn', ← hroom]; exact hr⟩
  · rw [step_more (s := (o, l, r)) hs hnn hr]
    refine ⟨hcat', ⟨p, by omega, by rw [hseg]; exact seg_next hp hk⟩, ?_, ?_, ?_⟩
    · show r - nn = _
      rw [hsum]
      rcases Int.lt_or_le 1 W with h1 | h1
      · have := hfit l (by simp) h1
        omega
      · omega
    · intro ln hln hW1
      rcases List.mem_append.1 hln with hln | hln
      · exact hfit ln (by simp [hln]) hW1
      · simp at hln; subst hln
        have := hfit l (by simp) hW1
        rw [hsum]
        omega
    · intro i a b ha hb
      obtain ⟨h1, h2 | ⟨rfl, h2⟩⟩ := append_swap o l (l ++ cl xs k) ha hb
      · exact hchain i a b h1 h2
      · obtain ⟨y, hy1, hy2⟩ := hchain i a l h1 h2
        refine ⟨y, ?_, hy2⟩
        rw [happ, List.getElem?_append_left (List.getElem?_eq_some_iff.1 hy1).1]
        exact hy1

theorem good_all {W : Int} (hW : 1 ≤ W) {xs : List Int} (hs : ∀ x ∈ xs, Basew.silentB x = false) (k : Nat) (hk : k ≤ cnt (Jn xs) xs.length) : Good W xs k (fS W (cl xs) k).1 (fS W (cl xs) k).2.1 (fS W (cl xs) k).2.2 := by
  induction k with
  | zero =>
    refine ⟨by rw [st_zero (Jn_zero xs)]; rfl, ⟨0, Nat.le_refl _, by simp [fS]⟩, ?_, ?_, ?_⟩
    · show W = W - min (wsum (itms [])) W
      rw [show wsum (itms []) = 0 from rfl]
      omega
    · intro ln hln hW1
      simp [fS] at hln
      subst hln
      rw [show wsum (itms []) = 0 from rfl]
      omega
    · intro i a b ha hb
      have := (List.getElem?_eq_some_iff.1 hb).1
      simp [fS] at this
  | succ k ih =>
    have hl := cl_len xs (k := k) hk
    have hm := st_mono (J := Jn xs) (n := xs.length) (j := k) (k := k + 1) (by omega) hk
    obtain ⟨x0, hx0⟩ : ∃ x0, (cl xs k)[0]? = some x0 := ⟨_, List.getElem?_eq_getElem (by omega)⟩
    have hx : x0 ∈ xs := List.mem_of_mem_drop (List.mem_of_mem_take (List.mem_of_getElem? hx0))
    refine good_next hW hk ?_ (ih (by omega))
    rw [List.getD_eq_getElem?_getD, hx0]
    exact hs x0 hx

/-- of a text without what is silent -/
theorem fl_law {W : Int} (hW : 1 ≤ W) {xs : List Int} (hs : ∀ x ∈ xs, Basew.silentB x = false) :
    (fl W xs).flatten = xs ∧ (∀ ln ∈ fl W xs, 1 < W → wsum (itms ln) ≤ W) ∧ ∀ (i : Nat) (a b : List Int), (fl W xs)[i]? = some a → (fl W xs)[i + 1]? = some b → NoRoom W a b := by
  have h := good_all hW hs _ (Nat.le_refl (cnt (Jn xs) xs.length))
  refine ⟨?_, h.fit, h.chain⟩
  have := h.cat
  rw [st_cnt, List.take_length] at this
  unfold fl
  rw [List.flatten_append]
  simpa using this

end Go.Proofs.Ytihanlahegngoaa.Fit

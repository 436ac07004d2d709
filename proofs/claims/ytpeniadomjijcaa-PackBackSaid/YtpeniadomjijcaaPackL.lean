/-
  The plain law of a table in two stages: what a page holds, and how blocks are numbered. No Go in sight.
-/
import Derived.Test.YtpeniadomjijcaaPackP
namespace Go.Proofs.Ytpeniadomjijcaa.Pack
set_option linter.unusedSimpArgs false
set_option linter.unusedVariables false
open Sp TabLaw

theorem right_next {l : List S3} (h : Right l) {i : Nat} {s t : S3} (hs : l[i]? = some s) (ht : l[i + 1]? = some t) : s.2.1 < t.1 := by
  have h1 := (h (i + 1) t ht).1
  rwa [prev_get hs] at h1
theorem right_lt {l : List S3} (h : Right l) {i : Nat} {s : S3} (hs : l[i]? = some s) : ∀ {j : Nat} {t : S3}, i < j → l[j]? = some t → s.2.1 < t.1
  | 0, t, hij, _ => absurd hij (by omega)
  | j + 1, t, hij, ht => by
    rcases Nat.lt_or_ge i j with h1 | h1
    · obtain ⟨u, hu⟩ : ∃ u, l[j]? = some u := ⟨_, List.getElem?_eq_getElem (by have := (List.getElem?_eq_some_iff.1 ht).1; omega)⟩
      have e1 := right_lt h hs h1 hu
      have e2 := (h j u hu).2.1
      have e3 := right_next h hu ht
      omega
    · obtain rfl : i = j := by omega
      exact right_next h hs ht
theorem has_iff {r : Int} {t : S3} : has r t = true ↔ t.1 ≤ r ∧ r ≤ t.2.1 := by simp [has]
theorem has_no {r : Int} {t : S3} (h : ¬ (t.1 ≤ r ∧ r ≤ t.2.1)) : has r t = false := by
  cases hh : has r t with
  | false => rfl
  | true => exact absurd (has_iff.1 hh) h
theorem val3_zero {l : List S3} {r : Int} (h : ∀ t ∈ l, has r t = false) : val3 l r = 0 := by
  unfold val3
  rw [List.find?_eq_none.2 (fun t ht => by simp [h t ht])]
  rfl
theorem val3_next {l : List S3} (hr : Right l) {k : Nat} {s : S3} (hs : l[k]? = some s) (r : Int) : val3 (l.take (k + 1)) r = if has r s = true then s.2.2 else val3 (l.take k) r := by
  have e : l.take (k + 1) = l.take k ++ [s] := by rw [List.take_add_one, hs]; rfl
  rw [e, val3_app]
  by_cases hh : has r s = true
  · have hz : ∀ t ∈ l.take k, has r t = false := by
      intro t ht
      obtain ⟨i, hi, hie⟩ := List.mem_take_iff_getElem.1 ht
      have := right_lt hr (List.getElem?_eq_some_iff.2 ⟨by omega, hie⟩) (show i < k by omega) hs
      refine has_no fun h => ?_
      have := has_iff.1 hh
      omega
    rw [if_pos hh, List.find?_eq_none.2 (fun t ht => by simp [hz t ht])]
    simp [val3, hh]
  · rw [if_neg hh]
    split
    · rfl
    · rename_i hf
      have hf' : (l.take k).find? (has r) = none := by simpa using hf
      have hz := List.find?_eq_none.1 hf'
      rw [val3_zero (l := l.take k) (fun t ht => by simpa using hz t ht)]
      simp [val3, hh]
theorem val3_rest {l : List S3} (hr : Right l) {k : Nat} {r : Int} (h : ∀ s, l[k]? = some s → r < s.1) : val3 l r = val3 (l.take k) r := by
  have e : val3 l r = val3 (l.take k ++ l.drop k) r := by rw [List.take_append_drop]
  rw [e, val3_app]
  split
  · rfl
  · rename_i hf
    have hf' : (l.take k).find? (has r) = none := by simpa using hf
    have hz := List.find?_eq_none.1 hf'
    rw [val3_zero (l := l.take k) (fun t ht => by simpa using hz t ht)]
    refine val3_zero fun t ht => has_no fun hh => ?_
    obtain ⟨i, hi, hie⟩ := List.mem_iff_getElem.1 ht
    rw [List.getElem_drop] at hie
    have hg : l[k + i]? = some t := List.getElem?_eq_some_iff.2 ⟨by rw [List.length_drop] at hi; omega, hie⟩
    rcases Nat.eq_zero_or_pos i with h0 | h0
    · subst h0
      have := h t hg
      omega
    · obtain ⟨s, hs⟩ : ∃ s, l[k]? = some s := ⟨_, List.getElem?_eq_getElem (by have := (List.getElem?_eq_some_iff.1 hg).1; omega)⟩
      have e1 := h s hs
      have e2 := (hr k s hs).2.1
      have e3 := right_lt hr hs (show k < k + i by omega) hg
      omega

/-- what a page holds that begins at m -/
def cont (l : List S3) (m : Int) : List Int := (List.range 256).map fun (i : Nat) => val3 l (m + i)
theorem cont_len (l : List S3) (m : Int) : (cont l m).length = 256 := by simp [cont]
/-- all that end ahead of m are passed -/
def DP (l : List S3) (d : Nat) (m : Int) : Prop := d ≤ l.length ∧ (∀ (i : Nat) (s : S3), i < d → l[i]? = some s → s.2.1 < m) ∧ ∀ s, l[d]? = some s → m ≤ s.2.1
theorem cont_eq {l l' : List S3} {m : Int} (h : ∀ i : Nat, i < 256 → val3 l (m + i) = val3 l' (m + i)) : cont l m = cont l' m := by
  unfold cont
  refine List.map_congr_left fun i hi => h i (List.mem_range.1 hi)
theorem cont_const {l : List S3} {m v : Int} (h : ∀ i : Nat, i < 256 → val3 l (m + i) = v) : cont l m = List.replicate 256 v := by
  refine List.eq_replicate_iff.2 ⟨cont_len l m, fun b hb => ?_⟩
  unfold cont at hb
  obtain ⟨i, hi, rfl⟩ := List.mem_map.1 hb
  exact h i (List.mem_range.1 hi)
theorem take_zero {l : List S3} {d : Nat} {m : Int} (h : ∀ (i : Nat) (s : S3), i < d → l[i]? = some s → s.2.1 < m) {r : Int} (hr : m ≤ r) : val3 (l.take d) r = 0 := by
  refine val3_zero fun t ht => has_no fun hh => ?_
  obtain ⟨i, hi, hie⟩ := List.mem_take_iff_getElem.1 ht
  have := h i t (by omega) (List.getElem?_eq_some_iff.2 ⟨by omega, hie⟩)
  omega

theorem whole_cont {l : List S3} (hr : Right l) {d : Nat} {m v : Int} (hd : DP l d m) (h : wholeV l d m = (v, true)) : cont l m = List.replicate 256 v := by
  refine cont_const fun i hi => ?_
  unfold wholeV at h
  cases hl : l[d]? with
  | none =>
    rw [hl] at h
    injection h with h _
    subst h
    rw [val3_rest hr (k := d) (fun s hs => by rw [hl] at hs; cases hs)]
    exact take_zero hd.2.1 (by omega)
  | some s =>
    rw [hl] at h
    simp only at h
    split at h
    · rename_i h1
      injection h with h _
      subst h
      rw [val3_rest hr (k := d) (fun t ht => by rw [hl] at ht; injection ht with ht; subst ht; omega)]
      exact take_zero hd.2.1 (by omega)
    · split at h
      · rename_i h1 h2
        injection h with h _
        subst h
        have e := val3_next hr hl (m + i)
        rw [if_pos (has_iff.2 ⟨by omega, by omega⟩)] at e
        rw [← e]
        refine val3_rest hr fun t ht => ?_
        have := right_next hr hl ht
        omega
      · injection h with _ h
        cases h

/-- numbers of pages of one value alone -/
def EvOK (ev : List (Int × Int)) (bs : List (List Int)) : Prop := ∀ v n, eget ev v = some n → ∃ k : Nat, n = k ∧ bs[k]? = some (List.replicate 256 v)
theorem num_at {bs : List (List Int)} (hn : bs.Nodup) {k : Nat} {x : List Int} (h : bs[k]? = some x) : num x bs = (bs, k) := by
  obtain ⟨hk, he⟩ := List.getElem?_eq_some_iff.1 h
  have hm : x ∈ bs := List.mem_of_getElem? h
  unfold num
  rw [if_pos hm]
  have : bs.idxOf x = k := by
    rw [← he]
    exact hn.idxOf_getElem k hk
  rw [this]
theorem num_has (bs : List (List Int)) (x : List Int) : (num x bs).1[(num x bs).2]? = some x ∧ (num x bs).2 < (num x bs).1.length := by
  unfold num
  split
  · rename_i h
    have := List.idxOf_lt_length_iff.2 h
    exact ⟨by rw [List.getElem?_eq_getElem this]; simp, this⟩
  · simp
theorem num_nodup {bs : List (List Int)} (hn : bs.Nodup) (x : List Int) : (num x bs).1.Nodup := by
  unfold num
  split
  · exact hn
  · rename_i h
    rw [List.nodup_append]
    exact ⟨hn, by simp, fun a ha b hb => by rw [List.mem_singleton] at hb; subst hb; exact fun e => h (e ▸ ha)⟩
theorem num_pre (bs : List (List Int)) (x : List Int) : bs <+: (num x bs).1 := by
  unfold num
  split
  · exact List.prefix_refl _
  · exact List.prefix_append _ _
theorem num_len (bs : List (List Int)) (x : List Int) : (num x bs).1.length ≤ bs.length + 1 := by
  unfold num
  split <;> simp
theorem num_all {bs : List (List Int)} (h : ∀ b ∈ bs, b.length = 256) {x : List Int} (hx : x.length = 256) : ∀ b ∈ (num x bs).1, b.length = 256 := by
  unfold num
  split
  · exact h
  · intro b hb
    rcases List.mem_append.1 hb with hb | hb
    · exact h b hb
    · rw [List.mem_singleton] at hb; subst hb; exact hx
theorem evok_pre {ev : List (Int × Int)} {bs bs' : List (List Int)} (h : EvOK ev bs) (hp : bs <+: bs') : EvOK ev bs' := by
  intro v n hv
  obtain ⟨k, h1, h2⟩ := h v n hv
  obtain ⟨t, rfl⟩ := hp
  exact ⟨k, h1, by rw [List.getElem?_append_left (List.getElem?_eq_some_iff.1 h2).1]; exact h2⟩
theorem eget_app (ev : List (Int × Int)) (v n v' : Int) : eget (ev ++ [(v, n)]) v' = (eget ev v').or (if v = v' then some n else none) := by
  unfold eget
  rw [List.find?_append]
  cases (ev.find? fun e => e.1 == v') with
  | some e => simp
  | none =>
    by_cases h : v = v'
    · simp [h]
    · simp [h]
theorem evok_add {ev : List (Int × Int)} {bs : List (List Int)} (h : EvOK ev bs) {v : Int} {k : Nat} (hk : bs[k]? = some (List.replicate 256 v)) : EvOK (ev ++ [(v, (k : Int))]) bs := by
  intro v' n hv
  rw [eget_app] at hv
  cases he : eget ev v' with
  | some m => rw [he] at hv; exact h v' n (by rw [he]; simpa using hv)
  | none =>
    rw [he] at hv
    by_cases hvv : v = v'
    · subst hvv
      simp at hv
      exact ⟨k, hv.symm, hk⟩
    · simp [hvv] at hv

/-- a page while the span s is laid over those ahead of place k, up to the number n -/
def pt (l : List S3) (k : Nat) (s : S3) (m : Int) (j : Nat) : List Int := (List.range 256).map fun (i : Nat) => if i < j ∧ has (m + i) s = true then s.2.2 else val3 (l.take k) (m + i)
theorem pt_len (l : List S3) (k : Nat) (s : S3) (m : Int) (j : Nat) : (pt l k s m j).length = 256 := by simp [pt]
theorem pt_start {l : List S3} {k : Nat} {s : S3} {m : Int} {j : Nat} (h : ∀ i : Nat, i < j → m + i < s.1) : pt l k s m j = cont (l.take k) m := by
  unfold pt cont
  refine List.map_congr_left fun i hi => ?_
  rw [if_neg]
  rintro ⟨h1, h2⟩
  have := has_iff.1 h2
  have := h i h1
  omega
theorem pt_step {l : List S3} {k : Nat} {s : S3} {m : Int} {j : Nat} (hj : j < 256) (h1 : s.1 ≤ m + j) (h2 : m + j ≤ s.2.1) : (pt l k s m j).set j s.2.2 = pt l k s m (j + 1) := by
  refine List.ext_getElem (by simp [pt]) fun i h3 h4 => ?_
  rw [List.getElem_set]
  have hi : i < 256 := by simpa [pt] using h4
  by_cases hij : j = i
  · subst hij
    simp [pt, has_iff.2 ⟨h1, h2⟩]
  · rw [if_neg hij]
    have e : (i < j) = (i < j + 1) := propext ⟨fun h => by omega, fun h => by omega⟩
    simp only [pt, List.getElem_map, List.getElem_range, e]
theorem pt_end {l : List S3} (hr : Right l) {k : Nat} {s : S3} (hs : l[k]? = some s) {m : Int} {j : Nat} (h : ∀ i : Nat, j ≤ i → i < 256 → s.2.1 < m + i) : pt l k s m j = cont (l.take (k + 1)) m := by
  unfold pt cont
  refine List.map_congr_left fun i hi => ?_
  have hi := List.mem_range.1 hi
  rw [val3_next hr hs]
  by_cases hij : i < j
  · simp [hij]
  · have : has (m + i) s = false := has_no fun hh => by have := h i (by omega) hi; omega
    simp [hij, this]
theorem cont_stop {l : List S3} (hr : Right l) {k : Nat} {m : Int} (h : ∀ s, l[k]? = some s → m + 256 ≤ s.1) : cont (l.take k) m = cont l m := by
  refine cont_eq fun i hi => (val3_rest hr fun s hs => ?_).symm
  have := h s hs
  omega
theorem cont_start {l : List S3} {d : Nat} {m : Int} (h : ∀ (i : Nat) (s : S3), i < d → l[i]? = some s → s.2.1 < m) : cont (l.take d) m = List.replicate 256 0 :=
  cont_const fun i hi => take_zero h (by omega)

end Go.Proofs.Ytpeniadomjijcaa.Pack

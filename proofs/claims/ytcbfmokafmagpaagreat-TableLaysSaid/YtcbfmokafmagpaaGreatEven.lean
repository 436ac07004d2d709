/-
  The plain law of a table's lines: how wide texts are that blanks stand about. No Go in sight.
-/
import Derived.Test.YtcbfmokafmagpaaGreatJustF
namespace Go.Proofs.YtcbfmokafmagpaaGreat.Tbl
set_option linter.unusedSimpArgs false
set_option linter.unusedVariables false
open Go Go.RowKit Go.Shelf Mem Turn Gra Same GraLaw Mea Rep Just Seg

theorem b1 : Gcb.val 32 = 0 := by kernel_rfl
theorem b2 : Pict.isB 32 = false := by kernel_rfl
theorem b3 : Conj.val 32 = 0 := by kernel_rfl
theorem b4 : wsum (itms [32]) = 1 := by kernel_rfl
theorem b5 : wsum (itms []) = 0 := by kernel_rfl

theorem pj_zero (x : Int) (hx : x ≠ 7) : (Pairs.pj (Pairs.cls x) (Pairs.cls 0) == 1) = false := by
  have hc : Pairs.cls x = x ∨ Pairs.cls x = 0 := by unfold Pairs.cls; split; exact .inr rfl; exact .inl rfl
  have h7 : (Pairs.cls x == 7) = false := by rcases hc with e | e <;> rw [e] <;> simp [hx]
  have e : Pairs.cls 0 = 0 := by decide
  rw [e]
  have hs : Pairs.sylB (Pairs.cls x) 0 = false := by unfold Pairs.sylB; simp
  unfold Pairs.pj
  rw [hs, h7]
  have e1 : ((0 : Int) == 2) = false := by decide
  have e2 : ((0 : Int) == 4) = false := by decide
  have e3 : ((0 : Int) == 5) = false := by decide
  have e4 : ((0 : Int) == 8) = false := by decide
  simp only [e1, e2, e3, e4, Bool.and_false, Bool.or_false, Bool.false_eq_true, if_false]
  split
  · rfl
  · split <;> rfl

theorem last_get (a : List Int) (h : 0 < a.length) : ∃ x, a[a.length - 1]? = some x := ⟨_, List.getElem?_eq_getElem (by omega)⟩
theorem props_at (a b : List Int) {y : Int} (hy : b[0]? = some y) : props (a ++ b) a.length = prop y := by
  unfold props
  rw [List.getD_eq_getElem?_getD, List.getElem?_append_right (Nat.le_refl _), Nat.sub_self, hy]; rfl
theorem props_last (a b : List Int) (h0 : 0 < a.length) {x : Int} (hx : a[a.length - 1]? = some x) : props (a ++ b) (a.length - 1) = prop x := by
  unfold props
  rw [List.getD_eq_getElem?_getD, List.getElem?_append_left (by omega), hx]; rfl

/-- a blank begins a cluster, but behind a Prepend -/
theorem jn_blank (a b : List Int) (hb : b[0]? = some 32) (ha : ∀ x ∈ a, Gcb.val x ≠ 7) : Jn (a ++ b) a.length = false := by
  rcases Nat.eq_zero_or_pos a.length with h0 | h0
  · rw [h0]; exact Jn_zero _
  · obtain ⟨x, hxx⟩ := last_get a h0
    have hx := ha x (List.mem_of_getElem? hxx)
    show joinsR (props (a ++ b)) a.length = false
    unfold joinsR
    have e1 : conjR (props (a ++ b)) a.length = false := by
      unfold conjR
      rw [props_at a b hb]
      have : ((prop 32).co == 1) = false := by show (Conj.val 32 == 1) = false; rw [b3]; decide
      rw [this]; rfl
    have e2 : pictR (props (a ++ b)) a.length = false := by
      unfold pictR
      rw [props_at a b hb]
      have : (prop 32).pi = false := b2
      rw [this]; rfl
    rw [e1, e2, props_last a b h0 hxx, props_at a b hb]
    have e3 : (Pairs.pj (Pairs.cls (prop x).br) (Pairs.cls (prop 32).br) == 1) = false := by
      show (Pairs.pj (Pairs.cls (Gcb.val x)) (Pairs.cls (Gcb.val 32)) == 1) = false
      rw [b1]; exact pj_zero _ hx
    have e4 : ((prop 32).br == 6) = false := by show (Gcb.val 32 == 6) = false; rw [b1]; decide
    rw [e3, e4]
    simp

/-- behind a blank one of no class begins a cluster -/
theorem jn_text (a b : List Int) (y : Int) (hy : b[0]? = some y) (hv : Gcb.val y = 0) (hx : a[a.length - 1]? = some 32) : Jn (a ++ b) a.length = false := by
  rcases Nat.eq_zero_or_pos a.length with h0 | h0
  · rw [h0]; exact Jn_zero _
  · show joinsR (props (a ++ b)) a.length = false
    obtain ⟨n, hn⟩ : ∃ n, a.length = n + 1 := ⟨a.length - 1, by omega⟩
    have hp := props_last a b h0 hx
    have hq := props_at a b hy
    rw [hn] at hp hq ⊢
    rw [Nat.add_sub_cancel] at hp
    have c0 : (prop 32).co = 0 := b3
    have c1 : (prop 32).br = 0 := b1
    unfold joinsR
    have e1 : conjR (props (a ++ b)) (n + 1) = false := by
      unfold conjR conjDown
      rw [hp, c0]
      simp
    have e2 : pictR (props (a ++ b)) (n + 1) = false := by
      unfold pictR
      rw [Nat.add_sub_cancel, hp, c1]
      simp
    rw [e1, e2, Nat.add_sub_cancel, hp, hq]
    have e3 : (Pairs.pj (Pairs.cls (prop 32).br) (Pairs.cls (prop y).br) == 1) = false := by
      show (Pairs.pj (Pairs.cls (Gcb.val 32)) (Pairs.cls (Gcb.val y)) == 1) = false
      rw [b1, hv]; exact pj_zero 0 (by decide)
    have e4 : ((prop y).br == 6) = false := by show (Gcb.val y == 6) = false; rw [hv]; decide
    rw [e3, e4]
    simp

/-- no Prepend -/
def NoPre (xs : List Int) : Prop := ∀ x ∈ xs, Gcb.val x ≠ 7
/-- begins with one of no class -/
def Beg (xs : List Int) : Prop := ∀ y, xs[0]? = some y → Gcb.val y = 0
theorem noPre_app {a b : List Int} (ha : NoPre a) (hb : NoPre b) : NoPre (a ++ b) := fun x hx => by
  rcases List.mem_append.1 hx with h | h
  · exact ha x h
  · exact hb x h
theorem noPre_rep (n : Nat) : NoPre (List.replicate n 32) := fun x hx => by rw [List.eq_of_mem_replicate hx, b1]; decide
theorem noPre_take {xs : List Int} (h : NoPre xs) (n : Nat) : NoPre (xs.take n) := fun x hx => h x (List.mem_of_mem_take hx)
theorem beg_rep (n : Nat) : Beg (List.replicate n 32) := fun y hy => by
  have := List.eq_of_mem_replicate (List.mem_of_getElem? hy)
  rw [this, b1]
theorem beg_app {a b : List Int} (ha : Beg a) (hb : Beg b) : Beg (a ++ b) := fun y hy => by
  rcases Nat.eq_zero_or_pos a.length with h0 | h0
  · have := List.eq_nil_of_length_eq_zero h0
    subst this
    exact hb y (by simpa using hy)
  · rw [List.getElem?_append_left h0] at hy
    exact ha y hy
theorem beg_take {xs : List Int} (h : Beg xs) (n : Nat) : Beg (xs.take n) := fun y hy => by
  rw [List.getElem?_take] at hy
  split at hy
  · exact h y hy
  · cases hy

theorem itms_nil : itms [] = [] := by
  have := itms_len []
  exact List.eq_nil_of_length_eq_zero (by simpa using this)
theorem w_join (a b : List Int) (h : b = [] ∨ a = [] ∨ Jn (a ++ b) a.length = false) : wsum (itms (a ++ b)) = wsum (itms a) + wsum (itms b) := by
  rcases h with rfl | rfl | h
  · rw [List.append_nil, itms_nil]; simp [wsum]
  · rw [List.nil_append, itms_nil]; simp [wsum]
  · rw [itms_append a b (.inr h), wsum_app]
theorem w_blanks (n : Nat) : wsum (itms (List.replicate n 32)) = n := by
  induction n with
  | zero => exact b5
  | succ n ih =>
    rw [List.replicate_succ', w_join _ _ (.inr (.inr (jn_blank _ _ rfl (noPre_rep n)))), ih, b4]
    omega
theorem rep_first {n : Nat} (h : 0 < n) (b : List Int) : (List.replicate n (32 : Int) ++ b)[0]? = some 32 := by
  rw [List.getElem?_append_left (by simpa using h), List.getElem?_replicate, if_pos h]
theorem rep_last {n : Nat} (h : 0 < n) : (List.replicate n (32 : Int))[(List.replicate n (32 : Int)).length - 1]? = some 32 := by
  rw [List.length_replicate, List.getElem?_replicate, if_pos (by omega)]
theorem w_behind (t b : List Int) (n : Nat) (ht : NoPre t) (h : 0 < n ∨ b = []) : wsum (itms (t ++ (List.replicate n 32 ++ b))) = wsum (itms t) + wsum (itms (List.replicate n 32 ++ b)) := by
  rcases Nat.eq_zero_or_pos n with h0 | h0
  · rcases h with h | h
    · omega
    · subst h0 h
      exact w_join _ _ (.inl (by simp))
  · exact w_join _ _ (.inr (.inr (jn_blank _ _ (rep_first h0 b) ht)))
theorem w_ahead (n : Nat) (t : List Int) (ht : Beg t) : wsum (itms (List.replicate n 32 ++ t)) = n + wsum (itms t) := by
  rw [← w_blanks n]
  rcases Nat.eq_zero_or_pos n with h0 | h0
  · subst h0
    exact w_join _ _ (.inr (.inl rfl))
  · rcases Nat.eq_zero_or_pos t.length with h1 | h1
    · have := List.eq_nil_of_length_eq_zero h1
      exact w_join _ _ (.inl this)
    · obtain ⟨y, hy⟩ : ∃ y, t[0]? = some y := ⟨_, List.getElem?_eq_getElem h1⟩
      exact w_join _ _ (.inr (.inr (jn_text _ _ y hy (ht y hy) (rep_last h0))))

theorem padL_app (xs : List Int) (x side : Int) : padL xs x side = List.replicate (padA xs x side) 32 ++ (xs ++ (List.replicate (padN xs x - padA xs x side) 32 ++ [])) := by
  unfold padL; simp
theorem padA_le (xs : List Int) (x side : Int) : padA xs x side ≤ padN xs x := by
  unfold padA
  split
  · omega
  · split <;> omega
theorem pad_wide (t : List Int) (x side : Int) (h1 : NoPre t) (h2 : Beg t) (hw : wsum (itms t) ≤ hold x) : wsum (itms (padL t x side)) = hold x ∧ NoPre (padL t x side) ∧ Beg (padL t x side) := by
  have hle := padA_le t x side
  have hN : ((padN t x : Nat) : Int) = hold x - wsum (itms t) := by unfold padN; omega
  rw [padL_app]
  have hb : Beg (t ++ (List.replicate (padN t x - padA t x side) 32 ++ [])) := by
    refine beg_app h2 ?_
    rw [List.append_nil]; exact beg_rep _
  refine ⟨?_, noPre_app (noPre_rep _) (noPre_app h1 (by rw [List.append_nil]; exact noPre_rep _)), beg_app (beg_rep _) hb⟩
  rw [w_ahead _ _ hb, w_behind _ _ _ h1 (.inr rfl), List.append_nil, w_blanks]
  omega

theorem fit_wide {xs : List Int} {x side : Int} {out : List Int} (h : FitP xs [] x side out) (h1 : NoPre xs) (h2 : Beg xs) : wsum (itms out) = hold x ∧ NoPre out ∧ Beg out := by
  unfold FitP at h
  rw [b5] at h
  have hh := hold_le x
  rcases h with ⟨h, rfl⟩ | ⟨_, h, _⟩ | ⟨_, _, k, hk, rfl⟩
  · exact pad_wide xs x side h1 h2 h
  · omega
  · rw [List.append_nil]
    refine pad_wide _ x side (noPre_take h1 _) (beg_take h2 _) ?_
    rw [its_take xs hk.1]
    have := hk.2.1
    omega

/-- a line of k texts, and gaps -/
def ln (f : Nat → List Int) (g : Nat) : Nat → List Int
  | 0 => []
  | k + 1 => ln f g k ++ (List.replicate (if k = 0 then 0 else g) 32 ++ f k)
/-- the sum of the first k -/
def sumTo (W : Nat → Int) : Nat → Int
  | 0 => 0
  | k + 1 => sumTo W k + W k
theorem ln_wide (f : Nat → List Int) (g : Nat) (W : Nat → Int) (hg : 1 ≤ g) (k : Nat) (hf : ∀ i, i < k → wsum (itms (f i)) = W i ∧ NoPre (f i) ∧ Beg (f i)) :
    wsum (itms (ln f g k)) = g * (k - 1 : Nat) + sumTo W k ∧ NoPre (ln f g k) := by
  induction k with
  | zero => exact ⟨by show wsum (itms []) = _; rw [b5]; simp [sumTo], fun x hx => by simp [ln] at hx⟩
  | succ k ih =>
    obtain ⟨e1, e2⟩ := ih (fun i hi => hf i (by omega))
    obtain ⟨f1, f2, f3⟩ := hf k (by omega)
    refine ⟨?_, noPre_app e2 (noPre_app (noPre_rep _) f2)⟩
    show wsum (itms (ln f g k ++ _)) = _
    rcases Nat.eq_zero_or_pos k with h0 | h0
    · subst h0
      rw [if_pos rfl]
      show wsum (itms ([] ++ ([] ++ f 0))) = _
      rw [List.nil_append, List.nil_append, f1]
      simp [sumTo]
    · rw [if_neg (by omega), w_behind _ _ _ e2 (.inl (by omega)), e1, w_ahead _ _ f3, f1]
      show _ = _ + (sumTo W k + W k)
      have : (k + 1 - 1 : Nat) = (k - 1) + 1 := by omega
      rw [this, Int.natCast_add, Int.mul_add]
      omega

end Go.Proofs.YtcbfmokafmagpaaGreat.Tbl

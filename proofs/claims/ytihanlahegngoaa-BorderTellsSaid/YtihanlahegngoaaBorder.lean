/-
  Package border: the borders of a row, searched.
-/
import Derived.Test.YtihanlahegngoaaStarts
import Derived.Test.YtihanlahegngoaaGraWorks
import Derived.Test.YtihanlahegngoaaRef16
import Derived.Test.YtihanlahegngoaaSearch
import Derived.IntWalk
import Derived.BigQuiet
namespace Go.Proofs.Ytihanlahegngoaa.Border
set_option linter.unusedSimpArgs false
set_option linter.unusedVariables false
open Go Go.RowKit Go.Shelf Mem Turn GraLaw Same Gra Search

theorem ret_bool {a b : Bool} (h : a = b) : Ending.returned (.bool a) = .returned (.bool b) := by rw [h]
theorem ret_int {k : IntKind} {a b : Int} (h : a = b) : Ending.returned (.int k a) = .returned (.int k b) := by rw [h]

/-- the borders of a row -/
noncomputable def bs (xs : List Int) : List Nat := bnd (Jn xs) xs.length

theorem bs_sorted (xs : List Int) : (bs xs).Pairwise (· < ·) := sorted_bnd _
theorem bs_le (xs : List Int) {x : Nat} (h : x ∈ bs xs) : x ≤ xs.length := by
  unfold bs bnd at h
  rcases List.mem_append.1 h with h | h
  · exact Nat.le_of_lt (starts_lt h)
  · simp at h; omega
theorem bs_last (xs : List Int) : xs.length ∈ bs xs := by unfold bs bnd; simp
theorem bs_zero (xs : List Int) : 0 ∈ bs xs := by
  rcases Nat.eq_zero_or_pos xs.length with h | h
  · have := bs_last xs; rwa [h] at this
  · unfold bs bnd
    exact List.mem_append.2 (.inl (mem_starts.2 ⟨h, Jn_zero xs⟩))
theorem bs_len (xs : List Int) : (bs xs).length ≤ xs.length + 1 := by
  unfold bs; rw [bnd_len]; have := cnt_le (J := Jn xs) xs.length; omega
theorem bs_pos (xs : List Int) : 0 < (bs xs).length := by unfold bs; rw [bnd_len]; omega
theorem bs_get_lt (xs : List Int) {i j a b : Nat} (h : i < j) (ha : (bs xs)[i]? = some a) (hb : (bs xs)[j]? = some b) : a < b := by
  obtain ⟨hi, e1⟩ := List.getElem?_eq_some_iff.1 ha
  obtain ⟨hj, e2⟩ := List.getElem?_eq_some_iff.1 hb
  have := List.pairwise_iff_getElem.1 (bs_sorted xs) i j hi hj h
  omega

/-- a slice that reads as these places -/
def Reads (w : World) (a : Option Addr) (l : List Nat) : Prop := ∃ g, a = some ⟨g, 0, none⟩ ∧ g < w.heap.size ∧ ∀ k x : Nat, l[k]? = some x → w.cell? ⟨g, k, none⟩ = some (.int .i64 (x : Int))
theorem Reads.below {w w' : World} {a : Option Addr} {l : List Nat} (h : Reads w a l) (hb : Below w.heap.size w w') : Reads w' a l := by
  obtain ⟨g, e, hg, hc⟩ := h
  exact ⟨g, e, Nat.lt_of_lt_of_le hg hb.size, fun k x hx => (hb.cell (p := ⟨g, k, none⟩) hg).trans (hc k x hx)⟩

set_option maxHeartbeats 2000000 in
theorem borders_any (a : Option Addr) (n c : Nat) (xs : List Int) (w : World) (h : Runes w a n c xs) (hn : n ≤ 100000) :
    Calls Try.prog 76 #[.slice a n c] w fun e w' => ∃ A C, e = .returned (.slice A (bs xs).length C) ∧ Reads w' A (bs xs) ∧ Below w.heap.size w w' := by
  obtain ⟨i0, hi, hz0, hz1, hz2⟩ := info_parts info_int
  have HL := Lib.hid h.ints.1
  have HS := Lib.hid (starts_any a n c xs w h hn)
  have hcl := cnt_le (J := Jn xs) n
  have hbl : Hid ((bs xs).length = cnt (Jn xs) n + 1) := by unfold bs; rw [bnd_len, HL.out]; exact Lib.hid rfl
  have hbe : Hid (nums (bs xs) = nums (starts (Jn xs) n) ++ [.int .i64 (n : Int)]) := by unfold bs bnd; rw [HL.out]; exact Lib.hid (by simp [nums])
  clear h
  by_cases h0 : n = 0
  · subst h0
    go_enter Try.func76, Try.ntmps76
    go_wp2_with fail
    refine HS.out.mono ?_
    rintro e w1 ⟨v, rfl, ho, hb⟩
    obtain ⟨A1, C1, rfl⟩ := own_slice ho
    have HB := Lib.hid hb
    clear ho hb HS
    go_wp2
    go_ret
    have e1 : bs xs = [0] := by unfold bs bnd; rw [HL.out]; rfl
    rw [e1]
    refine ⟨_, _, rfl, ⟨w1.heap.size, rfl, by simp, fun k x hx => ?_⟩, HB.out.alloc HB.out.size _⟩
    match k, hx with
    | 0, hx => simp at hx; subst hx; simp
  · have d0 : ((n : Int) == 0) = false := by simp; omega
    go_enter Try.func76, Try.ntmps76
    go_wp2_with fail
    refine HS.out.mono ?_
    rintro e w1 ⟨v, rfl, hown, hb⟩
    have HB := Lib.hid hb
    have hs1 := hb.size
    clear hb HS
    go_wp2_with (at_builtin; refine wpList_append_own _ rfl _ _ 37 rfl w.heap.size 3 i0 _ 1 8 Try.underlying37 hi hz0 hz1 hz2 rfl (by decide) v (cnt (Jn xs) n) _ rfl (hown.alloc _) ⟨w1.heap.size, 0, none⟩ 1 1 [.int .i64 n] rfl rfl (cell_new1 _ _ _) (by simp [Value.oneCell']) (by unfold maxLen; omega) (by omega) (by simp; omega) ?_; intro v2 w2 hown2 hgrow2 _)
    rw [← hbe.out] at hown2
    obtain ⟨g, C2, rfl⟩ := ownsRow_succ hown2
    have hB2 : Below w.heap.size w w2 := (HB.out.alloc hs1 _).grown hgrow2 (by simp; omega) (fun g e => (hown.lt g e).1)
    go_ret
    refine ⟨_, _, by rw [hbl.out]; rfl, ⟨g, rfl, (hown2.lt g rfl).2, fun k x hx => ?_⟩, hB2⟩
    have := hown2.cells (g := g) rfl k _ (by simp [nums, hx] : (nums (bs xs))[k]? = some (.int .i64 (x : Int)))
    rw [add_none, Nat.zero_add] at this
    exact this

theorem clo_eg : ∀ args w, (callFunc 104 args).run Try.prog w = .ok (.enter 104 args) w := fun _ _ => by kernel_rfl

set_option maxHeartbeats 1000000 in
theorem clo_any (b1 b2 g m C i : Nat) (x y : Int) (w : World) (hi : i < m) (hm : m < 4611686018427387904) (h1 : w.cell? ⟨b1, 0, none⟩ = some (.slice (some ⟨g, 0, none⟩) m C)) (h2 : w.cell? ⟨b2, 0, none⟩ = some (.int .i64 x))
    (h3 : w.cell? ⟨g, i, none⟩ = some (.int .i64 y)) :
    Calls Try.prog 104 #[.int .i64 i, .pointer (some ⟨b1, 0, none⟩), .pointer (some ⟨b2, 0, none⟩)] w fun e w' => e = .returned (.bool (decide (x ≤ y))) ∧ Below w.heap.size w w' := by
  have hi' : (i : Int) < m := by omega
  have hi0 : (0 : Int) ≤ i := by omega
  have hit : (i : Int).toNat = i := by omega
  go_enter Try.func104, Try.ntmps104
  go_wp2
  go_quiet (fail)
  go_wp2
  go_ret
  exact ⟨rfl, bdrew _ _⟩

set_option maxHeartbeats 1000000 in
theorem ints_any (A : Option Addr) (C : Nat) (l : List Nat) (hsort : l.Pairwise (· < ·)) (x : Int) (w : World) (hl : l.length ≤ 100001) (h : Reads w A l) :
    Calls Try.prog 77 #[.slice A l.length C, .int .i64 x] w (SearchPost l.length (fun i => decide (x ≤ ((l.getD i 0 : Nat) : Int))) w) := by
  obtain ⟨g, rfl, hg, hc⟩ := h
  have HC := Lib.hid hc
  have HS := Lib.hid hsort
  clear hc hsort
  generalize hm : l.length = m at *
  have HM := Lib.hid hm
  clear hm
  go_enter Try.func77, Try.ntmps77
  go_wp2_with fail
  have c1 : ((w.alloc (.cells #[.slice (some ⟨g, 0, none⟩) m C] 37)).alloc (.cells #[.int .i64 x] 3)).cell? ⟨w.heap.size, 0, none⟩ = some (.slice (some ⟨g, 0, none⟩) m C) := ((Boxed.new w 37 (.slice (some ⟨g, 0, none⟩) m C)).alloc _).cell
  have c2 : ((w.alloc (.cells #[.slice (some ⟨g, 0, none⟩) m C] 37)).alloc (.cells #[.int .i64 x] 3)).cell? ⟨w.heap.size + 1, 0, none⟩ = some (.int .i64 x) := by
    have := (Boxed.new (w.alloc (.cells #[.slice (some ⟨g, 0, none⟩) m C] 37)) 3 (.int .i64 x)).cell
    rwa [World.size_alloc] at this
  have hs : ((w.alloc (.cells #[.slice (some ⟨g, 0, none⟩) m C] 37)).alloc (.cells #[.int .i64 x] 3)).heap.size = w.heap.size + 2 := by simp
  have hb : Below w.heap.size w ((w.alloc (.cells #[.slice (some ⟨g, 0, none⟩) m C] 37)).alloc (.cells #[.int .i64 x] 3)) := ((Below.refl _ _).alloc (Nat.le_refl _) _).alloc (by simp) _
  generalize ((w.alloc (.cells #[.slice (some ⟨g, 0, none⟩) m C] 37)).alloc (.cells #[.int .i64 x] 3)) = w1 at *
  refine (search_any 104 #[.pointer (some ⟨w.heap.size, 0, none⟩), .pointer (some ⟨w.heap.size + 1, 0, none⟩)] m (fun i => decide (x ≤ ((l.getD i 0 : Nat) : Int))) w1 clo_eg (by omega) ?_ ?_).mono ?_
  · intro wr i hi hbr
    have hx : l[i]? = some (l.getD i 0) := by
      rw [List.getD_eq_getElem?_getD, List.getElem?_eq_getElem (by rw [HM.out]; exact hi)]; rfl
    exact clo_any w.heap.size (w.heap.size + 1) g m C i x ((l.getD i 0 : Nat) : Int) wr hi (by omega) ((hbr.cell (p := ⟨w.heap.size, 0, none⟩) (by show w.heap.size < _; omega)).trans c1) ((hbr.cell (p := ⟨w.heap.size + 1, 0, none⟩) (by show w.heap.size + 1 < _; omega)).trans c2)
      ((hbr.cell (p := ⟨g, i, none⟩) (by show g < _; omega)).trans ((hb.cell (p := ⟨g, i, none⟩) hg).trans (HC.out i _ hx)))
  · intro i j hij hj hp
    simp only [decide_eq_true_eq] at hp ⊢
    rcases Nat.lt_or_ge i j with h | h
    · have := List.pairwise_iff_getElem.1 HS.out i j (by rw [HM.out]; omega) (by rw [HM.out]; omega) h
      simp only [List.getD_eq_getElem?_getD, List.getElem?_eq_getElem (show i < l.length by rw [HM.out]; omega), List.getElem?_eq_getElem (show j < l.length by rw [HM.out]; omega), Option.getD_some] at hp ⊢
      omega
    · have : i = j := by omega
      subst this; exact hp
  · rintro e w2 ⟨i, hf, rfl, hb2⟩
    have HB := Lib.hid (hb.trans (hb2.mono hb.size))
    have HF := Lib.hid hf
    clear hb hb2 hf c1 c2 hs HC HS HM
    go_wp2
    go_ret
    exact ⟨i, HF.out, rfl, HB.out⟩


/-- the next border above a place (the end, if there is none) -/
def NextP (xs : List Int) (at_ : Int) (r : Nat) : Prop := (at_ < (r : Int) ∧ r ∈ bs xs ∧ ∀ k ∈ bs xs, at_ < (k : Int) → r ≤ k) ∨ (r = xs.length ∧ ∀ k ∈ bs xs, ¬ at_ < (k : Int))
/-- the last border below a place (the beginning, if there is none) -/
def PrevP (xs : List Int) (at_ : Int) (r : Nat) : Prop := ((r : Int) < at_ ∧ r ∈ bs xs ∧ ∀ k ∈ bs xs, (k : Int) < at_ → k ≤ r) ∨ (r = 0 ∧ ∀ k ∈ bs xs, ¬ (k : Int) < at_)
/-- .. at or below a place -/
def SnapP (xs : List Int) (at_ : Int) (r : Nat) : Prop := ((r : Int) ≤ at_ ∧ r ∈ bs xs ∧ ∀ k ∈ bs xs, (k : Int) ≤ at_ → k ≤ r) ∨ (r = 0 ∧ ∀ k ∈ bs xs, ¬ (k : Int) ≤ at_)
noncomputable def isB (xs : List Int) (at_ : Int) : Bool := (bs xs).any fun k => ((k : Int) == at_)

theorem NextP.uniq {xs : List Int} {a : Int} {r s : Nat} (h : NextP xs a r) (k : NextP xs a s) : r = s := by
  rcases h with ⟨h1, h2, h3⟩ | ⟨h1, h2⟩ <;> rcases k with ⟨k1, k2, k3⟩ | ⟨k1, k2⟩
  · have := h3 s k2 k1; have := k3 r h2 h1; omega
  · exact absurd h1 (k2 r h2)
  · exact absurd k1 (h2 s k2)
  · omega
theorem PrevP.uniq {xs : List Int} {a : Int} {r s : Nat} (h : PrevP xs a r) (k : PrevP xs a s) : r = s := by
  rcases h with ⟨h1, h2, h3⟩ | ⟨h1, h2⟩ <;> rcases k with ⟨k1, k2, k3⟩ | ⟨k1, k2⟩
  · have := h3 s k2 k1; have := k3 r h2 h1; omega
  · exact absurd h1 (k2 r h2)
  · exact absurd k1 (h2 s k2)
  · omega
theorem SnapP.uniq {xs : List Int} {a : Int} {r s : Nat} (h : SnapP xs a r) (k : SnapP xs a s) : r = s := by
  rcases h with ⟨h1, h2, h3⟩ | ⟨h1, h2⟩ <;> rcases k with ⟨k1, k2, k3⟩ | ⟨k1, k2⟩
  · have := h3 s k2 k1; have := k3 r h2 h1; omega
  · exact absurd h1 (k2 r h2)
  · exact absurd k1 (h2 s k2)
  · omega

/-- what a search in a rising list finds -/
theorem first_at {l : List Nat} (hs : l.Pairwise (· < ·)) {x : Int} {i : Nat} (hf : IsFirst l.length (fun i => decide (x ≤ ((l.getD i 0 : Nat) : Int))) i) :
    (∀ (j k : Nat), l[j]? = some k → j < i → (k : Int) < x) ∧ (∀ (j k : Nat), l[j]? = some k → i ≤ j → x ≤ (k : Int)) := by
  refine ⟨fun j k hj hi => ?_, fun j k hj hi => ?_⟩
  · have := hf.2.1 j hi
    simp only [decide_eq_false_iff_not, List.getD_eq_getElem?_getD, hj, Option.getD_some] at this
    omega
  · have := hf.2.2 j hi (List.getElem?_eq_some_iff.1 hj).1
    simpa only [decide_eq_true_eq, List.getD_eq_getElem?_getD, hj, Option.getD_some] using this

theorem first_next {l : List Nat} (hs : l.Pairwise (· < ·)) {x : Int} {i : Nat} (hf : IsFirst l.length (fun i => decide (x ≤ ((l.getD i 0 : Nat) : Int))) i) (he : ∃ k ∈ l, x ≤ (k : Int)) :
    ∃ r, l[i]? = some r ∧ x ≤ (r : Int) ∧ ∀ k ∈ l, x ≤ (k : Int) → r ≤ k := by
  obtain ⟨f1, f2⟩ := first_at hs hf
  obtain ⟨k, hk, hx⟩ := he
  obtain ⟨j, hj⟩ := List.mem_iff_getElem?.1 hk
  have hij : i ≤ j := Nat.le_of_not_lt fun h => by have := f1 j k hj h; omega
  have hjl := (List.getElem?_eq_some_iff.1 hj).1
  have hr : l[i]? = some l[i] := List.getElem?_eq_getElem (by omega)
  refine ⟨l[i], hr, f2 i _ hr (Nat.le_refl _), fun k' hk' hx' => ?_⟩
  obtain ⟨j', hj'⟩ := List.mem_iff_getElem?.1 hk'
  have hij' : i ≤ j' := Nat.le_of_not_lt fun h => by have := f1 j' k' hj' h; omega
  obtain ⟨hjl', e⟩ := List.getElem?_eq_some_iff.1 hj'
  rcases Nat.lt_or_ge i j' with h | h
  · have := List.pairwise_iff_getElem.1 hs i j' (by omega) hjl' h; omega
  · have : i = j' := by omega
    subst this; omega

theorem first_prev {l : List Nat} (hs : l.Pairwise (· < ·)) {x : Int} {i : Nat} (hf : IsFirst l.length (fun i => decide (x ≤ ((l.getD i 0 : Nat) : Int))) i) (he : ∃ k ∈ l, (k : Int) < x) :
    1 ≤ i ∧ i ≤ l.length ∧ ∃ r, l[i - 1]? = some r ∧ (r : Int) < x ∧ ∀ k ∈ l, (k : Int) < x → k ≤ r := by
  obtain ⟨f1, f2⟩ := first_at hs hf
  obtain ⟨k, hk, hx⟩ := he
  obtain ⟨j, hj⟩ := List.mem_iff_getElem?.1 hk
  have hij : j < i := Nat.lt_of_not_le fun h => by have := f2 j k hj h; omega
  have hil := hf.1
  have hr : l[i - 1]? = some l[i - 1] := List.getElem?_eq_getElem (by omega)
  refine ⟨by omega, hil, l[i - 1], hr, f1 (i - 1) _ hr (by omega), fun k' hk' hx' => ?_⟩
  obtain ⟨j', hj'⟩ := List.mem_iff_getElem?.1 hk'
  have hij' : j' < i := Nat.lt_of_not_le fun h => by have := f2 j' k' hj' h; omega
  obtain ⟨hjl', e⟩ := List.getElem?_eq_some_iff.1 hj'
  rcases Nat.lt_or_ge j' (i - 1) with h | h
  · have := List.pairwise_iff_getElem.1 hs j' (i - 1) hjl' (by omega) h; omega
  · have : j' = i - 1 := by omega
    subst this; omega

theorem above_any (A : Option Addr) (C : Nat) (l : List Nat) (hsort : l.Pairwise (· < ·)) (x : Int) (hx1 : -9223372036854775808 ≤ x) (hx2 : x < 9223372036854775807) (w : World) (hl : l.length ≤ 100001) (h : Reads w A l) :
    Calls Try.prog 78 #[.slice A l.length C, .int .i64 x] w (SearchPost l.length (fun i => decide (x + 1 ≤ ((l.getD i 0 : Nat) : Int))) w) := by
  have HI := Lib.hid (ints_any A C l hsort (x + 1) w hl h)
  clear h hsort
  generalize l.length = m at *
  go_enter Try.func78, Try.ntmps78
  go_wp2_with fail
  refine HI.out.mono ?_
  rintro e w2 ⟨i, hf, rfl, hb2⟩
  have HF := Lib.hid hf
  have HB := Lib.hid hb2
  clear hf hb2 HI
  go_wp2
  go_ret
  exact ⟨i, HF.out, rfl, HB.out⟩

def RetP (P : Nat → Prop) (w : World) (e : Ending) (w' : World) : Prop := ∃ r : Nat, e = .returned (.int .i64 (r : Int)) ∧ P r ∧ Below w.heap.size w w'

set_option maxHeartbeats 2000000 in
theorem next_any (a : Option Addr) (n c : Nat) (xs : List Int) (w : World) (h : Runes w a n c xs) (hn : n ≤ 100000) (x : Int) (hx1 : -9223372036854775808 ≤ x) (hx2 : x ≤ 9223372036854775807) :
    Calls Try.prog 38 #[.slice a n c, .int .i64 x] w (RetP (NextP xs x) w) := by
  have HL := Lib.hid h.ints.1
  have HBS := Lib.hid (borders_any a n c xs w h hn)
  clear h
  by_cases h1 : x < 0
  · go_enter Try.func38, Try.ntmps38
    go_wp2
    go_ret
    exact ⟨0, rfl, .inl ⟨by omega, bs_zero xs, fun k _ _ => Nat.zero_le _⟩, Below.refl _ _⟩
  · by_cases h2 : (n : Int) ≤ x
    · go_enter Try.func38, Try.ntmps38
      go_wp2
      go_ret
      exact ⟨n, rfl, .inr ⟨HL.out.symm, fun k hk => by have := bs_le xs hk; have h9 := HL.out; omega⟩, Below.refl _ _⟩
    · have h2' : x < n := by omega
      go_enter Try.func38, Try.ntmps38
      go_wp2_with fail
      refine HBS.out.mono ?_
      rintro e w1 ⟨A, C, rfl, hR, hb1⟩
      have HR := Lib.hid hR
      have HB1 := Lib.hid hb1
      clear hR hb1 HBS
      go_wp2_with fail
      refine (above_any A C (bs xs) (bs_sorted xs) x hx1 (by omega) w1 (by have := bs_len xs; have h9 := HL.out; omega) HR.out).mono ?_
      rintro e w2 ⟨i, hf, rfl, hb2⟩
      obtain ⟨r, hr1, hr2, hr3⟩ := first_next (bs_sorted xs) hf ⟨n, by rw [← HL.out]; exact bs_last xs, by omega⟩
      have hil : i < (bs xs).length := (List.getElem?_eq_some_iff.1 hr1).1
      obtain ⟨g, rfl, hg, hc⟩ := HR.out.below hb2
      have hc := hc i r hr1
      have HB2 := Lib.hid (HB1.out.trans (hb2.mono HB1.out.size))
      have HR3 : Hid (NextP xs x r) := Lib.hid (.inl ⟨by omega, List.mem_of_getElem? hr1, fun k hk hkx => hr3 k hk (by omega)⟩)
      have hil' : (i : Int) < (bs xs).length := by omega
      clear hf hb2 hr1 hr2 hr3 HB1 HR
      generalize (bs xs).length = m at *
      go_wp2
      go_ret
      exact ⟨r, rfl, HR3.out, HB2.out⟩

set_option maxHeartbeats 2000000 in
theorem prev_any (a : Option Addr) (n c : Nat) (xs : List Int) (w : World) (h : Runes w a n c xs) (hn : n ≤ 100000) (x : Int) (hx1 : -9223372036854775808 ≤ x) (hx2 : x ≤ 9223372036854775807) :
    Calls Try.prog 39 #[.slice a n c, .int .i64 x] w (RetP (PrevP xs x) w) := by
  have HL := Lib.hid h.ints.1
  have HBS := Lib.hid (borders_any a n c xs w h hn)
  clear h
  by_cases h1 : x ≤ 0
  · go_enter Try.func39, Try.ntmps39
    go_wp2
    go_ret
    exact ⟨0, rfl, .inr ⟨rfl, fun k hk => by omega⟩, Below.refl _ _⟩
  · by_cases h2 : (n : Int) < x
    · go_enter Try.func39, Try.ntmps39
      go_wp2
      go_ret
      exact ⟨n, rfl, .inl ⟨by omega, by rw [← HL.out]; exact bs_last xs, fun k hk _ => by have := bs_le xs hk; have h9 := HL.out; omega⟩, Below.refl _ _⟩
    · go_enter Try.func39, Try.ntmps39
      go_wp2_with fail
      refine HBS.out.mono ?_
      rintro e w1 ⟨A, C, rfl, hR, hb1⟩
      have HR := Lib.hid hR
      have HB1 := Lib.hid hb1
      clear hR hb1 HBS
      go_wp2_with fail
      refine (ints_any A C (bs xs) (bs_sorted xs) x w1 (by have := bs_len xs; have h9 := HL.out; omega) HR.out).mono ?_
      rintro e w2 ⟨i, hf, rfl, hb2⟩
      obtain ⟨hi1, hi2, r, hr1, hr2, hr3⟩ := first_prev (bs_sorted xs) hf ⟨0, bs_zero xs, by omega⟩
      obtain ⟨g, rfl, hg, hc⟩ := HR.out.below hb2
      have hc := hc (i - 1) r hr1
      have HB2 := Lib.hid (HB1.out.trans (hb2.mono HB1.out.size))
      have HR3 : Hid (PrevP xs x r) := Lib.hid (.inl ⟨hr2, List.mem_of_getElem? hr1, hr3⟩)
      have hbl := bs_len xs
      have h9 : (bs xs).length ≤ 100001 := by have h9 := HL.out; omega
      clear hf hb2 hr1 hr2 hr3 HB1 HR
      generalize (bs xs).length = m at *
      have x1 : IntKind.i64.wrap ((i : Int) - 1) = (i : Int) - 1 := IntWalk.i64_in _ (by omega)
      have x2 : (0 : Int) ≤ (i : Int) - 1 := by omega
      have x3 : ((i : Int) - 1).toNat = i - 1 := by omega
      have x4 : (i : Int) - 1 < m := by omega
      go_wp2
      go_ret
      exact ⟨r, rfl, HR3.out, HB2.out⟩

set_option maxHeartbeats 2000000 in
theorem snap_any (a : Option Addr) (n c : Nat) (xs : List Int) (w : World) (h : Runes w a n c xs) (hn : n ≤ 100000) (x : Int) (hx1 : -9223372036854775808 ≤ x) (hx2 : x ≤ 9223372036854775807) :
    Calls Try.prog 41 #[.slice a n c, .int .i64 x] w (RetP (SnapP xs x) w) := by
  have HL := Lib.hid h.ints.1
  have HBS := Lib.hid (borders_any a n c xs w h hn)
  clear h
  by_cases h1 : x < 0
  · go_enter Try.func41, Try.ntmps41
    go_wp2
    go_ret
    exact ⟨0, rfl, .inr ⟨rfl, fun k hk => by omega⟩, Below.refl _ _⟩
  · by_cases h2 : (n : Int) ≤ x
    · go_enter Try.func41, Try.ntmps41
      go_wp2
      go_ret
      exact ⟨n, rfl, .inl ⟨by omega, by rw [← HL.out]; exact bs_last xs, fun k hk _ => by have := bs_le xs hk; have h9 := HL.out; omega⟩, Below.refl _ _⟩
    · go_enter Try.func41, Try.ntmps41
      go_wp2_with fail
      refine HBS.out.mono ?_
      rintro e w1 ⟨A, C, rfl, hR, hb1⟩
      have HR := Lib.hid hR
      have HB1 := Lib.hid hb1
      clear hR hb1 HBS
      go_wp2_with fail
      refine (above_any A C (bs xs) (bs_sorted xs) x hx1 (by omega) w1 (by have := bs_len xs; have h9 := HL.out; omega) HR.out).mono ?_
      rintro e w2 ⟨i, hf, rfl, hb2⟩
      obtain ⟨hi1, hi2, r, hr1, hr2, hr3⟩ := first_prev (bs_sorted xs) hf ⟨0, bs_zero xs, by omega⟩
      obtain ⟨g, rfl, hg, hc⟩ := HR.out.below hb2
      have hc := hc (i - 1) r hr1
      have HB2 := Lib.hid (HB1.out.trans (hb2.mono HB1.out.size))
      have HR3 : Hid (SnapP xs x r) := Lib.hid (.inl ⟨by omega, List.mem_of_getElem? hr1, fun k hk hkx => hr3 k hk (by omega)⟩)
      have hbl := bs_len xs
      have h9 : (bs xs).length ≤ 100001 := by have h9 := HL.out; omega
      clear hf hb2 hr1 hr2 hr3 HB1 HR
      generalize (bs xs).length = m at *
      have x1 : IntKind.i64.wrap ((i : Int) - 1) = (i : Int) - 1 := IntWalk.i64_in _ (by omega)
      have x2 : (0 : Int) ≤ (i : Int) - 1 := by omega
      have x3 : ((i : Int) - 1).toNat = i - 1 := by omega
      have x4 : (i : Int) - 1 < m := by omega
      go_wp2
      go_ret
      exact ⟨r, rfl, HR3.out, HB2.out⟩

theorem isB_iff {xs : List Int} {x : Int} : isB xs x = true ↔ ∃ k ∈ bs xs, (k : Int) = x := by unfold isB; simp

set_option maxHeartbeats 2000000 in
theorem is_any (a : Option Addr) (n c : Nat) (xs : List Int) (w : World) (h : Runes w a n c xs) (hn : n ≤ 100000) (x : Int) (hx1 : -9223372036854775808 ≤ x) (hx2 : x ≤ 9223372036854775807) :
    Calls Try.prog 36 #[.slice a n c, .int .i64 x] w fun e w' => e = .returned (.bool (isB xs x)) ∧ Below w.heap.size w w' := by
  have HL := Lib.hid h.ints.1
  have HBS := Lib.hid (borders_any a n c xs w h hn)
  clear h
  by_cases h1 : x < 0
  · have HI : Hid (isB xs x = false) := by
      cases hb : isB xs x
      · exact Lib.hid rfl
      · obtain ⟨k, hk, e⟩ := isB_iff.1 hb; omega
    go_enter Try.func36, Try.ntmps36
    go_wp2
    go_ret
    exact ⟨ret_bool HI.out.symm, Below.refl _ _⟩
  · by_cases h2 : (n : Int) < x
    · have HI : Hid (isB xs x = false) := by
        cases hb : isB xs x
        · exact Lib.hid rfl
        · obtain ⟨k, hk, e⟩ := isB_iff.1 hb; have := bs_le xs hk; have h9 := HL.out; omega
      go_enter Try.func36, Try.ntmps36
      go_wp2
      go_ret
      exact ⟨ret_bool HI.out.symm, Below.refl _ _⟩
    · go_enter Try.func36, Try.ntmps36
      go_wp2_with fail
      refine HBS.out.mono ?_
      rintro e w1 ⟨A, C, rfl, hR, hb1⟩
      have HR := Lib.hid hR
      have HB1 := Lib.hid hb1
      clear hR hb1 HBS
      go_wp2_with fail
      refine (ints_any A C (bs xs) (bs_sorted xs) x w1 (by have := bs_len xs; have h9 := HL.out; omega) HR.out).mono ?_
      rintro e w2 ⟨i, hf, rfl, hb2⟩
      obtain ⟨r, hr1, hr2, hr3⟩ := first_next (bs_sorted xs) hf ⟨n, by rw [← HL.out]; exact bs_last xs, by omega⟩
      have hil : i < (bs xs).length := (List.getElem?_eq_some_iff.1 hr1).1
      obtain ⟨g, rfl, hg, hc⟩ := HR.out.below hb2
      have hc := hc i r hr1
      have HB2 := Lib.hid (HB1.out.trans (hb2.mono HB1.out.size))
      have HI : Hid (isB xs x = ((r : Int) == x)) := by
        by_cases e : (r : Int) = x
        · have : isB xs x = true := isB_iff.2 ⟨r, List.mem_of_getElem? hr1, e⟩
          rw [this]; exact Lib.hid (by simp [e])
        · have : isB xs x = false := by
            cases hb : isB xs x
            · rfl
            · obtain ⟨k, hk, e2⟩ := isB_iff.1 hb
              have := hr3 k hk (by omega); omega
          rw [this]; exact Lib.hid (by simp [e])
      have hil' : (i : Int) < (bs xs).length := by omega
      clear hf hb2 hr1 hr2 hr3 HB1 HR
      generalize (bs xs).length = m at *
      go_wp2
      go_ret
      exact ⟨ret_bool HI.out.symm, HB2.out⟩


theorem nums_at {w : World} {base : Nat} {a : Option Addr} {n c : Nat} {l : List Nat} (h : w.ownsRow base 3 1 (.slice a n c) n (nums l)) (hn : 0 < n) :
    ∃ g, a = some ⟨g, 0, none⟩ ∧ g < w.heap.size ∧ ∀ k x : Nat, l[k]? = some x → w.cell? ⟨g, k, none⟩ = some (.int .i64 (x : Int)) := by
  rcases h.2 with ⟨_, h0⟩ | ⟨g, cap, cur, h1, h2, h3, _⟩
  · omega
  · injection h1 with h1 _
    subst h1
    refine ⟨g, rfl, (Array.getElem?_eq_some_iff.1 h3).1, fun k x hx => ?_⟩
    have := h.cells (g := g) rfl k _ (by simp [nums, hx] : (nums l)[k]? = some (.int .i64 (x : Int)))
    rwa [add_none, Nat.zero_add] at this

theorem st_len (xs : List Int) (n : Nat) : (starts (Jn xs) n).length = cnt (Jn xs) n := rfl

set_option maxHeartbeats 2000000 in
theorem is_ref (a : Option Addr) (n c : Nat) (xs : List Int) (w : World) (h : Runes w a n c xs) (hn : n ≤ 100000) (x : Int) :
    Calls Try.prog 37 #[.slice a n c, .int .i64 x] w fun e w' => e = .returned (.bool (isB xs x)) ∧ Below w.heap.size w w' := by
  have HL := Lib.hid h.ints.1
  have HS := Lib.hid (starts_ref a n c xs w h hn)
  clear h
  by_cases h0 : x = 0
  · subst h0
    have HI : Hid (isB xs 0 = true) := Lib.hid (isB_iff.2 ⟨0, bs_zero xs, rfl⟩)
    go_enter Try.func37, Try.ntmps37
    go_wp2
    go_ret
    exact ⟨ret_bool HI.out.symm, Below.refl _ _⟩
  by_cases h1 : x = n
  · subst h1
    have d0 : ((n : Int) == 0) = false := by simpa using h0
    have HI : Hid (isB xs n = true) := Lib.hid (isB_iff.2 ⟨n, by rw [← HL.out]; exact bs_last xs, rfl⟩)
    clear h0
    go_enter Try.func37, Try.ntmps37
    go_wp2
    go_ret
    exact ⟨ret_bool HI.out.symm, Below.refl _ _⟩
  have d0 : (x == 0) = false := by simpa using h0
  have d1 : (x == (n : Int)) = false := by simpa using h1
  have HN : Hid ((∀ y ∈ starts (Jn xs) n, (y : Int) ≠ x) → isB xs x = false) := by
    refine Lib.hid fun h => ?_
    cases hb : isB xs x
    · rfl
    · obtain ⟨k, hk, e⟩ := isB_iff.1 hb
      unfold bs bnd at hk
      rcases List.mem_append.1 hk with hk | hk
      · rw [HL.out] at hk; exact absurd e (h k hk)
      · simp at hk; have h9 := HL.out; omega
  have HY : Hid (∀ y ∈ starts (Jn xs) n, (y : Int) = x → isB xs x = true) := by
    refine Lib.hid fun y hy e => isB_iff.2 ⟨y, ?_, e⟩
    unfold bs bnd
    rw [HL.out]; exact List.mem_append.2 (.inl hy)
  clear h0 h1
  go_enter Try.func37, Try.ntmps37
  go_wp2_with fail
  refine HS.out.mono ?_
  rintro e w1 ⟨v, rfl, ho, hb⟩
  obtain ⟨A1, C1, rfl⟩ := own_slice ho
  have HO := Lib.hid ho
  have HB := Lib.hid hb
  have hs1 := hb.size
  have hcl := cnt_le (J := Jn xs) n
  have HCL : Hid ((starts (Jn xs) n).length = cnt (Jn xs) n) := Lib.hid (st_len xs n)
  clear ho hb HS
  generalize cnt (Jn xs) n = m at *
  go_wp2
  go_loopw [6] (fun i wr => ∃ k : Nat, k ≤ m ∧ i = .int .i64 k ∧ Hid (Below w1.heap.size w1 wr ∧ ∀ j y : Nat, j < k → (starts (Jn xs) n)[j]? = some y → (y : Int) ≠ x)) (fun i _ => m - (intOf i).toNat)
  case atStart => exact ⟨0, Nat.zero_le _, rfl, Below.refl _ _, fun j y hj _ => by omega⟩
  case round =>
    obtain ⟨k, hk, rfl, H⟩ := hrel
    by_cases hlt : k < m
    · obtain ⟨y, hy⟩ : ∃ y, (starts (Jn xs) n)[k]? = some y := ⟨_, List.getElem?_eq_getElem (by rw [HCL.out]; exact hlt)⟩
      obtain ⟨g, rfl, hg, hC⟩ := nums_at HO.out (by omega)
      have hc := (H.out.1.cell (p := ⟨g, k, none⟩) hg).trans (hC k y hy)
      have hlt' : (k : Int) < m := by omega
      have HYY := Lib.hid hy
      clear hC hy
      rcases hyx : ((y : Int) == x) with _ | _
      · have hyx' : Hid ((y : Int) ≠ x) := Lib.hid (by simpa using hyx)
        go_wp2
        go_roundw
        case rel =>
          refine ⟨k + 1, by omega, by go_num, H.out.1, fun j z hj hz => ?_⟩
          rcases Nat.lt_or_ge j k with h | h
          · exact H.out.2 j z h hz
          · obtain rfl : j = k := by omega
            rw [HYY.out] at hz
            injection hz with hz
            subst hz
            exact hyx'.out
        case measure => simp [intOf]; omega
      · have HI : Hid (isB xs x = true) := Lib.hid (HY.out y (List.mem_of_getElem? HYY.out) (by simpa using hyx))
        go_wp2
        go_ret
        exact ⟨ret_bool HI.out.symm, HB.out.trans (H.out.1.mono hs1)⟩
    · obtain rfl : k = m := by omega
      have HI : Hid (isB xs x = false) := Lib.hid (HN.out fun y hy => by
        obtain ⟨j, hj⟩ := List.mem_iff_getElem?.1 hy
        exact H.out.2 j y (by have := (List.getElem?_eq_some_iff.1 hj).1; rw [HCL.out] at this; exact this) hj)
      go_wp2
      go_ret
      exact ⟨ret_bool HI.out.symm, HB.out.trans (H.out.1.mono hs1)⟩

set_option maxHeartbeats 2000000 in
theorem next_ref (a : Option Addr) (n c : Nat) (xs : List Int) (w : World) (h : Runes w a n c xs) (hn : n ≤ 100000) (x : Int) :
    Calls Try.prog 35 #[.slice a n c, .int .i64 x] w (RetP (NextP xs x) w) := by
  have HL := Lib.hid h.ints.1
  have HH := Lib.hid h
  clear h
  go_enter Try.func35, Try.ntmps35
  go_wp2
  go_loopw [5] (fun i wr => ∃ k : Nat, k ≤ n + 1 ∧ i = .int .i64 k ∧ Hid (Below w.heap.size w wr ∧ ∀ j ∈ bs xs, x < (j : Int) → k ≤ j)) (fun i _ => n + 1 - (intOf i).toNat)
  case atStart => exact ⟨0, Nat.zero_le _, rfl, Below.refl _ _, fun _ _ _ => Nat.zero_le _⟩
  case round =>
    obtain ⟨k, hk, rfl, H⟩ := hrel
    by_cases hlt : k ≤ n
    · have hlt' : (k : Int) ≤ n := by omega
      by_cases hx : x < (k : Int)
      · go_wp2_with fail
        refine (is_ref a n c xs wr (HH.out.below H.out.1) hn k).mono ?_
        rintro e w1 ⟨rfl, hb1⟩
        have HB := Lib.hid (H.out.1.trans (hb1.mono H.out.1.size))
        clear hb1
        rcases hi : isB xs (k : Int) with _ | _
        · have HI := Lib.hid hi
          clear hi
          go_wp2
          go_roundw
          case rel =>
            refine ⟨k + 1, by omega, by go_num, HB.out, fun j hj hxj => ?_⟩
            have := H.out.2 j hj hxj
            rcases Nat.lt_or_ge k j with h | h
            · omega
            · obtain rfl : k = j := by omega
              have : isB xs (k : Int) = true := isB_iff.2 ⟨k, hj, rfl⟩
              rw [HI.out] at this
              cases this
          case measure => simp [intOf]; omega
        · have HI := Lib.hid hi
          clear hi
          go_wp2
          go_ret
          refine ⟨k, rfl, .inl ⟨hx, ?_, H.out.2⟩, HB.out⟩
          obtain ⟨k', h1, h2⟩ := isB_iff.1 HI.out
          obtain rfl : k' = k := by omega
          exact h1
      · have hx' : (k : Int) ≤ x := by omega
        go_wp2
        go_roundw
        case rel =>
          refine ⟨k + 1, by omega, by go_num, H.out.1, fun j hj hxj => ?_⟩
          have := H.out.2 j hj hxj
          omega
        case measure => simp [intOf]; omega
    · have hlt' : (n : Int) < k := by omega
      go_wp2
      go_ret
      refine ⟨n, rfl, .inr ⟨HL.out.symm, fun j hj hxj => ?_⟩, H.out.1⟩
      have := H.out.2 j hj hxj
      have h9 := bs_le xs hj
      have h8 := HL.out
      omega

set_option maxHeartbeats 2000000 in
theorem prev_ref (a : Option Addr) (n c : Nat) (xs : List Int) (w : World) (h : Runes w a n c xs) (hn : n ≤ 100000) (x : Int) :
    Calls Try.prog 40 #[.slice a n c, .int .i64 x] w (RetP (PrevP xs x) w) := by
  have HL := Lib.hid h.ints.1
  have HH := Lib.hid h
  clear h
  go_enter Try.func40, Try.ntmps40
  go_wp2
  go_loopw [5] (fun i wr => ∃ k : Int, -1 ≤ k ∧ k ≤ n ∧ i = .int .i64 k ∧ Hid (Below w.heap.size w wr ∧ ∀ j ∈ bs xs, (j : Int) < x → (j : Int) ≤ k)) (fun i _ => (intOf i + 1).toNat)
  case atStart => exact ⟨n, by omega, by omega, rfl, Below.refl _ _, fun j hj _ => by have := bs_le xs hj; have h9 := HL.out; omega⟩
  case round =>
    obtain ⟨k, hk0, hk, rfl, H⟩ := hrel
    by_cases hlt : 0 ≤ k
    · obtain ⟨m, rfl⟩ := Int.eq_ofNat_of_zero_le hlt
      have x1 : IntKind.i64.wrap ((m : Int) - 1) = (m : Int) - 1 := IntWalk.i64_in _ (by omega)
      by_cases hx : (m : Int) < x
      · go_wp2_with fail
        refine (is_ref a n c xs wr (HH.out.below H.out.1) hn m).mono ?_
        rintro e w1 ⟨rfl, hb1⟩
        have HB := Lib.hid (H.out.1.trans (hb1.mono H.out.1.size))
        clear hb1
        rcases hi : isB xs (m : Int) with _ | _
        · have HI := Lib.hid hi
          clear hi
          go_wp2
          go_roundw
          case rel =>
            refine ⟨m - 1, by omega, by omega, rfl, HB.out, fun j hj hxj => ?_⟩
            have := H.out.2 j hj hxj
            rcases Nat.lt_or_ge j m with h | h
            · omega
            · obtain rfl : m = j := by omega
              have : isB xs (m : Int) = true := isB_iff.2 ⟨m, hj, rfl⟩
              rw [HI.out] at this
              cases this
          case measure => simp [intOf]
        · have HI := Lib.hid hi
          clear hi
          go_wp2
          go_ret
          refine ⟨m, rfl, .inl ⟨hx, ?_, fun j hj hxj => by have := H.out.2 j hj hxj; omega⟩, HB.out⟩
          obtain ⟨k', h1, h2⟩ := isB_iff.1 HI.out
          obtain rfl : k' = m := by omega
          exact h1
      · have hx' : x ≤ (m : Int) := by omega
        go_wp2
        go_roundw
        case rel =>
          refine ⟨m - 1, by omega, by omega, rfl, H.out.1, fun j hj hxj => ?_⟩
          have := H.out.2 j hj hxj
          omega
        case measure => simp [intOf]
    · have hlt' : k < 0 := by omega
      go_wp2
      go_ret
      refine ⟨0, rfl, .inr ⟨rfl, fun j hj hxj => ?_⟩, H.out.1⟩
      have := H.out.2 j hj hxj
      omega

set_option maxHeartbeats 2000000 in
theorem snap_ref (a : Option Addr) (n c : Nat) (xs : List Int) (w : World) (h : Runes w a n c xs) (hn : n ≤ 100000) (x : Int) :
    Calls Try.prog 34 #[.slice a n c, .int .i64 x] w (RetP (SnapP xs x) w) := by
  have HL := Lib.hid h.ints.1
  have HH := Lib.hid h
  clear h
  go_enter Try.func34, Try.ntmps34
  go_wp2
  go_loopw [5] (fun i wr => ∃ k : Int, -1 ≤ k ∧ k ≤ n ∧ i = .int .i64 k ∧ Hid (Below w.heap.size w wr ∧ ∀ j ∈ bs xs, (j : Int) ≤ x → (j : Int) ≤ k)) (fun i _ => (intOf i + 1).toNat)
  case atStart => exact ⟨n, by omega, by omega, rfl, Below.refl _ _, fun j hj _ => by have := bs_le xs hj; have h9 := HL.out; omega⟩
  case round =>
    obtain ⟨k, hk0, hk, rfl, H⟩ := hrel
    by_cases hlt : 0 ≤ k
    · obtain ⟨m, rfl⟩ := Int.eq_ofNat_of_zero_le hlt
      have x1 : IntKind.i64.wrap ((m : Int) - 1) = (m : Int) - 1 := IntWalk.i64_in _ (by omega)
      by_cases hx : (m : Int) ≤ x
      · go_wp2_with fail
        refine (is_ref a n c xs wr (HH.out.below H.out.1) hn m).mono ?_
        rintro e w1 ⟨rfl, hb1⟩
        have HB := Lib.hid (H.out.1.trans (hb1.mono H.out.1.size))
        clear hb1
        rcases hi : isB xs (m : Int) with _ | _
        · have HI := Lib.hid hi
          clear hi
          go_wp2
          go_roundw
          case rel =>
            refine ⟨m - 1, by omega, by omega, rfl, HB.out, fun j hj hxj => ?_⟩
            have := H.out.2 j hj hxj
            rcases Nat.lt_or_ge j m with h | h
            · omega
            · obtain rfl : m = j := by omega
              have : isB xs (m : Int) = true := isB_iff.2 ⟨m, hj, rfl⟩
              rw [HI.out] at this
              cases this
          case measure => simp [intOf]
        · have HI := Lib.hid hi
          clear hi
          go_wp2
          go_ret
          refine ⟨m, rfl, .inl ⟨hx, ?_, fun j hj hxj => by have := H.out.2 j hj hxj; omega⟩, HB.out⟩
          obtain ⟨k', h1, h2⟩ := isB_iff.1 HI.out
          obtain rfl : k' = m := by omega
          exact h1
      · have hx' : x < (m : Int) := by omega
        go_wp2
        go_roundw
        case rel =>
          refine ⟨m - 1, by omega, by omega, rfl, H.out.1, fun j hj hxj => ?_⟩
          have := H.out.2 j hj hxj
          omega
        case measure => simp [intOf]
    · have hlt' : k < 0 := by omega
      go_wp2
      go_ret
      refine ⟨0, rfl, .inr ⟨rfl, fun j hj hxj => ?_⟩, H.out.1⟩
      have := H.out.2 j hj hxj
      omega

/-- what Around hands out -/
def AroundP (xs : List Int) (x : Int) (r s : Nat) : Prop :=
  (xs.length = 0 ∧ r = 0 ∧ s = 0) ∨ (0 < xs.length ∧ SnapP xs (max 0 (min x ((xs.length : Int) - 1))) r ∧ NextP xs (max 0 (min x ((xs.length : Int) - 1))) s)

theorem clamp (x : Int) (n : Nat) (h : 0 < n) : ∃ k : Nat, k < n ∧ max 0 (min x ((n : Int) - 1)) = k := ⟨(max 0 (min x ((n : Int) - 1))).toNat, by omega, by omega⟩


set_option maxHeartbeats 2000000 in
theorem around_any (a : Option Addr) (n c : Nat) (xs : List Int) (w : World) (h : Runes w a n c xs) (hn : n ≤ 100000) (x : Int) (hx1 : -9223372036854775808 ≤ x) (hx2 : x ≤ 9223372036854775807) :
    Calls Try.prog 33 #[.slice a n c, .int .i64 x] w fun e w' => ∃ r s : Nat, e = .returned (.tuple #[.int .i64 (r : Int), .int .i64 (s : Int)]) ∧ AroundP xs x r s ∧ Below w.heap.size w w' := by
  have HL := Lib.hid h.ints.1
  have HH := Lib.hid h
  clear h
  by_cases h0 : n = 0
  · subst h0
    go_enter Try.func33, Try.ntmps33
    go_wp2
    go_ret2
    exact ⟨0, 0, rfl, .inl ⟨HL.out, rfl, rfl⟩, Below.refl _ _⟩
  · have d0 : ((n : Int) == 0) = false := by simp; omega
    have HP : Hid (∀ (y : Int) r s, y = max 0 (min x ((n : Int) - 1)) → SnapP xs y r → NextP xs y s → AroundP xs x r s) := Lib.hid fun y r s hy h1 h2 => .inr ⟨by rw [HL.out]; omega, by rw [HL.out, ← hy]; exact h1, by rw [HL.out, ← hy]; exact h2⟩
    have x1 : IntKind.i64.wrap ((n : Int) - 1) = (n : Int) - 1 := IntWalk.i64_in _ (by omega)
    go_enter Try.func33, Try.ntmps33
    go_wp2_with fail
    all_goals (refine (snap_any a n c xs w HH.out hn _ (by omega) (by omega)).mono ?_)
    all_goals (rintro e w1 ⟨r, rfl, hr, hb1⟩)
    all_goals (have HB1 := Lib.hid hb1)
    all_goals (have HR := Lib.hid hr)
    all_goals (clear hb1 hr)
    all_goals (go_wp2_with fail)
    all_goals (refine (next_any a n c xs w1 (HH.out.below HB1.out) hn _ (by omega) (by omega)).mono ?_)
    all_goals (rintro e w2 ⟨s, rfl, hs, hb2⟩)
    all_goals (have HB2 := Lib.hid (HB1.out.trans (hb2.mono HB1.out.size)))
    all_goals (have HS := Lib.hid hs)
    all_goals (clear hb2 hs)
    all_goals (go_wp2)
    all_goals (go_ret2)
    all_goals (exact ⟨r, s, rfl, HP.out _ r s (by omega) HR.out HS.out, HB2.out⟩)

theorem b3 : bs [101, 769, 97] = [0, 2, 3] := by kernel_rfl
theorem i2 : isB [101, 769, 97] 2 = true := by kernel_rfl
theorem i1 : isB [101, 769, 97] 1 = false := by kernel_rfl
theorem n0 : NextP [101, 769, 97] 0 2 := .inl ⟨by omega, by rw [b3]; simp, by rw [b3]; simp⟩
theorem n1 : NextP [101, 769, 97] 1 2 := .inl ⟨by omega, by rw [b3]; simp, by rw [b3]; simp⟩
theorem p3 : PrevP [101, 769, 97] 3 2 := .inl ⟨by omega, by rw [b3]; simp, by rw [b3]; simp⟩
theorem s1 : SnapP [101, 769, 97] 1 0 := .inl ⟨by omega, by rw [b3]; simp, by rw [b3]; simp⟩
theorem ar1 {r s : Nat} (h : AroundP [101, 769, 97] 1 r s) : r = 0 ∧ s = 2 := by
  rcases h with ⟨h, _⟩ | ⟨_, h1, h2⟩
  · simp at h
  · exact ⟨h1.uniq s1, h2.uniq n1⟩

set_option maxHeartbeats 2000000 in
theorem works_any (w : World) :
    Calls Try.prog 32 #[] w fun e w' => e = .returned (.bool true) ∧ Below w.heap.size w w' := by
  go_enter Try.func32, Try.ntmps32
  go_wp2_with fail
  have R1 := runes_new w [101, 769, 97] 3 rfl (by intro x hx; simp at hx; omega) (by omega) #[.int .i32 101, .int .i32 769, .int .i32 97] rfl 21
  have B1 : Below w.heap.size w (w.alloc (.cells #[.int .i32 101, .int .i32 769, .int .i32 97] 21)) := (Below.refl _ _).alloc (Nat.le_refl _) _
  generalize (w.alloc (.cells #[.int .i32 101, .int .i32 769, .int .i32 97] 21)) = w1 at *
  have RR := Lib.hid R1
  have HB1 := Lib.hid B1
  clear R1 B1
  refine (around_any _ _ _ _ _ RR.out (by omega) 1 (by omega) (by omega)).mono ?_
  rintro e w2 ⟨r, s, rfl, hr, h2⟩
  obtain ⟨rfl, rfl⟩ := ar1 hr
  have RR2 := Lib.hid (RR.out.below h2)
  have HB2 := Lib.hid (HB1.out.trans (h2.mono HB1.out.size))
  clear h2 hr RR HB1
  go_wp2_with fail
  refine (is_any _ _ _ _ _ RR2.out (by omega) 2 (by omega) (by omega)).mono ?_
  rintro e w3 ⟨rfl, h3⟩
  rw [i2]
  have RR3 := Lib.hid (RR2.out.below h3)
  have HB3 := Lib.hid (HB2.out.trans (h3.mono HB2.out.size))
  clear h3 RR2 HB2
  go_wp2_with fail
  refine (is_any _ _ _ _ _ RR3.out (by omega) 1 (by omega) (by omega)).mono ?_
  rintro e w4 ⟨rfl, h4⟩
  rw [i1]
  have RR4 := Lib.hid (RR3.out.below h4)
  have HB4 := Lib.hid (HB3.out.trans (h4.mono HB3.out.size))
  clear h4 RR3 HB3
  go_wp2_with fail
  refine (next_any _ _ _ _ _ RR4.out (by omega) 0 (by omega) (by omega)).mono ?_
  rintro e w5 ⟨r5, rfl, hr5, h5⟩
  obtain rfl := hr5.uniq n0
  have RR5 := Lib.hid (RR4.out.below h5)
  have HB5 := Lib.hid (HB4.out.trans (h5.mono HB4.out.size))
  clear h5 RR4 HB4 hr5
  go_wp2_with fail
  refine (prev_any _ _ _ _ _ RR5.out (by omega) 3 (by omega) (by omega)).mono ?_
  rintro e w6 ⟨r6, rfl, hr6, h6⟩
  obtain rfl := hr6.uniq p3
  have RR6 := Lib.hid (RR5.out.below h6)
  have HB6 := Lib.hid (HB5.out.trans (h6.mono HB5.out.size))
  clear h6 RR5 HB5 hr6
  go_wp2_with fail
  refine (snap_any _ _ _ _ _ RR6.out (by omega) 1 (by omega) (by omega)).mono ?_
  rintro e w7 ⟨r7, rfl, hr7, h7⟩
  obtain rfl := hr7.uniq s1
  have HB7 := Lib.hid (HB6.out.trans (h7.mono HB6.out.size))
  clear h7 RR6 HB6 hr7
  go_wp2
  go_ret
  exact ⟨rfl, HB7.out⟩

end Go.Proofs.Ytihanlahegngoaa.Border

/-
  The plain law of tab stops: rising lists, into which one number goes, and out of which it comes; rows of memory after cells were set. No Go in sight.
  tabs.may, Set.
  tabs.Next, Prev, All, Of, Every.
  tabs.Of, Every.
-/
import Derived.Test.YtcbfmokafmagpaaGreatOwn
import Derived.Test.YtcbfmokafmagpaaGreatLaysInts
import Derived.Test.YtcbfmokafmagpaaGreatMeaAll
import Derived.Test.YtcbfmokafmagpaaGreatJust
import Derived.Laws.IdiomCopy
namespace Go.Proofs.YtcbfmokafmagpaaGreat.Stops
set_option linter.unusedSimpArgs false
set_option linter.unusedVariables false
open Go Go.RowKit Mem Turn

/-- stops, rising -/
def Rise (cs : List Int) : Prop := cs.Pairwise (· < ·) ∧ ∀ x ∈ cs, 1 ≤ x ∧ x ≤ 1023

theorem split_at {cs : List Int} (h : cs.Pairwise (· < ·)) (x : Int) : cs.take (cs.countP (· < x)) = cs.filter (· < x) ∧ cs.drop (cs.countP (· < x)) = cs.filter (fun y => !decide (y < x)) := by
  induction cs with
  | nil => simp
  | cons a r ih =>
    rw [List.pairwise_cons] at h
    obtain ⟨h1, h2⟩ := h
    by_cases hax : a < x
    · obtain ⟨e1, e2⟩ := ih h2
      rw [List.countP_cons_of_pos (by simpa using hax), List.filter_cons_of_pos (by simpa using hax), List.filter_cons_of_neg (by simpa using hax)]
      exact ⟨by rw [List.take_succ_cons, e1], by rw [List.drop_succ_cons, e2]⟩
    · have h0 : (a :: r).countP (· < x) = 0 := by
        rw [List.countP_eq_zero]
        intro y hy
        rcases List.mem_cons.1 hy with rfl | hy
        · simpa using hax
        · have := h1 y hy
          simp; omega
      have hf : (a :: r).filter (· < x) = [] := by
        rw [List.filter_eq_nil_iff]
        exact fun y hy => (List.countP_eq_zero.1 h0) y hy
      have hg : (a :: r).filter (fun y => !decide (y < x)) = a :: r := by
        rw [List.filter_eq_self]
        intro y hy
        have := (List.countP_eq_zero.1 h0) y hy
        simpa using this
      rw [h0, hf, hg]
      simp
theorem count_le (cs : List Int) (x : Int) : cs.countP (· < x) ≤ cs.length := List.countP_le_length

theorem rise_in {cs : List Int} (h : Rise cs) {x : Int} (hx : 1 ≤ x ∧ x ≤ 1023) (hn : x ∉ cs) :
    Rise (cs.take (cs.countP (· < x)) ++ [x] ++ cs.drop (cs.countP (· < x))) ∧ ∀ y, y ∈ cs.take (cs.countP (· < x)) ++ [x] ++ cs.drop (cs.countP (· < x)) ↔ y ∈ cs ∨ y = x := by
  obtain ⟨e1, e2⟩ := split_at h.1 x
  have hm : ∀ y, y ∈ cs.take (cs.countP (· < x)) ++ [x] ++ cs.drop (cs.countP (· < x)) ↔ y ∈ cs ∨ y = x := by
    intro y
    rw [e1, e2]
    simp only [List.mem_append, List.mem_filter, List.mem_singleton, decide_eq_true_eq, Bool.not_eq_true', decide_eq_false_iff_not]
    constructor
    · rintro ((⟨h1, _⟩ | h1) | ⟨h1, _⟩)
      · exact .inl h1
      · exact .inr h1
      · exact .inl h1
    · rintro (h1 | h1)
      · by_cases hy : y < x
        · exact .inl (.inl ⟨h1, hy⟩)
        · exact .inr ⟨h1, hy⟩
      · exact .inl (.inr h1)
  refine ⟨⟨?_, fun y hy => ?_⟩, hm⟩
  · rw [e1, e2, List.append_assoc, List.pairwise_append, List.pairwise_append]
    refine ⟨h.1.filter _, ⟨by simp, h.1.filter _, ?_⟩, ?_⟩
    · intro a ha b hb
      rw [List.mem_singleton] at ha
      subst ha
      rw [List.mem_filter] at hb
      have h1 : ¬ b < a := by simpa using hb.2
      have h2 : b ≠ a := fun e => hn (e ▸ hb.1)
      omega
    · intro a ha b hb
      rw [List.mem_filter] at ha
      have h1 : a < x := by simpa using ha.2
      rcases List.mem_append.1 hb with hb | hb
      · rw [List.mem_singleton] at hb; omega
      · rw [List.mem_filter] at hb
        have h2 : ¬ b < x := by simpa using hb.2
        omega
  · rcases (hm y).1 hy with h1 | h1
    · exact h.2 y h1
    · rw [h1]; exact hx
theorem rise_out {cs : List Int} (h : Rise cs) {x : Int} (hn : x ∈ cs) :
    cs.countP (· < x) < cs.length ∧ Rise (cs.take (cs.countP (· < x)) ++ cs.drop (cs.countP (· < x) + 1)) ∧ ∀ y, y ∈ cs.take (cs.countP (· < x)) ++ cs.drop (cs.countP (· < x) + 1) ↔ y ∈ cs ∧ y ≠ x := by
  obtain ⟨e1, e2⟩ := split_at h.1 x
  obtain ⟨t, ht⟩ : ∃ t, cs.drop (cs.countP (· < x)) = x :: t := by
    have hx : x ∈ cs.drop (cs.countP (· < x)) := by rw [e2, List.mem_filter]; exact ⟨hn, by simp⟩
    have hp : (cs.drop (cs.countP (· < x))).Pairwise (· < ·) := h.1.sublist (List.drop_sublist _ _)
    have hge : ∀ y ∈ cs.drop (cs.countP (· < x)), ¬ y < x := fun y hy => by
      rw [e2, List.mem_filter] at hy
      simpa using hy.2
    generalize cs.drop (cs.countP (· < x)) = L at *
    cases L with
    | nil => cases hx
    | cons a r =>
      rcases List.mem_cons.1 hx with e | e
      · exact ⟨r, by rw [e]⟩
      · have := (List.pairwise_cons.1 hp).1 x e
        exact absurd this (hge a (by simp))
  have hd : cs.drop (cs.countP (· < x) + 1) = t := by rw [← List.drop_drop, ht]; rfl
  have hlt : cs.countP (· < x) < cs.length := by
    rcases Nat.lt_or_ge (cs.countP (· < x)) cs.length with h1 | h1
    · exact h1
    · rw [List.drop_of_length_le h1] at ht; cases ht
  have hp : (x :: t).Pairwise (· < ·) := by rw [← ht]; exact h.1.sublist (List.drop_sublist _ _)
  have hcs : cs = cs.filter (· < x) ++ x :: t := by
    have := List.take_append_drop (cs.countP (· < x)) cs
    rw [e1, ht] at this
    exact this.symm
  have hm : ∀ y, y ∈ cs.filter (· < x) ++ t ↔ y ∈ cs ∧ y ≠ x := by
    intro y
    constructor
    · intro hy
      rcases List.mem_append.1 hy with h1 | h1
      · rw [List.mem_filter] at h1
        have h2 : y < x := by simpa using h1.2
        exact ⟨h1.1, by omega⟩
      · have h2 := (List.pairwise_cons.1 hp).1 y h1
        exact ⟨by rw [hcs]; exact List.mem_append.2 (.inr (List.mem_cons_of_mem _ h1)), by omega⟩
    · rintro ⟨h1, h2⟩
      rw [hcs] at h1
      rcases List.mem_append.1 h1 with h3 | h3
      · exact List.mem_append.2 (.inl h3)
      · rcases List.mem_cons.1 h3 with h4 | h4
        · exact absurd h4 h2
        · exact List.mem_append.2 (.inr h4)
  rw [hd, e1]
  refine ⟨hlt, ⟨?_, fun y hy => h.2 y ((hm y).1 hy).1⟩, hm⟩
  have h3 := h.1
  rw [hcs] at h3
  exact h3.sublist (List.Sublist.append_left (List.sublist_cons_self _ _) _)

theorem rise_len {cs : List Int} (h : Rise cs) : cs.length ≤ 1023 := by
  have key : ∀ (l : List Int) (a : Int), l.Pairwise (· < ·) → (∀ x ∈ l, a < x ∧ x ≤ 1023) → l ≠ [] → (l.length : Int) ≤ 1023 - a := by
    intro l
    induction l with
    | nil => intro a _ _ h; exact absurd rfl h
    | cons b r ih =>
      intro a hp hb _
      rw [List.pairwise_cons] at hp
      have h0 := hb b (by simp)
      rcases r with _ | ⟨c, r⟩
      · simp; omega
      · have := ih b hp.2 (fun x hx => ⟨hp.1 x hx, (hb x (List.mem_cons_of_mem _ hx)).2⟩) (by simp)
        simp only [List.length_cons] at this ⊢
        omega
  rcases cs with _ | ⟨b, r⟩
  · simp
  · have := key (b :: r) 0 h.1 (fun x hx => by have := h.2 x hx; omega) (by simp)
    omega

/-! ### rows of memory -/
theorem heap_setCells {b : Nat} {T : TypeId} {fr : Nat × Nat} : ∀ (vs : List Value) (o : Nat) (w : World) (cur : List Value), w.heap[b]? = some (.cells cur.toArray T fr) → o + vs.length ≤ cur.length →
    (w.setCells b o vs).heap[b]? = some (.cells (cur.take o ++ vs ++ cur.drop (o + vs.length)).toArray T fr)
  | [], o, w, cur, h, _ => by
    have : cur.take o ++ [] ++ cur.drop (o + ([] : List Value).length) = cur := by simp
    rw [this]; exact h
  | v :: r, o, w, cur, h, hl => by
    simp only [List.length_cons] at hl
    have h1 : (w.setCell ⟨b, o, none⟩ v).heap[b]? = some (.cells (cur.set o v).toArray T fr) := by
      simp only [World.setCell, Array.getElem?_modify]
      simp [h]
    have h2 := heap_setCells r (o + 1) _ _ h1 (by simp; omega)
    show ((w.setCell ⟨b, o, none⟩ v).setCells b (o + 1) r).heap[b]? = _
    rw [h2]
    congr 3
    have e : cur.set o v = (cur.take o ++ [v]) ++ cur.drop (o + 1) := by
      rw [List.set_eq_take_append_cons_drop, if_pos (by omega)]; simp
    have hlen : (cur.take o ++ [v]).length = o + 1 := by simp; omega
    rw [e, List.take_left' hlen, ← List.drop_drop, List.drop_left' hlen, List.drop_drop]
    simp only [List.append_assoc, List.length_cons, List.cons_append, List.nil_append]
    congr 3
    congr 1
    omega
theorem turn_setCells {b : Nat} : ∀ (vs : List Value) (o : Nat) (w : World), Turn (fun j => j = b) w (w.setCells b o vs)
  | [], _, w => Turn.refl _ w
  | v :: r, o, w => (Turn.setCell (T := fun j => j = b) (p := ⟨b, o, none⟩) _ _ rfl).trans (turn_setCells r (o + 1) _)

theorem own_split {w : World} {B e n : Nat} {v : Value} {xs : List Value} (h : w.ownsRow B e 1 v n xs) :
    xs.length = n ∧ ((v = .slice none 0 0 ∧ n = 0) ∨ ∃ g zs cap, v = .slice (some ⟨g, 0, none⟩) n cap ∧ B ≤ g ∧ w.heap[g]? = some (.cells (xs ++ zs).toArray e (0, 0)) ∧ n + zs.length = cap ∧ cap ≤ maxLen) := by
  have hl : xs.length = n := by have := h.1; omega
  refine ⟨hl, ?_⟩
  rcases h.2 with h0 | ⟨g, cap, cur, rfl, hb, hh, hnc, hcm, hs, ht⟩
  · exact .inl h0
  · refine .inr ⟨g, cur.toList.drop n, cap, rfl, hb, ?_, ?_, hcm⟩
    · rw [Nat.mul_one] at ht
      rw [← ht, List.take_append_drop]
      exact hh
    · simp; omega
theorem own_mk {w : World} {B e g n cap : Nat} {ys zs : List Value} (h : w.heap[g]? = some (.cells (ys ++ zs).toArray e (0, 0))) (hb : B ≤ g) (hl : ys.length = n) (hc : n + zs.length = cap) (hm : cap ≤ maxLen) : w.ownsRow B e 1 (.slice (some ⟨g, 0, none⟩) n cap) n ys :=
  ⟨by omega, .inr ⟨g, cap, _, rfl, hb, h, by omega, hm, by simp; omega, by simp [← hl]⟩⟩

end Go.Proofs.YtcbfmokafmagpaaGreat.Stops

namespace Go.Proofs.YtcbfmokafmagpaaGreat.Stops
set_option linter.unusedSimpArgs false
set_option linter.unusedVariables false
open Go Go.RowKit Go.Shelf Mem Turn Gra Same GraLaw Mea

/-- block q holds the stops, whose row lies from B on -/
def StopsAt (w : World) (q B : Nat) (cs : List Int) : Prop :=
  q < B ∧ B ≤ w.heap.size ∧ ∃ v T, w.heap[q]? = some (.cells #[v] T (0, 0)) ∧ w.ownsRow B 3 1 v cs.length (cs.map (Value.int .i64))
theorem StopsAt.turn {w w' : World} {q B : Nat} {cs : List Int} {T : Nat → Prop} (h : StopsAt w q B cs) (ht : Turn T w w') (hT : ∀ j, T j → j ≠ q ∧ j < B) : StopsAt w' q B cs := by
  obtain ⟨h1, h2, v, ty, h3, h4⟩ := h
  exact ⟨h1, Nat.le_trans h2 ht.size, v, ty, ht.heap h3 (fun h => (hT q h).1 rfl), ht.kept h4 (fun g hg hj => by have := (hT g hj).2; have := (h4.lt g hg).1; omega)⟩
theorem StopsAt.below {w w' : World} {q B : Nat} {cs : List Int} (h : StopsAt w q B cs) (hb : Below w.heap.size w w') : StopsAt w' q B cs :=
  h.turn (Turn.of_new hb : Turn (fun _ => False) w w') (fun _ h => h.elim)

theorem may_any (x : Int) (w : World) :
    Calls Tryz.prog 39 #[.int .i64 x] w fun e w' => e = .returned (.bool (decide (1 ≤ x ∧ x ≤ 1023))) ∧ w = w' := by
  rcases (by omega : x < 1 ∨ (1 ≤ x ∧ x ≤ 1023) ∨ 1023 < x) with h | h | h
  · have d1 : decide (1 ≤ x) = false := by simp; omega
    have hd : decide (1 ≤ x ∧ x ≤ 1023) = false := by simp; omega
    rw [hd]
    clear hd
    go_enter Tryz.func39, Tryz.ntmps39
    go_wp2
    go_ret
    exact ⟨rfl, rfl⟩
  · have d1 : decide (1 ≤ x) = true := by simp; omega
    have d2 : decide (x < 1024) = true := by simp; omega
    have hd : decide (1 ≤ x ∧ x ≤ 1023) = true := by simp; omega
    rw [hd]
    clear hd
    go_enter Tryz.func39, Tryz.ntmps39
    go_wp2
    go_ret
    exact ⟨rfl, rfl⟩
  · have d1 : decide (1 ≤ x) = true := by simp; omega
    have d2 : decide (x < 1024) = false := by simp; omega
    have hd : decide (1 ≤ x ∧ x ≤ 1023) = false := by simp; omega
    rw [hd]
    clear hd
    go_enter Tryz.func39, Tryz.ntmps39
    go_wp2
    go_ret
    exact ⟨rfl, rfl⟩

/-- what Set leaves -/
def SetP (cs : List Int) (x : Int) (on : Bool) (cs' : List Int) : Prop :=
  Rise cs' ∧ ∀ y, y ∈ cs' ↔ if on then y ∈ cs ∨ (y = x ∧ 1 ≤ x ∧ x ≤ 1023) else y ∈ cs ∧ y ≠ x

theorem search_any (w : World) (B : Nat) (v : Value) (cs : List Int) (hr : Rise cs) (hown : w.ownsRow B 3 1 v cs.length (cs.map (Value.int .i64))) (x : Int) :
    Calls Tryz.prog 52 #[v, .int .i64 x] w fun e w' => e = .returned (.tuple #[.int .i64 (cs.countP (· < x) : Nat), .bool (cs.contains x)]) ∧ ∃ q, w' = w.drewN q := by
  obtain ⟨_, ⟨rfl, h0⟩ | ⟨g, zs, cap, rfl, _, hh, hc, hm⟩⟩ := own_split hown
  · have := List.eq_nil_of_length_eq_zero h0
    subst this
    refine (Any.slices_BinarySearch_int_empty LaysInts.laysSearch none 0 x w).mono ?_
    rintro e w' ⟨rfl, rfl⟩
    exact ⟨rfl, 0, rfl⟩
  · have hl := rise_len hr
    have hcs : ∀ j, j < cs.length → w.cell? ⟨g, 0 + j, none⟩ = some (.int .i64 (cs.getD j 0)) := fun j hj => by
      rw [Nat.zero_add]
      simp only [World.cell?, hh]
      rw [List.getElem?_toArray, List.getElem?_append_left (by simpa using hj), List.getElem?_map, List.getD_eq_getElem?_getD, List.getElem?_eq_getElem hj]
      rfl
    have hp : (cs.take cs.length).Pairwise (· ≤ ·) := by
      rw [List.take_length]
      exact hr.1.imp (fun h => Int.le_of_lt h)
    have := Any.slices_BinarySearch_int LaysInts.laysSearch g 0 cs.length cap cs x w (Nat.le_refl _) (by omega) hcs hp
    rw [List.take_length] at this
    exact this

theorem turn_ge {w w' : World} {B g : Nat} (h : Turn (fun j => j = g) w w') (hg : B ≤ g) : Turn (fun j => B ≤ j) w w' := h.mono fun j _ hj => by omega
theorem own_cells {w : World} {g : Nat} {L : List Value} {e : TypeId} (h : w.heap[g]? = some (.cells L.toArray e (0, 0))) (j : Nat) : w.cell? ⟨g, j, none⟩ = L[j]? ∧ w.frozen? ⟨g, j, none⟩ = false ∧ w.shape? g = some (e, L.length) := by
  refine ⟨?_, ?_, ?_⟩
  · simp [World.cell?, h]
  · simp [World.frozen?, h]
  · simp [World.shape?, h]
theorem map_in (cs : List Int) (i : Nat) (x : Int) : (cs.take i ++ [x] ++ cs.drop i).map (Value.int .i64) = (cs.map (Value.int .i64)).take i ++ [.int .i64 x] ++ (cs.map (Value.int .i64)).drop i := by simp [List.map_take, List.map_drop]

set_option maxHeartbeats 1000000 in
theorem insert_any (w : World) (B : Nat) (v : Value) (cs : List Int) (hn : cs.length ≤ 2000) (hown : w.ownsRow B 3 1 v cs.length (cs.map (Value.int .i64))) (x : Int) (i : Nat) (hi : i ≤ cs.length) (vb : Nat) (T : TypeId) (hvb : w.heap[vb]? = some (.cells #[.int .i64 x] T (0, 0))) (hne : v.ownBlock ≠ some vb) (hB : B ≤ w.heap.size) :
    Calls Tryz.prog 53 #[v, .int .i64 i, .slice (some ⟨vb, 0, none⟩) 1 1] w fun e w' => ∃ v', e = .returned v' ∧ w'.ownsRow B 3 1 v' (cs.length + 1) ((cs.take i ++ [x] ++ cs.drop i).map (Value.int .i64)) ∧ Turn (fun j => B ≤ j) w w' := by
  obtain ⟨hl, hcase⟩ := own_split hown
  have hv0 := own_cells (L := [.int .i64 x]) hvb 0
  have hvs : ∀ j u, [Value.int .i64 x][j]? = some u → w.cell? ⟨vb, 0 + j, none⟩ = some u := fun j u hj => by
    rw [Nat.zero_add, (own_cells (L := [.int .i64 x]) hvb j).1]; exact hj
  have h1v : ∀ u ∈ [Value.int .i64 x], u.oneCell' = true := fun u hu => by simp at hu; subst hu; rfl
  rw [map_in]
  have hxl : (cs.map (Value.int .i64)).length = cs.length := by simp
  have h1c : ∀ u ∈ cs.map (Value.int .i64), u.oneCell' = true := one_cells _ _
  generalize cs.map (Value.int .i64) = xs at *
  generalize cs.length = n at *
  have hgl : ∀ k c, grownCap w k c (3) ≥ k := fun k c => grownCap_ge w k c _
  rcases hcase with ⟨rfl, h0⟩ | ⟨g, zs, cap, rfl, hbg, hh, hcz, hcm⟩
  · subst h0
    have := List.eq_nil_of_length_eq_zero hl
    subst this
    obtain rfl : i = 0 := by omega
    refine (Any2.slices_Insert_int_end_grow LaysInts.laysInsert none 0 0 vb 0 1 1 [] [.int .i64 x] w (by omega) (by omega) (by omega) (by omega) rfl rfl (fun _ => rfl) (fun _ h => by cases h) hvs h1v).mono ?_
    rintro e w' ⟨rfl, rfl⟩
    have hge := grownCap_ge w (0 + 1) 0 (LaysInts.laysInsert_ren.t 3)
    have hmx := grownCap_le_maxLen w (0 + 1) 0 (LaysInts.laysInsert_ren.t 3) (by unfold maxLen; omega)
    obtain ⟨C, hC⟩ : ∃ C, grownCap w (0 + 1) 0 (LaysInts.laysInsert_ren.t 3) = C := ⟨_, rfl⟩
    rw [hC] at hge hmx ⊢
    obtain ⟨Z, hZ, hZl⟩ : ∃ Z : List Value, (Builtin.zeroCells (Value.int .i64 0).cells (C - (0 + 1))) = Z.toArray ∧ Z.length = C - (0 + 1) := ⟨_, (Array.toArray_toList).symm, by rw [Array.length_toList, size_zeroCells]; simp [Value.cells]⟩
    rw [hZ]
    refine ⟨_, rfl, own_mk (zs := Z) ((heap_alloc_new w.drew _).trans ?_) hB rfl (by omega) hmx, Turn.of_new ((Below.refl _ _).drew.alloc (Nat.le_refl _) _)⟩
    congr 2
    simp
  · have hgl0 : g < w.heap.size := (Array.getElem?_eq_some_iff.1 hh).1
    have hgv : vb ≠ g := fun e => hne (by subst e; rfl)
    by_cases hin : i = n
    · subst hin
      have ht : xs.take i = xs := List.take_of_length_le (by omega)
      have hd : xs.drop i = [] := List.drop_of_length_le (by omega)
      rw [ht, hd, List.append_nil]
      by_cases hroom : i + 1 ≤ cap
      · refine (Any2.slices_Insert_int_end_room LaysInts.laysInsert g 0 i cap vb 0 1 1 [.int .i64 x] w (by omega) hroom hcm rfl (fun j hj => ?_) (fun j _ => (own_cells hh _).2.1) hvs h1v).mono ?_
        · rw [(own_cells hh _).1, List.getElem?_eq_getElem (by rw [List.length_append]; omega)]; rfl
        rintro e w' ⟨rfl, rfl⟩
        have hs := heap_setCells [.int .i64 x] (0 + i) w _ hh (by rw [List.length_append]; simp; omega)
        rw [Nat.zero_add, List.take_left' hl] at hs
        exact ⟨_, rfl, own_mk (zs := (xs ++ zs).drop (i + 1)) (by rw [Nat.zero_add]; exact hs) hbg (by simp [hl]) (by rw [List.length_drop, List.length_append]; omega) hcm, turn_ge (turn_setCells _ _ _) hbg⟩
      · refine (Any2.slices_Insert_int_end_grow LaysInts.laysInsert (some ⟨g, 0, none⟩) i cap vb 0 1 1 xs [.int .i64 x] w (by omega) (by omega) (by omega) (by omega) hl rfl (fun h => by cases h) (fun a ha j u hj => ?_) hvs h1v).mono ?_
        · injection ha with ha
          subst ha
          rw [add_none, Nat.zero_add, (own_cells hh _).1, List.getElem?_append_left (List.getElem?_eq_some_iff.1 hj).1]
          exact hj
        rintro e w' ⟨rfl, rfl⟩
        have hge := grownCap_ge w (i + 1) cap (LaysInts.laysInsert_ren.t 3)
        have hmx := grownCap_le_maxLen w (i + 1) cap (LaysInts.laysInsert_ren.t 3) (by unfold maxLen; omega)
        obtain ⟨C, hC⟩ : ∃ C, grownCap w (i + 1) cap (LaysInts.laysInsert_ren.t 3) = C := ⟨_, rfl⟩
        rw [hC] at hge hmx ⊢
        obtain ⟨Z, hZ, hZl⟩ : ∃ Z : List Value, (Builtin.zeroCells (Value.int .i64 0).cells (C - (i + 1))) = Z.toArray ∧ Z.length = C - (i + 1) := ⟨_, (Array.toArray_toList).symm, by rw [Array.length_toList, size_zeroCells]; simp [Value.cells]⟩
        rw [hZ]
        refine ⟨_, rfl, own_mk (zs := Z) ((heap_alloc_new w.drew _).trans ?_) hB (by simp [hl]) (by omega) hmx, Turn.of_new ((Below.refl _ _).drew.alloc (Nat.le_refl _) _)⟩
        congr 2
        simp
    · have hlt : i < n := by omega
      have hxt : (xs.take i).length = i := by rw [List.length_take]; omega
      have hcs : ∀ j u, xs[j]? = some u → w.cell? ⟨g, 0 + j, none⟩ = some u := fun j u hj => by
        rw [Nat.zero_add, (own_cells hh _).1, List.getElem?_append_left (List.getElem?_eq_some_iff.1 hj).1]
        exact hj
      by_cases hroom : n + 1 ≤ cap
      · refine (Any2.slices_Insert_int_shift LaysInts.laysInsert g 0 n cap i vb 0 1 1 xs [.int .i64 x] w hlt (by omega) hroom hcm hgv hl rfl hcs (fun j hj => ?_) (fun j _ => (own_cells hh _).2.1) hvs h1c h1v T 3 1 cap hv0.2.2 ?_ (by omega) hv0.2.1 (own_cells (L := [.int .i64 x]) hvb 1).2.1).mono ?_
        · rw [(own_cells hh _).1, List.getElem?_eq_getElem (by rw [List.length_append]; omega)]; rfl
        · have := (own_cells hh 0).2.2
          rw [List.length_append, hl, hcz] at this
          exact this
        rintro e w' ⟨rfl, rfl⟩
        have hs := heap_setCells (xs.drop i) (0 + (i + 1)) w.drew _ hh (by rw [List.length_append, List.length_drop]; omega)
        have hs2 := heap_setCells [.int .i64 x] (0 + i) _ _ hs (by simp; omega)
        refine ⟨_, rfl, own_mk (zs := zs.drop 1) (hs2.trans ?_) hbg (by simp; omega) (by rw [List.length_drop]; omega) hcm, (Turn.drew (fun j => B ≤ j) w).trans ((turn_ge (turn_setCells _ _ _) hbg).trans (turn_ge (turn_setCells _ _ _) hbg))⟩
        congr 3
        have e1 : (xs ++ zs).take (0 + (i + 1)) = xs.take (i + 1) := by rw [Nat.zero_add, List.take_append_of_le_length (by omega)]
        have e2 : (xs ++ zs).drop (0 + (i + 1) + (xs.drop i).length) = zs.drop 1 := by
          rw [List.length_drop, show 0 + (i + 1) + (xs.length - i) = xs.length + 1 from by omega, ← List.drop_drop, List.drop_left]
        have e3 : (xs.take (i + 1)).length = i + 1 := by rw [List.length_take]; omega
        rw [e1, e2, Nat.zero_add]
        have e4 : ((xs.take (i + 1) ++ xs.drop i) ++ zs.drop 1).take i = xs.take i := by
          rw [List.append_assoc, List.take_append_of_le_length (by omega), List.take_take, Nat.min_eq_left (by omega)]
        have e5 : ((xs.take (i + 1) ++ xs.drop i) ++ zs.drop 1).drop (i + [Value.int .i64 x].length) = xs.drop i ++ zs.drop 1 := by
          rw [List.append_assoc]
          exact List.drop_left' (by simpa using e3)
        rw [e4, e5]
        simp
      · refine (Any2.slices_Insert_int_grow LaysInts.laysInsert g 0 n cap i vb 0 1 1 xs [.int .i64 x] w hlt (by omega) (by omega) (by omega) (by omega) hl rfl hcs hvs h1c h1v).mono ?_
        rintro e w' ⟨rfl, rfl⟩
        have hge := grownCap_ge w (n + 1) cap (LaysInts.laysInsert_ren.t 3)
        have hmx := grownCap_le_maxLen w (n + 1) cap (LaysInts.laysInsert_ren.t 3) (by unfold maxLen; omega)
        obtain ⟨C, hC⟩ : ∃ C, grownCap w (n + 1) cap (LaysInts.laysInsert_ren.t 3) = C := ⟨_, rfl⟩
        rw [hC] at hge hmx ⊢
        have hz : ∀ k, (Builtin.zeroCells (Value.int .i64 0).cells k).toList.length = k := fun k => by rw [Array.length_toList, size_zeroCells]; simp [Value.cells]
        obtain ⟨Z1, hZ1, hZ1l⟩ : ∃ Z1 : List Value, (Builtin.zeroCells (Value.int .i64 0).cells (n + 1 - i)) = Z1.toArray ∧ Z1.length = n + 1 - i := ⟨_, (Array.toArray_toList).symm, hz _⟩
        obtain ⟨Z2, hZ2, hZ2l⟩ : ∃ Z2 : List Value, (Builtin.zeroCells (Value.int .i64 0).cells (C - (n + 1))) = Z2.toArray ∧ Z2.length = C - (n + 1) := ⟨_, (Array.toArray_toList).symm, hz _⟩
        rw [hZ1, hZ2]
        have h0 : (w.alloc (.cells ((xs.take i).toArray ++ Z1.toArray ++ Z2.toArray) (LaysInts.laysInsert_ren.t 3))).drew.heap[w.heap.size]? = some (.cells (xs.take i ++ (Z1 ++ Z2)).toArray 3 (0, 0)) := by
          show (w.alloc _).heap[w.heap.size]? = _
          rw [heap_alloc_new]
          congr 2
          simp
        have hs := heap_setCells [.int .i64 x] i _ _ h0 (by simp; omega)
        have hs' : ((w.alloc (.cells ((xs.take i).toArray ++ Z1.toArray ++ Z2.toArray) (LaysInts.laysInsert_ren.t 3))).drew.setCells w.heap.size i [.int .i64 x]).drew.heap[w.heap.size]? = _ := hs
        have hs2 := heap_setCells (xs.drop i) (i + 1) _ _ hs' (by simp; omega)
        refine ⟨_, rfl, own_mk (zs := Z2) (hs2.trans ?_) hB (by simp; omega) (by omega) hmx, ?_⟩
        · congr 3
          rw [List.take_left' hxt]
          have e5 : (xs.take i ++ (Z1 ++ Z2)).drop (i + [Value.int .i64 x].length) = (Z1 ++ Z2).drop 1 := by
            rw [← List.drop_drop, List.drop_left' hxt]; rfl
          rw [e5]
          have e6 : (xs.take i ++ [Value.int .i64 x]).length = i + 1 := by simp; omega
          rw [List.take_left' e6, ← List.drop_drop, List.drop_left' e6, List.drop_drop]
          have e7 : (Z1 ++ Z2).drop (1 + (xs.drop i).length) = Z2 := by
            rw [List.length_drop, show 1 + (xs.length - i) = Z1.length from by omega, List.drop_left]
          rw [e7]
        · exact (Turn.of_new ((Below.refl _ _).alloc (Nat.le_refl _) _) : Turn (fun j => B ≤ j) w _).trans ((Turn.drew _ _).trans ((turn_ge (turn_setCells _ _ _) hB).trans ((Turn.drew _ _).trans (turn_ge (turn_setCells _ _ _) hB))))

set_option maxHeartbeats 1000000 in
theorem delete_any (w : World) (B : Nat) (v : Value) (cs : List Int) (hn : cs.length ≤ 2000) (hown : w.ownsRow B 3 1 v cs.length (cs.map (Value.int .i64))) (i : Nat) (hi : i < cs.length) :
    Calls Tryz.prog 54 #[v, .int .i64 i, .int .i64 ((i : Int) + 1)] w fun e w' => ∃ v', e = .returned v' ∧ w'.ownsRow B 3 1 v' (cs.length - 1) ((cs.take i ++ cs.drop (i + 1)).map (Value.int .i64)) ∧ Turn (fun j => B ≤ j) w w' := by
  obtain ⟨hl, hcase⟩ := own_split hown
  rcases hcase with ⟨_, h0⟩ | ⟨g, zs, cap, rfl, hbg, hh, hcz, hcm⟩
  · omega
  · have hcs : ∀ j, j < cs.length → w.cell? ⟨g, 0 + j, none⟩ = some (.int .i64 (cs.getD j 0)) := fun j hj => by
      rw [Nat.zero_add, (own_cells hh _).1, List.getElem?_append_left (by simpa using hj), List.getElem?_map, List.getD_eq_getElem?_getD, List.getElem?_eq_getElem hj]
      rfl
    have e1 : (i : Int) + 1 = ((i + 1 : Nat) : Int) := by omega
    rw [e1]
    refine (Any.slices_Delete_int_cells LaysInts.laysDelete g 0 cs.length cap i (i + 1) cs w (Nat.le_refl _) (by omega) hcm (by omega) (by omega) hcs (fun j _ => (own_cells hh _).2.1)).mono ?_
    rintro e w' ⟨rfl, q, rfl⟩
    rw [List.take_length, show i + 1 - i = 1 from by omega]
    have hs := heap_setCells ((cs.take i ++ cs.drop (i + 1) ++ List.replicate 1 0).map (Value.int .i64)) 0 (w.drewN q) _ hh (by simp; omega)
    refine ⟨_, rfl, own_mk (zs := [.int .i64 0] ++ zs) (hs.trans ?_) hbg (by simp; omega) (by simp; omega) hcm, (Turn.drewN _ w q).trans (turn_ge (turn_setCells _ _ _) hbg)⟩
    congr 3
    have e2 : (cs.map (Value.int .i64) ++ zs).drop (0 + ((cs.take i ++ cs.drop (i + 1) ++ List.replicate 1 0).map (Value.int .i64)).length) = zs := by
      have e3 : 0 + ((cs.take i ++ cs.drop (i + 1) ++ List.replicate 1 (0 : Int)).map (Value.int .i64)).length = (cs.map (Value.int .i64)).length := by simp; omega
      rw [e3, List.drop_left]
    rw [e2]
    simp

theorem stops_store {w : World} {q B : Nat} {v : Value} {T : TypeId} (hq : w.heap[q]? = some (.cells #[v] T (0, 0))) (hqB : q < B) (hB : B ≤ w.heap.size) {v' : Value} {cs : List Int} (hown : w.ownsRow B 3 1 v' cs.length (cs.map (Value.int .i64))) : StopsAt (w.setCell ⟨q, 0, none⟩ v') q B cs := by
  refine ⟨hqB, by simpa [World.setCell] using hB, v', T, ?_, ?_⟩
  · rw [Seg.heap_setCell hq]; simp
  · exact (Turn.setCell (T := fun j => j = q) (p := ⟨q, 0, none⟩) _ _ rfl).kept hown (fun g hg e => by have := (hown.lt g hg).1; omega)

set_option maxRecDepth 100000 in
set_option maxHeartbeats 4000000 in
theorem set_any (q B : Nat) (cs : List Int) (hr : Rise cs) (w : World) (h : StopsAt w q B cs) (x : Int) (on : Bool) :
    Calls Tryz.prog 41 #[.pointer (some ⟨q, 0, none⟩), .int .i64 x, .bool on] w fun e w' => e = .returned (.tuple #[]) ∧ ∃ cs', SetP cs x on cs' ∧ StopsAt w' q B cs' ∧ Turn (fun j => j = q ∨ B ≤ j) w w' := by
  have hn := rise_len hr
  have HR := Lib.hid hr
  have H0 := Lib.hid h
  obtain ⟨hqB, hB, v, T, hq, hown⟩ := h
  obtain ⟨av, cv, rfl⟩ := own_slice hown
  have HQ := Lib.hid hq
  have HO := Lib.hid hown
  have HM := Lib.hid (may_any x w)
  clear hr hq hown
  by_cases hmay : 1 ≤ x ∧ x ≤ 1023
  · have hd : decide (1 ≤ x ∧ x ≤ 1023) = true := by simp; omega
    rw [hd] at HM
    have HSE := Lib.hid (search_any w B _ cs HR.out HO.out x)
    have HIN := Lib.hid (rise_in (cs := cs) HR.out hmay)
    have HOUT := Lib.hid (rise_out (cs := cs) (x := x) HR.out)
    have hil := count_le cs x
    have c0 := (own_cells HQ.out 0).1
    generalize cs.countP (· < x) = i at *
    clear hd
    generalize hnn : cs.length = n at *
    have HNN := Lib.hid hnn
    clear hnn
    go_enter Tryz.func41, Tryz.ntmps41
    go_wp2_with fail
    refine HM.out.mono ?_
    rintro e w1 ⟨rfl, rfl⟩
    go_wp2_with fail
    refine HSE.out.mono ?_
    rintro e w1 ⟨rfl, qq, rfl⟩
    have TW : Hid (Turn (fun j => j = q ∨ B ≤ j) w (w.drewN qq)) := Lib.hid (Turn.drewN _ w qq)
    have HQ1 : Hid ((w.drewN qq).heap[q]? = some (.cells #[.slice av n cv] T (0, 0))) := Lib.hid HQ.out
    have HO1 : Hid ((w.drewN qq).ownsRow B 3 1 (.slice av n cv) n (cs.map (Value.int .i64))) := Lib.hid ((Turn.drewN (fun _ => False) w qq).kept HO.out (fun _ _ h => h))
    have hB1 : B ≤ (w.drewN qq).heap.size := hB
    generalize w.drewN qq = w1 at *
    have c1 := (own_cells HQ1.out 0).1
    have hS1 : Hid (StopsAt w1 q B cs) := Lib.hid ⟨hqB, hB1, _, T, HQ1.out, by rw [HNN.out]; exact HO1.out⟩
    clear HQ HO c0 hB
    cases hcon : cs.contains x
    · have hni : x ∉ cs := by simpa using hcon
      have HIN := Lib.hid (HIN.out hni)
      have HNI := Lib.hid hni
      clear hni hcon HOUT
      cases on
      · go_wp2
        go_end0
        refine ⟨rfl, cs, ⟨HR.out, fun y => ?_⟩, hS1.out, TW.out⟩
        simp only [Bool.false_eq_true, if_false]
        exact ⟨fun hy => ⟨hy, fun e => HNI.out (e ▸ hy)⟩, fun hy => hy.1⟩
      · go_wp2_with fail
        have hnew : (w1.alloc (.cells #[.int .i64 x] 3)).heap[w1.heap.size]? = some (.cells #[.int .i64 x] 3 (0, 0)) := heap_alloc_new w1 _
        have hb2 : Below w1.heap.size w1 (w1.alloc (.cells #[.int .i64 x] 3)) := (Below.refl _ _).alloc (Nat.le_refl _) _
        have HO2 : Hid ((w1.alloc (.cells #[.int .i64 x] 3)).ownsRow B 3 1 (.slice av n cv) cs.length (cs.map (Value.int .i64))) := by rw [HNN.out]; exact Lib.hid (HO1.out.alloc _)
        have HQ2 : Hid ((w1.alloc (.cells #[.int .i64 x] 3)).heap[q]? = some (.cells #[.slice av n cv] T (0, 0))) := Lib.hid ((hb2.block q (by omega)).trans HQ1.out)
        have hne : (Value.slice av n cv).ownBlock ≠ some w1.heap.size := fun e => by have := (HO1.out.lt _ e).2; omega
        have hB2 : B ≤ (w1.alloc (.cells #[.int .i64 x] 3)).heap.size := Nat.le_trans hB1 hb2.size
        have TW2 : Hid (Turn (fun j => j = q ∨ B ≤ j) w (w1.alloc (.cells #[.int .i64 x] 3))) := Lib.hid (TW.out.trans (Turn.of_new hb2))
        have HINS := Lib.hid (insert_any _ B _ cs (by rw [HNN.out]; omega) HO2.out x i (by rw [HNN.out]; exact hil) w1.heap.size _ hnew hne hB2)
        clear hnew hb2
        generalize (w1.alloc (.cells #[.int .i64 x] 3)) = w2 at *
        refine HINS.out.mono ?_
        rintro e w3 ⟨v', rfl, hown3, ht3⟩
        obtain ⟨a3, c3, rfl⟩ := own_slice hown3
        have HQ3 := ht3.heap HQ2.out (show ¬ B ≤ q by omega)
        have c3' := (own_cells HQ3 0).1
        have f3 := (own_cells HQ3 0).2.1
        have HS3 : Hid (StopsAt (w3.setCell ⟨q, 0, none⟩ (.slice a3 (cs.length + 1) c3)) q B (cs.take i ++ [x] ++ cs.drop i)) := Lib.hid (stops_store HQ3 hqB (Nat.le_trans hB2 ht3.size) (by
          have e : (cs.take i ++ [x] ++ cs.drop i).length = cs.length + 1 := by simp; have := HNN.out; omega
          rw [e]; exact hown3))
        have TW3 : Hid (Turn (fun j => j = q ∨ B ≤ j) w (w3.setCell ⟨q, 0, none⟩ (.slice a3 (cs.length + 1) c3))) := Lib.hid ((TW2.out.trans (ht3.mono fun _ _ h => .inr h)).trans (Turn.setCell _ _ (.inl rfl)))
        clear HINS hown3 ht3 HQ3
        go_wp2
        go_end0
        refine ⟨rfl, _, ⟨HIN.out.1, fun y => ?_⟩, HS3.out, TW3.out⟩
        rw [HIN.out.2 y]
        simp [hmay]
    · have hin : x ∈ cs := by simpa using hcon
      have HOUT := Lib.hid (HOUT.out hin)
      have HI := Lib.hid hin
      clear hin hcon HIN
      cases on
      · have hilt : i < n := HOUT.out.1
        have x1 : IntKind.i64.wrap ((i : Int) + 1) = (i : Int) + 1 := IntWalk.i64_in _ (by omega)
        have HDEL := Lib.hid (delete_any w1 B (.slice av n cv) cs (by rw [HNN.out]; omega) (by rw [HNN.out]; exact HO1.out) i (by rw [HNN.out]; exact HOUT.out.1))
        go_wp2_with fail
        refine HDEL.out.mono ?_
        rintro e w3 ⟨v', rfl, hown3, ht3⟩
        obtain ⟨a3, c3, rfl⟩ := own_slice hown3
        have HQ3 := ht3.heap HQ1.out (show ¬ B ≤ q by omega)
        have c3' := (own_cells HQ3 0).1
        have f3 := (own_cells HQ3 0).2.1
        have HS3 : Hid (StopsAt (w3.setCell ⟨q, 0, none⟩ (.slice a3 (cs.length - 1) c3)) q B (cs.take i ++ cs.drop (i + 1))) := Lib.hid (stops_store HQ3 hqB (Nat.le_trans hB1 ht3.size) (by
          have e : (cs.take i ++ cs.drop (i + 1)).length = cs.length - 1 := by simp; have := HNN.out; omega
          rw [e]; exact hown3))
        have TW3 : Hid (Turn (fun j => j = q ∨ B ≤ j) w (w3.setCell ⟨q, 0, none⟩ (.slice a3 (cs.length - 1) c3))) := Lib.hid ((TW.out.trans (ht3.mono fun _ _ h => .inr h)).trans (Turn.setCell _ _ (.inl rfl)))
        clear HDEL hown3 ht3 HQ3
        generalize cs.length - 1 = n3 at *
        go_wp2
        go_end0
        refine ⟨rfl, _, ⟨HOUT.out.2.1, fun y => ?_⟩, HS3.out, TW3.out⟩
        rw [HOUT.out.2.2 y]
        simp
      · go_wp2
        go_end0
        refine ⟨rfl, cs, ⟨HR.out, fun y => ?_⟩, hS1.out, TW.out⟩
        simp only [if_true]
        exact ⟨fun hy => .inl hy, fun hy => hy.elim id fun e => e.1 ▸ HI.out⟩
  · have hd : decide (1 ≤ x ∧ x ≤ 1023) = false := by simp; omega
    rw [hd] at HM
    clear hd
    have TW : Hid (Turn (fun j => j = q ∨ B ≤ j) w w) := Lib.hid (Turn.refl _ _)
    go_enter Tryz.func41, Tryz.ntmps41
    go_wp2_with fail
    refine HM.out.mono ?_
    rintro e w1 ⟨rfl, rfl⟩
    go_wp2
    refine bodyPost_ret (results_none rfl _ _ _) rfl ?_
    refine ⟨rfl, cs, ⟨HR.out, fun y => ?_⟩, H0.out, TW.out⟩
    cases on
    · simp only [Bool.false_eq_true, if_false]
      exact ⟨fun hy => ⟨hy, fun e => hmay (e ▸ HR.out.2 y hy)⟩, fun hy => hy.1⟩
    · simp only [if_true]
      exact ⟨fun hy => .inl hy, fun hy => hy.elim id fun e => absurd e.2 hmay⟩

end Go.Proofs.YtcbfmokafmagpaaGreat.Stops

namespace Go.Proofs.YtcbfmokafmagpaaGreat.Stops
set_option linter.unusedSimpArgs false
set_option linter.unusedVariables false
open Go Go.RowKit Go.Shelf Mem Turn Gra Same GraLaw Mea

/-- the next one -/
def NextQ (M : Int → Prop) (c r : Int) : Prop := (M r ∧ c < r ∧ ∀ y, M y → c < y → r ≤ y) ∨ (r = 1023 ∧ ∀ y, M y → ¬ c < y)
def PrevQ (M : Int → Prop) (c r : Int) : Prop := (M r ∧ r < c ∧ ∀ y, M y → y < c → y ≤ r) ∨ (r = 0 ∧ ∀ y, M y → ¬ y < c)
theorem nextQ_one {M : Int → Prop} {c r s : Int} (h : NextQ M c r) (h' : NextQ M c s) : r = s := by
  rcases h with ⟨h1, h2, h3⟩ | ⟨h1, h2⟩ <;> rcases h' with ⟨g1, g2, g3⟩ | ⟨g1, g2⟩
  · have := h3 s g1 g2; have := g3 r h1 h2; omega
  · exact absurd h2 (g2 r h1)
  · exact absurd g2 (h2 s g1)
  · omega
theorem prevQ_one {M : Int → Prop} {c r s : Int} (h : PrevQ M c r) (h' : PrevQ M c s) : r = s := by
  rcases h with ⟨h1, h2, h3⟩ | ⟨h1, h2⟩ <;> rcases h' with ⟨g1, g2, g3⟩ | ⟨g1, g2⟩
  · have := h3 s g1 g2; have := g3 r h1 h2; omega
  · exact absurd h2 (g2 r h1)
  · exact absurd g2 (h2 s g1)
  · omega

theorem stops_row {w : World} {q B : Nat} {cs : List Int} (h : StopsAt w q B cs) : ∃ a c, w.cell? ⟨q, 0, none⟩ = some (.slice a cs.length c) ∧ Ints .i64 w a cs.length cs := by
  obtain ⟨_, _, v, T, hq, hown⟩ := h
  obtain ⟨a, c, rfl⟩ := own_slice hown
  exact ⟨a, c, (own_cells hq 0).1, ints_of_own hown⟩
theorem ints_at {k : IntKind} {w : World} {a : Option Addr} {n : Nat} {xs : List Int} (h : Ints k w a n xs) {i : Nat} (hi : i < n) : ∃ x b off, xs[i]? = some x ∧ a = some ⟨b, off, none⟩ ∧ b < w.heap.size ∧ w.cell? ⟨b, off + i, none⟩ = some (.int k x) := by
  obtain ⟨hl, h0 | ⟨b, off, rfl, hb, hc⟩⟩ := h
  · omega
  · obtain ⟨x, hx⟩ : ∃ x, xs[i]? = some x := ⟨_, List.getElem?_eq_getElem (by omega)⟩
    exact ⟨x, b, off, hx, rfl, hb, hc i x hx⟩

set_option maxHeartbeats 1000000 in
theorem next_any (q B : Nat) (cs : List Int) (hr : Rise cs) (w : World) (h : StopsAt w q B cs) (x : Int) :
    Calls Tryz.prog 37 #[.pointer (some ⟨q, 0, none⟩), .int .i64 x] w fun e w' => (∃ r, e = .returned (.int .i64 r) ∧ NextQ (· ∈ cs) x r) ∧ w = w' := by
  obtain ⟨a, c, c0, hi⟩ := stops_row h
  have hn := rise_len hr
  have HR := Lib.hid hr
  have HI := Lib.hid hi
  clear h hi hr
  generalize hnn : cs.length = n at *
  have HL := Lib.hid hnn
  clear hnn
  go_enter Tryz.func37, Tryz.ntmps37
  go_wp2
  go_loopw [14] (fun i wr => ∃ k : Nat, k ≤ n ∧ i = .int .i64 k ∧ Hid (∀ y ∈ cs.take k, ¬ x < y) ∧ w = wr) (fun i _ => n - (intOf i).toNat)
  case atStart => exact ⟨0, Nat.zero_le _, rfl, (fun y hy => by simp at hy : Hid _), rfl⟩
  case round =>
    obtain ⟨k, hk, rfl, H, rfl⟩ := hrel
    by_cases hlt : k < n
    · have hlt1 : (k : Int) < n := by omega
      obtain ⟨y, b, off, hy, rfl, hb, hcell⟩ := ints_at HI.out hlt
      have HY := Lib.hid hy
      clear hy
      by_cases hxy : x < y
      · have HP : Hid (NextQ (· ∈ cs) x y) := Lib.hid (by
          refine .inl ⟨List.mem_of_getElem? HY.out, hxy, fun z hz hxz => ?_⟩
          obtain ⟨j, hj, hje⟩ := List.mem_iff_getElem.1 hz
          rcases Nat.lt_trichotomy j k with h1 | h1 | h1
          · exact absurd hxz (H.out z (by rw [← hje]; exact List.mem_take_iff_getElem.2 ⟨j, by omega, rfl⟩))
          · subst h1
            have := HY.out
            rw [List.getElem?_eq_getElem hj] at this
            injection this with this
            omega
          · have h2 := List.pairwise_iff_getElem.1 HR.out.1 k j (by omega) hj h1
            have := HY.out
            rw [List.getElem?_eq_getElem (by omega)] at this
            injection this with this
            omega)
        go_wp2
        go_ret
        exact ⟨⟨y, rfl, HP.out⟩, rfl⟩
      · have hxy1 : y ≤ x := by omega
        have HN : Hid (∀ y ∈ cs.take (k + 1), ¬ x < y) := Lib.hid fun z hz => by
          rw [List.take_add_one, HY.out] at hz
          rcases List.mem_append.1 hz with hz | hz
          · exact H.out z hz
          · simp at hz; omega
        clear hxy
        go_wp2
        go_roundw
        case rel => exact ⟨k + 1, by omega, by go_num, HN, trivial⟩
        case measure => simp [intOf]; omega
    · obtain rfl : k = n := by omega
      have HP : Hid (NextQ (· ∈ cs) x 1023) := Lib.hid (.inr ⟨rfl, fun y hy => H.out y (by rw [List.take_of_length_le (by rw [HL.out]; exact Nat.le_refl _)]; exact hy)⟩)
      go_wp2
      go_ret
      exact ⟨⟨1023, rfl, HP.out⟩, rfl⟩
theorem next_nil (x : Int) (w : World) :
    Calls Tryz.prog 37 #[.pointer none, .int .i64 x] w fun e w' => e = .returned (.int .i64 1023) ∧ w = w' := by
  go_enter Tryz.func37, Tryz.ntmps37
  go_wp2
  go_ret
  exact ⟨rfl, rfl⟩

set_option maxHeartbeats 1000000 in
theorem prev_any (q B : Nat) (cs : List Int) (hr : Rise cs) (w : World) (h : StopsAt w q B cs) (x : Int) :
    Calls Tryz.prog 38 #[.pointer (some ⟨q, 0, none⟩), .int .i64 x] w fun e w' => (∃ r, e = .returned (.int .i64 r) ∧ PrevQ (· ∈ cs) x r) ∧ w = w' := by
  obtain ⟨a, c, c0, hi⟩ := stops_row h
  have hn := rise_len hr
  have HR := Lib.hid hr
  have HI := Lib.hid hi
  clear h hi hr
  generalize hnn : cs.length = n at *
  have HL := Lib.hid hnn
  clear hnn
  go_enter Tryz.func38, Tryz.ntmps38
  go_wp2
  go_loopw [5, 15] (fun o i wr => ∃ (k : Nat) (r : Int), k ≤ n ∧ i = .int .i64 k ∧ o = .int .i64 r ∧ Hid (PrevQ (· ∈ cs.take k) x r) ∧ w = wr) (fun _ i _ => n - (intOf i).toNat)
  case atStart => exact ⟨0, 0, Nat.zero_le _, rfl, rfl, (.inr ⟨rfl, fun y hy => by simp at hy⟩ : Hid _), rfl⟩
  case round =>
    obtain ⟨k, r, hk, rfl, rfl, H, rfl⟩ := hrel
    by_cases hlt : k < n
    · have hlt1 : (k : Int) < n := by omega
      obtain ⟨y, b, off, hy, rfl, hb, hcell⟩ := ints_at HI.out hlt
      have HY := Lib.hid hy
      have HM : Hid (∀ z, z ∈ cs.take (k + 1) ↔ z ∈ cs.take k ∨ z = y) := Lib.hid fun z => by rw [List.take_add_one, hy]; simp
      have HG : Hid (∀ z ∈ cs.take k, z < y) := Lib.hid fun z hz => by
        obtain ⟨j, hj, hje⟩ := List.mem_take_iff_getElem.1 hz
        have h2 := List.pairwise_iff_getElem.1 HR.out.1 j k (by omega) (by rw [HL.out]; exact hlt) (by omega)
        rw [List.getElem?_eq_getElem (by rw [HL.out]; exact hlt)] at hy
        injection hy with hy
        omega
      clear hy
      by_cases hxy : y < x
      · have HP : Hid (PrevQ (· ∈ cs.take (k + 1)) x y) := Lib.hid (.inl ⟨(HM.out y).2 (.inr rfl), hxy, fun z hz hzx => by
          rcases (HM.out z).1 hz with h1 | h1
          · have := HG.out z h1; omega
          · omega⟩)
        go_wp2
        go_roundw
        case rel => exact ⟨k + 1, y, by omega, by go_num, rfl, HP, trivial⟩
        case measure => simp [intOf]; omega
      · have hxy1 : x ≤ y := by omega
        have HP : Hid (PrevQ (· ∈ cs.take (k + 1)) x r) := Lib.hid (by
          rcases H.out with ⟨h1, h2, h3⟩ | ⟨h1, h2⟩
          · exact .inl ⟨(HM.out r).2 (.inl h1), h2, fun z hz hzx => by
              rcases (HM.out z).1 hz with h4 | h4
              · exact h3 z h4 hzx
              · omega⟩
          · exact .inr ⟨h1, fun z hz => by
              rcases (HM.out z).1 hz with h4 | h4
              · exact h2 z h4
              · omega⟩)
        clear hxy
        go_wp2
        go_roundw
        case rel => exact ⟨k + 1, r, by omega, by go_num, rfl, HP, trivial⟩
        case measure => simp [intOf]; omega
    · obtain rfl : k = n := by omega
      have HP : Hid (PrevQ (· ∈ cs) x r) := by
        have := H.out
        rw [List.take_of_length_le (by rw [HL.out]; exact Nat.le_refl _)] at this
        exact Lib.hid this
      go_wp2
      go_ret
      exact ⟨⟨r, rfl, HP.out⟩, rfl⟩
theorem prev_nil (x : Int) (w : World) :
    Calls Tryz.prog 38 #[.pointer none, .int .i64 x] w fun e w' => e = .returned (.int .i64 0) ∧ w = w' := by
  go_enter Tryz.func38, Tryz.ntmps38
  go_wp2
  go_ret
  exact ⟨rfl, rfl⟩
theorem set_nil (x : Int) (on : Bool) (w : World) :
    Calls Tryz.prog 41 #[.pointer none, .int .i64 x, .bool on] w fun e w' => e = .returned (.tuple #[]) ∧ w = w' := by
  go_enter Tryz.func41, Tryz.ntmps41
  go_wp2
  refine bodyPost_ret (results_none rfl _ _ _) rfl ?_
  exact ⟨rfl, rfl⟩
theorem all_nil (w : World) :
    Calls Tryz.prog 22 #[.pointer none] w fun e w' => e = .returned (.slice none 0 0) ∧ w = w' := by
  go_enter Tryz.func22, Tryz.ntmps22
  go_wp2
  go_ret
  exact ⟨rfl, rfl⟩

set_option maxHeartbeats 1000000 in
set_option maxRecDepth 100000 in
theorem clone_ints (a : Option Addr) (n c : Nat) (xs : List Int) (w : World) (h : Ints .i64 w a n xs) (hn : n ≤ 100000) :
    Calls Tryz.prog 40 #[.slice a n c] w fun e w' => Fresh w w' 3 1 n (xs.map (Value.int .i64)) e := by
  obtain ⟨i0, hi, hz0, hz1, hz2⟩ := info_parts info_int
  have q22 : ∀ (w : World) (a : Option Addr) (n c n' c' : Nat), (binOp .eql 33 (.slice a n c) (.slice none n' c')).run Tryz.prog w = .ok (.bool a.isNone) w := fun w a n c n' c' => Lib.run_eql_slice_nil w _ _ a n c n' c' Tryz.underlying33
  have hs := Just.src_ints h
  have hl := h.1
  rcases a with _ | ad
  · obtain ⟨_, h0, h1⟩ | ⟨_, h0, _⟩ := hs
    · subst h0
      rw [h1]
      clear h h1 hl
      go_enter Tryz.func40, Tryz.ntmps40
      go_wp2
      go_ret
      exact ⟨_, rfl, World.ownsRow_nil _ _ _ _, Below.refl _ _⟩
    · cases h0
  · have HS := Lib.hid (hs.keep ((Below.refl _ _).alloc (Nat.le_refl _) (.cells #[] 3)))
    have H3 : Hid ((w.alloc (.cells #[] 3)).ownsRow w.heap.size 3 1 (.slice (some ⟨w.heap.size, 0, none⟩) 0 0) 0 []) := World.ownsRow_made w #[] 0 (Nat.le_refl _) (by unfold maxLen; omega) rfl
    clear h hs hl
    go_enter Tryz.func40, Tryz.ntmps40
    go_wp2_with (at_builtin; (refine wpList_append_src _ rfl _ _ 33 rfl w.heap.size 3 i0 _ 1 8 Tryz.underlying33 hi hz0 hz1 hz2 rfl (by decide) _ 0 _ rfl H3.out (some ad) n c (xs.map (Value.int .i64)) rfl HS.out (one_cells _ _) (by unfold maxLen; omega) (by omega) (by simp) ?_; intro v' w3 hown' hgrow))
    go_ret
    refine ⟨v', rfl, ?_, ((Below.refl _ _).alloc (Nat.le_refl _) _).grown hgrow (by simp) (fun k e => by injection (show some w.heap.size = some k from e) with e; omega)⟩
    rw [Nat.zero_add, List.nil_append] at hown'
    exact hown'

theorem all_any (q B : Nat) (cs : List Int) (hr : Rise cs) (w : World) (h : StopsAt w q B cs) :
    Calls Tryz.prog 22 #[.pointer (some ⟨q, 0, none⟩)] w fun e w' => Fresh w w' 3 1 cs.length (cs.map (Value.int .i64)) e := by
  obtain ⟨a, c, c0, hi⟩ := stops_row h
  have hn := rise_len hr
  have HC := Lib.hid (clone_ints a cs.length c cs w hi (by omega))
  clear h hi hr
  go_enter Tryz.func22, Tryz.ntmps22
  go_wp2_with fail
  refine HC.out.mono ?_
  rintro e w1 ⟨v, rfl, ho, hb⟩
  have HF := Lib.hid (And.intro ho hb)
  clear ho hb HC
  go_wp2
  go_ret
  exact ⟨v, rfl, HF.out.1, HF.out.2⟩

end Go.Proofs.YtcbfmokafmagpaaGreat.Stops

namespace Go.Proofs.YtcbfmokafmagpaaGreat.Stops
set_option linter.unusedSimpArgs false
set_option linter.unusedVariables false
open Go Go.RowKit Go.Shelf Mem Turn Gra Same GraLaw Mea

theorem stops_new (w : World) (T : TypeId) : StopsAt (w.alloc (.cells #[.slice none 0 0] T)) w.heap.size (w.heap.size + 1) [] :=
  ⟨by omega, by simp, _, T, heap_alloc_new w _, World.ownsRow_nil _ _ _ _⟩

/-- stops that were given -/
def Given (xs : List Int) (y : Int) : Prop := y ∈ xs ∧ 1 ≤ y ∧ y ≤ 1023

set_option maxHeartbeats 2000000 in
theorem of_any (a : Option Addr) (n c : Nat) (xs : List Int) (w : World) (h : Ints .i64 w a n xs) (hn : n ≤ 100000) :
    Calls Tryz.prog 23 #[.slice a n c] w fun e w' => e = .returned (.pointer (some ⟨w.heap.size, 0, none⟩)) ∧ (∃ cs, Rise cs ∧ (∀ y, y ∈ cs ↔ Given xs y) ∧ StopsAt w' w.heap.size (w.heap.size + 1) cs) ∧ Below w.heap.size w w' := by
  have HI := Lib.hid h
  have HL := Lib.hid h.1
  have B0 : Below w.heap.size w (w.alloc (.cells #[.slice none 0 0] 60)) := (Below.refl _ _).alloc (Nat.le_refl _) _
  have S0 := stops_new w 60
  have HB0 := Lib.hid B0
  have HS0 := Lib.hid S0
  clear h B0 S0
  go_enter Tryz.func23, Tryz.ntmps23
  go_wp2
  generalize (w.alloc (.cells #[.slice none 0 0] 60)) = w0 at *
  go_loopw [10] (fun i wr => ∃ k : Nat, k ≤ n ∧ i = .int .i64 k ∧ Hid ((∃ cs, Rise cs ∧ (∀ y, y ∈ cs ↔ Given (xs.take k) y) ∧ StopsAt wr w.heap.size (w.heap.size + 1) cs) ∧ Below w.heap.size w wr)) (fun i _ => n - (intOf i).toNat)
  case atStart => exact ⟨0, Nat.zero_le _, rfl, ⟨[], ⟨by simp, fun x hx => by simp at hx⟩, fun y => by simp [Given], HS0.out⟩, HB0.out⟩
  case round =>
    obtain ⟨k, hk, rfl, H⟩ := hrel
    by_cases hlt : k < n
    · have hlt1 : (k : Int) < n := by omega
      obtain ⟨x, b, off, hx, rfl, hb, hcell⟩ := ints_at HI.out hlt
      have hcell := (H.out.2.cell (p := ⟨b, off + k, none⟩) hb).trans hcell
      obtain ⟨⟨cs, hr, hm, hs⟩, hbw⟩ := H.out
      have HX := Lib.hid hx
      have HM := Lib.hid hm
      have HBW := Lib.hid hbw
      have HSE := Lib.hid (set_any w.heap.size (w.heap.size + 1) cs hr wr hs x true)
      clear hx hm hs hbw hr H
      go_wp2_with fail
      refine HSE.out.mono ?_
      rintro e w1 ⟨rfl, cs', hP, hs1, ht⟩
      have R : Hid ((∃ cs, Rise cs ∧ (∀ y, y ∈ cs ↔ Given (xs.take (k + 1)) y) ∧ StopsAt w1 w.heap.size (w.heap.size + 1) cs) ∧ Below w.heap.size w w1) := by
        refine Lib.hid ⟨⟨cs', hP.1, fun y => ?_, hs1⟩, HBW.out.trans (ht.below HBW.out.size (fun j hj => by omega))⟩
        rw [hP.2 y, List.take_add_one, HX.out]
        simp only [if_true]
        rw [HM.out y]
        unfold Given
        simp only [Option.toList_some, List.mem_append, List.mem_singleton]
        constructor
        · rintro (⟨h1, h2⟩ | ⟨h1, h2⟩)
          · exact ⟨.inl h1, h2⟩
          · exact ⟨.inr h1, h1 ▸ h2⟩
        · rintro ⟨h1 | h1, h2⟩
          · exact .inl ⟨h1, h2⟩
          · exact .inr ⟨h1, h1 ▸ h2⟩
      clear hP hs1 ht HSE
      go_wp2
      go_roundw
      case rel => exact ⟨k + 1, by omega, by go_num, R⟩
      case measure => simp [intOf]; omega
    · obtain rfl : k = n := by omega
      have HE : Hid (∃ cs, Rise cs ∧ (∀ y, y ∈ cs ↔ Given xs y) ∧ StopsAt wr w.heap.size (w.heap.size + 1) cs) := by
        have := H.out.1
        rw [List.take_of_length_le (by rw [HL.out]; exact Nat.le_refl _)] at this
        exact Lib.hid this
      have HB := Lib.hid H.out.2
      clear H
      go_wp2
      go_ret
      exact ⟨rfl, HE.out, HB.out⟩

/-- a stop at each N columns, k of them -/
def ev (N k : Nat) : List Int := (List.range k).map fun i => (((i + 1) * N : Nat) : Int)
theorem ev_next (N k : Nat) : ev N (k + 1) = ev N k ++ [(((k + 1) * N : Nat) : Int)] := by unfold ev; rw [List.range_succ]; simp
theorem ev_len (N k : Nat) : (ev N k).length = k := by simp [ev]
theorem ev_rise {N k : Nat} (hN : 1 ≤ N) (hk : k * N ≤ 1023) : Rise (ev N k) := by
  constructor
  · unfold ev
    rw [List.pairwise_map]
    refine List.pairwise_lt_range.imp fun {i j} hij => ?_
    have : (i + 1) * N < (j + 1) * N := Nat.mul_lt_mul_of_pos_right (by omega) (by omega)
    omega
  · intro x hx
    obtain ⟨i, hi, rfl⟩ := List.mem_map.1 hx
    have hi := List.mem_range.1 hi
    have h1 : (i + 1) * N ≤ k * N := Nat.mul_le_mul_right _ (by omega)
    have h2 : 1 * 1 ≤ (i + 1) * N := Nat.mul_le_mul (by omega) hN
    omega

set_option maxHeartbeats 2000000 in
theorem every_any (x : Int) (N : Nat) (hN : max 1 (min x 1024) = (N : Int)) (w : World) :
    Calls Tryz.prog 21 #[.int .i64 x] w fun e w' => e = .returned (.pointer (some ⟨w.heap.size, 0, none⟩)) ∧ (∃ K, K * N ≤ 1023 ∧ 1023 < (K + 1) * N ∧ StopsAt w' w.heap.size (w.heap.size + 1) (ev N K)) ∧ Below w.heap.size w w' := by
  obtain ⟨i0, hi, hz0, hz1, hz2⟩ := info_parts info_int
  have hN1 : 1 ≤ N ∧ N ≤ 1024 := by omega
  have B0 : Below w.heap.size w (w.alloc (.cells #[.slice none 0 0] 60)) := (Below.refl _ _).alloc (Nat.le_refl _) _
  have S0 := stops_new w 60
  have HB0 := Lib.hid B0
  have HS0 := Lib.hid S0
  clear B0 S0
  go_enter Tryz.func21, Tryz.ntmps21
  go_wp2
  generalize (w.alloc (.cells #[.slice none 0 0] 60)) = w0 at *
  go_loopw [4] (fun i wr => ∃ k c : Nat, c ≤ 2047 ∧ 1 ≤ c ∧ i = .int .i64 c ∧ Hid (c = (k + 1) * N ∧ k * N ≤ 1023) ∧ Hid (StopsAt wr w.heap.size (w.heap.size + 1) (ev N k) ∧ Below w.heap.size w wr)) (fun i _ => 2048 - (intOf i).toNat)
  case atStart => exact ⟨0, N, by omega, by omega, rfl, ⟨by omega, by omega⟩, HS0.out, HB0.out⟩
  case round =>
    obtain ⟨k, c, hc, hc1, rfl, HK, H⟩ := hrel
    have HMY := Lib.hid (may_any (c : Int) wr)
    by_cases hlt : c ≤ 1023
    · have hd : decide (1 ≤ (c : Int) ∧ (c : Int) ≤ 1023) = true := by simp; omega
      rw [hd] at HMY
      obtain ⟨⟨hqB, hB, v, T, hq, hown⟩, hbw⟩ := H.out
      obtain ⟨av, cv, rfl⟩ := own_slice hown
      rw [ev_len] at hown hq
      have c0 := (own_cells hq 0).1
      have HQ := Lib.hid hq
      have HO := Lib.hid hown
      have HBW := Lib.hid hbw
      have hk : k ≤ 1023 := by
        have h1 := HK.out.2
        have h2 := Nat.mul_le_mul_left k hN1.1
        omega
      have hqs := HO.out
      clear hd hq hown hbw H hqs
      go_wp2_with fail
      refine HMY.out.mono ?_
      rintro e w1 ⟨rfl, rfl⟩
      go_wp2_with (at_builtin; (refine wpList_append_own _ rfl _ _ 33 rfl (w.heap.size + 1) 3 i0 _ 1 8 Tryz.underlying33 hi hz0 hz1 hz2 rfl (by decide) (.slice av k cv) k _ rfl (HO.out.alloc _) ⟨wr.heap.size, 0, none⟩ 1 1 [.int .i64 c] rfl rfl (cell_new1 _ _ _) (by simp [Value.oneCell']) (by unfold maxLen; omega) (by omega) (by simp; omega) ?_; intro v5 w5 hown5 hgrow5 _; obtain ⟨a5, c5, rfl⟩ := own_slice hown5; have hb5 : ∀ j, (Value.slice av k cv).ownBlock = some j → w.heap.size + 1 ≤ j := (fun j e => (HO.out.lt j e).1); have TG : Turn (fun j => (Value.slice av k cv).ownBlock = some j) wr w5 := (Turn.alloc _ _ _).trans (Turn.of_grown hgrow5 (fun _ e => e)); have HQ5 := TG.heap HQ.out (fun e => by have := hb5 _ e; omega); have c5' := (own_cells HQ5 0).1; have f5 := (own_cells HQ5 0).2.1; have HS5 : Hid (StopsAt (w5.setCell ⟨w.heap.size, 0, none⟩ (.slice a5 (k + 1) c5)) w.heap.size (w.heap.size + 1) (ev N (k + 1))) := Lib.hid (stops_store HQ5 hqB (Nat.le_trans hB TG.size) (by rw [ev_len, ev_next, List.map_append, ← HK.out.1]; exact hown5)); have HB5 : Hid (Below w.heap.size w (w5.setCell ⟨w.heap.size, 0, none⟩ (.slice a5 (k + 1) c5))) := Lib.hid ((HBW.out.trans (TG.below HBW.out.size (fun j e => by have := hb5 _ e; omega))).setCell (Nat.le_refl _) _); clear hown5 hgrow5 TG HQ5 hb5))
      have HK2 : Hid (c + N = (k + 1 + 1) * N ∧ (k + 1) * N ≤ 1023) := Lib.hid ⟨by rw [Nat.succ_mul, ← HK.out.1], by rw [← HK.out.1]; exact hlt⟩
      generalize (w5.setCell ⟨w.heap.size, 0, none⟩ (.slice a5 (k + 1) c5)) = w6 at *
      have x1 : IntKind.i64.wrap ((c : Int) + (N : Int)) = (c : Int) + (N : Int) := IntWalk.i64_in _ (by omega)
      go_roundw
      case rel => exact ⟨k + 1, c + N, by omega, by omega, by go_num, HK2, HS5.out, HB5.out⟩
      case measure => simp [intOf]; omega
    · have hd : decide (1 ≤ (c : Int) ∧ (c : Int) ≤ 1023) = false := by simp; omega
      rw [hd] at HMY
      have HE : Hid (∃ K, K * N ≤ 1023 ∧ 1023 < (K + 1) * N ∧ StopsAt wr w.heap.size (w.heap.size + 1) (ev N K)) := Lib.hid ⟨k, HK.out.2, by rw [← HK.out.1]; omega, H.out.1⟩
      have HB := Lib.hid H.out.2
      clear H hd
      go_wp2_with fail
      refine HMY.out.mono ?_
      rintro e w1 ⟨rfl, rfl⟩
      go_wp2
      go_ret
      exact ⟨rfl, HE.out, HB.out⟩

end Go.Proofs.YtcbfmokafmagpaaGreat.Stops

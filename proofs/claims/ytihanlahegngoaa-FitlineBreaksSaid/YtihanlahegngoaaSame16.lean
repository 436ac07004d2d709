/-
  linotyperef16.Same, of two lists of clusters that read alike.
-/
import Derived.Test.YtihanlahegngoaaGraWorks
import Derived.Laws.Cover4
import Derived.Deep.QuietTactic
import Derived.BigQuiet
namespace Go.Proofs.Ytihanlahegngoaa.Gra
set_option linter.unusedSimpArgs false
set_option linter.unusedVariables false
open Go Go.RowKit Go.Shelf Mem Turn GraLaw Same

/-- a list of lists as it reads -/
def RLists (w : World) (v : Value) (xss : List (List Int)) : Prop :=
  ∃ a c, v = .slice a xss.length c ∧ (xss.length = 0 ∨ ∃ g off, a = some ⟨g, off, none⟩ ∧ g < w.heap.size ∧ ∀ (k : Nat) (xs : List Int), xss[k]? = some xs → ∃ a' c', w.cell? ⟨g, off + k, none⟩ = some (.slice a' xs.length c') ∧ Ints .i32 w a' xs.length xs)

theorem RLists.below {w w' : World} {v : Value} {xss : List (List Int)} (h : RLists w v xss) (hb : Below w.heap.size w w') : RLists w' v xss := by
  obtain ⟨a, c, rfl, h⟩ := h
  refine ⟨a, c, rfl, h.imp id ?_⟩
  rintro ⟨g, off, e, hg, hc⟩
  refine ⟨g, off, e, Nat.lt_of_lt_of_le hg hb.size, fun k xs hx => ?_⟩
  obtain ⟨a', c', e1, e2⟩ := hc k xs hx
  exact ⟨a', c', (hb.cell (p := ⟨g, off + k, none⟩) hg).trans e1, e2.below hb⟩

theorem Lists.reads {w : World} {base : Nat} {v : Value} {xss : List (List Int)} (h : Lists w base v xss) : RLists w v xss := by
  obtain ⟨vs, hl, h, hv⟩ := h
  obtain ⟨a, c, rfl⟩ := own_slice h
  refine ⟨a, c, rfl, ?_⟩
  rcases h.2 with ⟨_, h0⟩ | ⟨g, cap, cur, h1, h2, h3, _⟩
  · exact .inl h0
  · injection h1 with h1 _
    subst h1
    refine .inr ⟨g, 0, rfl, (Array.getElem?_eq_some_iff.1 h3).1, fun k xs hx => ?_⟩
    obtain ⟨a', n', c', e1, e2⟩ := hv k xs hx
    have := h.cells (g := g) rfl k _ e1
    rw [add_none] at this
    have hi := ints_of_own e2
    obtain rfl : xs.length = n' := hi.1
    exact ⟨a', c', this, hi⟩

theorem conv_runes {w : World} {a : Option Addr} {c : Nat} {xs : List Int} (h : Ints .i32 w a xs.length xs) : ∃ s : ByteArray, s = runesBytes xs ∧ ∀ k, (convert 22 9 (.slice a xs.length c)).run Try.prog (w.drewN k) = .ok (.string s) (w.drewN k) := by
  refine ⟨_, rfl, fun k => ?_⟩
  rcases a with _ | ad
  · rcases h.2 with h0 | ⟨b, off, e, _⟩
    · have hx := List.eq_nil_of_length_eq_zero h0
      subst hx
      exact run_convert_runes_nil _ _ _ _ _ _ Try.underlying22 Try.underlying21 Try.underlying9
    · cases e
  · have key := run_convert_runes (P := Try.prog) (w.drewN k) 22 9 21 ad xs.length c xs (Nat.le_refl _) Try.underlying22 Try.underlying21 Try.underlying9 (fun j hj => by
      rcases h.2 with h0 | ⟨b, off, e, _, hc⟩
      · omega
      · injection e with e
        subst e
        rw [add_none]
        have := hc j (xs[j]) (List.getElem?_eq_getElem hj)
        show w.cell? _ = _
        rw [this]
        simp [List.getD_eq_getElem?_getD, List.getElem?_eq_getElem hj])
    rwa [List.take_of_length_le (Nat.le_refl _)] at key

set_option maxRecDepth 100000 in
set_option maxHeartbeats 8000000 in
theorem same16_true (v1 v2 : Value) (xss : List (List Int)) (w : World) (h1 : RLists w v1 xss) (h2 : RLists w v2 xss) (hm : xss.length ≤ 9223372036854775807) :
    Calls Try.prog 31 #[v1, v2] w fun e w' => e = .returned (.bool true) ∧ Below w.heap.size w w' := by
  obtain ⟨a1, c1, rfl, h1⟩ := h1
  obtain ⟨a2, c2, rfl, h2⟩ := h2
  have H1 := Lib.hid h1
  have H2 := Lib.hid h2
  clear h1 h2
  generalize hn : xss.length = n at *
  have HN := Lib.hid hn
  clear hn
  have e0 : ((n : Int) != n) = false := by simp
  go_enter Try.func31, Try.ntmps31
  go_wp2
  go_loopw [5] (fun i wr => ∃ k : Nat, k ≤ n ∧ i = .int .i64 k ∧ Hid (Below w.heap.size w wr)) (fun i _ => n - (intOf i).toNat)
  case atStart => exact ⟨0, Nat.zero_le _, rfl, Below.refl _ _⟩
  case round =>
    obtain ⟨k, hk, rfl, HR⟩ := hrel
    by_cases hlt : k < n
    · rcases H1.out with h0 | ⟨g1, o1, rfl, hg1, hc1⟩
      · omega
      rcases H2.out with h0 | ⟨g2, o2, rfl, hg2, hc2⟩
      · omega
      obtain ⟨xs, hx⟩ : ∃ xs, xss[k]? = some xs := ⟨_, List.getElem?_eq_getElem (by rw [HN.out]; exact hlt)⟩
      obtain ⟨x1, y1, p1, i1⟩ := hc1 k xs hx
      obtain ⟨x2, y2, p2, i2⟩ := hc2 k xs hx
      have q1 := (HR.out.cell (p := ⟨g1, o1 + k, none⟩) hg1).trans p1
      have q2 := (HR.out.cell (p := ⟨g2, o2 + k, none⟩) hg2).trans p2
      obtain ⟨s1, hs1, r1⟩ := conv_runes (c := y1) (i1.below HR.out)
      obtain ⟨s2, hs2, r2⟩ := conv_runes (c := y2) (i2.below HR.out)
      obtain rfl : s1 = s2 := hs1.trans hs2.symm
      have hlt' : (k : Int) < n := by omega
      have e1 : ((xs.length : Int) != xs.length) = false := by simp
      clear hc1 hc2 p1 p2 i1 i2 hx hs1 hs2
      generalize xs.length = m at *
      go_wp2
      go_quiet (fail)
      go_wp2
      go_roundw
      case rel => exact ⟨k + 1, by omega, by go_num, HR.out.trans ((bdrew _ _).mono HR.out.size)⟩
      case measure => simp [intOf]; omega
    · obtain rfl : k = n := by omega
      go_wp2
      go_ret
      exact ⟨rfl, HR.out⟩

end Go.Proofs.Ytihanlahegngoaa.Gra

/-
  Rows of lines whose headers lie in one set of blocks and whose cells in another; slices of them; what is put together of two.
-/
import Derived.Test.YtediledehhcicaaRingJ
namespace Go.Proofs.Ytediledehhcicaa.Ring
set_option linter.unusedSimpArgs false
set_option linter.unusedVariables false
open Go Go.RowKit Mem Turn

theorem add_off (b off n : Nat) : (Addr.mk b off none).add n = ⟨b, off + n, none⟩ := by
  unfold Addr.add
  split <;> simp_all
/-- headers in E, cells in D -/
def Lines2 (E D : Nat → Prop) (w : World) (v : Value) (ls : List LineC) : Prop :=
  ∃ a c, v = .slice a ls.length c ∧ ls.length ≤ c ∧ (ls.length = 0 ∨ ∃ b off, a = some ⟨b, off, none⟩ ∧ b < w.heap.size ∧ E b ∧ ∀ (j : Nat) (x : LineC), ls[j]? = some x → ∃ cv, w.cell? ⟨b, off + j * 2, none⟩ = some cv ∧ CellsAt D False w cv x.1 ∧ w.cell? ⟨b, off + j * 2 + 1, none⟩ = some (.bool x.2))

section
variable {E E' D D' : Nat → Prop} {w w' : World} {v : Value} {T : Nat → Prop} {ls : List LineC}
theorem Lines2.turn (h : Lines2 E D w v ls) (ht : Turn T w w') (hE : ∀ b, E b → b < w.heap.size → ¬ T b) (hD : ∀ b, D b → b < w.heap.size → ¬ T b) : Lines2 E D w' v ls := by
  obtain ⟨a, c, h1, h2, h4⟩ := h
  refine ⟨a, c, h1, h2, h4.imp id fun ⟨b, off, e, hb, hd, hc⟩ => ⟨b, off, e, Nat.lt_of_lt_of_le hb ht.size, hd, fun j x hx => ?_⟩⟩
  obtain ⟨cv, g1, g2, g3⟩ := hc j x hx
  exact ⟨cv, ht.cell g1 (hE b hd hb), g2.turn ht hD, ht.cell g3 (hE b hd hb)⟩
theorem Lines2.below (h : Lines2 E D w v ls) (hb : Below w.heap.size w w') : Lines2 E D w' v ls := h.turn (Turn.of_new hb : Turn (fun _ => False) w w') (fun _ _ _ => id) (fun _ _ _ => id)
theorem Lines2.mono (h : Lines2 E D w v ls) (hE : ∀ b, E b → b < w.heap.size → E' b) (hD : ∀ b, D b → b < w.heap.size → D' b) : Lines2 E' D' w v ls := by
  obtain ⟨a, c, h1, h2, h4⟩ := h
  refine ⟨a, c, h1, h2, h4.imp id fun ⟨b, off, e, hb, hd, hc⟩ => ⟨b, off, e, hb, hE b hd hb, fun j x hx => ?_⟩⟩
  obtain ⟨cv, g1, g2, g3⟩ := hc j x hx
  exact ⟨cv, g1, g2.mono hD, g3⟩
theorem Lines2.one (h : Lines2 D D w v ls) : LinesAt D False w v ls := h
theorem LinesAt.two {fz : Prop} (h : LinesAt D fz w v ls) : Lines2 D D w v ls := h.soft
theorem Lines2.at (h : Lines2 E D w v ls) : LinesAt (fun _ => True) False w v ls := h.mono (fun _ _ _ => trivial) (fun _ _ _ => trivial)
theorem Lines2.nil (E D : Nat → Prop) (w : World) : Lines2 E D w (.slice none 0 0) [] := ⟨none, 0, rfl, Nat.le_refl _, .inl rfl⟩
theorem Lines2.form (h : Lines2 E D w v ls) : ∃ a c, v = .slice a ls.length c ∧ ls.length ≤ c ∧ (0 < ls.length → ∃ b off, a = some ⟨b, off, none⟩) := by
  obtain ⟨a, c, h1, h2, h4⟩ := h
  exact ⟨a, c, h1, h2, fun h0 => by
    rcases h4 with h | ⟨b, off, e, _⟩
    · omega
    · exact ⟨b, off, e⟩⟩
/-- a slice of it -/
theorem Lines2.part {b off n c : Nat} (h : Lines2 E D w (.slice (some ⟨b, off, none⟩) n c) ls) {i j c' : Nat} (hij : i ≤ j) (hj : j ≤ ls.length) (hc : j - i ≤ c') : Lines2 E D w (.slice (some ⟨b, off + i * 2, none⟩) (j - i) c') ((ls.drop i).take (j - i)) := by
  obtain ⟨a, c2, h1, h2, h4⟩ := h
  injection h1 with e1 e2 e3
  subst e1
  have hl : ((ls.drop i).take (j - i)).length = j - i := by simp; omega
  refine ⟨_, c', by rw [hl], by rw [hl]; exact hc, ?_⟩
  rw [hl]
  by_cases h0 : j - i = 0
  · exact .inl h0
  · obtain ⟨b', off', e, hb, hd, hc⟩ := h4.resolve_left (by omega)
    injection e with e
    injection e with e5 e6
    subst e5 e6
    refine .inr ⟨b, off + i * 2, rfl, hb, hd, fun k x hx => ?_⟩
    have hk : k < j - i := by have := (List.getElem?_eq_some_iff.1 hx).1; omega
    rw [List.getElem?_take, if_pos hk, List.getElem?_drop] at hx
    have := hc (i + k) x hx
    rwa [show off + (i + k) * 2 = off + i * 2 + k * 2 from by omega] at this
theorem Lines2.empty (E D : Nat → Prop) (w : World) (a : Option Addr) (c : Nat) : Lines2 E D w (.slice a 0 c) [] := ⟨a, c, rfl, Nat.zero_le _, .inl rfl⟩

/-- the headers, as a source of an append -/
theorem Lines2.rows {a : Option Addr} {n c : Nat} (h : Lines2 E D w (.slice a n c) ls) : ∃ R, Turn.Src w a n 2 (flatL R) ∧ CellsOf D False w R ls ∧ ∀ u ∈ flatL R, u.oneCell' = true := by
  obtain ⟨a', c2, h1, h2, h4⟩ := h
  injection h1 with e1 e2 e3
  subst e1 e2
  rcases h4 with h0 | ⟨b, off, rfl, hb, hd, hc⟩
  · obtain rfl : ls = [] := List.eq_nil_of_length_eq_zero h0
    refine ⟨[], ?_, CellsOf.nil _ _ _, fun u hu => by cases hu⟩
    cases a with
    | none => exact .inl ⟨rfl, rfl, rfl⟩
    | some ad => exact .inr ⟨ad, rfl, rfl, fun j u h => by cases h⟩
  · have key : ∀ j, ∃ r : Value × Bool, j < ls.length → w.cell? ⟨b, off + j * 2, none⟩ = some r.1 ∧ w.cell? ⟨b, off + j * 2 + 1, none⟩ = some (.bool r.2) ∧ ∀ x, ls[j]? = some x → r.2 = x.2 ∧ CellsAt D False w r.1 x.1 := by
      intro j
      by_cases hj : j < ls.length
      · obtain ⟨cv, g1, g2, g3⟩ := hc j ls[j] (List.getElem?_eq_getElem hj)
        exact ⟨(cv, ls[j].2), fun _ => ⟨g1, g3, fun x hx => by
          rw [List.getElem?_eq_getElem hj] at hx
          injection hx with hx
          subst hx
          exact ⟨rfl, g2⟩⟩⟩
      · exact ⟨(.slice none 0 0, false), fun h => absurd h hj⟩
    obtain ⟨F, hF⟩ : ∃ F : Nat → Value × Bool, ∀ j, j < ls.length → w.cell? ⟨b, off + j * 2, none⟩ = some (F j).1 ∧ w.cell? ⟨b, off + j * 2 + 1, none⟩ = some (.bool (F j).2) ∧ ∀ x, ls[j]? = some x → (F j).2 = x.2 ∧ CellsAt D False w (F j).1 x.1 := ⟨fun j => (key j).choose, fun j => (key j).choose_spec⟩
    clear key
    refine ⟨(List.range ls.length).map F, .inr ⟨_, rfl, by rw [flatL_len]; simp, fun j u hu => ?_⟩, ⟨by simp, fun j r x hr hx => ?_⟩, fun u hu => ?_⟩
    · have hjl : j < ls.length * 2 := by
        have := (List.getElem?_eq_some_iff.1 hu).1
        rw [flatL_len] at this
        simpa using this
      have hjr : ((List.range ls.length).map F)[j / 2]? = some (F (j / 2)) := by
        rw [List.getElem?_map, List.getElem?_range (by omega)]
        rfl
      obtain ⟨k1, k2, _⟩ := hF (j / 2) (by omega)
      obtain ⟨f1, f2⟩ := flatL_get hjr
      rw [add_off]
      rcases Nat.mod_two_eq_zero_or_one j with h2 | h2
      · have hj2 : j / 2 * 2 = j := by omega
        rw [hj2] at f1 k1
        rw [f1] at hu
        injection hu with hu
        rw [← hu]
        exact k1
      · rw [show j / 2 * 2 + 1 = j from by omega] at f2
        rw [show off + j / 2 * 2 + 1 = off + j from by omega] at k2
        rw [f2] at hu
        injection hu with hu
        rw [← hu]
        exact k2
    · have hj : j < ls.length := (List.getElem?_eq_some_iff.1 hx).1
      rw [List.getElem?_map, List.getElem?_range hj] at hr
      injection hr with hr
      rw [← hr]
      exact (hF j hj).2.2 x hx
    · obtain ⟨j, hj⟩ := List.mem_iff_getElem?.1 hu
      have hjl : j < ls.length * 2 := by
        have := (List.getElem?_eq_some_iff.1 hj).1
        rw [flatL_len] at this
        simpa using this
      have hjr : ((List.range ls.length).map F)[j / 2]? = some (F (j / 2)) := by
        rw [List.getElem?_map, List.getElem?_range (by omega)]
        rfl
      obtain ⟨_, _, k3⟩ := hF (j / 2) (by omega)
      obtain ⟨f1, f2⟩ := flatL_get hjr
      rcases Nat.mod_two_eq_zero_or_one j with h2 | h2
      · rw [show j / 2 * 2 = j from by omega] at f1
        rw [f1] at hj
        injection hj with hj
        obtain ⟨_, _, hv, _⟩ := (k3 _ (List.getElem?_eq_getElem (by omega : j / 2 < ls.length))).2
        rw [← hj, hv]
        rfl
      · rw [show j / 2 * 2 + 1 = j from by omega] at f2
        rw [f2] at hj
        injection hj with hj
        rw [← hj]
        rfl
end
theorem CellsOf.app {D : Nat → Prop} {fz : Prop} {w : World} {R S : List (Value × Bool)} {P Q : List LineC} (h : CellsOf D fz w R P) (k : CellsOf D fz w S Q) : CellsOf D fz w (R ++ S) (P ++ Q) := by
  refine ⟨by simp [h.1, k.1], fun j r x hr hx => ?_⟩
  rcases Nat.lt_or_ge j P.length with hj | hj
  · rw [List.getElem?_append_left (by rw [h.1]; exact hj)] at hr
    rw [List.getElem?_append_left hj] at hx
    exact h.2 j r x hr hx
  · rw [List.getElem?_append_right (by rw [h.1]; exact hj)] at hr
    rw [List.getElem?_append_right hj] at hx
    rw [h.1] at hr
    exact k.2 _ r x hr hx
/-- a row of the call's own, of headers -/
theorem lines2_of_own {E D : Nat → Prop} {w : World} {base n : Nat} {v : Value} {rs : List (Value × Bool)} {ls : List LineC} (h : w.ownsRow base 28 2 v n (flatL rs)) (ht : CellsOf D False w rs ls) (hE : ∀ g, v.ownBlock = some g → E g) : Lines2 E D w v ls := by
  have hl : rs.length = n := by have := h.1; rw [flatL_len] at this; omega
  obtain ⟨a, c, rfl, h2, h3⟩ := own_form h
  have hn : ls.length = n := by rw [← ht.1, hl]
  subst hn
  refine ⟨a, c, rfl, h2, h3.imp id fun ⟨g, e, e2, hb, hg, hf, hc⟩ => ⟨g, 0, e, hg, hE g e2, fun j x hx => ?_⟩⟩
  obtain ⟨r, hr⟩ : ∃ r, rs[j]? = some r := ⟨_, List.getElem?_eq_getElem (by rw [hl]; exact (List.getElem?_eq_some_iff.1 hx).1)⟩
  obtain ⟨e1, e3⟩ := ht.2 j r x hr hx
  obtain ⟨g1, g2⟩ := flatL_get hr
  rw [Nat.zero_add]
  exact ⟨r.1, hc _ _ g1, e3, by rw [← e1]; exact hc _ _ g2⟩

/-- the calls of acts that came in -/
abbrev ActC := Int × List LineC
def IsActs (w : World) (a : Option Addr) (n c : Nat) (acs : List ActC) : Prop :=
  acs.length = n ∧ n ≤ c ∧ (n = 0 ∨ ∃ b off, a = some ⟨b, off, none⟩ ∧ b < w.heap.size ∧ ∀ (i : Nat) (x : ActC), acs[i]? = some x → w.cell? ⟨b, off + i * 2, none⟩ = some (.int .i64 x.1) ∧ ∃ lv, w.cell? ⟨b, off + i * 2 + 1, none⟩ = some lv ∧ LinesAt (fun b => b < w.heap.size) False w lv x.2)
/-- what has been pushed and is still there, and how many are gone, behind k acts; X: where the newest blocks begin -/
structure Keep (w : World) (qr lo M : Nat) (tot : Nat) (ls : List LineC) (gone : Nat) (v : Value) (X : Nat) (wx : World) : Prop where
  lines : Lines2 (fun b => X ≤ b) (fun b => b < w.heap.size) wx v ls
  ring : RingIs wx qr lo M (gone + (ls.length - M)) (ls.drop (ls.length - M))
  blk : RB wx qr (fun g => g < X)
  below : Below w.heap.size w wx
  hX : X ≤ wx.heap.size
  hlo : lo ≤ X
  tot : gone + ls.length ≤ tot
theorem Keep.step {w wx wy : World} {qr lo M tot : Nat} {ls : List LineC} {gone : Nat} {v : Value} {X : Nat} (h : Keep w qr lo M tot ls gone v X wx) (hb : Below wx.heap.size wx wy) : Keep w qr lo M tot ls gone v X wy :=
  have ht : Turn (fun _ => False) wx wy := Turn.of_new hb
  ⟨h.lines.below hb, h.ring.below hb, h.blk.turn ht id (by obtain ⟨_, _, _, _, hw, _⟩ := h.ring; have := hw.2.2.2; omega), h.below.trans (hb.mono h.below.size), Nat.le_trans h.hX hb.size, h.hlo, h.tot⟩
theorem Lines2.drop {E D : Nat → Prop} {w : World} {a : Option Addr} {N c : Nat} {ls : List LineC} (h : Lines2 E D w (.slice a N c) ls) {i c' : Nat} (hi : i ≤ N) (hc : N - i ≤ c') : Lines2 E D w (.slice (Option.map (fun x => x.add (i * 2)) a) (N - i) c') (ls.drop i) := by
  obtain ⟨a', c2, h1, h2, h4⟩ := id h
  injection h1 with e1 e2 e3
  subst e1 e2
  have hl : (ls.drop i).length = ls.length - i := by simp
  by_cases h0 : ls.length - i = 0
  · rw [h0]
    have : ls.drop i = [] := List.eq_nil_of_length_eq_zero (by omega)
    rw [this]
    exact Lines2.empty _ _ _ _ _
  · obtain ⟨b, off, rfl, _⟩ := h4.resolve_left (by omega)
    have hp := h.part (i := i) (j := ls.length) (c' := c') hi (Nat.le_refl _) hc
    rw [List.take_of_length_le (by omega)] at hp
    simpa only [Option.map_some, add_off] using hp
theorem Lines2.dropq {E D : Nat → Prop} {w : World} {a : Option Addr} {N c : Nat} {ls : List LineC} (h : Lines2 E D w (.slice a N c) ls) {i : Nat} (hi : i ≤ N) (hc : N ≤ c) : Lines2 E D w (.slice (if c = i then a else a.map (·.add (i * 2))) (N - i) (c - i)) (ls.drop i) := by
  split
  · have hN : N = ls.length := by
      obtain ⟨a', c2, h1, h2, h4⟩ := id h
      injection h1
    have h0 : N - i = 0 := by omega
    have : ls.drop i = [] := List.eq_nil_of_length_eq_zero (by simp; omega)
    rw [h0, this]
    exact Lines2.empty _ _ _ _ _
  · exact h.drop hi (by omega)
/-- one line of it -/
theorem Lines2.one_of {E D : Nat → Prop} {w : World} {a : Option Addr} {N c : Nat} {ls : List LineC} (h : Lines2 E D w (.slice a N c) ls) {i : Nat} {x : LineC} (hx : ls[i]? = some x) (hc : N ≤ c) : Lines2 E D w (.slice (if c = i then a else a.map (·.add (i * 2))) (i + 1 - i) (c - i)) [x] := by
  have hi := (List.getElem?_eq_some_iff.1 hx).1
  obtain ⟨a', c2, h1, h2, h4⟩ := id h
  injection h1 with e1 e2 e3
  subst e1 e2
  obtain ⟨b, off, rfl, _⟩ := h4.resolve_left (by omega)
  have hp := h.part (i := i) (j := i + 1) (c' := c - i) (by omega) (by omega) (by omega)
  have e : (ls.drop i).take (i + 1 - i) = [x] := by
    rw [show i + 1 - i = 1 from by omega]
    obtain ⟨h9, rfl⟩ := List.getElem?_eq_some_iff.1 hx
    rw [List.take_one, List.head?_drop, hx]
    rfl
  rw [e] at hp
  rw [if_neg (by omega)]
  simpa only [Option.map_some, add_off] using hp
/-- a slice of one line, laid anew -/
theorem one_new {w : World} {a : Option Addr} {n c : Nat} {b : Bool} {cs : List CellC} {D : Nat → Prop} {fz : Prop} (h : CellsAt D fz w (.slice a n c) cs) : LinesAt (fun _ => True) False (w.alloc (.cells #[.slice a n c, .bool b] 28)) (.slice (some ⟨w.heap.size, 0, none⟩) 1 1) [(cs, b)] := by
  have hh : (w.alloc (.cells #[.slice a n c, .bool b] 28)).heap[w.heap.size]? = some (.cells #[.slice a n c, .bool b] 28 (0, 0)) := heap_alloc_new w _
  have hc := ((h.below ((Below.refl _ _).alloc (Nat.le_refl _) (.cells #[.slice a n c, .bool b] 28))).soft).mono (D' := fun _ => True) (fun _ _ _ => trivial)
  generalize (w.alloc (.cells #[.slice a n c, .bool b] 28)) = w2 at *
  refine ⟨_, 1, rfl, Nat.le_refl _, .inr ⟨_, 0, rfl, (Array.getElem?_eq_some_iff.1 hh).1, trivial, fun j x hx => ?_⟩⟩
  match j, hx with
  | 0, hx =>
    simp at hx
    subst hx
    exact ⟨.slice a n c, by simp [World.cell?, hh], hc, by simp [World.cell?, hh]⟩
  | j + 1, hx => simp at hx
theorem Keep.trunc {w wx : World} {qr lo M tot : Nat} {ls : List LineC} {gone N c : Nat} {a : Option Addr} {X : Nat} (h : Keep w qr lo M tot ls gone (.slice a N c) X wx) (hN : ls.length = N) (hM : M < N) (hc : N ≤ c) :
    (ls.drop (N - M)).length ≤ M ∧ Keep w qr lo M tot (ls.drop (N - M)) (gone + (N - M)) (.slice (Option.map (fun x => x.add ((N - M) * 2)) a) (N - (N - M)) (c - (N - M))) X wx := by
  have hl : (ls.drop (N - M)).length = M := by simp; omega
  refine ⟨by omega, h.lines.drop (by omega) (by omega), ?_, h.blk, h.below, h.hX, h.hlo, ?_⟩
  · have := h.ring
    rw [hN] at this
    rw [hl, Nat.sub_self, List.drop_zero, Nat.add_zero]
    exact this
  · have := h.tot
    rw [hl]
    omega
set_option maxRecDepth 100000 in
set_option maxHeartbeats 8000000 in
theorem last_nil (w : World) : Calls Try.prog 8 #[.pointer none, .int .i64 5] w fun e w' => e = .returned (.slice none 0 0) ∧ Below w.heap.size w w' := by
  go_enter Try.func8, Try.ntmps8
  go_wp2_with (refine (len_nil _).mono ?_; rintro e w2 ⟨rfl, rfl⟩)
  go_loopg [5, 6] 0 (fun gg v i wx => v = .slice none 0 0 ∧ i = .int .i64 0 ∧ Hid (Below w.heap.size w wx))
  case atStart => exact ⟨rfl, rfl, Lib.hid (Below.refl _ _)⟩
  case round =>
    obtain ⟨rfl, rfl, H⟩ := hrel
    go_wp2_with fail
    refine (len_nil _).mono ?_
    rintro e w2 ⟨rfl, rfl⟩
    go_wp2_with fail
    go_ret
    exact ⟨rfl, H.out⟩
end Go.Proofs.Ytediledehhcicaa.Ring

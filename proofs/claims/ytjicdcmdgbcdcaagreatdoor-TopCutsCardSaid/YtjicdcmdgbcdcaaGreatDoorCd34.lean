/-
  feed: Bytes, Flush.
  edit: Does, Wrong.
  edit: line, screen.
  edit: screen.
-/
import Derived.Test.YtjicdcmdgbcdcaaGreatDoorCd33

section
namespace Go.Proofs.YtjicdcmdgbcdcaaGreatDoor.Scr
set_option linter.unusedSimpArgs false
set_option linter.unusedVariables false
open Go Go.RowKit Mem Turn Ring
open Seg (P4 St)

theorem FeedAt.close {w w' : World} {X : Nat → Prop} {φ π W : Nat} {ov : Value} {f f' : FeedC} (h : FeedIs w X φ π ov f W) (ht : Turn (fun b => b = φ) w w') (h' : FeedIs w' X φ π (.pointer none) f' W) : FeedTo w X φ π f' W w' :=
  ⟨X, ⟨_, h'⟩, fun b e => .inl e, ht.mono (fun b _ e => by rw [e]; exact h.xφ)⟩

set_option maxRecDepth 100000 in
set_option maxHeartbeats 8000000 in
theorem bytes_any (X : Nat → Prop) (φ π W : Nat) (f : FeedC) (a : Option Addr) (n c : Nat) (l : List Int) (w : World) (h : FeedAt w X φ π f W) (hok : FeedOK f W) (hv : VarsX w X) (ht : ∀ w', Turn X w w' → Same.Ints .u8 w' a n l) (hl : ∀ r ∈ l, 0 ≤ r ∧ r ≤ 255) (hsz : n ≤ 9223372036854775807) :
    Calls Tryz.prog 30 #[ptr φ, .slice a n c] w fun e w' => e = .returned (.tuple #[]) ∧ FeedTo w X φ π (bytesF W f l) W w' := by
  have HTX := Lib.hid ht
  have HOK := Lib.hid hok
  have HV := Lib.hid hv
  have HL := Lib.hid hl
  have H0 := Lib.hid h
  have HN : Hid (n = l.length) := Lib.hid (ht w (Turn.refl _ _)).1.symm
  clear h hok hv ht hl
  go_enter Tryz.func30, Tryz.ntmps30
  go_wp2_with fail
  go_loopg [5, 10] n (fun gg s5 i wx => ∃ k : Nat, n - k = gg ∧ k ≤ n ∧ i = .int .i64 k ∧ Hid (FeedTo w X φ π (bytesF W f (l.take k)) W wx))
  case atStart => exact ⟨0, rfl, Nat.zero_le _, rfl, Lib.hid (FeedTo.refl H0.out)⟩
  case round =>
    obtain ⟨k, rfl, hk, rfl, H⟩ := hrel
    by_cases hlt : k < n
    · have hlt' : (k : Int) < (n : Int) := by omega
      obtain ⟨X1, g1, g2, g3, g4⟩ := H.out.vars HV.out
      have hx := HTX.out wr g4
      obtain ⟨r, hr⟩ : ∃ r, l[k]? = some r := ⟨_, List.getElem?_eq_getElem (by rw [← HN.out]; exact hlt)⟩
      obtain ⟨b, off, rfl, hc⟩ : ∃ b off, a = some ⟨b, off, none⟩ ∧ wr.cell? ⟨b, off + k, none⟩ = some (.int .u8 r) := by
        rcases hx.2 with h4 | ⟨b, off, e, _, h4⟩
        · omega
        · exact ⟨b, off, e, h4 k r hr⟩
      have htk : l.take (k + 1) = l.take k ++ [r] := by rw [List.take_add_one, hr]; rfl
      obtain ⟨ov, gi⟩ := g1
      have hrr := HL.out r (List.mem_of_getElem? hr)
      have hokk : FeedOK (bytesF W f (l.take k)) W := FeedOK.bytes _ (fun x hx => HL.out x (List.mem_of_mem_take hx)) HOK.out
      generalize hfk : bytesF W f (l.take k) = fk at *
      have HST := Lib.hid (dstep_any (kDec π ov fk) φ fk.dec r wr gi.decAt hokk.dec hrr.1 hrr.2)
      have HAL : Hid (∀ w2 v, DecTo (kDec π ov fk) wr φ (stepD fk.dec r).1 w2 → TxtAt w2 v (stepD fk.dec r).2 → Calls Tryz.prog 66 #[ptr φ, v] w2 fun e w' => e = .returned (.tuple #[]) ∧ FeedTo w X φ π (bytesF W f (l.take (k + 1))) W w') := Lib.hid fun w2 v hd hv2 => by
        have h2 := gi.ofDec hd.2 hd.1
        have htx : Turn X1 wr w2 := hd.2.mono (fun b _ e => by rw [e]; exact gi.xφ)
        have hso := stepD_ok hokk.dec r hrr.1 hrr.2
        refine (all_any X1 φ π W { fk with dec := (stepD fk.dec r).1 } v _ w2 ⟨ov, h2⟩ (hokk.decTo hso.1) (g2.to htx (fun b e => .inl e)) hv2 (fun x hx => by have := hso.2 x hx; omega)).mono ?_
        rintro e w' ⟨h3, h4⟩
        refine ⟨h3, ?_⟩
        rw [htk, bytesF_snoc, hfk]
        exact FeedTo.step g3 g4 (FeedTo.step (fun b e => .inl e) htx h4)
      clear H g2 g3 g4 gi hr htk hrr hx hokk hfk
      go_wp2_with fail
      refine HST.out.mono ?_
      rintro e w2 ⟨v, rfl, hv2, hd2⟩
      have HAL2 := Lib.hid (HAL.out w2 v hd2 hv2.txt)
      clear hc hv2 hd2 HST HAL
      go_wp2_with fail
      refine HAL2.out.mono ?_
      rintro e w3 ⟨rfl, hto⟩
      have HX := Lib.hid hto
      clear hto HAL2
      go_wp2_with fail
      go_roundg (n - (k + 1))
      case measure => omega
      case rel => exact ⟨k + 1, rfl, by omega, by go_num, HX⟩
    · have hlt' : ¬ (k : Int) < (n : Int) := by omega
      obtain rfl : k = n := by omega
      have HF : Hid (FeedTo w X φ π (bytesF W f l) W wr) := Lib.hid (by
        have := H.out
        rw [HN.out, List.take_length] at this
        exact this)
      clear H
      go_wp2_with fail
      go_end0
      exact ⟨rfl, HF.out⟩

set_option maxRecDepth 100000 in
set_option maxHeartbeats 8000000 in
theorem fflush_any (X : Nat → Prop) (φ π W : Nat) (f : FeedC) (w : World) (h : FeedAt w X φ π f W) (hok : FeedOK f W) (hv : VarsX w X) :
    Calls Tryz.prog 31 #[ptr φ] w fun e w' => e = .returned (.tuple #[]) ∧ FeedTo w X φ π (flushF W f) W w' := by
  obtain ⟨ov, h⟩ := h
  have HFL := Lib.hid (dflush_any (kDec π ov f) φ f.dec w h.decAt hok.dec)
  have HAL : Hid (∀ w2 v, DecTo (kDec π ov f) w φ .zero w2 → TxtAt w2 v (flushD f.dec) → Calls Tryz.prog 66 #[ptr φ, v] w2 fun e w' => e = .returned (.tuple #[]) ∧ FeedTo w X φ π (allF W { f with dec := .zero } (flushD f.dec)) W w') := Lib.hid fun w2 v hd hv2 => by
    have h2 := h.ofDec hd.2 hd.1
    have htx : Turn X w w2 := hd.2.mono (fun b _ e => by rw [e]; exact h.xφ)
    refine (all_any X φ π W { f with dec := .zero } v _ w2 ⟨ov, h2⟩ (hok.decTo (.inl rfl)) (hv.to htx (fun b e => .inl e)) hv2 (fun x hx => ?_)).mono ?_
    · unfold flushD at hx
      split at hx
      · simp at hx
      · simp at hx; omega
    rintro e w' ⟨h3, h4⟩
    exact ⟨h3, FeedTo.step (fun b e => .inl e) htx h4⟩
  have HCL : Hid (∀ w3, FeedTo w X φ π (allF W { f with dec := .zero } (flushD f.dec)) W w3 → Calls Tryz.prog 32 #[ptr φ] w3 fun e w' => e = .returned (.tuple #[]) ∧ FeedTo w X φ π (flushF W f) W w') := Lib.hid fun w3 hto => by
    obtain ⟨X1, ⟨ov1, k1⟩, k2, k3⟩ := hto
    refine (close_is X1 φ π W ov1 _ w3 k1).mono ?_
    rintro e w' ⟨h3, h4, h5⟩
    exact ⟨h3, FeedTo.step k2 k3 (FeedAt.close k1 h5 h4)⟩
  clear h hok hv
  go_enter Tryz.func31, Tryz.ntmps31
  go_wp2_with fail
  refine HFL.out.mono ?_
  rintro e w2 ⟨v, rfl, hv2, hd2⟩
  have HAL2 := Lib.hid (HAL.out w2 v hd2 hv2.txt)
  clear hv2 hd2 HFL HAL
  go_wp2_with fail
  refine HAL2.out.mono ?_
  rintro e w3 ⟨rfl, hto⟩
  have HCL3 := Lib.hid (HCL.out w3 hto)
  clear hto HAL2 HCL
  go_wp2_with fail
  refine HCL3.out.mono ?_
  rintro e w4 ⟨rfl, hto⟩
  have HX := Lib.hid hto
  clear hto HCL3
  go_wp2_with fail
  go_end0
  exact ⟨rfl, HX.out⟩
end Go.Proofs.YtjicdcmdgbcdcaaGreatDoor.Scr
end
section
namespace Go.Proofs.YtjicdcmdgbcdcaaGreatDoor.Scr
set_option linter.unusedSimpArgs false
set_option linter.unusedVariables false
open Go Go.RowKit Mem Turn Ring

/-- an operation's cells -/
abbrev opA (k a b : Int) (bs : Value) : Array Value := #[.int .i64 k, .int .i64 a, .int .i64 b, bs]
abbrev opV (k a b : Int) (bs : Value) : Value := .agg (opA k a b bs)
theorem size_op (a b c d : Value) : (Tryz.prog.info? 30).map (·.size) = some (#[a, b, c, d] : Array Value).size := by kernel_rfl
theorem cells4 {w : World} {q : Nat} {a b c d : Value} {t : TypeId} (h : w.heap[q]? = some (.cells #[a, b, c, d] t (0, 0))) : w.cell? ⟨q, 0, none⟩ = some a ∧ w.cell? ⟨q, 1, none⟩ = some b ∧ w.cell? ⟨q, 2, none⟩ = some c ∧ w.cell? ⟨q, 3, none⟩ = some d :=
  ⟨by simp [World.cell?, h], by simp [World.cell?, h], by simp [World.cell?, h], by simp [World.cell?, h]⟩
theorem does_any (k : Int) (w : World) : Calls Tryz.prog 74 #[.int .i64 k] w fun e w' => e = .returned (.bool (decide (2 ≤ k) && decide (k ≤ 12))) ∧ w = w' := by
  by_cases h1 : 2 ≤ k
  · by_cases h2 : k ≤ 12
    · have HF : Hid ((decide (2 ≤ k) && decide (k ≤ 12)) = true) := Lib.hid (by simp [h1, h2])
      go_enter Tryz.func74, Tryz.ntmps74
      go_wp2
      go_ret
      exact ⟨ret_bool (by first | rfl | rw [HF.out]), rfl⟩
    · have HF : Hid ((decide (2 ≤ k) && decide (k ≤ 12)) = false) := Lib.hid (by simp [h1, h2])
      have h3 : 12 < k := by omega
      have d : decide (k ≤ 12) = false := decide_eq_false h2
      go_enter Tryz.func74, Tryz.ntmps74
      go_wp2
      go_ret
      exact ⟨ret_bool (by first | rfl | rw [HF.out]), rfl⟩
  · have HF : Hid ((decide (2 ≤ k) && decide (k ≤ 12)) = false) := Lib.hid (by simp [h1])
    have d : decide (2 ≤ k) = false := decide_eq_false h1
    go_enter Tryz.func74, Tryz.ntmps74
    go_wp2
    go_ret
    exact ⟨ret_bool (by first | rfl | rw [HF.out]), rfl⟩
/-- what Wrong says -/
def WrongR (k a : Int) (w : World) (e : Ending) (w' : World) : Prop := ((wrongE k a = 0 ∧ e = .returned .nilIface) ∨ (wrongE k a ≠ 0 ∧ ∃ t v, e = .returned (.iface t v))) ∧ Below w.heap.size w w'

set_option maxRecDepth 100000 in
set_option maxHeartbeats 8000000 in
theorem wrong_any (k a b : Int) (ba : Option Addr) (bn bc : Nat) (w : World) (hv : Vars w) (h1 : 3 < w.heap.size) (h2 : 4 < w.heap.size) :
    Calls Tryz.prog 34 #[opV k a b (.slice ba bn bc)] w (WrongR k a w) := by
  have T : Turn (fun _ => False) w (w.alloc (.cells (opA k a b (.slice ba bn bc)) 30)) := Turn.alloc _ _ _
  have e1 := heap_alloc_new w (.cells (opA k a b (.slice ba bn bc)) 30)
  have HB : Hid (Below w.heap.size w (w.alloc (.cells (opA k a b (.slice ba bn bc)) 30))) := Lib.hid ((Below.refl _ _).alloc (Nat.le_refl _) _)
  obtain ⟨⟨t1, v1, g1⟩, ⟨t2, v2, g2⟩⟩ := hv
  have g1 := T.cell g1 id
  have g2 := T.cell g2 id
  have HD := Lib.hid (does_any k (w.alloc (.cells (opA k a b (.slice ba bn bc)) 30)))
  obtain ⟨c0, c1, _, _⟩ := cells4 e1
  clear T e1
  have hc : (k < 2 ∨ 12 < k) ∨ (2 ≤ k ∧ k ≤ 12 ∧ k = 2) ∨ (5 ≤ k ∧ k ≤ 12) ∨ ((k = 3 ∨ k = 4) ∧ a < 0) ∨ ((k = 3 ∨ k = 4) ∧ 0 ≤ a ∧ 2 < a) ∨ ((k = 3 ∨ k = 4) ∧ 0 ≤ a ∧ a ≤ 2) := by omega
  rcases hc with h | h | h | h | h | h
  · have HE : Hid (wrongE k a ≠ 0) := Lib.hid (by unfold wrongE; rw [if_pos h]; decide)
    have hd : (decide (2 ≤ k) && decide (k ≤ 12)) = false := by rcases h with h | h <;> simp <;> omega
    rw [hd] at HD
    clear h hd
    go_enter Tryz.func34, Tryz.ntmps34
    go_wp2_with fail
    generalize (w.alloc (.cells (opA k a b (.slice ba bn bc)) 30)) = w1 at *
    refine HD.out.mono ?_
    rintro e wx ⟨rfl, rfl⟩
    go_wp2_with fail
    go_ret
    exact ⟨.inr ⟨HE.out, _, _, rfl⟩, HB.out⟩
  · obtain ⟨_, _, rfl⟩ := h
    have HE : Hid (wrongE 2 a = 0) := Lib.hid (by unfold wrongE; rw [if_neg (by omega), if_neg (by omega)])
    have hd : (decide ((2 : Int) ≤ 2) && decide ((2 : Int) ≤ 12)) = true := by decide
    rw [hd] at HD
    clear hd
    go_enter Tryz.func34, Tryz.ntmps34
    go_wp2_with fail
    generalize (w.alloc (.cells (opA 2 a b (.slice ba bn bc)) 30)) = w1 at *
    refine HD.out.mono ?_
    rintro e wx ⟨rfl, rfl⟩
    go_wp2_with fail
    go_ret
    exact ⟨.inl ⟨HE.out, rfl⟩, HB.out⟩
  · have HE : Hid (wrongE k a = 0) := Lib.hid (by unfold wrongE; rw [if_neg (by omega), if_neg (by omega)])
    have hd : (decide (2 ≤ k) && decide (k ≤ 12)) = true := by simp; omega
    rw [hd] at HD
    have d1 : decide (k ≤ 4) = false := by simp; omega
    have x1 : ¬ k ≤ 4 := by omega
    clear h hd
    go_enter Tryz.func34, Tryz.ntmps34
    go_wp2_with fail
    generalize (w.alloc (.cells (opA k a b (.slice ba bn bc)) 30)) = w1 at *
    refine HD.out.mono ?_
    rintro e wx ⟨rfl, rfl⟩
    go_wp2_with fail
    go_ret
    exact ⟨.inl ⟨HE.out, rfl⟩, HB.out⟩
  · obtain ⟨hk, ha⟩ := h
    have HE : Hid (wrongE k a ≠ 0) := Lib.hid (by unfold wrongE; rw [if_neg (by omega), if_pos ⟨hk, by omega⟩]; decide)
    rcases hk with rfl | rfl
    all_goals
      simp only [show (decide ((2 : Int) ≤ 3) && decide ((3 : Int) ≤ 12)) = true from by decide, show (decide ((2 : Int) ≤ 4) && decide ((4 : Int) ≤ 12)) = true from by decide] at HD
      go_enter Tryz.func34, Tryz.ntmps34
      go_wp2_with fail
      generalize (w.alloc (.cells (opA _ a b (.slice ba bn bc)) 30)) = w1 at *
      refine HD.out.mono ?_
      rintro e wx ⟨rfl, rfl⟩
      go_wp2_with fail
      go_ret
      exact ⟨.inr ⟨HE.out, _, _, rfl⟩, HB.out⟩
  · obtain ⟨hk, ha⟩ := h
    have HE : Hid (wrongE k a ≠ 0) := Lib.hid (by unfold wrongE; rw [if_neg (by omega), if_pos ⟨hk, by omega⟩]; decide)
    obtain ⟨ha1, ha2⟩ := ha
    have ha3 : ¬ a < 0 := by omega
    rcases hk with rfl | rfl
    all_goals
      simp only [show (decide ((2 : Int) ≤ 3) && decide ((3 : Int) ≤ 12)) = true from by decide, show (decide ((2 : Int) ≤ 4) && decide ((4 : Int) ≤ 12)) = true from by decide] at HD
      go_enter Tryz.func34, Tryz.ntmps34
      go_wp2_with fail
      generalize (w.alloc (.cells (opA _ a b (.slice ba bn bc)) 30)) = w1 at *
      refine HD.out.mono ?_
      rintro e wx ⟨rfl, rfl⟩
      go_wp2_with fail
      go_ret
      exact ⟨.inr ⟨HE.out, _, _, rfl⟩, HB.out⟩
  · obtain ⟨hk, ha⟩ := h
    have HE : Hid (wrongE k a = 0) := Lib.hid (by unfold wrongE; rw [if_neg (by omega), if_neg (by omega)])
    obtain ⟨ha1, ha2⟩ := ha
    have ha3 : ¬ a < 0 := by omega
    have ha4 : ¬ 2 < a := by omega
    rcases hk with rfl | rfl
    all_goals
      simp only [show (decide ((2 : Int) ≤ 3) && decide ((3 : Int) ≤ 12)) = true from by decide, show (decide ((2 : Int) ≤ 4) && decide ((4 : Int) ≤ 12)) = true from by decide] at HD
      go_enter Tryz.func34, Tryz.ntmps34
      go_wp2_with fail
      generalize (w.alloc (.cells (opA _ a b (.slice ba bn bc)) 30)) = w1 at *
      refine HD.out.mono ?_
      rintro e wx ⟨rfl, rfl⟩
      go_wp2_with fail
      go_ret
      exact ⟨.inl ⟨HE.out, rfl⟩, HB.out⟩
end Go.Proofs.YtjicdcmdgbcdcaaGreatDoor.Scr
end
section
namespace Go.Proofs.YtjicdcmdgbcdcaaGreatDoor.Scr
set_option linter.unusedSimpArgs false
set_option linter.unusedVariables false
open Go Go.RowKit Mem Turn Ring

/-- the cursor's row, and what its own calls leave of the pen -/
theorem PenIs.here {w : World} {X : Nat → Prop} {π γ β W : Nat} {Q : List (Nat × Nat)} {p : PenC} (h : PenIs w X π γ β Q p W) (hok : PenOK p W) :
    ∃ (k ρ κ : Nat) (l : LineC), p.at_.row = (k : Int) ∧ k < p.rows.length ∧ (Q.map (·.1))[k]? = some ρ ∧ RowAt w ρ κ l ∧ l.1.length = W ∧ soundB l.1 = true ∧ ¬ (π = ρ ∨ π = κ) ∧
      ∀ w1 w' f, Below w.heap.size w w1 → (f l).1.length = W → RowTo w1 ρ κ (f l) w' → PenIs w' X π γ β Q (setRow p f) W ∧ Turn X w w' := by
  obtain ⟨r0, r1, _⟩ := hok.rng
  obtain ⟨k, hk⟩ : ∃ k : Nat, p.at_.row = (k : Int) := ⟨p.at_.row.toNat, by omega⟩
  have hkl : k < p.rows.length := by omega
  obtain ⟨q, hq⟩ : ∃ q, Q[k]? = some q := ⟨_, List.getElem?_eq_getElem (by rw [h.rows.len]; exact hkl)⟩
  obtain ⟨l, hl, g1, g2, g3, g4⟩ := h.rows.line hq
  have hgetD : p.rows.getD k ([], false) = l := by rw [List.getD_eq_getElem?_getD, hl]; rfl
  refine ⟨k, q.1, q.2, l, hk, hkl, by rw [List.getElem?_map, hq]; rfl, g1, g2, (hok.rows l (List.mem_of_getElem? hl)).2, ?_, fun w1 w' f hb hf hr => ?_⟩
  · rintro (e | e)
    · exact h.typ.ne g1.typ (by decide) e
    · exact h.typ.ne g1.cells.typ (by decide) e
  · obtain ⟨a1, a2⟩ := (h.below hb).row hq hr.1 hf hr.2
    have : setRow p f = { p with rows := p.rows.set k (f l) } := by
      unfold setRow
      rw [hk, Int.toNat_natCast, hgetD]
    rw [this]
    exact ⟨a1, ((Turn.of_new hb : Turn (fun _ => False) w w1).mono (fun _ _ h => h.elim)).trans a2⟩
theorem PenTo.of {w w' : World} {X : Nat → Prop} {π γ β W : Nat} {Q : List (Nat × Nat)} {p : PenC} (h : PenIs w' X π γ β Q p W ∧ Turn X w w') : PenTo w X π p W w' := ⟨X, ⟨γ, β, Q, h.1⟩, fun b e => .inl e, h.2⟩

set_option maxRecDepth 100000 in
set_option maxHeartbeats 16000000 in
theorem line_is (X : Nat → Prop) (π γ β W : Nat) (Q : List (Nat × Nat)) (p : PenC) (mode : Int) (w : World) (h : PenIs w X π γ β Q p W) (hok : PenOK p W) (hv : VarsX w X) :
    Calls Tryz.prog 128 #[ptr π, .int .i64 mode] w fun e w' => e = .returned (.tuple #[]) ∧ PenIs w' X π γ β Q (lineP p mode) W ∧ Turn X w w' := by
  have hmx : Tryz.prog.follows .mixedOrders = true := by kernel_rfl
  obtain ⟨k, ρ, κ, l, hk, hkl, hq, g1, g2, g3, g4, g5⟩ := h.here hok
  obtain ⟨c0, c1, c2, _⟩ := h.cells
  rw [hk] at c1
  have hbd : Below w.heap.size w w.drew := (Below.refl _ _).drew
  have HRI := Lib.hid (row_in γ β k ρ _ w.drew (h.below hbd).grid hq)
  have HG := Lib.hid g1
  have HLW : Hid (∀ m, (lineE p m l).1.length = W) := Lib.hid fun m => by rw [lineE_len]; exact g2
  have HG5 := Lib.hid g5
  have HV := Lib.hid hv
  have HSO := Lib.hid g3
  have HL := Lib.hid (show lineP p mode = setRow p (lineE p mode) from rfl)
  have HLE : Hid (lineE p mode = fun l => if mode = 0 then eraseRt l p.at_.col else if mode = 1 then eraseLt l p.at_.col else eraseAll l) := Lib.hid rfl
  have HLL : Hid (lineE p mode l = if mode = 0 then eraseRt l p.at_.col else if mode = 1 then eraseLt l p.at_.col else eraseAll l) := Lib.hid rfl
  have HLM := Lib.hid (HLW.out mode)
  generalize p.at_.col = col at *
  clear h hok hv hk hkl hq g1 g2 g3 g5 hbd HLE HLW
  go_enter Tryz.func128, Tryz.ntmps128
  go_upto_region 0 with fail
  go_cut [4] (fun s wx => s = ptr ρ ∧ Hid (Below w.heap.size w wx))
  case first =>
    refine region_begin3 (fun w' => w'.cell? ⟨π, 0, none⟩ = some (ptr γ) ∧ w'.cell? ⟨π, 1, none⟩ = some (.int .i64 (k : Int))) (fun _ => false) 11 rfl hmx (by intro _ _ d _ _ h; cases d <;> exact h) fun hQP => ?_
    have hS : w.drew.cell? ⟨π, 0, none⟩ = some (ptr γ) ∧ w.drew.cell? ⟨π, 1, none⟩ = some (.int .i64 (k : Int)) := ⟨c0, c1⟩
    clear c0 c1
    have HD : Hid (Below w.heap.size w w.drew) := Lib.hid (Below.refl _ _).drew
    generalize w.drew = w1 at *
    refine take_f 0 5 rfl rfl (by kernel_rfl) (by kernel_rfl) (by kernel_rfl) (by kernel_rfl) hQP hS (.inl ⟨by kernel_rfl, fun w' hw' => by obtain ⟨e0, e1⟩ := hw'; go_simp; try with_reducible rfl⟩) ?_
    refine take_f 1 6 rfl rfl (by kernel_rfl) (by kernel_rfl) (by kernel_rfl) (by kernel_rfl) hQP hS (.inl ⟨by kernel_rfl, fun w' hw' => by obtain ⟨e0, e1⟩ := hw'; go_simp; try with_reducible rfl⟩) ?_
    refine take_f 2 7 rfl rfl (by kernel_rfl) (by kernel_rfl) (by kernel_rfl) (by kernel_rfl) hQP hS (.inl ⟨by kernel_rfl, fun w' hw' => by obtain ⟨e0, e1⟩ := hw'; go_simp; try with_reducible rfl⟩) ?_
    refine take_f 3 8 rfl rfl (by kernel_rfl) (by kernel_rfl) (by kernel_rfl) (by kernel_rfl) hQP hS (.inl ⟨by kernel_rfl, fun w' hw' => by obtain ⟨e0, e1⟩ := hw'; go_simp; try with_reducible rfl⟩) ?_
    refine take_f 4 9 rfl rfl (by kernel_rfl) (by kernel_rfl) (by kernel_rfl) (by kernel_rfl) hQP hS (.inl ⟨by kernel_rfl, fun w' hw' => by obtain ⟨e0, e1⟩ := hw'; go_simp; try with_reducible rfl⟩) ?_
    refine take_f 5 10 rfl rfl (by kernel_rfl) (by kernel_rfl) (by kernel_rfl) (by kernel_rfl) hQP hS (.inl ⟨by kernel_rfl, fun w' hw' => by obtain ⟨e0, e1⟩ := hw'; go_simp; try with_reducible rfl⟩) ?_
    refine take_f 6 11 rfl rfl (by kernel_rfl) (by kernel_rfl) (by kernel_rfl) (by kernel_rfl) hQP hS (.inl ⟨by kernel_rfl, fun w' hw' => by obtain ⟨e0, e1⟩ := hw'; go_simp; try with_reducible rfl⟩) ?_
    refine take_f 7 12 rfl rfl (by kernel_rfl) (by kernel_rfl) (by kernel_rfl) (by kernel_rfl) hQP hS (.inl ⟨by kernel_rfl, fun w' hw' => by obtain ⟨e0, e1⟩ := hw'; go_simp; try with_reducible rfl⟩) ?_
    refine take_f 8 13 rfl rfl (by kernel_rfl) (by kernel_rfl) (by kernel_rfl) (by kernel_rfl) hQP hS (.inl ⟨by kernel_rfl, fun w' hw' => by obtain ⟨e0, e1⟩ := hw'; go_simp; try with_reducible rfl⟩) ?_
    try simp only [List.setIfInBounds_toArray, List.set_cons_succ, List.set_cons_zero]
    refine take_g (i := 9) (by kernel_rfl) rfl (by kernel_rfl) fun KQ hK => ?_
    go_wp2_with fail
    refine HRI.out.mono ?_
    rintro e wx ⟨rfl, rfl⟩
    refine hK _ _ (.inr hS) ?_
    clear hK HRI
    refine take_f 10 4 rfl rfl (by kernel_rfl) (by kernel_rfl) (by kernel_rfl) (by kernel_rfl) hQP hS (.inl ⟨by kernel_rfl, fun w' hw' => by obtain ⟨e0, e1⟩ := hw'; go_simp; try with_reducible rfl⟩) ?_
    refine take_done (by kernel_rfl) ?_ _
    try simp only [List.setIfInBounds_toArray, List.set_cons_succ, List.set_cons_zero]
    clear hS
    go_wp2_with fail
    go_meet
    exact ⟨rfl, HD⟩
  case rest =>
    obtain ⟨rfl, hwc⟩ := hcut
    have hb : Below w.heap.size w wc := hwc.out
    have T : Turn (fun _ => False) w wc := Turn.of_new hb
    have c2 := T.cell c2 id
    have HR : Hid (RowAt wc ρ κ l) := Lib.hid (HG.out.turn T (Free.no _ _) id id)
    have HB := Lib.hid hb
    have HVC := Lib.hid ((HV.out.below hb).hb)
    clear hwc hb T c0 c1 HRI
    have HFI : Hid (∀ w', RowTo wc ρ κ (lineE p mode l) w' → PenIs w' X π γ β Q (lineP p mode) W ∧ Turn X w w') := Lib.hid fun w' hr => by
      rw [HL.out]
      exact HG5.out wc w' (lineE p mode) HB.out HLM.out hr
    by_cases h0 : mode = 0
    · subst h0
      have HE := Lib.hid (HLL.out.trans (if_pos rfl))
      have HC := Lib.hid (eright_any ρ κ l wc HR.out HSO.out HVC.out col)
      go_wp2_with fail
      refine HC.out.mono ?_
      rintro e w2 ⟨rfl, hr⟩
      have HF := Lib.hid (HFI.out w2 (by rw [HE.out]; exact hr))
      clear hr
      go_wp2_with fail
      go_end0
      exact ⟨rfl, HF.out⟩
    · have z0 : (mode == 0) = false := by simpa using h0
      have HLL2 := Lib.hid (HLL.out.trans (if_neg h0))
      by_cases h1 : mode = 1
      · subst h1
        have HE := Lib.hid (HLL2.out.trans (if_pos rfl))
        have HC := Lib.hid (eleft_any ρ κ l wc HR.out HSO.out HVC.out col)
        clear h0
        go_wp2_with fail
        refine HC.out.mono ?_
        rintro e w2 ⟨rfl, hr⟩
        have HF := Lib.hid (HFI.out w2 (by rw [HE.out]; exact hr))
        clear hr
        go_wp2_with fail
        go_end0
        exact ⟨rfl, HF.out⟩
      · have z1 : (mode == 1) = false := by simpa using h1
        have HE := Lib.hid (HLL2.out.trans (if_neg h1))
        have HC := Lib.hid (eall_any ρ κ l wc HR.out HSO.out HVC.out)
        clear h0 h1
        go_wp2_with fail
        refine HC.out.mono ?_
        rintro e w2 ⟨rfl, hr⟩
        have HF := Lib.hid (HFI.out w2 (by rw [HE.out]; exact hr))
        clear hr
        go_wp2_with fail
        go_end0
        exact ⟨rfl, HF.out⟩
end Go.Proofs.YtjicdcmdgbcdcaaGreatDoor.Scr
end
section
namespace Go.Proofs.YtjicdcmdgbcdcaaGreatDoor.Scr
set_option linter.unusedSimpArgs false
set_option linter.unusedVariables false
open Go Go.RowKit Mem Turn Ring

theorem range_getD (L : List LineC) : (List.range L.length).map (fun i => L.getD i ([], false)) = L := by
  refine List.ext_getElem (by simp) fun i h1 h2 => ?_
  simp [List.getD_eq_getElem?_getD, List.getElem?_eq_getElem h2]
theorem screenK_zero (mode row : Int) (L : List LineC) : screenK mode row L 0 = L := by
  unfold screenK
  have : (fun i : Nat => if i < 0 ∧ screenHits mode row (i : Int) = true then eraseAll (L.getD i ([], false)) else L.getD i ([], false)) = fun i => L.getD i ([], false) := by
    funext i
    rw [if_neg (by omega)]
  rw [this]
  exact range_getD L
theorem screenK_get (mode row : Int) (L : List LineC) (k i : Nat) (hi : i < L.length) : (screenK mode row L k)[i]? = some (if i < k ∧ screenHits mode row i = true then eraseAll (L.getD i ([], false)) else L.getD i ([], false)) := by
  unfold screenK
  rw [List.getElem?_map, List.getElem?_range hi]
  rfl
theorem screenK_succ (mode row : Int) (L : List LineC) (k : Nat) (hk : k < L.length) : screenK mode row L (k + 1) = if screenHits mode row k = true then (screenK mode row L k).set k (eraseAll (L.getD k ([], false))) else screenK mode row L k := by
  refine List.ext_getElem? fun i => ?_
  by_cases hi : i < L.length
  · rw [screenK_get _ _ _ _ _ hi]
    by_cases hh : screenHits mode row k = true
    · rw [if_pos hh, List.getElem?_set]
      by_cases he : k = i
      · subst he
        rw [if_pos rfl, if_pos ⟨by omega, hh⟩, if_pos (by rw [screenK_len]; exact hk)]
      · rw [if_neg he, screenK_get _ _ _ _ _ hi]
        by_cases h2 : i < k
        · simp [h2, show i < k + 1 from by omega]
        · rw [if_neg (fun x => by omega), if_neg (fun x => by omega)]
    · rw [if_neg hh, screenK_get _ _ _ _ _ hi]
      by_cases h2 : i < k
      · simp [h2, show i < k + 1 from by omega]
      · by_cases h3 : i = k
        · subst h3
          rw [if_neg (fun x => hh x.2), if_neg (fun x => hh x.2)]
        · rw [if_neg (fun x => by omega), if_neg (fun x => by omega)]
  · rw [List.getElem?_eq_none (by rw [screenK_len]; omega)]
    split
    · rw [List.getElem?_eq_none (by rw [List.length_set, screenK_len]; omega)]
    · rw [List.getElem?_eq_none (by rw [screenK_len]; omega)]
/-- a row of the pen by its number, and what its own calls leave of the pen -/
theorem PenIs.there {w : World} {X : Nat → Prop} {π γ β W : Nat} {Q : List (Nat × Nat)} {p : PenC} (h : PenIs w X π γ β Q p W) (hr : RowsOK p.rows W) (k : Nat) (hkl : k < p.rows.length) :
    ∃ (ρ κ : Nat) (l : LineC), (Q.map (·.1))[k]? = some ρ ∧ p.rows[k]? = some l ∧ RowAt w ρ κ l ∧ l.1.length = W ∧ soundB l.1 = true ∧
      ∀ w' l', l'.1.length = W → RowTo w ρ κ l' w' → PenIs w' X π γ β Q { p with rows := p.rows.set k l' } W ∧ Turn X w w' := by
  obtain ⟨q, hq⟩ : ∃ q, Q[k]? = some q := ⟨_, List.getElem?_eq_getElem (by rw [h.rows.len]; exact hkl)⟩
  obtain ⟨l, hl, g1, g2, g3, g4⟩ := h.rows.line hq
  exact ⟨q.1, q.2, l, by rw [List.getElem?_map, hq]; rfl, hl, g1, g2, (hr l (List.mem_of_getElem? hl)).2, fun w' l' hf hto => h.row hq hto.1 hf hto.2⟩

set_option maxRecDepth 100000 in
set_option maxHeartbeats 16000000 in
theorem escreen_is (X : Nat → Prop) (π γ β W : Nat) (Q : List (Nat × Nat)) (p : PenC) (mode : Int) (w : World) (h : PenIs w X π γ β Q p W) (hok : PenOK p W) (hv : VarsX w X) (hm : mode = 0 ∨ mode = 1 ∨ mode = 2) :
    Calls Tryz.prog 129 #[ptr π, .int .i64 mode] w fun e w' => e = .returned (.tuple #[]) ∧ PenIs w' X π γ β Q (screenP p mode) W ∧ Turn X w w' := by
  have HLI := Lib.hid (line_is X π γ β W Q p mode w h hok hv)
  have HOK := Lib.hid (hok.lineP mode)
  obtain ⟨r0, r1, _⟩ := hok.rng
  obtain ⟨r, hr⟩ : ∃ r : Nat, p.at_.row = (r : Int) := ⟨p.at_.row.toNat, by omega⟩
  have HSP := Lib.hid (show screenP p mode = { lineP p mode with rows := screenK mode p.at_.row (lineP p mode).rows (lineP p mode).rows.length } from rfl)
  have hat : (lineP p mode).at_.row = (r : Int) := hr
  rw [hr] at HSP
  generalize lineP p mode = q at *
  have HAT := Lib.hid hat
  have HV := Lib.hid hv
  clear h hok hv hr hat r0 r1
  go_enter Tryz.func129, Tryz.ntmps129
  go_wp2_with fail
  refine HLI.out.mono ?_
  rintro e w1 ⟨rfl, hp1, ht1⟩
  obtain ⟨c0, _⟩ := hp1.cells
  have HHI : Hid (Calls Tryz.prog 37 #[ptr γ] w1 fun e w' => e = .returned (.int .i64 (q.rows.length : Int)) ∧ w1 = w') := Lib.hid (by
    have := high_any γ β _ w1 hp1.grid
    rw [List.length_map, hp1.rows.len] at this
    exact this)
  have HP1 := Lib.hid hp1
  have HT1 := Lib.hid ht1
  obtain ⟨n, hn⟩ : ∃ n, n = q.rows.length := ⟨_, rfl⟩
  have HN := Lib.hid hn
  have hnle : n ≤ 1024 := by rw [hn]; exact HOK.out.h2
  rw [← hn] at HHI
  clear hp1 ht1 HLI hn
  go_wp2_with fail
  refine HHI.out.mono ?_
  rintro e wx ⟨rfl, rfl⟩
  go_wp2_with fail
  clear c0
  go_loopg [4, 13] n (fun gg s4 i wx => ∃ k : Nat, n - k = gg ∧ k ≤ n ∧ i = .int .i64 k ∧ Hid (PenIs wx X π γ β Q { q with rows := screenK mode r q.rows k } W ∧ Turn X w wx))
  case atStart => exact ⟨0, rfl, Nat.zero_le _, rfl, Lib.hid ⟨by rw [screenK_zero]; exact HP1.out, HT1.out⟩⟩
  case round =>
    obtain ⟨k, rfl, hk, rfl, H⟩ := hrel
    by_cases hlt : k < n
    · have hlt' : (k : Int) < (n : Int) := by omega
      obtain ⟨hp, ht⟩ := H.out
      obtain ⟨c0, c1, _⟩ := hp.cells
      simp only at c1
      rw [HAT.out] at c1
      have hkl : k < q.rows.length := by rw [← HN.out]; exact hlt
      obtain ⟨ρ, κ, l, g0, gl, g1, g2, g3, g4⟩ := hp.there (screenK_ok _ _ _ _ _ HOK.out.rows) k (by show k < (screenK _ _ _ _).length; rw [screenK_len]; exact hkl)
      have HRI := Lib.hid (row_in γ β k ρ _ wr hp.grid g0)
      have HER := Lib.hid (eall_any ρ κ l wr g1 g3 (((HV.out.to ht (fun b e => .inl e)).hb)))
      have HYES : Hid (∀ w', screenHits mode r k = true → RowTo wr ρ κ (eraseAll l) w' → PenIs w' X π γ β Q { q with rows := screenK mode r q.rows (k + 1) } W ∧ Turn X w w') := Lib.hid fun w' hh hto => by
        obtain ⟨a1, a2⟩ := g4 w' (eraseAll l) (by rw [eraseAll_len]; exact g2) hto
        have hle : l = q.rows.getD k ([], false) := by
          have h1 : (screenK mode r q.rows k)[k]? = some l := gl
          rw [screenK_get _ _ _ _ _ hkl, if_neg (by omega)] at h1
          exact (Option.some.inj h1).symm
        rw [screenK_succ _ _ _ _ hkl, if_pos hh, ← hle]
        exact ⟨a1, ht.trans a2⟩
      have HNO : Hid (¬ screenHits mode r k = true → PenIs wr X π γ β Q { q with rows := screenK mode r q.rows (k + 1) } W ∧ Turn X w wr) := Lib.hid fun hh => by
        rw [screenK_succ _ _ _ _ hkl, if_neg hh]
        exact ⟨hp, ht⟩
      clear hp ht g0 gl g1 g2 g3 g4 H hkl
      have hcase : (mode = 2 ∧ screenHits mode r k = true) ∨ (mode = 0 ∧ r < k ∧ screenHits mode r k = true) ∨ (mode = 0 ∧ ¬ r < k ∧ ¬ screenHits mode r k = true) ∨ (mode = 1 ∧ k < r ∧ screenHits mode r k = true) ∨ (mode = 1 ∧ ¬ k < r ∧ ¬ screenHits mode r k = true) := by
        rcases hm with e | e | e
        · subst e
          by_cases h : r < k
          · exact .inr (.inl ⟨rfl, h, by simp [screenHits, h]⟩)
          · exact .inr (.inr (.inl ⟨rfl, h, by simp [screenHits, h]⟩))
        · subst e
          by_cases h : k < r
          · exact .inr (.inr (.inr (.inl ⟨rfl, h, by simp [screenHits, h]⟩)))
          · exact .inr (.inr (.inr (.inr ⟨rfl, h, by simp [screenHits, h]⟩)))
        · subst e
          exact .inl ⟨rfl, by simp [screenHits]⟩
      clear hm
      rcases hcase with ⟨rfl, hh⟩ | ⟨rfl, hc, hh⟩ | ⟨rfl, hc, hh⟩ | ⟨rfl, hc, hh⟩ | ⟨rfl, hc, hh⟩
      · have HH := Lib.hid hh
        clear hh
        go_wp2_with fail
        refine HRI.out.mono ?_
        rintro e wx ⟨rfl, rfl⟩
        go_wp2_with fail
        refine HER.out.mono ?_
        rintro e w2 ⟨rfl, hto⟩
        have HX := Lib.hid (HYES.out w2 HH.out hto)
        clear hto c0 c1
        go_wp2_with fail
        go_roundg (n - (k + 1))
        case measure => omega
        case rel => exact ⟨k + 1, rfl, by omega, by go_num, HX⟩
      · have HH := Lib.hid hh
        have hc' : (r : Int) < (k : Int) := by omega
        clear hh
        go_wp2_with fail
        refine HRI.out.mono ?_
        rintro e wx ⟨rfl, rfl⟩
        go_wp2_with fail
        refine HER.out.mono ?_
        rintro e w2 ⟨rfl, hto⟩
        have HX := Lib.hid (HYES.out w2 HH.out hto)
        clear hto c0 c1
        go_wp2_with fail
        go_roundg (n - (k + 1))
        case measure => omega
        case rel => exact ⟨k + 1, rfl, by omega, by go_num, HX⟩
      · have HX := Lib.hid (HNO.out hh)
        have hc' : ¬ (r : Int) < (k : Int) := by omega
        clear hh
        go_wp2_with fail
        go_roundg (n - (k + 1))
        case measure => omega
        case rel => exact ⟨k + 1, rfl, by omega, by go_num, HX⟩
      · have HH := Lib.hid hh
        have hc' : (k : Int) < (r : Int) := by omega
        clear hh
        go_wp2_with fail
        refine HRI.out.mono ?_
        rintro e wx ⟨rfl, rfl⟩
        go_wp2_with fail
        refine HER.out.mono ?_
        rintro e w2 ⟨rfl, hto⟩
        have HX := Lib.hid (HYES.out w2 HH.out hto)
        clear hto c0 c1
        go_wp2_with fail
        go_roundg (n - (k + 1))
        case measure => omega
        case rel => exact ⟨k + 1, rfl, by omega, by go_num, HX⟩
      · have HX := Lib.hid (HNO.out hh)
        have hc' : ¬ (k : Int) < (r : Int) := by omega
        clear hh
        go_wp2_with fail
        go_roundg (n - (k + 1))
        case measure => omega
        case rel => exact ⟨k + 1, rfl, by omega, by go_num, HX⟩
    · have hlt' : ¬ (k : Int) < (n : Int) := by omega
      obtain rfl : k = n := by omega
      have HF : Hid (PenIs wr X π γ β Q (screenP p mode) W ∧ Turn X w wr) := Lib.hid (by
        rw [HSP.out, ← HN.out]
        exact H.out)
      clear H hm
      go_wp2_with fail
      go_end0
      exact ⟨rfl, HF.out⟩
end Go.Proofs.YtjicdcmdgbcdcaaGreatDoor.Scr
end

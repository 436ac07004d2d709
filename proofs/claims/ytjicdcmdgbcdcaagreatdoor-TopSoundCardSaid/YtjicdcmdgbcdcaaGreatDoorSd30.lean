/-
  Plain law of the screen: begun clusters, decoders, feeders, operations.
  grid.Lines.
-/
import Derived.Test.YtjicdcmdgbcdcaaGreatDoorSd11
import Derived.Test.YtjicdcmdgbcdcaaGreatDoorSd14
import Derived.Test.YtjicdcmdgbcdcaaGreatDoorSd23
import Derived.Test.YtjicdcmdgbcdcaaGreatDoorSd28

section
namespace Go.Proofs.YtjicdcmdgbcdcaaGreatDoor.Scr
set_option linter.unusedSimpArgs false
set_option linter.unusedVariables false
open Seg (P4 St)

/-- a begun cluster: where it stands, its width, its numbers, its gauge -/
structure CluC where
  at_ : Cur
  wide : Int
  text : List Int
  ga : Cw.Ga
def gaN (ga : Cw.Ga) (r : Int) (x : P4) : Cw.Ga := Cw.next ga (fixR r) x.br x.pi x.ea
def beginC (p : PenC) (r : Int) (x : P4) (W : Nat) : PenC × CluC :=
  (putP p (Cw.wid (gaN Cw.zero r x).wide) [fixR r] W, ⟨putA p (Cw.wid (gaN Cw.zero r x).wide) W, Cw.wid (gaN Cw.zero r x).wide, [fixR r], gaN Cw.zero r x⟩)
def addRow (p : PenC) (c : CluC) (r : Int) : PenC := { p with rows := p.rows.set c.at_.row.toNat (addC (p.rows.getD c.at_.row.toNat ([], false)) c.at_.col.toNat r) }
def joinC (p : PenC) (c : CluC) (r : Int) (x : P4) (W : Nat) : PenC × CluC :=
  if c.text.length = 16 then (p, c)
  else if Cw.wid (gaN c.ga r x).wide = c.wide then
    (if c.wide ≤ W then addRow p c r else p, { c with text := c.text ++ [fixR r], ga := gaN c.ga r x })
  else
    (putP { p with at_ := c.at_ } (Cw.wid (gaN c.ga r x).wide) (c.text ++ [fixR r]) W,
     ⟨putA { p with at_ := c.at_ } (Cw.wid (gaN c.ga r x).wide) W, Cw.wid (gaN c.ga r x).wide, c.text ++ [fixR r], gaN c.ga r x⟩)

/-- a decoder -/
structure DecC where
  held : Int
  needs : Int
  lo : Int
  hi : Int
  bits : Int
deriving DecidableEq
def DecC.zero : DecC := ⟨0, 0, 0, 0, 0⟩
def bitsN (b : Int) : Int := if leadN b = 0 then 0 else if leadN b = 1 then b else b % (if leadN b = 2 then 32 else if leadN b = 3 then 16 else 8)
def beginD (d : DecC) (b : Int) : DecC × List Int :=
  if leadN b = 0 then (d, [65533]) else if leadN b = 1 then (d, [b]) else (⟨1, leadN b - 1, (secondN b).1, (secondN b).2, bitsN b⟩, [])
def stepD (d : DecC) (b : Int) : DecC × List Int :=
  if d.held = 0 then beginD d b
  else if b < d.lo ∨ d.hi < b then ((beginD .zero b).1, 65533 :: (beginD .zero b).2)
  else if 1 < d.needs then (⟨d.held + 1, d.needs - 1, 128, 191, d.bits * 64 + b % 64⟩, [])
  else (.zero, [d.bits * 64 + b % 64])
def flushD (d : DecC) : List Int := if d.held = 0 then [] else [65533]
/-- what a decoder may hold -/
def DecOK (d : DecC) : Prop := d = .zero ∨ (1 ≤ d.held ∧ d.held ≤ 3 ∧ 1 ≤ d.needs ∧ d.needs ≤ 3 ∧ d.held + d.needs ≤ 4 ∧ 0 ≤ d.lo ∧ d.lo ≤ 255 ∧ 0 ≤ d.hi ∧ d.hi ≤ 255 ∧ 0 ≤ d.bits ∧ (d.needs = 3 → d.bits < 8) ∧ (d.needs = 2 → d.bits < 512) ∧ (d.needs = 1 → d.bits < 32768))

/-- a feeder -/
structure FeedC where
  pen : PenC
  dec : DecC
  seg : St
  opn : Option CluC
noncomputable def propR (r : Int) : P4 := ⟨Gcb.val r, Pict.isB r, Conj.val r, East.val r⟩
def ctrlP (p : PenC) (r : Int) (W : Nat) : PenC :=
  if r = 13 then { p with at_ := returnC p.at_ } else if r = 10 then newLineP p W else if r = 8 then { p with at_ := backC p.at_ } else p
def closeF (f : FeedC) : FeedC := { f with seg := Seg.zero, opn := none }
noncomputable def comesF (f : FeedC) (r : Int) (W : Nat) : FeedC :=
  if Basew.silentB r then { closeF f with pen := ctrlP f.pen r W }
  else match f.opn with
    | some c =>
      if Seg.joinB f.seg (propR r).br (propR r).pi (propR r).co then
        { f with pen := (joinC f.pen c r (propR r) W).1, seg := Seg.next f.seg (propR r).br (propR r).pi (propR r).co, opn := some (joinC f.pen c r (propR r) W).2 }
      else { f with pen := (beginC f.pen r (propR r) W).1, seg := Seg.next f.seg (propR r).br (propR r).pi (propR r).co, opn := some (beginC f.pen r (propR r) W).2 }
    | none => { f with pen := (beginC f.pen r (propR r) W).1, seg := Seg.next f.seg (propR r).br (propR r).pi (propR r).co, opn := some (beginC f.pen r (propR r) W).2 }
noncomputable def allF (W : Nat) (f : FeedC) : List Int → FeedC
  | [] => f
  | r :: l => allF W (comesF f r W) l
noncomputable def byteF (W : Nat) (f : FeedC) (b : Int) : FeedC := allF W { f with dec := (stepD f.dec b).1 } (stepD f.dec b).2
noncomputable def bytesF (W : Nat) (f : FeedC) : List Int → FeedC
  | [] => f
  | b :: l => bytesF W (byteF W f b) l
noncomputable def flushF (W : Nat) (f : FeedC) : FeedC := closeF (allF W { f with dec := .zero } (flushD f.dec))

/-! what is kept -/
theorem wid_two (b : Bool) : Cw.wid b = 1 ∨ Cw.wid b = 2 := by cases b <;> simp [Cw.wid]
/-- an open cluster in order -/
structure OpenOK (p : PenC) (c : CluC) (W : Nat) : Prop where
  ne : c.text ≠ []
  le : c.text.length ≤ 16
  val : ∀ r ∈ c.text, validB r = true
  w : c.wide = 1 ∨ c.wide = 2
  row0 : 0 ≤ c.at_.row
  row1 : c.at_.row < p.rows.length
  col0 : 0 ≤ c.at_.col
  col1 : c.at_.col < W
  pend : c.at_.pend = false
  cell : c.wide ≤ W → (p.rows.getD c.at_.row.toNat ([], false)).1.getD c.at_.col.toNat blank = (c.wide, c.text)
theorem fix_map {t : List Int} (h : ∀ r ∈ t, validB r = true) : t.map fixR = t := by
  have : t.map fixR = t.map id := List.map_congr_left fun r hr => fixR_id (h r hr)
  rw [this, List.map_id]
theorem open_put {p : PenC} {W : Nat} (h : PenOK p W) (wide : Int) (t : List Int) (ga : Cw.Ga) (hw : wide = 1 ∨ wide = 2) (ht : t ≠ []) (hl : t.length ≤ 16) (hv : ∀ r ∈ t, validB r = true) :
    OpenOK (putP p wide t W) ⟨putA p wide W, wide, t, ga⟩ W := by
  have hw2 := wideP_two wide W
  obtain ⟨h1, h2⟩ := h.room (wideP wide W) hw2
  obtain ⟨r0, r1, c0, c1, _⟩ := h1.rng
  refine ⟨ht, hl, hv, hw, r0, by rw [putP_len]; exact r1, c0, by show (roomP p (wideP wide W) W).at_.col < _; exact c1, rfl, fun hle => ?_⟩
  have := putRow_cell h1 (wideP wide W) (textP wide t W) (hw2.imp id (·.1)) h2 (textP_ne _ _ _ ht)
  rw [wideP_id hw hle, textP_id hw hle] at this
  have e2 : (t.take 16).map fixR = t := by rw [List.take_of_length_le hl]; exact fix_map hv
  rw [e2] at this
  show ((putP p wide t W).rows.getD (roomP p (wideP wide W) W).at_.row.toNat ([], false)).1.getD (roomP p (wideP wide W) W).at_.col.toNat blank = _
  unfold putP
  rw [wideP_id hw hle, textP_id hw hle]
  exact this
theorem beginC_ok {p : PenC} {W : Nat} (h : PenOK p W) (r : Int) (x : P4) : PenOK (beginC p r x W).1 W ∧ OpenOK (beginC p r x W).1 (beginC p r x W).2 W :=
  ⟨h.put _ _ (by simp), open_put h _ _ _ (wid_two _) (by simp) (by simp) (by intro y hy; simp at hy; subst hy; exact fixR_valid r)⟩
theorem OpenOK.pen {p : PenC} {c : CluC} {W : Nat} (h : PenOK p W) (o : OpenOK p c W) : PenOK { p with at_ := c.at_ } W := by
  have h1 := h.w1; have h2 := h.w2; have h3 := h.h1; have h4 := h.h2
  exact ⟨h1, h2, h3, h4, h.rows, held_of (by omega) (by omega) (by simp only; omega) (by simp only; omega) o.row0 o.row1 o.col0 o.col1 (fun x => by simp only at x; rw [o.pend] at x; cases x)⟩
/-- what mark.Add leaves -/
theorem addC_ok {l : LineC} {c : Nat} {x : Int} {k : Int} {t : List Int} (hs : soundB l.1 = true) (hc : c < l.1.length) (hk : k = 1 ∨ k = 2) (he : l.1.getD c blank = (k, t)) (hv : ∀ r ∈ t, validB r = true) (ht : t.length < 16) :
    (addC l c x).1.length = l.1.length ∧ soundB (addC l c x).1 = true ∧ (addC l c x).1.getD c blank = (k, t ++ [fixR x]) := by
  have hkd : kindAt l.1 c = k := by unfold kindAt; rw [he]
  have e : addC l c x = paintN l c (ofC k (t ++ [x])) := by
    unfold addC
    rw [he, hkd, if_neg (by simp only; omega)]
  have hlen : (ofC k (t ++ [x])).length = if 2 ≤ k then 2 else 1 := ofC_len _ _
  have hroom : c + (ofC k (t ++ [x])).length ≤ l.1.length := by
    rw [hlen]
    rcases hk with e' | e'
    · subst e'; simp; omega
    · subst e'
      have h3 := (((sound_iff _).1 hs).2.2 c).1 hkd
      have : c + 1 < l.1.length := by
        rcases Nat.lt_or_ge (c + 1) l.1.length with h4 | h4
        · exact h4
        · rw [kindAt_out _ _ h4] at h3
          cases h3
      simp; omega
  have hne : ofC k (t ++ [x]) ≠ [] := fun h0 => by
    rw [h0] at hlen
    simp at hlen
    split at hlen <;> omega
  refine ⟨by rw [e, paintN_len], by rw [e]; exact paintN_sound _ _ _ hroom hne hs (ofC_sound _ _ (by simp)), ?_⟩
  rw [e, paintN_get _ _ _ _ hroom (sound_first hs), if_pos ⟨Nat.le_refl _, by rw [hlen]; split <;> omega⟩, Nat.sub_self, ofC_first k _ hk (by simp)]
  rw [List.take_of_length_le (by simp; omega), List.map_append, fix_map hv]
  rfl
theorem joinC_ok {p : PenC} {c : CluC} {W : Nat} (h : PenOK p W) (o : OpenOK p c W) (r : Int) (x : P4) : PenOK (joinC p c r x W).1 W ∧ OpenOK (joinC p c r x W).1 (joinC p c r x W).2 W := by
  have hv : ∀ y ∈ c.text ++ [fixR r], validB y = true := fun y hy => by
    rcases List.mem_append.1 hy with e | e
    · exact o.val y e
    · simp at e; subst e; exact fixR_valid r
  have hle := o.le
  unfold joinC
  split
  · exact ⟨h, o⟩
  · rename_i h16
    split
    · rename_i hw
      split
      · rename_i hW
        have hm : p.rows.getD c.at_.row.toNat ([], false) ∈ p.rows := getD_mem (by have := o.row0; have := o.row1; omega)
        obtain ⟨l1, l2⟩ := h.rows _ hm
        have hc : c.at_.col.toNat < (p.rows.getD c.at_.row.toNat ([], false)).1.length := by have := o.col0; have := o.col1; omega
        obtain ⟨a1, a2, a3⟩ := addC_ok (x := r) l2 hc o.w (o.cell hW) o.val (by omega)
        refine ⟨⟨h.w1, h.w2, by unfold addRow; simp only [List.length_set]; exact h.h1, by unfold addRow; simp only [List.length_set]; exact h.h2, h.rows.set ⟨by rw [a1]; exact l1, a2⟩, by unfold addRow; simp only [List.length_set]; exact h.held⟩, ?_⟩
        refine ⟨by simp, by simp; omega, hv, o.w, o.row0, by unfold addRow; simp only [List.length_set]; exact o.row1, o.col0, o.col1, o.pend, fun _ => ?_⟩
        unfold addRow
        simp only
        rw [List.getD_eq_getElem?_getD (l := p.rows.set _ _), List.getElem?_set_self (by have := o.row0; have := o.row1; omega)]
        exact a3
      · rename_i hW
        exact ⟨h, ⟨by simp, by simp; omega, hv, o.w, o.row0, o.row1, o.col0, o.col1, o.pend, fun hx => absurd hx hW⟩⟩
    · exact ⟨(o.pen h).put _ _ (by simp), open_put (o.pen h) _ _ _ (wid_two _) (by simp) (by simp; omega) hv⟩

theorem ctrl_ok {p : PenC} {W : Nat} (h : PenOK p W) (r : Int) : PenOK (ctrlP p r W) W := by
  obtain ⟨r0, r1, c0, c1, _⟩ := h.rng
  have h1 := h.w1; have h2 := h.w2; have h3 := h.h1; have h4 := h.h2
  unfold ctrlP
  split
  · exact h.ret
  · split
    · exact h.newLine
    · split
      · exact ⟨h1, h2, h3, h4, h.rows, held_of (by omega) (by omega) (by simp only; omega) (by simp only; omega) (by unfold backC; exact r0) (by unfold backC; exact r1) (by unfold backC; simp only; split <;> omega) (by unfold backC; simp only; split <;> omega) (fun x => by unfold backC at x; cases x)⟩
      · exact h

theorem lead_rng (b : Int) : 0 ≤ leadN b ∧ leadN b ≤ 4 := by unfold leadN; repeat' split <;> omega
theorem beginD_ok (b : Int) (h0 : 0 ≤ b) (h1 : b ≤ 255) : DecOK (beginD .zero b).1 ∧ ∀ r ∈ (beginD .zero b).2, 0 ≤ r ∧ r ≤ 2097151 := by
  have hl := lead_rng b
  unfold beginD
  split
  · exact ⟨.inl rfl, by intro r hr; simp at hr; omega⟩
  · split
    · exact ⟨.inl rfl, by intro r hr; simp at hr; omega⟩
    · rename_i h2 h3
      refine ⟨.inr ?_, by simp⟩
      have hs : 0 ≤ (secondN b).1 ∧ (secondN b).1 ≤ 255 ∧ 0 ≤ (secondN b).2 ∧ (secondN b).2 ≤ 255 := by
        unfold secondN
        repeat' split
        all_goals simp
      refine ⟨by simp, by simp, by simp only; omega, by simp only; omega, by simp only; omega, hs.1, hs.2.1, hs.2.2.1, hs.2.2.2, ?_, fun e => ?_, fun e => ?_, fun e => ?_⟩
      · simp only; unfold bitsN; rw [if_neg h2, if_neg h3]; split <;> (try split) <;> omega
      · simp only at e ⊢; unfold bitsN; rw [if_neg h2, if_neg h3, if_neg (by omega), if_neg (by omega)]; omega
      · simp only at e ⊢; unfold bitsN; rw [if_neg h2, if_neg h3, if_neg (by omega), if_pos (by omega)]; omega
      · simp only at e ⊢; unfold bitsN; rw [if_neg h2, if_neg h3, if_pos (by omega)]; omega
theorem stepD_ok {d : DecC} (hd : DecOK d) (b : Int) (h0 : 0 ≤ b) (h1 : b ≤ 255) : DecOK (stepD d b).1 ∧ ∀ r ∈ (stepD d b).2, 0 ≤ r ∧ r ≤ 2097151 := by
  unfold stepD
  split
  · rename_i e
    rcases hd with rfl | hd
    · exact beginD_ok b h0 h1
    · omega
  · rename_i e
    rcases hd with rfl | ⟨a1, a2, a3, a4, a5, a6, a7, a8, a9, a10, a11, a12, a13⟩
    · exact absurd rfl e
    · split
      · obtain ⟨b1, b2⟩ := beginD_ok b h0 h1
        refine ⟨b1, fun r hr => ?_⟩
        rcases List.mem_cons.1 hr with rfl | hr
        · omega
        · exact b2 r hr
      · split
        · rename_i hn
          refine ⟨.inr ⟨by simp only; omega, by simp only; omega, by simp only; omega, by simp only; omega, by simp only; omega, by simp, by simp, by simp, by simp, by simp only; omega, fun e => ?_, fun e => ?_, fun e => ?_⟩, by simp⟩
          · simp only at e ⊢; omega
          · simp only at e ⊢; have := a11 (by omega); omega
          · simp only at e ⊢; have := a12 (by omega); omega
        · refine ⟨.inl rfl, fun r hr => ?_⟩
          simp at hr
          have := a13 (by omega)
          omega

/-- a feeder in order -/
structure FeedOK (f : FeedC) (W : Nat) : Prop where
  pen : PenOK f.pen W
  dec : DecOK f.dec
  opn : ∀ c, f.opn = some c → OpenOK f.pen c W
theorem FeedOK.close {f : FeedC} {W : Nat} (h : FeedOK f W) : FeedOK (closeF f) W := ⟨h.pen, h.dec, fun c e => by cases e⟩
theorem FeedOK.decTo {f : FeedC} {W : Nat} (h : FeedOK f W) {d : DecC} (hd : DecOK d) : FeedOK { f with dec := d } W := ⟨h.pen, hd, h.opn⟩
theorem FeedOK.comes {f : FeedC} {W : Nat} (h : FeedOK f W) (r : Int) : FeedOK (comesF f r W) W := by
  unfold comesF
  split
  · exact ⟨ctrl_ok h.pen r, h.dec, fun c e => by cases e⟩
  · split
    · rename_i c hc
      split
      · obtain ⟨a, b⟩ := joinC_ok h.pen (h.opn c hc) r (propR r)
        exact ⟨a, h.dec, fun c' e => by injection e with e; subst e; exact b⟩
      · obtain ⟨a, b⟩ := beginC_ok h.pen r (propR r)
        exact ⟨a, h.dec, fun c' e => by injection e with e; subst e; exact b⟩
    · obtain ⟨a, b⟩ := beginC_ok h.pen r (propR r)
      exact ⟨a, h.dec, fun c' e => by injection e with e; subst e; exact b⟩
theorem FeedOK.all {W : Nat} (l : List Int) : ∀ {f : FeedC}, FeedOK f W → FeedOK (allF W f l) W := by
  induction l with
  | nil => exact fun h => h
  | cons r l ih => exact fun h => ih (h.comes r)
theorem FeedOK.byte {f : FeedC} {W : Nat} (h : FeedOK f W) (b : Int) (h0 : 0 ≤ b) (h1 : b ≤ 255) : FeedOK (byteF W f b) W :=
  FeedOK.all _ (h.decTo (stepD_ok h.dec b h0 h1).1)
theorem FeedOK.bytes {W : Nat} (l : List Int) : ∀ {f : FeedC}, (∀ b ∈ l, 0 ≤ b ∧ b ≤ 255) → FeedOK f W → FeedOK (bytesF W f l) W := by
  induction l with
  | nil => exact fun _ h => h
  | cons b l ih => exact fun hb h => ih (fun x hx => hb x (by simp [hx])) (h.byte b (hb b (by simp)).1 (hb b (by simp)).2)
theorem FeedOK.flush {f : FeedC} {W : Nat} (h : FeedOK f W) : FeedOK (flushF W f) W := (FeedOK.all _ (h.decTo (.inl rfl))).close

/-! operations -/
structure OpC where
  kind : Int
  a : Int
  b : Int
  bytes : List Int
structure ScrC where
  f : FeedC
  W : Nat
noncomputable def doS (s : ScrC) (o : OpC) : ScrC :=
  if o.kind = 0 then { s with f := bytesF s.W s.f o.bytes }
  else if o.kind = 1 then { s with f := flushF s.W s.f }
  else if o.kind = 13 then ⟨{ closeF s.f with pen := sizeP s.f.pen o.a o.b }, sizeW o.a⟩
  else if wrongE o.kind o.a = 0 then { s with f := { closeF s.f with pen := editP s.f.pen o.kind o.a o.b s.W } }
  else s
theorem doS_ok {s : ScrC} (h : FeedOK s.f s.W) (o : OpC) (hb : ∀ b ∈ o.bytes, 0 ≤ b ∧ b ≤ 255) : FeedOK (doS s o).f (doS s o).W := by
  unfold doS
  split
  · exact FeedOK.bytes _ hb h
  · split
    · exact h.flush
    · split
      · exact ⟨h.pen.size _ _, h.dec, fun c e => by cases e⟩
      · split
        · exact ⟨h.pen.edit _ _ _, h.dec, fun c e => by cases e⟩
        · exact h
def newS (w h : Int) : ScrC := ⟨⟨⟨List.replicate (sizeW h) (blanks (sizeW w), false), ⟨0, 0, false⟩, true⟩, .zero, Seg.zero, none⟩, sizeW w⟩
theorem newS_ok (w h : Int) : FeedOK (newS w h).f (newS w h).W := by
  have a := sizeW_rng w
  have b := sizeW_rng h
  refine ⟨⟨a.1, a.2, by simp [newS]; exact b.1, by simp [newS]; exact b.2, RowsOK.blanks _ _, ?_⟩, .inl rfl, fun c e => by cases e⟩
  simp only [newS, List.length_replicate]
  exact held_of (by omega) (by omega) (by omega) (by omega) (by simp) (by simp; omega) (by simp) (by simp; omega) (fun x => by cases x)

/-- how many numbers cells have -/
def usedL (l : List CellC) : Nat := (l.map fun c => c.2.length).sum
def usedR (L : List LineC) : Nat := (L.map fun l => usedL l.1).sum
theorem usedL_le {l : List CellC} (h : soundB l = true) : usedL l ≤ l.length * 16 := by
  have hr := (right_mem (l := l)).2 ((sound_iff _).1 h).1
  clear h
  induction l with
  | nil => simp [usedL]
  | cons c l ih =>
    have h1 : c.2.length ≤ 16 := by
      have := hr c (by simp)
      unfold rightB at this
      split at this
      · simp at this; simp [this]
      · split at this
        · simp at this; omega
        · cases this
    have h2 := ih (fun x hx => hr x (by simp [hx]))
    unfold usedL at h2 ⊢
    simp only [List.map_cons, List.sum_cons, List.length_cons]
    omega
theorem usedR_le {L : List LineC} {W : Nat} (h : RowsOK L W) : usedR L ≤ L.length * (W * 16) := by
  induction L with
  | nil => simp [usedR]
  | cons l L ih =>
    have h1 := h l (by simp)
    have h2 := usedL_le h1.2
    rw [h1.1] at h2
    have h3 := ih (fun x hx => h x (by simp [hx]))
    unfold usedR at h3 ⊢
    simp only [List.map_cons, List.sum_cons, List.length_cons, Nat.succ_mul]
    omega
end Go.Proofs.YtjicdcmdgbcdcaaGreatDoor.Scr
end
section
namespace Go.Proofs.YtjicdcmdgbcdcaaGreatDoor.Scr
set_option linter.unusedSimpArgs false
set_option linter.unusedVariables false
open Go Go.RowKit Mem Turn Ring

/-- cells that nobody writes: told by their blocks' types -/
def CellsT (w : World) (v : Value) (cs : List CellC) : Prop := CellsAt (fun b => Typ w 80 b ∨ Typ w 21 b) False w v cs
theorem CellsT.turn {w w' : World} {T : Nat → Prop} {v : Value} {cs : List CellC} (h : CellsT w v cs) (ht : Turn T w w') (h1 : Free T w 80) (h2 : Free T w 21) : CellsT w' v cs := by
  have hn : ∀ b, (Typ w 80 b ∨ Typ w 21 b) → b < w.heap.size → ¬ T b := fun b hb hl hT => hb.elim (h1 b hT hl) (h2 b hT hl)
  obtain ⟨a, c, e1, e2, e3, e4⟩ := h
  refine ⟨a, c, e1, e2, e3, e4.imp id fun ⟨b, off, e, hb, hd, hc⟩ => ⟨b, off, e, Nat.lt_of_lt_of_le hb ht.size, hd.imp (fun x => x.turn ht (hn b hd hb)) (fun x => x.turn ht (hn b hd hb)), fun j x hx => ?_⟩⟩
  obtain ⟨g1, g2, tv, g3, g4⟩ := hc j x hx
  refine ⟨ht.cell g1 (hn b hd hb), fun f => f.elim, tv, ht.cell g3 (hn b hd hb), ?_⟩
  obtain ⟨a', c', k1, k2, k3, k4⟩ := g4
  refine ⟨a', c', k1, k2, k3, k4.imp id fun ⟨b, off, e, hb, hd, hc⟩ => ⟨b, off, e, Nat.lt_of_lt_of_le hb ht.size, hd.imp (fun x => x.turn ht (hn b hd hb)) (fun x => x.turn ht (hn b hd hb)), fun j x hx => ⟨ht.cell (hc j x hx).1 (hn b hd hb), fun f => f.elim⟩⟩⟩
theorem CellsT.any {w : World} {v : Value} {cs : List CellC} (h : CellsT w v cs) : CellsAt (fun _ => True) False w v cs := CellsAt.mono h (fun _ _ _ => trivial)
theorem OwnCells.typ {B : Nat} {w : World} {v : Value} {cs : List CellC} (h : OwnCells B w v cs) (hs : cs.length ≤ 100000) : CellsT w v cs := by
  obtain ⟨rs, h1, h2⟩ := h
  have hty : ∀ g, v.ownBlock = some g → Typ w 80 g := fun g hg => owns_typ h1 hg
  obtain ⟨a, c, rfl, h3, h4⟩ := own_form h1
  refine ⟨a, c, rfl, h3, by omega, h4.imp id fun ⟨g, e, e2, hb, hg, hf, hc⟩ => ⟨g, 0, e, hg, .inl (hty g e2), fun j x hx => ?_⟩⟩
  obtain ⟨r, hr⟩ : ∃ r, rs[j]? = some r := ⟨_, List.getElem?_eq_getElem (by rw [h2.1]; exact (List.getElem?_eq_some_iff.1 hx).1)⟩
  obtain ⟨e1, e3⟩ := h2.2 j r x hr hx
  obtain ⟨g1, g2⟩ := flatC_get hr
  rw [Nat.zero_add]
  exact ⟨by rw [← e1]; exact hc _ _ g1, fun f => f.elim, r.2, hc _ _ g2, TextAt.mono e3 (fun b hb _ => .inr hb)⟩
/-- rows of lines -/
def LinesOf (w : World) (rs : List (Value × Bool)) (ls : List LineC) : Prop :=
  rs.length = ls.length ∧ ∀ (j : Nat) (r : Value × Bool) (x : LineC), rs[j]? = some r → ls[j]? = some x → r.2 = x.2 ∧ CellsT w r.1 x.1
theorem LinesOf.turn {w w' : World} {T : Nat → Prop} {rs : List (Value × Bool)} {ls : List LineC} (h : LinesOf w rs ls) (ht : Turn T w w') (h1 : Free T w 80) (h2 : Free T w 21) : LinesOf w' rs ls :=
  ⟨h.1, fun j r x hr hx => ⟨(h.2 j r x hr hx).1, (h.2 j r x hr hx).2.turn ht h1 h2⟩⟩
theorem LinesOf.snoc {w : World} {rs : List (Value × Bool)} {ls : List LineC} {v : Value} {l : LineC} (h : LinesOf w rs ls) (hv : CellsT w v l.1) : LinesOf w (rs ++ [(v, l.2)]) (ls ++ [l]) := by
  refine ⟨by simp [h.1], fun j r x hr hx => ?_⟩
  by_cases hj : j < rs.length
  · rw [List.getElem?_append_left hj] at hr
    rw [List.getElem?_append_left (by rw [← h.1]; exact hj)] at hx
    exact h.2 j r x hr hx
  · have hj2 := (List.getElem?_eq_some_iff.1 hr).1
    simp at hj2
    have : j = rs.length := by omega
    subst this
    rw [List.getElem?_append_right (Nat.le_refl _), Nat.sub_self] at hr
    rw [List.getElem?_append_right (by rw [h.1]; exact Nat.le_refl _), h.1, Nat.sub_self] at hx
    simp at hr hx
    subst hr hx
    exact ⟨rfl, hv⟩
/-- the lines of a view, all of their own -/
def OwnLines (B : Nat) (w : World) (v : Value) (ls : List LineC) : Prop := ∃ rs, w.ownsRow B 45 2 v ls.length (flatL rs) ∧ LinesOf w rs ls

set_option maxRecDepth 100000 in
set_option maxHeartbeats 16000000 in
theorem lines_any (γ β W : Nat) (X : Nat → Prop) (Q : List (Nat × Nat)) (L : List LineC) (w : World) (h : GridAt w γ β (Q.map (·.1))) (hr : RowsAt w X Q L W) (hW : W ≤ 1024) :
    Calls Tryz.prog 38 #[ptr γ] w fun e w' => ∃ v, e = .returned v ∧ OwnLines w.heap.size w' v L ∧ Below w.heap.size w w' := by
  have hmx : Tryz.prog.follows .mixedOrders = true := by kernel_rfl
  obtain ⟨i0, hi, hz0, hz1, hz2⟩ := info_parts info_line
  have hln : (Q.map (·.1)).length = L.length := by rw [List.length_map, hr.len]
  have HH : Hid (Calls Tryz.prog 37 #[ptr γ] w fun e w' => e = .returned (.int .i64 (L.length : Int)) ∧ w = w') := Lib.hid (by
    have := high_any γ β _ w h
    rw [hln] at this
    exact this)
  have hle : L.length ≤ 1024 := by have := h.le; rw [hln] at this; exact this
  have HG := Lib.hid h
  have HR := Lib.hid hr
  have HHD : Hid (∃ c, L.length ≤ c ∧ w.cell? ⟨γ, 0, none⟩ = some (.slice (some ⟨β, 0, none⟩) L.length c)) := Lib.hid (by
    obtain ⟨⟨c, h3, h4⟩, _⟩ := h
    rw [hln] at h3 h4
    exact ⟨c, h3, by simp [World.cell?, h4]⟩)
  obtain ⟨n, hn⟩ : ∃ n, n = L.length := ⟨_, rfl⟩
  have HN := Lib.hid hn
  rw [← hn] at HH hle HHD
  clear h hr hln hn
  go_enter Tryz.func38, Tryz.ntmps38
  go_wp2_with fail
  refine HH.out.mono ?_
  rintro e w1 ⟨rfl, rfl⟩
  go_wp2_with fail
  go_loopg [3, 4, 7] n (fun gg v3 v4 i wx => ∃ k : Nat, n - k = gg ∧ k ≤ n ∧ i = .int .i64 k ∧ Hid (∃ rs, wx.ownsRow w.heap.size 45 2 v3 k (flatL rs) ∧ LinesOf wx rs (L.take k) ∧ Below w.heap.size w wx))
  case atStart => exact ⟨0, rfl, Nat.zero_le _, rfl, Lib.hid ⟨[], World.ownsRow_nil _ _ _ _, ⟨rfl, fun j r x hr _ => by cases hr⟩, Below.refl _ _⟩⟩
  case round =>
    obtain ⟨k, rfl, hk, rfl, H⟩ := hrel
    obtain ⟨rs, ho, hl, hb⟩ := H.out
    obtain ⟨av, cv, hav⟩ := Turn.own_slice ho
    subst hav
    by_cases hlt : k < n
    · have hlt' : (k : Int) < (n : Int) := by omega
      have T0 : Turn (fun _ => False) w wr := Turn.of_new hb
      obtain ⟨cc, hcc, g0⟩ := HHD.out
      have g0 := T0.cell g0 id
      obtain ⟨q, hq⟩ : ∃ q, Q[k]? = some q := ⟨_, List.getElem?_eq_getElem (by rw [HR.out.len, ← HN.out]; exact hlt)⟩
      obtain ⟨l, hlq, g1, g2, _, _⟩ := HR.out.line hq
      have g3 := T0.cell (HG.out.cell (i := k) (ρ := q.1) (by rw [List.getElem?_map, hq]; rfl)).1 id
      have g1 := g1.turn T0 (Free.no _ _) id id
      have HTK : Hid (L.take (k + 1) = L.take k ++ [l]) := Lib.hid (by rw [List.take_add_one, hlq]; rfl)
      have HCE := Lib.hid (cells_any q.1 q.2 l wr.drew (g1.turn (Turn.drew (fun _ => False) wr) (Free.no _ _) id id))
      have HWR : Hid (∀ w', Below wr.heap.size wr w' → Calls Tryz.prog 79 #[ptr q.1] w' fun e w2 => e = .returned (.bool l.2) ∧ w' = w2) := Lib.hid fun w' hb => wrap_any q.1 q.2 l w' (g1.turn (Turn.of_new hb : Turn (fun _ => False) wr w') (Free.no _ _) id id)
      have HO := Lib.hid ho
      have HL := Lib.hid hl
      have HB := Lib.hid hb
      have HGL : Hid (l.1.length ≤ 1024) := Lib.hid g1.le
      have hsz := hb.size
      obtain ⟨ρ, κ⟩ := q
      simp only at g3 HCE HWR
      clear ho hl hb T0 hq hlq g1 g2 H
      go_upto_region 5 with fail
      refine region_begin3 (fun w' => w'.cell? ⟨γ, 0, none⟩ = some (.slice (some ⟨β, 0, none⟩) n cc) ∧ w'.cell? ⟨β, k, none⟩ = some (ptr ρ)) (fun _ => false) 21 rfl hmx (by intro _ _ d _ _ h; cases d <;> exact h) fun hQP => ?_
      have hS : wr.drew.cell? ⟨γ, 0, none⟩ = some (.slice (some ⟨β, 0, none⟩) n cc) ∧ wr.drew.cell? ⟨β, k, none⟩ = some (ptr ρ) := ⟨g0, g3⟩
      have HD : Hid (Below wr.heap.size wr wr.drew ∧ wr.drew.heap.size = wr.heap.size) := Lib.hid ⟨(Below.refl _ _).drew, rfl⟩
      clear g0 g3
      generalize wr.drew = w1 at *
      refine take_f 0 10 rfl rfl (by kernel_rfl) (by kernel_rfl) (by kernel_rfl) (by kernel_rfl) hQP hS (.inl ⟨by kernel_rfl, fun w' hw' => by obtain ⟨e0, e1⟩ := hw'; go_simp; try with_reducible rfl⟩) ?_
      refine take_f 1 11 rfl rfl (by kernel_rfl) (by kernel_rfl) (by kernel_rfl) (by kernel_rfl) hQP hS (.inl ⟨by kernel_rfl, fun w' hw' => by obtain ⟨e0, e1⟩ := hw'; go_simp; try with_reducible rfl⟩) ?_
      refine take_f 2 12 rfl rfl (by kernel_rfl) (by kernel_rfl) (by kernel_rfl) (by kernel_rfl) hQP hS (.inl ⟨by kernel_rfl, fun w' hw' => by obtain ⟨e0, e1⟩ := hw'; go_simp; try with_reducible rfl⟩) ?_
      refine take_f 3 13 rfl rfl (by kernel_rfl) (by kernel_rfl) (by kernel_rfl) (by kernel_rfl) hQP hS (.inl ⟨by kernel_rfl, fun w' hw' => by obtain ⟨e0, e1⟩ := hw'; go_simp; try with_reducible rfl⟩) ?_
      refine take_f 4 14 rfl rfl (by kernel_rfl) (by kernel_rfl) (by kernel_rfl) (by kernel_rfl) hQP hS (.inl ⟨by kernel_rfl, fun w' hw' => by obtain ⟨e0, e1⟩ := hw'; go_simp; try with_reducible rfl⟩) ?_
      refine take_f 5 15 rfl rfl (by kernel_rfl) (by kernel_rfl) (by kernel_rfl) (by kernel_rfl) hQP hS (.inl ⟨by kernel_rfl, fun w' hw' => by obtain ⟨e0, e1⟩ := hw'; go_simp; try with_reducible rfl⟩) ?_
      refine take_f 6 16 rfl rfl (by kernel_rfl) (by kernel_rfl) (by kernel_rfl) (by kernel_rfl) hQP hS (.inl ⟨by kernel_rfl, fun w' hw' => by obtain ⟨e0, e1⟩ := hw'; go_simp; try with_reducible rfl⟩) ?_
      refine take_f 7 17 rfl rfl (by kernel_rfl) (by kernel_rfl) (by kernel_rfl) (by kernel_rfl) hQP hS (.inl ⟨by kernel_rfl, fun w' hw' => by obtain ⟨e0, e1⟩ := hw'; go_simp; try with_reducible rfl⟩) ?_
      refine take_f 9 19 rfl rfl (by kernel_rfl) (by kernel_rfl) (by kernel_rfl) (by kernel_rfl) hQP hS (.inl ⟨by kernel_rfl, fun w' hw' => by obtain ⟨e0, e1⟩ := hw'; go_simp; try with_reducible rfl⟩) ?_
      refine take_f 10 20 rfl rfl (by kernel_rfl) (by kernel_rfl) (by kernel_rfl) (by kernel_rfl) hQP hS (.inl ⟨by kernel_rfl, fun w' hw' => by obtain ⟨e0, e1⟩ := hw'; go_simp; try with_reducible rfl⟩) ?_
      refine take_f 11 21 rfl rfl (by kernel_rfl) (by kernel_rfl) (by kernel_rfl) (by kernel_rfl) hQP hS (.inl ⟨by kernel_rfl, fun w' hw' => by obtain ⟨e0, e1⟩ := hw'; go_simp; try with_reducible rfl⟩) ?_
      refine take_f 12 22 rfl rfl (by kernel_rfl) (by kernel_rfl) (by kernel_rfl) (by kernel_rfl) hQP hS (.inl ⟨by kernel_rfl, fun w' hw' => by obtain ⟨e0, e1⟩ := hw'; go_simp; try with_reducible rfl⟩) ?_
      refine take_f 13 23 rfl rfl (by kernel_rfl) (by kernel_rfl) (by kernel_rfl) (by kernel_rfl) hQP hS (.inl ⟨by kernel_rfl, fun w' hw' => by obtain ⟨e0, e1⟩ := hw'; go_simp; try with_reducible rfl⟩) ?_
      refine take_f 14 24 rfl rfl (by kernel_rfl) (by kernel_rfl) (by kernel_rfl) (by kernel_rfl) hQP hS (.inl ⟨by kernel_rfl, fun w' hw' => by obtain ⟨e0, e1⟩ := hw'; go_simp; try with_reducible rfl⟩) ?_
      refine take_f 15 25 rfl rfl (by kernel_rfl) (by kernel_rfl) (by kernel_rfl) (by kernel_rfl) hQP hS (.inl ⟨by kernel_rfl, fun w' hw' => by obtain ⟨e0, e1⟩ := hw'; go_simp; try with_reducible rfl⟩) ?_
      try simp only [List.setIfInBounds_toArray, List.set_cons_succ, List.set_cons_zero]
      refine take_g (i := 8) (by kernel_rfl) rfl (by kernel_rfl) fun KQ hK => ?_
      go_wp2_with fail
      refine HCE.out.mono ?_
      rintro e w2 ⟨v2, rfl, hv2, hb2⟩
      have T2 : Turn (fun _ => False) w1 w2 := Turn.of_new hb2
      have HB2 : Hid (Below wr.heap.size wr w2) := Lib.hid (HD.out.1.trans (hb2.mono HD.out.1.size))
      have HV2 := Lib.hid (hv2.typ (by have := HGL.out; omega))
      obtain ⟨a2, c2, hve, _⟩ := id HV2.out
      subst hve
      have hS : w2.cell? ⟨γ, 0, none⟩ = some (.slice (some ⟨β, 0, none⟩) n cc) ∧ w2.cell? ⟨β, k, none⟩ = some (ptr ρ) := ⟨T2.cell hS.1 id, T2.cell hS.2 id⟩
      refine hK _ _ (.inr hS) ?_
      clear hK hv2 hb2 T2 HCE
      refine take_g (i := 16) (by kernel_rfl) rfl (by kernel_rfl) fun KQ hK => ?_
      go_wp2_with fail
      refine (HWR.out _ HB2.out).mono ?_
      rintro e wx ⟨rfl, rfl⟩
      refine hK _ _ (.inr hS) ?_
      clear hK HWR
      refine take_f 17 27 rfl rfl (by kernel_rfl) (by kernel_rfl) (by kernel_rfl) (by kernel_rfl) hQP hS (.inl ⟨by kernel_rfl, fun w' hw' => by obtain ⟨e0, e1⟩ := hw'; go_simp; try with_reducible rfl⟩) ?_
      try simp only [List.setIfInBounds_toArray, List.set_cons_succ, List.set_cons_zero]
      refine take_g (i := 18) (by kernel_rfl) rfl (by kernel_rfl) fun KQ hK => ?_
      go_wp2_with fail
      have T3 : Turn (fun _ => False) w2 (w2.alloc (.cells #[.slice a2 l.1.length c2, .bool l.2] 45)) := Turn.alloc _ _ _
      have hS : (w2.alloc (.cells #[.slice a2 l.1.length c2, .bool l.2] 45)).cell? ⟨γ, 0, none⟩ = some (.slice (some ⟨β, 0, none⟩) n cc) ∧ (w2.alloc (.cells #[.slice a2 l.1.length c2, .bool l.2] 45)).cell? ⟨β, k, none⟩ = some (ptr ρ) := ⟨T3.cell hS.1 id, T3.cell hS.2 id⟩
      refine hK _ _ (.inr hS) ?_
      clear hK
      have hnews : ∀ j u, [Value.slice a2 l.1.length c2, .bool l.2][j]? = some u → (w2.alloc (.cells #[.slice a2 l.1.length c2, .bool l.2] 45)).cell? ((⟨w2.heap.size, 0, none⟩ : Addr).add j) = some u := cell_new2 _ _ _ _
      have T23 : Turn (fun _ => False) wr (w2.alloc (.cells #[.slice a2 l.1.length c2, .bool l.2] 45)) := (Turn.of_new HB2.out : Turn (fun _ => False) wr w2).trans T3
      have hown3 := T23.kept HO.out (fun _ _ => id)
      have HL3 := Lib.hid (HL.out.turn T23 (Free.no _ _) (Free.no _ _))
      have HV3 := Lib.hid (HV2.out.turn T3 (Free.no _ _) (Free.no _ _))
      have HB3 := Lib.hid (HB.out.trans (T23.below hsz (fun _ h => h.elim)))
      clear T3 T23
      generalize (w2.alloc (.cells #[.slice a2 l.1.length c2, .bool l.2] 45)) = w3 at *
      refine take_append_at 19 29 (by kernel_rfl) rfl rfl rfl (.tmp 10) (.tmp 28) 34 rfl w.heap.size 45 i0 _ 2 32 Tryz.underlying34 hi hz0 hz1 hz2 rfl (by decide) (.slice av k cv) k (flatL rs) (by rfl) hown3 ⟨w2.heap.size, 0, none⟩ 1 1 [.slice a2 l.1.length c2, .bool l.2] (by rfl) rfl hnews (by intro u hu; simp at hu; rcases hu with rfl | rfl <;> rfl) (by unfold maxLen; omega) (by omega) HB3.out.size ?_
      intro v6 w6 hown6 hgrow6 _
      have HX : Hid (∃ rs, w6.ownsRow w.heap.size 45 2 v6 (k + 1) (flatL rs) ∧ LinesOf w6 rs (L.take (k + 1)) ∧ Below w.heap.size w w6) := Lib.hid (by
        have hs9 : ∀ g, (Value.slice av k cv).ownBlock = some g → Typ w3 45 g := fun g hg => owns_typ hown3 hg
        have T6 : Turn (fun j => (Value.slice av k cv).ownBlock = some j) w3 w6 := Turn.of_grown hgrow6 (fun g e => e)
        refine ⟨rs ++ [(.slice a2 l.1.length c2, l.2)], ?_, ?_, HB3.out.trans (T6.below HB3.out.size (fun j e => (hown3.lt j e).1))⟩
        · rw [flatL_app]; exact hown6
        · rw [HTK.out]
          exact (HL3.out.turn T6 (fun b hb _ => (hs9 b hb).not (by decide)) (fun b hb _ => (hs9 b hb).not (by decide))).snoc (HV3.out.turn T6 (fun b hb _ => (hs9 b hb).not (by decide)) (fun b hb _ => (hs9 b hb).not (by decide))))
      have hγβ : γ < w.heap.size ∧ β < w.heap.size := ⟨HG.out.typ1.lt, HG.out.typ2.lt⟩
      have T6 : Turn (fun j => (Value.slice av k cv).ownBlock = some j) w3 w6 := Turn.of_grown hgrow6 (fun g e => e)
      have hS : w6.cell? ⟨γ, 0, none⟩ = some (.slice (some ⟨β, 0, none⟩) n cc) ∧ w6.cell? ⟨β, k, none⟩ = some (ptr ρ) := ⟨T6.cell hS.1 (fun e => by have := (hown3.lt _ e).1; simp only at this; omega), T6.cell hS.2 (fun e => by have := (hown3.lt _ e).1; simp only at this; omega)⟩
      refine ⟨.inr hS, ?_⟩
      obtain ⟨a6, c6, rfl⟩ := Turn.own_slice hown6
      clear hown6 hgrow6 T6 hown3 hnews HL3 HV3 HO HL hγβ
      refine take_f 20 3 rfl rfl (by kernel_rfl) (by kernel_rfl) (by kernel_rfl) (by kernel_rfl) hQP hS (.inl ⟨by kernel_rfl, fun w' hw' => by obtain ⟨e0, e1⟩ := hw'; go_simp; try with_reducible rfl⟩) ?_
      refine take_done (by kernel_rfl) ?_ _
      try simp only [List.setIfInBounds_toArray, List.set_cons_succ, List.set_cons_zero]
      clear hS
      go_wp2_with fail
      go_roundg (n - (k + 1))
      case measure => omega
      case rel => exact ⟨k + 1, rfl, by omega, by go_num, HX⟩
    · obtain rfl : k = n := by omega
      have HF : Hid (∃ v, v = Value.slice av k cv ∧ OwnLines w.heap.size wr v L ∧ Below w.heap.size w wr) := Lib.hid ⟨_, rfl, ⟨rs, by rw [← HN.out]; exact ho, by rw [HN.out, List.take_length] at hl; exact hl⟩, hb⟩
      clear ho hl hb H
      go_wp2_with fail
      go_ret
      obtain ⟨v, rfl, h1, h2⟩ := HF.out
      exact ⟨_, rfl, h1, h2⟩
end Go.Proofs.YtjicdcmdgbcdcaaGreatDoor.Scr
end

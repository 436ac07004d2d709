/-
  Plain law of the screen: begun clusters, decoders, feeders, operations.
  A begun cluster in memory; widen: add.
  utfdec within a feeder, from cell 1 on: Held, Flush, begin, Step.
-/
import Derived.Test.YtjicdcmdgbcdcaaGreatDoorCd10
import Derived.Test.YtjicdcmdgbcdcaaGreatDoorCd11
import Derived.Test.YtjicdcmdgbcdcaaGreatDoorCd15
import Derived.Test.YtjicdcmdgbcdcaaGreatDoorCd19
import Derived.Test.YtjicdcmdgbcdcaaGreatDoorCd20
import Derived.Test.YtjicdcmdgbcdcaaGreatDoorCd21

section
namespace Go.Proofs.YtjicdcmdgbcdcaaGreatDoor.Scr
set_option linter.unusedSimpArgs false
set_option linter.unusedVariables false
open Seg (P4 St)

/-- a begun cluster: where it stands, its width, its numbers, its gauge -/
structure CluC where
  at_ : Cur
  wide : Int
  text : List Int
  ga : Cw.Ga
def gaN (ga : Cw.Ga) (r : Int) (x : P4) : Cw.Ga := Cw.next ga (fixR r) x.br x.pi x.ea
def beginC (p : PenC) (r : Int) (x : P4) (W : Nat) : PenC × CluC :=
  (putP p (Cw.wid (gaN Cw.zero r x).wide) [fixR r] W, ⟨putA p (Cw.wid (gaN Cw.zero r x).wide) W, Cw.wid (gaN Cw.zero r x).wide, [fixR r], gaN Cw.zero r x⟩)
def addRow (p : PenC) (c : CluC) (r : Int) : PenC := { p with rows := p.rows.set c.at_.row.toNat (addC (p.rows.getD c.at_.row.toNat ([], false)) c.at_.col.toNat r) }
def joinC (p : PenC) (c : CluC) (r : Int) (x : P4) (W : Nat) : PenC × CluC :=
  if c.text.length = 16 then (p, c)
  else if Cw.wid (gaN c.ga r x).wide = c.wide then
    (if c.wide ≤ W then addRow p c r else p, { c with text := c.text ++ [fixR r], ga := gaN c.ga r x })
  else
    (putP { p with at_ := c.at_ } (Cw.wid (gaN c.ga r x).wide) (c.text ++ [fixR r]) W,
     ⟨putA { p with at_ := c.at_ } (Cw.wid (gaN c.ga r x).wide) W, Cw.wid (gaN c.ga r x).wide, c.text ++ [fixR r], gaN c.ga r x⟩)

/-- a decoder -/
structure DecC where
  held : Int
  needs : Int
  lo : Int
  hi : Int
  bits : Int
deriving DecidableEq
def DecC.zero : DecC := ⟨0, 0, 0, 0, 0⟩
def bitsN (b : Int) : Int := if leadN b = 0 then 0 else if leadN b = 1 then b else b % (if leadN b = 2 then 32 else if leadN b = 3 then 16 else 8)
def beginD (d : DecC) (b : Int) : DecC × List Int :=
  if leadN b = 0 then (d, [65533]) else if leadN b = 1 then (d, [b]) else (⟨1, leadN b - 1, (secondN b).1, (secondN b).2, bitsN b⟩, [])
def stepD (d : DecC) (b : Int) : DecC × List Int :=
  if d.held = 0 then beginD d b
  else if b < d.lo ∨ d.hi < b then ((beginD .zero b).1, 65533 :: (beginD .zero b).2)
  else if 1 < d.needs then (⟨d.held + 1, d.needs - 1, 128, 191, d.bits * 64 + b % 64⟩, [])
  else (.zero, [d.bits * 64 + b % 64])
def flushD (d : DecC) : List Int := if d.held = 0 then [] else [65533]
/-- what a decoder may hold -/
def DecOK (d : DecC) : Prop := d = .zero ∨ (1 ≤ d.held ∧ d.held ≤ 3 ∧ 1 ≤ d.needs ∧ d.needs ≤ 3 ∧ d.held + d.needs ≤ 4 ∧ 0 ≤ d.lo ∧ d.lo ≤ 255 ∧ 0 ≤ d.hi ∧ d.hi ≤ 255 ∧ 0 ≤ d.bits ∧ (d.needs = 3 → d.bits < 8) ∧ (d.needs = 2 → d.bits < 512) ∧ (d.needs = 1 → d.bits < 32768))

/-- a feeder -/
structure FeedC where
  pen : PenC
  dec : DecC
  seg : St
  opn : Option CluC
noncomputable def propR (r : Int) : P4 := ⟨Gcb.val r, Pict.isB r, Conj.val r, East.val r⟩
def ctrlP (p : PenC) (r : Int) (W : Nat) : PenC :=
  if r = 13 then { p with at_ := returnC p.at_ } else if r = 10 then newLineP p W else if r = 8 then { p with at_ := backC p.at_ } else p
def closeF (f : FeedC) : FeedC := { f with seg := Seg.zero, opn := none }
noncomputable def comesF (f : FeedC) (r : Int) (W : Nat) : FeedC :=
  if Basew.silentB r then { closeF f with pen := ctrlP f.pen r W }
  else match f.opn with
    | some c =>
      if Seg.joinB f.seg (propR r).br (propR r).pi (propR r).co then
        { f with pen := (joinC f.pen c r (propR r) W).1, seg := Seg.next f.seg (propR r).br (propR r).pi (propR r).co, opn := some (joinC f.pen c r (propR r) W).2 }
      else { f with pen := (beginC f.pen r (propR r) W).1, seg := Seg.next f.seg (propR r).br (propR r).pi (propR r).co, opn := some (beginC f.pen r (propR r) W).2 }
    | none => { f with pen := (beginC f.pen r (propR r) W).1, seg := Seg.next f.seg (propR r).br (propR r).pi (propR r).co, opn := some (beginC f.pen r (propR r) W).2 }
noncomputable def allF (W : Nat) (f : FeedC) : List Int → FeedC
  | [] => f
  | r :: l => allF W (comesF f r W) l
noncomputable def byteF (W : Nat) (f : FeedC) (b : Int) : FeedC := allF W { f with dec := (stepD f.dec b).1 } (stepD f.dec b).2
noncomputable def bytesF (W : Nat) (f : FeedC) : List Int → FeedC
  | [] => f
  | b :: l => bytesF W (byteF W f b) l
noncomputable def flushF (W : Nat) (f : FeedC) : FeedC := closeF (allF W { f with dec := .zero } (flushD f.dec))

/-! what is kept -/
theorem wid_two (b : Bool) : Cw.wid b = 1 ∨ Cw.wid b = 2 := by cases b <;> simp [Cw.wid]
/-- an open cluster in order -/
structure OpenOK (p : PenC) (c : CluC) (W : Nat) : Prop where
  ne : c.text ≠ []
  le : c.text.length ≤ 16
  val : ∀ r ∈ c.text, validB r = true
  w : c.wide = 1 ∨ c.wide = 2
  row0 : 0 ≤ c.at_.row
  row1 : c.at_.row < p.rows.length
  col0 : 0 ≤ c.at_.col
  col1 : c.at_.col < W
  pend : c.at_.pend = false
  cell : c.wide ≤ W → (p.rows.getD c.at_.row.toNat ([], false)).1.getD c.at_.col.toNat blank = (c.wide, c.text)
theorem fix_map {t : List Int} (h : ∀ r ∈ t, validB r = true) : t.map fixR = t := by
  have : t.map fixR = t.map id := List.map_congr_left fun r hr => fixR_id (h r hr)
  rw [this, List.map_id]
theorem open_put {p : PenC} {W : Nat} (h : PenOK p W) (wide : Int) (t : List Int) (ga : Cw.Ga) (hw : wide = 1 ∨ wide = 2) (ht : t ≠ []) (hl : t.length ≤ 16) (hv : ∀ r ∈ t, validB r = true) :
    OpenOK (putP p wide t W) ⟨putA p wide W, wide, t, ga⟩ W := by
  have hw2 := wideP_two wide W
  obtain ⟨h1, h2⟩ := h.room (wideP wide W) hw2
  obtain ⟨r0, r1, c0, c1, _⟩ := h1.rng
  refine ⟨ht, hl, hv, hw, r0, by rw [putP_len]; exact r1, c0, by show (roomP p (wideP wide W) W).at_.col < _; exact c1, rfl, fun hle => ?_⟩
  have := putRow_cell h1 (wideP wide W) (textP wide t W) (hw2.imp id (·.1)) h2 (textP_ne _ _ _ ht)
  rw [wideP_id hw hle, textP_id hw hle] at this
  have e2 : (t.take 16).map fixR = t := by rw [List.take_of_length_le hl]; exact fix_map hv
  rw [e2] at this
  show ((putP p wide t W).rows.getD (roomP p (wideP wide W) W).at_.row.toNat ([], false)).1.getD (roomP p (wideP wide W) W).at_.col.toNat blank = _
  unfold putP
  rw [wideP_id hw hle, textP_id hw hle]
  exact this
theorem beginC_ok {p : PenC} {W : Nat} (h : PenOK p W) (r : Int) (x : P4) : PenOK (beginC p r x W).1 W ∧ OpenOK (beginC p r x W).1 (beginC p r x W).2 W :=
  ⟨h.put _ _ (by simp), open_put h _ _ _ (wid_two _) (by simp) (by simp) (by intro y hy; simp at hy; subst hy; exact fixR_valid r)⟩
theorem OpenOK.pen {p : PenC} {c : CluC} {W : Nat} (h : PenOK p W) (o : OpenOK p c W) : PenOK { p with at_ := c.at_ } W := by
  have h1 := h.w1; have h2 := h.w2; have h3 := h.h1; have h4 := h.h2
  exact ⟨h1, h2, h3, h4, h.rows, held_of (by omega) (by omega) (by simp only; omega) (by simp only; omega) o.row0 o.row1 o.col0 o.col1 (fun x => by simp only at x; rw [o.pend] at x; cases x)⟩
/-- what mark.Add leaves -/
theorem addC_ok {l : LineC} {c : Nat} {x : Int} {k : Int} {t : List Int} (hs : soundB l.1 = true) (hc : c < l.1.length) (hk : k = 1 ∨ k = 2) (he : l.1.getD c blank = (k, t)) (hv : ∀ r ∈ t, validB r = true) (ht : t.length < 16) :
    (addC l c x).1.length = l.1.length ∧ soundB (addC l c x).1 = true ∧ (addC l c x).1.getD c blank = (k, t ++ [fixR x]) := by
  have hkd : kindAt l.1 c = k := by unfold kindAt; rw [he]
  have e : addC l c x = paintN l c (ofC k (t ++ [x])) := by
    unfold addC
    rw [he, hkd, if_neg (by simp only; omega)]
  have hlen : (ofC k (t ++ [x])).length = if 2 ≤ k then 2 else 1 := ofC_len _ _
  have hroom : c + (ofC k (t ++ [x])).length ≤ l.1.length := by
    rw [hlen]
    rcases hk with e' | e'
    · subst e'; simp; omega
    · subst e'
      have h3 := (((sound_iff _).1 hs).2.2 c).1 hkd
      have : c + 1 < l.1.length := by
        rcases Nat.lt_or_ge (c + 1) l.1.length with h4 | h4
        · exact h4
        · rw [kindAt_out _ _ h4] at h3
          cases h3
      simp; omega
  have hne : ofC k (t ++ [x]) ≠ [] := fun h0 => by
    rw [h0] at hlen
    simp at hlen
    split at hlen <;> omega
  refine ⟨by rw [e, paintN_len], by rw [e]; exact paintN_sound _ _ _ hroom hne hs (ofC_sound _ _ (by simp)), ?_⟩
  rw [e, paintN_get _ _ _ _ hroom (sound_first hs), if_pos ⟨Nat.le_refl _, by rw [hlen]; split <;> omega⟩, Nat.sub_self, ofC_first k _ hk (by simp)]
  rw [List.take_of_length_le (by simp; omega), List.map_append, fix_map hv]
  rfl
theorem joinC_ok {p : PenC} {c : CluC} {W : Nat} (h : PenOK p W) (o : OpenOK p c W) (r : Int) (x : P4) : PenOK (joinC p c r x W).1 W ∧ OpenOK (joinC p c r x W).1 (joinC p c r x W).2 W := by
  have hv : ∀ y ∈ c.text ++ [fixR r], validB y = true := fun y hy => by
    rcases List.mem_append.1 hy with e | e
    · exact o.val y e
    · simp at e; subst e; exact fixR_valid r
  have hle := o.le
  unfold joinC
  split
  · exact ⟨h, o⟩
  · rename_i h16
    split
    · rename_i hw
      split
      · rename_i hW
        have hm : p.rows.getD c.at_.row.toNat ([], false) ∈ p.rows := getD_mem (by have := o.row0; have := o.row1; omega)
        obtain ⟨l1, l2⟩ := h.rows _ hm
        have hc : c.at_.col.toNat < (p.rows.getD c.at_.row.toNat ([], false)).1.length := by have := o.col0; have := o.col1; omega
        obtain ⟨a1, a2, a3⟩ := addC_ok (x := r) l2 hc o.w (o.cell hW) o.val (by omega)
        refine ⟨⟨h.w1, h.w2, by unfold addRow; simp only [List.length_set]; exact h.h1, by unfold addRow; simp only [List.length_set]; exact h.h2, h.rows.set ⟨by rw [a1]; exact l1, a2⟩, by unfold addRow; simp only [List.length_set]; exact h.held⟩, ?_⟩
        refine ⟨by simp, by simp; omega, hv, o.w, o.row0, by unfold addRow; simp only [List.length_set]; exact o.row1, o.col0, o.col1, o.pend, fun _ => ?_⟩
        unfold addRow
        simp only
        rw [List.getD_eq_getElem?_getD (l := p.rows.set _ _), List.getElem?_set_self (by have := o.row0; have := o.row1; omega)]
        exact a3
      · rename_i hW
        exact ⟨h, ⟨by simp, by simp; omega, hv, o.w, o.row0, o.row1, o.col0, o.col1, o.pend, fun hx => absurd hx hW⟩⟩
    · exact ⟨(o.pen h).put _ _ (by simp), open_put (o.pen h) _ _ _ (wid_two _) (by simp) (by simp; omega) hv⟩

theorem ctrl_ok {p : PenC} {W : Nat} (h : PenOK p W) (r : Int) : PenOK (ctrlP p r W) W := by
  obtain ⟨r0, r1, c0, c1, _⟩ := h.rng
  have h1 := h.w1; have h2 := h.w2; have h3 := h.h1; have h4 := h.h2
  unfold ctrlP
  split
  · exact h.ret
  · split
    · exact h.newLine
    · split
      · exact ⟨h1, h2, h3, h4, h.rows, held_of (by omega) (by omega) (by simp only; omega) (by simp only; omega) (by unfold backC; exact r0) (by unfold backC; exact r1) (by unfold backC; simp only; split <;> omega) (by unfold backC; simp only; split <;> omega) (fun x => by unfold backC at x; cases x)⟩
      · exact h

theorem lead_rng (b : Int) : 0 ≤ leadN b ∧ leadN b ≤ 4 := by unfold leadN; repeat' split <;> omega
theorem beginD_ok (b : Int) (h0 : 0 ≤ b) (h1 : b ≤ 255) : DecOK (beginD .zero b).1 ∧ ∀ r ∈ (beginD .zero b).2, 0 ≤ r ∧ r ≤ 2097151 := by
  have hl := lead_rng b
  unfold beginD
  split
  · exact ⟨.inl rfl, by intro r hr; simp at hr; omega⟩
  · split
    · exact ⟨.inl rfl, by intro r hr; simp at hr; omega⟩
    · rename_i h2 h3
      refine ⟨.inr ?_, by simp⟩
      have hs : 0 ≤ (secondN b).1 ∧ (secondN b).1 ≤ 255 ∧ 0 ≤ (secondN b).2 ∧ (secondN b).2 ≤ 255 := by
        unfold secondN
        repeat' split
        all_goals simp
      refine ⟨by simp, by simp, by simp only; omega, by simp only; omega, by simp only; omega, hs.1, hs.2.1, hs.2.2.1, hs.2.2.2, ?_, fun e => ?_, fun e => ?_, fun e => ?_⟩
      · simp only; unfold bitsN; rw [if_neg h2, if_neg h3]; split <;> (try split) <;> omega
      · simp only at e ⊢; unfold bitsN; rw [if_neg h2, if_neg h3, if_neg (by omega), if_neg (by omega)]; omega
      · simp only at e ⊢; unfold bitsN; rw [if_neg h2, if_neg h3, if_neg (by omega), if_pos (by omega)]; omega
      · simp only at e ⊢; unfold bitsN; rw [if_neg h2, if_neg h3, if_pos (by omega)]; omega
theorem stepD_ok {d : DecC} (hd : DecOK d) (b : Int) (h0 : 0 ≤ b) (h1 : b ≤ 255) : DecOK (stepD d b).1 ∧ ∀ r ∈ (stepD d b).2, 0 ≤ r ∧ r ≤ 2097151 := by
  unfold stepD
  split
  · rename_i e
    rcases hd with rfl | hd
    · exact beginD_ok b h0 h1
    · omega
  · rename_i e
    rcases hd with rfl | ⟨a1, a2, a3, a4, a5, a6, a7, a8, a9, a10, a11, a12, a13⟩
    · exact absurd rfl e
    · split
      · obtain ⟨b1, b2⟩ := beginD_ok b h0 h1
        refine ⟨b1, fun r hr => ?_⟩
        rcases List.mem_cons.1 hr with rfl | hr
        · omega
        · exact b2 r hr
      · split
        · rename_i hn
          refine ⟨.inr ⟨by simp only; omega, by simp only; omega, by simp only; omega, by simp only; omega, by simp only; omega, by simp, by simp, by simp, by simp, by simp only; omega, fun e => ?_, fun e => ?_, fun e => ?_⟩, by simp⟩
          · simp only at e ⊢; omega
          · simp only at e ⊢; have := a11 (by omega); omega
          · simp only at e ⊢; have := a12 (by omega); omega
        · refine ⟨.inl rfl, fun r hr => ?_⟩
          simp at hr
          have := a13 (by omega)
          omega

/-- a feeder in order -/
structure FeedOK (f : FeedC) (W : Nat) : Prop where
  pen : PenOK f.pen W
  dec : DecOK f.dec
  opn : ∀ c, f.opn = some c → OpenOK f.pen c W
theorem FeedOK.close {f : FeedC} {W : Nat} (h : FeedOK f W) : FeedOK (closeF f) W := ⟨h.pen, h.dec, fun c e => by cases e⟩
theorem FeedOK.decTo {f : FeedC} {W : Nat} (h : FeedOK f W) {d : DecC} (hd : DecOK d) : FeedOK { f with dec := d } W := ⟨h.pen, hd, h.opn⟩
theorem FeedOK.comes {f : FeedC} {W : Nat} (h : FeedOK f W) (r : Int) : FeedOK (comesF f r W) W := by
  unfold comesF
  split
  · exact ⟨ctrl_ok h.pen r, h.dec, fun c e => by cases e⟩
  · split
    · rename_i c hc
      split
      · obtain ⟨a, b⟩ := joinC_ok h.pen (h.opn c hc) r (propR r)
        exact ⟨a, h.dec, fun c' e => by injection e with e; subst e; exact b⟩
      · obtain ⟨a, b⟩ := beginC_ok h.pen r (propR r)
        exact ⟨a, h.dec, fun c' e => by injection e with e; subst e; exact b⟩
    · obtain ⟨a, b⟩ := beginC_ok h.pen r (propR r)
      exact ⟨a, h.dec, fun c' e => by injection e with e; subst e; exact b⟩
theorem FeedOK.all {W : Nat} (l : List Int) : ∀ {f : FeedC}, FeedOK f W → FeedOK (allF W f l) W := by
  induction l with
  | nil => exact fun h => h
  | cons r l ih => exact fun h => ih (h.comes r)
theorem FeedOK.byte {f : FeedC} {W : Nat} (h : FeedOK f W) (b : Int) (h0 : 0 ≤ b) (h1 : b ≤ 255) : FeedOK (byteF W f b) W :=
  FeedOK.all _ (h.decTo (stepD_ok h.dec b h0 h1).1)
theorem FeedOK.bytes {W : Nat} (l : List Int) : ∀ {f : FeedC}, (∀ b ∈ l, 0 ≤ b ∧ b ≤ 255) → FeedOK f W → FeedOK (bytesF W f l) W := by
  induction l with
  | nil => exact fun _ h => h
  | cons b l ih => exact fun hb h => ih (fun x hx => hb x (by simp [hx])) (h.byte b (hb b (by simp)).1 (hb b (by simp)).2)
theorem FeedOK.flush {f : FeedC} {W : Nat} (h : FeedOK f W) : FeedOK (flushF W f) W := (FeedOK.all _ (h.decTo (.inl rfl))).close

/-! operations -/
structure OpC where
  kind : Int
  a : Int
  b : Int
  bytes : List Int
structure ScrC where
  f : FeedC
  W : Nat
noncomputable def doS (s : ScrC) (o : OpC) : ScrC :=
  if o.kind = 0 then { s with f := bytesF s.W s.f o.bytes }
  else if o.kind = 1 then { s with f := flushF s.W s.f }
  else if o.kind = 13 then ⟨{ closeF s.f with pen := sizeP s.f.pen o.a o.b }, sizeW o.a⟩
  else if wrongE o.kind o.a = 0 then { s with f := { closeF s.f with pen := editP s.f.pen o.kind o.a o.b s.W } }
  else s
theorem doS_ok {s : ScrC} (h : FeedOK s.f s.W) (o : OpC) (hb : ∀ b ∈ o.bytes, 0 ≤ b ∧ b ≤ 255) : FeedOK (doS s o).f (doS s o).W := by
  unfold doS
  split
  · exact FeedOK.bytes _ hb h
  · split
    · exact h.flush
    · split
      · exact ⟨h.pen.size _ _, h.dec, fun c e => by cases e⟩
      · split
        · exact ⟨h.pen.edit _ _ _, h.dec, fun c e => by cases e⟩
        · exact h
def newS (w h : Int) : ScrC := ⟨⟨⟨List.replicate (sizeW h) (blanks (sizeW w), false), ⟨0, 0, false⟩, true⟩, .zero, Seg.zero, none⟩, sizeW w⟩
theorem newS_ok (w h : Int) : FeedOK (newS w h).f (newS w h).W := by
  have a := sizeW_rng w
  have b := sizeW_rng h
  refine ⟨⟨a.1, a.2, by simp [newS]; exact b.1, by simp [newS]; exact b.2, RowsOK.blanks _ _, ?_⟩, .inl rfl, fun c e => by cases e⟩
  simp only [newS, List.length_replicate]
  exact held_of (by omega) (by omega) (by omega) (by omega) (by simp) (by simp; omega) (by simp) (by simp; omega) (fun x => by cases x)

/-- how many numbers cells have -/
def usedL (l : List CellC) : Nat := (l.map fun c => c.2.length).sum
def usedR (L : List LineC) : Nat := (L.map fun l => usedL l.1).sum
end Go.Proofs.YtjicdcmdgbcdcaaGreatDoor.Scr
end
section
namespace Go.Proofs.YtjicdcmdgbcdcaaGreatDoor.Scr
set_option linter.unusedSimpArgs false
set_option linter.unusedVariables false
open Go Go.RowKit Mem Turn Ring
open Seg (P4 St)

/-- block q holds a begun cluster -/
def CluIs (w : World) (q : Nat) (c : CluC) : Prop :=
  c.text.length ≤ 16 ∧ w.heap[q]? = some (.cells ([Value.int .i64 c.at_.row, .int .i64 c.at_.col, .bool c.at_.pend, .int .i64 c.wide] ++ (Clu.cv c.text ++ [Value.bool c.ga.some, .bool c.ga.pict, .bool c.ga.wide])).toArray 247 (0, 0))
def kClu (c : CluC) : CluO.Fr := ⟨.int .i64 c.at_.row, .int .i64 c.at_.col, .bool c.at_.pend, .int .i64 c.wide, .bool c.ga.some, .bool c.ga.pict, .bool c.ga.wide⟩
theorem CluIs.clu {w : World} {q : Nat} {c : CluC} (h : CluIs w q c) : CluO.CAt (kClu c) w q c.text := ⟨h.1, (), h.2⟩
theorem CluIs.of_clu {w : World} {q : Nat} {c : CluC} {t : List Int} (h : CluO.CAt (kClu c) w q t) : CluIs w q { c with text := t } := by
  obtain ⟨h1, _, h2⟩ := h
  exact ⟨h1, h2⟩
def kGa (c : CluC) : GaO.Fr :=
  let g : Nat → Value := fun i => (Clu.cv c.text).getD i undef
  ⟨.int .i64 c.at_.row, .int .i64 c.at_.col, .bool c.at_.pend, .int .i64 c.wide, g 0, g 1, g 2, g 3, g 4, g 5, g 6, g 7, g 8, g 9, g 10, g 11, g 12, g 13, g 14, g 15, g 16⟩
theorem list17 (l : List Value) (h : l.length = 17) : l = [l.getD 0 undef, l.getD 1 undef, l.getD 2 undef, l.getD 3 undef, l.getD 4 undef, l.getD 5 undef, l.getD 6 undef, l.getD 7 undef, l.getD 8 undef, l.getD 9 undef, l.getD 10 undef, l.getD 11 undef, l.getD 12 undef, l.getD 13 undef, l.getD 14 undef, l.getD 15 undef, l.getD 16 undef] := by
  refine List.ext_getElem (by simp [h]) fun i h1 h2 => ?_
  have hi : i < 17 := by omega
  have : ∀ j, j < 17 → l.getD j undef = l.getD j undef := fun _ _ => rfl
  rcases i with _ | _ | _ | _ | _ | _ | _ | _ | _ | _ | _ | _ | _ | _ | _ | _ | _ | i
  all_goals first | (exfalso; omega) | (simp [List.getD_eq_getElem?_getD, List.getElem?_eq_getElem h1])
theorem cells_ga (c : CluC) (h : c.text.length ≤ 16) (s : Cw.Ga) :
    ([Value.int .i64 c.at_.row, .int .i64 c.at_.col, .bool c.at_.pend, .int .i64 c.wide] ++ (Clu.cv c.text ++ [Value.bool s.some, .bool s.pict, .bool s.wide])).toArray = (#[(kGa c).a0, (kGa c).a1, (kGa c).a2, (kGa c).a3, (kGa c).a4, (kGa c).a5, (kGa c).a6, (kGa c).a7, (kGa c).a8, (kGa c).a9, (kGa c).a10, (kGa c).a11, (kGa c).a12, (kGa c).a13, (kGa c).a14, (kGa c).a15, (kGa c).a16, (kGa c).a17, (kGa c).a18, (kGa c).a19, (kGa c).a20, Value.bool s.some, Value.bool s.pict, Value.bool s.wide] : Array Value) := by
  have := list17 (Clu.cv c.text) (Clu.cv_len h)
  unfold kGa
  simp only
  generalize Clu.cv c.text = l at *
  rw [this]
  rfl
theorem CluIs.gauge {w : World} {q : Nat} {c : CluC} (h : CluIs w q c) : GaO.At (kGa c) w q c.ga := ⟨(), by rw [h.2, cells_ga c h.1]⟩
theorem CluIs.of_ga {w : World} {q : Nat} {c : CluC} {s : Cw.Ga} (h : GaO.At (kGa c) w q s) (hl : c.text.length ≤ 16) : CluIs w q { c with ga := s } := by
  obtain ⟨_, h2⟩ := h
  exact ⟨hl, by rw [h2, cells_ga c hl]⟩
theorem CluIs.typ {w : World} {q : Nat} {c : CluC} (h : CluIs w q c) : Typ w 247 q := ⟨_, _, h.2⟩
theorem CluIs.turn {w w' : World} {T : Nat → Prop} {q : Nat} {c : CluC} (h : CluIs w q c) (ht : Turn T w w') (hT : ¬ T q) : CluIs w' q c := ⟨h.1, ht.heap h.2 hT⟩
theorem turn_but {q : Nat} {w w' : World} (h : Seg.But q w w') : Turn (fun b => b = q) w w' := ⟨h.os, h.tape, h.output, h.size, fun k hk hn => h.block k hk hn⟩
theorem size_prop (a b c d : Value) : (Tryz.prog.info? 224).map (·.size) = some (#[a, b, c, d] : Array Value).size := by kernel_rfl
abbrev prA (x : P4) : Array Value := #[.int .i64 x.br, .bool x.pi, .int .i64 x.co, .int .i64 x.ea]
abbrev prV (x : P4) : Value := .agg (prA x)

set_option maxRecDepth 100000 in
set_option maxHeartbeats 8000000 in
theorem wadd_any (q : Nat) (c : CluC) (r : Int) (x : P4) (w : World) (h : CluIs w q c) :
    Calls Tryz.prog 244 #[ptr q, .int .i32 r, prV x] w fun e w' => e = .returned (.int .i64 (Cw.wid (gaN c.ga r x).wide)) ∧ CluIs w' q { c with text := Clu.addL c.text (fixR r), ga := gaN c.ga r x } ∧ Turn (fun b => b = q) w w' := by
  have hmx : Tryz.prog.follows .mixedOrders = true := by kernel_rfl
  have e1 := heap_alloc_new w (.cells (prA x) 224)
  have T1 : Turn (fun _ => False) w (w.alloc (.cells (prA x) 224)) := Turn.alloc _ _ _
  have HQ : Hid (q < w.heap.size ∧ q ≠ w.heap.size) := Lib.hid ⟨h.typ.lt, by have := h.typ.lt; omega⟩
  have hc1 := h.turn T1 id
  have HV := Lib.hid (valid_any r (w.alloc (.cells (prA x) 224)))
  have HAD : Hid (∀ W, CluIs W q c → Calls Tryz.prog 286 #[.pointer (some ⟨q, 4, none⟩), .int .i32 (fixR r)] W fun e w' => e = .returned (.bool (decide (c.text.length < 16))) ∧ CluO.CAt (kClu c) w' q (Clu.addL c.text (fixR r)) ∧ Seg.But q W w') := Lib.hid fun W hW => CluO.add_any (kClu c) q c.text (fixR r) W hW.clu
  have HST : Hid (∀ W, CluIs W q { c with text := Clu.addL c.text (fixR r) } → Calls Tryz.prog 287 #[.pointer (some ⟨q, 21, none⟩), .int .i32 (fixR r), prV x] W fun e w' => e = .returned (.int .i64 (Cw.wid (gaN c.ga r x).wide)) ∧ CluIs w' q { c with text := Clu.addL c.text (fixR r), ga := gaN c.ga r x } ∧ Turn (fun b => b = q) W w') := Lib.hid fun W hW => by
    refine (GaO.step_any (kGa { c with text := Clu.addL c.text (fixR r) }) q c.ga (fixR r) x.br x.pi x.co x.ea W hW.gauge).mono ?_
    rintro e w' ⟨h1, h2, h3⟩
    exact ⟨h1, CluIs.of_ga (c := { c with text := Clu.addL c.text (fixR r) }) h2 hW.1, turn_but h3⟩
  have HFX := Lib.hid (show fixR r = if validB r then r else 65533 from rfl)
  have HC1 := Lib.hid hc1
  have HT1 := Lib.hid T1
  have HE1 := Lib.hid e1
  generalize fixR r = fr at *
  clear h hc1 T1 e1
  go_enter Tryz.func244, Tryz.ntmps244
  go_upto_region 1 with fail
  generalize (w.alloc (.cells #[.int .i64 x.br, .bool x.pi, .int .i64 x.co, .int .i64 x.ea] 224)) = w1 at *
  go_wp2_with fail
  refine HV.out.mono ?_
  rintro e wx ⟨rfl, rfl⟩
  cases hvb : validB r
  all_goals
    have hfx := HFX.out.symm
    rw [hvb] at hfx
    simp only [if_true, if_false, Bool.false_eq_true] at hfx
    subst hfx
    go_upto_region 3 with fail
    go_wp2_with fail
    refine (HAD.out _ HC1.out).mono ?_
    rintro e w2 ⟨rfl, hc2, hb2⟩
    have HC2 := Lib.hid (CluIs.of_clu hc2)
    have ht2 := turn_but hb2
    have HT2 := Lib.hid (HT1.out.mono (T' := fun b => b = q) (fun _ _ h => h.elim) |>.trans ht2)
    have hE2 := ht2.heap HE1.out (fun e => HQ.out.2 e.symm)
    have HST2 := Lib.hid (HST.out w2.drew (HC2.out.turn (Turn.drew (fun _ => False) w2) id))
    have HT3 : Hid (Turn (fun b => b = q) w w2.drew) := Lib.hid (HT2.out.trans (Turn.drew _ _))
    clear hc2 hb2 ht2 HC1 HT1 HE1 HV HAD HST
    go_upto_region 4 with fail
    refine region_begin3 (fun w' => w'.heap[w.heap.size]? = some (.cells (prA x) 224 (0, 0))) (fun _ => false) 7 rfl hmx (by intro _ _ d _ _ h; cases d <;> exact h) fun hQP => ?_
    have hS : w2.drew.heap[w.heap.size]? = some (.cells (prA x) 224 (0, 0)) := hE2
    clear hE2
    generalize w2.drew = w3 at *
    refine take_f 0 15 rfl rfl (by kernel_rfl) (by kernel_rfl) (by kernel_rfl) (by kernel_rfl) hQP hS (.inl ⟨by kernel_rfl, fun w' hw' => by go_simp; try with_reducible rfl⟩) ?_
    refine take_f 1 16 rfl rfl (by kernel_rfl) (by kernel_rfl) (by kernel_rfl) (by kernel_rfl) hQP hS (.inl ⟨by kernel_rfl, fun w' hw' => by go_simp; try with_reducible rfl⟩) ?_
    refine take_f 2 17 rfl rfl (by kernel_rfl) (by kernel_rfl) (by kernel_rfl) (by kernel_rfl) hQP hS (.inl ⟨by kernel_rfl, fun w' hw' => by go_simp; try with_reducible rfl⟩) ?_
    refine take_f 3 18 rfl rfl (by kernel_rfl) (by kernel_rfl) (by kernel_rfl) (by kernel_rfl) hQP hS (.inl ⟨by kernel_rfl, fun w' hw' => by go_simp; try with_reducible rfl⟩) ?_
    refine take_f 4 19 rfl rfl (by kernel_rfl) (by kernel_rfl) (by kernel_rfl) (by kernel_rfl) hQP hS (yields_load_row 224 (.tmp 5) rfl (by kernel_rfl) w.heap.size (by rfl) _ (prA x) _ _ (fun w' hw' => hw') Tryz.underlying224 rfl (size_prop _ _ _ _)) ?_
    try simp only [List.setIfInBounds_toArray, List.set_cons_succ, List.set_cons_zero]
    refine take_g (i := 5) (by kernel_rfl) rfl (by kernel_rfl) fun KQ hK => ?_
    go_wp2_with fail
    refine HST2.out.mono ?_
    rintro e w4 ⟨rfl, hc4, ht4⟩
    have HF : Hid (CluIs w4 q { c with text := Clu.addL c.text _, ga := gaN c.ga r x } ∧ Turn (fun b => b = q) w w4) := Lib.hid ⟨hc4, HT3.out.trans ht4⟩
    have hS := ht4.heap hS (fun e => HQ.out.2 e.symm)
    refine hK _ _ (.inr hS) ?_
    clear hK hc4 ht4 HST2
    refine take_f 6 6 rfl rfl (by kernel_rfl) (by kernel_rfl) (by kernel_rfl) (by kernel_rfl) hQP hS (.inl ⟨by kernel_rfl, fun w' hw' => by go_simp; try with_reducible rfl⟩) ?_
    refine take_done (by kernel_rfl) ?_ _
    try simp only [List.setIfInBounds_toArray, List.set_cons_succ, List.set_cons_zero]
    go_wp2_with fail
    go_ret
    exact ⟨rfl, HF.out⟩
end Go.Proofs.YtjicdcmdgbcdcaaGreatDoor.Scr
end
section
namespace Go.Proofs.YtjicdcmdgbcdcaaGreatDoor.Scr
set_option linter.unusedSimpArgs false
set_option linter.unusedVariables false
open Go Go.RowKit Mem Turn Ring

/-- the block's other cells -/
structure DFr where
  a0 : Value
  z0 : Value
  z1 : Value
  z2 : Value
  z3 : Value
  z4 : Value
  z5 : Value
def decL (K : DFr) (d : DecC) : List Value := [K.a0, .int .i64 d.held, .int .i64 d.needs, .int .u8 d.lo, .int .u8 d.hi, .int .i64 d.bits, K.z0, K.z1, K.z2, K.z3, K.z4, K.z5]
def DecAt (K : DFr) (w : World) (q : Nat) (d : DecC) : Prop := w.heap[q]? = some (.cells (decL K d).toArray 125 (0, 0))
theorem DecAt.turn {K : DFr} {w w' : World} {T : Nat → Prop} {q : Nat} {d : DecC} (h : DecAt K w q d) (ht : Turn T w w') (hT : ¬ T q) : DecAt K w' q d := ht.heap h hT
theorem DecAt.cells {K : DFr} {w : World} {q : Nat} {d : DecC} (h : DecAt K w q d) : w.cell? ⟨q, 1, none⟩ = some (.int .i64 d.held) ∧ w.cell? ⟨q, 2, none⟩ = some (.int .i64 d.needs) ∧ w.cell? ⟨q, 3, none⟩ = some (.int .u8 d.lo) ∧ w.cell? ⟨q, 4, none⟩ = some (.int .u8 d.hi) ∧ w.cell? ⟨q, 5, none⟩ = some (.int .i64 d.bits) ∧ ∀ j, w.frozen? ⟨q, j, none⟩ = false := by
  have h' : w.heap[q]? = _ := h
  exact ⟨by simp [World.cell?, h', decL], by simp [World.cell?, h', decL], by simp [World.cell?, h', decL], by simp [World.cell?, h', decL], by simp [World.cell?, h', decL], fun j => by simp [World.frozen?, h']⟩
theorem DecAt.typ {K : DFr} {w : World} {q : Nat} {d : DecC} (h : DecAt K w q d) : Typ w 125 q := ⟨_, _, h⟩
theorem DecAt.setHeld {K : DFr} {w : World} {q : Nat} {d : DecC} (h : DecAt K w q d) (x : Int) : DecAt K (w.setCell ⟨q, 1, none⟩ (.int .i64 x)) q { d with held := x } := by
  have := heap_set1 (cs := decL K d) h 1 (.int .i64 x)
  exact this
theorem DecAt.setNeeds {K : DFr} {w : World} {q : Nat} {d : DecC} (h : DecAt K w q d) (x : Int) : DecAt K (w.setCell ⟨q, 2, none⟩ (.int .i64 x)) q { d with needs := x } := by
  have := heap_set1 (cs := decL K d) h 2 (.int .i64 x)
  exact this
theorem DecAt.setLo {K : DFr} {w : World} {q : Nat} {d : DecC} (h : DecAt K w q d) (x : Int) : DecAt K (w.setCell ⟨q, 3, none⟩ (.int .u8 x)) q { d with lo := x } := by
  have := heap_set1 (cs := decL K d) h 3 (.int .u8 x)
  exact this
theorem DecAt.setHi {K : DFr} {w : World} {q : Nat} {d : DecC} (h : DecAt K w q d) (x : Int) : DecAt K (w.setCell ⟨q, 4, none⟩ (.int .u8 x)) q { d with hi := x } := by
  have := heap_set1 (cs := decL K d) h 4 (.int .u8 x)
  exact this
theorem DecAt.setBits {K : DFr} {w : World} {q : Nat} {d : DecC} (h : DecAt K w q d) (x : Int) : DecAt K (w.setCell ⟨q, 5, none⟩ (.int .i64 x)) q { d with bits := x } := by
  have := heap_set1 (cs := decL K d) h 5 (.int .i64 x)
  exact this
/-- what a call on a decoder leaves -/
def DecTo (K : DFr) (w : World) (q : Nat) (d : DecC) (w' : World) : Prop := DecAt K w' q d ∧ Turn (fun b => b = q) w w'

def DecRes (K : DFr) (w : World) (q : Nat) (t : List Int) (d : DecC) (e : Ending) (w' : World) : Prop := ∃ v, e = .returned v ∧ OwnTxt w w' v t ∧ DecTo K w q d w'

theorem OwnTxt.nil (w w' : World) : OwnTxt w w' (.slice none 0 0) [] := ⟨World.ownsRow_nil _ _ _ _, by simp⟩
theorem OwnTxt.lit (w w1 : World) (x : Int) (h : w.heap.size ≤ w1.heap.size) : OwnTxt w (w1.alloc (.cells #[.int .i32 x] 21)) (.slice (some ⟨w1.heap.size, 0, none⟩) 1 1) [x] :=
  ⟨⟨rfl, .inr ⟨w1.heap.size, 1, #[.int .i32 x], rfl, h, heap_alloc_new w1 _, Nat.le_refl _, by unfold maxLen; omega, rfl, rfl⟩⟩, by simp⟩

theorem dheld_any (K : DFr) (q : Nat) (d : DecC) (w : World) (h : DecAt K w q d) : Calls Tryz.prog 117 #[.pointer (some ⟨q, 1, none⟩)] w fun e w' => e = .returned (.int .i64 d.held) ∧ w = w' := by
  obtain ⟨c1, _⟩ := h.cells
  clear h
  go_enter Tryz.func117, Tryz.ntmps117
  go_wp2
  go_ret
  exact ⟨rfl, rfl⟩
/-- all set to nothing -/
def zeroW (w : World) (q : Nat) : World := ((((w.setCell ⟨q, 1, none⟩ (.int .i64 0)).setCell ⟨q, 2, none⟩ (.int .i64 0)).setCell ⟨q, 3, none⟩ (.int .u8 0)).setCell ⟨q, 4, none⟩ (.int .u8 0)).setCell ⟨q, 5, none⟩ (.int .i64 0)
theorem DecAt.zeroed {K : DFr} {w : World} {q : Nat} {d : DecC} (h : DecAt K w q d) : DecAt K (zeroW w q) q .zero := ((((h.setHeld 0).setNeeds 0).setLo 0).setHi 0).setBits 0
theorem turn_set5 (w : World) (q i : Nat) (v : Value) : Turn (fun b => b = q) w (w.setCell ⟨q, i, none⟩ v) := Turn.setCell _ _ rfl
theorem zeroW_turn (w : World) (q : Nat) : Turn (fun b => b = q) w (zeroW w q) := ((((turn_set5 _ _ _ _).trans (turn_set5 _ _ _ _)).trans (turn_set5 _ _ _ _)).trans (turn_set5 _ _ _ _)).trans (turn_set5 _ _ _ _)
set_option maxRecDepth 100000 in
set_option maxHeartbeats 4000000 in
theorem dflush_any (K : DFr) (q : Nat) (d : DecC) (w : World) (h : DecAt K w q d) (hd : DecOK d) : Calls Tryz.prog 68 #[.pointer (some ⟨q, 1, none⟩)] w (DecRes K w q (flushD d) .zero) := by
  have HH := Lib.hid (dheld_any K q d w h)
  obtain ⟨c1, c2, c3, c4, c5, f⟩ := h.cells
  have f1 := f 1
  have f2 := f 2
  have f3 := f 3
  have f4 := f 4
  have f5 := f 5
  by_cases h0 : d.held = 0
  · have HF : Hid (OwnTxt w w (.slice none 0 0) (flushD d) ∧ DecTo K w q .zero w) := Lib.hid (by
      have hz : d = .zero := by
        rcases hd with e | e
        · exact e
        · omega
      unfold flushD
      rw [if_pos h0, ← hz]
      exact ⟨OwnTxt.nil w w, h, Turn.refl _ _⟩)
    rw [h0] at HH
    clear h hd f c1 c2 c3 c4 c5 f1 f2 f3 f4 f5 h0
    go_enter Tryz.func68, Tryz.ntmps68
    go_wp2_with fail
    refine HH.out.mono ?_
    rintro e wx ⟨rfl, rfl⟩
    go_wp2_with fail
    go_ret
    exact ⟨_, rfl, HF.out⟩
  · have z : (d.held == 0) = false := by simpa using h0
    have HF : Hid (OwnTxt w ((zeroW w q).alloc (.cells #[.int .i32 65533] 21)) (.slice (some ⟨(zeroW w q).heap.size, 0, none⟩) 1 1) (flushD d) ∧ DecTo K w q .zero ((zeroW w q).alloc (.cells #[.int .i32 65533] 21))) := Lib.hid (by
      unfold flushD
      rw [if_neg h0]
      have T : Turn (fun _ => False) (zeroW w q) ((zeroW w q).alloc (.cells #[.int .i32 65533] 21)) := Turn.alloc _ _ _
      exact ⟨OwnTxt.lit w _ 65533 (zeroW_turn w q).size, h.zeroed.turn T id, (zeroW_turn w q).trans (T.mono (fun _ _ h => h.elim))⟩)
    clear hd
    generalize d.held = hd at *
    clear h f h0
    go_enter Tryz.func68, Tryz.ntmps68
    go_wp2_with fail
    refine HH.out.mono ?_
    rintro e wx ⟨rfl, rfl⟩
    go_upto_region 4 with fail
    have hw : ((((w.setCell ⟨q, 1, none⟩ (.int .i64 0)).setCell ⟨q, 2, none⟩ (.int .i64 0)).setCell ⟨q, 3, none⟩ (.int .u8 0)).setCell ⟨q, 4, none⟩ (.int .u8 0)).setCell ⟨q, 5, none⟩ (.int .i64 0) = zeroW w q := rfl
    first | rw [hw] | skip
    clear hw
    generalize zeroW w q = w2 at *
    clear c1 c2 c3 c4 c5 f1 f2 f3 f4 f5
    go_wp2_with fail
    go_ret
    exact ⟨_, rfl, HF.out⟩

theorem and_nat (m : Nat) (hm : m = 31 ∨ m = 15 ∨ m = 7 ∨ m = 63) (k : IntKind) (hk : k = .i64 ∨ k = .u8) (b : Int) (h1 : 0 ≤ b) (h2 : b ≤ 255) : bits .and k b m = b % (m + 1) := by
  obtain ⟨n, rfl⟩ : ∃ n : Nat, b = n := ⟨b.toNat, by omega⟩
  have hn : n < 256 := by omega
  have c : ∀ m ∈ [31, 15, 7, 63], ∀ k ∈ [IntKind.i64, IntKind.u8], ∀ n : Nat, n < 256 → bits .and k (n : Int) ((m : Nat) : Int) = (n : Int) % ((m : Nat) + 1) := by decide +kernel
  exact c m (by rcases hm with e | e | e | e <;> subst e <;> simp) k (by rcases hk with e | e <;> subst e <;> simp) n hn

set_option maxRecDepth 100000 in
set_option maxHeartbeats 4000000 in
theorem bits_any (b : Int) (w : World) (h1 : 0 ≤ b) (h2 : b ≤ 255) : Calls Tryz.prog 182 #[.int .u8 b] w fun e w' => e = .returned (.int .i64 (bitsN b)) ∧ w = w' := by
  have HL := Lib.hid (lead_any b w h1 h2)
  have HB := Lib.hid (show bitsN b = if leadN b = 0 then 0 else if leadN b = 1 then b else b % (if leadN b = 2 then 32 else if leadN b = 3 then 16 else 8) from rfl)
  have hr := lead_rng b
  have hc : leadN b = 0 ∨ leadN b = 1 ∨ leadN b = 2 ∨ leadN b = 3 ∨ leadN b = 4 := by omega
  rcases hc with e | e | e | e | e
  all_goals
    rw [e] at HL HB
    simp at HB
    clear hr e
    go_enter Tryz.func182, Tryz.ntmps182
    go_wp2_with fail
    refine HL.out.mono ?_
    rintro e wx ⟨rfl, rfl⟩
    go_wp2_with fail
    go_ret
    refine ⟨ret_num (by first | (rw [HB.out]; done) | (rw [HB.out]; rfl) | (rw [HB.out]; exact (and_nat 31 (by simp) .i64 (by simp) b h1 h2)) | (rw [HB.out]; exact (and_nat 15 (by simp) .i64 (by simp) b h1 h2)) | (rw [HB.out]; exact (and_nat 7 (by simp) .i64 (by simp) b h1 h2))), rfl⟩

set_option maxRecDepth 100000 in
set_option maxHeartbeats 8000000 in
theorem dbegin_any (K : DFr) (q : Nat) (d : DecC) (b : Int) (w : World) (h : DecAt K w q d) (h1 : 0 ≤ b) (h2 : b ≤ 255) :
    Calls Tryz.prog 121 #[.pointer (some ⟨q, 1, none⟩), .int .u8 b] w (DecRes K w q (beginD d b).2 (beginD d b).1) := by
  have HL := Lib.hid (lead_any b w h1 h2)
  have HBD := Lib.hid (show beginD d b = if leadN b = 0 then (d, [65533]) else if leadN b = 1 then (d, [b]) else (⟨1, leadN b - 1, (secondN b).1, (secondN b).2, bitsN b⟩, []) from rfl)
  have hr := lead_rng b
  obtain ⟨bd1, hb1⟩ : ∃ z, z = (beginD d b).1 := ⟨_, rfl⟩
  obtain ⟨bd2, hb2⟩ : ∃ z, z = (beginD d b).2 := ⟨_, rfl⟩
  rw [← hb1, ← hb2]
  by_cases e0 : leadN b = 0
  · have HF : Hid (OwnTxt w (w.alloc (.cells #[.int .i32 65533] 21)) (.slice (some ⟨w.heap.size, 0, none⟩) 1 1) bd2 ∧ DecTo K w q bd1 (w.alloc (.cells #[.int .i32 65533] 21))) := Lib.hid (by
      have T : Turn (fun _ => False) w (w.alloc (.cells #[.int .i32 65533] 21)) := Turn.alloc _ _ _
      rw [hb1, hb2, HBD.out, if_pos e0]
      exact ⟨OwnTxt.lit w w 65533 (Nat.le_refl _), h.turn T id, T.mono (fun _ _ h => h.elim)⟩)
    rw [e0] at HL
    clear h hr e0 hb1 hb2
    go_enter Tryz.func121, Tryz.ntmps121
    go_wp2_with fail
    refine HL.out.mono ?_
    rintro e wx ⟨rfl, rfl⟩
    go_wp2_with fail
    go_ret
    exact ⟨_, rfl, HF.out⟩
  · by_cases e1 : leadN b = 1
    · have hw : IntKind.i32.wrap b = b := by rw [IntKind.wrap_i32]; omega
      have HF : Hid (OwnTxt w (w.alloc (.cells #[.int .i32 b] 21)) (.slice (some ⟨w.heap.size, 0, none⟩) 1 1) bd2 ∧ DecTo K w q bd1 (w.alloc (.cells #[.int .i32 b] 21))) := Lib.hid (by
        have T : Turn (fun _ => False) w (w.alloc (.cells #[.int .i32 b] 21)) := Turn.alloc _ _ _
        rw [hb1, hb2, HBD.out, if_neg e0, if_pos e1]
        exact ⟨OwnTxt.lit w w b (Nat.le_refl _), h.turn T id, T.mono (fun _ _ h => h.elim)⟩)
      rw [e1] at HL
      clear h hr e0 e1 hb1 hb2
      go_enter Tryz.func121, Tryz.ntmps121
      go_wp2_with fail
      refine HL.out.mono ?_
      rintro e wx ⟨rfl, rfl⟩
      go_wp2_with fail
      go_ret
      exact ⟨_, rfl, HF.out⟩
    · have z0 : (leadN b == 0) = false := by simpa using e0
      have z1 : (leadN b == 1) = false := by simpa using e1
      have HBI := Lib.hid (bits_any b w h1 h2)
      have HSE : Hid (∀ w, Calls Tryz.prog 183 #[.int .u8 b] w fun e w' => e = .returned (.tuple #[.int .u8 (secondN b).1, .int .u8 (secondN b).2]) ∧ w = w') := Lib.hid fun w => second_any b w h1 h2
      have HF : Hid (OwnTxt w (((((w.setCell ⟨q, 1, none⟩ (.int .i64 1)).setCell ⟨q, 2, none⟩ (.int .i64 (leadN b - 1))).setCell ⟨q, 5, none⟩ (.int .i64 (bitsN b))).setCell ⟨q, 3, none⟩ (.int .u8 (secondN b).1)).setCell ⟨q, 4, none⟩ (.int .u8 (secondN b).2)) (.slice none 0 0) bd2 ∧ DecTo K w q bd1 (((((w.setCell ⟨q, 1, none⟩ (.int .i64 1)).setCell ⟨q, 2, none⟩ (.int .i64 (leadN b - 1))).setCell ⟨q, 5, none⟩ (.int .i64 (bitsN b))).setCell ⟨q, 3, none⟩ (.int .u8 (secondN b).1)).setCell ⟨q, 4, none⟩ (.int .u8 (secondN b).2))) := Lib.hid (by
        rw [hb1, hb2, HBD.out, if_neg e0, if_neg e1]
        exact ⟨OwnTxt.nil _ _, ((((h.setHeld 1).setNeeds _).setBits _).setLo _).setHi _, ((((turn_set5 _ _ _ _).trans (turn_set5 _ _ _ _)).trans (turn_set5 _ _ _ _)).trans (turn_set5 _ _ _ _)).trans (turn_set5 _ _ _ _)⟩)
      obtain ⟨c1, c2, c3, c4, c5, f⟩ := h.cells
      have f1 := f 1
      have f2 := f 2
      have f3 := f 3
      have f4 := f 4
      have f5 := f 5
      generalize leadN b = n at *
      generalize bitsN b = bt at *
      generalize secondN b = se at *
      obtain ⟨s1, s2⟩ := se
      have n1 : 2 ≤ n := by omega
      have n2 : n ≤ 4 := by omega
      have HFR : Hid (∀ i v j, (w.setCell ⟨q, i, none⟩ v).frozen? ⟨q, j, none⟩ = false) := Lib.hid fun i v j => by
        have := heap_set1 (cs := decL K d) h i v
        simp [World.frozen?, this]
      clear h f hr e0 e1 hb1 hb2 HBD
      go_enter Tryz.func121, Tryz.ntmps121
      go_wp2_with fail
      refine HL.out.mono ?_
      rintro e wx ⟨rfl, rfl⟩
      go_wp2_with fail
      refine HBI.out.mono ?_
      rintro e wx ⟨rfl, rfl⟩
      go_wp2_with fail
      refine (HSE.out _).mono ?_
      rintro e wx ⟨rfl, rfl⟩
      go_wp2_with fail
      go_ret
      exact ⟨_, rfl, HF.out⟩
end Go.Proofs.YtjicdcmdgbcdcaaGreatDoor.Scr
end

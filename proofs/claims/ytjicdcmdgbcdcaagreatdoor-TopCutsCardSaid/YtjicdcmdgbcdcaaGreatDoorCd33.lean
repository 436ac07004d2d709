/-
  A feeder in memory; Close, New.
  feed: comes.
  feed: all, Bytes, Flush.
-/
import Derived.Test.YtjicdcmdgbcdcaaGreatDoorCd25
import Derived.Test.YtjicdcmdgbcdcaaGreatDoorCd26
import Derived.Test.YtjicdcmdgbcdcaaGreatDoorCd27

section
namespace Go.Proofs.YtjicdcmdgbcdcaaGreatDoor.Scr
set_option linter.unusedSimpArgs false
set_option linter.unusedVariables false
open Go Go.RowKit Mem Turn Ring
open Seg (P4 St)

theorem PenIs.mono {w : World} {X X' : Nat → Prop} {π γ β : Nat} {Q : List (Nat × Nat)} {p : PenC} {W : Nat} (h : PenIs w X π γ β Q p W) (hX : ∀ b, X b → X' b) : PenIs w X' π γ β Q p W :=
  ⟨h.hdr, h.grid, h.rows.mono (fun b hb _ => hX b hb), hX _ h.xπ, hX _ h.xγ, hX _ h.xβ, h.w1, h.w2⟩
theorem PenAt.mono {w : World} {X X' : Nat → Prop} {π : Nat} {p : PenC} {W : Nat} (h : PenAt w X π p W) (hX : ∀ b, X b → X' b) : PenAt w X' π p W := by
  obtain ⟨γ, β, Q, h⟩ := h
  exact ⟨γ, β, Q, h.mono hX⟩
/-- a pen beside which something is turned -/
theorem PenAt.off {w w' : World} {X T : Nat → Prop} {π : Nat} {p : PenC} {W : Nat} (h : PenAt w X π p W) (ht : Turn T w w') (hf : Free T w 21) (hT : ∀ b, T b → ¬ PenTyp w b) : PenAt w' X π p W := by
  obtain ⟨X0, h0, h1, h2⟩ := h.exact
  exact (h0.turn ht hf (fun b hb e => hT b e (h2 b hb))).mono h1

def feedL (π : Nat) (ov : Value) (f : FeedC) : List Value := [ptr π, .int .i64 f.dec.held, .int .i64 f.dec.needs, .int .u8 f.dec.lo, .int .u8 f.dec.hi, .int .i64 f.dec.bits, .bool f.seg.some, .int .i64 f.seg.last, .int .i64 f.seg.pict, .int .i64 f.seg.conj, .bool f.seg.odd, ov]
def OpnAt (w : World) (X : Nat → Prop) (ov : Value) : Option CluC → Prop
  | none => ov = .pointer none
  | some c => ∃ q, ov = ptr q ∧ X q ∧ CluIs w q c
theorem OpnAt.turn {w w' : World} {X T : Nat → Prop} {ov : Value} {o : Option CluC} (h : OpnAt w X ov o) (ht : Turn T w w') (hT : ∀ q, T q → ¬ Typ w 247 q) : OpnAt w' X ov o := by
  cases o with
  | none => exact h
  | some c =>
    obtain ⟨q, e, hx, hc⟩ := h
    exact ⟨q, e, hx, hc.turn ht (fun x => hT q x hc.typ)⟩
theorem OpnAt.mono {w : World} {X X' : Nat → Prop} {ov : Value} {o : Option CluC} (h : OpnAt w X ov o) (hX : ∀ b, X b → X' b) : OpnAt w X' ov o := by
  cases o with
  | none => exact h
  | some c =>
    obtain ⟨q, e, hx, hc⟩ := h
    exact ⟨q, e, hX q hx, hc⟩
/-- a feeder: its block φ; all that it may turn lies in X -/
structure FeedIs (w : World) (X : Nat → Prop) (φ π : Nat) (ov : Value) (f : FeedC) (W : Nat) : Prop where
  hdr : w.heap[φ]? = some (.cells (feedL π ov f).toArray 125 (0, 0))
  pen : PenAt w X π f.pen W
  opn : OpnAt w X ov f.opn
  xφ : X φ
def FeedAt (w : World) (X : Nat → Prop) (φ π : Nat) (f : FeedC) (W : Nat) : Prop := ∃ ov, FeedIs w X φ π ov f W
def FeedTo (w : World) (X : Nat → Prop) (φ π : Nat) (f : FeedC) (W : Nat) (w' : World) : Prop := ∃ X', FeedAt w' X' φ π f W ∧ (∀ b, X' b → X b ∨ w.heap.size ≤ b) ∧ Turn X w w'
theorem FeedIs.typ {w : World} {X : Nat → Prop} {φ π W : Nat} {ov : Value} {f : FeedC} (h : FeedIs w X φ π ov f W) : Typ w 125 φ := ⟨_, _, h.hdr⟩
theorem FeedIs.turn {w w' : World} {X T : Nat → Prop} {φ π W : Nat} {ov : Value} {f : FeedC} (h : FeedIs w X φ π ov f W) (ht : Turn T w w') (hf : Free T w 21) (hX : ∀ b, X b → ¬ T b) : FeedIs w' X φ π ov f W := by
  refine ⟨ht.heap h.hdr (hX _ h.xφ), h.pen.turn ht hf hX, ?_, h.xφ⟩
  have ho := h.opn
  cases e : f.opn with
  | none => rw [e] at ho; exact ho
  | some c =>
    rw [e] at ho
    obtain ⟨q, e, hx, hc⟩ := ho
    exact ⟨q, e, hx, hc.turn ht (hX q hx)⟩
theorem FeedIs.below {w w' : World} {X : Nat → Prop} {φ π W : Nat} {ov : Value} {f : FeedC} (h : FeedIs w X φ π ov f W) (hb : Below w.heap.size w w') : FeedIs w' X φ π ov f W :=
  h.turn (Turn.of_new hb : Turn (fun _ => False) w w') (Free.no _ _) (fun _ _ => id)
theorem FeedTo.then {w w1 w2 : World} {X : Nat → Prop} {φ π W W2 : Nat} {f f' : FeedC} (h : FeedTo w X φ π f W w1) (h2 : ∀ X', FeedAt w1 X' φ π f W → FeedTo w1 X' φ π f' W2 w2) : FeedTo w X φ π f' W2 w2 := by
  obtain ⟨X1, h3, h4, h5⟩ := h
  obtain ⟨X2, h6, h7, h8⟩ := h2 X1 h3
  refine ⟨X2, h6, fun b hb => ?_, ?_⟩
  · rcases h7 b hb with h9 | h9
    · exact h4 b h9
    · exact .inr (Nat.le_trans h5.size h9)
  · have a : Turn (fun b => X b ∨ w.heap.size ≤ b) w w1 := h5.mono (fun _ _ e => .inl e)
    have b : Turn (fun b => X b ∨ w.heap.size ≤ b) w1 w2 := h8.mono (fun b _ e => h4 b e)
    exact (a.trans b).mono (fun b hb e => e.elim id (fun e => by omega))
theorem FeedIs.cells {w : World} {X : Nat → Prop} {φ π W : Nat} {ov : Value} {f : FeedC} (h : FeedIs w X φ π ov f W) : w.cell? ⟨φ, 0, none⟩ = some (ptr π) ∧ w.cell? ⟨φ, 1, none⟩ = some (.int .i64 f.dec.held) ∧ w.cell? ⟨φ, 11, none⟩ = some ov ∧ ∀ j, w.frozen? ⟨φ, j, none⟩ = false := by
  have h' := h.hdr
  exact ⟨by simp [World.cell?, h', feedL], by simp [World.cell?, h', feedL], by simp [World.cell?, h', feedL], fun j => by simp [World.frozen?, h']⟩
/-- the parts of a feeder -/
def kSeg (π : Nat) (ov : Value) (f : FeedC) : SegO.Fr := ⟨ptr π, .int .i64 f.dec.held, .int .i64 f.dec.needs, .int .u8 f.dec.lo, .int .u8 f.dec.hi, .int .i64 f.dec.bits, ov⟩
def kDec (π : Nat) (ov : Value) (f : FeedC) : DFr := ⟨ptr π, .bool f.seg.some, .int .i64 f.seg.last, .int .i64 f.seg.pict, .int .i64 f.seg.conj, .bool f.seg.odd, ov⟩
theorem FeedIs.seg {w : World} {X : Nat → Prop} {φ π W : Nat} {ov : Value} {f : FeedC} (h : FeedIs w X φ π ov f W) : SegO.At (kSeg π ov f) w φ f.seg := ⟨(), h.hdr⟩
theorem FeedIs.decAt {w : World} {X : Nat → Prop} {φ π W : Nat} {ov : Value} {f : FeedC} (h : FeedIs w X φ π ov f W) : DecAt (kDec π ov f) w φ f.dec := h.hdr
theorem FeedIs.free {w : World} {X : Nat → Prop} {φ π W : Nat} {ov : Value} {f : FeedC} (h : FeedIs w X φ π ov f W) {t : TypeId} (ht : 125 ≠ t) : Free (fun b => b = φ) w t := fun b e _ => by subst e; exact h.typ.not ht
theorem FeedIs.notPen {w : World} {X : Nat → Prop} {φ π W : Nat} {ov : Value} {f : FeedC} (h : FeedIs w X φ π ov f W) : ∀ b, b = φ → ¬ PenTyp w b := fun b e hp => by subst e; exact hp.not (by decide) h.typ
/-- the feeder's own block turned -/
theorem FeedIs.own {w w' : World} {X : Nat → Prop} {φ π W : Nat} {ov : Value} {f f' : FeedC} (h : FeedIs w X φ π ov f W) (ht : Turn (fun b => b = φ) w w') (hd : w'.heap[φ]? = some (.cells (feedL π ov f').toArray 125 (0, 0))) (hp : f'.pen = f.pen) (ho : f'.opn = f.opn) : FeedIs w' X φ π ov f' W :=
  ⟨hd, by rw [hp]; exact h.pen.off ht (h.free (by decide)) h.notPen, by rw [ho]; exact h.opn.turn ht (fun q e => by subst e; exact h.typ.not (by decide)), h.xφ⟩
theorem FeedIs.ofSeg {w w' : World} {X : Nat → Prop} {φ π W : Nat} {ov : Value} {f : FeedC} (h : FeedIs w X φ π ov f W) (ht : Turn (fun b => b = φ) w w') {s : St} (hs : SegO.At (kSeg π ov f) w' φ s) : FeedIs w' X φ π ov { f with seg := s } W := by
  obtain ⟨_, hs⟩ := hs
  exact h.own ht hs rfl rfl
theorem FeedIs.ofDec {w w' : World} {X : Nat → Prop} {φ π W : Nat} {ov : Value} {f : FeedC} (h : FeedIs w X φ π ov f W) (ht : Turn (fun b => b = φ) w w') {d : DecC} (hs : DecAt (kDec π ov f) w' φ d) : FeedIs w' X φ π ov { f with dec := d } W := h.own ht hs rfl rfl
/-- its open cluster let go -/
theorem FeedIs.shut {w : World} {X : Nat → Prop} {φ π W : Nat} {ov : Value} {f : FeedC} (h : FeedIs w X φ π ov f W) : FeedIs (w.setCell ⟨φ, 11, none⟩ (.pointer none)) X φ π (.pointer none) { f with opn := none } W := by
  have T : Turn (fun b => b = φ) w (w.setCell ⟨φ, 11, none⟩ (.pointer none)) := Turn.setCell _ _ rfl
  have := heap_set1 (cs := feedL π ov f) h.hdr 11 (.pointer none)
  exact ⟨this, h.pen.off T (h.free (by decide)) h.notPen, rfl, h.xφ⟩

set_option maxRecDepth 100000 in
set_option maxHeartbeats 8000000 in
theorem close_is (X : Nat → Prop) (φ π W : Nat) (ov : Value) (f : FeedC) (w : World) (h : FeedIs w X φ π ov f W) :
    Calls Tryz.prog 32 #[ptr φ] w fun e w' => e = .returned (.tuple #[]) ∧ FeedIs w' X φ π (.pointer none) (closeF f) W ∧ Turn (fun b => b = φ) w w' := by
  obtain ⟨_, _, c11, fr⟩ := h.cells
  have f11 := fr 11
  have HS := Lib.hid h.shut
  have T : Turn (fun b => b = φ) w (w.setCell ⟨φ, 11, none⟩ (.pointer none)) := Turn.setCell _ _ rfl
  have HT := Lib.hid T
  have HR := Lib.hid (SegO.reset_any (kSeg π (.pointer none) { f with opn := none }) φ f.seg _ h.shut.seg)
  have HF : Hid (∀ w', SegO.At (kSeg π (.pointer none) { f with opn := none }) w' φ Seg.zero → Seg.But φ (w.setCell ⟨φ, 11, none⟩ (.pointer none)) w' → FeedIs w' X φ π (.pointer none) (closeF f) W ∧ Turn (fun b => b = φ) w w') := Lib.hid fun w' h1 h2 =>
    ⟨h.shut.ofSeg (turn_but h2) h1, T.trans (turn_but h2)⟩
  clear h fr T
  go_enter Tryz.func32, Tryz.ntmps32
  go_wp2_with fail
  generalize (w.setCell ⟨φ, 11, none⟩ (.pointer none)) = w1 at *
  refine HR.out.mono ?_
  rintro e w2 ⟨rfl, h1, h2⟩
  have HX := Lib.hid (HF.out w2 h1 h2)
  clear h1 h2
  go_wp2_with fail
  go_end0
  exact ⟨rfl, HX.out⟩
theorem zero_feed (π : Nat) (p : PenC) : (feedL π (.pointer none) ⟨p, .zero, Seg.zero, none⟩) = [ptr π, .int .i64 0, .int .i64 0, .int .u8 0, .int .u8 0, .int .i64 0, .bool false, .int .i64 0, .int .i64 0, .int .i64 0, .bool false, .pointer none] := rfl
theorem fnew_any (X : Nat → Prop) (π W : Nat) (p : PenC) (w : World) (h : PenAt w X π p W) :
    Calls Tryz.prog 29 #[ptr π] w fun e w' => ∃ φ, e = .returned (ptr φ) ∧ φ = w.heap.size ∧ FeedIs w' (fun b => X b ∨ b = φ) φ π (.pointer none) ⟨p, .zero, Seg.zero, none⟩ W ∧ Below w.heap.size w w' := by
  obtain ⟨γ, hc0⟩ : ∃ γ, w.cell? ⟨π, 0, none⟩ = some (ptr γ) := by
    obtain ⟨γ, β, Q, hp⟩ := h
    exact ⟨γ, hp.cells.1⟩
  have HF : Hid (FeedIs (w.alloc (.cells (feedL π (.pointer none) ⟨p, .zero, Seg.zero, none⟩).toArray 125)) (fun b => X b ∨ b = w.heap.size) w.heap.size π (.pointer none) ⟨p, .zero, Seg.zero, none⟩ W ∧ Below w.heap.size w (w.alloc (.cells (feedL π (.pointer none) ⟨p, .zero, Seg.zero, none⟩).toArray 125))) := Lib.hid (by
    have hb : Below w.heap.size w (w.alloc (.cells (feedL π (.pointer none) ⟨p, .zero, Seg.zero, none⟩).toArray 125)) := (Below.refl _ _).alloc (Nat.le_refl _) _
    exact ⟨⟨heap_alloc_new w _, (h.below hb).mono (fun b e => .inl e), rfl, .inr rfl⟩, hb⟩)
  rw [zero_feed] at HF
  clear h
  go_enter Tryz.func29, Tryz.ntmps29
  go_wp2_with fail
  go_ret
  exact ⟨_, rfl, rfl, HF.out⟩
end Go.Proofs.YtjicdcmdgbcdcaaGreatDoor.Scr
end
section
namespace Go.Proofs.YtjicdcmdgbcdcaaGreatDoor.Scr
set_option linter.unusedSimpArgs false
set_option linter.unusedVariables false
open Go Go.RowKit Mem Turn Ring
open Seg (P4 St)

/-- a pen's call brought to the feeder -/
theorem FeedIs.penTo {w w' : World} {X : Nat → Prop} {φ π W : Nat} {f : FeedC} (h : FeedIs w X φ π (.pointer none) { f with opn := none } W) {p : PenC} (X0 : Nat → Prop) (hX0 : ∀ b, X0 b → X b) (ht0 : ∀ b, X0 b → PenTyp w b) (hto : PenTo w X0 π p W w') : FeedTo w X φ π { f with opn := none, pen := p } W w' := by
  obtain ⟨X1, h1, h2, h3⟩ := hto
  refine ⟨fun b => X1 b ∨ b = φ, ⟨.pointer none, h3.heap h.hdr (fun e => (ht0 _ e).not (by decide) h.typ), h1.mono (fun b e => .inl e), rfl, .inr rfl⟩, fun b e => ?_, h3.mono (fun b _ e => hX0 b e)⟩
  rcases e with e | e
  · exact (h2 b e).imp (hX0 b) id
  · exact .inl (e ▸ h.xφ)

def beginF (f : FeedC) (r : Int) (x : P4) (W : Nat) : FeedC := { f with pen := (beginC f.pen r x W).1, seg := Seg.next f.seg x.br x.pi x.co, opn := some (beginC f.pen r x W).2 }
def joinF (f : FeedC) (c : CluC) (r : Int) (x : P4) (W : Nat) : FeedC := { f with pen := (joinC f.pen c r x W).1, seg := Seg.next f.seg x.br x.pi x.co, opn := some (joinC f.pen c r x W).2 }
theorem comes_begin (f : FeedC) (r : Int) (W : Nat) (hs : Basew.silentB r = false) (h : (Seg.joinB f.seg (propR r).br (propR r).pi (propR r).co && f.opn.isSome) = false) : comesF f r W = beginF f r (propR r) W := by
  unfold comesF beginF
  rw [if_neg (by rw [hs]; simp)]
  cases ho : f.opn with
  | none => rfl
  | some c =>
    rw [ho] at h
    simp at h
    simp [h]
theorem comes_join (f : FeedC) (c : CluC) (r : Int) (W : Nat) (hs : Basew.silentB r = false) (h : Seg.joinB f.seg (propR r).br (propR r).pi (propR r).co = true) (ho : f.opn = some c) : comesF f r W = joinF f c r (propR r) W := by
  unfold comesF joinF
  rw [if_neg (by rw [hs]; simp), ho]
  simp [h]

set_option maxRecDepth 100000 in
set_option maxHeartbeats 16000000 in
theorem comes_is (X : Nat → Prop) (φ π W : Nat) (ov : Value) (f : FeedC) (r : Int) (w : World) (h : FeedIs w X φ π ov f W) (hok : FeedOK f W) (hv : VarsX w X) (hr1 : -2147483648 ≤ r) (hr2 : r ≤ 2147483647) :
    Calls Tryz.prog 120 #[ptr φ, .int .i32 r] w fun e w' => e = .returned (.tuple #[]) ∧ FeedTo w X φ π (comesF f r W) W w' := by
  have hmx : Tryz.prog.follows .mixedOrders = true := by kernel_rfl
  have HSI := Lib.hid (Basew.silent_any r w)
  cases hsil : Basew.silentB r with
  | true =>
    have HCO : Hid (comesF f r W = { closeF f with pen := ctrlP f.pen r W }) := Lib.hid (by unfold comesF; rw [if_pos hsil])
    rw [hsil] at HSI
    have HCL := Lib.hid (close_is X φ π W ov f w h)
    have HOK := Lib.hid hok
    have HS := Lib.hid hsil
    clear h hok hv hsil
    go_enter Tryz.func120, Tryz.ntmps120
    go_wp2_with fail
    refine HSI.out.mono ?_
    rintro e w1 ⟨rfl, rfl⟩
    go_wp2_with fail
    refine HCL.out.mono ?_
    rintro e w1 ⟨rfl, h1, ht1⟩
    obtain ⟨X0, hp0, hx0, hy0⟩ := h1.pen.exact
    have HCT := Lib.hid (ctrl_any X0 π W f.pen r w1 hp0 HOK.out.pen HS.out)
    obtain ⟨c0, _⟩ := h1.cells
    have HFI : Hid (∀ w', PenTo w1 X0 π (ctrlP f.pen r W) W w' → FeedTo w X φ π (comesF f r W) W w') := Lib.hid fun w' hto => by
      obtain ⟨X1, k1, k2, k3⟩ := FeedIs.penTo (f := closeF f) h1 X0 hx0 hy0 hto
      have hx := h1.xφ
      rw [HCO.out]
      exact ⟨X1, k1, fun b e => (k2 b e).imp id (fun e => Nat.le_trans ht1.size e), (ht1.mono (fun b _ e => by rw [e]; exact hx)).trans k3⟩
    clear h1 ht1 hp0 hx0 hy0 HCL
    go_wp2_with fail
    refine HCT.out.mono ?_
    rintro e w2 ⟨⟨bb, rfl⟩, hto⟩
    have HF := Lib.hid (HFI.out w2 hto)
    clear hto
    go_wp2_with fail
    refine bodyPost_ret (results_none rfl _ _ _) rfl ?_
    exact ⟨rfl, HF.out⟩
  | false =>
    rw [hsil] at HSI
    have HUC := Lib.hid (Ucd.of_any r hr1 hr2 w)
    have hof : Ucd.ofV r = prV (propR r) := rfl
    rw [hof] at HUC
    obtain ⟨x, hx⟩ : ∃ x, x = propR r := ⟨_, rfl⟩
    have HCB : Hid ((Seg.joinB f.seg x.br x.pi x.co && f.opn.isSome) = false → comesF f r W = beginF f r x W) := Lib.hid (by subst hx; exact comes_begin f r W hsil)
    have HCJ : Hid (∀ c, Seg.joinB f.seg x.br x.pi x.co = true → f.opn = some c → comesF f r W = joinF f c r x W) := Lib.hid (by subst hx; exact fun c h1 h2 => comes_join f c r W hsil h1 h2)
    rw [← hx] at HUC
    clear hx hof hsil
    have HH := Lib.hid h
    have HOK := Lib.hid hok
    have HV := Lib.hid hv
    clear h hok hv
    go_enter Tryz.func120, Tryz.ntmps120
    go_wp2_with fail
    refine HSI.out.mono ?_
    rintro e w1 ⟨rfl, rfl⟩
    go_wp2_with fail
    refine HUC.out.mono ?_
    rintro e w1 ⟨rfl, hb1⟩
    have hnew := heap_alloc_new w1 (.cells #[.int .i64 0, .bool false, .int .i64 0, .int .i64 0] 224)
    have hrow : (w1.alloc (.cells #[.int .i64 0, .bool false, .int .i64 0, .int .i64 0] 224)).setRow w1.heap.size (prA x) = w1.alloc (.cells (prA x) 224) := World.setRow_alloc_new w1 _ _ _
    have HB1 := Lib.hid hb1
    clear hb1
    go_upto_region 4 with (refine wpList_store_row rfl 224 _ _ rfl w1.heap.size (prA x) rfl rfl _ _ hnew (size_prop _ _ _ _) rfl (by simp [Value.oneCell']) ?_)
    try rw [hrow]
    have e2 := heap_alloc_new w1 (.cells (prA x) 224)
    have HW2 : Hid (Below w.heap.size w (w1.alloc (.cells (prA x) 224)) ∧ w.heap.size ≤ w1.heap.size) := Lib.hid ⟨HB1.out.alloc HB1.out.size _, HB1.out.size⟩
    clear hnew hrow HB1
    generalize w1.heap.size = nb at *
    generalize (w1.alloc (.cells (prA x) 224)) = w2 at *
    have HH2 := Lib.hid (HH.out.below HW2.out.1)
    have HST : Hid (∀ w', Below w2.heap.size w2 w' → Calls Tryz.prog 157 #[.pointer (some ⟨φ, 6, none⟩), prV x] w' fun e w3 => e = .returned (.bool (Seg.joinB f.seg x.br x.pi x.co)) ∧ FeedIs w3 X φ π ov { f with seg := Seg.next f.seg x.br x.pi x.co } W ∧ Turn (fun b => b = φ) w' w3) := Lib.hid fun w' hb => by
      refine (SegO.step_any (kSeg π ov f) φ f.seg x.br x.pi x.co x.ea w' (HH2.out.below hb).seg).mono ?_
      rintro e w3 ⟨h1, h2, h3⟩
      exact ⟨h1, (HH2.out.below hb).ofSeg (turn_but h3) h2, turn_but h3⟩
    have HNB : Hid (nb ≠ φ ∧ w.heap.size ≤ nb) := Lib.hid ⟨fun e => by have := HH.out.typ.lt; have := HW2.out.2; omega, HW2.out.2⟩
    obtain ⟨jo, hjo⟩ : ∃ jo, jo = (Seg.joinB f.seg x.br x.pi x.co && f.opn.isSome) := ⟨_, rfl⟩
    have HJO := Lib.hid hjo
    clear hjo
    have hS0 := e2
    obtain ⟨_, _, c11, _⟩ := HH2.out.cells
    change Code.wp _ _ _ ⟨_, _⟩ _
    go_cut [28] (fun s wx => s = .bool jo ∧ Hid (FeedIs wx X φ π ov { f with seg := Seg.next f.seg x.br x.pi x.co } W ∧ wx.heap[nb]? = some (.cells (prA x) 224 (0, 0)) ∧ Turn X w wx))
    case first =>
      refine region_begin3 (fun w' => w'.heap[nb]? = some (.cells (prA x) 224 (0, 0)) ∧ w'.cell? ⟨φ, 11, none⟩ = some ov) (fun _ => false) 12 rfl hmx (by intro _ _ d _ _ h; cases d <;> exact h) fun hQP => ?_
      have hS : w2.drew.heap[nb]? = some (.cells (prA x) 224 (0, 0)) ∧ w2.drew.cell? ⟨φ, 11, none⟩ = some ov := ⟨hS0, c11⟩
      have HD : Hid (Below w2.heap.size w2 w2.drew) := Lib.hid (Below.refl _ _).drew
      clear hS0 c11 e2
      generalize w2.drew = w3 at *
      refine take_f 0 17 rfl rfl (by kernel_rfl) (by kernel_rfl) (by kernel_rfl) (by kernel_rfl) hQP hS (.inl ⟨by kernel_rfl, fun w' hw' => by obtain ⟨e0, e1⟩ := hw'; go_simp; try with_reducible rfl⟩) ?_
      refine take_f 1 18 rfl rfl (by kernel_rfl) (by kernel_rfl) (by kernel_rfl) (by kernel_rfl) hQP hS (.inl ⟨by kernel_rfl, fun w' hw' => by obtain ⟨e0, e1⟩ := hw'; go_simp; try with_reducible rfl⟩) ?_
      refine take_f 2 19 rfl rfl (by kernel_rfl) (by kernel_rfl) (by kernel_rfl) (by kernel_rfl) hQP hS (.inl ⟨by kernel_rfl, fun w' hw' => by obtain ⟨e0, e1⟩ := hw'; go_simp; try with_reducible rfl⟩) ?_
      refine take_f 3 20 rfl rfl (by kernel_rfl) (by kernel_rfl) (by kernel_rfl) (by kernel_rfl) hQP hS (yields_load_row 224 (.tmp 4) rfl (by kernel_rfl) nb (by rfl) _ (prA x) _ _ (fun w' hw' => hw'.1) Tryz.underlying224 rfl (size_prop _ _ _ _)) ?_
      try simp only [List.setIfInBounds_toArray, List.set_cons_succ, List.set_cons_zero]
      refine take_g (i := 4) (by kernel_rfl) rfl (by kernel_rfl) fun KQ hK => ?_
      go_wp2_with fail
      refine (HST.out _ HD.out).mono ?_
      rintro e w4 ⟨rfl, h4, ht4⟩
      have hS : w4.heap[nb]? = some (.cells (prA x) 224 (0, 0)) ∧ w4.cell? ⟨φ, 11, none⟩ = some ov := ⟨ht4.heap hS.1 HNB.out.1, h4.cells.2.2.1⟩
      have HM : Hid (FeedIs w4 X φ π ov { f with seg := Seg.next f.seg x.br x.pi x.co } W ∧ w4.heap[nb]? = some (.cells (prA x) 224 (0, 0)) ∧ Turn X w w4) := Lib.hid (by
        have hx := h4.xφ
        refine ⟨h4, hS.1, ?_⟩
        exact ((Turn.of_new HW2.out.1 : Turn (fun _ => False) w w2).mono (fun _ _ h => h.elim)).trans (((Turn.of_new HD.out : Turn (fun _ => False) w2 w3).mono (fun _ _ h => h.elim)).trans (ht4.mono (fun b _ e => by rw [e]; exact hx))))
      have HOP : Hid (OpnAt w4 X ov f.opn) := Lib.hid h4.opn
      refine hK _ _ (.inr hS) ?_
      clear hK h4 ht4 HST HD
      generalize Seg.joinB f.seg x.br x.pi x.co = jb at *
      cases jb with
      | false =>
        have HJF : Hid (jo = false) := Lib.hid (by rw [HJO.out]; rfl)
        refine take_f 5 22 rfl rfl (by kernel_rfl) (by kernel_rfl) (by kernel_rfl) (by kernel_rfl) hQP hS (.inl ⟨by kernel_rfl, fun w' hw' => by obtain ⟨e0, e1⟩ := hw'; go_simp; try with_reducible rfl⟩) ?_
        refine take_f 6 23 rfl rfl (by kernel_rfl) (by kernel_rfl) (by kernel_rfl) (by kernel_rfl) hQP hS (.inr ⟨by kernel_rfl, rfl⟩) ?_
        refine take_f 7 24 rfl rfl (by kernel_rfl) (by kernel_rfl) (by kernel_rfl) (by kernel_rfl) hQP hS (.inr ⟨by kernel_rfl, rfl⟩) ?_
        refine take_f 8 25 rfl rfl (by kernel_rfl) (by kernel_rfl) (by kernel_rfl) (by kernel_rfl) hQP hS (.inr ⟨by kernel_rfl, rfl⟩) ?_
        refine take_f 9 26 rfl rfl (by kernel_rfl) (by kernel_rfl) (by kernel_rfl) (by kernel_rfl) hQP hS (.inr ⟨by kernel_rfl, rfl⟩) ?_
        refine take_f 10 27 rfl rfl (by kernel_rfl) (by kernel_rfl) (by kernel_rfl) (by kernel_rfl) hQP hS (.inr ⟨by kernel_rfl, rfl⟩) ?_
        refine take_f 11 28 rfl rfl (by kernel_rfl) (by kernel_rfl) (by kernel_rfl) (by kernel_rfl) hQP hS (.inl ⟨by kernel_rfl, fun w' hw' => by obtain ⟨e0, e1⟩ := hw'; go_simp; try with_reducible rfl⟩) ?_
        refine take_done (by kernel_rfl) ?_ _
        try simp only [List.setIfInBounds_toArray, List.set_cons_succ, List.set_cons_zero]
        clear hS
        go_wp2_with fail
        go_meet
        exact ⟨by rw [HJF.out], HM⟩
      | true =>
        cases hop : f.opn with
        | none =>
          have hov : ov = .pointer none := by have := HOP.out; rw [hop] at this; exact this
          have HJF : Hid (jo = false) := Lib.hid (by rw [HJO.out, hop]; rfl)
          subst hov
          clear hop
          refine take_f 5 22 rfl rfl (by kernel_rfl) (by kernel_rfl) (by kernel_rfl) (by kernel_rfl) hQP hS (.inl ⟨by kernel_rfl, fun w' hw' => by obtain ⟨e0, e1⟩ := hw'; go_simp; try with_reducible rfl⟩) ?_
          refine take_f 6 23 rfl rfl (by kernel_rfl) (by kernel_rfl) (by kernel_rfl) (by kernel_rfl) hQP hS (.inl ⟨by kernel_rfl, fun w' hw' => by obtain ⟨e0, e1⟩ := hw'; go_simp; try with_reducible rfl⟩) ?_
          refine take_f 7 24 rfl rfl (by kernel_rfl) (by kernel_rfl) (by kernel_rfl) (by kernel_rfl) hQP hS (.inl ⟨by kernel_rfl, fun w' hw' => by obtain ⟨e0, e1⟩ := hw'; go_simp; try with_reducible rfl⟩) ?_
          refine take_f 8 25 rfl rfl (by kernel_rfl) (by kernel_rfl) (by kernel_rfl) (by kernel_rfl) hQP hS (.inl ⟨by kernel_rfl, fun w' hw' => by obtain ⟨e0, e1⟩ := hw'; go_simp; try with_reducible rfl⟩) ?_
          refine take_f 9 26 rfl rfl (by kernel_rfl) (by kernel_rfl) (by kernel_rfl) (by kernel_rfl) hQP hS (.inl ⟨by kernel_rfl, fun w' hw' => by obtain ⟨e0, e1⟩ := hw'; go_simp; try with_reducible rfl⟩) ?_
          refine take_f 10 27 rfl rfl (by kernel_rfl) (by kernel_rfl) (by kernel_rfl) (by kernel_rfl) hQP hS (.inl ⟨by kernel_rfl, fun w' hw' => by obtain ⟨e0, e1⟩ := hw'; go_simp; try with_reducible rfl⟩) ?_
          refine take_f 11 28 rfl rfl (by kernel_rfl) (by kernel_rfl) (by kernel_rfl) (by kernel_rfl) hQP hS (.inl ⟨by kernel_rfl, fun w' hw' => by obtain ⟨e0, e1⟩ := hw'; go_simp; try with_reducible rfl⟩) ?_
          refine take_done (by kernel_rfl) ?_ _
          try simp only [List.setIfInBounds_toArray, List.set_cons_succ, List.set_cons_zero]
          clear hS
          go_wp2_with fail
          go_meet
          exact ⟨by rw [HJF.out], HM⟩
        | some c =>
          obtain ⟨q, hov, _⟩ : ∃ q, ov = ptr q ∧ True := by
            have := HOP.out
            rw [hop] at this
            obtain ⟨q, e, _⟩ := this
            exact ⟨q, e, trivial⟩
          have HJF : Hid (jo = true) := Lib.hid (by rw [HJO.out, hop]; rfl)
          subst hov
          clear hop
          refine take_f 5 22 rfl rfl (by kernel_rfl) (by kernel_rfl) (by kernel_rfl) (by kernel_rfl) hQP hS (.inl ⟨by kernel_rfl, fun w' hw' => by obtain ⟨e0, e1⟩ := hw'; go_simp; try with_reducible rfl⟩) ?_
          refine take_f 6 23 rfl rfl (by kernel_rfl) (by kernel_rfl) (by kernel_rfl) (by kernel_rfl) hQP hS (.inl ⟨by kernel_rfl, fun w' hw' => by obtain ⟨e0, e1⟩ := hw'; go_simp; try with_reducible rfl⟩) ?_
          refine take_f 7 24 rfl rfl (by kernel_rfl) (by kernel_rfl) (by kernel_rfl) (by kernel_rfl) hQP hS (.inl ⟨by kernel_rfl, fun w' hw' => by obtain ⟨e0, e1⟩ := hw'; go_simp; try with_reducible rfl⟩) ?_
          refine take_f 8 25 rfl rfl (by kernel_rfl) (by kernel_rfl) (by kernel_rfl) (by kernel_rfl) hQP hS (.inl ⟨by kernel_rfl, fun w' hw' => by obtain ⟨e0, e1⟩ := hw'; go_simp; try with_reducible rfl⟩) ?_
          refine take_f 9 26 rfl rfl (by kernel_rfl) (by kernel_rfl) (by kernel_rfl) (by kernel_rfl) hQP hS (.inl ⟨by kernel_rfl, fun w' hw' => by obtain ⟨e0, e1⟩ := hw'; go_simp; try with_reducible rfl⟩) ?_
          refine take_f 10 27 rfl rfl (by kernel_rfl) (by kernel_rfl) (by kernel_rfl) (by kernel_rfl) hQP hS (.inl ⟨by kernel_rfl, fun w' hw' => by obtain ⟨e0, e1⟩ := hw'; go_simp; try with_reducible rfl⟩) ?_
          refine take_f 11 28 rfl rfl (by kernel_rfl) (by kernel_rfl) (by kernel_rfl) (by kernel_rfl) hQP hS (.inl ⟨by kernel_rfl, fun w' hw' => by obtain ⟨e0, e1⟩ := hw'; go_simp; try with_reducible rfl⟩) ?_
          refine take_done (by kernel_rfl) ?_ _
          try simp only [List.setIfInBounds_toArray, List.set_cons_succ, List.set_cons_zero]
          clear hS
          go_wp2_with fail
          go_meet
          exact ⟨by rw [HJF.out], HM⟩
    case rest =>
      obtain ⟨rfl, hm⟩ := hcut
      obtain ⟨hfi, hnb, htn⟩ := hm.out
      have HFI := Lib.hid hfi
      have HTN := Lib.hid htn
      have HVC := Lib.hid (HV.out.to htn (fun b e => .inl e))
      obtain ⟨p0, _, p11, pf⟩ := hfi.cells
      clear hm hfi htn c11 hS0 e2 HST HH2
      have hnl := (Array.getElem?_eq_some_iff.1 hnb).1
      obtain ⟨X0, hp0, hx0, hy0⟩ := HFI.out.pen.exact
      have HX0 := Lib.hid hx0
      have HY0 := Lib.hid hy0
      have HNP : Hid (¬ X0 nb ∧ ¬ X0 φ) := Lib.hid ⟨fun e => (hy0 _ e).not (by decide) ⟨_, _, hnb⟩, fun e => (hy0 _ e).not (by decide) HFI.out.typ⟩
      cases jo with
      | true =>
        have hj := HJO.out.symm
        rw [Bool.and_eq_true] at hj
        obtain ⟨c, hop⟩ := Option.isSome_iff_exists.1 hj.2
        have ho := HFI.out.opn
        simp only at ho
        rw [hop] at ho
        obtain ⟨q, hov, hxq, hcq⟩ := ho
        subst hov
        have HE := Lib.hid (HCJ.out c hj.1 hop)
        have HQ : Hid (q ≠ φ ∧ q ≠ nb ∧ X q) := Lib.hid ⟨hcq.typ.ne HFI.out.typ (by decide), fun e => by rw [e] at hcq; exact hcq.typ.not (by decide) ⟨_, _, hnb⟩, hxq⟩
        have hbd : Below wc.heap.size wc wc.drew := (Below.refl _ _).drew
        have HJN := Lib.hid (join_any X0 π q W f.pen c r x wc.drew (hp0.below hbd) (hcq.turn (Turn.drew (fun _ => False) wc) id) HOK.out.pen (HOK.out.opn c hop) ((HVC.out.below hbd).sub (fun b e => e.elim (hx0 b) (fun e => by rw [e]; exact hxq))))
        have HFN : Hid (∀ w', JoinTo wc.drew X0 π q W (joinC f.pen c r x W).1 (joinC f.pen c r x W).2 w' → FeedTo w X φ π (comesF f r W) W w') := Lib.hid fun w' hto => by
          obtain ⟨k0, X1, k1, k2, k3⟩ := hto
          rw [HE.out]
          refine ⟨fun b => X1 b ∨ b = φ ∨ b = q, ⟨ptr q, ?_, k1.mono (fun b e => .inl e), ⟨q, rfl, .inr (.inr rfl), k0⟩, .inr (.inl rfl)⟩, fun b e => ?_, ?_⟩
          · have h1 := HFI.out.hdr
            exact k3.heap (show wc.drew.heap[φ]? = _ from h1) (fun e => e.elim HNP.out.2 (fun e => HQ.out.1 e.symm))
          · rcases e with e | e | e
            · exact (k2 b e).imp (hx0 b) (fun e => Nat.le_trans HTN.out.size e)
            · exact .inl (e ▸ HFI.out.xφ)
            · exact .inl (e ▸ hxq)
          · exact HTN.out.trans (((Turn.drew (fun _ => False) wc).mono (fun _ _ h => h.elim)).trans (k3.mono (fun b _ e => e.elim (hx0 b) (fun e => by rw [e]; exact hxq))))
        clear hp0 hx0 hy0 hcq hop hj hbd
        go_upto_region 5 with fail
        refine region_begin3 (fun w' => w'.heap[nb]? = some (.cells (prA x) 224 (0, 0)) ∧ w'.cell? ⟨φ, 0, none⟩ = some (ptr π) ∧ w'.cell? ⟨φ, 11, none⟩ = some (ptr q)) (fun _ => false) 11 rfl hmx (by intro _ _ d _ _ h; cases d <;> exact h) fun hQP => ?_
        have hS : wc.drew.heap[nb]? = some (.cells (prA x) 224 (0, 0)) ∧ wc.drew.cell? ⟨φ, 0, none⟩ = some (ptr π) ∧ wc.drew.cell? ⟨φ, 11, none⟩ = some (ptr q) := ⟨hnb, p0, p11⟩
        clear p0 p11 hnb pf
        generalize wc.drew = w5 at *
        refine take_f 0 29 rfl rfl (by kernel_rfl) (by kernel_rfl) (by kernel_rfl) (by kernel_rfl) hQP hS (.inl ⟨by kernel_rfl, fun w' hw' => by obtain ⟨e0, e1, e2⟩ := hw'; go_simp; try with_reducible rfl⟩) ?_
        refine take_f 1 30 rfl rfl (by kernel_rfl) (by kernel_rfl) (by kernel_rfl) (by kernel_rfl) hQP hS (.inl ⟨by kernel_rfl, fun w' hw' => by obtain ⟨e0, e1, e2⟩ := hw'; go_simp; try with_reducible rfl⟩) ?_
        refine take_f 2 31 rfl rfl (by kernel_rfl) (by kernel_rfl) (by kernel_rfl) (by kernel_rfl) hQP hS (.inl ⟨by kernel_rfl, fun w' hw' => by obtain ⟨e0, e1, e2⟩ := hw'; go_simp; try with_reducible rfl⟩) ?_
        refine take_f 3 32 rfl rfl (by kernel_rfl) (by kernel_rfl) (by kernel_rfl) (by kernel_rfl) hQP hS (.inl ⟨by kernel_rfl, fun w' hw' => by obtain ⟨e0, e1, e2⟩ := hw'; go_simp; try with_reducible rfl⟩) ?_
        refine take_f 4 33 rfl rfl (by kernel_rfl) (by kernel_rfl) (by kernel_rfl) (by kernel_rfl) hQP hS (.inl ⟨by kernel_rfl, fun w' hw' => by obtain ⟨e0, e1, e2⟩ := hw'; go_simp; try with_reducible rfl⟩) ?_
        refine take_f 5 34 rfl rfl (by kernel_rfl) (by kernel_rfl) (by kernel_rfl) (by kernel_rfl) hQP hS (.inl ⟨by kernel_rfl, fun w' hw' => by obtain ⟨e0, e1, e2⟩ := hw'; go_simp; try with_reducible rfl⟩) ?_
        refine take_f 6 35 rfl rfl (by kernel_rfl) (by kernel_rfl) (by kernel_rfl) (by kernel_rfl) hQP hS (.inl ⟨by kernel_rfl, fun w' hw' => by obtain ⟨e0, e1, e2⟩ := hw'; go_simp; try with_reducible rfl⟩) ?_
        refine take_f 7 36 rfl rfl (by kernel_rfl) (by kernel_rfl) (by kernel_rfl) (by kernel_rfl) hQP hS (.inl ⟨by kernel_rfl, fun w' hw' => by obtain ⟨e0, e1, e2⟩ := hw'; go_simp; try with_reducible rfl⟩) ?_
        refine take_f 8 37 rfl rfl (by kernel_rfl) (by kernel_rfl) (by kernel_rfl) (by kernel_rfl) hQP hS (.inl ⟨by kernel_rfl, fun w' hw' => by obtain ⟨e0, e1, e2⟩ := hw'; go_simp; try with_reducible rfl⟩) ?_
        try simp only [List.setIfInBounds_toArray, List.set_cons_succ, List.set_cons_zero]
        refine take_f 9 38 rfl rfl (by kernel_rfl) (by kernel_rfl) (by kernel_rfl) (by kernel_rfl) hQP hS (yields_load_row 224 (.tmp 4) rfl (by kernel_rfl) nb (by rfl) _ (prA x) _ _ (fun w' hw' => hw'.1) Tryz.underlying224 rfl (size_prop _ _ _ _)) ?_
        try simp only [List.setIfInBounds_toArray, List.set_cons_succ, List.set_cons_zero]
        refine take_g (i := 10) (by kernel_rfl) rfl (by kernel_rfl) fun KQ hK => ?_
        go_wp2_with fail
        refine HJN.out.mono ?_
        rintro e w6 ⟨⟨bb, rfl⟩, hto⟩
        have HF := Lib.hid (HFN.out w6 hto)
        obtain ⟨k0, X1, k1, k2, k3⟩ := hto
        have hφn : ¬ (X0 φ ∨ φ = q) := fun e => e.elim HNP.out.2 (fun e => HQ.out.1 e.symm)
        have hS : w6.heap[nb]? = some (.cells (prA x) 224 (0, 0)) ∧ w6.cell? ⟨φ, 0, none⟩ = some (ptr π) ∧ w6.cell? ⟨φ, 11, none⟩ = some (ptr q) := ⟨k3.heap hS.1 (fun e => e.elim HNP.out.1 (fun e => HQ.out.2.1 e.symm)), k3.cell hS.2.1 hφn, k3.cell hS.2.2 hφn⟩
        refine hK _ _ (.inr hS) ?_
        clear hK k0 k1 k2 k3 hφn HJN HFN
        refine take_done (by kernel_rfl) ?_ _
        try simp only [List.setIfInBounds_toArray, List.set_cons_succ, List.set_cons_zero]
        clear hS
        go_wp2_with fail
        refine bodyPost_ret (results_none rfl _ _ _) rfl ?_
        exact ⟨rfl, HF.out⟩
      | false =>
        have HE := Lib.hid (HCB.out HJO.out.symm)
        have hbd : Below wc.heap.size wc wc.drew := (Below.refl _ _).drew
        have HBG := Lib.hid (begin_any X0 π W f.pen r x wc.drew (hp0.below hbd) HOK.out.pen ((HVC.out.below hbd).sub hx0))
        have HFN : Hid (∀ w' q, wc.drew.heap.size ≤ q → CluIs w' q (beginC f.pen r x W).2 → PenTo wc.drew X0 π (beginC f.pen r x W).1 W w' → FeedTo w X φ π (comesF f r W) W (w'.setCell ⟨φ, 11, none⟩ (ptr q)) ∧ w'.heap[φ]? = some (.cells (feedL π ov { f with seg := Seg.next f.seg x.br x.pi x.co }).toArray 125 (0, 0)) ∧ w'.heap[nb]? = some (.cells (prA x) 224 (0, 0))) := Lib.hid fun w' q hq hc hto => by
          obtain ⟨X1, k1, k2, k3⟩ := hto
          have h1 := k3.heap (show wc.drew.heap[φ]? = _ from HFI.out.hdr) HNP.out.2
          have hty : Typ w' 125 φ := ⟨_, _, h1⟩
          have T : Turn (fun b => b = φ) w' (w'.setCell ⟨φ, 11, none⟩ (ptr q)) := Turn.setCell _ _ rfl
          refine ⟨?_, h1, k3.heap (show wc.drew.heap[nb]? = _ from hnb) HNP.out.1⟩
          rw [HE.out]
          have hqφ : q ≠ φ := hc.typ.ne hty (by decide)
          refine ⟨fun b => X1 b ∨ b = φ ∨ b = q, ⟨ptr q, ?_, ?_, ⟨q, rfl, .inr (.inr rfl), hc.turn T hqφ⟩, .inr (.inl rfl)⟩, fun b e => ?_, ?_⟩
          · exact heap_set1 (cs := feedL π ov { f with seg := Seg.next f.seg x.br x.pi x.co }) h1 11 (ptr q)
          · exact (k1.off T (fun b e _ => by subst e; exact hty.not (by decide)) (fun b e hp => by subst e; exact hp.not (by decide) hty)).mono (fun b e => .inl e)
          · rcases e with e | e | e
            · exact (k2 b e).imp (hx0 b) (fun e => Nat.le_trans HTN.out.size e)
            · exact .inl (e ▸ HFI.out.xφ)
            · exact .inr (by rw [e]; exact Nat.le_trans HTN.out.size hq)
          · exact HTN.out.trans (((Turn.drew (fun _ => False) wc).mono (fun _ _ h => h.elim)).trans ((k3.mono (fun b _ e => hx0 b e)).trans (T.mono (fun b _ e => by rw [e]; exact HFI.out.xφ))))
        clear hp0 hx0 hy0 hbd
        go_upto_region 6 with fail
        refine region_begin3 (fun w' => w'.heap[nb]? = some (.cells (prA x) 224 (0, 0)) ∧ w'.cell? ⟨φ, 0, none⟩ = some (ptr π)) (fun j => j == 10) 11 rfl hmx (by intro _ _ d _ _ h; cases d <;> exact h) fun hQP => ?_
        have hS : wc.drew.heap[nb]? = some (.cells (prA x) 224 (0, 0)) ∧ wc.drew.cell? ⟨φ, 0, none⟩ = some (ptr π) := ⟨hnb, p0⟩
        clear p0 p11 hnb pf
        generalize wc.drew = w5 at *
        refine take_f 0 40 rfl rfl (by kernel_rfl) (by kernel_rfl) (by kernel_rfl) (by kernel_rfl) hQP hS (.inl ⟨by kernel_rfl, fun w' hw' => by obtain ⟨e0, e1⟩ := hw'; go_simp; try with_reducible rfl⟩) ?_
        refine take_f 1 41 rfl rfl (by kernel_rfl) (by kernel_rfl) (by kernel_rfl) (by kernel_rfl) hQP hS (.inl ⟨by kernel_rfl, fun w' hw' => by obtain ⟨e0, e1⟩ := hw'; go_simp; try with_reducible rfl⟩) ?_
        refine take_f 2 42 rfl rfl (by kernel_rfl) (by kernel_rfl) (by kernel_rfl) (by kernel_rfl) hQP hS (.inl ⟨by kernel_rfl, fun w' hw' => by obtain ⟨e0, e1⟩ := hw'; go_simp; try with_reducible rfl⟩) ?_
        refine take_f 3 43 rfl rfl (by kernel_rfl) (by kernel_rfl) (by kernel_rfl) (by kernel_rfl) hQP hS (.inl ⟨by kernel_rfl, fun w' hw' => by obtain ⟨e0, e1⟩ := hw'; go_simp; try with_reducible rfl⟩) ?_
        refine take_f 4 44 rfl rfl (by kernel_rfl) (by kernel_rfl) (by kernel_rfl) (by kernel_rfl) hQP hS (.inl ⟨by kernel_rfl, fun w' hw' => by obtain ⟨e0, e1⟩ := hw'; go_simp; try with_reducible rfl⟩) ?_
        refine take_f 5 45 rfl rfl (by kernel_rfl) (by kernel_rfl) (by kernel_rfl) (by kernel_rfl) hQP hS (.inl ⟨by kernel_rfl, fun w' hw' => by obtain ⟨e0, e1⟩ := hw'; go_simp; try with_reducible rfl⟩) ?_
        try simp only [List.setIfInBounds_toArray, List.set_cons_succ, List.set_cons_zero]
        refine take_f 6 46 rfl rfl (by kernel_rfl) (by kernel_rfl) (by kernel_rfl) (by kernel_rfl) hQP hS (yields_load_row 224 (.tmp 4) rfl (by kernel_rfl) nb (by rfl) _ (prA x) _ _ (fun w' hw' => hw'.1) Tryz.underlying224 rfl (size_prop _ _ _ _)) ?_
        try simp only [List.setIfInBounds_toArray, List.set_cons_succ, List.set_cons_zero]
        refine take_g (i := 7) (by kernel_rfl) rfl (by kernel_rfl) fun KQ hK => ?_
        go_wp2_with fail
        refine HBG.out.mono ?_
        rintro e w6 ⟨q, rfl, hq, hc, hto⟩
        obtain ⟨hft, h6, hn6⟩ := HFN.out w6 q hq hc hto
        have HF := Lib.hid hft
        have hS : w6.heap[nb]? = some (.cells (prA x) 224 (0, 0)) ∧ w6.cell? ⟨φ, 0, none⟩ = some (ptr π) := ⟨hn6, by simp [World.cell?, h6, feedL]⟩
        have x11 : w6.cell? ⟨φ, 11, none⟩ = some ov := by simp [World.cell?, h6, feedL]
        have f11 : w6.frozen? ⟨φ, 11, none⟩ = false := by simp [World.frozen?, h6]
        refine hK _ _ (.inr hS) ?_
        clear hK hc hto hft h6 hn6 HBG HFN
        try simp only [List.setIfInBounds_toArray, List.set_cons_succ, List.set_cons_zero]
        refine take_g (i := 8) (by kernel_rfl) rfl (by kernel_rfl) fun KQ hK => ?_
        go_wp2_with fail
        refine hK _ _ (.inr hS) ?_
        clear hK
        refine take_f 9 49 rfl rfl (by kernel_rfl) (by kernel_rfl) (by kernel_rfl) (by kernel_rfl) hQP hS (.inl ⟨by kernel_rfl, fun w' hw' => by obtain ⟨e0, e1⟩ := hw'; go_simp; try with_reducible rfl⟩) ?_
        refine take_g (i := 10) (by kernel_rfl) rfl (by kernel_rfl) fun KQ hK => ?_
        go_wp2_with fail
        refine hK _ _ (.inl rfl) ?_
        clear hK hS x11 f11
        generalize w6.setCell ⟨φ, 11, none⟩ (ptr q) = w7 at *
        refine take_done (by kernel_rfl) ?_ _
        try simp only [List.setIfInBounds_toArray, List.set_cons_succ, List.set_cons_zero]
        go_wp2_with fail
        go_end0
        exact ⟨rfl, HF.out⟩
end Go.Proofs.YtjicdcmdgbcdcaaGreatDoor.Scr
end
section
namespace Go.Proofs.YtjicdcmdgbcdcaaGreatDoor.Scr
set_option linter.unusedSimpArgs false
set_option linter.unusedVariables false
open Go Go.RowKit Mem Turn Ring
open Seg (P4 St)

/-- a block of a feeder's -/
def FeedTyp (w : World) (b : Nat) : Prop := PenTyp w b ∨ Typ w 125 b ∨ Typ w 247 b
theorem FeedTyp.not {w : World} {b : Nat} {t : TypeId} (h : FeedTyp w b) (ht : t ∉ 125 :: 247 :: PenTypes) : ¬ Typ w t b := by
  simp only [List.mem_cons, not_or] at ht
  rcases h with h | h | h
  · exact h.not ht.2.2
  · exact h.not (fun e => ht.1 e.symm)
  · exact h.not (fun e => ht.2.1 e.symm)
theorem FeedAt.exact {w : World} {X : Nat → Prop} {φ π W : Nat} {f : FeedC} (h : FeedAt w X φ π f W) : ∃ X0, FeedAt w X0 φ π f W ∧ (∀ b, X0 b → X b) ∧ ∀ b, X0 b → FeedTyp w b := by
  obtain ⟨ov, h⟩ := h
  obtain ⟨X0, h0, h1, h2⟩ := h.pen.exact
  have ho := h.opn
  cases e : f.opn with
  | none =>
    rw [e] at ho
    refine ⟨fun b => X0 b ∨ b = φ, ⟨ov, h.hdr, h0.mono (fun b e => .inl e), by rw [e]; exact ho, .inr rfl⟩, fun b e => e.elim (h1 b) (fun e => e ▸ h.xφ), fun b e => e.elim (fun e => .inl (h2 b e)) (fun e => .inr (.inl (e ▸ h.typ)))⟩
  | some c =>
    rw [e] at ho
    obtain ⟨q, k1, k2, k3⟩ := ho
    refine ⟨fun b => X0 b ∨ b = φ ∨ b = q, ⟨ov, h.hdr, h0.mono (fun b e => .inl e), by rw [e]; exact ⟨q, k1, .inr (.inr rfl), k3⟩, .inr (.inl rfl)⟩, fun b e => ?_, fun b e => ?_⟩
    · rcases e with e | e | e
      · exact h1 b e
      · exact e ▸ h.xφ
      · exact e ▸ k2
    · rcases e with e | e | e
      · exact .inl (h2 b e)
      · exact .inr (.inl (e ▸ h.typ))
      · exact .inr (.inr (e ▸ k3.typ))
theorem FeedTo.wide {w w' : World} {X0 X : Nat → Prop} {φ π W : Nat} {f : FeedC} (h : FeedTo w X0 φ π f W w') (hX : ∀ b, X0 b → X b) : FeedTo w X φ π f W w' := by
  obtain ⟨X', h1, h2, h3⟩ := h
  exact ⟨X', h1, fun b hb => (h2 b hb).imp (hX b) id, h3.mono (fun b _ e => hX b e)⟩
theorem FeedTo.refl {w : World} {X : Nat → Prop} {φ π W : Nat} {f : FeedC} (h : FeedAt w X φ π f W) : FeedTo w X φ π f W w := ⟨X, h, fun b e => .inl e, Turn.refl _ _⟩
theorem FeedTo.vars {w w' : World} {X : Nat → Prop} {φ π W : Nat} {f : FeedC} (h : FeedTo w X φ π f W w') (hv : VarsX w X) : ∃ X', FeedAt w' X' φ π f W ∧ VarsX w' X' ∧ (∀ b, X' b → X b ∨ w.heap.size ≤ b) ∧ Turn X w w' := by
  obtain ⟨X', h1, h2, h3⟩ := h
  exact ⟨X', h1, hv.to h3 h2, h2, h3⟩
theorem FeedTo.step {w w1 w2 : World} {X X1 : Nat → Prop} {φ π W : Nat} {f' : FeedC} (hX : ∀ b, X1 b → X b ∨ w.heap.size ≤ b) (ht : Turn X w w1) (h2 : FeedTo w1 X1 φ π f' W w2) : FeedTo w X φ π f' W w2 := by
  obtain ⟨X2, h6, h7, h8⟩ := h2
  refine ⟨X2, h6, fun b hb => ?_, ?_⟩
  · rcases h7 b hb with h9 | h9
    · exact hX b h9
    · exact .inr (Nat.le_trans ht.size h9)
  · have a : Turn (fun b => X b ∨ w.heap.size ≤ b) w w1 := ht.mono (fun _ _ e => .inl e)
    have b : Turn (fun b => X b ∨ w.heap.size ≤ b) w1 w2 := h8.mono (fun b _ e => hX b e)
    exact (a.trans b).mono (fun b hb e => e.elim id (fun e => by omega))
theorem allF_snoc (W : Nat) (l : List Int) (r : Int) : ∀ f : FeedC, allF W f (l ++ [r]) = comesF (allF W f l) r W := by
  induction l with
  | nil => exact fun f => rfl
  | cons x l ih => exact fun f => ih _
theorem bytesF_snoc (W : Nat) (l : List Int) (b : Int) : ∀ f : FeedC, bytesF W f (l ++ [b]) = byteF W (bytesF W f l) b := by
  induction l with
  | nil => exact fun f => rfl
  | cons x l ih => exact fun f => ih _

set_option maxRecDepth 100000 in
set_option maxHeartbeats 8000000 in
theorem all_any (X : Nat → Prop) (φ π W : Nat) (f : FeedC) (v : Value) (l : List Int) (w : World) (h : FeedAt w X φ π f W) (hok : FeedOK f W) (hv : VarsX w X) (ht : TxtAt w v l) (hl : ∀ r ∈ l, -2147483648 ≤ r ∧ r ≤ 2147483647) :
    Calls Tryz.prog 66 #[ptr φ, v] w fun e w' => e = .returned (.tuple #[]) ∧ FeedTo w X φ π (allF W f l) W w' := by
  obtain ⟨X0, h0, hx0, hy0⟩ := h.exact
  have HX0 := Lib.hid hx0
  have HTX : Hid (∀ w', Turn X0 w w' → TxtAt w' v l) := Lib.hid fun w' hw => ht.turn hw (fun b hb _ => (hy0 b hb).not (by decide))
  have HOK := Lib.hid hok
  have HV := Lib.hid (hv.sub hx0)
  have HL := Lib.hid hl
  have H0 := Lib.hid h0
  obtain ⟨a, c, hve, _, hsz, _⟩ := id ht
  obtain ⟨n, hn⟩ : ∃ n, n = l.length := ⟨_, rfl⟩
  have HN := Lib.hid hn
  rw [← hn] at hve hsz
  subst hve
  clear h hok hv ht hl h0 hx0 hy0 hn
  have hsz2 : n ≤ 35184372088832 := by omega
  clear hsz
  go_enter Tryz.func66, Tryz.ntmps66
  go_wp2_with fail
  go_loopg [5, 8] n (fun gg s5 i wx => ∃ k : Nat, n - k = gg ∧ k ≤ n ∧ i = .int .i64 k ∧ Hid (FeedTo w X0 φ π (allF W f (l.take k)) W wx))
  case atStart => exact ⟨0, rfl, Nat.zero_le _, rfl, Lib.hid (FeedTo.refl H0.out)⟩
  case round =>
    obtain ⟨k, rfl, hk, rfl, H⟩ := hrel
    by_cases hlt : k < n
    · have hlt' : (k : Int) < (n : Int) := by omega
      obtain ⟨X1, g1, g2, g3, g4⟩ := H.out.vars HV.out
      have hx := HTX.out wr g4
      obtain ⟨r, hr⟩ : ∃ r, l[k]? = some r := ⟨_, List.getElem?_eq_getElem (by rw [← HN.out]; exact hlt)⟩
      obtain ⟨a', c', e, _, _, h4⟩ := hx
      injection e with e1 e2 e3
      subst e1 e3
      have hcell : ∃ b off, a = some ⟨b, off, none⟩ ∧ wr.cell? ⟨b, off + k, none⟩ = some (.int .i32 r) := by
        rcases h4 with h4 | ⟨b, off, e, _, _, h4⟩
        · rw [← HN.out] at h4; omega
        · exact ⟨b, off, e, (h4 k r hr).1⟩
      obtain ⟨b, off, rfl, hc⟩ := hcell
      have htk : l.take (k + 1) = l.take k ++ [r] := by rw [List.take_add_one, hr]; rfl
      obtain ⟨ov, gi⟩ := g1
      have hrr := HL.out r (List.mem_of_getElem? hr)
      have HCM := Lib.hid (comes_is X1 φ π W ov _ r wr gi (FeedOK.all _ HOK.out) g2 hrr.1 hrr.2)
      have HNX : Hid (∀ w', FeedTo wr X1 φ π (comesF (allF W f (l.take k)) r W) W w' → FeedTo w X0 φ π (allF W f (l.take (k + 1))) W w') := Lib.hid fun w' hto => by
        rw [htk, allF_snoc]
        exact FeedTo.step g3 g4 hto
      clear H g2 g3 g4 gi h4 e2 hr htk hrr
      go_wp2_with fail
      refine HCM.out.mono ?_
      rintro e w2 ⟨rfl, hto⟩
      have HX := Lib.hid (HNX.out w2 hto)
      clear hto HCM HNX hc
      go_wp2_with fail
      go_roundg (n - (k + 1))
      case measure => omega
      case rel => exact ⟨k + 1, rfl, by omega, by go_num, HX⟩
    · have hlt' : ¬ (k : Int) < (n : Int) := by omega
      obtain rfl : k = n := by omega
      have HF : Hid (FeedTo w X φ π (allF W f l) W wr) := Lib.hid (by
        have := H.out
        rw [HN.out, List.take_length] at this
        exact this.wide HX0.out)
      clear H
      go_wp2_with fail
      go_end0
      exact ⟨rfl, HF.out⟩
end Go.Proofs.YtjicdcmdgbcdcaaGreatDoor.Scr
end

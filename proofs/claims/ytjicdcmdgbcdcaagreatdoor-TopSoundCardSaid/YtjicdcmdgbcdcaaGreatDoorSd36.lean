/-
  A feeder in memory; Close, New.
-/
import Derived.Test.YtjicdcmdgbcdcaaGreatDoorSd12
import Derived.Test.YtjicdcmdgbcdcaaGreatDoorSd33
import Derived.Test.YtjicdcmdgbcdcaaGreatDoorSd35

section
namespace Go.Proofs.YtjicdcmdgbcdcaaGreatDoor.Scr
set_option linter.unusedSimpArgs false
set_option linter.unusedVariables false
open Go Go.RowKit Mem Turn Ring
open Seg (P4 St)

theorem PenIs.mono {w : World} {X X' : Nat → Prop} {π γ β : Nat} {Q : List (Nat × Nat)} {p : PenC} {W : Nat} (h : PenIs w X π γ β Q p W) (hX : ∀ b, X b → X' b) : PenIs w X' π γ β Q p W :=
  ⟨h.hdr, h.grid, h.rows.mono (fun b hb _ => hX b hb), hX _ h.xπ, hX _ h.xγ, hX _ h.xβ, h.w1, h.w2⟩
theorem PenAt.mono {w : World} {X X' : Nat → Prop} {π : Nat} {p : PenC} {W : Nat} (h : PenAt w X π p W) (hX : ∀ b, X b → X' b) : PenAt w X' π p W := by
  obtain ⟨γ, β, Q, h⟩ := h
  exact ⟨γ, β, Q, h.mono hX⟩
/-- a pen beside which something is turned -/
theorem PenAt.off {w w' : World} {X T : Nat → Prop} {π : Nat} {p : PenC} {W : Nat} (h : PenAt w X π p W) (ht : Turn T w w') (hf : Free T w 21) (hT : ∀ b, T b → ¬ PenTyp w b) : PenAt w' X π p W := by
  obtain ⟨X0, h0, h1, h2⟩ := h.exact
  exact (h0.turn ht hf (fun b hb e => hT b e (h2 b hb))).mono h1

def feedL (π : Nat) (ov : Value) (f : FeedC) : List Value := [ptr π, .int .i64 f.dec.held, .int .i64 f.dec.needs, .int .u8 f.dec.lo, .int .u8 f.dec.hi, .int .i64 f.dec.bits, .bool f.seg.some, .int .i64 f.seg.last, .int .i64 f.seg.pict, .int .i64 f.seg.conj, .bool f.seg.odd, ov]
def OpnAt (w : World) (X : Nat → Prop) (ov : Value) : Option CluC → Prop
  | none => ov = .pointer none
  | some c => ∃ q, ov = ptr q ∧ X q ∧ CluIs w q c
theorem OpnAt.turn {w w' : World} {X T : Nat → Prop} {ov : Value} {o : Option CluC} (h : OpnAt w X ov o) (ht : Turn T w w') (hT : ∀ q, T q → ¬ Typ w 247 q) : OpnAt w' X ov o := by
  cases o with
  | none => exact h
  | some c =>
    obtain ⟨q, e, hx, hc⟩ := h
    exact ⟨q, e, hx, hc.turn ht (fun x => hT q x hc.typ)⟩
theorem OpnAt.mono {w : World} {X X' : Nat → Prop} {ov : Value} {o : Option CluC} (h : OpnAt w X ov o) (hX : ∀ b, X b → X' b) : OpnAt w X' ov o := by
  cases o with
  | none => exact h
  | some c =>
    obtain ⟨q, e, hx, hc⟩ := h
    exact ⟨q, e, hX q hx, hc⟩
/-- a feeder: its block φ; all that it may turn lies in X -/
structure FeedIs (w : World) (X : Nat → Prop) (φ π : Nat) (ov : Value) (f : FeedC) (W : Nat) : Prop where
  hdr : w.heap[φ]? = some (.cells (feedL π ov f).toArray 125 (0, 0))
  pen : PenAt w X π f.pen W
  opn : OpnAt w X ov f.opn
  xφ : X φ
def FeedAt (w : World) (X : Nat → Prop) (φ π : Nat) (f : FeedC) (W : Nat) : Prop := ∃ ov, FeedIs w X φ π ov f W
def FeedTo (w : World) (X : Nat → Prop) (φ π : Nat) (f : FeedC) (W : Nat) (w' : World) : Prop := ∃ X', FeedAt w' X' φ π f W ∧ (∀ b, X' b → X b ∨ w.heap.size ≤ b) ∧ Turn X w w'
theorem FeedIs.typ {w : World} {X : Nat → Prop} {φ π W : Nat} {ov : Value} {f : FeedC} (h : FeedIs w X φ π ov f W) : Typ w 125 φ := ⟨_, _, h.hdr⟩
theorem FeedIs.turn {w w' : World} {X T : Nat → Prop} {φ π W : Nat} {ov : Value} {f : FeedC} (h : FeedIs w X φ π ov f W) (ht : Turn T w w') (hf : Free T w 21) (hX : ∀ b, X b → ¬ T b) : FeedIs w' X φ π ov f W := by
  refine ⟨ht.heap h.hdr (hX _ h.xφ), h.pen.turn ht hf hX, ?_, h.xφ⟩
  have ho := h.opn
  cases e : f.opn with
  | none => rw [e] at ho; exact ho
  | some c =>
    rw [e] at ho
    obtain ⟨q, e, hx, hc⟩ := ho
    exact ⟨q, e, hx, hc.turn ht (hX q hx)⟩
theorem FeedIs.below {w w' : World} {X : Nat → Prop} {φ π W : Nat} {ov : Value} {f : FeedC} (h : FeedIs w X φ π ov f W) (hb : Below w.heap.size w w') : FeedIs w' X φ π ov f W :=
  h.turn (Turn.of_new hb : Turn (fun _ => False) w w') (Free.no _ _) (fun _ _ => id)
theorem FeedTo.then {w w1 w2 : World} {X : Nat → Prop} {φ π W W2 : Nat} {f f' : FeedC} (h : FeedTo w X φ π f W w1) (h2 : ∀ X', FeedAt w1 X' φ π f W → FeedTo w1 X' φ π f' W2 w2) : FeedTo w X φ π f' W2 w2 := by
  obtain ⟨X1, h3, h4, h5⟩ := h
  obtain ⟨X2, h6, h7, h8⟩ := h2 X1 h3
  refine ⟨X2, h6, fun b hb => ?_, ?_⟩
  · rcases h7 b hb with h9 | h9
    · exact h4 b h9
    · exact .inr (Nat.le_trans h5.size h9)
  · have a : Turn (fun b => X b ∨ w.heap.size ≤ b) w w1 := h5.mono (fun _ _ e => .inl e)
    have b : Turn (fun b => X b ∨ w.heap.size ≤ b) w1 w2 := h8.mono (fun b _ e => h4 b e)
    exact (a.trans b).mono (fun b hb e => e.elim id (fun e => by omega))
theorem FeedIs.cells {w : World} {X : Nat → Prop} {φ π W : Nat} {ov : Value} {f : FeedC} (h : FeedIs w X φ π ov f W) : w.cell? ⟨φ, 0, none⟩ = some (ptr π) ∧ w.cell? ⟨φ, 1, none⟩ = some (.int .i64 f.dec.held) ∧ w.cell? ⟨φ, 11, none⟩ = some ov ∧ ∀ j, w.frozen? ⟨φ, j, none⟩ = false := by
  have h' := h.hdr
  exact ⟨by simp [World.cell?, h', feedL], by simp [World.cell?, h', feedL], by simp [World.cell?, h', feedL], fun j => by simp [World.frozen?, h']⟩
/-- the parts of a feeder -/
def kSeg (π : Nat) (ov : Value) (f : FeedC) : SegO.Fr := ⟨ptr π, .int .i64 f.dec.held, .int .i64 f.dec.needs, .int .u8 f.dec.lo, .int .u8 f.dec.hi, .int .i64 f.dec.bits, ov⟩
def kDec (π : Nat) (ov : Value) (f : FeedC) : DFr := ⟨ptr π, .bool f.seg.some, .int .i64 f.seg.last, .int .i64 f.seg.pict, .int .i64 f.seg.conj, .bool f.seg.odd, ov⟩
theorem FeedIs.seg {w : World} {X : Nat → Prop} {φ π W : Nat} {ov : Value} {f : FeedC} (h : FeedIs w X φ π ov f W) : SegO.At (kSeg π ov f) w φ f.seg := ⟨(), h.hdr⟩
theorem FeedIs.decAt {w : World} {X : Nat → Prop} {φ π W : Nat} {ov : Value} {f : FeedC} (h : FeedIs w X φ π ov f W) : DecAt (kDec π ov f) w φ f.dec := h.hdr
theorem FeedIs.free {w : World} {X : Nat → Prop} {φ π W : Nat} {ov : Value} {f : FeedC} (h : FeedIs w X φ π ov f W) {t : TypeId} (ht : 125 ≠ t) : Free (fun b => b = φ) w t := fun b e _ => by subst e; exact h.typ.not ht
theorem FeedIs.notPen {w : World} {X : Nat → Prop} {φ π W : Nat} {ov : Value} {f : FeedC} (h : FeedIs w X φ π ov f W) : ∀ b, b = φ → ¬ PenTyp w b := fun b e hp => by subst e; exact hp.not (by decide) h.typ
/-- the feeder's own block turned -/
theorem FeedIs.own {w w' : World} {X : Nat → Prop} {φ π W : Nat} {ov : Value} {f f' : FeedC} (h : FeedIs w X φ π ov f W) (ht : Turn (fun b => b = φ) w w') (hd : w'.heap[φ]? = some (.cells (feedL π ov f').toArray 125 (0, 0))) (hp : f'.pen = f.pen) (ho : f'.opn = f.opn) : FeedIs w' X φ π ov f' W :=
  ⟨hd, by rw [hp]; exact h.pen.off ht (h.free (by decide)) h.notPen, by rw [ho]; exact h.opn.turn ht (fun q e => by subst e; exact h.typ.not (by decide)), h.xφ⟩
theorem FeedIs.ofSeg {w w' : World} {X : Nat → Prop} {φ π W : Nat} {ov : Value} {f : FeedC} (h : FeedIs w X φ π ov f W) (ht : Turn (fun b => b = φ) w w') {s : St} (hs : SegO.At (kSeg π ov f) w' φ s) : FeedIs w' X φ π ov { f with seg := s } W := by
  obtain ⟨_, hs⟩ := hs
  exact h.own ht hs rfl rfl
theorem FeedIs.ofDec {w w' : World} {X : Nat → Prop} {φ π W : Nat} {ov : Value} {f : FeedC} (h : FeedIs w X φ π ov f W) (ht : Turn (fun b => b = φ) w w') {d : DecC} (hs : DecAt (kDec π ov f) w' φ d) : FeedIs w' X φ π ov { f with dec := d } W := h.own ht hs rfl rfl
/-- its open cluster let go -/
theorem FeedIs.shut {w : World} {X : Nat → Prop} {φ π W : Nat} {ov : Value} {f : FeedC} (h : FeedIs w X φ π ov f W) : FeedIs (w.setCell ⟨φ, 11, none⟩ (.pointer none)) X φ π (.pointer none) { f with opn := none } W := by
  have T : Turn (fun b => b = φ) w (w.setCell ⟨φ, 11, none⟩ (.pointer none)) := Turn.setCell _ _ rfl
  have := heap_set1 (cs := feedL π ov f) h.hdr 11 (.pointer none)
  exact ⟨this, h.pen.off T (h.free (by decide)) h.notPen, rfl, h.xφ⟩

set_option maxRecDepth 100000 in
set_option maxHeartbeats 8000000 in
theorem close_is (X : Nat → Prop) (φ π W : Nat) (ov : Value) (f : FeedC) (w : World) (h : FeedIs w X φ π ov f W) :
    Calls Tryz.prog 32 #[ptr φ] w fun e w' => e = .returned (.tuple #[]) ∧ FeedIs w' X φ π (.pointer none) (closeF f) W ∧ Turn (fun b => b = φ) w w' := by
  obtain ⟨_, _, c11, fr⟩ := h.cells
  have f11 := fr 11
  have HS := Lib.hid h.shut
  have T : Turn (fun b => b = φ) w (w.setCell ⟨φ, 11, none⟩ (.pointer none)) := Turn.setCell _ _ rfl
  have HT := Lib.hid T
  have HR := Lib.hid (SegO.reset_any (kSeg π (.pointer none) { f with opn := none }) φ f.seg _ h.shut.seg)
  have HF : Hid (∀ w', SegO.At (kSeg π (.pointer none) { f with opn := none }) w' φ Seg.zero → Seg.But φ (w.setCell ⟨φ, 11, none⟩ (.pointer none)) w' → FeedIs w' X φ π (.pointer none) (closeF f) W ∧ Turn (fun b => b = φ) w w') := Lib.hid fun w' h1 h2 =>
    ⟨h.shut.ofSeg (turn_but h2) h1, T.trans (turn_but h2)⟩
  clear h fr T
  go_enter Tryz.func32, Tryz.ntmps32
  go_wp2_with fail
  generalize (w.setCell ⟨φ, 11, none⟩ (.pointer none)) = w1 at *
  refine HR.out.mono ?_
  rintro e w2 ⟨rfl, h1, h2⟩
  have HX := Lib.hid (HF.out w2 h1 h2)
  clear h1 h2
  go_wp2_with fail
  go_end0
  exact ⟨rfl, HX.out⟩
theorem zero_feed (π : Nat) (p : PenC) : (feedL π (.pointer none) ⟨p, .zero, Seg.zero, none⟩) = [ptr π, .int .i64 0, .int .i64 0, .int .u8 0, .int .u8 0, .int .i64 0, .bool false, .int .i64 0, .int .i64 0, .int .i64 0, .bool false, .pointer none] := rfl
theorem fnew_any (X : Nat → Prop) (π W : Nat) (p : PenC) (w : World) (h : PenAt w X π p W) :
    Calls Tryz.prog 29 #[ptr π] w fun e w' => ∃ φ, e = .returned (ptr φ) ∧ φ = w.heap.size ∧ FeedIs w' (fun b => X b ∨ b = φ) φ π (.pointer none) ⟨p, .zero, Seg.zero, none⟩ W ∧ Below w.heap.size w w' := by
  obtain ⟨γ, hc0⟩ : ∃ γ, w.cell? ⟨π, 0, none⟩ = some (ptr γ) := by
    obtain ⟨γ, β, Q, hp⟩ := h
    exact ⟨γ, hp.cells.1⟩
  have HF : Hid (FeedIs (w.alloc (.cells (feedL π (.pointer none) ⟨p, .zero, Seg.zero, none⟩).toArray 125)) (fun b => X b ∨ b = w.heap.size) w.heap.size π (.pointer none) ⟨p, .zero, Seg.zero, none⟩ W ∧ Below w.heap.size w (w.alloc (.cells (feedL π (.pointer none) ⟨p, .zero, Seg.zero, none⟩).toArray 125))) := Lib.hid (by
    have hb : Below w.heap.size w (w.alloc (.cells (feedL π (.pointer none) ⟨p, .zero, Seg.zero, none⟩).toArray 125)) := (Below.refl _ _).alloc (Nat.le_refl _) _
    exact ⟨⟨heap_alloc_new w _, (h.below hb).mono (fun b e => .inl e), rfl, .inr rfl⟩, hb⟩)
  rw [zero_feed] at HF
  clear h
  go_enter Tryz.func29, Tryz.ntmps29
  go_wp2_with fail
  go_ret
  exact ⟨_, rfl, rfl, HF.out⟩
end Go.Proofs.YtjicdcmdgbcdcaaGreatDoor.Scr
end

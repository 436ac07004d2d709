/-
  pack.builder.page.
-/
import Derived.Test.YtpeniadomjijcaaPackL
import Derived.Deep.CutBlock
import Derived.Deep.DeepCutAuto
import Derived.Outline
namespace Go.Proofs.Ytpeniadomjijcaa.Pack
set_option linter.unusedSimpArgs false
set_option linter.unusedVariables false
open Go Go.RowKit Mem Turn Sp TabLaw

noncomputable def restLen (w : World) (qb : Nat) : Nat := match w.cell? ⟨qb, 0, none⟩ with | some (.slice _ n _) => n | _ => 0
theorem restLen_eq {w : World} {qb n c : Nat} {a : Option Addr} (h : w.cell? ⟨qb, 0, none⟩ = some (.slice a n c)) : restLen w qb = n := by unfold restLen; rw [h]

/-- the contract of number, as it is offered -/
def NumberC : Prop := ∀ (qb kb eb qt base : Nat) (rest : Value) (fs : List Nat) (bs : List (List Int)) (x : List Int) (w : World) (hB : BAt w qb rest kb eb qt) (hK : KAt w kb bs) (hT : TAt w qt base fs bs)
    (hl : ∀ b ∈ bs, b.length = 256) (hx : x.length = 256) (hn : bs.length ≤ 5000) (l1 : qb < base) (l2 : kb < base) (l3 : qt < base) (hb : base ≤ w.heap.size),
    Calls Try.prog 21 #[.pointer (some ⟨qb, 0, none⟩), .agg (arr x)] w fun e w' =>
      e = .returned (.int .u16 ((num x bs).2 : Int)) ∧ KAt w' kb (num x bs).1 ∧ TAt w' qt base fs (num x bs).1 ∧ Turn (fun j => j = kb ∨ j = qt ∨ base ≤ j) w w'

/-- what is still to come lies below a block -/
def LB (v : Value) (lo : Nat) : Prop := ∀ a n c, v = .slice (some a) n c → 0 < n → a.block < lo
theorem RAt.turn {w w' : World} {v : Value} {l : List S3} {d lo : Nat} {T : Nat → Prop} (h : RAt w v l d) (hlb : LB v lo) (ht : Turn T w w') (hn : ∀ j, j < lo → ¬ T j) : RAt w' v l d := by
  obtain ⟨a, c, rfl, h2, h3, h4⟩ := h
  refine ⟨a, c, rfl, h2, h3, ?_⟩
  by_cases h0 : l.length = d
  · exact .inl h0
  · obtain ⟨b, off, rfl, hat⟩ := h4.resolve_left h0
    have hb : b < lo := hlb _ _ _ rfl (by omega)
    exact .inr ⟨b, off, rfl, Nat.lt_of_lt_of_le hat.1 ht.size, fun k s hs => by
      obtain ⟨x0, x1, x2⟩ := hat.2 k s hs
      exact ⟨ht.cell x0 (hn _ hb), ht.cell x1 (hn _ hb), ht.cell x2 (hn _ hb)⟩⟩
theorem BAt.set0 {w : World} {qb kb eb qt : Nat} {rest v : Value} (h : BAt w qb rest kb eb qt) : BAt (w.setCell ⟨qb, 0, none⟩ v) qb v kb eb qt := by
  have h' : w.heap[qb]? = _ := h
  unfold BAt
  simp only [World.setCell, Array.getElem?_modify]
  rw [if_pos trivial, h']
  simp

theorem e_ne_b {w : World} {qb kb eb qt : Nat} {rest : Value} {ev : List (Int × Int)} (h : BAt w qb rest kb eb qt) (he : EAt w eb ev) : eb ≠ qb := by
  rintro rfl
  obtain ⟨es, clk, h1, _⟩ := he
  have h' : w.heap[eb]? = _ := h
  rw [h1] at h'
  injection h' with h'
  cases h'
theorem k_ne_b {w : World} {qb kb eb qt : Nat} {rest : Value} {bs : List (List Int)} (h : BAt w qb rest kb eb qt) (he : KAt w kb bs) : kb ≠ qb := by
  rintro rfl
  obtain ⟨es, clk, h1, _⟩ := he
  have h' : w.heap[kb]? = _ := h
  rw [h1] at h'
  injection h' with h'
  cases h'
theorem t_ne_b {w : World} {qb kb eb qt base : Nat} {rest : Value} {fs : List Nat} {bs : List (List Int)} (h : BAt w qb rest kb eb qt) (he : TAt w qt base fs bs) : qt ≠ qb := by
  rintro rfl
  obtain ⟨fc, bv, h1, _⟩ := he
  have h' : w.heap[qt]? = _ := h
  rw [h1] at h'
  injection h' with h'
  injection h' with _ h'
  exact absurd h' (by decide)
theorem e_ne_t {w : World} {eb qt base : Nat} {ev : List (Int × Int)} {fs : List Nat} {bs : List (List Int)} (h : EAt w eb ev) (he : TAt w qt base fs bs) : eb ≠ qt := by
  rintro rfl
  obtain ⟨es, clk, h1, _⟩ := h
  obtain ⟨fc, bv, h2, _⟩ := he
  rw [h1] at h2
  injection h2 with h2
  cases h2

theorem info_block2 : (Try.prog.info? 51).map (fun i => (i.zero, i.size)) = some (some (.agg (Array.replicate 256 (.int .u16 0))), 256) := by kernel_rfl
theorem zero_block (w : World) : (zeroValue 51).run Try.prog w = .ok (.agg (arr (List.replicate 256 0))) w := by
  have h := (zero_of_info info_block2).1 w
  rw [h]
  have e : arr (List.replicate 256 0) = Array.replicate 256 (Value.int .u16 0) := by
    unfold arr
    rw [List.map_replicate, List.toArray_replicate]
  rw [e]

theorem TAt.turn2 {w w' : World} {qt base : Nat} {fs : List Nat} {bs : List (List Int)} {T : Nat → Prop} (h : TAt w qt base fs bs) (ht : Turn T w w') (hn : ¬ T qt) (hT : ∀ j, base ≤ j → j < w.heap.size → ¬ T j) : TAt w' qt base fs bs := by
  obtain ⟨fc, bv, h1, h2, h3, h4⟩ := h
  exact ⟨fc, bv, ht.heap h1 hn, h2, h3, ht.kept h4 (fun g hg => hT g (h4.lt g hg).1 (h4.lt g hg).2)⟩

/-- the state behind the first loop -/
def Skipped (w wx : World) (qb kb eb qt lo : Nat) (l : List S3) (m : Int) : Prop :=
  ∃ (v : Value) (d : Nat), BAt wx qb v kb eb qt ∧ RAt wx v l d ∧ LB v lo ∧ DP l d m ∧ Turn (fun j => j = qb) w wx

/-- the page as it is built -/
def Painted (w wx : World) (X : Nat) (c : List Int) : Prop := wx.heap[X]? = some (.cells (arr c) 51 (0, 0)) ∧ Turn (fun j => j = X) w wx

/-- the relation of the inner loop -/
def InnerR (w1 : World) (X : Nat) (l : List S3) (k : Nat) (s : S3) (m : Int) (ob : Nat) (g : Nat) (i : Value) (wx : World) : Prop :=
  ∃ j : Nat, j ≤ 256 ∧ 256 ≤ g + j ∧ i = .int .i64 (m + j) ∧ Painted w1 wx X (pt l k s m j) ∧ wx.heap[ob]? = some (.cells #[.int .i64 s.1, .int .i64 s.2.1, .int .i64 s.2.2] 29 (0, 0)) ∧ s.1 ≤ m + j

theorem innerA {w1 W2 : World} {X k ob : Nat} {l : List S3} {s0 s1 s2 m : Int} (hp : Painted w1 W2 X (cont (l.take k) m)) (hh : W2.heap[ob]? = some (.cells #[.int .i64 s0, .int .i64 s1, .int .i64 s2] 29 (0, 0))) (h : s0 ≤ m) :
    InnerR w1 X l k (s0, s1, s2) m ob 256 (.int .i64 m) W2 :=
  ⟨0, by omega, by omega, by simp, by rw [pt_start (fun i hi => by omega)]; exact hp, hh, by simp; exact h⟩
theorem innerB {w1 W2 : World} {X k ob : Nat} {l : List S3} {s0 s1 s2 m : Int} (hp : Painted w1 W2 X (cont (l.take k) m)) (hh : W2.heap[ob]? = some (.cells #[.int .i64 s0, .int .i64 s1, .int .i64 s2] 29 (0, 0))) (h : m ≤ s0) (h2 : s0 < m + 256) :
    InnerR w1 X l k (s0, s1, s2) m ob 256 (.int .i64 s0) W2 :=
  ⟨(s0 - m).toNat, by omega, by omega, by congr 1; omega, by rw [pt_start (fun i hi => by simp only; omega)]; exact hp, hh, by simp only; omega⟩
theorem arr_set (c : List Int) (j : Nat) (y : Int) : (arr c).setIfInBounds j (.int .u16 y) = arr (c.set j y) := by
  simp [arr, List.map_set]
theorem innerS {w1 wx : World} {X k ob : Nat} {l : List S3} {s0 s1 s2 m : Int} {g j : Nat} (hg : 256 ≤ g + j) (hj : j < 256) (hp : Painted w1 wx X (pt l k (s0, s1, s2) m j)) (hh : wx.heap[ob]? = some (.cells #[.int .i64 s0, .int .i64 s1, .int .i64 s2] 29 (0, 0)))
    (h0 : s0 ≤ m + j) (h1 : m + j ≤ s1) : InnerR w1 X l k (s0, s1, s2) m ob (g - 1) (.int .i64 (m + (j : Int) + 1)) (wx.setCell ⟨X, j, none⟩ (.int .u16 s2)) := by
  have T : Turn (fun i => i = X) wx (wx.setCell ⟨X, j, none⟩ (.int .u16 s2)) := Turn.setCell _ _ rfl
  refine ⟨j + 1, by omega, by omega, by congr 1; omega, ⟨?_, hp.2.trans T⟩, T.heap hh (fun e => ?_), by simp only; omega⟩
  · have := pt_step (l := l) (k := k) (s := (s0, s1, s2)) (m := m) hj h0 h1
    simp only at this
    rw [← this, ← arr_set]
    simp only [World.setCell, Array.getElem?_modify]
    rw [if_pos trivial, hp.1]
    rfl
  · have h := hp.1
    rw [← e, hh] at h
    injection h with h
    injection h with _ h
    exact absurd h (by decide)
theorem innerE {w1 wx : World} {X k : Nat} {l : List S3} (hr : Right l) {s0 s1 s2 m : Int} {j : Nat} (hs : l[k]? = some (s0, s1, s2)) (hp : Painted w1 wx X (pt l k (s0, s1, s2) m j)) (h : ¬ (m + j ≤ s1 ∧ j < 256)) : Painted w1 wx X (cont (l.take (k + 1)) m) := by
  rw [pt_end hr hs (fun i h1 h2 => by simp only; omega)] at hp
  exact hp

set_option maxRecDepth 100000 in
set_option maxHeartbeats 8000000 in
theorem page_any (NC : NumberC) (qb kb eb qt base lo : Nat) (v : Value) (fs : List Nat) (bs : List (List Int)) (ev : List (Int × Int)) (l : List S3) (hr : Right l) (hll : l.length ≤ 100000) (d : Nat) (m : Int) (hm0 : 0 ≤ m) (hm1 : m ≤ 1114111) (w : World)
    (hB : BAt w qb v kb eb qt) (hK : KAt w kb bs) (hE : EAt w eb ev) (hT : TAt w qt base fs bs) (hR : RAt w v l d) (hd : ∀ (i : Nat) (s : S3), i < d → l[i]? = some s → s.2.1 < m)
    (hl : ∀ b ∈ bs, b.length = 256) (hnd : bs.Nodup) (hev : EvOK ev bs) (hn : bs.length ≤ 5000) (l1 : qb < base) (l2 : kb < base) (l3 : qt < base) (l4 : eb < base) (hne : eb ≠ kb) (hb : base ≤ w.heap.size) (hlb : LB v lo) (o1 : lo ≤ qb) (o2 : lo ≤ kb) (o3 : lo ≤ eb) (o4 : lo ≤ qt) :
    Calls Try.prog 18 #[.pointer (some ⟨qb, 0, none⟩), .int .i64 m] w fun e w' =>
      e = .returned (.int .u16 ((num (cont l m) bs).2 : Int)) ∧ (∃ v' d' ev', BAt w' qb v' kb eb qt ∧ EAt w' eb ev' ∧ EvOK ev' (num (cont l m) bs).1 ∧ RAt w' v' l d' ∧ LB v' lo ∧ DP l d' m) ∧
        KAt w' kb (num (cont l m) bs).1 ∧ TAt w' qt base fs (num (cont l m) bs).1 ∧ Turn (fun j => j = qb ∨ j = kb ∨ j = eb ∨ j = qt ∨ base ≤ j) w w' := by
  have HR := Lib.hid hr
  have HB := Lib.hid hB
  have HK := Lib.hid hK
  have HE := Lib.hid hE
  have HT := Lib.hid hT
  have HRA := Lib.hid hR
  have HD := Lib.hid hd
  have HEV := Lib.hid hev
  have HND := Lib.hid hnd
  have HLB := Lib.hid hlb
  have HNC := Lib.hid NC
  have HL := Lib.hid hl
  clear hr hB hK hE hT hR hd hev hnd hlb NC hl
  go_enter Try.func18, Try.ntmps18
  go_upto_block 0 with fail
  go_cut [4] (fun z wx => z = .int .u16 0 ∧ Hid (Skipped w wx qb kb eb qt lo l m))
  case first =>
    go_wp2_with fail
    go_loopg [14] (l.length - d) (fun g _ wr => ∃ (v : Value) (d : Nat), g = l.length - d ∧ Hid (BAt wr qb v kb eb qt ∧ RAt wr v l d ∧ LB v lo ∧ (∀ (i : Nat) (s : S3), i < d → l[i]? = some s → s.2.1 < m) ∧ Turn (fun j => j = qb) w wr))
    case atStart => exact ⟨v, d, rfl, Lib.hid ⟨HB.out, HRA.out, HLB.out, HD.out, Turn.refl _ _⟩⟩
    case round =>
      obtain ⟨v, d, rfl, H⟩ := hrel
      obtain ⟨hB, ⟨a, c, rfl, hac, hdl, hrest⟩, hLB, hD, hTu⟩ := H.out
      have c0 := hB.c0
      by_cases h0 : l.length = d
      · have hz : l.length - d = 0 := by omega
        have HX : Hid (Skipped w wr qb kb eb qt lo l m) := Lib.hid ⟨_, d, hB, ⟨a, c, rfl, hac, hdl, hrest⟩, hLB, ⟨hdl, hD, fun s hs => by rw [List.getElem?_eq_none (by omega)] at hs; cases hs⟩, hTu⟩
        rw [hz] at c0
        clear hB hac hdl hrest hLB hD hTu H h0 hz
        go_wp2_with fail
        go_meet
        exact ⟨rfl, HX⟩
      · obtain ⟨b, off, rfl, hat⟩ := hrest.resolve_left h0
        obtain ⟨s, hs⟩ : ∃ s, l[d]? = some s := ⟨_, List.getElem?_eq_getElem (by omega)⟩
        obtain ⟨x0, x1, x2⟩ := hat.2 d s hs
        obtain ⟨n, hnn⟩ : ∃ n, l.length - d = n + 1 := ⟨l.length - d - 1, by omega⟩
        rw [hnn] at c0
        have hp : (0 : Int) < (n : Int) + 1 := by omega
        obtain ⟨s0, s1, s2⟩ := s
        simp only at x0 x1 x2
        by_cases h1 : s1 < m
        · have d1 : decide (s1 < m) = true := decide_eq_true h1
          have f0 : wr.frozen? ⟨qb, 0, none⟩ = false := by have h : wr.heap[qb]? = _ := hB; simp [World.frozen?, h]
          have hdl1 : d + 1 ≤ l.length := by omega
          have HN1 : Hid (l.length - (d + 1) = n) := Lib.hid (by omega)
          have HD1 : Hid (∀ (i : Nat) (s : S3), i < d + 1 → l[i]? = some s → s.2.1 < m) := Lib.hid fun i s hi hsi => by
            rcases Nat.lt_or_ge i d with h | h
            · exact hD i s h hsi
            · obtain rfl : i = d := by omega
              rw [hs] at hsi; injection hsi with hsi; subst hsi; exact h1
          have HTS : ∀ u, Hid (Turn (fun j => j = qb) w (wr.setCell ⟨qb, 0, none⟩ u)) := fun u => Lib.hid (hTu.trans (Turn.setCell _ _ rfl))
          have HBS : ∀ u, Hid (BAt (wr.setCell ⟨qb, 0, none⟩ u) qb u kb eb qt) := fun u => Lib.hid hB.set0
          have hbq : b < lo := hLB _ _ _ rfl (by omega)
          have HAS : ∀ u, Hid (At3 (wr.setCell ⟨qb, 0, none⟩ u) b off l) := fun u => Lib.hid ⟨by have := hat.1; simpa [World.setCell] using this, fun k s hk => by
            obtain ⟨y0, y1, y2⟩ := hat.2 k s hk
            have T1 : Turn (fun j => j = qb) wr (wr.setCell ⟨qb, 0, none⟩ u) := Turn.setCell _ _ rfl
            exact ⟨T1.cell y0 (fun e => by simp only at e; omega), T1.cell y1 (fun e => by simp only at e; omega), T1.cell y2 (fun e => by simp only at e; omega)⟩⟩
          have HC := Lib.hid hac
          by_cases hc1 : c = 1
          · obtain rfl : n = 0 := by omega
            subst hc1
            clear hB hac hdl hrest hLB hD hTu H h0 hnn hat hs
            go_wp2_with fail
            go_roundg (l.length - (d + 1))
            case measure => omega
            case rel => exact ⟨_, d + 1, rfl, Lib.hid ⟨(HBS _).out, ⟨_, _, by rw [HN1.out], by rw [HN1.out]; exact Nat.zero_le _, hdl1, .inl (by have := HN1.out; omega)⟩, fun a n c e hn => by injection e with _ e; omega, HD1.out, (HTS _).out⟩⟩
          · have hc2 : (c == 1) = false := by simpa using hc1
            clear hB hac hdl hrest hLB hD hTu H h0 hnn hat hs
            go_wp2_with fail
            go_roundg (l.length - (d + 1))
            case measure => omega
            case rel => exact ⟨_, d + 1, rfl, Lib.hid ⟨(HBS _).out, ⟨_, _, by rw [HN1.out], by have := HC.out; have := HN1.out; omega, hdl1, .inr ⟨b, off, by rw [show off + (d + 1) * 3 = off + d * 3 + 3 by omega], (HAS _).out⟩⟩, fun a n c e hn => by injection e with e _; injection e with e; subst e; exact hbq, HD1.out, (HTS _).out⟩⟩
        · have d1 : decide (s1 < m) = false := decide_eq_false h1
          have HX : Hid (Skipped w wr qb kb eb qt lo l m) := Lib.hid ⟨_, d, hB, ⟨_, c, rfl, hac, hdl, hrest⟩, hLB, ⟨hdl, hD, fun t ht => by rw [hs] at ht; injection ht with ht; subst ht; simp only; omega⟩, hTu⟩
          clear hB hac hdl hrest hLB hD hTu H h0 hnn hat hs
          go_wp2_with fail
          go_meet
          exact ⟨rfl, HX⟩
  case rest =>
    obtain ⟨rfl, HX⟩ := hcut
    obtain ⟨w0, rfl⟩ : ∃ w0 : World, w0 = wc := ⟨_, rfl⟩
    obtain ⟨v, d, hB, hR, hLB, hDP, hTu⟩ := HX.out
    have HB1 := Lib.hid hB
    have HR1 := Lib.hid hR
    have HLB1 := Lib.hid hLB
    have HDP := Lib.hid hDP
    have HTu := Lib.hid hTu
    clear HX hB hR hLB hDP hTu
    go_wp2_with fail
    refine (whole_any qb kb eb qt v l d m hm0 (by omega) w0 HB1.out HR1.out hll).mono ?_
    rintro e w1 ⟨rfl, rfl⟩
    have HW := Lib.hid (fun _ h => whole_cont HR.out HDP.out h : ∀ (v : Int), wholeV l d m = (v, true) → cont l m = List.replicate 256 v)
    obtain ⟨val, even, hw⟩ : ∃ val even, wholeV l d m = (val, even) := ⟨_, _, rfl⟩
    rw [hw]
    have HWV := Lib.hid hw
    have HE1 := Lib.hid (HE.out.turn HTu.out (fun e => e_ne_b HB.out HE.out e))
    have hlk := run_look_int w0 HE1.out val
    have c2 := HB1.out.c2
    obtain ⟨og, hog⟩ : ∃ og, eget ev val = og := ⟨_, rfl⟩
    rw [hog] at hlk
    have HOG := Lib.hid hog
    clear hw hog
    have hcase : Hid ((even = true ∧ ∃ n, og = some n) ∨ (even = false) ∨ (even = true ∧ og = none)) := Lib.hid (by
      cases even
      · exact .inr (.inl rfl)
      · cases og
        · exact .inr (.inr ⟨rfl, rfl⟩)
        · exact .inl ⟨rfl, _, rfl⟩)
    rcases hcase.out with ⟨rfl, n, rfl⟩ | h
    · simp only [Option.getD_some, Option.isSome_some] at hlk
      clear hcase
      have HEV1 := Lib.hid (HEV.out val n HOG.out)
      have HC1 := Lib.hid (HW.out val HWV.out)
      have HTu2 : Hid (Turn (fun j => j = qb) w w0) := HTu
      go_wp2_with fail
      go_ret
      obtain ⟨k, rfl, hk⟩ := HEV1.out
      have hnum := num_at HND.out hk
      rw [HC1.out, hnum]
      exact ⟨rfl, ⟨v, d, ev, HB1.out, HE1.out, HEV.out, HR1.out, HLB1.out, HDP.out⟩, HK.out.turn HTu2.out (fun e => k_ne_b HB.out HK.out e), HT.out.turn HTu2.out (fun e => t_ne_b HB.out HT.out e) (fun j h e => by omega), HTu2.out.mono (fun _ _ h => .inl h)⟩
    · have HH := Lib.hid h
      clear hcase h
      generalize hg1 : og.getD 0 = gn at hlk
      generalize hg2 : og.isSome = gok at hlk
      have HG2 := Lib.hid hg2
      clear hg1 hg2
      go_upto_region 5 with fail
      go_cut [57] (fun s wx => s = .bool false ∧ w0 = wx)
      case first =>
        rcases HH.out with rfl | ⟨rfl, rfl⟩
        · go_wp2_with fail
          go_meet
          exact ⟨rfl, rfl⟩
        · obtain rfl : gok = false := HG2.out.symm
          go_wp2_with fail
          go_meet
          exact ⟨rfl, rfl⟩
      case rest =>
        obtain ⟨rfl, rfl⟩ := hcut
        have hz := zero_block w0
        obtain ⟨zz, hzz⟩ : ∃ zz, zz = List.replicate 256 (0 : Int) := ⟨_, rfl⟩
        rw [← hzz] at hz
        have HZZ := Lib.hid hzz
        clear hzz hlk c2
        have hX : (w0.alloc (.cells (arr zz) 51)).heap[w0.heap.size]? = some (.cells (arr zz) 51 (0, 0)) := World.alloc_heap_new w0 _
        have hTX : Turn (fun _ => False) w0 (w0.alloc (.cells (arr zz) 51)) := Turn.alloc _ _ _
        have hXs : base ≤ w0.heap.size := Nat.le_trans hb HTu.out.size
        have HX := Lib.hid hX
        have HTX := Lib.hid hTX
        have hXX : w0.heap.size < (w0.alloc (.cells (arr zz) 51)).heap.size := by simp
        clear hX hTX
        go_upto_region 8 with fail
        generalize (w0.alloc (.cells (arr zz) 51)) = w1 at *
        generalize hXe : w0.heap.size = X at *
        have HXE := Lib.hid hXe
        clear hXe
        have HB2 := Lib.hid (HB1.out.turn HTX.out id)
        have HR2 := Lib.hid (HR1.out.turn HLB1.out HTX.out (fun _ _ => id))
        obtain ⟨a, c, rfl, hac, hdl, hrest⟩ := HR2.out
        have c0 := HB2.out.c0
        have HAC := Lib.hid hac
        have HDL := Lib.hid hdl
        have HREST := Lib.hid hrest
        obtain ⟨n, hn1⟩ : ∃ n, l.length - d = n := ⟨_, rfl⟩
        rw [hn1] at c0
        have HN1 := Lib.hid hn1
        have hn100 : n ≤ 100000 := by omega
        clear hac hdl hrest hn1
        go_upto_block 2 with fail
        go_cut [4] (fun z wx => z = .int .u16 0 ∧ Hid (Painted w1 wx X (cont l m)))
        case first =>
          go_wp2_with fail
          go_loopg [64] n (fun g i wr => ∃ k : Nat, k ≤ n ∧ g = n - k ∧ i = .int .i64 k ∧ Hid (Painted w1 wr X (cont (l.take (d + k)) m)))
          case atStart => exact ⟨0, Nat.zero_le _, rfl, rfl, Lib.hid ⟨by rw [Nat.add_zero, cont_start HDP.out.2.1, ← HZZ.out]; exact HX.out, Turn.refl _ _⟩⟩
          case round =>
            obtain ⟨k, hk, rfl, rfl, HPk⟩ := hrel
            obtain ⟨wo, rfl⟩ : ∃ wo : World, wo = wr := ⟨_, rfl⟩
            by_cases hkn : k < n
            · obtain ⟨b, off, rfl, hat⟩ := HREST.out.resolve_left (by have := HN1.out; omega)
              have hbX : b ≠ X := by have := HLB1.out _ _ _ rfl (by have := HN1.out; omega); simp only at this; omega
              obtain ⟨s, hs⟩ : ∃ s, l[d + k]? = some s := ⟨_, List.getElem?_eq_getElem (by have := HN1.out; omega)⟩
              obtain ⟨x0, x1, x2⟩ := hat.2 (d + k) s hs
              have ho : off + (d + k) * 3 = off + d * 3 + k * 3 := by omega
              rw [ho] at x0 x1 x2
              have x0 := HPk.out.2.cell x0 (fun e => hbX e)
              have x1 := HPk.out.2.cell x1 (fun e => hbX e)
              have x2 := HPk.out.2.cell x2 (fun e => hbX e)
              have hlt' : (k : Int) < n := by omega
              obtain ⟨r1, r2, r3, r4, r5⟩ := HR.out (d + k) s hs
              have HS := Lib.hid hs
              obtain ⟨s0, s1, s2⟩ := s
              simp only at x0 x1 x2 r2 r3 r4 r5
              have hs0 : 0 ≤ s0 := by have := right_le HR.out hs; simp only at this; omega
              obtain ⟨W2, hW2⟩ : ∃ W2, W2 = wo.alloc (.cells #[.int .i64 s0, .int .i64 s1, .int .i64 s2] 29) := ⟨_, rfl⟩
              have hnew : (wo.alloc (.cells #[.int .i64 0, .int .i64 0, .int .i64 0] 29)).heap[wo.heap.size]? = some (.cells #[.int .i64 0, .int .i64 0, .int .i64 0] 29 (0, 0)) := heap_alloc_new wo _
              have hrow : (wo.alloc (.cells #[.int .i64 0, .int .i64 0, .int .i64 0] 29)).setRow wo.heap.size #[.int .i64 s0, .int .i64 s1, .int .i64 s2] = W2 := by rw [hW2]; exact World.setRow_alloc_new wo _ _ _
              have hh2 : W2.heap[wo.heap.size]? = some (.cells #[.int .i64 s0, .int .i64 s1, .int .i64 s2] 29 (0, 0)) := by rw [hW2]; exact heap_alloc_new wo _
              have q0 : W2.cell? ⟨wo.heap.size, 0, none⟩ = some (.int .i64 s0) := by simp [World.cell?, hh2]
              have q1 : W2.cell? ⟨wo.heap.size, 1, none⟩ = some (.int .i64 s1) := by simp [World.cell?, hh2]
              have q2 : W2.cell? ⟨wo.heap.size, 2, none⟩ = some (.int .i64 s2) := by simp [World.cell?, hh2]
              have TW2 : Turn (fun _ => False) wo W2 := by rw [hW2]; exact Turn.alloc _ _ _
              have HP2 : Hid (Painted w1 W2 X (cont (l.take (d + k)) m)) := Lib.hid ⟨TW2.heap HPk.out.1 id, HPk.out.2.trans (TW2.mono (fun _ _ h => h.elim))⟩
              have hXr : X < wo.heap.size := (Array.getElem?_eq_some_iff.1 HPk.out.1).1
              have HH2 := Lib.hid hh2
              clear hs hW2 hh2 HPk TW2 hat ho r1 hXr
              by_cases hbr : m + 256 ≤ s0
              · have HE : Hid (Painted w1 W2 X (cont l m)) := Lib.hid (by
                  have e := cont_stop HR.out (k := d + k) (m := m) (fun t ht => by rw [HS.out] at ht; injection ht with ht; subst ht; exact hbr)
                  rw [← e]; exact HP2.out)
                have d1 : decide (m + 256 ≤ s0) = true := decide_eq_true hbr
                go_wp2_with (refine wpList_store_row rfl 29 _ _ rfl wo.heap.size #[.int .i64 s0, .int .i64 s1, .int .i64 s2] rfl rfl _ _ hnew (size_span _ _ _) rfl (one_span _ _ _) ?_)
                go_meet
                exact ⟨rfl, HE⟩
              · have d1 : decide (m + 256 ≤ s0) = false := decide_eq_false hbr
                have HBR : Hid (s0 < m + 256) := Lib.hid (by omega)
                go_wp2_with (refine wpList_store_row rfl 29 _ _ rfl wo.heap.size #[.int .i64 s0, .int .i64 s1, .int .i64 s2] rfl rfl _ _ hnew (size_span _ _ _) rfl (one_span _ _ _) ?_)
                all_goals
                  go_loopg [12] 256 (fun gg i wx => ∃ g, g = gg ∧ InnerR w1 X l (d + k) (s0, s1, s2) m wo.heap.size g i wx)
                  case atStart => first | exact ⟨_, rfl, innerA HP2.out HH2.out (Int.le_of_lt (by assumption))⟩ | exact ⟨_, rfl, innerB HP2.out HH2.out (by assumption) HBR.out⟩ | exact ⟨_, rfl, innerB HP2.out HH2.out (Int.le_of_lt (by assumption)) HBR.out⟩
                  case round =>
                    obtain ⟨g, rfl, j, hj, hg, rfl, hp, hh, h0⟩ := hrel
                    have q1 : wr.cell? ⟨wo.heap.size, 1, none⟩ = some (.int .i64 s1) := by simp [World.cell?, hh]
                    have q2 : wr.cell? ⟨wo.heap.size, 2, none⟩ = some (.int .i64 s2) := by simp [World.cell?, hh]
                    by_cases hin : m + j ≤ s1 ∧ j < 256
                    · have HI := Lib.hid (innerS (g := g) hg hin.2 hp hh h0 hin.1)
                      have hf : wr.frozen? ⟨X, j, none⟩ = false := by have := hp.1; simp [World.frozen?, this]
                      have hx0 : wr.cell? ⟨X, j, none⟩ = some (.int .u16 ((pt l (d + k) (s0, s1, s2) m j).getD j 0)) := by
                        have := hp.1
                        have hl : j < (pt l (d + k) (s0, s1, s2) m j).length := by rw [pt_len]; exact hin.2
                        simp [World.cell?, this, arr, hl, List.getD_eq_getElem?_getD]
                      generalize ((pt l (d + k) (s0, s1, s2) m j).getD j 0) = yy at hx0
                      have hg1 : g - 1 < g := by omega
                      have e1 : m + (j : Int) - m = (j : Int) := by omega
                      have d1 : decide (m + (j : Int) ≤ if m + 256 - 1 < s1 then m + 256 - 1 else s1) = true := decide_eq_true (by split <;> omega)
                      have b1 : (j : Int) < 256 := by omega
                      have u2 : IntKind.u16.wrap s2 = s2 := by
                        unfold IntKind.wrap
                        simp [IntKind.bits, IntKind.signed]
                        omega
                      clear hp hh h0 hin hg
                      go_wp2_with fail
                      all_goals
                        go_roundg (g - 1)
                        case measure => exact hg1
                        case rel => exact ⟨_, rfl, HI.out⟩
                    · have HI := Lib.hid (innerE HR.out HS.out hp hin)
                      have d1 : decide (m + (j : Int) ≤ if m + 256 - 1 < s1 then m + 256 - 1 else s1) = false := decide_eq_false (by split <;> omega)
                      have hk1 : k + 1 ≤ n := by omega
                      have hk2 : n - (k + 1) < n - k := by omega
                      clear hp hh h0 hin hg
                      go_wp2_with fail
                      all_goals
                        go_roundg (n - (k + 1))
                        case measure => exact hk2
                        case rel => exact ⟨k + 1, hk1, rfl, by go_num, HI⟩
            · obtain rfl : k = n := by omega
              have HE : Hid (Painted w1 wo X (cont l m)) := Lib.hid (by
                have e : l.take (d + k) = l := List.take_of_length_le (by have := HN1.out; have := HDL.out; omega)
                have := HPk.out
                rwa [e] at this)
              go_wp2_with fail
              go_meet
              exact ⟨rfl, HE⟩
        case rest =>
          obtain ⟨rfl, HP⟩ := hcut
          obtain ⟨w2, rfl⟩ : ∃ w2 : World, w2 = wc := ⟨_, rfl⟩
          have hqX : qb ≠ X := by omega
          have TA : Hid (Turn (fun j => j = qb) w w1) := Lib.hid (HTu.out.trans (HTX.out.mono (fun _ _ h => h.elim)))
          have TT : Hid (Turn (fun j => j = qb ∨ j = X) w w2) := Lib.hid ((TA.out.mono (fun _ _ h => .inl h)).trans (HP.out.2.mono (fun _ _ h => .inr h)))
          have HB3 := Lib.hid (HB2.out.turn HP.out.2 hqX)
          have HK3 := Lib.hid (HK.out.turn TT.out (fun e => e.elim (k_ne_b HB.out HK.out) (by omega)))
          have HE3 := Lib.hid (HE.out.turn TT.out (fun e => e.elim (e_ne_b HB.out HE.out) (by omega)))
          have HT3 := Lib.hid (HT.out.turn2 TT.out (fun e => e.elim (t_ne_b HB.out HT.out) (by omega)) (fun j h h2 e => by have := HXE.out; have := HTu.out.size; omega))
          have HR3 := Lib.hid (HR2.out.turn HLB1.out HP.out.2 (fun j h e => by omega))
          have hP1 := Lib.hid HP.out.1
          have HCL := Lib.hid (cont_len l m)
          have HNB := Lib.hid (Nat.le_trans hb TT.out.size)
          generalize hcc : cont l m = cc at *
          have HCC := Lib.hid hcc
          clear hcc
          go_wp2_with (refine wpList_load_row rfl 51 (.tmp 9) rfl X rfl _ _ (0, 0) _ hP1.out Try.underlying51 rfl (by rw [arr_size, HCL.out]; exact size_block) ?_)
          refine (HNC.out qb kb eb qt base _ fs bs cc w2 HB3.out HK3.out HT3.out HL.out HCL.out hn l1 l2 l3 HNB.out).mono ?_
          rintro e w3 ⟨rfl, hk4, ht4, htu4⟩
          have HTU4 : Hid (Turn (fun j => j = kb ∨ j = qt ∨ base ≤ j) w2 w3) := Lib.hid htu4
          have hqk : qb ≠ kb := (k_ne_b HB3.out HK3.out).symm
          have hqt : qb ≠ qt := (t_ne_b HB3.out HT3.out).symm
          have het : eb ≠ qt := e_ne_t HE3.out HT3.out
          have HB4 := Lib.hid (HB3.out.turn HTU4.out (fun e => by omega))
          have HE4 := Lib.hid (HE3.out.turn HTU4.out (fun e => by omega))
          have HR4 := Lib.hid (HR3.out.turn HLB1.out HTU4.out (fun j h e => by omega))
          have HK4 := Lib.hid hk4
          have HT4 := Lib.hid ht4
          have HTU5 : Hid (Turn (fun j => j = qb ∨ j = kb ∨ j = eb ∨ j = qt ∨ base ≤ j) w w3) := Lib.hid
            ((TT.out.mono (fun j _ h => h.elim .inl (fun h => .inr (.inr (.inr (.inr (by omega)))))) : Turn (fun j => j = qb ∨ j = kb ∨ j = eb ∨ j = qt ∨ base ≤ j) w w2).trans
              (HTU4.out.mono (fun j _ h => h.elim (fun h => .inr (.inl h)) (fun h => h.elim (fun h => .inr (.inr (.inr (.inl h)))) (fun h => .inr (.inr (.inr (.inr h))))))))
          have HEVP := Lib.hid (evok_pre HEV.out (num_pre bs cc))
          have HHAS := Lib.hid (num_has bs cc)
          have c2 := HB4.out.c2
          generalize hnn1 : (num cc bs).1 = bs1 at *
          generalize hnn2 : (num cc bs).2 = nn at *
          have HQ1 := Lib.hid hnn1
          have HQ2 := Lib.hid hnn2
          clear hk4 ht4 htu4 hnn1 hnn2
          rcases HH.out with rfl | ⟨rfl, rfl⟩
          · go_wp2_with fail
            go_ret
            rw [HCC.out, HQ1.out, HQ2.out]
            exact ⟨rfl, ⟨_, d, ev, HB4.out, HE4.out, HEVP.out, HR4.out, HLB1.out, HDP.out⟩, HK4.out, HT4.out, HTU5.out⟩
          · obtain ⟨w4, hup, hE5, hT5⟩ := run_put_int w3 HE4.out val nn HOG.out
            have HE5 := Lib.hid hE5
            have HT5 := Lib.hid hT5
            have HB5 := Lib.hid (HB4.out.turn hT5 (fun e => e_ne_b HB4.out HE4.out e.symm))
            have HR5 := Lib.hid (HR4.out.turn HLB1.out hT5 (fun j h e => by omega))
            have HK5 := Lib.hid (HK4.out.turn hT5 (fun e => hne e.symm))
            have HT6 := Lib.hid (HT4.out.turn2 hT5 (fun e => het e.symm) (fun j h _ e => by omega))
            have HEV6 := Lib.hid (evok_add HEVP.out (v := val) (k := nn) (by rw [HHAS.out.1, HW.out val HWV.out]))
            have HTU6 := Lib.hid (HTU5.out.trans (hT5.mono (fun j _ h => .inr (.inr (.inl h)))))
            clear hE5 hT5
            go_wp2_with fail
            go_ret
            rw [HCC.out, HQ1.out, HQ2.out]
            exact ⟨rfl, ⟨_, d, _, HB5.out, HE5.out, HEV6.out, HR5.out, HLB1.out, HDP.out⟩, HK5.out, HT6.out, HTU6.out⟩
end Go.Proofs.Ytpeniadomjijcaa.Pack

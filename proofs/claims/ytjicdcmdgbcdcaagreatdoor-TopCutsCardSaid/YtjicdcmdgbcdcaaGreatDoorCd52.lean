/-
  The law 'linotype/linotypetop.TopCuts' returns true for every input, and leaves its arguments as they were: the given card Rows.TopCutsCardSaid; the listed variables are tied to the program's text by the given tie.
-/
import Derived.Test.YtjicdcmdgbcdcaaGreatDoorCd30
import Derived.Test.YtjicdcmdgbcdcaaGreatDoorCd36
import Derived.Test.YtjicdcmdgbcdcaaGreatDoorCd37
import Derived.Test.YtjicdcmdgbcdcaaGreatDoorCd51
import Derived.Test.YtjicdcmdgbcdcaaGreatDoorTie
import Derived.Test.YtjicdcmdgbcdcaaGreatDoorCards
import Derived.Lib.SmallJoins
import Derived.Lib.LaidU8
import Derived.SizedLaws
import Derived.ProofKit
import Derived.OpenShut
import Derived.ShutString
import Derived.ChangeOld
import Derived.Below
import Derived.LaidLaws
import Derived.Lay
import Derived.SevenTiedAt
section
namespace Go.Proofs.YtjicdcmdgbcdcaaGreatDoor.topCutsDone
open Go.ChangeShapes Go.WideShapes Go.ChangeAt Go.RowKit
set_option linter.unusedVariables false
set_option linter.unusedSimpArgs false

theorem own : ownKnob Tryz.prog.godebug = none := TopFacts.own
theorem laidOut : laidOutB Tryz.prog = true := TopFacts.laidOut

/-- what the condition gives the walk: the two sentinels are no nil -/
theorem iface_cell {W : World} {n : String} {g : Nat} {nm : String} {d : DataW Unit} (hR : Lib.VarReads Tryz.prog W n (.iface nm d)) (hg : Tryz.prog.globalNamed n = some g) (ht : (Tryz.prog.globals[g]?).map (·.type) = some 32) : ∃ t v, W.cell? ⟨g, 0, none⟩ = some (.iface t v) := by
  obtain ⟨g0, t0, cs, fuel, p, hg0, ht0, hv, hd⟩ := hR
  obtain rfl := Option.some.inj (hg.symm.trans hg0)
  obtain rfl := Option.some.inj (ht.symm.trans ht0)
  obtain ⟨f1, u, v, hcs, _⟩ := iface_of_trod Tryz.underlying32 hd
  have := World.var?_cell hg hv 0
  obtain ⟨l⟩ := cs
  simp at hcs
  subst hcs
  exact ⟨u, v, by simpa using this⟩
theorem vars_of {W : World} (h : laidMet Tryz.prog Rows.topCutsRow.laid W) : Scr.VarsN W.heap.size W := by
  obtain ⟨t1, v1, h1⟩ := iface_cell (Lib.laidMet.reads h (n := "linotype/api.ErrKind") (d := Rows.laid_linotype_api_ErrKind) (by simp [Rows.topCutsRow])) (g := 3) (by kernel_rfl) (by kernel_rfl)
  obtain ⟨t2, v2, h2⟩ := iface_cell (Lib.laidMet.reads h (n := "linotype/api.ErrRange") (d := Rows.laid_linotype_api_ErrRange) (by simp [Rows.topCutsRow])) (g := 4) (by kernel_rfl) (by kernel_rfl)
  exact ⟨⟨⟨t1, v1, h1⟩, t2, v2, h2⟩, World.block_lt_of_cell? _ _ h1, World.block_lt_of_cell? _ _ h2, Nat.le_refl _⟩

set_option maxRecDepth 100000 in
theorem lifted (os : Os) (started : os.Started) (H : Type) (enc : TypeId × Value → H) :
    ReturnsInHanded {} Tryz.checked os 5 .any (fun w args => (Rows.topCutsSpec.pre enc Tryz.prog Tryz.f5 [] false w args ∧ laidMetH Tryz.prog Rows.topCutsRow.laid w) ∧ sizedMet enc Tryz.prog Tryz.f5 (OpenSpec.ofChange Rows.topCutsSpec) false w args)
      (Rows.topCutsSpec.post enc Tryz.prog Tryz.f5 false true false false) := by
  refine returnsInHanded_of_change_and (C := Tryz.checked) (X := fun w _ => laidMetH Tryz.prog Rows.topCutsRow.laid w) (fun _ _ _ hh h => h.of_heap hh) own started (by kernel_rfl) Tryz.func5
    (ChangeSpec.witness_shaped (enc := enc) (C := Tryz.checked) (os := os) (X := fun w _ => laidMetH Tryz.prog Rows.topCutsRow.laid w) false (World.laidAll Tryz.prog os Rows.topCutsRow.laid) #[.agg #[.int .i64 0, .int .i64 0], .slice none 0 0, .slice none 0 0] 8 (World.laidAll_os _ _ _)
      (World.shaped_of_ZipB (by kernel_rfl) (by kernel_rfl)) (by kernel_rfl) (by kernel_rfl) (by kernel_rfl)
      (by rw [MakeChecks.laidMetH_plain _ _ _ (by kernel_rfl)]; exact laidMet_laidAll _ (by kernel_rfl) (by kernel_rfl))) ?_
  intro W base args ds gs before hval0 hW hcnd hsz hL _
  have hval : ∀ (j : Nat) t v, Tryz.f5.params[j]? = some t → args[j]? = some v → Value.okWide Tryz.prog W .any base t v := hval0
  have hW' := hW
  obtain ⟨p, q, hA0, hV, rfl, hfz, hnd⟩ := hW
  have hA : DataW.TrodAll enc Tryz.prog W 0 (fun _ => true) true Tryz.f5.params.toList args.toList ds p := hA0
  rw [Tryz.params5] at hA hval hsz
  obtain ⟨v0, vs0, d0, ds0, p0, q0, hargs, rfl, rfl, h0, r0⟩ := trodAll_cons hA
  obtain ⟨v1, vs1, d1, ds1, p1, q1, rfl, rfl, rfl, h1, r1⟩ := trodAll_cons r0
  obtain ⟨v2, vs2, d2, ds2, p2, q2, rfl, rfl, rfl, h2, r2⟩ := trodAll_cons r1
  obtain ⟨rfl, rfl, rfl⟩ := trodAll_nil r2
  obtain rfl : args = #[v0, v1, v2] := by cases args; simp_all
  obtain ⟨rfl, rfl⟩ := trodVars_none hV
  have k0 := h0
  have lt0 : ∀ x ∈ p0, x.block < W.heap.size := by obtain ⟨m, hm⟩ := k0; exact DataW.trod_lt m _ _ _ hm
  obtain ⟨u0, u1, y0, y1, fu, rfl, _, _, t0, t1⟩ := Go.Joins.open_agg2 Tryz.underlying23 (by kernel_rfl) (by kernel_rfl) (hval 0 23 v0 rfl rfl) h0
  obtain ⟨dw, e0, _, _⟩ := DataW.trod_int Tryz.underlying3 t0
  obtain ⟨dh, e1, _, _⟩ := DataW.trod_int Tryz.underlying3 t1
  simp only [List.cons.injEq, and_true] at e0 e1
  subst e0 e1
  obtain ⟨a1, len1, cap1, rfl⟩ := okWide_slice Tryz.underlying24 (hval 1 24 v1 rfl rfl)
  have k1 := h1
  have lt1 : ∀ x ∈ p1, x.block < W.heap.size := by obtain ⟨m, hm⟩ := k1; exact DataW.trod_lt m _ _ _ hm
  obtain ⟨z1, s1⟩ : ∃ ps, Scr.IsOps W a1 len1 cap1 ps := by
    obtain ⟨fuel, hf⟩ := h1
    exact Scr.open_ops hf (fun n hn => by simpa using List.all_eq_true.1 hsz n (DataW.weights_mem_each (j := 1) rfl rfl n hn))
  obtain ⟨a2, len2, cap2, rfl⟩ := okWide_slice Tryz.underlying69 (hval 2 69 v2 rfl rfl)
  have k2 := h2
  have lt2 : ∀ x ∈ p2, x.block < W.heap.size := by obtain ⟨m, hm⟩ := k2; exact DataW.trod_lt m _ _ _ hm
  obtain ⟨z2, s2⟩ : ∃ zs, Stops.IsInts W a2 len2 cap2 zs := by
    obtain ⟨fuel, hf⟩ := h2
    exact Stops.open_is hf
  have hvn := vars_of (by rw [MakeChecks.laidMetH_plain _ _ _ (by kernel_rfl)] at hL; exact hL)
  clear hA0 hval0 hL
  refine (Scr.top_cuts dw dh a1 len1 cap1 z1 a2 len2 cap2 z2 W hvn s1 s2.1).mono fun e W' ⟨he, bel⟩ => ?_
  subst he
  exact ⟨_, rfl, _, _, _, [], _, [], hW', trodAll_mk1 (shut_bool Tryz.underlying4 _), (trodAll_cons_mk (Below.trod laidOut (by kernel_rfl) (of_decide_eq_true (by kernel_rfl)) k0 bel lt0) (trodAll_cons_mk (Below.trod laidOut (by kernel_rfl) (of_decide_eq_true (by kernel_rfl)) k1 bel lt1) (trodAll_cons_mk (Below.trod laidOut (by kernel_rfl) (of_decide_eq_true (by kernel_rfl)) k2 bel lt2) trodAll_mk0))), rfl, bel.frame _, fun h => by cases h⟩

/-- the row's statement -/
theorem said : Rows.TopCutsSaid :=
  OpenClaim.holds_of_wide 5 Tryz.f5 rfl rfl rfl rfl rfl rfl rfl ⟨rfl, rfl, rfl, rfl, rfl⟩ rfl rfl rfl rfl rfl topCutsFacts.named Tryz.func5 topCutsFacts.facts
    (of_decide_eq_true (by kernel_rfl)) (by unfold Func.isWrapper; first | (rw [if_pos (by decide +kernel)]; kernel_rfl) | (rw [if_neg (by decide +kernel)]; exact ⟨rfl, rfl⟩))
    (fun os started H enc _ => lifted os started H enc)

/-- the card -/
theorem proved : Rows.TopCutsCardSaid :=
  Claim7.holds_tied_plain_at .later [] [.data, .data, .data, .data, .sentinel, .sentinel, .sentinel, .sentinel, .sentinel, .sentinel, .sentinel, .sentinel, .pinned] true (true, Rows.topCutsCard.stood.harness.2) true
    said (fun _ h => by cases h) topCutsFacts.byText (fun _ h => by cases h) topCuts_row_tie rfl ⟨rfl, rfl⟩ TopFacts.main rfl
    (fun f fn hf hfn => by
      obtain rfl : f = 5 := Option.some.inj (topCutsFacts.named.symm.trans hf) |>.symm
      obtain rfl : fn = Tryz.f5 := (Option.some.inj (Tryz.func5.symm.trans hfn)).symm
      exact ⟨TopFacts.looks, fun j t ht => by
        rw [Tryz.params5] at ht
        have hm : t ∈ [23, 24, 69] := by simpa using Array.mem_of_getElem? ht
        have hlt : t ∈ [23, 24, 69, 9] := by
          simp at hm ⊢
          rcases hm with rfl | rfl | rfl <;> decide
        exact (show Tryz.prog.wantsStandIn t = false by simpa using List.all_eq_true.1 TopFacts.stands t hlt)⟩)
    topCutsFacts.goes

#print axioms proved
end Go.Proofs.YtjicdcmdgbcdcaaGreatDoor.topCutsDone
end

/-
  Closed facts of the row of TopCuts, one by one.
-/
import Derived.Test.YtjicdcmdgbcdcaaGreatDoorCd31
import Derived.SevenTiedAt
section
namespace Go.Proofs.YtjicdcmdgbcdcaaGreatDoor.topCutsFacts
open Go
theorem p0 : (Rows.topCutsRow.wf (OpenSpec.ofChange Rows.topCutsSpec) : Bool) = true := by kernel_rfl
theorem p3 : (Tryz.f5.params.all (Tryz.prog.readableRec ·) : Bool) = true := by kernel_rfl
theorem p4 : (namedTie Tryz.prog Rows.topCutsRow.named Rows.topCutsSpec.vars : Bool) = true := by kernel_rfl
theorem p5 : ((Rows.topCutsRow.stops == []) : Bool) = true := by kernel_rfl
theorem p7 : ((Rows.topCutsRow.knobs == []) : Bool) = true := by kernel_rfl
theorem p9 : ((Rows.topCutsRow.inPlace == Tryz.prog.inPlace 5) : Bool) = true := by kernel_rfl
theorem p10 : ((Rows.topCutsRow.unfollowed == Tryz.prog.unfollowed 5) : Bool) = true := by kernel_rfl
theorem p11 : ((Rows.topCutsRow.recurses == Tryz.prog.recurses 5) : Bool) = true := by kernel_rfl
theorem p12 : ((Rows.topCutsRow.named == Tryz.prog.varsNamed 5) : Bool) = true := by kernel_rfl
theorem p13 : ((Rows.topCutsRow.maps == (Tryz.f5.params.toList ++ Rows.topCutsSpec.plain.varTypes Tryz.prog).any (Tryz.prog.mapsRec ·)) : Bool) = true := by kernel_rfl
theorem p14 : ((Rows.topCutsRow.ifaces == (Tryz.f5.params.toList ++ Rows.topCutsSpec.plain.varTypes Tryz.prog).any (Tryz.prog.ifacesRec ·)) : Bool) = true := by kernel_rfl
theorem p15 : ((Rows.topCutsRow.mapsOut == Tryz.prog.mapsAmong Tryz.f5.resultTypes.toList) : Bool) = true := by kernel_rfl
theorem p16 : ((Rows.topCutsRow.loops == (Tryz.f5.params.toList ++ Rows.topCutsSpec.plain.varTypes Tryz.prog).any (Tryz.prog.loopsFrom ·)) : Bool) = true := by kernel_rfl
theorem p17 : ((Rows.topCutsRow.wideKeys == (Tryz.f5.params.toList ++ Rows.topCutsSpec.plain.varTypes Tryz.prog ++ Tryz.f5.resultTypes.toList).any (Tryz.prog.wideKeysFrom ·)) : Bool) = true := by kernel_rfl
theorem p18 : (Rows.topCutsSpec.vars.all (Tryz.prog.varReadable ·) : Bool) = true := by kernel_rfl
theorem p19 : (Tryz.f5.resultTypes.all (fun t => Tryz.prog.readableRec t && decide (t < Tryz.prog.types.size)) : Bool) = true := by kernel_rfl
theorem p20 : ((Rows.topCutsRow.ifacesOut == Tryz.f5.resultTypes.toList.any (Tryz.prog.ifacesRec ·)) : Bool) = true := by kernel_rfl
theorem p21 : ((Rows.topCutsRow.loopsOut == Tryz.f5.resultTypes.toList.any (Tryz.prog.loopsFrom ·)) : Bool) = true := by kernel_rfl
theorem p22 : ((Rows.topCutsRow.plainKeys == Tryz.prog.plainKeys) : Bool) = true := by kernel_rfl
theorem p23 : (Rows.topCutsRow.shortTexts.isNone : Bool) = true := by kernel_rfl
theorem p26 : ((Rows.topCutsRow.lifted == Tryz.prog.liftsFinal) : Bool) = true := by kernel_rfl
theorem p27 : ((Tryz.prog.make == some Rows.topCutsRow.make) : Bool) = true := by kernel_rfl
theorem p28 : ((Rows.topCutsRow.kinds == (if Rows.topCutsRow.domain.isEmpty then [] else Tryz.f5.params.toList.map fun t => match Tryz.prog.underlying t with | some (.int k) => some k | _ => none)) : Bool) = true := by kernel_rfl
theorem p29 : ((Rows.topCutsRow.pinned == Rows.topCutsRow.pinnedBy) : Bool) = true := by kernel_rfl
theorem p30 : ((Rows.topCutsRow.veiled == (Tryz.f5.params.toList ++ Rows.topCutsSpec.plain.varTypes Tryz.prog ++ Tryz.f5.resultTypes.toList).any (Tryz.prog.veiledRec ·)) : Bool) = true := by kernel_rfl
theorem p31 : (Rows.topCutsRow.veiledFits Tryz.prog Tryz.f5.params.toList (Tryz.f5.params.toList ++ Rows.topCutsSpec.plain.varTypes Tryz.prog ++ Tryz.f5.resultTypes.toList) : Bool) = true := by kernel_rfl
set_option maxRecDepth 100000 in
theorem facts : joinedFacts Tryz.prog 5 Tryz.f5 Rows.topCutsSpec Rows.topCutsRow = true :=
  TopFacts.and2 (TopFacts.and2 (TopFacts.and2 (TopFacts.and2 (TopFacts.and2 (TopFacts.and2 (TopFacts.and2 (TopFacts.and2 (TopFacts.and2 (TopFacts.and2 (TopFacts.and2 (TopFacts.and2 (TopFacts.and2 (TopFacts.and2 (TopFacts.and2 (TopFacts.and2 (TopFacts.and2 (TopFacts.and2 (TopFacts.and2 (TopFacts.and2 (TopFacts.and2 (TopFacts.and2 (TopFacts.and2 (TopFacts.and2 (TopFacts.and2 (TopFacts.and2 (TopFacts.and2 (TopFacts.and2 (TopFacts.and2 (TopFacts.and2 (TopFacts.and2 (topCutsFacts.p0) TopFacts.p1) TopFacts.p2) topCutsFacts.p3) topCutsFacts.p4) topCutsFacts.p5) TopFacts.p6) topCutsFacts.p7) TopFacts.p8) topCutsFacts.p9) topCutsFacts.p10) topCutsFacts.p11) topCutsFacts.p12) topCutsFacts.p13) topCutsFacts.p14) topCutsFacts.p15) topCutsFacts.p16) topCutsFacts.p17) topCutsFacts.p18) topCutsFacts.p19) topCutsFacts.p20) topCutsFacts.p21) topCutsFacts.p22) topCutsFacts.p23) TopFacts.p24) TopFacts.p25) topCutsFacts.p26) topCutsFacts.p27) topCutsFacts.p28) topCutsFacts.p29) topCutsFacts.p30) topCutsFacts.p31
theorem byText : Rows.topCutsRow.wfByText (OpenSpec.ofChange Rows.topCutsSpec) = true := by kernel_rfl
theorem goes : false = Rows.topCutsRow.goesBy Tryz.prog := by kernel_rfl
theorem named : Tryz.prog.funcNamed Rows.topCutsRow.func = some 5 := by kernel_rfl
end Go.Proofs.YtjicdcmdgbcdcaaGreatDoor.topCutsFacts
end

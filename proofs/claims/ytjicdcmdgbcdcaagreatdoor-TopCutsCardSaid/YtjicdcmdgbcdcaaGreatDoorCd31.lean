/-
  Closed facts of the program, one by one.
-/
import Derived.Test.YtjicdcmdgbcdcaaGreatDoorCards
import Derived.JoinedOf
import Derived.KernelRfl
section
namespace Go.Proofs.YtjicdcmdgbcdcaaGreatDoor.TopFacts
open Go
theorem and2 {a b : Bool} (h1 : a = true) (h2 : b = true) : (a && b) = true := by rw [h1, h2]; rfl
theorem p1 : (laidOutB Tryz.prog : Bool) = true := by kernel_rfl
theorem p2 : (mapsRowed Tryz.prog : Bool) = true := by kernel_rfl
theorem p6 : ((Tryz.prog.stops == []) : Bool) = true := by kernel_rfl
theorem p8 : ((Tryz.prog.stopKnobs == []) : Bool) = true := by kernel_rfl
theorem p24 : (Tryz.prog.stopsHeard : Bool) = true := by kernel_rfl
theorem p25 : (Tryz.prog.mayEnter : Bool) = true := by kernel_rfl
theorem main : Tryz.prog.mainIs = some (true, Rows.topSoundCard.stood.harness.2.toList) := by kernel_rfl
theorem looks : true = Tryz.prog.looks [] := by kernel_rfl
theorem stands : [23, 24, 69, 9].all (fun u => !(Tryz.prog.wantsStandIn u)) = true := by kernel_rfl
theorem own : ownKnob Tryz.prog.godebug = none := by kernel_rfl
theorem laidOut : laidOutB Tryz.prog = true := p1
end Go.Proofs.YtjicdcmdgbcdcaaGreatDoor.TopFacts
end

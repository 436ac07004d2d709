/-
  No cell of these rows narrows 'for every input' (looked for: loops, veiled, ifaces, maps, wideKeys, modest, calm, conditions, laid).
  DERIVED. THE GIVEN ROWS OF THIS SEAT. 12 by the template 'for every input the law returns true; each argument reads behind the call as it read before'; 0 by the template 'total and deterministic' (their statements: YtihanlahegngoaaTotals.lean).
  GIVEN WITH THE SEED: the statements are not yours to turn. If you find one false, say at which input.
  Laid BY PROGRAM, IN A SANDBOX (cutbox-rows.mjs): the forced cells as the released guide's own fill.sh prints them over the translation f04ec5d60f627dd2… (all of the seat's roots in one cut). By AI agents, Wed Nov 11 2026. No macro, syntax, notation, axiom, sorry.
-/
import Derived.Test.YtihanlahegngoaaChecked
import GoSem.Claim
import GoSem.ClaimJoined
import GoSem.ClaimMapViews
import Derived.JoinedTies
import Derived.KernelRfl
namespace Go.Proofs.Ytihanlahegngoaa
/- THE CELL 'sum', in the pinned program and in every row, IS THE sha256 OF THE DUMP (.gsa) THAT YtihanlahegngoaaProg.lean LOADS. Nothing in Lean hashes anything: it is a label: what it is worth is what the hold of that sum in a sandbox is worth. -/
noncomputable def Try.pinned : Pinned := { name := "ytihanlahegngoaa", sum := "f04ec5d60f627dd2c2b6391eca0b70365639b01de2906536d8963940aa95add2", checked := Try.checked }
namespace Rows
def none {H : Type} : Left H := { results := [], args := [] }

/-- 'linotypelaw19.CwidthTells': WHATEVER THE INPUT: true; the input reads as it did. -/
def cwidthTellsSpec : ChangeSpec := { name := "cwidthTells", fn := fun _ => fun
  | [d] => { results := [.lit (.bool true)], args := [d] }
  | _ => none }
def cwidthTellsRow : OpenClaim := { program := "ytihanlahegngoaa", sum := "f04ec5d60f627dd2c2b6391eca0b70365639b01de2906536d8963940aa95add2", func := "linotype/linotypelaw19.CwidthTells", spec := "cwidthTells", unfollowed := true, recurses := true, apart := false }
def CwidthTellsSaid : Prop := cwidthTellsRow.holds Try.pinned (OpenSpec.ofChange cwidthTellsSpec)

/-- ITS FALSE NEIGHBOUR: 'it returns false'. Refute it at one input. -/
def cwidthTellsWrong : ChangeSpec := { name := "cwidthTells", fn := fun _ => fun
  | [d] => { results := [.lit (.bool false)], args := [d] }
  | _ => none }
def CwidthTellsWrongFalsely : Prop := cwidthTellsRow.holds Try.pinned (OpenSpec.ofChange cwidthTellsWrong)

/-- 'linotypelaw19.CwidthSteps': WHATEVER THE INPUT: true; the input reads as it did. -/
def cwidthStepsSpec : ChangeSpec := { name := "cwidthSteps", fn := fun _ => fun
  | [d1, d2] => { results := [.lit (.bool true)], args := [d1, d2] }
  | _ => none }
def cwidthStepsRow : OpenClaim := { program := "ytihanlahegngoaa", sum := "f04ec5d60f627dd2c2b6391eca0b70365639b01de2906536d8963940aa95add2", func := "linotype/linotypelaw19.CwidthSteps", spec := "cwidthSteps", unfollowed := true, recurses := true, apart := false }
def CwidthStepsSaid : Prop := cwidthStepsRow.holds Try.pinned (OpenSpec.ofChange cwidthStepsSpec)

/-- ITS FALSE NEIGHBOUR: 'it returns false'. Refute it at one input. -/
def cwidthStepsWrong : ChangeSpec := { name := "cwidthSteps", fn := fun _ => fun
  | [d1, d2] => { results := [.lit (.bool false)], args := [d1, d2] }
  | _ => none }
def CwidthStepsWrongFalsely : Prop := cwidthStepsRow.holds Try.pinned (OpenSpec.ofChange cwidthStepsWrong)

/-- 'linotypelaw16.GraphemeParts': WHATEVER THE INPUT: true; the input reads as it did. -/
def graphemePartsSpec : ChangeSpec := { name := "graphemeParts", fn := fun _ => fun
  | [d] => { results := [.lit (.bool true)], args := [d] }
  | _ => none }
def graphemePartsRow : OpenClaim := { program := "ytihanlahegngoaa", sum := "f04ec5d60f627dd2c2b6391eca0b70365639b01de2906536d8963940aa95add2", func := "linotype/linotypelaw16.GraphemeParts", spec := "graphemeParts", unfollowed := true, recurses := true, apart := false }
def GraphemePartsSaid : Prop := graphemePartsRow.holds Try.pinned (OpenSpec.ofChange graphemePartsSpec)

/-- ITS FALSE NEIGHBOUR: 'it returns false'. Refute it at one input. -/
def graphemePartsWrong : ChangeSpec := { name := "graphemeParts", fn := fun _ => fun
  | [d] => { results := [.lit (.bool false)], args := [d] }
  | _ => none }
def GraphemePartsWrongFalsely : Prop := graphemePartsRow.holds Try.pinned (OpenSpec.ofChange graphemePartsWrong)

/-- 'linotypelaw16.GraphemeHands': WHATEVER THE INPUT: true; the input reads as it did. -/
def graphemeHandsSpec : ChangeSpec := { name := "graphemeHands", fn := fun _ => fun
  | [d1, d2] => { results := [.lit (.bool true)], args := [d1, d2] }
  | _ => none }
def graphemeHandsRow : OpenClaim := { program := "ytihanlahegngoaa", sum := "f04ec5d60f627dd2c2b6391eca0b70365639b01de2906536d8963940aa95add2", func := "linotype/linotypelaw16.GraphemeHands", spec := "graphemeHands", unfollowed := true, recurses := true, apart := false }
def GraphemeHandsSaid : Prop := graphemeHandsRow.holds Try.pinned (OpenSpec.ofChange graphemeHandsSpec)

/-- ITS FALSE NEIGHBOUR: 'it returns false'. Refute it at one input. -/
def graphemeHandsWrong : ChangeSpec := { name := "graphemeHands", fn := fun _ => fun
  | [d1, d2] => { results := [.lit (.bool false)], args := [d1, d2] }
  | _ => none }
def GraphemeHandsWrongFalsely : Prop := graphemeHandsRow.holds Try.pinned (OpenSpec.ofChange graphemeHandsWrong)

/-- 'linotypelaw16.GraphemeCuts': WHATEVER THE INPUT: true; the input reads as it did. -/
def graphemeCutsSpec : ChangeSpec := { name := "graphemeCuts", fn := fun _ => fun
  | [d1, d2] => { results := [.lit (.bool true)], args := [d1, d2] }
  | _ => none }
def graphemeCutsRow : OpenClaim := { program := "ytihanlahegngoaa", sum := "f04ec5d60f627dd2c2b6391eca0b70365639b01de2906536d8963940aa95add2", func := "linotype/linotypelaw16.GraphemeCuts", spec := "graphemeCuts", unfollowed := true, recurses := true, apart := false }
def GraphemeCutsSaid : Prop := graphemeCutsRow.holds Try.pinned (OpenSpec.ofChange graphemeCutsSpec)

/-- ITS FALSE NEIGHBOUR: 'it returns false'. Refute it at one input. -/
def graphemeCutsWrong : ChangeSpec := { name := "graphemeCuts", fn := fun _ => fun
  | [d1, d2] => { results := [.lit (.bool false)], args := [d1, d2] }
  | _ => none }
def GraphemeCutsWrongFalsely : Prop := graphemeCutsRow.holds Try.pinned (OpenSpec.ofChange graphemeCutsWrong)

/-- 'linotypelaw17.BorderTells': WHATEVER THE INPUT: true; the input reads as it did. -/
def borderTellsSpec : ChangeSpec := { name := "borderTells", fn := fun _ => fun
  | [d1, d2] => { results := [.lit (.bool true)], args := [d1, d2] }
  | _ => none }
def borderTellsRow : OpenClaim := { program := "ytihanlahegngoaa", sum := "f04ec5d60f627dd2c2b6391eca0b70365639b01de2906536d8963940aa95add2", func := "linotype/linotypelaw17.BorderTells", spec := "borderTells", unfollowed := true, recurses := true, apart := false }
def BorderTellsSaid : Prop := borderTellsRow.holds Try.pinned (OpenSpec.ofChange borderTellsSpec)

/-- ITS FALSE NEIGHBOUR: 'it returns false'. Refute it at one input. -/
def borderTellsWrong : ChangeSpec := { name := "borderTells", fn := fun _ => fun
  | [d1, d2] => { results := [.lit (.bool false)], args := [d1, d2] }
  | _ => none }
def BorderTellsWrongFalsely : Prop := borderTellsRow.holds Try.pinned (OpenSpec.ofChange borderTellsWrong)

/-- 'linotypelaw17.BorderGoes': WHATEVER THE INPUT: true; the input reads as it did. -/
def borderGoesSpec : ChangeSpec := { name := "borderGoes", fn := fun _ => fun
  | [d] => { results := [.lit (.bool true)], args := [d] }
  | _ => none }
def borderGoesRow : OpenClaim := { program := "ytihanlahegngoaa", sum := "f04ec5d60f627dd2c2b6391eca0b70365639b01de2906536d8963940aa95add2", func := "linotype/linotypelaw17.BorderGoes", spec := "borderGoes", unfollowed := true, recurses := true, apart := false }
def BorderGoesSaid : Prop := borderGoesRow.holds Try.pinned (OpenSpec.ofChange borderGoesSpec)

/-- ITS FALSE NEIGHBOUR: 'it returns false'. Refute it at one input. -/
def borderGoesWrong : ChangeSpec := { name := "borderGoes", fn := fun _ => fun
  | [d] => { results := [.lit (.bool false)], args := [d] }
  | _ => none }
def BorderGoesWrongFalsely : Prop := borderGoesRow.holds Try.pinned (OpenSpec.ofChange borderGoesWrong)

/-- 'linotypelaw21.MeasureTells': WHATEVER THE INPUT: true; the input reads as it did. -/
def measureTellsSpec : ChangeSpec := { name := "measureTells", fn := fun _ => fun
  | [d] => { results := [.lit (.bool true)], args := [d] }
  | _ => none }
def measureTellsRow : OpenClaim := { program := "ytihanlahegngoaa", sum := "f04ec5d60f627dd2c2b6391eca0b70365639b01de2906536d8963940aa95add2", func := "linotype/linotypelaw21.MeasureTells", spec := "measureTells", unfollowed := true, recurses := true, apart := false }
def MeasureTellsSaid : Prop := measureTellsRow.holds Try.pinned (OpenSpec.ofChange measureTellsSpec)

/-- ITS FALSE NEIGHBOUR: 'it returns false'. Refute it at one input. -/
def measureTellsWrong : ChangeSpec := { name := "measureTells", fn := fun _ => fun
  | [d] => { results := [.lit (.bool false)], args := [d] }
  | _ => none }
def MeasureTellsWrongFalsely : Prop := measureTellsRow.holds Try.pinned (OpenSpec.ofChange measureTellsWrong)

/-- 'linotypelaw21.MeasureHeads': WHATEVER THE INPUT: true; the input reads as it did. -/
def measureHeadsSpec : ChangeSpec := { name := "measureHeads", fn := fun _ => fun
  | [d1, d2] => { results := [.lit (.bool true)], args := [d1, d2] }
  | _ => none }
def measureHeadsRow : OpenClaim := { program := "ytihanlahegngoaa", sum := "f04ec5d60f627dd2c2b6391eca0b70365639b01de2906536d8963940aa95add2", func := "linotype/linotypelaw21.MeasureHeads", spec := "measureHeads", unfollowed := true, recurses := true, apart := false }
def MeasureHeadsSaid : Prop := measureHeadsRow.holds Try.pinned (OpenSpec.ofChange measureHeadsSpec)

/-- ITS FALSE NEIGHBOUR: 'it returns false'. Refute it at one input. -/
def measureHeadsWrong : ChangeSpec := { name := "measureHeads", fn := fun _ => fun
  | [d1, d2] => { results := [.lit (.bool false)], args := [d1, d2] }
  | _ => none }
def MeasureHeadsWrongFalsely : Prop := measureHeadsRow.holds Try.pinned (OpenSpec.ofChange measureHeadsWrong)

/-- 'linotypelaw22.FitlineBreaks': WHATEVER THE INPUT: true; the input reads as it did. -/
def fitlineBreaksSpec : ChangeSpec := { name := "fitlineBreaks", fn := fun _ => fun
  | [d1, d2] => { results := [.lit (.bool true)], args := [d1, d2] }
  | _ => none }
def fitlineBreaksRow : OpenClaim := { program := "ytihanlahegngoaa", sum := "f04ec5d60f627dd2c2b6391eca0b70365639b01de2906536d8963940aa95add2", func := "linotype/linotypelaw22.FitlineBreaks", spec := "fitlineBreaks", unfollowed := true, recurses := true, apart := false }
def FitlineBreaksSaid : Prop := fitlineBreaksRow.holds Try.pinned (OpenSpec.ofChange fitlineBreaksSpec)

/-- ITS FALSE NEIGHBOUR: 'it returns false'. Refute it at one input. -/
def fitlineBreaksWrong : ChangeSpec := { name := "fitlineBreaks", fn := fun _ => fun
  | [d1, d2] => { results := [.lit (.bool false)], args := [d1, d2] }
  | _ => none }
def FitlineBreaksWrongFalsely : Prop := fitlineBreaksRow.holds Try.pinned (OpenSpec.ofChange fitlineBreaksWrong)

/-- 'linotypelaw22.FitlineFits': WHATEVER THE INPUT: true; the input reads as it did. -/
def fitlineFitsSpec : ChangeSpec := { name := "fitlineFits", fn := fun _ => fun
  | [d1, d2] => { results := [.lit (.bool true)], args := [d1, d2] }
  | _ => none }
def fitlineFitsRow : OpenClaim := { program := "ytihanlahegngoaa", sum := "f04ec5d60f627dd2c2b6391eca0b70365639b01de2906536d8963940aa95add2", func := "linotype/linotypelaw22.FitlineFits", spec := "fitlineFits", unfollowed := true, recurses := true, apart := false }
def FitlineFitsSaid : Prop := fitlineFitsRow.holds Try.pinned (OpenSpec.ofChange fitlineFitsSpec)

/-- ITS FALSE NEIGHBOUR: 'it returns false'. Refute it at one input. -/
def fitlineFitsWrong : ChangeSpec := { name := "fitlineFits", fn := fun _ => fun
  | [d1, d2] => { results := [.lit (.bool false)], args := [d1, d2] }
  | _ => none }
def FitlineFitsWrongFalsely : Prop := fitlineFitsRow.holds Try.pinned (OpenSpec.ofChange fitlineFitsWrong)

/-- 'linotypelaw21.MeasureFits': WHATEVER THE INPUT: true; the input reads as it did. -/
def measureFitsSpec : ChangeSpec := { name := "measureFits", fn := fun _ => fun
  | [d1, d2] => { results := [.lit (.bool true)], args := [d1, d2] }
  | _ => none }
def measureFitsRow : OpenClaim := { program := "ytihanlahegngoaa", sum := "f04ec5d60f627dd2c2b6391eca0b70365639b01de2906536d8963940aa95add2", func := "linotype/linotypelaw21.MeasureFits", spec := "measureFits", unfollowed := true, recurses := true, apart := false }
def MeasureFitsSaid : Prop := measureFitsRow.holds Try.pinned (OpenSpec.ofChange measureFitsSpec)

/-- ITS FALSE NEIGHBOUR: 'it returns false'. Refute it at one input. -/
def measureFitsWrong : ChangeSpec := { name := "measureFits", fn := fun _ => fun
  | [d1, d2] => { results := [.lit (.bool false)], args := [d1, d2] }
  | _ => none }
def MeasureFitsWrongFalsely : Prop := measureFitsRow.holds Try.pinned (OpenSpec.ofChange measureFitsWrong)

/- THE SECOND FORM. 'bulk': how many values and letters a reading holds, each counted each time it is reached (what is shared counts as often as it is met; a slice's spare places count too). A statement '..UptoSaid' is the law's where the arguments, and the package variables that the reading takes, are together of bulk at most 1048576: NARROWER than '..Said'. Prove '..Said' where nothing that the law and all that it calls make is longer than what came in: it says more and counts as full. Else prove '..UptoSaid'. A law counts once. -/
mutual
def uptoBulk {H : Type} : DataW H → Nat
  | .lit (.string bytes) => bytes.length + 1
  | .lit _ => 1
  | .nil => 1
  | .ptr d => uptoBulk d + 1
  | .slice elems spare => uptoBulkAll elems + uptoBulkAll spare + 1
  | .agg parts => uptoBulkAll parts + 1
  | .iface _ d => uptoBulk d + 1
  | .map entries => uptoBulkEntries entries + 1
  | .held _ => 1
def uptoBulkAll {H : Type} : List (DataW H) → Nat
  | [] => 0
  | d :: r => uptoBulk d + uptoBulkAll r
def uptoBulkEntries {H : Type} : List (Lit × DataW H) → Nat
  | [] => 0
  | x :: r => uptoBulkEntry x + uptoBulkEntries r
def uptoBulkEntry {H : Type} : Lit × DataW H → Nat
  | (.string bytes, d) => bytes.length + uptoBulk d + 1
  | (_, d) => uptoBulk d + 1
 end
def uptoSmall : (H : Type) → List (DataW H) → Bool := fun _ ds => decide (uptoBulkAll ds ≤ 1048576)
def OpenSpec.upto (s : _root_.Go.ChangeSpec) : _root_.Go.OpenSpec := { _root_.Go.OpenSpec.ofChange s with cond := some uptoSmall }

/-- 'linotypelaw19.CwidthTells', WHERE WHAT IT READS IS OF BULK AT MOST 1048576: true; the input reads as it did. -/
def cwidthTellsUptoRow : OpenClaim := { program := "ytihanlahegngoaa", sum := "f04ec5d60f627dd2c2b6391eca0b70365639b01de2906536d8963940aa95add2", func := "linotype/linotypelaw19.CwidthTells", spec := "cwidthTells", unfollowed := true, recurses := true, apart := false, narrowed := true }
def CwidthTellsUptoSaid : Prop := cwidthTellsUptoRow.holds Try.pinned (OpenSpec.upto cwidthTellsSpec)

/-- 'linotypelaw19.CwidthSteps', WHERE WHAT IT READS IS OF BULK AT MOST 1048576: true; the input reads as it did. -/
def cwidthStepsUptoRow : OpenClaim := { program := "ytihanlahegngoaa", sum := "f04ec5d60f627dd2c2b6391eca0b70365639b01de2906536d8963940aa95add2", func := "linotype/linotypelaw19.CwidthSteps", spec := "cwidthSteps", unfollowed := true, recurses := true, apart := false, narrowed := true }
def CwidthStepsUptoSaid : Prop := cwidthStepsUptoRow.holds Try.pinned (OpenSpec.upto cwidthStepsSpec)

/-- 'linotypelaw16.GraphemeParts', WHERE WHAT IT READS IS OF BULK AT MOST 1048576: true; the input reads as it did. -/
def graphemePartsUptoRow : OpenClaim := { program := "ytihanlahegngoaa", sum := "f04ec5d60f627dd2c2b6391eca0b70365639b01de2906536d8963940aa95add2", func := "linotype/linotypelaw16.GraphemeParts", spec := "graphemeParts", unfollowed := true, recurses := true, apart := false, narrowed := true }
def GraphemePartsUptoSaid : Prop := graphemePartsUptoRow.holds Try.pinned (OpenSpec.upto graphemePartsSpec)

/-- 'linotypelaw16.GraphemeHands', WHERE WHAT IT READS IS OF BULK AT MOST 1048576: true; the input reads as it did. -/
def graphemeHandsUptoRow : OpenClaim := { program := "ytihanlahegngoaa", sum := "f04ec5d60f627dd2c2b6391eca0b70365639b01de2906536d8963940aa95add2", func := "linotype/linotypelaw16.GraphemeHands", spec := "graphemeHands", unfollowed := true, recurses := true, apart := false, narrowed := true }
def GraphemeHandsUptoSaid : Prop := graphemeHandsUptoRow.holds Try.pinned (OpenSpec.upto graphemeHandsSpec)

/-- 'linotypelaw16.GraphemeCuts', WHERE WHAT IT READS IS OF BULK AT MOST 1048576: true; the input reads as it did. -/
def graphemeCutsUptoRow : OpenClaim := { program := "ytihanlahegngoaa", sum := "f04ec5d60f627dd2c2b6391eca0b70365639b01de2906536d8963940aa95add2", func := "linotype/linotypelaw16.GraphemeCuts", spec := "graphemeCuts", unfollowed := true, recurses := true, apart := false, narrowed := true }
def GraphemeCutsUptoSaid : Prop := graphemeCutsUptoRow.holds Try.pinned (OpenSpec.upto graphemeCutsSpec)

/-- 'linotypelaw17.BorderTells', WHERE WHAT IT READS IS OF BULK AT MOST 1048576: true; the input reads as it did. -/
def borderTellsUptoRow : OpenClaim := { program := "ytihanlahegngoaa", sum := "f04ec5d60f627dd2c2b6391eca0b70365639b01de2906536d8963940aa95add2", func := "linotype/linotypelaw17.BorderTells", spec := "borderTells", unfollowed := true, recurses := true, apart := false, narrowed := true }
def BorderTellsUptoSaid : Prop := borderTellsUptoRow.holds Try.pinned (OpenSpec.upto borderTellsSpec)

/-- 'linotypelaw17.BorderGoes', WHERE WHAT IT READS IS OF BULK AT MOST 1048576: true; the input reads as it did. -/
def borderGoesUptoRow : OpenClaim := { program := "ytihanlahegngoaa", sum := "f04ec5d60f627dd2c2b6391eca0b70365639b01de2906536d8963940aa95add2", func := "linotype/linotypelaw17.BorderGoes", spec := "borderGoes", unfollowed := true, recurses := true, apart := false, narrowed := true }
def BorderGoesUptoSaid : Prop := borderGoesUptoRow.holds Try.pinned (OpenSpec.upto borderGoesSpec)

/-- 'linotypelaw21.MeasureTells', WHERE WHAT IT READS IS OF BULK AT MOST 1048576: true; the input reads as it did. -/
def measureTellsUptoRow : OpenClaim := { program := "ytihanlahegngoaa", sum := "f04ec5d60f627dd2c2b6391eca0b70365639b01de2906536d8963940aa95add2", func := "linotype/linotypelaw21.MeasureTells", spec := "measureTells", unfollowed := true, recurses := true, apart := false, narrowed := true }
def MeasureTellsUptoSaid : Prop := measureTellsUptoRow.holds Try.pinned (OpenSpec.upto measureTellsSpec)

/-- 'linotypelaw21.MeasureHeads', WHERE WHAT IT READS IS OF BULK AT MOST 1048576: true; the input reads as it did. -/
def measureHeadsUptoRow : OpenClaim := { program := "ytihanlahegngoaa", sum := "f04ec5d60f627dd2c2b6391eca0b70365639b01de2906536d8963940aa95add2", func := "linotype/linotypelaw21.MeasureHeads", spec := "measureHeads", unfollowed := true, recurses := true, apart := false, narrowed := true }
def MeasureHeadsUptoSaid : Prop := measureHeadsUptoRow.holds Try.pinned (OpenSpec.upto measureHeadsSpec)

/-- 'linotypelaw22.FitlineBreaks', WHERE WHAT IT READS IS OF BULK AT MOST 1048576: true; the input reads as it did. -/
def fitlineBreaksUptoRow : OpenClaim := { program := "ytihanlahegngoaa", sum := "f04ec5d60f627dd2c2b6391eca0b70365639b01de2906536d8963940aa95add2", func := "linotype/linotypelaw22.FitlineBreaks", spec := "fitlineBreaks", unfollowed := true, recurses := true, apart := false, narrowed := true }
def FitlineBreaksUptoSaid : Prop := fitlineBreaksUptoRow.holds Try.pinned (OpenSpec.upto fitlineBreaksSpec)

/-- 'linotypelaw22.FitlineFits', WHERE WHAT IT READS IS OF BULK AT MOST 1048576: true; the input reads as it did. -/
def fitlineFitsUptoRow : OpenClaim := { program := "ytihanlahegngoaa", sum := "f04ec5d60f627dd2c2b6391eca0b70365639b01de2906536d8963940aa95add2", func := "linotype/linotypelaw22.FitlineFits", spec := "fitlineFits", unfollowed := true, recurses := true, apart := false, narrowed := true }
def FitlineFitsUptoSaid : Prop := fitlineFitsUptoRow.holds Try.pinned (OpenSpec.upto fitlineFitsSpec)

/-- 'linotypelaw21.MeasureFits', WHERE WHAT IT READS IS OF BULK AT MOST 1048576: true; the input reads as it did. -/
def measureFitsUptoRow : OpenClaim := { program := "ytihanlahegngoaa", sum := "f04ec5d60f627dd2c2b6391eca0b70365639b01de2906536d8963940aa95add2", func := "linotype/linotypelaw21.MeasureFits", spec := "measureFits", unfollowed := true, recurses := true, apart := false, narrowed := true }
def MeasureFitsUptoSaid : Prop := measureFitsUptoRow.holds Try.pinned (OpenSpec.upto measureFitsSpec)

end Rows
end Go.Proofs.Ytihanlahegngoaa

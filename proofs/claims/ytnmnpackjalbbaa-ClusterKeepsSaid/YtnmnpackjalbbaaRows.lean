/-
  No cell of these rows narrows 'for every input' (looked for: loops, veiled, ifaces, maps, wideKeys, modest, calm, conditions, laid).
  DERIVED. THE GIVEN ROWS OF THIS SEAT. 11 by the template 'for every input the law returns true; each argument reads behind the call as it read before'; 0 by the template 'total and deterministic' (their statements: YtnmnpackjalbbaaTotals.lean).
  GIVEN WITH THE SEED: the statements are not yours to turn. If you find one false, say at which input.
  Laid BY PROGRAM, IN A SANDBOX (cutbox-rows.mjs): the forced cells as the released guide's own fill.sh prints them over the translation 1c830489c6dae685… (all of the seat's roots in one cut). By AI agents, Wed Nov 11 2026. No macro, syntax, notation, axiom, sorry.
-/
import Derived.Test.YtnmnpackjalbbaaChecked
import GoSem.Claim
import GoSem.ClaimJoined
import GoSem.ClaimMapViews
import Derived.JoinedTies
import Derived.KernelRfl
namespace Go.Proofs.Ytnmnpackjalbbaa
/- THE CELL 'sum', in the pinned program and in every row, IS THE sha256 OF THE DUMP (.gsa) THAT YtnmnpackjalbbaaProg.lean LOADS. Nothing in Lean hashes anything: it is a label: what it is worth is what the hold of that sum in a sandbox is worth. -/
noncomputable def Try.pinned : Pinned := { name := "ytnmnpackjalbbaa", sum := "1c830489c6dae68589e272a260964cd9a0b967e6133812938a34c98e4c22ad2a", checked := Try.checked }
namespace Rows
def none {H : Type} : Left H := { results := [], args := [] }

/-- 'linotypelaw08.HangulTells': WHATEVER THE INPUT: true; the input reads as it did. -/
def hangulTellsSpec : ChangeSpec := { name := "hangulTells", fn := fun _ => fun
  | [d] => { results := [.lit (.bool true)], args := [d] }
  | _ => none }
def hangulTellsRow : OpenClaim := { program := "ytnmnpackjalbbaa", sum := "1c830489c6dae68589e272a260964cd9a0b967e6133812938a34c98e4c22ad2a", func := "linotype/linotypelaw08.HangulTells", spec := "hangulTells", plainKeys := false, apart := false }
def HangulTellsSaid : Prop := hangulTellsRow.holds Try.pinned (OpenSpec.ofChange hangulTellsSpec)

/-- ITS FALSE NEIGHBOUR: 'it returns false'. Refute it at one input. -/
def hangulTellsWrong : ChangeSpec := { name := "hangulTells", fn := fun _ => fun
  | [d] => { results := [.lit (.bool false)], args := [d] }
  | _ => none }
def HangulTellsWrongFalsely : Prop := hangulTellsRow.holds Try.pinned (OpenSpec.ofChange hangulTellsWrong)

/-- 'linotypelaw08.HangulJoins': WHATEVER THE INPUT: true; the input reads as it did. -/
def hangulJoinsSpec : ChangeSpec := { name := "hangulJoins", fn := fun _ => fun
  | [d1, d2, d3] => { results := [.lit (.bool true)], args := [d1, d2, d3] }
  | _ => none }
def hangulJoinsRow : OpenClaim := { program := "ytnmnpackjalbbaa", sum := "1c830489c6dae68589e272a260964cd9a0b967e6133812938a34c98e4c22ad2a", func := "linotype/linotypelaw08.HangulJoins", spec := "hangulJoins", plainKeys := false, apart := false }
def HangulJoinsSaid : Prop := hangulJoinsRow.holds Try.pinned (OpenSpec.ofChange hangulJoinsSpec)

/-- ITS FALSE NEIGHBOUR: 'it returns false'. Refute it at one input. -/
def hangulJoinsWrong : ChangeSpec := { name := "hangulJoins", fn := fun _ => fun
  | [d1, d2, d3] => { results := [.lit (.bool false)], args := [d1, d2, d3] }
  | _ => none }
def HangulJoinsWrongFalsely : Prop := hangulJoinsRow.holds Try.pinned (OpenSpec.ofChange hangulJoinsWrong)

/-- 'linotypelaw20.ClusterKeeps': WHATEVER THE INPUT: true; the input reads as it did. -/
def clusterKeepsSpec : ChangeSpec := { name := "clusterKeeps", fn := fun _ => fun
  | [d] => { results := [.lit (.bool true)], args := [d] }
  | _ => none }
def clusterKeepsRow : OpenClaim := { program := "ytnmnpackjalbbaa", sum := "1c830489c6dae68589e272a260964cd9a0b967e6133812938a34c98e4c22ad2a", func := "linotype/linotypelaw20.ClusterKeeps", spec := "clusterKeeps", plainKeys := false, apart := false }
def ClusterKeepsSaid : Prop := clusterKeepsRow.holds Try.pinned (OpenSpec.ofChange clusterKeepsSpec)

/-- ITS FALSE NEIGHBOUR: 'it returns false'. Refute it at one input. -/
def clusterKeepsWrong : ChangeSpec := { name := "clusterKeeps", fn := fun _ => fun
  | [d] => { results := [.lit (.bool false)], args := [d] }
  | _ => none }
def ClusterKeepsWrongFalsely : Prop := clusterKeepsRow.holds Try.pinned (OpenSpec.ofChange clusterKeepsWrong)

/-- 'linotypelaw20.ClusterSame': WHATEVER THE INPUT: true; the input reads as it did. -/
def clusterSameSpec : ChangeSpec := { name := "clusterSame", fn := fun _ => fun
  | [d1, d2, d3] => { results := [.lit (.bool true)], args := [d1, d2, d3] }
  | _ => none }
def clusterSameRow : OpenClaim := { program := "ytnmnpackjalbbaa", sum := "1c830489c6dae68589e272a260964cd9a0b967e6133812938a34c98e4c22ad2a", func := "linotype/linotypelaw20.ClusterSame", spec := "clusterSame", plainKeys := false, apart := false }
def ClusterSameSaid : Prop := clusterSameRow.holds Try.pinned (OpenSpec.ofChange clusterSameSpec)

/-- ITS FALSE NEIGHBOUR: 'it returns false'. Refute it at one input. -/
def clusterSameWrong : ChangeSpec := { name := "clusterSame", fn := fun _ => fun
  | [d1, d2, d3] => { results := [.lit (.bool false)], args := [d1, d2, d3] }
  | _ => none }
def ClusterSameWrongFalsely : Prop := clusterSameRow.holds Try.pinned (OpenSpec.ofChange clusterSameWrong)

/-- 'linotypelaw14.PairsJoin': WHATEVER THE INPUT: true; the input reads as it did. -/
def pairsJoinSpec : ChangeSpec := { name := "pairsJoin", fn := fun _ => fun
  | [d1, d2] => { results := [.lit (.bool true)], args := [d1, d2] }
  | _ => none }
def pairsJoinRow : OpenClaim := { program := "ytnmnpackjalbbaa", sum := "1c830489c6dae68589e272a260964cd9a0b967e6133812938a34c98e4c22ad2a", func := "linotype/linotypelaw14.PairsJoin", spec := "pairsJoin", plainKeys := false, apart := false }
def PairsJoinSaid : Prop := pairsJoinRow.holds Try.pinned (OpenSpec.ofChange pairsJoinSpec)

/-- ITS FALSE NEIGHBOUR: 'it returns false'. Refute it at one input. -/
def pairsJoinWrong : ChangeSpec := { name := "pairsJoin", fn := fun _ => fun
  | [d1, d2] => { results := [.lit (.bool false)], args := [d1, d2] }
  | _ => none }
def PairsJoinWrongFalsely : Prop := pairsJoinRow.holds Try.pinned (OpenSpec.ofChange pairsJoinWrong)

/-- 'linotypelaw14.PairsOther': WHATEVER THE INPUT: true; the input reads as it did. -/
def pairsOtherSpec : ChangeSpec := { name := "pairsOther", fn := fun _ => fun
  | [d] => { results := [.lit (.bool true)], args := [d] }
  | _ => none }
def pairsOtherRow : OpenClaim := { program := "ytnmnpackjalbbaa", sum := "1c830489c6dae68589e272a260964cd9a0b967e6133812938a34c98e4c22ad2a", func := "linotype/linotypelaw14.PairsOther", spec := "pairsOther", plainKeys := false, apart := false }
def PairsOtherSaid : Prop := pairsOtherRow.holds Try.pinned (OpenSpec.ofChange pairsOtherSpec)

/-- ITS FALSE NEIGHBOUR: 'it returns false'. Refute it at one input. -/
def pairsOtherWrong : ChangeSpec := { name := "pairsOther", fn := fun _ => fun
  | [d] => { results := [.lit (.bool false)], args := [d] }
  | _ => none }
def PairsOtherWrongFalsely : Prop := pairsOtherRow.holds Try.pinned (OpenSpec.ofChange pairsOtherWrong)

/-- 'linotypelaw12.EastTells': WHATEVER THE INPUT: true; the input reads as it did. -/
def eastTellsSpec : ChangeSpec := { name := "eastTells", fn := fun _ => fun
  | [d] => { results := [.lit (.bool true)], args := [d] }
  | _ => none }
def eastTellsRow : OpenClaim := { program := "ytnmnpackjalbbaa", sum := "1c830489c6dae68589e272a260964cd9a0b967e6133812938a34c98e4c22ad2a", func := "linotype/linotypelaw12.EastTells", spec := "eastTells", unfollowed := true, recurses := true, plainKeys := false, apart := false }
def EastTellsSaid : Prop := eastTellsRow.holds Try.pinned (OpenSpec.ofChange eastTellsSpec)

/-- ITS FALSE NEIGHBOUR: 'it returns false'. Refute it at one input. -/
def eastTellsWrong : ChangeSpec := { name := "eastTells", fn := fun _ => fun
  | [d] => { results := [.lit (.bool false)], args := [d] }
  | _ => none }
def EastTellsWrongFalsely : Prop := eastTellsRow.holds Try.pinned (OpenSpec.ofChange eastTellsWrong)

/-- 'linotypelaw50.RingOwn': WHATEVER THE INPUT: true; the input reads as it did. -/
def ringOwnSpec : ChangeSpec := { name := "ringOwn", fn := fun _ => fun
  | [d] => { results := [.lit (.bool true)], args := [d] }
  | _ => none }
def ringOwnRow : OpenClaim := { program := "ytnmnpackjalbbaa", sum := "1c830489c6dae68589e272a260964cd9a0b967e6133812938a34c98e4c22ad2a", func := "linotype/linotypelaw50.RingOwn", spec := "ringOwn", plainKeys := false, apart := false }
def RingOwnSaid : Prop := ringOwnRow.holds Try.pinned (OpenSpec.ofChange ringOwnSpec)

/-- ITS FALSE NEIGHBOUR: 'it returns false'. Refute it at one input. -/
def ringOwnWrong : ChangeSpec := { name := "ringOwn", fn := fun _ => fun
  | [d] => { results := [.lit (.bool false)], args := [d] }
  | _ => none }
def RingOwnWrongFalsely : Prop := ringOwnRow.holds Try.pinned (OpenSpec.ofChange ringOwnWrong)

/-- 'linotypelaw50.RingKeeps': WHATEVER THE INPUT: true; the input reads as it did. -/
def ringKeepsSpec : ChangeSpec := { name := "ringKeeps", fn := fun _ => fun
  | [d1, d2, d3] => { results := [.lit (.bool true)], args := [d1, d2, d3] }
  | _ => none }
def ringKeepsRow : OpenClaim := { program := "ytnmnpackjalbbaa", sum := "1c830489c6dae68589e272a260964cd9a0b967e6133812938a34c98e4c22ad2a", func := "linotype/linotypelaw50.RingKeeps", spec := "ringKeeps", plainKeys := false, apart := false }
def RingKeepsSaid : Prop := ringKeepsRow.holds Try.pinned (OpenSpec.ofChange ringKeepsSpec)

/-- ITS FALSE NEIGHBOUR: 'it returns false'. Refute it at one input. -/
def ringKeepsWrong : ChangeSpec := { name := "ringKeeps", fn := fun _ => fun
  | [d1, d2, d3] => { results := [.lit (.bool false)], args := [d1, d2, d3] }
  | _ => none }
def RingKeepsWrongFalsely : Prop := ringKeepsRow.holds Try.pinned (OpenSpec.ofChange ringKeepsWrong)

/-- 'linotypelaw09.GcbClasses': WHATEVER THE INPUT: true; the input reads as it did. -/
def gcbClassesSpec : ChangeSpec := { name := "gcbClasses", fn := fun _ => fun
  | [d] => { results := [.lit (.bool true)], args := [d] }
  | _ => none }
def gcbClassesRow : OpenClaim := { program := "ytnmnpackjalbbaa", sum := "1c830489c6dae68589e272a260964cd9a0b967e6133812938a34c98e4c22ad2a", func := "linotype/linotypelaw09.GcbClasses", spec := "gcbClasses", unfollowed := true, recurses := true, plainKeys := false, apart := false }
def GcbClassesSaid : Prop := gcbClassesRow.holds Try.pinned (OpenSpec.ofChange gcbClassesSpec)

/-- ITS FALSE NEIGHBOUR: 'it returns false'. Refute it at one input. -/
def gcbClassesWrong : ChangeSpec := { name := "gcbClasses", fn := fun _ => fun
  | [d] => { results := [.lit (.bool false)], args := [d] }
  | _ => none }
def GcbClassesWrongFalsely : Prop := gcbClassesRow.holds Try.pinned (OpenSpec.ofChange gcbClassesWrong)

/-- 'linotypelaw07.PackShares': WHATEVER THE INPUT: true; the input reads as it did. -/
def packSharesSpec : ChangeSpec := { name := "packShares", fn := fun _ => fun
  | [d1, d2, d3] => { results := [.lit (.bool true)], args := [d1, d2, d3] }
  | _ => none }
def packSharesRow : OpenClaim := { program := "ytnmnpackjalbbaa", sum := "1c830489c6dae68589e272a260964cd9a0b967e6133812938a34c98e4c22ad2a", func := "linotype/linotypelaw07.PackShares", spec := "packShares", plainKeys := false, apart := false }
def PackSharesSaid : Prop := packSharesRow.holds Try.pinned (OpenSpec.ofChange packSharesSpec)

/-- ITS FALSE NEIGHBOUR: 'it returns false'. Refute it at one input. -/
def packSharesWrong : ChangeSpec := { name := "packShares", fn := fun _ => fun
  | [d1, d2, d3] => { results := [.lit (.bool false)], args := [d1, d2, d3] }
  | _ => none }
def PackSharesWrongFalsely : Prop := packSharesRow.holds Try.pinned (OpenSpec.ofChange packSharesWrong)

/- THE SECOND FORM. 'bulk': how many values and letters a reading holds, each counted each time it is reached (what is shared counts as often as it is met; a slice's spare places count too). A statement '..UptoSaid' is the law's where the arguments, and the package variables that the reading takes, are together of bulk at most 1048576: NARROWER than '..Said'. Prove '..Said' where nothing that the law and all that it calls make is longer than what came in: it says more and counts as full. Else prove '..UptoSaid'. A law counts once. -/
mutual
def uptoBulk {H : Type} : DataW H → Nat
  | .lit (.string bytes) => bytes.length + 1
  | .lit _ => 1
  | .nil => 1
  | .ptr d => uptoBulk d + 1
  | .slice elems spare => uptoBulkAll elems + uptoBulkAll spare + 1
  | .agg parts => uptoBulkAll parts + 1
  | .iface _ d => uptoBulk d + 1
  | .map entries => uptoBulkEntries entries + 1
  | .held _ => 1
def uptoBulkAll {H : Type} : List (DataW H) → Nat
  | [] => 0
  | d :: r => uptoBulk d + uptoBulkAll r
def uptoBulkEntries {H : Type} : List (Lit × DataW H) → Nat
  | [] => 0
  | x :: r => uptoBulkEntry x + uptoBulkEntries r
def uptoBulkEntry {H : Type} : Lit × DataW H → Nat
  | (.string bytes, d) => bytes.length + uptoBulk d + 1
  | (_, d) => uptoBulk d + 1
 end
def uptoSmall : (H : Type) → List (DataW H) → Bool := fun _ ds => decide (uptoBulkAll ds ≤ 1048576)
def OpenSpec.upto (s : _root_.Go.ChangeSpec) : _root_.Go.OpenSpec := { _root_.Go.OpenSpec.ofChange s with cond := some uptoSmall }

/-- 'linotypelaw08.HangulTells', WHERE WHAT IT READS IS OF BULK AT MOST 1048576: true; the input reads as it did. -/
def hangulTellsUptoRow : OpenClaim := { program := "ytnmnpackjalbbaa", sum := "1c830489c6dae68589e272a260964cd9a0b967e6133812938a34c98e4c22ad2a", func := "linotype/linotypelaw08.HangulTells", spec := "hangulTells", plainKeys := false, apart := false, narrowed := true }
def HangulTellsUptoSaid : Prop := hangulTellsUptoRow.holds Try.pinned (OpenSpec.upto hangulTellsSpec)

/-- 'linotypelaw08.HangulJoins', WHERE WHAT IT READS IS OF BULK AT MOST 1048576: true; the input reads as it did. -/
def hangulJoinsUptoRow : OpenClaim := { program := "ytnmnpackjalbbaa", sum := "1c830489c6dae68589e272a260964cd9a0b967e6133812938a34c98e4c22ad2a", func := "linotype/linotypelaw08.HangulJoins", spec := "hangulJoins", plainKeys := false, apart := false, narrowed := true }
def HangulJoinsUptoSaid : Prop := hangulJoinsUptoRow.holds Try.pinned (OpenSpec.upto hangulJoinsSpec)

/-- 'linotypelaw20.ClusterKeeps', WHERE WHAT IT READS IS OF BULK AT MOST 1048576: true; the input reads as it did. -/
def clusterKeepsUptoRow : OpenClaim := { program := "ytnmnpackjalbbaa", sum := "1c830489c6dae68589e272a260964cd9a0b967e6133812938a34c98e4c22ad2a", func := "linotype/linotypelaw20.ClusterKeeps", spec := "clusterKeeps", plainKeys := false, apart := false, narrowed := true }
def ClusterKeepsUptoSaid : Prop := clusterKeepsUptoRow.holds Try.pinned (OpenSpec.upto clusterKeepsSpec)

/-- 'linotypelaw20.ClusterSame', WHERE WHAT IT READS IS OF BULK AT MOST 1048576: true; the input reads as it did. -/
def clusterSameUptoRow : OpenClaim := { program := "ytnmnpackjalbbaa", sum := "1c830489c6dae68589e272a260964cd9a0b967e6133812938a34c98e4c22ad2a", func := "linotype/linotypelaw20.ClusterSame", spec := "clusterSame", plainKeys := false, apart := false, narrowed := true }
def ClusterSameUptoSaid : Prop := clusterSameUptoRow.holds Try.pinned (OpenSpec.upto clusterSameSpec)

/-- 'linotypelaw14.PairsJoin', WHERE WHAT IT READS IS OF BULK AT MOST 1048576: true; the input reads as it did. -/
def pairsJoinUptoRow : OpenClaim := { program := "ytnmnpackjalbbaa", sum := "1c830489c6dae68589e272a260964cd9a0b967e6133812938a34c98e4c22ad2a", func := "linotype/linotypelaw14.PairsJoin", spec := "pairsJoin", plainKeys := false, apart := false, narrowed := true }
def PairsJoinUptoSaid : Prop := pairsJoinUptoRow.holds Try.pinned (OpenSpec.upto pairsJoinSpec)

/-- 'linotypelaw14.PairsOther', WHERE WHAT IT READS IS OF BULK AT MOST 1048576: true; the input reads as it did. -/
def pairsOtherUptoRow : OpenClaim := { program := "ytnmnpackjalbbaa", sum := "1c830489c6dae68589e272a260964cd9a0b967e6133812938a34c98e4c22ad2a", func := "linotype/linotypelaw14.PairsOther", spec := "pairsOther", plainKeys := false, apart := false, narrowed := true }
def PairsOtherUptoSaid : Prop := pairsOtherUptoRow.holds Try.pinned (OpenSpec.upto pairsOtherSpec)

/-- 'linotypelaw12.EastTells', WHERE WHAT IT READS IS OF BULK AT MOST 1048576: true; the input reads as it did. -/
def eastTellsUptoRow : OpenClaim := { program := "ytnmnpackjalbbaa", sum := "1c830489c6dae68589e272a260964cd9a0b967e6133812938a34c98e4c22ad2a", func := "linotype/linotypelaw12.EastTells", spec := "eastTells", unfollowed := true, recurses := true, plainKeys := false, apart := false, narrowed := true }
def EastTellsUptoSaid : Prop := eastTellsUptoRow.holds Try.pinned (OpenSpec.upto eastTellsSpec)

/-- 'linotypelaw50.RingOwn', WHERE WHAT IT READS IS OF BULK AT MOST 1048576: true; the input reads as it did. -/
def ringOwnUptoRow : OpenClaim := { program := "ytnmnpackjalbbaa", sum := "1c830489c6dae68589e272a260964cd9a0b967e6133812938a34c98e4c22ad2a", func := "linotype/linotypelaw50.RingOwn", spec := "ringOwn", plainKeys := false, apart := false, narrowed := true }
def RingOwnUptoSaid : Prop := ringOwnUptoRow.holds Try.pinned (OpenSpec.upto ringOwnSpec)

/-- 'linotypelaw50.RingKeeps', WHERE WHAT IT READS IS OF BULK AT MOST 1048576: true; the input reads as it did. -/
def ringKeepsUptoRow : OpenClaim := { program := "ytnmnpackjalbbaa", sum := "1c830489c6dae68589e272a260964cd9a0b967e6133812938a34c98e4c22ad2a", func := "linotype/linotypelaw50.RingKeeps", spec := "ringKeeps", plainKeys := false, apart := false, narrowed := true }
def RingKeepsUptoSaid : Prop := ringKeepsUptoRow.holds Try.pinned (OpenSpec.upto ringKeepsSpec)

/-- 'linotypelaw09.GcbClasses', WHERE WHAT IT READS IS OF BULK AT MOST 1048576: true; the input reads as it did. -/
def gcbClassesUptoRow : OpenClaim := { program := "ytnmnpackjalbbaa", sum := "1c830489c6dae68589e272a260964cd9a0b967e6133812938a34c98e4c22ad2a", func := "linotype/linotypelaw09.GcbClasses", spec := "gcbClasses", unfollowed := true, recurses := true, plainKeys := false, apart := false, narrowed := true }
def GcbClassesUptoSaid : Prop := gcbClassesUptoRow.holds Try.pinned (OpenSpec.upto gcbClassesSpec)

/-- 'linotypelaw07.PackShares', WHERE WHAT IT READS IS OF BULK AT MOST 1048576: true; the input reads as it did. -/
def packSharesUptoRow : OpenClaim := { program := "ytnmnpackjalbbaa", sum := "1c830489c6dae68589e272a260964cd9a0b967e6133812938a34c98e4c22ad2a", func := "linotype/linotypelaw07.PackShares", spec := "packShares", plainKeys := false, apart := false, narrowed := true }
def PackSharesUptoSaid : Prop := packSharesUptoRow.holds Try.pinned (OpenSpec.upto packSharesSpec)

end Rows
end Go.Proofs.Ytnmnpackjalbbaa

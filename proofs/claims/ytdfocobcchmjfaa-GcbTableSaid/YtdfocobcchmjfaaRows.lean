/-
  No cell of these rows narrows 'for every input' (looked for: loops, veiled, ifaces, maps, wideKeys, modest, calm, conditions, laid).
  DERIVED. THE GIVEN ROWS OF THIS SEAT. 12 by the template 'for every input the law returns true; each argument reads behind the call as it read before'; 0 by the template 'total and deterministic' (their statements: YtdfocobcchmjfaaTotals.lean).
  GIVEN WITH THE SEED: the statements are not yours to turn. If you find one false, say at which input.
  Laid BY PROGRAM, IN A SANDBOX (cutbox-rows.mjs): the forced cells as the released guide's own fill.sh prints them over the translation fce19ce9866ad2c4… (all of the seat's roots in one cut). By AI agents, Wed Nov 11 2026. No macro, syntax, notation, axiom, sorry.
-/
import Derived.Test.YtdfocobcchmjfaaChecked
import GoSem.Claim
import GoSem.ClaimJoined
import GoSem.ClaimMapViews
import Derived.JoinedTies
import Derived.KernelRfl
namespace Go.Proofs.Ytdfocobcchmjfaa
/- THE CELL 'sum', in the pinned program and in every row, IS THE sha256 OF THE DUMP (.gsa) THAT YtdfocobcchmjfaaProg.lean LOADS. Nothing in Lean hashes anything: it is a label: what it is worth is what the hold of that sum in a sandbox is worth. -/
noncomputable def Try.pinned : Pinned := { name := "ytdfocobcchmjfaa", sum := "fce19ce9866ad2c41bade55b319e06c6c01bccc57194499826426ae0cad5ac51", checked := Try.checked }
namespace Rows
def none {H : Type} : Left H := { results := [], args := [] }

/-- 'linotypelaw11.ConjTable': WHATEVER THE INPUT: true; the input reads as it did. -/
def conjTableSpec : ChangeSpec := { name := "conjTable", fn := fun _ => fun
  | [d] => { results := [.lit (.bool true)], args := [d] }
  | _ => none }
def conjTableRow : OpenClaim := { program := "ytdfocobcchmjfaa", sum := "fce19ce9866ad2c41bade55b319e06c6c01bccc57194499826426ae0cad5ac51", func := "linotype/linotypelaw11.ConjTable", spec := "conjTable", unfollowed := true, recurses := true, plainKeys := false, apart := false }
def ConjTableSaid : Prop := conjTableRow.holds Try.pinned (OpenSpec.ofChange conjTableSpec)

/-- ITS FALSE NEIGHBOUR: 'it returns false'. Refute it at one input. -/
def conjTableWrong : ChangeSpec := { name := "conjTable", fn := fun _ => fun
  | [d] => { results := [.lit (.bool false)], args := [d] }
  | _ => none }
def ConjTableWrongFalsely : Prop := conjTableRow.holds Try.pinned (OpenSpec.ofChange conjTableWrong)

/-- 'linotypelaw10.PictTable': WHATEVER THE INPUT: true; the input reads as it did. -/
def pictTableSpec : ChangeSpec := { name := "pictTable", fn := fun _ => fun
  | [d] => { results := [.lit (.bool true)], args := [d] }
  | _ => none }
def pictTableRow : OpenClaim := { program := "ytdfocobcchmjfaa", sum := "fce19ce9866ad2c41bade55b319e06c6c01bccc57194499826426ae0cad5ac51", func := "linotype/linotypelaw10.PictTable", spec := "pictTable", unfollowed := true, recurses := true, plainKeys := false, apart := false }
def PictTableSaid : Prop := pictTableRow.holds Try.pinned (OpenSpec.ofChange pictTableSpec)

/-- ITS FALSE NEIGHBOUR: 'it returns false'. Refute it at one input. -/
def pictTableWrong : ChangeSpec := { name := "pictTable", fn := fun _ => fun
  | [d] => { results := [.lit (.bool false)], args := [d] }
  | _ => none }
def PictTableWrongFalsely : Prop := pictTableRow.holds Try.pinned (OpenSpec.ofChange pictTableWrong)

/-- 'linotypelaw15.SegBreaks': WHATEVER THE INPUT: true; the input reads as it did. -/
def segBreaksSpec : ChangeSpec := { name := "segBreaks", fn := fun _ => fun
  | [d1, d2, d3] => { results := [.lit (.bool true)], args := [d1, d2, d3] }
  | _ => none }
def segBreaksRow : OpenClaim := { program := "ytdfocobcchmjfaa", sum := "fce19ce9866ad2c41bade55b319e06c6c01bccc57194499826426ae0cad5ac51", func := "linotype/linotypelaw15.SegBreaks", spec := "segBreaks", plainKeys := false, apart := false }
def SegBreaksSaid : Prop := segBreaksRow.holds Try.pinned (OpenSpec.ofChange segBreaksSpec)

/-- ITS FALSE NEIGHBOUR: 'it returns false'. Refute it at one input. -/
def segBreaksWrong : ChangeSpec := { name := "segBreaks", fn := fun _ => fun
  | [d1, d2, d3] => { results := [.lit (.bool false)], args := [d1, d2, d3] }
  | _ => none }
def SegBreaksWrongFalsely : Prop := segBreaksRow.holds Try.pinned (OpenSpec.ofChange segBreaksWrong)

/-- 'linotypelaw07.PackGets': WHATEVER THE INPUT: true; the input reads as it did. -/
def packGetsSpec : ChangeSpec := { name := "packGets", fn := fun _ => fun
  | [d1, d2] => { results := [.lit (.bool true)], args := [d1, d2] }
  | _ => none }
def packGetsRow : OpenClaim := { program := "ytdfocobcchmjfaa", sum := "fce19ce9866ad2c41bade55b319e06c6c01bccc57194499826426ae0cad5ac51", func := "linotype/linotypelaw07.PackGets", spec := "packGets", plainKeys := false, apart := false }
def PackGetsSaid : Prop := packGetsRow.holds Try.pinned (OpenSpec.ofChange packGetsSpec)

/-- ITS FALSE NEIGHBOUR: 'it returns false'. Refute it at one input. -/
def packGetsWrong : ChangeSpec := { name := "packGets", fn := fun _ => fun
  | [d1, d2] => { results := [.lit (.bool false)], args := [d1, d2] }
  | _ => none }
def PackGetsWrongFalsely : Prop := packGetsRow.holds Try.pinned (OpenSpec.ofChange packGetsWrong)

/-- 'linotypelaw11.ConjTells': WHATEVER THE INPUT: true; the input reads as it did. -/
def conjTellsSpec : ChangeSpec := { name := "conjTells", fn := fun _ => fun
  | [d] => { results := [.lit (.bool true)], args := [d] }
  | _ => none }
def conjTellsRow : OpenClaim := { program := "ytdfocobcchmjfaa", sum := "fce19ce9866ad2c41bade55b319e06c6c01bccc57194499826426ae0cad5ac51", func := "linotype/linotypelaw11.ConjTells", spec := "conjTells", unfollowed := true, recurses := true, plainKeys := false, apart := false }
def ConjTellsSaid : Prop := conjTellsRow.holds Try.pinned (OpenSpec.ofChange conjTellsSpec)

/-- ITS FALSE NEIGHBOUR: 'it returns false'. Refute it at one input. -/
def conjTellsWrong : ChangeSpec := { name := "conjTells", fn := fun _ => fun
  | [d] => { results := [.lit (.bool false)], args := [d] }
  | _ => none }
def ConjTellsWrongFalsely : Prop := conjTellsRow.holds Try.pinned (OpenSpec.ofChange conjTellsWrong)

/-- 'linotypelaw15.SegSteps': WHATEVER THE INPUT: true; the input reads as it did. -/
def segStepsSpec : ChangeSpec := { name := "segSteps", fn := fun _ => fun
  | [d] => { results := [.lit (.bool true)], args := [d] }
  | _ => none }
def segStepsRow : OpenClaim := { program := "ytdfocobcchmjfaa", sum := "fce19ce9866ad2c41bade55b319e06c6c01bccc57194499826426ae0cad5ac51", func := "linotype/linotypelaw15.SegSteps", spec := "segSteps", plainKeys := false, apart := false }
def SegStepsSaid : Prop := segStepsRow.holds Try.pinned (OpenSpec.ofChange segStepsSpec)

/-- ITS FALSE NEIGHBOUR: 'it returns false'. Refute it at one input. -/
def segStepsWrong : ChangeSpec := { name := "segSteps", fn := fun _ => fun
  | [d] => { results := [.lit (.bool false)], args := [d] }
  | _ => none }
def SegStepsWrongFalsely : Prop := segStepsRow.holds Try.pinned (OpenSpec.ofChange segStepsWrong)

/-- 'linotypelaw15.SegCopies': WHATEVER THE INPUT: true; the input reads as it did. -/
def segCopiesSpec : ChangeSpec := { name := "segCopies", fn := fun _ => fun
  | [d1, d2] => { results := [.lit (.bool true)], args := [d1, d2] }
  | _ => none }
def segCopiesRow : OpenClaim := { program := "ytdfocobcchmjfaa", sum := "fce19ce9866ad2c41bade55b319e06c6c01bccc57194499826426ae0cad5ac51", func := "linotype/linotypelaw15.SegCopies", spec := "segCopies", plainKeys := false, apart := false }
def SegCopiesSaid : Prop := segCopiesRow.holds Try.pinned (OpenSpec.ofChange segCopiesSpec)

/-- ITS FALSE NEIGHBOUR: 'it returns false'. Refute it at one input. -/
def segCopiesWrong : ChangeSpec := { name := "segCopies", fn := fun _ => fun
  | [d1, d2] => { results := [.lit (.bool false)], args := [d1, d2] }
  | _ => none }
def SegCopiesWrongFalsely : Prop := segCopiesRow.holds Try.pinned (OpenSpec.ofChange segCopiesWrong)

/-- 'linotypelaw10.PictTells': WHATEVER THE INPUT: true; the input reads as it did. -/
def pictTellsSpec : ChangeSpec := { name := "pictTells", fn := fun _ => fun
  | [d] => { results := [.lit (.bool true)], args := [d] }
  | _ => none }
def pictTellsRow : OpenClaim := { program := "ytdfocobcchmjfaa", sum := "fce19ce9866ad2c41bade55b319e06c6c01bccc57194499826426ae0cad5ac51", func := "linotype/linotypelaw10.PictTells", spec := "pictTells", unfollowed := true, recurses := true, plainKeys := false, apart := false }
def PictTellsSaid : Prop := pictTellsRow.holds Try.pinned (OpenSpec.ofChange pictTellsSpec)

/-- ITS FALSE NEIGHBOUR: 'it returns false'. Refute it at one input. -/
def pictTellsWrong : ChangeSpec := { name := "pictTells", fn := fun _ => fun
  | [d] => { results := [.lit (.bool false)], args := [d] }
  | _ => none }
def PictTellsWrongFalsely : Prop := pictTellsRow.holds Try.pinned (OpenSpec.ofChange pictTellsWrong)

/-- 'linotypelaw12.EastTable': WHATEVER THE INPUT: true; the input reads as it did. -/
def eastTableSpec : ChangeSpec := { name := "eastTable", fn := fun _ => fun
  | [d] => { results := [.lit (.bool true)], args := [d] }
  | _ => none }
def eastTableRow : OpenClaim := { program := "ytdfocobcchmjfaa", sum := "fce19ce9866ad2c41bade55b319e06c6c01bccc57194499826426ae0cad5ac51", func := "linotype/linotypelaw12.EastTable", spec := "eastTable", unfollowed := true, recurses := true, plainKeys := false, apart := false }
def EastTableSaid : Prop := eastTableRow.holds Try.pinned (OpenSpec.ofChange eastTableSpec)

/-- ITS FALSE NEIGHBOUR: 'it returns false'. Refute it at one input. -/
def eastTableWrong : ChangeSpec := { name := "eastTable", fn := fun _ => fun
  | [d] => { results := [.lit (.bool false)], args := [d] }
  | _ => none }
def EastTableWrongFalsely : Prop := eastTableRow.holds Try.pinned (OpenSpec.ofChange eastTableWrong)

/-- 'linotypelaw07.PackBack': WHATEVER THE INPUT: true; the input reads as it did. -/
def packBackSpec : ChangeSpec := { name := "packBack", fn := fun _ => fun
  | [d] => { results := [.lit (.bool true)], args := [d] }
  | _ => none }
def packBackRow : OpenClaim := { program := "ytdfocobcchmjfaa", sum := "fce19ce9866ad2c41bade55b319e06c6c01bccc57194499826426ae0cad5ac51", func := "linotype/linotypelaw07.PackBack", spec := "packBack", plainKeys := false, apart := false }
def PackBackSaid : Prop := packBackRow.holds Try.pinned (OpenSpec.ofChange packBackSpec)

/-- ITS FALSE NEIGHBOUR: 'it returns false'. Refute it at one input. -/
def packBackWrong : ChangeSpec := { name := "packBack", fn := fun _ => fun
  | [d] => { results := [.lit (.bool false)], args := [d] }
  | _ => none }
def PackBackWrongFalsely : Prop := packBackRow.holds Try.pinned (OpenSpec.ofChange packBackWrong)

/-- 'linotypelaw09.GcbTable': WHATEVER THE INPUT: true; the input reads as it did. -/
def gcbTableSpec : ChangeSpec := { name := "gcbTable", fn := fun _ => fun
  | [d] => { results := [.lit (.bool true)], args := [d] }
  | _ => none }
def gcbTableRow : OpenClaim := { program := "ytdfocobcchmjfaa", sum := "fce19ce9866ad2c41bade55b319e06c6c01bccc57194499826426ae0cad5ac51", func := "linotype/linotypelaw09.GcbTable", spec := "gcbTable", unfollowed := true, recurses := true, plainKeys := false, apart := false }
def GcbTableSaid : Prop := gcbTableRow.holds Try.pinned (OpenSpec.ofChange gcbTableSpec)

/-- ITS FALSE NEIGHBOUR: 'it returns false'. Refute it at one input. -/
def gcbTableWrong : ChangeSpec := { name := "gcbTable", fn := fun _ => fun
  | [d] => { results := [.lit (.bool false)], args := [d] }
  | _ => none }
def GcbTableWrongFalsely : Prop := gcbTableRow.holds Try.pinned (OpenSpec.ofChange gcbTableWrong)

/-- 'linotypelaw18.BasewTells': WHATEVER THE INPUT: true; the input reads as it did. -/
def basewTellsSpec : ChangeSpec := { name := "basewTells", fn := fun _ => fun
  | [d1, d2] => { results := [.lit (.bool true)], args := [d1, d2] }
  | _ => none }
def basewTellsRow : OpenClaim := { program := "ytdfocobcchmjfaa", sum := "fce19ce9866ad2c41bade55b319e06c6c01bccc57194499826426ae0cad5ac51", func := "linotype/linotypelaw18.BasewTells", spec := "basewTells", unfollowed := true, recurses := true, plainKeys := false, apart := false }
def BasewTellsSaid : Prop := basewTellsRow.holds Try.pinned (OpenSpec.ofChange basewTellsSpec)

/-- ITS FALSE NEIGHBOUR: 'it returns false'. Refute it at one input. -/
def basewTellsWrong : ChangeSpec := { name := "basewTells", fn := fun _ => fun
  | [d1, d2] => { results := [.lit (.bool false)], args := [d1, d2] }
  | _ => none }
def BasewTellsWrongFalsely : Prop := basewTellsRow.holds Try.pinned (OpenSpec.ofChange basewTellsWrong)

/- THE SECOND FORM. 'bulk': how many values and letters a reading holds, each counted each time it is reached (what is shared counts as often as it is met; a slice's spare places count too). A statement '..UptoSaid' is the law's where the arguments, and the package variables that the reading takes, are together of bulk at most 1048576: NARROWER than '..Said'. Prove '..Said' where nothing that the law and all that it calls make is longer than what came in: it says more and counts as full. Else prove '..UptoSaid'. A law counts once. -/
mutual
def uptoBulk {H : Type} : DataW H → Nat
  | .lit (.string bytes) => bytes.length + 1
  | .lit _ => 1
  | .nil => 1
  | .ptr d => uptoBulk d + 1
  | .slice elems spare => uptoBulkAll elems + uptoBulkAll spare + 1
  | .agg parts => uptoBulkAll parts + 1
  | .iface _ d => uptoBulk d + 1
  | .map entries => uptoBulkEntries entries + 1
  | .held _ => 1
def uptoBulkAll {H : Type} : List (DataW H) → Nat
  | [] => 0
  | d :: r => uptoBulk d + uptoBulkAll r
def uptoBulkEntries {H : Type} : List (Lit × DataW H) → Nat
  | [] => 0
  | x :: r => uptoBulkEntry x + uptoBulkEntries r
def uptoBulkEntry {H : Type} : Lit × DataW H → Nat
  | (.string bytes, d) => bytes.length + uptoBulk d + 1
  | (_, d) => uptoBulk d + 1
 end
def uptoSmall : (H : Type) → List (DataW H) → Bool := fun _ ds => decide (uptoBulkAll ds ≤ 1048576)
def OpenSpec.upto (s : _root_.Go.ChangeSpec) : _root_.Go.OpenSpec := { _root_.Go.OpenSpec.ofChange s with cond := some uptoSmall }

/-- 'linotypelaw11.ConjTable', WHERE WHAT IT READS IS OF BULK AT MOST 1048576: true; the input reads as it did. -/
def conjTableUptoRow : OpenClaim := { program := "ytdfocobcchmjfaa", sum := "fce19ce9866ad2c41bade55b319e06c6c01bccc57194499826426ae0cad5ac51", func := "linotype/linotypelaw11.ConjTable", spec := "conjTable", unfollowed := true, recurses := true, plainKeys := false, apart := false, narrowed := true }
def ConjTableUptoSaid : Prop := conjTableUptoRow.holds Try.pinned (OpenSpec.upto conjTableSpec)

/-- 'linotypelaw10.PictTable', WHERE WHAT IT READS IS OF BULK AT MOST 1048576: true; the input reads as it did. -/
def pictTableUptoRow : OpenClaim := { program := "ytdfocobcchmjfaa", sum := "fce19ce9866ad2c41bade55b319e06c6c01bccc57194499826426ae0cad5ac51", func := "linotype/linotypelaw10.PictTable", spec := "pictTable", unfollowed := true, recurses := true, plainKeys := false, apart := false, narrowed := true }
def PictTableUptoSaid : Prop := pictTableUptoRow.holds Try.pinned (OpenSpec.upto pictTableSpec)

/-- 'linotypelaw15.SegBreaks', WHERE WHAT IT READS IS OF BULK AT MOST 1048576: true; the input reads as it did. -/
def segBreaksUptoRow : OpenClaim := { program := "ytdfocobcchmjfaa", sum := "fce19ce9866ad2c41bade55b319e06c6c01bccc57194499826426ae0cad5ac51", func := "linotype/linotypelaw15.SegBreaks", spec := "segBreaks", plainKeys := false, apart := false, narrowed := true }
def SegBreaksUptoSaid : Prop := segBreaksUptoRow.holds Try.pinned (OpenSpec.upto segBreaksSpec)

/-- 'linotypelaw07.PackGets', WHERE WHAT IT READS IS OF BULK AT MOST 1048576: true; the input reads as it did. -/
def packGetsUptoRow : OpenClaim := { program := "ytdfocobcchmjfaa", sum := "fce19ce9866ad2c41bade55b319e06c6c01bccc57194499826426ae0cad5ac51", func := "linotype/linotypelaw07.PackGets", spec := "packGets", plainKeys := false, apart := false, narrowed := true }
def PackGetsUptoSaid : Prop := packGetsUptoRow.holds Try.pinned (OpenSpec.upto packGetsSpec)

/-- 'linotypelaw11.ConjTells', WHERE WHAT IT READS IS OF BULK AT MOST 1048576: true; the input reads as it did. -/
def conjTellsUptoRow : OpenClaim := { program := "ytdfocobcchmjfaa", sum := "fce19ce9866ad2c41bade55b319e06c6c01bccc57194499826426ae0cad5ac51", func := "linotype/linotypelaw11.ConjTells", spec := "conjTells", unfollowed := true, recurses := true, plainKeys := false, apart := false, narrowed := true }
def ConjTellsUptoSaid : Prop := conjTellsUptoRow.holds Try.pinned (OpenSpec.upto conjTellsSpec)

/-- 'linotypelaw15.SegSteps', WHERE WHAT IT READS IS OF BULK AT MOST 1048576: true; the input reads as it did. -/
def segStepsUptoRow : OpenClaim := { program := "ytdfocobcchmjfaa", sum := "fce19ce9866ad2c41bade55b319e06c6c01bccc57194499826426ae0cad5ac51", func := "linotype/linotypelaw15.SegSteps", spec := "segSteps", plainKeys := false, apart := false, narrowed := true }
def SegStepsUptoSaid : Prop := segStepsUptoRow.holds Try.pinned (OpenSpec.upto segStepsSpec)

/-- 'linotypelaw15.SegCopies', WHERE WHAT IT READS IS OF BULK AT MOST 1048576: true; the input reads as it did. -/
def segCopiesUptoRow : OpenClaim := { program := "ytdfocobcchmjfaa", sum := "fce19ce9866ad2c41bade55b319e06c6c01bccc57194499826426ae0cad5ac51", func := "linotype/linotypelaw15.SegCopies", spec := "segCopies", plainKeys := false, apart := false, narrowed := true }
def SegCopiesUptoSaid : Prop := segCopiesUptoRow.holds Try.pinned (OpenSpec.upto segCopiesSpec)

/-- 'linotypelaw10.PictTells', WHERE WHAT IT READS IS OF BULK AT MOST 1048576: true; the input reads as it did. -/
def pictTellsUptoRow : OpenClaim := { program := "ytdfocobcchmjfaa", sum := "fce19ce9866ad2c41bade55b319e06c6c01bccc57194499826426ae0cad5ac51", func := "linotype/linotypelaw10.PictTells", spec := "pictTells", unfollowed := true, recurses := true, plainKeys := false, apart := false, narrowed := true }
def PictTellsUptoSaid : Prop := pictTellsUptoRow.holds Try.pinned (OpenSpec.upto pictTellsSpec)

/-- 'linotypelaw12.EastTable', WHERE WHAT IT READS IS OF BULK AT MOST 1048576: true; the input reads as it did. -/
def eastTableUptoRow : OpenClaim := { program := "ytdfocobcchmjfaa", sum := "fce19ce9866ad2c41bade55b319e06c6c01bccc57194499826426ae0cad5ac51", func := "linotype/linotypelaw12.EastTable", spec := "eastTable", unfollowed := true, recurses := true, plainKeys := false, apart := false, narrowed := true }
def EastTableUptoSaid : Prop := eastTableUptoRow.holds Try.pinned (OpenSpec.upto eastTableSpec)

/-- 'linotypelaw07.PackBack', WHERE WHAT IT READS IS OF BULK AT MOST 1048576: true; the input reads as it did. -/
def packBackUptoRow : OpenClaim := { program := "ytdfocobcchmjfaa", sum := "fce19ce9866ad2c41bade55b319e06c6c01bccc57194499826426ae0cad5ac51", func := "linotype/linotypelaw07.PackBack", spec := "packBack", plainKeys := false, apart := false, narrowed := true }
def PackBackUptoSaid : Prop := packBackUptoRow.holds Try.pinned (OpenSpec.upto packBackSpec)

/-- 'linotypelaw09.GcbTable', WHERE WHAT IT READS IS OF BULK AT MOST 1048576: true; the input reads as it did. -/
def gcbTableUptoRow : OpenClaim := { program := "ytdfocobcchmjfaa", sum := "fce19ce9866ad2c41bade55b319e06c6c01bccc57194499826426ae0cad5ac51", func := "linotype/linotypelaw09.GcbTable", spec := "gcbTable", unfollowed := true, recurses := true, plainKeys := false, apart := false, narrowed := true }
def GcbTableUptoSaid : Prop := gcbTableUptoRow.holds Try.pinned (OpenSpec.upto gcbTableSpec)

/-- 'linotypelaw18.BasewTells', WHERE WHAT IT READS IS OF BULK AT MOST 1048576: true; the input reads as it did. -/
def basewTellsUptoRow : OpenClaim := { program := "ytdfocobcchmjfaa", sum := "fce19ce9866ad2c41bade55b319e06c6c01bccc57194499826426ae0cad5ac51", func := "linotype/linotypelaw18.BasewTells", spec := "basewTells", unfollowed := true, recurses := true, plainKeys := false, apart := false, narrowed := true }
def BasewTellsUptoSaid : Prop := basewTellsUptoRow.holds Try.pinned (OpenSpec.upto basewTellsSpec)

end Rows
end Go.Proofs.Ytdfocobcchmjfaa

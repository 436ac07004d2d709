/-
  No cell of these rows narrows 'for every input' (looked for: loops, veiled, ifaces, maps, wideKeys, modest, calm, conditions, laid).
  DERIVED. THE GIVEN ROWS OF THIS SEAT. 3 by the template 'for every input the law returns true; each argument reads behind the call as it read before'; 0 by the template 'total and deterministic' (their statements: YtcbfmokafmagpaaGreatTotals.lean).
  GIVEN WITH THE SEED: the statements are not yours to turn. If you find one false, say at which input.
  Laid BY PROGRAM, IN A SANDBOX (cutbox-rows.mjs): the forced cells as the released guide's own fill.sh prints them over the translation 910ba70b0adc97e8… (all of the seat's roots in one cut). By AI agents, Wed Nov 11 2026. No macro, syntax, notation, axiom, sorry.
-/
import Derived.Test.YtcbfmokafmagpaaGreatChecked
import GoSem.Claim
import GoSem.ClaimJoined
import GoSem.ClaimMapViews
import Derived.JoinedTies
import Derived.KernelRfl
namespace Go.Proofs.YtcbfmokafmagpaaGreat
/- THE CELL 'sum', in the pinned program and in every row, IS THE sha256 OF THE DUMP (.gsa) THAT YtcbfmokafmagpaaGreatProg.lean LOADS. Nothing in Lean hashes anything: it is a label: what it is worth is what the hold of that sum in a sandbox is worth. -/
noncomputable def Tryz.pinned : Pinned := { name := "ytcbfmokafmagpaagreat", sum := "910ba70b0adc97e81961673727005b40834e202cc14e0b397e3f685f29872e95", checked := Tryz.checked }
namespace Rows
def none {H : Type} : Left H := { results := [], args := [] }

/-- 'linotypelaw58.JustifyFits': WHATEVER THE INPUT: true; the input reads as it did. -/
def justifyFitsSpec : ChangeSpec := { name := "justifyFits", fn := fun _ => fun
  | [d1, d2, d3] => { results := [.lit (.bool true)], args := [d1, d2, d3] }
  | _ => none }
def justifyFitsRow : OpenClaim := { program := "ytcbfmokafmagpaagreat", sum := "910ba70b0adc97e81961673727005b40834e202cc14e0b397e3f685f29872e95", func := "linotype/linotypelaw58.JustifyFits", spec := "justifyFits", unfollowed := true, recurses := true, apart := false }
def JustifyFitsSaid : Prop := justifyFitsRow.holds Tryz.pinned (OpenSpec.ofChange justifyFitsSpec)

/-- ITS FALSE NEIGHBOUR: 'it returns false'. Refute it at one input. -/
def justifyFitsWrong : ChangeSpec := { name := "justifyFits", fn := fun _ => fun
  | [d1, d2, d3] => { results := [.lit (.bool false)], args := [d1, d2, d3] }
  | _ => none }
def JustifyFitsWrongFalsely : Prop := justifyFitsRow.holds Tryz.pinned (OpenSpec.ofChange justifyFitsWrong)

/-- 'linotypelaw60.TableLays': WHATEVER THE INPUT: true; the input reads as it did. -/
def tableLaysSpec : ChangeSpec := { name := "tableLays", fn := fun _ => fun
  | [d1, d2, d3] => { results := [.lit (.bool true)], args := [d1, d2, d3] }
  | _ => none }
def tableLaysRow : OpenClaim := { program := "ytcbfmokafmagpaagreat", sum := "910ba70b0adc97e81961673727005b40834e202cc14e0b397e3f685f29872e95", func := "linotype/linotypelaw60.TableLays", spec := "tableLays", unfollowed := true, recurses := true, apart := false }
def TableLaysSaid : Prop := tableLaysRow.holds Tryz.pinned (OpenSpec.ofChange tableLaysSpec)

/-- ITS FALSE NEIGHBOUR: 'it returns false'. Refute it at one input. -/
def tableLaysWrong : ChangeSpec := { name := "tableLays", fn := fun _ => fun
  | [d1, d2, d3] => { results := [.lit (.bool false)], args := [d1, d2, d3] }
  | _ => none }
def TableLaysWrongFalsely : Prop := tableLaysRow.holds Tryz.pinned (OpenSpec.ofChange tableLaysWrong)

/-- 'linotypelaw57.TabsExpand': WHATEVER THE INPUT: true; the input reads as it did. -/
def tabsExpandSpec : ChangeSpec := { name := "tabsExpand", fn := fun _ => fun
  | [d1, d2, d3] => { results := [.lit (.bool true)], args := [d1, d2, d3] }
  | _ => none }
def tabsExpandRow : OpenClaim := { program := "ytcbfmokafmagpaagreat", sum := "910ba70b0adc97e81961673727005b40834e202cc14e0b397e3f685f29872e95", func := "linotype/linotypelaw57.TabsExpand", spec := "tabsExpand", inPlace := ["slices.overlaps[int]"], unfollowed := true, recurses := true, apart := false }
def TabsExpandSaid : Prop := tabsExpandRow.holds Tryz.pinned (OpenSpec.ofChange tabsExpandSpec)

/-- ITS FALSE NEIGHBOUR: 'it returns false'. Refute it at one input. -/
def tabsExpandWrong : ChangeSpec := { name := "tabsExpand", fn := fun _ => fun
  | [d1, d2, d3] => { results := [.lit (.bool false)], args := [d1, d2, d3] }
  | _ => none }
def TabsExpandWrongFalsely : Prop := tabsExpandRow.holds Tryz.pinned (OpenSpec.ofChange tabsExpandWrong)

/- THE SECOND FORM. 'bulk': how many values and letters a reading holds, each counted each time it is reached (what is shared counts as often as it is met; a slice's spare places count too). A statement '..UptoSaid' is the law's where the arguments, and the package variables that the reading takes, are together of bulk at most 1048576: NARROWER than '..Said'. Prove '..Said' where nothing that the law and all that it calls make is longer than what came in: it says more and counts as full. Else prove '..UptoSaid'. A law counts once. -/
mutual
def uptoBulk {H : Type} : DataW H → Nat
  | .lit (.string bytes) => bytes.length + 1
  | .lit _ => 1
  | .nil => 1
  | .ptr d => uptoBulk d + 1
  | .slice elems spare => uptoBulkAll elems + uptoBulkAll spare + 1
  | .agg parts => uptoBulkAll parts + 1
  | .iface _ d => uptoBulk d + 1
  | .map entries => uptoBulkEntries entries + 1
  | .held _ => 1
def uptoBulkAll {H : Type} : List (DataW H) → Nat
  | [] => 0
  | d :: r => uptoBulk d + uptoBulkAll r
def uptoBulkEntries {H : Type} : List (Lit × DataW H) → Nat
  | [] => 0
  | x :: r => uptoBulkEntry x + uptoBulkEntries r
def uptoBulkEntry {H : Type} : Lit × DataW H → Nat
  | (.string bytes, d) => bytes.length + uptoBulk d + 1
  | (_, d) => uptoBulk d + 1
 end
def uptoSmall : (H : Type) → List (DataW H) → Bool := fun _ ds => decide (uptoBulkAll ds ≤ 1048576)
def OpenSpec.upto (s : _root_.Go.ChangeSpec) : _root_.Go.OpenSpec := { _root_.Go.OpenSpec.ofChange s with cond := some uptoSmall }

/-- 'linotypelaw58.JustifyFits', WHERE WHAT IT READS IS OF BULK AT MOST 1048576: true; the input reads as it did. -/
def justifyFitsUptoRow : OpenClaim := { program := "ytcbfmokafmagpaagreat", sum := "910ba70b0adc97e81961673727005b40834e202cc14e0b397e3f685f29872e95", func := "linotype/linotypelaw58.JustifyFits", spec := "justifyFits", unfollowed := true, recurses := true, apart := false, narrowed := true }
def JustifyFitsUptoSaid : Prop := justifyFitsUptoRow.holds Tryz.pinned (OpenSpec.upto justifyFitsSpec)

/-- 'linotypelaw60.TableLays', WHERE WHAT IT READS IS OF BULK AT MOST 1048576: true; the input reads as it did. -/
def tableLaysUptoRow : OpenClaim := { program := "ytcbfmokafmagpaagreat", sum := "910ba70b0adc97e81961673727005b40834e202cc14e0b397e3f685f29872e95", func := "linotype/linotypelaw60.TableLays", spec := "tableLays", unfollowed := true, recurses := true, apart := false, narrowed := true }
def TableLaysUptoSaid : Prop := tableLaysUptoRow.holds Tryz.pinned (OpenSpec.upto tableLaysSpec)

/-- 'linotypelaw57.TabsExpand', WHERE WHAT IT READS IS OF BULK AT MOST 1048576: true; the input reads as it did. -/
def tabsExpandUptoRow : OpenClaim := { program := "ytcbfmokafmagpaagreat", sum := "910ba70b0adc97e81961673727005b40834e202cc14e0b397e3f685f29872e95", func := "linotype/linotypelaw57.TabsExpand", spec := "tabsExpand", inPlace := ["slices.overlaps[int]"], unfollowed := true, recurses := true, apart := false, narrowed := true }
def TabsExpandUptoSaid : Prop := tabsExpandUptoRow.holds Tryz.pinned (OpenSpec.upto tabsExpandSpec)

end Rows
end Go.Proofs.YtcbfmokafmagpaaGreat

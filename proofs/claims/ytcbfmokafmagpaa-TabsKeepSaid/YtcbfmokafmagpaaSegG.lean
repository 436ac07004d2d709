/-
  Walks of the reference of layer 15: conjunct, picture.
-/
import Derived.Test.YtcbfmokafmagpaaSegP
import Derived.Test.YtcbfmokafmagpaaSegPlain
namespace Go.Proofs.Ytcbfmokafmagpaa.Seg
set_option linter.unusedSimpArgs false
set_option linter.unusedVariables false
open Go.RowKit Mem

end Go.Proofs.Ytcbfmokafmagpaa.Seg

/-
 A PART OF THE PROOF of ClI (texts LivC): the claim itself stands in the last text. No conditions beside those of the given row.
-/
import Derived.Test.YtjefeldkonejcaaGreatLivB
set_option linter.unusedVariables false
set_option linter.unnecessarySimpa false
set_option linter.unusedSimpArgs false
namespace Go.Abs
open Go.Proofs
set_option maxRecDepth 100000
def a61:Ann:={ head:=ptOf [(2,[5,6,7],[])],shut:=true }
def a14:Ann:={ head:=ptOf [],shut:=true }
def a15:Ann:={ head:=ptOf [],shut:=true }
end Go.Abs

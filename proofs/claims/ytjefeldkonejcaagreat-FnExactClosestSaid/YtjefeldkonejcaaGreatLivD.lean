/-
 A PART OF THE PROOF of ClI (texts LivD): the claim itself stands in the last text. No conditions beside those of the given row.
-/
import Derived.Test.YtjefeldkonejcaaGreatLivC
set_option linter.unusedVariables false
set_option linter.unnecessarySimpa false
set_option linter.unusedSimpArgs false
namespace Go.Abs
open Go.Proofs
set_option maxRecDepth 1000000
abbrev tPt:Ty:=.pair (.num 0) (.num 0)
abbrev tSg:Ty:=.pair tPt tPt
abbrev tLab:Ty:=.pair tSg (.int .i64)
abbrev tQI:Ty:=.pair (.int .i64) (.int .i64)
abbrev tV4:Ty:=.pair tQI tQI
instance:DecidableEq (List tPt.den):=inferInstanceAs (DecidableEq (List (Rat × Rat)))
instance:DecidableEq (List tSg.den):=inferInstanceAs (DecidableEq (List ((Rat × Rat) × (Rat × Rat))))
instance:DecidableEq (List tLab.den):=inferInstanceAs (DecidableEq (List (((Rat × Rat) × (Rat × Rat)) × Int)))
instance:DecidableEq (List tV4.den):=inferInstanceAs (DecidableEq (List ((Int × Int) × (Int × Int))))
instance:DecidableEq (List (Ty.list tPt).den):=inferInstanceAs (DecidableEq (List (List (Rat × Rat))))
instance:DecidableEq (List (Ty.list tV4).den):=inferInstanceAs (DecidableEq (List (List ((Int × Int) × (Int × Int)))))
end Go.Abs

/-
  A PART OF THE PROOF of RowI (texts FrB): the claim itself stands in the last text. No conditions beside those of the given row.
-/
import Derived.Test.YteedodijgpinnaaGreatDoorDrwA
set_option linter.unusedVariables false
set_option linter.unnecessarySimpa false
set_option linter.unusedSimpArgs false
/-
  THE LAW OF FRACTIONS, 1: its walk.
-/
namespace Go.Abs
open Go.Proofs
set_option linter.unusedVariables false
set_option maxRecDepth 100000

def pls (p q : Rat) : Rat := p + q
def mns (p q : Rat) : Rat := p - q
def tms (p q : Rat) : Rat := p * q
def dvd (p q : Rat) : Rat := p / q
section
variable {ρ : Type} (K : Bool → Option ρ) (a b c d e f : Int)
def frP5 : Option ρ :=
  bif !opT ok2 tms e f (opN ok2 pls a b c d) (opD ok2 pls a b c d) then K true else
  bif bif false then true else !opT ok2 tms e f a b then K true else
  bif bif false then true else !opT ok2 tms e f c d then K true else
  bif bif false then true else !opT ok2 pls (opN ok2 tms e f a b) (opD ok2 tms e f a b) (opN ok2 tms e f c d) (opD ok2 tms e f c d) then K true else
  K (bif true then bif false then true else opN ok2 tms e f (opN ok2 pls a b c d) (opD ok2 pls a b c d) == opN ok2 pls (opN ok2 tms e f a b) (opD ok2 tms e f a b) (opN ok2 tms e f c d) (opD ok2 tms e f c d) &&
    opD ok2 tms e f (opN ok2 pls a b c d) (opD ok2 pls a b c d) == opD ok2 pls (opN ok2 tms e f a b) (opD ok2 tms e f a b) (opN ok2 tms e f c d) (opD ok2 tms e f c d) else false)
def frP4 : Option ρ := bif !qOkB e f then K true else bif bif false then true else !opT ok2 pls a b c d then K true else frP5 K a b c d e f
def frS (s : Int) : Option ρ := bif qcmV a b c d != s then K false else bif bif false then true else qcmV c d a b != IntKind.i64.wrap (0 - s) then K false else frP4 K a b c d e f
def frP3 : Option ρ := bif opT ok2 mns a b c d then
    (bif decide (0 < opN ok2 mns a b c d) then (bif decide (opN ok2 mns a b c d < 0) then frS K a b c d e f (-1) else frS K a b c d e f 1) else
      (bif decide (opN ok2 mns a b c d < 0) then frS K a b c d e f (-1) else frS K a b c d e f 0)) else frP4 K a b c d e f
def frP2 : Option ρ := bif opT ok2 tms a b c d then
    (bif bif true then c != 0 else false then
      (bif !opT ok2z dvd (opN ok2 tms a b c d) (opD ok2 tms a b c d) c d then K false else
       bif bif false then true else !(opN ok2z dvd (opN ok2 tms a b c d) (opD ok2 tms a b c d) c d == a && opD ok2z dvd (opN ok2 tms a b c d) (opD ok2 tms a b c d) c d == b) then K false else frP3 K a b c d e f)
     else frP3 K a b c d e f) else frP3 K a b c d e f
def frP1 : Option ρ := bif opT ok2 pls a b c d then
    (bif !qOkB (opN ok2 pls a b c d) (opD ok2 pls a b c d) then K false else
     bif bif false then true else !opT ok2 mns (opN ok2 pls a b c d) (opD ok2 pls a b c d) c d then K false else
     bif bif false then true else !(opN ok2 mns (opN ok2 pls a b c d) (opD ok2 pls a b c d) c d == a && opD ok2 mns (opN ok2 pls a b c d) (opD ok2 pls a b c d) c d == b) then K false else frP2 K a b c d e f)
    else frP2 K a b c d e f
def frBad : Option ρ := bif bif true then !opT ok2 pls a b c d else false then
    (bif bif true then opN ok2 pls a b c d == 0 && opD ok2 pls a b c d == 0 else false then K (bif true then qcmV a b c d == 2 else false) else K false) else K false
def frAll : Option ρ := bif !qOkB a b then frBad K a b c d else bif bif false then true else !qOkB c d then frBad K a b c d else frP1 K a b c d e f
end
noncomputable def frLaw : Env := VL tryT [] [(10, cR rE Ash 5 Tryz.f10), (11, twoO twoF), (12, twoO twoF), (13, qOkO), (18, qOkO), (14, opO ok2 pls), (17, opO ok2 mns), (19, opO ok2 tms), (20, opO ok2z dvd), (16, qcmO), (15, livesO)]
theorem frLaw_ok : EnvOK NN Tryz.prog frLaw := lawE_ok
theorem frr3 {ρ : Type} (cont : SV → HL → Option ρ) (xs ys : List Int) : runF frLaw Ash 20 Tryz.f3 (bodyOf Tryz.f3) ρ [one (.sl none (.int .u8) xs), one (.sl none (.int .u8) ys)] [] cont =
    bif decide (1048576 < (xs.length : Int)) then cont (one (.bool true)) [] else bif bif false then true else decide (1048576 < (ys.length : Int)) then cont (one (.bool true)) [] else
    if rdOkB xs 0 = true then (if rdOkB ys 0 = true then frAll (fun o => cont (one (.bool o)) []) (twoF xs).a (twoF xs).b (twoF xs).c (twoF xs).d (twoF ys).a (twoF ys).b else none) else none := by kernel_rfl
end Go.Abs

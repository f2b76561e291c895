/-
  A PART OF THE PROOF of AbI (texts LivD): the claim itself stands in the last text. No conditions beside those of the given row.
-/
import Derived.Test.YtjefeldkonejcaaGreatDoorLivC
set_option linter.unusedVariables false
set_option linter.unnecessarySimpa false
set_option linter.unusedSimpArgs false
namespace Go.Abs
open Go.Proofs
set_option maxRecDepth 1000000
abbrev tPt : Ty := .pair (.num 0) (.num 0)
abbrev tSg : Ty := .pair tPt tPt
abbrev tLab : Ty := .pair tSg (.int .i64)
abbrev tQI : Ty := .pair (.int .i64) (.int .i64)
abbrev tV4 : Ty := .pair tQI tQI
instance : DecidableEq (List tPt.den) := inferInstanceAs (DecidableEq (List (Rat × Rat)))
instance : DecidableEq (List tSg.den) := inferInstanceAs (DecidableEq (List ((Rat × Rat) × (Rat × Rat))))
instance : DecidableEq (List tLab.den) := inferInstanceAs (DecidableEq (List (((Rat × Rat) × (Rat × Rat)) × Int)))
instance : DecidableEq (List tV4.den) := inferInstanceAs (DecidableEq (List ((Int × Int) × (Int × Int))))
instance : DecidableEq (List (Ty.list tPt).den) := inferInstanceAs (DecidableEq (List (List (Rat × Rat))))
instance : DecidableEq (List (Ty.list tV4).den) := inferInstanceAs (DecidableEq (List (List ((Int × Int) × (Int × Int)))))
def sqV : List tV4.den := [((0, 1), (0, 1)), ((2, 1), (0, 1)), ((2, 1), (2, 1)), ((0, 1), (2, 1))]
def sqP : List tPt.den := [(0, 0), (2, 0), (2, 2), (0, 2)]
def sqL : List tLab.den := [(((0, 0), (2, 0)), 0), (((2, 0), (2, 2)), 0), (((2, 2), (0, 2)), 0), (((0, 2), (0, 0)), 0)]
def sqS : List tSg.den := [((0, 0), (2, 0)), ((2, 0), (2, 2)), ((2, 2), (0, 2)), ((0, 2), (0, 0))]
def shdL : List tSg.den := [((0, 0), (2, 0)), ((2, 0), (2, 2)), ((0, 2), (2, 2)), ((0, 0), (0, 2))]
abbrev sf (T : Ty) (xs : List T.den) : Atom := .sl (some false) T xs
def at1 (g : Bool) (T : Ty) [DecidableEq (List T.den)] (L : List T.den) (res : SV) : Orc := fun ρ args H cont => match args, H with
  | [.v g' [.sl (some false) t xs]], [] => if h : t = T then (if g' = g /\ (castDen (congrArg Ty.list h) xs : List T.den) = L then cont res [] else none) else none
  | _, _ => none
theorem at1_ok {P : Program} {n : Nat} {F : Orc} {g : Bool} {T : Ty} [DecidableEq (List T.den)] {L : List T.den} {res : SV} (hF : OrcOK NN P n F)
    (h : ∀ ρ (cont : SV -> HL -> Option ρ), F ρ [.v g [sf T L]] [] cont = cont res []) : OrcOK NN P n (at1 g T L res) :=
  OrcOK.of_tale hF fun ρ args H cont r hr => by
    unfold at1 at hr; split at hr
    · split at hr
      · rename_i hT; subst hT; split at hr
        · rename_i hc; obtain ⟨rfl, hx⟩ := hc; have hx' : _ = L := hx; subst hx'; exact (h ρ cont).trans hr
        · contradiction
      · contradiction
    · contradiction
def at2 (T : Ty) [DecidableEq (List T.den)] (L : List T.den) (n : Int) (res : SV) : Orc := fun ρ args H cont => match args, H with
  | [.v false [.sl (some false) t xs], .v false [.int .i64 m]], [] => if h : t = T then (if m = n /\ (castDen (congrArg Ty.list h) xs : List T.den) = L then cont res [] else none) else none
  | _, _ => none
theorem at2_ok {P : Program} {k : Nat} {F : Orc} {n : Int} {T : Ty} [DecidableEq (List T.den)] {L : List T.den} {res : SV} (hF : OrcOK NN P k F)
    (h : ∀ ρ (cont : SV -> HL -> Option ρ), F ρ [one (sf T L), one (.int .i64 n)] [] cont = cont res []) : OrcOK NN P k (at2 T L n res) :=
  OrcOK.of_tale hF fun ρ args H cont r hr => by
    unfold at2 at hr; split at hr
    · split at hr
      · rename_i hT; subst hT; split at hr
        · rename_i hc; obtain ⟨rfl, hx⟩ := hc; have hx' : _ = L := hx; subst hx'; exact (h ρ cont).trans hr
        · contradiction
      · contradiction
    · contradiction
def at3 (T : Ty) [DecidableEq (List T.den)] (L : List T.den) (n : Int) (f : Nat) (res : SV) : Orc := fun ρ args H cont => match args, H with
  | [.v false [.sl (some false) t xs], .v false [.int .i64 m], .v false [.fn f' []]], [] => if h : t = T then (if (m = n /\ f' = f) /\ (castDen (congrArg Ty.list h) xs : List T.den) = L then cont res [] else none) else none
  | _, _ => none
theorem at3_ok {P : Program} {k f : Nat} {F : Orc} {n : Int} {T : Ty} [DecidableEq (List T.den)] {L : List T.den} {res : SV} (hF : OrcOK NN P k F)
    (h : ∀ ρ (cont : SV -> HL -> Option ρ), F ρ [one (sf T L), one (.int .i64 n), one (.fn f [])] [] cont = cont res []) : OrcOK NN P k (at3 T L n f res) :=
  OrcOK.of_tale hF fun ρ args H cont r hr => by
    unfold at3 at hr; split at hr
    · split at hr
      · rename_i hT; subst hT; split at hr
        · rename_i hc; obtain ⟨⟨rfl, rfl⟩, hx⟩ := hc; have hx' : _ = L := hx; subst hx'; exact (h ρ cont).trans hr
        · contradiction
      · contradiction
    · contradiction
theorem r240 (ρ : Type) (cont : SV -> HL -> Option ρ) : q240 ρ [one (sf tLab sqL)] [] cont = cont (one (sf tSg shdL)) [] := by kernel_rfl
theorem p240_ok : OrcOK NN Tryz.prog 143 (at1 false tLab sqL (one (sf tSg shdL))) := at1_ok q240_ok r240
def sgS (a b c d : Rat) : SV := .v true [.num 0 (some a), .num 0 (some b), .num 0 (some c), .num 0 (some d)]
def bB (x : Bool) : Blk := .arr 4 .bool ([x] : List Bool) false false
theorem r241a (ρ : Type) (cont : SV -> HL -> Option ρ) (x y : Bool) : q241 ρ [sgS 0 0 2 0, one (sf tLab sqL), one (.int .i64 1), one (.wsl 0 1), one (.wsl 1 1)] [bB x, bB y] cont = cont (.tup []) [bB false, bB true] := by kernel_rfl
theorem r241b (ρ : Type) (cont : SV -> HL -> Option ρ) (x y : Bool) : q241 ρ [sgS 2 0 2 2, one (sf tLab sqL), one (.int .i64 1), one (.wsl 0 1), one (.wsl 1 1)] [bB x, bB y] cont = cont (.tup []) [bB true, bB true] := by kernel_rfl
theorem r241c (ρ : Type) (cont : SV -> HL -> Option ρ) (x y : Bool) : q241 ρ [sgS 0 2 2 2, one (sf tLab sqL), one (.int .i64 1), one (.wsl 0 1), one (.wsl 1 1)] [bB x, bB y] cont = cont (.tup []) [bB true, bB true] := by kernel_rfl
theorem r241d (ρ : Type) (cont : SV -> HL -> Option ρ) (x y : Bool) : q241 ρ [sgS 0 0 0 2, one (sf tLab sqL), one (.int .i64 1), one (.wsl 0 1), one (.wsl 1 1)] [bB x, bB y] cont = cont (.tup []) [bB false, bB true] := by kernel_rfl
end Go.Abs

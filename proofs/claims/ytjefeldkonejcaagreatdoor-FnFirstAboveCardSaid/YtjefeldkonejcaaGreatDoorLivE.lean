/-
  A PART OF THE PROOF of AbI (texts LivE): the claim itself stands in the last text. No conditions beside those of the given row.
-/
import Derived.Test.YtjefeldkonejcaaGreatDoorLivD
set_option linter.unusedVariables false
set_option linter.unnecessarySimpa false
set_option linter.unusedSimpArgs false
namespace Go.Abs
open Go.Proofs
set_option maxRecDepth 1000000
def p241 : Orc := fun ρ args H cont => match args, H with
  | [.v true [.num 0 (some a), .num 0 (some b), .num 0 (some c), .num 0 (some d)], .v false [.sl (some false) t xs], .v false [.int .i64 1], .v false [.wsl 0 1], .v false [.wsl 1 1]],
    [.arr 4 .bool [x] false false, .arr 4 .bool [y] false false] =>
    if h : t = tLab then (if (castDen (congrArg Ty.list h) xs : List tLab.den) = sqL then
      (if (a = 0 /\ b = 0) /\ c = 2 /\ d = 0 then cont (.tup []) [bB false, bB true] else if (a = 2 /\ b = 0) /\ c = 2 /\ d = 2 then cont (.tup []) [bB true, bB true] else
       if (a = 0 /\ b = 2) /\ c = 2 /\ d = 2 then cont (.tup []) [bB true, bB true] else if (a = 0 /\ b = 0) /\ c = 0 /\ d = 2 then cont (.tup []) [bB false, bB true] else none) else none) else none
  | _, _ => none
theorem p241_ok : OrcOK NN Tryz.prog 144 p241 :=
  OrcOK.of_tale q241_ok fun ρ args H cont r hr => by
    unfold p241 at hr; split at hr
    · split at hr
      · rename_i hT; subst hT; split at hr
        · rename_i hx; have hx' : _ = sqL := hx; subst hx'; split at hr
          · rename_i hc; obtain ⟨⟨rfl, rfl⟩, rfl, rfl⟩ := hc; exact (r241a ρ cont _ _).trans hr
          · split at hr
            · rename_i hc; obtain ⟨⟨rfl, rfl⟩, rfl, rfl⟩ := hc; exact (r241b ρ cont _ _).trans hr
            · split at hr
              · rename_i hc; obtain ⟨⟨rfl, rfl⟩, rfl, rfl⟩ := hc; exact (r241c ρ cont _ _).trans hr
              · split at hr
                · rename_i hc; obtain ⟨⟨rfl, rfl⟩, rfl, rfl⟩ := hc; exact (r241d ρ cont _ _).trans hr
                · contradiction
        · contradiction
      · contradiction
    · contradiction
noncomputable def f159 : Env := VL tryT [] [(143, at1 false tLab sqL (one (sf tSg shdL))), (144, p241), (104, q242), (80, q162)]
theorem f159_ok : EnvOK NN Tryz.prog f159 := VL_ok (TabOk.of tryT_ok) (gamC p240_ok Tryz.call143 (gamC p241_ok Tryz.call144 (gamC q242_ok Tryz.call104 (gamC q162_ok Tryz.call80 (gamN _ _)))))
theorem r159 (ρ : Type) (cont : SV -> HL -> Option ρ) : cR f159 a159 20 Tryz.f77 ρ [one (sf tLab sqL), one (.int .i64 1), one (.fn 80 [])] [] cont = cont (one (sf tSg sqS)) [] := by kernel_rfl
theorem p159_ok : OrcOK NN Tryz.prog 77 (at3 tLab sqL 1 80 (one (sf tSg sqS))) := at3_ok (cR_ok f159_ok rfl Tryz.func77 (by kernel_rfl)) r159
theorem r235 (ρ : Type) (cont : SV -> HL -> Option ρ) : q235 ρ [one (sf tSg sqS)] [] cont = cont (one (sf (.list tPt) [sqP])) [] := by kernel_rfl
theorem p235_ok : OrcOK NN Tryz.prog 138 (at1 false tSg sqS (one (sf (.list tPt) [sqP]))) := at1_ok q235_ok r235
def at1b (T : Ty) [DecidableEq (List T.den)] (L : List T.den) (res : SV) : Orc := fun ρ args H cont => match args, H with
  | [.v false [.sl b t xs]], [] => if h : t = T then (if (castDen (congrArg Ty.list h) xs : List T.den) = L then cont res [] else none) else none
  | _, _ => none
theorem at1b_ok {P : Program} {n : Nat} {F : Orc} {T : Ty} [DecidableEq (List T.den)] {L : List T.den} {res : SV} (hF : OrcOK NN P n F)
    (h : ∀ ρ (cont : SV -> HL -> Option ρ) b, F ρ [one (.sl b T L)] [] cont = cont res []) : OrcOK NN P n (at1b T L res) :=
  OrcOK.of_tale hF fun ρ args H cont r hr => by
    unfold at1b at hr; split at hr
    · split at hr
      · rename_i hT; subst hT; split at hr
        · rename_i hx; have hx' : _ = L := hx; subst hx'; exact (h ρ cont _).trans hr
        · contradiction
      · contradiction
    · contradiction
theorem r236 (ρ : Type) (cont : SV -> HL -> Option ρ) (b : Option Bool) : q236 ρ [one (.sl b tPt sqP)] [] cont = cont (one (sf tPt sqP)) [] := by kernel_rfl
theorem p236_ok : OrcOK NN Tryz.prog 139 (at1b tPt sqP (one (sf tPt sqP))) := at1b_ok q236_ok r236
noncomputable def f158 : Env := VL tryT [] [(138, at1 false tSg sqS (one (sf (.list tPt) [sqP]))), (139, at1b tPt sqP (one (sf tPt sqP))), (140, q237)]
theorem f158_ok : EnvOK NN Tryz.prog f158 := VL_ok (TabOk.of tryT_ok) (gamC p235_ok Tryz.call138 (gamC p236_ok Tryz.call139 (gamC q237_ok Tryz.call140 (gamN _ _))))
theorem r158 (ρ : Type) (cont : SV -> HL -> Option ρ) : cR f158 a158 20 Tryz.f76 ρ [one (sf tSg sqS)] [] cont = cont (one (sf (.list tPt) [sqP])) [] := by kernel_rfl
theorem p158_ok : OrcOK NN Tryz.prog 76 (at1 false tSg sqS (one (sf (.list tPt) [sqP]))) := at1_ok (cR_ok f158_ok rfl Tryz.func76 (by kernel_rfl)) r158
def regT : SV := .tup [(true, [sf (.list tV4) [sqV]]), (false, [.bool true])]
theorem r157 (ρ : Type) (cont : SV -> HL -> Option ρ) : q157 ρ [one (sf (.list tPt) [sqP]), one (.int .i64 100)] [] cont = cont regT [] := by kernel_rfl
theorem p157_ok : OrcOK NN Tryz.prog 75 (at2 (.list tPt) [sqP] 100 regT) := at2_ok q157_ok r157
theorem r160 (ρ : Type) (cont : SV -> HL -> Option ρ) : q160 ρ [one (sf (.list tPt) [sqP]), one (.int .i64 0)] [] cont = cont (one (sf tLab sqL)) [] := by kernel_rfl
theorem p160_ok : OrcOK NN Tryz.prog 78 (at2 (.list tPt) [sqP] 0 (one (sf tLab sqL))) := at2_ok q160_ok r160
theorem r161 (ρ : Type) (cont : SV -> HL -> Option ρ) : q161 ρ [.v true [sf (.list tV4) [sqV]]] [] cont = cont (one (sf (.list tPt) [sqP])) [] := by kernel_rfl
theorem p161_ok : OrcOK NN Tryz.prog 79 (at1 true (.list tV4) [sqV] (one (sf (.list tPt) [sqP]))) := at1_ok q161_ok r161
noncomputable def f65 : Env := VL tryT [] [(74, q156), (79, at1 true (.list tV4) [sqV] (one (sf (.list tPt) [sqP]))), (78, at2 (.list tPt) [sqP] 0 (one (sf tLab sqL))), (77, at3 tLab sqL 1 80 (one (sf tSg sqS))), (76, at1 false tSg sqS (one (sf (.list tPt) [sqP]))), (75, at2 (.list tPt) [sqP] 100 regT)]
theorem f65_ok : EnvOK NN Tryz.prog f65 := VL_ok (TabOk.of tryT_ok) (gamC q156_ok Tryz.call74 (gamC p161_ok Tryz.call79 (gamC p160_ok Tryz.call78 (gamC p159_ok Tryz.call77 (gamC p158_ok Tryz.call76 (gamC p157_ok Tryz.call75 (gamN _ _)))))))
theorem r65 (ρ : Type) (cont : SV -> HL -> Option ρ) : cR f65 a65 20 Tryz.f26 ρ [one (sf (.list tV4) [sqV])] [] cont = cont regT [] := by kernel_rfl
theorem p65_ok : OrcOK NN Tryz.prog 26 (at1 false (.list tV4) [sqV] regT) := at1_ok (cR_ok f65_ok rfl Tryz.func26 (by kernel_rfl)) r65
noncomputable def f163 : Env := VL tryT [] [(26, at1 false (.list tV4) [sqV] regT), (146, q244)]
theorem f163_ok : EnvOK NN Tryz.prog f163 := VL_ok (TabOk.of tryT_ok) (gamC p65_ok Tryz.call26 (gamC q244_ok Tryz.call146 (gamN _ _)))
theorem r163 (ρ : Type) (cont : SV -> HL -> Option ρ) : cR f163 a163 20 Tryz.f81 ρ [.v true [sf (.list tV4) [sqV]]] [] cont = cont (one (.bool true)) [] := by kernel_rfl
theorem p163_ok : OrcOK NN Tryz.prog 81 (at1 true (.list tV4) [sqV] (one (.bool true))) := at1_ok (cR_ok f163_ok rfl Tryz.func81 (by kernel_rfl)) r163
noncomputable def f67 : Env := VL tryT [] [(81, at1 true (.list tV4) [sqV] (one (.bool true))), (79, at1 true (.list tV4) [sqV] (one (sf (.list tPt) [sqP]))), (82, q164), (39, rat1 (fun _ => true) tupQ)]
theorem f67_ok : EnvOK NN Tryz.prog f67 := VL_ok (TabOk.of tryT_ok) (gamC p163_ok Tryz.call81 (gamC p161_ok Tryz.call79 (gamC q164_ok Tryz.call82 (gamC orc41 Tryz.call39 (gamN _ _)))))
theorem r67 (ρ : Type) (cont : SV -> HL -> Option ρ) : cR f67 a67 20 Tryz.f28 ρ [.v true [sf (.list tV4) [sqV]]] [] cont = cont (tupB 8 1 true) [] := by kernel_rfl
theorem p67_ok : OrcOK NN Tryz.prog 28 (at1 true (.list tV4) [sqV] (tupB 8 1 true)) := at1_ok (cR_ok f67_ok rfl Tryz.func28 (by kernel_rfl)) r67
noncomputable def f15 : Env := { VL tryT [] [(25, q14), (27, q66), (26, at1 false (.list tV4) [sqV] regT), (28, at1 true (.list tV4) [sqV] (tupB 8 1 true)), (29, q68)] with M := fun f => bif Nat.beq f 26 then [(0, .list (.list tV4))] else [] }
theorem f15_ok : EnvOK NN Tryz.prog f15 := { T := TabOk.of tryT_ok, E := eqT_ok, Γ := gamC q14_ok Tryz.call25 (gamC q66_ok Tryz.call27 (gamC p65_ok Tryz.call26 (gamC p67_ok Tryz.call28 (gamC q68_ok Tryz.call29 (gamN _ _))))), X := xopL_ok (TabOk.of tryT_ok) (xtT_ok []) }
theorem r15 (ρ : Type) (cont : SV -> HL -> Option ρ) : cR f15 a15 20 Tryz.f9 ρ [] [] cont = cont (one (.bool true)) [] := by kernel_rfl
def livesO : Orc := fun ρ args H cont => match args, H with
  | [], [] => cont (one (.bool true)) []
  | _, _ => none
theorem lives_ok : OrcOK NN Tryz.prog 9 livesO :=
  OrcOK.of_tale (cR_ok f15_ok rfl Tryz.func9 (by kernel_rfl) : OrcOK NN Tryz.prog 9 (cR f15 a15 20 Tryz.f9)) fun ρ args H cont r hr => by
    unfold livesO at hr; split at hr
    · exact (r15 ρ cont).trans hr
    · contradiction
end Go.Abs

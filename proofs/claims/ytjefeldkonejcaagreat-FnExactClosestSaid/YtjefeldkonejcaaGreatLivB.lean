/-
 A PART OF THE PROOF of ClI (texts LivB): the claim itself stands in the last text. No conditions beside those of the given row.
-/
import Derived.Test.YtjefeldkonejcaaGreatSpcK
set_option linter.unusedVariables false
set_option linter.unnecessarySimpa false
set_option linter.unusedSimpArgs false
namespace Go.Abs
open Go.Proofs
set_option maxRecDepth 100000
noncomputable def cR(V:Env) (A:Ann) (fuel:Nat) (fn:Func):Orc:=runF V A fuel fn (bodyOf fn)
theorem cR_ok{V:Env} (hV:EnvOK NN Tryz.prog V) {A:Ann} {fuel f:Nat} {fn:Func} (hA:A.sum=fun _=>none) (hf:Tryz.prog.funcs[f]? = some fn) (hb:fn.body=some (bodyOf fn)):OrcOK NN Tryz.prog f (cR V A fuel fn):=
 runF_ok hV mixT hf hb fun l _ S h=>by rw[hA]at h;cases h
def xBuildR(ev:Operand->SV) (op:Op):Option Eff:=
 match op with
 | .build 79 ps=>opBuild tranT 79 (ps.toList.map fun p=>(p.1,ev p.2)) fun s=>(match s with
  | .v true [.int .i64 n,.int .i64 d,.nilp]=>if smallQ (Rat.divInt n d)/\(Rat.divInt n d).num=n/\(((Rat.divInt n d).den:Nat):Int)=d then some { val:=nm 0 (Rat.divInt n d) } else none
  | _=>none)
 | _=>none
theorem OpOK.weak{P:Program} {H:Hp} {nid:Nat} {ev:Operand->SV} {o:Oper} {s s':SV} (h:OpOK NN P H nid ev o { val:=s }) (hs:∀ {G:Ghost} {κ:Kap} {v:Value},svR NN G κ s v->svR NN G κ s' v):OpOK NN P H nid ev o { val:=s' }:=by
 intro G κ hf w a next Q h1 h2 h3 h4 h5 h6 hn;exact h h1 h2 h3 h4 h5 h6 fun v G' κ' w' t1 t2 t3 t4=>hn v G' κ' w' t1 t2 (hs t3) t4
theorem xBuildR_ok{H:HL} {nid:Nat} {ev:Operand->SV} {o:Oper} {e:Eff} (h:xBuildR ev o.op=some e):OpOK NN Tryz.prog (hmap H) nid ev o e:=by
 unfold xBuildR at h;split at h
 ·rename_i ps ho;obtain⟨s,hs,hok⟩:=opBuild_ok (N:=NN) (P:=Tryz.prog) (nid:=nid) (TabOk.of tranT_ok) ho h;split at hs
  ·rename_i n d;split at hs
   ·rename_i hc;simp only [Option.some.injEq]at hs;subst hs;refine OpOK.weak hok fun{G κ v} hv=>nm_out ?_
    unfold ratT;rw[if_pos hc.1];unfold ratS;rw[hc.2.1,hc.2.2];exact hv
   ·contradiction
  ·contradiction
 ·contradiction
def xopL(T:Tab) (X:XT) (H:HL) (nid:Nat) (ev:Operand->SV) (op:Op):Option Eff:=
 match xBuildR ev op with
 | some e=>some e
 | none=>xop T X H nid ev op
theorem xopL_ok{T:Tab} (hT:TabOk Tryz.prog T) {X:XT} (hX:XTOK Tryz.prog X):XOK NN Tryz.prog (xopL T X):=by
 intro H nid ev o e h;unfold xopL at h;split at h
 ·rename_i e' he;simp only [Option.some.injEq]at h;subst h;exact fun{G κ hf w a next Q}=>xBuildR_ok he
 ·exact fun{G κ hf w a next Q}=>xop_ok hT hX h
end Go.Abs

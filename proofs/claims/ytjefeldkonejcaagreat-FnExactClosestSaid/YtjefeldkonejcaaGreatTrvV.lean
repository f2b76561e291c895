/-
 A PART OF THE PROOF of ClI (texts TrvV): the claim itself stands in the last text. No conditions beside those of the given row.
-/
import Derived.Test.YtjefeldkonejcaaGreatTrvM
set_option linter.unusedVariables false
set_option linter.unnecessarySimpa false
set_option linter.unusedSimpArgs false
namespace Go.Abs
open Go.Proofs
set_option maxRecDepth 100000
set_option maxHeartbeats 1000000
noncomputable def tnE:Env:=VZ [(32,q428)]
theorem tnE_ok:EnvOK NN Tryz.prog tnE:=VZ_ok (gamC q428_ok Tryz.call32 (gamN _ _))
def A391:Ann:={ head:=ptOf [(3,[0,3,4],[])],out:=ptOf [(3,[3],[])],res:=[(0,.list tNd)] }
def ndz0:Nd:=((((0,0),(0,0),(0,0)),((0,0),(0,0),(0,0))),0,0,0)
def σ391(t:List Nd) (i:Int) (o:List Nd):St:=⟨[(0,one (.sl none tNd t)),(3,one (.wsl 0 15)),(4,one (.int .i64 i))],[.arr 72 tNd o false true]⟩
def σ391o(o:List Nd):St:=⟨[(3,one (.wsl 0 15))],[.arr 72 tNd o false true]⟩
theorem turn391{ρ:Type} (K:Exit->St->Option ρ) (go:St->Option ρ) (t:List Nd) (i:Int) (o:List Nd):turnF tnE A391 23 0 0 (loopAt Tryz.f9 0) K go (σ391 t i o) =
  bif decide (i<(t.length:Int))then ldT t i (fun d=>if 0<=i/\i<(o.length:Int)then o[0+i.toNat]?.bind (fun _=>go (σ391 t (IntKind.i64.wrap (i+1)) (o.set (0+i.toNat) d)))else none)else K (.exit 0) (σ391o o):=by kernel_rfl
theorem fold_set:∀ (xs:List Nd) (i:Nat) (o:List Nd),o.length=i+xs.length->foldI (fun i d o=>o.set i d) xs i o=o.take i++xs
 | [],i,o,h=>by
  rw[List.append_nil,List.take_of_length_le (by rw[h];simp)];rfl
 | x :: r,i,o,h=>by
  unfold foldI;rw[fold_set r (i+1) _ (by rw[List.length_set,h,List.length_cons];omega)];have hi:i<o.length:=by rw[h,List.length_cons];omega
  rw[List.take_succ_eq_append_getElem (by rw[List.length_set];exact hi),List.getElem_set_self,List.take_set_of_le (Nat.le_refl i),List.append_assoc];rfl
theorem loop391{ρ:Type} (K:Exit->St->Option ρ) {t o:List Nd} (ho:o.length=t.length) (hl:t.length<4611686018427387904) :
  itF (turnF tnE A391 23 0 0 (loopAt Tryz.f9 0) K) (fun _=>none) (t.length+1) (σ391 t 0 o)=K (.exit 0) (σ391o t):=by
 have key:=itF_fold (T:=turnF tnE A391 23 0 0 (loopAt Tryz.f9 0) K) (xs:=t) (s:=fun i o=>σ391 t i o) (stp:=fun i d o=>o.set i d) (fin:=fun o=>K (.exit 0) (σ391o o)) (I:=fun o'=>o'.length=t.length)
  (fun go st hI=>by rw[turn391,lst_out])
  (fun go i hi st hI=>by
   refine⟨?_,by rw[List.length_set];exact hI⟩;rw[turn391,decide_eq_true (by omega),cond_true,ldT_at hi,if_pos ⟨by omega,by omega⟩,Int.toNat_natCast,Nat.zero_add,List.getElem?_eq_getElem (by omega),Option.bind_some,lst_wrap hl hi])
  t.length 0 o (by omega) ho
 rw[List.drop_zero,fold_set t 0 o (by omega)]at key;exact key.1
noncomputable def S391:Sum:=fun n0 ρ σ K=>match n0,σ with
 | 0,⟨[(0,.v false [.sl none (.pair (.pair (.pair (.pair (.int .i64) (.int .i64)) (.pair (.pair (.int .i64) (.int .i64)) (.pair (.int .i64) (.int .i64)))) (.pair (.pair (.int .i64) (.int .i64)) (.pair (.pair (.int .i64) (.int .i64)) (.pair (.int .i64) (.int .i64))))) (.pair (.int .i64) (.pair (.int .i64) (.int .i64)))) t]),(3,.v false [.wsl 0 15]),(4,.v false [.int .i64 i])],[.arr 72 (.pair (.pair (.pair (.pair (.int .i64) (.int .i64)) (.pair (.pair (.int .i64) (.int .i64)) (.pair (.int .i64) (.int .i64)))) (.pair (.pair (.int .i64) (.int .i64)) (.pair (.pair (.int .i64) (.int .i64)) (.pair (.int .i64) (.int .i64))))) (.pair (.int .i64) (.pair (.int .i64) (.int .i64)))) o false true]⟩ =>
  if i=0/\List.length (α:=Nd) o=List.length (α:=Nd) t/\List.length (α:=Nd) t<=2000000 then K (.exit 0) (σ391o t)else none
 | _,_=>none
theorem sum391:SumOK NN Tryz.prog 23 (loopAt Tryz.f9 0) S391:=
 SumOK.of_turns tnE_ok mixT (A:=A391) (SumsOK.none fun _=>rfl) fun n0 ρ σ K r hr=>by
  unfold S391 at hr;split at hr
  ·rename_i t i o;split at hr
   ·rename_i hc;obtain⟨rfl,h2,h3⟩:=hc;exact⟨_,(loop391 K (t:=t) (o:=o) h2 (by omega)).trans hr⟩
   ·contradiction
  ·contradiction
noncomputable def A391s:Ann:={ A391 with sum:=fun i=>bif Nat.beq i 3 then some S391 else none }
theorem gq391{ρ:Type} (cont:SV->HL->Option ρ) (t:List Nd):runF tnE A391s 0 Tryz.f9 (bodyOf Tryz.f9) ρ [one (.sl none tNd t)] [] cont =
  if(0:Int)<=(t.length:Int)/\(t.length:Int)<=(t.length:Int)/\(t.length:Int)<=70368744177664/\(t.length:Int)*((120:Nat):Int)<=70368744177664 then(if(0:Int)=0/\(List.replicate (t.length:Int).toNat ndz0).length=t.length/\t.length<=2000000 then
   cont (one (.sl (some false) tNd t)) []else none)else none:=by kernel_rfl
noncomputable def tonO:Orc:=fun ρ args H cont=>match args,H with
 | [.v false [.sl none (.pair (.pair (.pair (.pair (.int .i64) (.int .i64)) (.pair (.pair (.int .i64) (.int .i64)) (.pair (.int .i64) (.int .i64)))) (.pair (.pair (.int .i64) (.int .i64)) (.pair (.pair (.int .i64) (.int .i64)) (.pair (.int .i64) (.int .i64))))) (.pair (.int .i64) (.pair (.int .i64) (.int .i64)))) t]],[]=>if List.length (α:=Nd) t<=2000000 then cont (one (.sl none tNd t)) []else none
 | _,_=>none
theorem orc_ton:OrcOK NN Tryz.prog 9 tonO:=
 OrcOK.of_tale (OrcOK.pl (runF_ok tnE_ok mixT (A:=A391s) (fuel:=0) Tryz.func9 (c:=bodyOf Tryz.f9) (by kernel_rfl) (SumsOK.ofL (ls:=[loopAt Tryz.f9 0]) (by kernel_rfl) ⟨sumL1 (by kernel_rfl) sum391,trivial⟩)) tNd) fun ρ args H cont r hr=>by
  unfold tonO at hr;split at hr
  ·rename_i t;split at hr
   ·rename_i hc;refine(gq391 (fun s H'=>cont (plSV tNd s) H') t).trans ?_;rw[if_pos ⟨by omega,by omega,by omega,by omega⟩,if_pos ⟨rfl,by rw[List.length_replicate];omega,hc⟩];exact hr
   ·contradiction
  ·contradiction
noncomputable def qnsE:Env:=VZ [(45,eqdO)]
theorem qnsE_ok:EnvOK NN Tryz.prog qnsE:=VZ_ok (gamC orc_eqd Tryz.call45 (gamN _ _))
def A395:Ann:={ head:=ptOf [(4,[0,1,4,5],[])],out:=ptOf [(4,[4],[])],shut:=true }
def σ395(t u:List Nd) (i:Int):St:=⟨[(0,one (.sl none tNd t)),(1,one (.sl none tNd u)),(4,one (.bool false)),(5,one (.int .i64 i))],[]⟩
def σ395o:St:=⟨[(4,one (.bool false))],[]⟩
theorem turn395{ρ:Type} (K:Exit->St->Option ρ) (go:St->Option ρ) (t u:List Nd) (i:Int):turnF qnsE A395 27 0 0 (loopAt Tryz.f13 0) K go (σ395 t u i) =
  bif decide (i<(t.length:Int))then ldT t i (fun d=>ldT u i fun e=>eqdK d e (go (σ395 t u (IntKind.i64.wrap (i+1)))))else K (.exit 0) σ395o:=by kernel_rfl
theorem loop395{ρ:Type} (K:Exit->St->Option ρ) {t:List Nd} (hl:t.length<4611686018427387904) :
  itF (turnF qnsE A395 27 0 0 (loopAt Tryz.f13 0) K) (fun _=>none) (t.length+1) (σ395 t t 0)=K (.exit 0) σ395o:=by
 have key:=itF_fold (T:=turnF qnsE A395 27 0 0 (loopAt Tryz.f13 0) K) (xs:=t) (s:=fun i (_:Unit)=>σ395 t t i) (stp:=fun i d o=>o) (fin:=fun o=>K (.exit 0) σ395o) (I:=fun _=>True)
  (fun go st hI=>by rw[turn395,decide_eq_false (by omega),cond_false])
  (fun go i hi st hI=>by
   refine⟨?_,trivial⟩;rw[turn395,decide_eq_true (by omega),cond_true,ldT_at hi,ldT_at hi,lst_wrap hl hi];unfold eqdK;rw[if_pos rfl])
  t.length 0 () (by omega) trivial
 exact key.1
def eqlK{ρ:Type} (t u:List Nd) (f:Option ρ):Option ρ:=if t=u/\t.length<=2000000 then f else none
def S395:Sum:=fun n0 ρ σ K=>match n0,σ with
 | 0,⟨[(0,.v false [.sl none (.pair (.pair (.pair (.pair (.int .i64) (.int .i64)) (.pair (.pair (.int .i64) (.int .i64)) (.pair (.int .i64) (.int .i64)))) (.pair (.pair (.int .i64) (.int .i64)) (.pair (.pair (.int .i64) (.int .i64)) (.pair (.int .i64) (.int .i64))))) (.pair (.int .i64) (.pair (.int .i64) (.int .i64)))) t]),(1,.v false [.sl none (.pair (.pair (.pair (.pair (.int .i64) (.int .i64)) (.pair (.pair (.int .i64) (.int .i64)) (.pair (.int .i64) (.int .i64)))) (.pair (.pair (.int .i64) (.int .i64)) (.pair (.pair (.int .i64) (.int .i64)) (.pair (.int .i64) (.int .i64))))) (.pair (.int .i64) (.pair (.int .i64) (.int .i64)))) u]),(4,.v false [.bool false]),(5,.v false [.int .i64 i])],[]⟩=>if i=0 then eqlK t u (K (.exit 0) σ395o)else none
 | _,_=>none
theorem sum395:SumOK NN Tryz.prog 27 (loopAt Tryz.f13 0) S395:=
 SumOK.of_turns qnsE_ok mixT (A:=A395) (SumsOK.none fun _=>rfl) fun n0 ρ σ K r hr=>by
  unfold S395 at hr;split at hr
  ·rename_i t u i;split at hr
   ·rename_i hi;subst hi;unfold eqlK at hr;split at hr
    ·rename_i hc;obtain⟨rfl,h2⟩:=hc;exact⟨_,(loop395 K (t:=t) (by omega)).trans hr⟩
    ·contradiction
   ·contradiction
  ·contradiction
def A395s:Ann:={ A395 with sum:=fun i=>bif Nat.beq i 4 then some S395 else none }
theorem gq395{ρ:Type} (cont:SV->HL->Option ρ) (t u:List Nd):runF qnsE A395s 0 Tryz.f13 (bodyOf Tryz.f13) ρ [one (.sl none tNd t),one (.sl none tNd u)] [] cont =
  bif (t.length:Int) != (u.length:Int)then cont (one (.bool false)) []else if(0:Int)=0 then eqlK t u (cont (one (.bool true)) [])else none:=by kernel_rfl
def eqlO:Orc:=fun ρ args H cont=>match args,H with
 | [.v false [.sl none (.pair (.pair (.pair (.pair (.int .i64) (.int .i64)) (.pair (.pair (.int .i64) (.int .i64)) (.pair (.int .i64) (.int .i64)))) (.pair (.pair (.int .i64) (.int .i64)) (.pair (.pair (.int .i64) (.int .i64)) (.pair (.int .i64) (.int .i64))))) (.pair (.int .i64) (.pair (.int .i64) (.int .i64)))) t],.v false [.sl none (.pair (.pair (.pair (.pair (.int .i64) (.int .i64)) (.pair (.pair (.int .i64) (.int .i64)) (.pair (.int .i64) (.int .i64)))) (.pair (.pair (.int .i64) (.int .i64)) (.pair (.pair (.int .i64) (.int .i64)) (.pair (.int .i64) (.int .i64))))) (.pair (.int .i64) (.pair (.int .i64) (.int .i64)))) u]],[]=>eqlK t u (cont (one (.bool true)) [])
 | _,_=>none
theorem orc_eql:OrcOK NN Tryz.prog 13 eqlO:=
 OrcOK.of_tale (runF_ok qnsE_ok mixT (A:=A395s) (fuel:=0) Tryz.func13 (c:=bodyOf Tryz.f13) (by kernel_rfl) (SumsOK.ofL (ls:=[loopAt Tryz.f13 0]) (by kernel_rfl) ⟨sumL1 (by kernel_rfl) sum395,trivial⟩)) fun ρ args H cont r hr=>by
  unfold eqlO at hr;split at hr
  ·rename_i t u;refine(gq395 cont t u).trans ?_;have h:=hr;unfold eqlK at h;split at h
   ·rename_i hc;obtain⟨rfl,h2⟩:=hc;rw[bne_self_eq_false,cond_false,if_pos rfl];exact hr
   ·contradiction
  ·contradiction
noncomputable def clwE:Env:=VZ [(7,sznO),(9,tonO),(10,q392),(8,clO),(11,clO),(12,q394),(13,eqlO)]
theorem clwE_ok:EnvOK NN Tryz.prog clwE:=VZ_ok (gamC orc_szn Tryz.call7 (gamC orc_ton Tryz.call9 (gamC q392_ok Tryz.call10 (gamC orc_cls Tryz.call8 (gamC orc_cli Tryz.call11 (gamC q394_ok Tryz.call12 (gamC orc_eql Tryz.call13 (gamN _ _))))))))
section
variable {ρ:Type} (cont:SV->HL->Option ρ)
def lkG(t:List Nd) (f:Option ρ):Option ρ:=if t.length<=2000000 then f else none
def lwC(c d:Int × Int × Int × Bool) (k:Option ρ):Option ρ:=nqK cont d.1 c.1 (nqK cont d.2.1 c.2.1 (nqK cont d.2.2.1 c.2.2.1 (bif d.2.2.2 != c.2.2.2 then cont (one (.bool false)) []else k)))
theorem gq372(t:List Nd) (p:V3q):runF clwE Ash 0 Tryz.f3 (bodyOf Tryz.f3) ρ [one (.sl none tNd t),vA p] [] cont =
  bif decide (szF 1048576 (t.length:Int)<0)then cont (one (.bool true)) []else
   lkG t (lkG t (lkG t (lkG t (lwC cont (clI t p) (clI t p) (lkG t (eqlK t t (cont (one (.bool true)) []))))))):=by kernel_rfl
end
theorem szF_big{l:Nat} (h:l<=9223372036854775807) (h2:¬ szF 1048576 (l:Int)<0):l<=2000000:=by
 unfold szF at h2;rw[show IntKind.i64.wrap (1048576-(l:Int))=1048576-(l:Int)from wrap_small (by omega) (by omega)]at h2
 by_cases c:(1048576:Int)-(l:Int)<0
 ·rw[decide_eq_true c,cond_true]at h2;omega
 ·omega
noncomputable def lwO:Orc:=fun ρ args H cont=>match args,H with
 | [.v false [.sl none (.pair (.pair (.pair (.pair (.int .i64) (.int .i64)) (.pair (.pair (.int .i64) (.int .i64)) (.pair (.int .i64) (.int .i64)))) (.pair (.pair (.int .i64) (.int .i64)) (.pair (.pair (.int .i64) (.int .i64)) (.pair (.int .i64) (.int .i64))))) (.pair (.int .i64) (.pair (.int .i64) (.int .i64)))) t],.v true [.int .i64 a,.int .i64 b,.int .i64 c,.int .i64 d,.int .i64 e,.int .i64 f]],[]=>if List.length (α:=Nd) t<=9223372036854775807 then cont (one (.bool true)) []else none
 | _,_=>none
theorem cl_law:OrcOK NN Tryz.prog 3 lwO:=
 OrcOK.of_tale (cR_ok (A:=Ash) (fuel:=0) clwE_ok rfl Tryz.func3 (by kernel_rfl)) fun ρ args H cont r hr=>by
  unfold lwO at hr;split at hr
  ·rename_i t a b c d e f;split at hr
   ·rename_i hc;refine(gq372 cont t ((a,b),(c,d),(e,f))).trans ?_
    by_cases hz:szF 1048576 (List.length (α:=Nd) t:Int)<0
    ·rw[decide_eq_true hz,cond_true];exact hr
    ·have hl:=szF_big hc hz;rw[decide_eq_false hz,cond_false];unfold lkG;rw[if_pos hl,if_pos hl,if_pos hl,if_pos hl];unfold lwC;rw[nqK_eq,nqK_eq,nqK_eq,bne_self_eq_false,cond_false,if_pos hl];unfold eqlK;rw[if_pos ⟨rfl,hl⟩];exact hr
   ·contradiction
  ·contradiction
end Go.Abs

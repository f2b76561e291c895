/-
 A PART OF THE PROOF of ClI (texts TrvM TrvN TrvO TrvP TrvQ TrvR TrvS TrvT TrvU): the claim itself stands in the last text. No conditions beside those of the given row.
-/
import Derived.Test.YtjefeldkonejcaaGreatTrvF
import Derived.Test.YtjefeldkonejcaaGreatTreQ
set_option linter.unusedVariables false
set_option linter.unnecessarySimpa false
set_option linter.unusedSimpArgs false
namespace Go.Abs
open Go.Proofs
set_option maxRecDepth 100000
set_option maxHeartbeats 1000000
def toB1:Ty->Ty
 | .num 1=>.big 1
 | .list t=>.list (toB1 t)
 | .pair a b=>.pair (toB1 a) (toB1 b)
 | .ip t=>.ip (toB1 t)
 | t=>t
def toBA:Atom->Atom
 | .num 1 none=>.big 1 .nil
 | a=>a
def toBE(e:TE):TE:={ e with zero:=e.zero.map toBA,kind:=match e.kind with | .slice el by' ty=>.slice el by' (toB1 ty) | k=>k }
def tr1T:Tab:=tryT.map fun p=>(p.1,toBE p.2)
theorem tr1T_ok:tabOkB Tryz.prog tr1T=true:=by kernel_rfl
def numB(q:Rat):Tw:=.node ((q,0,0),(0,0,0)) .nil .nil 0
abbrev bxB:Ty:=.pair (.pair (.big 1) (.pair (.big 1) (.big 1))) (.pair (.big 1) (.pair (.big 1) (.big 1)))
def brB(b:Br):bxB.den:=((numB b.1.1,numB b.1.2.1,numB b.1.2.2),(numB b.2.1,numB b.2.2.1,numB b.2.2.2))
def bxB0:bxB.den:=((.nil,.nil,.nil),(.nil,.nil,.nil))
def b6(b:Br):SV:=.v true [.big 1 (numB b.1.1),.big 1 (numB b.1.2.1),.big 1 (numB b.1.2.2),.big 1 (numB b.2.1),.big 1 (numB b.2.2.1),.big 1 (numB b.2.2.2)]
theorem num_big{G:Ghost} {κ:Kap} {q:Rat} {cs:List Value} (h:AR NN G κ (.num 1 (some q)) cs):AR NN G κ (.big 1 (numB q)) cs:=h
theorem n6_b6{G:Ghost} {κ:Kap} {b:Br} {v:Value} (h:svR NN G κ (n6 1 b.1.1 b.1.2.1 b.1.2.2 b.2.1 b.2.2.1 b.2.2.2) v):svR NN G κ (b6 b) v:=by
 obtain⟨cs,h1,c1,d1,e1,a1,c2,d2,e2,a2,c3,d3,e3,a3,c4,d4,e4,a4,c5,d5,e5,a5,c6,d6,e6,a6,e7⟩:=h;exact⟨cs,h1,c1,d1,e1,num_big a1,c2,d2,e2,num_big a2,c3,d3,e3,num_big a3,c4,d4,e4,num_big a4,c5,d5,e5,num_big a5,c6,d6,e6,num_big a6,e7⟩
noncomputable def boBO:Orc:=fun ρ args H cont=>match args,H with
 | [.v true [.int .i64 a,.int .i64 b,.int .i64 c,.int .i64 d,.int .i64 e,.int .i64 f,.int .i64 g,.int .i64 h,.int .i64 i,.int .i64 j,.int .i64 l,.int .i64 m]],[]=>if okV3 ((a,b),(c,d),(e,f))=true/\okV3 ((g,h),(i,j),(l,m))=true then cont (b6 (bxV (((a,b),(c,d),(e,f)),((g,h),(i,j),(l,m))))) []else none
 | _,_=>none
theorem orc_boB:OrcOK NN Tryz.prog 51 boBO:=OrcOK.cv orc_boS fun args H cont r hr=>by
  unfold boBO at hr;split at hr
  ·rename_i a b c d e f g h i j l m;split at hr
   ·rename_i hc;refine⟨_,n6 1 (vQ (a,b)) (vQ (c,d)) (vQ (e,f)) (vQ (g,h)) (vQ (i,j)) (vQ (l,m)),fun G κ v hv=>n6_b6 (b:=bxV (((a,b),(c,d),(e,f)),((g,h),(i,j),(l,m)))) hv,rfl,hr,fun ρ' cont'=>?_⟩;show (if okV3 ((a,b),(c,d),(e,f))=true/\okV3 ((g,h),(i,j),(l,m))=true then _ else _)=_;rw[if_pos hc]
   ·contradiction
  ·contradiction
noncomputable def rvE:Env:={ T:=tr1T,E:=[],Γ:=gamL [(51,boBO)] }
theorem rvE_ok:EnvOK NN Tryz.prog rvE:={ T:=TabOk.of tr1T_ok,E:=fun p hp=>(by cases hp),Γ:=gamC orc_boB Tryz.call51 (gamN _ _) }
def A425:Ann:={ head:=ptOf [(3,[0,3,4],[])],out:=ptOf [(3,[3],[])],res:=[(0,.list bxB)] }
def σ425(t:List Nd) (i:Int) (o:List bxB.den):St:=⟨[(0,one (.sl none tNd t)),(3,one (.wsl 0 18)),(4,one (.int .i64 i))],[.arr 66 bxB o false true]⟩
def σ425o(o:List bxB.den):St:=⟨[(3,one (.wsl 0 18))],[.arr 66 bxB o false true]⟩
theorem turn425{ρ:Type} (K:Exit->St->Option ρ) (go:St->Option ρ) (t:List Nd) (i:Int) (o:List bxB.den):turnF rvE A425 36 0 0 (loopAt Tryz.f27 0) K go (σ425 t i o) =
  bif decide (i<(t.length:Int))then ldT t i (fun d=>bif decide (0<=d.2.2.2)then ldT t i (fun d=>ldT t i fun e=>if okV3 e.1.1=true/\okV3 e.1.2=true then(if 0<=d.2.2.2/\d.2.2.2<(o.length:Int)then o[0+Int.toNat d.2.2.2]?.bind (fun _ =>
   go (σ425 t (IntKind.i64.wrap (i+1)) (o.set (0+Int.toNat d.2.2.2) (brB (bxV e.1)))))else none)else none)else go (σ425 t (IntKind.i64.wrap (i+1)) o))
  else K (.exit 0) (σ425o o):=by kernel_rfl
def rvF(d:Nd) (o:List bxB.den):List bxB.den:=if 0<=d.2.2.2 then o.set d.2.2.2.toNat (brB (bxV d.1))else o
def rvG(t:List Nd) (n:Nat):Bool:=t.all fun d=>decide (d.2.2.2<0) || (okV3 d.1.1&&(okV3 d.1.2&&decide (d.2.2.2<(n:Int))))
theorem loop425{ρ:Type} (K:Exit->St->Option ρ) {t:List Nd} {o:List bxB.den} (hg:rvG t o.length=true) (hl:t.length<4611686018427387904) :
  itF (turnF rvE A425 36 0 0 (loopAt Tryz.f27 0) K) (fun _=>none) (t.length+1) (σ425 t 0 o)=K (.exit 0) (σ425o (t.foldl (fun o d=>rvF d o) o)):=by
 have key:=itF_fold (T:=turnF rvE A425 36 0 0 (loopAt Tryz.f27 0) K) (xs:=t) (s:=fun i o=>σ425 t i o) (stp:=fun _ d o=>rvF d o) (fin:=fun o=>K (.exit 0) (σ425o o)) (I:=fun o'=>o'.length=o.length)
  (fun go st hI=>by rw[turn425,lst_out])
  (fun go i hi st hI=>by
   have hd:=List.all_eq_true.1 hg _ (List.getElem_mem hi);refine⟨?_,?_⟩
   ·rw[turn425,decide_eq_true (by omega),cond_true,ldT_at hi,lst_wrap hl hi];unfold rvF
    by_cases c:0<=t[i].2.2.2
    ·rw[decide_eq_false (show ¬ t[i].2.2.2<0 by omega),Bool.false_or,Bool.and_eq_true,Bool.and_eq_true,decide_eq_true_eq]at hd;obtain⟨h1,h2,h3⟩:=hd;rw[decide_eq_true c,cond_true,ldT_at hi,ldT_at hi,if_pos ⟨h1,h2⟩,if_pos ⟨c,by omega⟩,Nat.zero_add,List.getElem?_eq_getElem (by omega),Option.bind_some,if_pos c]
    ·rw[decide_eq_false c,cond_false,if_neg c]
   ·unfold rvF;split
    ·rw[List.length_set];exact hI
    ·exact hI)
  t.length 0 o (by omega) rfl
 rw[List.drop_zero]at key;refine key.1.trans ?_;congr 2;have:∀ (xs:List Nd) (i:Nat) (o:List bxB.den),foldI (fun _ d o=>rvF d o) xs i o=xs.foldl (fun o d=>rvF d o) o:=by
  intro xs
  induction xs with
  | nil=>intro i o;rfl
  | cons x r ih=>intro i o;exact ih (i+1) _
 exact this t 0 o
theorem rv_ex:∃ f:List Nd->List bxB.den->List bxB.den,f=fun t o=>t.foldl (fun o d=>rvF d o) o:=⟨_,rfl⟩
noncomputable def rvI:=rv_ex.choose
theorem rvI_eq:rvI=fun(t:List Nd) (o:List bxB.den)=>t.foldl (fun o d=>rvF d o) o:=rv_ex.choose_spec
noncomputable def S425:Sum:=fun n0 ρ σ K=>match n0,σ with
 | 0,⟨[(0,.v false [.sl none (.pair (.pair (.pair (.pair (.int .i64) (.int .i64)) (.pair (.pair (.int .i64) (.int .i64)) (.pair (.int .i64) (.int .i64)))) (.pair (.pair (.int .i64) (.int .i64)) (.pair (.pair (.int .i64) (.int .i64)) (.pair (.int .i64) (.int .i64))))) (.pair (.int .i64) (.pair (.int .i64) (.int .i64)))) t]),(3,.v false [.wsl 0 18]),(4,.v false [.int .i64 i])],[.arr 66 (.pair (.pair (.big 1) (.pair (.big 1) (.big 1))) (.pair (.big 1) (.pair (.big 1) (.big 1)))) o false true]⟩ =>
  if i=0/\rvG t (List.length (α:=bxB.den) o)=true/\(List.length (α:=Nd) t:Int)<=2000000 then K (.exit 0) (σ425o (rvI t o))else none
 | _,_=>none
theorem sum425:SumOK NN Tryz.prog 36 (loopAt Tryz.f27 0) S425:=
 SumOK.of_turns rvE_ok mixT (A:=A425) (SumsOK.none fun _=>rfl) fun n0 ρ σ K r hr=>by
  unfold S425 at hr;split at hr
  ·rename_i t i o;split at hr
   ·rename_i hc;obtain⟨rfl,h2,h3⟩:=hc;rw[rvI_eq]at hr;exact⟨_,(loop425 K (t:=t) (o:=o) h2 (by omega)).trans hr⟩
   ·contradiction
  ·contradiction
noncomputable def A425s:Ann:={ A425 with sum:=fun i=>bif Nat.beq i 3 then some S425 else none }
theorem gq425{ρ:Type} (cont:SV->HL->Option ρ) (t:List Nd):runF rvE A425s 0 Tryz.f27 (bodyOf Tryz.f27) ρ [one (.sl none tNd t)] [] cont =
  if 0<=nT t/\nT t<=nT t/\nT t<=70368744177664/\nT t*((240:Nat):Int)<=70368744177664 then(if(0:Int)=0/\rvG t (List.replicate (nT t).toNat bxB0).length=true/\(t.length:Int)<=2000000 then
   cont (one (.sl (some false) bxB (rvI t (List.replicate (nT t).toNat bxB0)))) []else none)else none:=by kernel_rfl
end Go.Abs
namespace Go.Abs
open Go.Proofs
set_option maxRecDepth 100000
set_option maxHeartbeats 1000000
theorem rv_len(t:List Nd):∀ (o:List bxB.den),(t.foldl (fun o d=>rvF d o) o).length=o.length:=by
 induction t with
 | nil=>intro o;rfl
 | cons d r ih =>
  intro o;rw[List.foldl_cons,ih];unfold rvF;split
  ·rw[List.length_set]
  ·rfl
theorem rv_get{b:Bd} {j:Nat} (t:List Nd):∀ (o:List bxB.den),(∀ d∈t,0<=d.2.2.2->d.2.2.2.toNat=j->d.1=b)->j<o.length->((∃ d∈t,0<=d.2.2.2/\d.2.2.2.toNat=j)\/o[j]? = some (brB (bxV b))) ->
  (t.foldl (fun o d=>rvF d o) o)[j]? = some (brB (bxV b)):=by
 induction t with
 | nil =>
  intro o h1 h2 h3;rcases h3 with ⟨d,hd,_⟩ | h3
  ·cases hd
  ·exact h3
 | cons d r ih =>
  intro o h1 h2 h3;rw[List.foldl_cons];have hl:(rvF d o).length=o.length:=by
   unfold rvF;split
   ·rw[List.length_set]
   ·rfl
  refine ih _ (fun e he=>h1 e (List.mem_cons_of_mem _ he)) (by rw[hl];exact h2) ?_
  by_cases c:0<=d.2.2.2/\d.2.2.2.toNat=j
  ·refine .inr ?_;unfold rvF;rw[if_pos c.1,c.2,h1 d List.mem_cons_self c.1 c.2,List.getElem?_set_self h2]
  ·rcases h3 with ⟨e,he,h4⟩ | h3
   ·rcases List.mem_cons.1 he with rfl | he
    ·exact absurd h4 c
    ·exact .inl ⟨e,he,h4⟩
   ·refine .inr ?_;unfold rvF;split
    ·rename_i c0;rw[List.getElem?_set_ne (fun e=>c ⟨c0,e⟩)];exact h3
    ·exact h3
theorem tok_leaf{t:List Nd} {L:List Bd} (h3:bldT L=t) (hl:L.length<=61) {d:Nd} (hd:d∈t) (h0:0<=d.2.2.2):L[d.2.2.2.toNat]? = some d.1/\skS d=false:=by
 subst h3;obtain⟨e1,e2⟩:=bldT_sk hd;have hs:skS d=false:=by
  rw[<- e1];exact decide_eq_false (by omega)
 exact⟨(leaf_at hl hd hs).2,hs⟩
theorem rv_tok{t:List Nd} (h:tokG skS t=true):∃ L,lvG skS t=some L/\(∀ b∈L,okBd b=true)/\bldT L=t/\L.length=(t.length+1) / 2/\t.length<120/\1<=L.length/\L.length<=60 /\
  rvG t L.length=true/\t.foldl (fun o d=>rvF d o) (List.replicate L.length bxB0)=L.map fun b=>brB (bxV b):=by
 obtain⟨L,hL,ho,hb,h1,h2⟩:=tokG_some h;have hlen:=lvG_len hL;have h61:L.length<=61:=by omega
 refine⟨L,hL,ho,hb,hlen,h2,by omega,by omega,?_,?_⟩
 ·unfold rvG;rw[List.all_eq_true];intro d hd
  by_cases c:d.2.2.2<0
  ·rw[decide_eq_true c];rfl
  ·obtain⟨e1,_⟩:=tok_leaf hb h61 hd (by omega);have hlt:=(List.getElem?_eq_some_iff.1 e1).1;have hok:=okBd_v (ho _ (List.mem_of_getElem? e1));rw[decide_eq_false c,hok.1,hok.2,decide_eq_true (by omega)];rfl
 ·apply List.ext_getElem?
  intro j
  by_cases hj:j<L.length
  ·rw[List.getElem?_map,List.getElem?_eq_getElem hj];refine rv_get (b:=L[j]) (j:=j) t _ (fun d hd h0 hdj=>?_) (by rw[List.length_replicate];exact hj) (.inl ?_)
   ·obtain⟨e1,_⟩:=tok_leaf hb h61 hd h0;rw[hdj,List.getElem?_eq_getElem hj]at e1;exact(Option.some.inj e1).symm
   ·have hm:((L[j],-1,-1,(j:Int)):Nd)∈lvs (bldT L):=by
     refine(lvs_bldT h61).mem_iff.2 (List.mem_map.2 ⟨(j:Int),?_,?_⟩)
     ·unfold rngL;exact List.mem_map.2 ⟨j,List.mem_range.2 hj,rfl⟩
     ·rw[Int.toNat_natCast,List.getElem?_eq_getElem hj];rfl
    unfold lvs at hm;have hm:=(List.mem_filter.1 hm).1;rw[hb]at hm;exact⟨_,hm,by show (0:Int)<=(j:Int);omega,by show ((j:Int)).toNat=j;omega⟩
  ·rw[List.getElem?_eq_none (by rw[rv_len,List.length_replicate];omega),List.getElem?_eq_none (by rw[List.length_map];omega)]
abbrev bx1T:Ty:=.pair (.pair (.num 1) (.pair (.num 1) (.num 1))) (.pair (.num 1) (.pair (.num 1) (.num 1)))
theorem bxB_dr{G:Ghost} {b:Br} {vs:List Value} (h:DR NN G bxB (brB b) vs):DR NN G bx1T b vs:=h
theorem sl_bx{G:Ghost} {κ:Kap} {nb:Option Bool} {L:List Br} {v:Value} (h:svR NN G κ (.v false [.sl nb bxB (L.map brB)]) v):svR NN G κ (.v false [.sl none bx1T L]) v:=by
 have h:=one_val h;obtain⟨u,h1,h2,_⟩:=h;refine AsR.one ⟨u,h1,?_,by simp,by simp⟩;rcases h2 with ⟨h2,h3⟩ | ⟨b,o,c,h2,h3,h4⟩
 ·exact .inl ⟨h2,List.map_eq_nil_iff.1 h3⟩
 ·rw[List.length_map]at h2 h3;refine .inr ⟨b,o,c,h2,h3,fun i x hx=>?_⟩;obtain⟨vs,d1,d2,d3⟩:=h4 i (brB x) (by rw[List.getElem?_map,hx];rfl);exact⟨vs,bxB_dr d1,d2,d3⟩
theorem lvb_ex:∃ f:List Nd->List Br,f=fun t=>((lvG skS t).getD []).map bxV:=⟨_,rfl⟩
noncomputable def lvbI:=lvb_ex.choose
theorem lvbI_eq:lvbI=fun(t:List Nd)=>((lvG skS t).getD []).map bxV:=lvb_ex.choose_spec
noncomputable def lsvO1:Orc:=fun ρ args H cont=>match args,H with
 | [.v false [.sl none (.pair (.pair (.pair (.pair (.int .i64) (.int .i64)) (.pair (.pair (.int .i64) (.int .i64)) (.pair (.int .i64) (.int .i64)))) (.pair (.pair (.int .i64) (.int .i64)) (.pair (.pair (.int .i64) (.int .i64)) (.pair (.int .i64) (.int .i64))))) (.pair (.int .i64) (.pair (.int .i64) (.int .i64)))) t]],[]=>if tkI t=true then cont (one (.sl none bx1T (lvbI t))) []else none
 | _,_=>none
noncomputable def lsvO:Orc:=fun ρ args H cont=>match args,H with
 | [.v false [.sl _ (.pair (.pair (.pair (.pair (.int .i64) (.int .i64)) (.pair (.pair (.int .i64) (.int .i64)) (.pair (.int .i64) (.int .i64)))) (.pair (.pair (.int .i64) (.int .i64)) (.pair (.pair (.int .i64) (.int .i64)) (.pair (.int .i64) (.int .i64))))) (.pair (.int .i64) (.pair (.int .i64) (.int .i64)))) t]],[]=>if tkI t=true then cont (one (.sl none bx1T (lvbI t))) []else none
 | _,_=>none
theorem orc_lsv1:OrcOK NN Tryz.prog 27 lsvO1:=
 OrcOK.cv (runF_ok rvE_ok mixT (A:=A425s) (fuel:=0) Tryz.func27 (c:=bodyOf Tryz.f27) (by kernel_rfl) (SumsOK.ofL (ls:=[loopAt Tryz.f27 0]) (by kernel_rfl) ⟨sumL1 (by kernel_rfl) sum425,trivial⟩)) fun args H cont r hr=>by
  unfold lsvO1 at hr;split at hr
  ·rename_i t;split at hr
   ·rename_i hc;rw[tkI_eq]at hc;obtain⟨L,hL,ho,hb,hlen,h2,h1,h60,hg,hf⟩:=rv_tok hc;have hn:(nT t).toNat=L.length:=by rw[nT_eq (by omega),Int.toNat_natCast,hlen]
    have hn':nT t=(L.length:Int):=by rw[nT_eq (by omega),hlen]
    refine⟨_,one (.sl (some false) bxB (rvI t (List.replicate (nT t).toNat bxB0))),fun G κ v hv=>?_,rfl,hr,fun ρ' cont'=>?_⟩
    ·rw[hn,rvI_eq]at hv;dsimp only at hv;rw[hf]at hv;have he:lvbI t=L.map bxV:=by rw[lvbI_eq];dsimp only;rw[hL,Option.getD_some]
     rw[he];refine sl_bx (nb:=some false) ?_;rw[List.map_map];exact hv
    ·refine(gq425 cont' t).trans ?_;rw[if_pos ⟨by omega,by omega,by omega,by omega⟩,if_pos ⟨rfl,by rw[List.length_replicate,hn];exact hg,by omega⟩]
   ·contradiction
  ·contradiction
theorem orc_lsv:OrcOK NN Tryz.prog 27 lsvO:=OrcOK.argc orc_lsv1 fun args H cont r hr=>by
  unfold lsvO at hr;split at hr
  ·rename_i nb t;refine⟨[one (.sl none tNd t)],hr,fun s hs i hi=>?_,fun G κ vs hv=>?_⟩
   ·rw[List.mem_singleton]at hs;subst hs;cases hi
   ·obtain⟨v1,r1,e1,h1,h3⟩:=hv;exact⟨v1,r1,e1,sl_plain h1,h3⟩
  ·contradiction
end Go.Abs
namespace Go.Abs
open Go.Proofs
set_option maxRecDepth 100000
set_option maxHeartbeats 1000000
noncomputable def q454Z:Orc:=cR coE Ash 0 Tryz.f59
theorem q454Z_ok:OrcOK NN Tryz.prog 59 q454Z:=cR_ok coE_ok rfl Tryz.func59 (by kernel_rfl)
noncomputable def gaE:Env:=VZ [(58,intO 1),(59,q454Z),(30,lat2 (fun p q=>szQ p&&szQ q) fun p q=>one (.int .i64 (cmpQ p q))),(60,lat2 (fun p q=>szQ p&&szQ q) fun p q=>nm 1 (p-q)),(62,lat2 (fun p q=>szQ p&&szQ q) fun p q=>nm 1 (p*q)),(61,lat2 (fun p q=>szQ p&&szQ q) fun p q=>nm 1 (p+q))]
theorem gaE_ok:EnvOK NN Tryz.prog gaE:=VZ_ok (gamC orc69 Tryz.call58 (gamC q454Z_ok Tryz.call59 (gamC orc51 Tryz.call30 (gamC orc27 Tryz.call60 (gamC orc68 Tryz.call62 (gamC orc70 Tryz.call61 (gamN _ _)))))))
def A426:Ann:={ head:=ptOf [(3,[2,3,4,5,6],[])],out:=ptOf [(3,[4,5],[])],shut:=true }
def zr0:Rat:=Rat.divInt 0 1
section
variable {ρ:Type}
def gHk(hi x d:Rat) (f:Rat->Option ρ):Option ρ:=if(szQ x&&szQ hi)=true then(bif decide (0<cmpQ x hi)then(if(szQ x&&szQ hi)=true then f (x-hi)else none)else f d)else none
def gLk(lo hi x:Rat) (f:Rat->Option ρ):Option ρ:=if(szQ x&&szQ lo)=true then(bif decide (cmpQ x lo<0)then(if(szQ lo&&szQ x)=true then gHk hi x (lo-x) f else none)else gHk hi x zr0 f)else none
def gSk(s d:Rat) (f:Rat->Option ρ):Option ρ:=if(szQ d&&szQ d)=true then(if(szQ s&&szQ (d*d))=true then f (s+d*d)else none)else none
theorem gq426(cont:SV->HL->Option ρ) (b0 b1 b2 b3 b4 b5 v0 v1 v2:Rat):runF gaE A426 20 Tryz.f28 (bodyOf Tryz.f28) ρ [n6 1 b0 b1 b2 b3 b4 b5,n3T 1 v0 v1 v2] [] cont =
  gLk b0 b3 v0 fun d=>gSk zr0 d fun s=>gLk b1 b4 v1 fun d=>gSk s d fun s=>gLk b2 b5 v2 fun d=>gSk s d fun s=>cont (nm 1 s) []:=by kernel_rfl
end
theorem gLk_eq{ρ:Type} {lo hi x:Rat} (h1:s8 lo=true) (h2:s8 hi=true) (h3:s8 x=true) (hle:lo<=hi) (f:Rat->Option ρ):gLk lo hi x f=f (gp1 lo hi x):=by
 rw[<- gp_eq hle];unfold gLk gHk gp2;have hz:zr0=0:=by unfold zr0;rw[Rat.zero_divInt]
 rw[if_pos (s8_both h3 h1),if_pos (s8_both h1 h3),if_pos (s8_both h3 h2),if_pos (s8_both h3 h2),if_pos (s8_both h3 h2),hz]
 by_cases c:x<lo
 ·rw[decide_eq_true (cmpQ_lt.2 c),cond_true]
  by_cases d:hi<x
  ·rw[decide_eq_true (cmpQ_gt.2 d),cond_true,if_pos d]
  ·rw[decide_eq_false (fun e=>d (cmpQ_gt.1 e)),cond_false,if_neg d,if_pos c]
 ·rw[decide_eq_false (fun e=>c (cmpQ_lt.1 e)),cond_false]
  by_cases d:hi<x
  ·rw[decide_eq_true (cmpQ_gt.2 d),cond_true,if_pos d]
  ·rw[decide_eq_false (fun e=>d (cmpQ_gt.1 e)),cond_false,if_neg d,if_neg c]
theorem gp1_sz{lo hi x:Rat} (h1:s8 lo=true) (h2:s8 hi=true) (h3:s8 x=true):szN 16 (gp1 lo hi x):=by
 unfold gp1;split
 ·exact s8_subq h1 h3
 ·split
  ·exact s8_subq h3 h2
  ·have h0:szN 16 ((x:Rat)-x):=s8_subq h3 h3
   rwa [Rat.sub_self]at h0
theorem gSk_eq{ρ:Type} {B:Nat} {s d:Rat} (hs:szN B s) (hB:B<=1000) (hd:szN 16 d) (f:Rat->Option ρ):gSk s d f=f (s+d*d):=by
 unfold gSk;rw[if_pos (both (hd.qq (by omega)) (hd.qq (by omega))),if_pos (both (hs.qq (by omega)) ((hd.mul hd).qq (by omega)))]
def bxLe(b:Br):Bool:=decide (b.1.1<=b.2.1)&&(decide (b.1.2.1<=b.2.2.1)&&decide (b.1.2.2<=b.2.2.2))
def s8v(v:V3r):Bool:=s8 v.1&&(s8 v.2.1&&s8 v.2.2)
theorem bxLe_iff{b:Br}:bxLe b=true ↔ b.1.1<=b.2.1/\b.1.2.1<=b.2.2.1/\b.1.2.2<=b.2.2.2:=by
 unfold bxLe;simp only [Bool.and_eq_true,decide_eq_true_eq]
theorem bxLe_ok{b:Bd} (h:okBd b=true):bxLe (bxV b)=true:=bxLe_iff.2 (okBd_iff.1 h).2
theorem s8v_ok{v:V3q} (h:okV3 v=true):s8v (v3V v)=true:=by
 obtain⟨h1,h2,h3⟩:=okV3_iff.1 h;unfold s8v;simp only [Bool.and_eq_true];exact⟨okQd_s8 h1,okQd_s8 h2,okQd_s8 h3⟩
theorem gp_ex:∃ f,f=gapV:=⟨_,rfl⟩
noncomputable def gapI:=gp_ex.choose
theorem gapI_eq:gapI=gapV:=gp_ex.choose_spec
theorem szN0:szN 32 (0:Rat):=by
 have h:s8 (vQ (0,1))=true:=okQd_s8 (by decide);have h2:=s8_subq h h;rw[Rat.sub_self]at h2;exact h2.mono (by omega)
theorem gapV_sz{v:V3r} {b:Br} (hb:szB b=true) (hv:s8v v=true):szN 1000 (gapV v b):=by
 obtain⟨a1,a2,a3,a4,a5,a6⟩:=szB_iff.1 hb;unfold s8v at hv;simp only [Bool.and_eq_true]at hv;have g0:=gp1_sz a1 a4 hv.1;have g1:=gp1_sz a2 a5 hv.2.1;have g2:=gp1_sz a3 a6 hv.2.2;unfold gapV;have m0:szN 64 (0+gp1 b.1.1 b.2.1 v.1*gp1 b.1.1 b.2.1 v.1):=(szN0.add (g0.mul g0)).mono (by omega);have m1:=(m0.add ((g1.mul g1).mono (show 2*16<=64 by omega)));have m2:=(m1.add ((g2.mul g2).mono (show 2*16<=2*64 by omega)));exact m2.mono (by omega)
theorem gap_run{ρ:Type} (cont:SV->HL->Option ρ) {b:Br} {v:V3r} (hb:szB b=true) (hv:s8v v=true) (hle:bxLe b=true) :
  runF gaE A426 20 Tryz.f28 (bodyOf Tryz.f28) ρ [n6 1 b.1.1 b.1.2.1 b.1.2.2 b.2.1 b.2.2.1 b.2.2.2,n3T 1 v.1 v.2.1 v.2.2] [] cont=cont (nm 1 (gapV v b)) []:=by
 obtain⟨a1,a2,a3,a4,a5,a6⟩:=szB_iff.1 hb;obtain⟨l1,l2,l3⟩:=bxLe_iff.1 hle;have hv':=hv;unfold s8v at hv';simp only [Bool.and_eq_true]at hv';have g0:=gp1_sz a1 a4 hv'.1;have g1:=gp1_sz a2 a5 hv'.2.1;have g2:=gp1_sz a3 a6 hv'.2.2;have hz:zr0=0:=by unfold zr0;rw[Rat.zero_divInt]
 have m0:szN 64 (0+gp1 b.1.1 b.2.1 v.1*gp1 b.1.1 b.2.1 v.1):=(szN0.add (g0.mul g0)).mono (by omega);have m1:=(m0.add ((g1.mul g1).mono (show 2*16<=64 by omega)));rw[gq426,gLk_eq a1 a4 hv'.1 l1,hz,gSk_eq szN0 (by omega) g0,gLk_eq a2 a5 hv'.2.1 l2,gSk_eq m0 (by omega) g1,gLk_eq a3 a6 hv'.2.2 l3,gSk_eq m1 (by omega) g2];rfl
noncomputable def gaO:Orc:=fun ρ args H cont=>match args,H with
 | [.v true [.num 1 (some b0),.num 1 (some b1),.num 1 (some b2),.num 1 (some b3),.num 1 (some b4),.num 1 (some b5)],.v true [.num 1 (some v0),.num 1 (some v1),.num 1 (some v2)]],[] =>
  if szB ((b0,b1,b2),(b3,b4,b5))=true/\s8v (v0,v1,v2)=true/\bxLe ((b0,b1,b2),(b3,b4,b5))=true then cont (nm 1 (gapI (v0,v1,v2) ((b0,b1,b2),(b3,b4,b5)))) []else none
 | _,_=>none
theorem orc_ga:OrcOK NN Tryz.prog 28 gaO:=
 OrcOK.of_tale (cR_ok (A:=A426) (fuel:=20) gaE_ok rfl Tryz.func28 (by kernel_rfl)) fun ρ args H cont r hr=>by
  unfold gaO at hr;split at hr
  ·rename_i b0 b1 b2 b3 b4 b5 v0 v1 v2;split at hr
   ·rename_i hc;rw[gapI_eq]at hr;exact(gap_run cont (b:=((b0,b1,b2),(b3,b4,b5))) (v:=(v0,v1,v2)) hc.1 hc.2.1 hc.2.2).trans hr
   ·contradiction
  ·contradiction
end Go.Abs
namespace Go.Abs
open Go.Proofs
set_option maxRecDepth 100000
set_option maxHeartbeats 1000000
noncomputable def clsE:Env:=VZ [(25,vokO),(26,tkO),(27,lsvO),(29,pvO 1),(28,gaO),(30,lat2 (fun p q=>szQ p&&szQ q) fun p q=>one (.int .i64 (cmpQ p q))),(31,lat1 szQ tupQ)]
theorem clsE_ok:EnvOK NN Tryz.prog clsE:=VZ_ok (gamC orc_v3S Tryz.call25 (gamC orc_ts Tryz.call26 (gamC orc_lsv Tryz.call27 (gamC orc_pvS Tryz.call29 (gamC orc_ga Tryz.call28 (gamC orc51 Tryz.call30 (gamC orc30 Tryz.call31 (gamN _ _))))))))
def A390:Ann:={ head:=ptOf [(7,[3,5,7,8,9,10],[])],out:=ptOf [(7,[5,8,9],[])],shut:=true }
def vB(p:V3q):Blk:=.var [.int .i64 p.1.1,.int .i64 p.1.2,.int .i64 p.2.1.1,.int .i64 p.2.1.2,.int .i64 p.2.2.1,.int .i64 p.2.2.2]
def vA(p:V3q):SV:=i6Z p.1.1 p.1.2 p.2.1.1 p.2.1.2 p.2.2.1 p.2.2.2
def σ390(p:V3q) (L:List Br) (i:Int) (s:Int × Rat):St:=⟨[(3,one (.ptr 0 0)),(5,one (.ptr 1 0)),(7,one (.sl none bx1T L)),(8,one (.int .i64 s.1)),(9,one (.ptr 2 0)),(10,one (.int .i64 i))],[vB p,.var [.int .i64 0,.int .i64 0],.var [.num 1 (some s.2)]]⟩
def σ390o(s:Int × Rat):St:=⟨[(5,one (.ptr 0 0)),(8,one (.int .i64 s.1)),(9,one (.ptr 1 0))],[.var [.int .i64 0,.int .i64 0],.var [.num 1 (some s.2)]]⟩
section
variable {ρ:Type}
noncomputable def gaC(v:V3r) (b:Br) (f:Rat->Option ρ):Option ρ:=if szB b=true/\s8v v=true/\bxLe b=true then f (gapI v b)else none
theorem turn390(K:Exit->St->Option ρ) (go:St->Option ρ) (p:V3q) (L:List Br) (i:Int) (s:Int × Rat):turnF clsE A390 60 0 0 (loopAt Tryz.f8 0) K go (σ390 p L i s) =
  bif decide (i<(L.length:Int))then(if 0<=i then L[i.toNat]?.bind (fun b=>if okV3 p=true then gaC (v3V p) b (fun g=>if(szQ g&&szQ s.2)=true then(bif decide (cmpQ g s.2<0)then go (σ390 p L (IntKind.i64.wrap (i+1)) (i,g))else go (σ390 p L (IntKind.i64.wrap (i+1)) s))else none)else none)else none)
  else K (.exit 0) (σ390o s):=by kernel_rfl
end
def ngS(v:V3r) (i:Nat) (b:Br) (s:Int × Rat):Int × Rat:=if gapV v b<s.2 then((i:Int),gapV v b)else s
theorem loop390{ρ:Type} (K:Exit->St->Option ρ) {p:V3q} {L:List Br} (hp:okV3 p=true) (hL:∀ b∈L,szB b=true/\bxLe b=true) (hl:L.length<=1000) {s:Int × Rat} (h1:1<=L.length) (hs:szN 1000 s.2) :
  itF (turnF clsE A390 60 0 0 (loopAt Tryz.f8 0) K) (fun _=>none) (L.length-1+1) (σ390 p L 1 s)=K (.exit 0) (σ390o (foldI (ngS (v3V p)) (L.drop 1) 1 s)):=by
 have hv:=s8v_ok hp;have key:=itF_fold (T:=turnF clsE A390 60 0 0 (loopAt Tryz.f8 0) K) (xs:=L) (s:=fun i s=>σ390 p L i s) (stp:=ngS (v3V p)) (fin:=fun s=>K (.exit 0) (σ390o s)) (I:=fun s=>szN 1000 s.2)
  (fun go st hI=>by rw[turn390,lst_out])
  (fun go i hi st hI=>by
   obtain⟨b1,b2⟩:=hL _ (List.getElem_mem hi);have hg:=gapV_sz b1 hv;refine⟨?_,?_⟩
   ·rw[turn390,lst_in hi,if_pos hp,lst_wrap (by omega) hi];unfold gaC ngS;rw[if_pos ⟨b1,hv,b2⟩,gapI_eq];dsimp only;rw[if_pos (both (hg.qq (by omega)) (hI.qq (by omega)))]
    by_cases c:gapV (v3V p) L[i]<st.2
    ·rw[decide_eq_true (cmpQ_lt.2 c),cond_true,if_pos c]
    ·rw[decide_eq_false (fun e=>c (cmpQ_lt.1 e)),cond_false,if_neg c]
   ·unfold ngS;split
    ·exact hg
    ·exact hI)
  (L.length-1) 1 s (by omega) hs
 exact key.1
theorem ngf_ex:∃ f:V3r->List Br->Int × Rat->Int × Rat,f=fun v L s=>foldI (ngS v) (L.drop 1) 1 s:=⟨_,rfl⟩
noncomputable def ngI:=ngf_ex.choose
theorem ngI_eq:ngI=fun(v:V3r) (L:List Br) (s:Int × Rat)=>foldI (ngS v) (L.drop 1) 1 s:=ngf_ex.choose_spec
def szK(q:Rat):Bool:=decide ((words q.num.natAbs).length<1000)&&decide ((words q.den).length<1000)
theorem szK_iff{q:Rat}:szK q=true ↔ szN 1000 q:=by unfold szK szN;rw[Bool.and_eq_true,decide_eq_true_eq,decide_eq_true_eq]
def okLb(L:List Br):Bool:=L.all fun b=>szB b&&bxLe b
noncomputable def S390:Sum:=fun n0 ρ σ K=>match n0,σ with
 | 0,⟨[(3,.v false [.ptr 0 0]),(5,.v false [.ptr 1 0]),(7,.v false [.sl none (.pair (.pair (.num 1) (.pair (.num 1) (.num 1))) (.pair (.num 1) (.pair (.num 1) (.num 1)))) L]),(8,.v false [.int .i64 b]),(9,.v false [.ptr 2 0]),(10,.v false [.int .i64 i])],
   [.var [.int .i64 p1,.int .i64 p2,.int .i64 p3,.int .i64 p4,.int .i64 p5,.int .i64 p6],.var [.int .i64 0,.int .i64 0],.var [.num 1 (some q)]]⟩ =>
  if okV3 ((p1,p2),(p3,p4),(p5,p6))=true/\okLb L=true/\1<=List.length (α:=Br) L/\List.length (α:=Br) L<=1000/\i=1/\szK q=true then K (.exit 0) (σ390o (ngI (v3V ((p1,p2),(p3,p4),(p5,p6))) L (b,q)))else none
 | _,_=>none
theorem okLb_iff{L:List Br}:okLb L=true ↔ ∀ b∈L,szB b=true/\bxLe b=true:=by
 unfold okLb;rw[List.all_eq_true];simp only [Bool.and_eq_true]
theorem sum390:SumOK NN Tryz.prog 60 (loopAt Tryz.f8 0) S390:=
 SumOK.of_turns clsE_ok mixT (A:=A390) (SumsOK.none fun _=>rfl) fun n0 ρ σ K r hr=>by
  unfold S390 at hr;split at hr
  ·rename_i L b i p1 p2 p3 p4 p5 p6 q;split at hr
   ·rename_i hc;obtain⟨h1,h2,h3,h4,rfl,h5⟩:=hc;rw[ngI_eq]at hr;exact⟨_,(loop390 K (p:=((p1,p2),(p3,p4),(p5,p6))) (L:=L) h1 (okLb_iff.1 h2) h4 (s:=(b,q)) h3 (szK_iff.1 h5)).trans hr⟩
   ·contradiction
  ·contradiction
noncomputable def A390s:Ann:={ A390 with sum:=fun i=>bif Nat.beq i 7 then some S390 else none }
def tupC(i a b:Int) (o:Bool):SV:=.tup [(false,[.int .i64 i]),(true,[.int .i64 a,.int .i64 b]),(false,[.bool o])]
section
variable {ρ:Type} (cont:SV->HL->Option ρ) (t:List Nd) (p:V3q)
def clF:Option ρ:=cont (tupC (-1) 0 0 false) []
def clT(s:Int × Rat):Option ρ:=if szQ s.2=true then(bif !qFit s.2 then clF cont else cont (tupC s.1 (qNum s.2) (qDen s.2) true) [])else none
noncomputable def clS(L:List Br):Option ρ:=L[Int.toNat 0]?.bind fun b=>if okV3 p=true then gaC (v3V p) b (fun g=>if okV3 p=true/\okLb L=true/\1<=L.length/\L.length<=1000/\(1:Int)=1/\szK g=true then clT cont (ngI (v3V p) L (0,g))else none)else none
theorem gq390:runF clsE A390s 0 Tryz.f8 (bodyOf Tryz.f8) ρ [one (.sl none tNd t),vA p] [] cont =
  bif !okV3 p then clF cont else if t.length<=2000000 then(bif bif false then true else !tkI t then clF cont else if tkI t=true then clS cont p (lvbI t)else none)else none:=by kernel_rfl
end
end Go.Abs
namespace Go.Abs
open Go.Proofs
set_option maxRecDepth 100000
set_option maxHeartbeats 1000000
def clR(s:Int × Rat):Int × Int × Int × Bool:=if qFit s.2=true then(s.1,qNum s.2,qDen s.2,true)else(-1,0,0,false)
def clV(t:List Nd) (p:V3q):Int × Int × Int × Bool:=if tokG skS t=true/\okV3 p=true then
 (fun s:Int × Option Rat=>clR (s.1,s.2.getD 0)) (foldN (spG fun b=>some (gapV (v3V p) b)) (((lvG skS t).getD []).map bxV) 0 (-1,none))else(-1,0,0,false)
theorem clv_ex:∃ f,f=clV:=⟨_,rfl⟩
noncomputable def clI:=clv_ex.choose
theorem clI_eq:clI=clV:=clv_ex.choose_spec
noncomputable def clO:Orc:=fun ρ args H cont=>match args,H with
 | [.v false [.sl _ (.pair (.pair (.pair (.pair (.int .i64) (.int .i64)) (.pair (.pair (.int .i64) (.int .i64)) (.pair (.int .i64) (.int .i64)))) (.pair (.pair (.int .i64) (.int .i64)) (.pair (.pair (.int .i64) (.int .i64)) (.pair (.int .i64) (.int .i64))))) (.pair (.int .i64) (.pair (.int .i64) (.int .i64)))) t],.v true [.int .i64 a,.int .i64 b,.int .i64 c,.int .i64 d,.int .i64 e,.int .i64 f]],[] =>
  if List.length (α:=Nd) t<=2000000 then cont (tupC (clI t ((a,b),(c,d),(e,f))).1 (clI t ((a,b),(c,d),(e,f))).2.1 (clI t ((a,b),(c,d),(e,f))).2.2.1 (clI t ((a,b),(c,d),(e,f))).2.2.2) []else none
 | _,_=>none
noncomputable def clO1:Orc:=fun ρ args H cont=>match args,H with
 | [.v false [.sl none (.pair (.pair (.pair (.pair (.int .i64) (.int .i64)) (.pair (.pair (.int .i64) (.int .i64)) (.pair (.int .i64) (.int .i64)))) (.pair (.pair (.int .i64) (.int .i64)) (.pair (.pair (.int .i64) (.int .i64)) (.pair (.int .i64) (.int .i64))))) (.pair (.int .i64) (.pair (.int .i64) (.int .i64)))) t],.v true [.int .i64 a,.int .i64 b,.int .i64 c,.int .i64 d,.int .i64 e,.int .i64 f]],[] =>
  if List.length (α:=Nd) t<=2000000 then cont (tupC (clI t ((a,b),(c,d),(e,f))).1 (clI t ((a,b),(c,d),(e,f))).2.1 (clI t ((a,b),(c,d),(e,f))).2.2.1 (clI t ((a,b),(c,d),(e,f))).2.2.2) []else none
 | _,_=>none
theorem ng_sp{v:V3r}:∀ (xs:List Br) (i:Nat) (s:Int × Rat),0<=s.1->foldN (spG fun b=>some (gapV v b)) xs i (s.1,some s.2)=((foldI (ngS v) xs i s).1,some (foldI (ngS v) xs i s).2)
 | [],i,s,h=>rfl
 | b :: r,i,s,h=>by
  unfold foldN foldI;have e:spG (fun b=>some (gapV v b)) (s.1,some s.2) i b=((ngS v i b s).1,some (ngS v i b s).2):=by
   unfold spG ngS;dsimp only;rw[Option.getD_some]
   by_cases c:gapV v b<s.2
   ·rw[if_pos (.inr c),if_pos c]
   ·rw[if_neg (fun e=>by
     rcases e with e | e
     ·omega
     ·exact c e),if_neg c]
  rw[e];refine ng_sp r (i+1) _ ?_;unfold ngS;split
  ·show (0:Int)<=(i:Int);omega
  ·exact h
theorem ng_all{v:V3r} {b:Br} {r:List Br}:foldN (spG fun b=>some (gapV v b)) (b :: r) 0 (-1,none)=((ngI v (b :: r) (0,gapV v b)).1,some (ngI v (b :: r) (0,gapV v b)).2):=by
 rw[ngI_eq];have e:spG (fun b=>some (gapV v b)) (-1,none) 0 b=(0,some (gapV v b)):=by
  unfold spG;dsimp only;rw[if_pos (.inl (by decide))];rfl
 unfold foldN;rw[e];exact ng_sp r 1 (0,gapV v b) (by show (0:Int)<=0;omega)
theorem ng_sz{v:V3r} (hv:s8v v=true):∀ (xs:List Br) (i:Nat) (s:Int × Rat),(∀ b∈xs,szB b=true)->szN 1000 s.2->szN 1000 (foldI (ngS v) xs i s).2
 | [],i,s,h,hs=>hs
 | b :: r,i,s,h,hs=>by
  unfold foldI;refine ng_sz hv r (i+1) _ (fun c hc=>h c (List.mem_cons_of_mem _ hc)) ?_;unfold ngS;split
  ·exact gapV_sz (h b List.mem_cons_self) hv
  ·exact hs
theorem clT_eq{ρ:Type} (cont:SV->HL->Option ρ) {s:Int × Rat} (h:szN 1000 s.2):clT cont s=cont (tupC (clR s).1 (clR s).2.1 (clR s).2.2.1 (clR s).2.2.2) []:=by
 unfold clT clR clF;rw[if_pos (h.qq (by omega))];cases hq:qFit s.2
 ·rfl
 ·rfl
theorem clV_no{t:List Nd} {p:V3q} (h:¬ (tokG skS t=true/\okV3 p=true)):clV t p=(-1,0,0,false):=if_neg h
theorem clV_yes{t:List Nd} {p:V3q} (h:tokG skS t=true/\okV3 p=true):clV t p=(fun s:Int × Option Rat=>clR (s.1,s.2.getD 0)) (foldN (spG fun b=>some (gapV (v3V p) b)) (((lvG skS t).getD []).map bxV) 0 (-1,none)):=if_pos h
theorem cls_run{ρ:Type} (cont:SV->HL->Option ρ) {t:List Nd} (hl:t.length<=2000000) (p:V3q):runF clsE A390s 0 Tryz.f8 (bodyOf Tryz.f8) ρ [one (.sl none tNd t),vA p] [] cont=cont (tupC (clI t p).1 (clI t p).2.1 (clI t p).2.2.1 (clI t p).2.2.2) []:=by
 rw[gq390,clI_eq,tkI_eq];rw[if_pos hl];cases hp:okV3 p
 ·rw[clV_no (fun e=>by rw[hp]at e;cases e.2)];rfl
 ·cases ht:tokG skS t
  ·rw[clV_no (fun e=>by rw[ht]at e;cases e.1)];rfl
  ·obtain⟨L,hL,ho,hb,hlen,h2,h1,h60,_,_⟩:=rv_tok ht;have hs:∀ b∈L.map bxV,szB b=true/\bxLe b=true:=fun b hb=>by
    obtain⟨c,hc,rfl⟩:=List.mem_map.1 hb;exact⟨szB_ok' (ho c hc),bxLe_ok (ho c hc)⟩
   have hv:=s8v_ok hp;rw[clV_yes ⟨ht,hp⟩,if_pos rfl,lvbI_eq];dsimp only;rw[hL,Option.getD_some];show clS cont p (L.map bxV)=_;revert hs;have hl':1<=(L.map bxV).length:=by rw[List.length_map];exact h1
   have hl2:(L.map bxV).length<=60:=by rw[List.length_map];exact h60
   revert hl' hl2;generalize L.map bxV=R;intro hl' hl2 hs
   match R,hl',hl2,hs with
   | b :: r,hl',hl2,hs =>
    obtain⟨s1,s2⟩:=hs b List.mem_cons_self;have g1:=gapV_sz s1 hv;have e0:(b :: r)[Int.toNat 0]? = some b:=rfl;unfold clS;rw[e0,Option.bind_some,if_pos hp];unfold gaC;rw[if_pos ⟨s1,hv,s2⟩,gapI_eq];dsimp only;rw[if_pos ⟨hp,okLb_iff.2 hs,hl',by omega,rfl,szK_iff.2 g1⟩,ng_all];refine clT_eq cont ?_;rw[ngI_eq];exact ng_sz hv _ _ _ (fun c hc=>(hs c (List.mem_of_mem_drop hc)).1) g1
theorem orc_cls1:OrcOK NN Tryz.prog 8 clO1:=
 OrcOK.of_tale (runF_ok clsE_ok mixT (A:=A390s) (fuel:=0) Tryz.func8 (c:=bodyOf Tryz.f8) (by kernel_rfl) (SumsOK.ofL (ls:=[loopAt Tryz.f8 0]) (by kernel_rfl) ⟨sumL1 (by kernel_rfl) sum390,trivial⟩)) fun ρ args H cont r hr=>by
  unfold clO1 at hr;split at hr
  ·rename_i t a b c d e f;split at hr
   ·rename_i hc;exact(cls_run cont (t:=t) hc ((a,b),(c,d),(e,f))).trans hr
   ·contradiction
  ·contradiction
theorem sl_plains{G:Ghost} {κ:Kap} {a:Option Bool} {t:Ty} {xs:List t.den} {s:List SV} {vs:List Value} (h:SvsR NN G κ (.v false [.sl a t xs] :: s) vs):SvsR NN G κ (.v false [.sl none t xs] :: s) vs:=by
 obtain⟨v1,r1,e1,h1,h2⟩:=h;exact⟨v1,r1,e1,sl_plain h1,h2⟩
theorem orc_cls:OrcOK NN Tryz.prog 8 clO:=OrcOK.argc orc_cls1 fun args H cont r hr=>by
  unfold clO at hr;split at hr
  ·rename_i nb t a b c d e f;refine⟨[one (.sl none tNd t),i6Z a b c d e f],hr,fun s hs i hi=>?_,fun G κ vs hv=>sl_plains hv⟩;rcases List.mem_cons.1 hs with rfl | hs
   ·cases hi
   ·rw[List.mem_singleton]at hs;subst hs;cases hi
  ·contradiction
end Go.Abs
namespace Go.Abs
open Go.Proofs
set_option maxRecDepth 100000
set_option maxHeartbeats 1000000
noncomputable def ahE:Env:=VZ [(39,rat2 (fun p q=>szQ p&&szQ q) fun p q=>one (.int .i64 (cmpQ p q)))]
theorem ahE_ok:EnvOK NN Tryz.prog ahE:=VZ_ok (gamC orc58 Tryz.call39 (gamN _ _))
theorem ah_ex:∃ f:Rat->Int->Rat->Int->Bool,f=fun a i b j=>decide (a<b\/(a=b/\i<j)):=⟨_,rfl⟩
noncomputable def ahI:=ah_ex.choose
theorem ahI_eq:ahI=fun(a:Rat) (i:Int) (b:Rat) (j:Int)=>decide (a<b\/(a=b/\i<j)):=ah_ex.choose_spec
noncomputable def ahO:Orc:=fun ρ args H cont=>match args,H with
 | [.v true [.num 0 (some a)],.v false [.int .i64 i],.v true [.num 0 (some b)],.v false [.int .i64 j]],[]=>if(szQ a&&szQ b)=true then cont (one (.bool (ahI a i b j))) []else none
 | _,_=>none
theorem gq433{ρ:Type} (cont:SV->HL->Option ρ) (a b:Rat) (i j:Int):runF ahE Ash 0 Tryz.f43 (bodyOf Tryz.f43) ρ [nm 0 a,one (.int .i64 i),nm 0 b,one (.int .i64 j)] [] cont =
  if(szQ a&&szQ b)=true then(bif decide (cmpQ a b<0)then cont (one (.bool true)) []else bif cmpQ a b==0 then cont (one (.bool (bif false then true else bif true then decide (i<j)else false))) []else cont (one (.bool false)) [])else none:=by kernel_rfl
theorem orc_ah:OrcOK NN Tryz.prog 43 ahO:=
 OrcOK.of_tale (cR_ok (A:=Ash) (fuel:=0) ahE_ok rfl Tryz.func43 (by kernel_rfl)) fun ρ args H cont r hr=>by
  unfold ahO at hr;split at hr
  ·rename_i a i b j;refine(gq433 cont a b i j).trans (Eq.trans ?_ hr);split
   ·rw[ahI_eq];dsimp only
    by_cases c1:a<b
    ·rw[decide_eq_true (cmpQ_lt.2 c1),decide_eq_true (p:=a<b\/_) (.inl c1)];rfl
    ·rw[decide_eq_false (fun e=>c1 (cmpQ_lt.1 e)),cond_false]
     by_cases c2:a=b
     ·rw[beq_iff_eq.2 (cmpQ_eq.2 c2),cond_true]
      by_cases c3:i<j
      ·rw[decide_eq_true c3,decide_eq_true (p:=a<b\/_) (.inr ⟨c2,c3⟩)];rfl
      ·rw[decide_eq_false c3,decide_eq_false (p:=a<b\/_) (fun e=>by
        rcases e with e | e
        ·exact c1 e
        ·exact c3 e.2)];rfl
     ·rw[beq_eq_false_iff_ne.2 (fun e=>c2 (cmpQ_eq.1 e)),cond_false,decide_eq_false (p:=a<b\/_) (fun e=>by
       rcases e with e | e
       ·exact c1 e
       ·exact c2 e.1)]
   ·rfl
  ·contradiction
noncomputable def cliE:Env:=VZ [(34,tkO),(35,vokO),(36,pvO 0),(37,boO 0),(38,intO 0),(39,rat2 (fun p q=>szQ p&&szQ q) fun p q=>one (.int .i64 (cmpQ p q))),(40,rat2 (fun p q=>szQ p&&szQ q) fun p q=>nm 0 (p-q)),(42,rat2 (fun p q=>szQ p&&szQ q) fun p q=>nm 0 (p*q)),(41,rat2 (fun p q=>szQ p&&szQ q) fun p q=>nm 0 (p+q)),(43,ahO),(44,rat1 (fun _=>true) tupQ)]
theorem cliE_ok:EnvOK NN Tryz.prog cliE:=VZ_ok (gamC orc_tk Tryz.call34 (gamC orc_v3I Tryz.call35 (gamC orc_pvI Tryz.call36 (gamC orc_boI Tryz.call37 (gamC orc57 Tryz.call38 (gamC orc58 Tryz.call39 (gamC orc37 Tryz.call40 (gamC orc60 Tryz.call42 (gamC orc59 Tryz.call41 (gamC orc_ah Tryz.call43 (gamC orc41 Tryz.call44 (gamN _ _))))))))))))
def A393:Ann:={ head:=ptOf [(7,[5,7,8,9,29,30,31],[]),(13,[5,7,8,9,29,30,31,11,12,13,42],[])],out:=ptOf [(7,[5,8,9],[]),(13,[5,7,8,9,29,30,31,11,13],[])],shut:=true }
def v3B(v:V3r):Blk:=.var [.num 0 (some v.1),.num 0 (some v.2.1),.num 0 (some v.2.2)]
def brBk(b:Br):Blk:=.var [.num 0 (some b.1.1),.num 0 (some b.1.2.1),.num 0 (some b.1.2.2),.num 0 (some b.2.1),.num 0 (some b.2.2.1),.num 0 (some b.2.2.2)]
def ndBk(d:Nd):Blk:=.var [.int .i64 d.1.1.1.1,.int .i64 d.1.1.1.2,.int .i64 d.1.1.2.1.1,.int .i64 d.1.1.2.1.2,.int .i64 d.1.1.2.2.1,.int .i64 d.1.1.2.2.2,.int .i64 d.1.2.1.1,.int .i64 d.1.2.1.2,.int .i64 d.1.2.2.1.1,.int .i64 d.1.2.2.1.2,.int .i64 d.1.2.2.2.1,.int .i64 d.1.2.2.2.2,.int .i64 d.2.1,.int .i64 d.2.2.1,.int .i64 d.2.2.2]
def hp393(v:V3r) (o:Option Rat):HL:=[.var [.int .i64 0,.int .i64 0],v3B v,.var [.num 0 o]]
def σ393(v:V3r) (t:List Nd) (i:Int) (s:Int × Option Rat):St:=⟨[(5,one (.ptr 0 0)),(7,one (.ptr 1 0)),(8,one (.int .i64 s.1)),(9,one (.ptr 2 0)),(29,one (.sl none tNd t)),(30,one (.int .i64 (t.length:Int))),(31,one (.int .i64 i))],hp393 v s.2⟩
def σ393o(s:Int × Option Rat):St:=⟨[(5,one (.ptr 0 0)),(8,one (.int .i64 s.1)),(9,one (.ptr 1 0))],[.var [.int .i64 0,.int .i64 0],.var [.num 0 s.2]]⟩
def σ393i(v:V3r) (t:List Nd) (l i:Int) (s:Int × Option Rat) (d:Nd) (b:Br) (q:Rat) (j:Int):St:=⟨[(5,one (.ptr 0 0)),(7,one (.ptr 1 0)),(8,one (.int .i64 s.1)),(9,one (.ptr 2 0)),(29,one (.sl none tNd t)),(30,one (.int .i64 l)),(31,one (.int .i64 i)),(11,one (.ptr 3 0)),(12,one (.ptr 4 0)),(13,one (.ptr 5 0)),(42,one (.int .i64 j))],hp393 v s.2 ++ [ndBk d,brBk b,.var [.num 0 (some q)]]⟩
def σ393j(v:V3r) (t:List Nd) (l i:Int) (s:Int × Option Rat) (d:Nd) (q:Rat):St:=⟨[(5,one (.ptr 0 0)),(7,one (.ptr 1 0)),(8,one (.int .i64 s.1)),(9,one (.ptr 2 0)),(29,one (.sl none tNd t)),(30,one (.int .i64 l)),(31,one (.int .i64 i)),(11,one (.ptr 3 0)),(13,one (.ptr 4 0))],hp393 v s.2 ++ [ndBk d,.var [.num 0 (some q)]]⟩
section
variable {ρ:Type} (K:Exit->St->Option ρ) (go:St->Option ρ) (v:V3r) (t:List Nd) (l i:Int) (s:Int × Option Rat) (d:Nd) (b:Br) (q:Rat)
def gIk(lo hi x:Rat) (f:Rat->Option ρ):Option ρ:=if(szQ x&&szQ lo)=true then(bif decide (cmpQ x lo<0)then(if(szQ lo&&szQ x)=true then f (lo-x)else none)else
 (if(szQ x&&szQ hi)=true then(bif decide (0<cmpQ x hi)then(if(szQ x&&szQ hi)=true then f (x-hi)else none)else f zr0)else none))else none
theorem turn393a:turnF cliE A393 113 0 0 (loopAt Tryz.f11 1) K go (σ393i v t l i s d b q 0)=gIk b.1.1 b.2.1 v.1 fun g=>gSk q g fun q'=>go (σ393i v t l i s d b q' 1):=by kernel_rfl
theorem turn393b:turnF cliE A393 113 0 0 (loopAt Tryz.f11 1) K go (σ393i v t l i s d b q 1)=gIk b.1.2.1 b.2.2.1 v.2.1 fun g=>gSk q g fun q'=>go (σ393i v t l i s d b q' 2):=by kernel_rfl
theorem turn393c:turnF cliE A393 113 0 0 (loopAt Tryz.f11 1) K go (σ393i v t l i s d b q 2)=gIk b.1.2.2 b.2.2.2 v.2.2 fun g=>gSk q g fun q'=>go (σ393i v t l i s d b q' 3):=by kernel_rfl
theorem turn393d:turnF cliE A393 113 0 0 (loopAt Tryz.f11 1) K go (σ393i v t l i s d b q 3)=K (.exit 2) (σ393j v t l i s d q):=by kernel_rfl
end
end Go.Abs
namespace Go.Abs
open Go.Proofs
set_option maxRecDepth 100000
set_option maxHeartbeats 2000000
def gapQ(q:Rat) (v:V3r) (b:Br):Rat:=q+gp1 b.1.1 b.2.1 v.1*gp1 b.1.1 b.2.1 v.1+gp1 b.1.2.1 b.2.2.1 v.2.1*gp1 b.1.2.1 b.2.2.1 v.2.1+gp1 b.1.2.2 b.2.2.2 v.2.2*gp1 b.1.2.2 b.2.2.2 v.2.2
theorem gapQ_zr{v:V3r} {b:Br}:gapQ zr0 v b=gapV v b:=by
 have hz:zr0=0:=by unfold zr0;rw[Rat.zero_divInt]
 rw[hz];rfl
theorem gIk_eq{ρ:Type} {lo hi x:Rat} (h1:s8 lo=true) (h2:s8 hi=true) (h3:s8 x=true) (f:Rat->Option ρ):gIk lo hi x f=f (gp1 lo hi x):=by
 unfold gIk gp1;have hz:zr0=0:=by unfold zr0;rw[Rat.zero_divInt]
 rw[if_pos (s8_both h3 h1),if_pos (s8_both h1 h3),if_pos (s8_both h3 h2),if_pos (s8_both h3 h2),hz]
 by_cases c:x<lo
 ·rw[decide_eq_true (cmpQ_lt.2 c),cond_true,if_pos c]
 ·rw[decide_eq_false (fun e=>c (cmpQ_lt.1 e)),cond_false,if_neg c]
  by_cases d:hi<x
  ·rw[decide_eq_true (cmpQ_gt.2 d),cond_true,if_pos d]
  ·rw[decide_eq_false (fun e=>d (cmpQ_gt.1 e)),cond_false,if_neg d]
theorem loop393i{ρ:Type} (K:Exit->St->Option ρ) (v:V3r) (t:List Nd) (l i:Int) (s:Int × Option Rat) (d:Nd) (b:Br) (q:Rat) (hb:szB b=true) (hv:s8v v=true) (hq:szN 64 q) :
  itF (turnF cliE A393 113 0 0 (loopAt Tryz.f11 1) K) (fun _=>none) 4 (σ393i v t l i s d b q 0)=K (.exit 2) (σ393j v t l i s d (gapQ q v b)):=by
 obtain⟨a1,a2,a3,a4,a5,a6⟩:=szB_iff.1 hb;unfold s8v at hv;simp only [Bool.and_eq_true]at hv;have g0:=gp1_sz a1 a4 hv.1;have g1:=gp1_sz a2 a5 hv.2.1;have g2:=gp1_sz a3 a6 hv.2.2;have m0:szN 256 (q+gp1 b.1.1 b.2.1 v.1*gp1 b.1.1 b.2.1 v.1):=(hq.add ((g0.mul g0).mono (show 2*16<=64 by omega))).mono (by omega);have m1:szN 512 (q+gp1 b.1.1 b.2.1 v.1*gp1 b.1.1 b.2.1 v.1+gp1 b.1.2.1 b.2.2.1 v.2.1*gp1 b.1.2.1 b.2.2.1 v.2.1):=(m0.add ((g1.mul g1).mono (show 2*16<=256 by omega))).mono (by omega);rw[itF_succ,turn393a,gIk_eq a1 a4 hv.1,gSk_eq hq (by omega) g0,itF_succ,turn393b,gIk_eq a2 a5 hv.2.1,gSk_eq m0 (by omega) g1,itF_succ,turn393c,gIk_eq a3 a6 hv.2.2,gSk_eq m1 (by omega) g2,itF_succ,turn393d];rfl
theorem gq_ex:∃ f,f=gapQ:=⟨_,rfl⟩
noncomputable def gapQI:=gq_ex.choose
theorem gapQI_eq:gapQI=gapQ:=gq_ex.choose_spec
def sz64(q:Rat):Bool:=decide ((words q.num.natAbs).length<64)&&decide ((words q.den).length<64)
theorem sz64_iff{q:Rat}:sz64 q=true ↔ szN 64 q:=by unfold sz64 szN;rw[Bool.and_eq_true,decide_eq_true_eq,decide_eq_true_eq]
noncomputable def S393i:Sum:=fun n0 ρ σ K=>match n0,σ with
 | 0,⟨[(5,.v false [.ptr 0 0]),(7,.v false [.ptr 1 0]),(8,.v false [.int .i64 a]),(9,.v false [.ptr 2 0]),(29,.v false [.sl none (.pair (.pair (.pair (.pair (.int .i64) (.int .i64)) (.pair (.pair (.int .i64) (.int .i64)) (.pair (.int .i64) (.int .i64)))) (.pair (.pair (.int .i64) (.int .i64)) (.pair (.pair (.int .i64) (.int .i64)) (.pair (.int .i64) (.int .i64))))) (.pair (.int .i64) (.pair (.int .i64) (.int .i64)))) t]),(30,.v false [.int .i64 l]),(31,.v false [.int .i64 i]),(11,.v false [.ptr 3 0]),(12,.v false [.ptr 4 0]),(13,.v false [.ptr 5 0]),(42,.v false [.int .i64 j])],
   [.var [.int .i64 0,.int .i64 0],.var [.num 0 (some x),.num 0 (some y),.num 0 (some z)],.var [.num 0 o],.var [.int .i64 a0,.int .i64 a1,.int .i64 a2,.int .i64 a3,.int .i64 a4,.int .i64 a5,.int .i64 a6,.int .i64 a7,.int .i64 a8,.int .i64 a9,.int .i64 a10,.int .i64 a11,.int .i64 a12,.int .i64 a13,.int .i64 a14],.var [.num 0 (some b0),.num 0 (some b1),.num 0 (some b2),.num 0 (some b3),.num 0 (some b4),.num 0 (some b5)],.var [.num 0 (some q)]]⟩ =>
  if szB ((b0,b1,b2),(b3,b4,b5))=true/\s8v (x,y,z)=true/\sz64 q=true/\j=0 then K (.exit 2) (σ393j (x,y,z) t l i (a,o) (((((a0,a1),(a2,a3),(a4,a5)),((a6,a7),(a8,a9),(a10,a11))),a12,a13,a14):Nd) (gapQI q (x,y,z) ((b0,b1,b2),(b3,b4,b5))))else none
 | _,_=>none
theorem sum393i:SumOK NN Tryz.prog 113 (loopAt Tryz.f11 1) S393i:=
 SumOK.of_turns cliE_ok mixT (A:=A393) (SumsOK.none fun _=>rfl) fun n0 ρ σ K r hr=>by
  unfold S393i at hr;split at hr
  ·rename_i a t l i j x y z o a0 a1 a2 a3 a4 a5 a6 a7 a8 a9 a10 a11 a12 a13 a14 b0 b1 b2 b3 b4 b5 q;split at hr
   ·rename_i hc;obtain⟨h1,h2,h3,rfl⟩:=hc;rw[gapQI_eq]at hr;exact⟨_,(loop393i K (x,y,z) t l i (a,o) (((((a0,a1),(a2,a3),(a4,a5)),((a6,a7),(a8,a9),(a10,a11))),a12,a13,a14):Nd) ((b0,b1,b2),(b3,b4,b5)) q h1 h2 (sz64_iff.1 h3)).trans hr⟩
   ·contradiction
  ·contradiction
noncomputable def A393o:Ann:={ A393 with sum:=fun i=>bif Nat.beq i 13 then some S393i else none }
section
variable {ρ:Type} (K:Exit->St->Option ρ) (go:St->Option ρ) (v:V3r) (t:List Nd) (i:Int) (a:Int) (o:Option Rat)
noncomputable def ahK(o:Option Rat) (g:Rat) (x a:Int) (f:Bool->Option ρ):Option ρ:=match o with
 | some q=>if(szQ g&&szQ q)=true then f (ahI g x q a)else none
 | none=>none
noncomputable def bd393(s:Int × Option Rat) (k:Int × Option Rat->Option ρ) (d:Nd):Option ρ:=bif decide (0<=d.2.1)then k s else if okV3 d.1.1=true/\okV3 d.1.2=true then
 (if szB (bxV d.1)=true/\s8v v=true/\sz64 zr0=true/\(0:Int)=0 then(fun g=>bif decide (s.1<0)then k (d.2.2.2,some g)else ahK s.2 g d.2.2.2 s.1 fun b=>bif bif false then true else b then k (d.2.2.2,some g)else k s) (gapQI zr0 v (bxV d.1))else none)else none
theorem turn393n:turnF cliE A393o 113 0 0 (loopAt Tryz.f11 0) K go (σ393 v t i (a,none)) =
  bif decide (i<(t.length:Int))then ldT t i (bd393 v (a,none) fun s=>go (σ393 v t (IntKind.i64.wrap (i+1)) s))else K (.exit 0) (σ393o (a,none)):=by kernel_rfl
theorem turn393s(q:Rat):turnF cliE A393o 113 0 0 (loopAt Tryz.f11 0) K go (σ393 v t i (a,some q)) =
  bif decide (i<(t.length:Int))then ldT t i (bd393 v (a,some q) fun s=>go (σ393 v t (IntKind.i64.wrap (i+1)) s))else K (.exit 0) (σ393o (a,some q)):=by kernel_rfl
end
end Go.Abs
namespace Go.Abs
open Go.Proofs
set_option maxRecDepth 100000
set_option maxHeartbeats 1000000
theorem turn393{ρ:Type} (K:Exit->St->Option ρ) (go:St->Option ρ) (v:V3r) (t:List Nd) (i:Int) (s:Int × Option Rat):turnF cliE A393o 113 0 0 (loopAt Tryz.f11 0) K go (σ393 v t i s) =
  bif decide (i<(t.length:Int))then ldT t i (bd393 v s fun s=>go (σ393 v t (IntKind.i64.wrap (i+1)) s))else K (.exit 0) (σ393o s):=by
 obtain⟨a,o⟩:=s;cases o with
 | none=>exact turn393n K go v t i a
 | some q=>exact turn393s K go v t i a q
def sI(s:Int × Option Rat):Prop:=s.1<0 \/ ∃ q,s.2=some q/\szN 1000 q
theorem zr0_64:sz64 zr0=true:=by
 have hz:zr0=0:=by unfold zr0;rw[Rat.zero_divInt]
 rw[hz];exact sz64_iff.2 (szN0.mono (by omega))
theorem bd393_eq{ρ:Type} {v:V3r} {s:Int × Option Rat} {k:Int × Option Rat->Option ρ} {d:Nd} (hv:s8v v=true) (hd:skS d=false->okBd d.1=true) (hs:sI s) :
  bd393 v s k d=k (stG (fun b=>some (gapV v b)) s d)/\sI (stG (fun b=>some (gapV v b)) s d):=by
 unfold bd393 stG;cases hk:skS d with
 | true =>
  have:decide (0<=d.2.1)=true:=hk;rw[this,cond_true,if_pos rfl];exact⟨rfl,hs⟩
 | false =>
  have h0:decide (0<=d.2.1)=false:=hk;have ho:=hd hk;have hg:=gapV_sz (szB_ok' ho) hv;rw[h0,cond_false,if_pos (okBd_v ho),if_pos ⟨szB_ok' ho,hv,zr0_64,rfl⟩,gapQI_eq,gapQ_zr,if_neg (by decide)];dsimp only
  by_cases c:s.1<0
  ·rw[decide_eq_true c,cond_true,if_pos (.inl c)];exact⟨rfl,.inr ⟨_,rfl,hg⟩⟩
  ·rw[decide_eq_false c,cond_false];rcases hs with hs | ⟨q,hq,hz⟩
   ·exact absurd hs c
   rw[hq];unfold ahK;dsimp only;rw[if_pos (both (hg.qq (by omega)) (hz.qq (by omega))),ahI_eq,Option.getD_some];dsimp only
   by_cases e:gapV v (bxV d.1)<q\/(gapV v (bxV d.1)=q/\d.2.2.2<s.1)
   ·rw[decide_eq_true e,if_pos (.inr e)];exact⟨rfl,.inr ⟨_,rfl,hg⟩⟩
   ·rw[decide_eq_false e,if_neg (fun h=>by
     rcases h with h | h
     ·exact c h
     ·exact e h)]
    exact⟨rfl,.inr ⟨q,hq,hz⟩⟩
theorem foldI_l{α S:Type} (g:S->α->S):∀ (xs:List α) (i:Nat) (s:S),foldI (fun _ d s=>g s d) xs i s=xs.foldl g s
 | [],i,s=>rfl
 | x :: r,i,s=>foldI_l g r (i+1) (g s x)
theorem loop393{ρ:Type} (K:Exit->St->Option ρ) {v:V3r} {t:List Nd} (hv:s8v v=true) (hd:∀ d∈t,skS d=false->okBd d.1=true) (hl:t.length<=2000000) :
  itF (turnF cliE A393o 113 0 0 (loopAt Tryz.f11 0) K) (fun _=>none) (t.length+1) (σ393 v t 0 (-1,none))=K (.exit 0) (σ393o (t.foldl (stG fun b=>some (gapV v b)) (-1,none))):=by
 have key:=itF_fold (T:=turnF cliE A393o 113 0 0 (loopAt Tryz.f11 0) K) (xs:=t) (s:=fun i s=>σ393 v t i s) (stp:=fun _ d s=>stG (fun b=>some (gapV v b)) s d) (fin:=fun s=>K (.exit 0) (σ393o s)) (I:=sI)
  (fun go st hI=>by rw[turn393,lst_out])
  (fun go i hi st hI=>by
   have hb:=bd393_eq (k:=fun s=>go (σ393 v t (IntKind.i64.wrap ((i:Int)+1)) s)) hv (hd _ (List.getElem_mem hi)) hI;refine⟨?_,hb.2⟩;rw[turn393,decide_eq_true (by omega),cond_true,ldT_at hi,hb.1,lst_wrap (by omega) hi])
  t.length 0 (-1,none) (by omega) (.inl (by decide))
 rw[List.drop_zero,foldI_l]at key;exact key.1
theorem cj_ex:∃ f:V3r->List Nd->Int × Rat,f=fun v t=>((t.foldl (stG fun b=>some (gapV v b)) (-1,none)).1,(t.foldl (stG fun b=>some (gapV v b)) (-1,none)).2.getD 0):=⟨_,rfl⟩
noncomputable def cjI:=cj_ex.choose
theorem cjI_eq:cjI=fun(v:V3r) (t:List Nd)=>((t.foldl (stG fun b=>some (gapV v b)) (-1,none)).1,(t.foldl (stG fun b=>some (gapV v b)) (-1,none)).2.getD 0):=cj_ex.choose_spec
theorem ng_nn{v:V3r}:∀ (xs:List Br) (i:Nat) (s:Int × Rat),0<=s.1->0<=(foldI (ngS v) xs i s).1
 | [],i,s,h=>h
 | b :: r,i,s,h=>by
  unfold foldI;refine ng_nn r (i+1) _ ?_;unfold ngS;split
  ·show (0:Int)<=(i:Int);omega
  ·exact h
theorem cj_tok{t:List Nd} (h:tokG skS t=true) (v:V3r):∃ L,∃ s:Int × Rat,lvG skS t=some L/\t.length<120/\(∀ d∈t,skS d=false->okBd d.1=true)/\0<=s.1/\t.foldl (stG fun b=>some (gapV v b)) (-1,none)=(s.1,some s.2)/\foldN (spG fun b=>some (gapV v b)) (L.map bxV) 0 (-1,none)=(s.1,some s.2):=by
 obtain⟨L,hL,ho,hb,hlen,h2,h1,h60,_,_⟩:=rv_tok h;have hd:∀ d∈t,skS d=false->okBd d.1=true:=fun d hd hs=>by
  obtain⟨_,e2⟩:=leaf_at (L:=L) (by omega) (by rw[hb];exact hd) hs;exact ho _ (List.mem_of_getElem? e2)
 have e:=best_eq (h:=fun b=>some (gapV v b)) (L:=L) (by omega);rw[hb]at e;have hl':1<=(L.map bxV).length:=by rw[List.length_map];exact h1
 revert hl' e;generalize hR:L.map bxV=R;intro e hl'
 match R,hl' with
 | b :: r,hl' =>
  refine⟨L,ngI v (b :: r) (0,gapV v b),hL,h2,hd,?_,?_,?_⟩
  ·rw[ngI_eq];exact ng_nn _ _ _ (by show (0:Int)<=0;omega)
  ·rw[e];exact ng_all
  ·rw[hR];exact ng_all
noncomputable def S393:Sum:=fun n0 ρ σ K=>match n0,σ with
 | 0,⟨[(5,.v false [.ptr 0 0]),(7,.v false [.ptr 1 0]),(8,.v false [.int .i64 a]),(9,.v false [.ptr 2 0]),(29,.v false [.sl none (.pair (.pair (.pair (.pair (.int .i64) (.int .i64)) (.pair (.pair (.int .i64) (.int .i64)) (.pair (.int .i64) (.int .i64)))) (.pair (.pair (.int .i64) (.int .i64)) (.pair (.pair (.int .i64) (.int .i64)) (.pair (.int .i64) (.int .i64))))) (.pair (.int .i64) (.pair (.int .i64) (.int .i64)))) t]),(30,.v false [.int .i64 l]),(31,.v false [.int .i64 i])],
   [.var [.int .i64 0,.int .i64 0],.var [.num 0 (some x),.num 0 (some y),.num 0 (some z)],.var [.num 0 none]]⟩ =>
  if tkI t=true/\s8v (x,y,z)=true/\i=0/\a = -1/\l=(List.length (α:=Nd) t:Int)then K (.exit 0) (σ393o ((cjI (x,y,z) t).1,some (cjI (x,y,z) t).2))else none
 | _,_=>none
theorem sum393:SumOK NN Tryz.prog 113 (loopAt Tryz.f11 0) S393:=
 SumOK.of_turns cliE_ok mixT (A:=A393o) (SumsOK.ofL (ls:=[loopAt Tryz.f11 1]) (by kernel_rfl) ⟨sumL1 (by kernel_rfl) sum393i,trivial⟩) fun n0 ρ σ K r hr=>by
  unfold S393 at hr;split at hr
  ·rename_i a t l i x y z;split at hr
   ·rename_i hc;obtain⟨h1,h2,rfl,rfl,rfl⟩:=hc;rw[tkI_eq]at h1;obtain⟨L,s,hL,hl,hd,h0,e1,_⟩:=cj_tok h1 (x,y,z);rw[cjI_eq]at hr;dsimp only at hr;rw[e1]at hr;refine⟨_,(loop393 K (v:=(x,y,z)) (t:=t) h2 hd (by omega)).trans ?_⟩;rw[e1];exact hr
   ·contradiction
  ·contradiction
noncomputable def A393s:Ann:={ A393 with sum:=fun i=>bif Nat.beq i 7 then some S393 else bif Nat.beq i 13 then some S393i else none }
section
variable {ρ:Type} (cont:SV->HL->Option ρ) (t:List Nd) (p:V3q)
def clU(s:Int × Rat):Option ρ:=bif decide (s.1<0)then clF cont else bif !qFit s.2 then clF cont else cont (tupC s.1 (qNum s.2) (qDen s.2) true) []
theorem gq393:runF cliE A393s 0 Tryz.f11 (bodyOf Tryz.f11) ρ [one (.sl none tNd t),vA p] [] cont =
  if t.length<=2000000 then(bif !tkI t then clF cont else bif bif false then true else !okV3 p then clF cont else if okV3 p=true then(if tkI t=true/\s8v (v3V p)=true/\(0:Int)=0/\(-1:Int) = -1/\(t.length:Int)=(t.length:Int)then clU cont (cjI (v3V p) t)else none)else none)else none:=by kernel_rfl
end
theorem cli_run{ρ:Type} (cont:SV->HL->Option ρ) {t:List Nd} (hl:t.length<=2000000) (p:V3q):runF cliE A393s 0 Tryz.f11 (bodyOf Tryz.f11) ρ [one (.sl none tNd t),vA p] [] cont=cont (tupC (clI t p).1 (clI t p).2.1 (clI t p).2.2.1 (clI t p).2.2.2) []:=by
 rw[gq393,clI_eq,if_pos hl];cases ht:tkI t
 ·rw[tkI_eq]at ht;rw[clV_no (fun e=>by rw[ht]at e;cases e.1)];rfl
 ·have ht':=ht;rw[tkI_eq]at ht';cases hp:okV3 p
  ·rw[clV_no (fun e=>by rw[hp]at e;cases e.2)];rfl
  ·have hv:=s8v_ok hp;obtain⟨L,s,hL,hl,hd,h0,e1,e2⟩:=cj_tok ht' (v3V p);rw[clV_yes ⟨ht',hp⟩];dsimp only;rw[hL,Option.getD_some,e2,Option.getD_some,if_pos rfl,if_pos ⟨rfl,hv,rfl,rfl,rfl⟩,cjI_eq];dsimp only;rw[e1,Option.getD_some];show clU cont s=_;unfold clU clR clF;rw[decide_eq_false (by omega),cond_false];dsimp only;cases hq:qFit s.2
   ·rfl
   ·rfl
theorem orc_cli1:OrcOK NN Tryz.prog 11 clO1:=
 OrcOK.of_tale (runF_ok cliE_ok mixT (A:=A393s) (fuel:=0) Tryz.func11 (c:=bodyOf Tryz.f11) (by kernel_rfl) (SumsOK.ofL (ls:=[loopAt Tryz.f11 0,loopAt Tryz.f11 1]) (by kernel_rfl) ⟨sumL1 (by kernel_rfl) sum393,sumL1 (by kernel_rfl) sum393i,trivial⟩)) fun ρ args H cont r hr=>by
  unfold clO1 at hr;split at hr
  ·rename_i t a b c d e f;split at hr
   ·rename_i hc;exact(cli_run cont (t:=t) hc ((a,b),(c,d),(e,f))).trans hr
   ·contradiction
  ·contradiction
theorem orc_cli:OrcOK NN Tryz.prog 11 clO:=OrcOK.argc orc_cli1 fun args H cont r hr=>by
  unfold clO at hr;split at hr
  ·rename_i nb t a b c d e f;refine⟨[one (.sl none tNd t),i6Z a b c d e f],hr,fun s hs i hi=>?_,fun G κ vs hv=>sl_plains hv⟩;rcases List.mem_cons.1 hs with rfl | hs
   ·cases hi
   ·rw[List.mem_singleton]at hs;subst hs;cases hi
  ·contradiction
end Go.Abs
namespace Go.Abs
open Go.Proofs
set_option maxRecDepth 100000
set_option maxHeartbeats 1000000
noncomputable def w0E:Env:=VZ []
theorem w0E_ok:EnvOK NN Tryz.prog w0E:=VZ_ok (gamN _ _)
noncomputable def q413:Orc:=cR w0E Ash 0 Tryz.f33
theorem q413_ok:OrcOK NN Tryz.prog 33 q413:=cR_ok w0E_ok rfl Tryz.func33 (by kernel_rfl)
noncomputable def w1E:Env:=VZ [(33,q413)]
theorem w1E_ok:EnvOK NN Tryz.prog w1E:=VZ_ok (gamC q413_ok Tryz.call33 (gamN _ _))
noncomputable def q392:Orc:=cR w1E Ash 0 Tryz.f10
theorem q392_ok:OrcOK NN Tryz.prog 10 q392:=cR_ok w1E_ok rfl Tryz.func10 (by kernel_rfl)
noncomputable def w2E:Env:=VZ [(10,q392)]
theorem w2E_ok:EnvOK NN Tryz.prog w2E:=VZ_ok (gamC q392_ok Tryz.call10 (gamN _ _))
noncomputable def q399:Orc:=cR w2E Ash 0 Tryz.f17
theorem q399_ok:OrcOK NN Tryz.prog 17 q399:=cR_ok w2E_ok rfl Tryz.func17 (by kernel_rfl)
noncomputable def w3E:Env:=VZ [(17,q399)]
theorem w3E_ok:EnvOK NN Tryz.prog w3E:=VZ_ok (gamC q399_ok Tryz.call17 (gamN _ _))
noncomputable def q428:Orc:=cR w3E Ash 0 Tryz.f32
theorem q428_ok:OrcOK NN Tryz.prog 32 q428:=cR_ok w3E_ok rfl Tryz.func32 (by kernel_rfl)
noncomputable def q394:Orc:=cR w0E Ash 0 Tryz.f12
theorem q394_ok:OrcOK NN Tryz.prog 12 q394:=cR_ok w0E_ok rfl Tryz.func12 (by kernel_rfl)
noncomputable def w4E:Env:=VZ [(12,q394)]
theorem w4E_ok:EnvOK NN Tryz.prog w4E:=VZ_ok (gamC q394_ok Tryz.call12 (gamN _ _))
noncomputable def q469:Orc:=cR w4E Ash 0 Tryz.f121
theorem q469_ok:OrcOK NN Tryz.prog 121 q469:=cR_ok w4E_ok rfl Tryz.func121 (by kernel_rfl)
noncomputable def w5E:Env:=VZ [(121,q469)]
theorem w5E_ok:EnvOK NN Tryz.prog w5E:=VZ_ok (gamC q469_ok Tryz.call121 (gamN _ _))
noncomputable def q457:Orc:=cR w5E Ash 0 Tryz.f86
theorem q457_ok:OrcOK NN Tryz.prog 86 q457:=cR_ok w5E_ok rfl Tryz.func86 (by kernel_rfl)
noncomputable def w6E:Env:=VZ [(86,q457)]
theorem w6E_ok:EnvOK NN Tryz.prog w6E:=VZ_ok (gamC q457_ok Tryz.call86 (gamN _ _))
def nd15(d:Nd):SV:=.v true [.int .i64 d.1.1.1.1,.int .i64 d.1.1.1.2,.int .i64 d.1.1.2.1.1,.int .i64 d.1.1.2.1.2,.int .i64 d.1.1.2.2.1,.int .i64 d.1.1.2.2.2,.int .i64 d.1.2.1.1,.int .i64 d.1.2.1.2,.int .i64 d.1.2.2.1.1,.int .i64 d.1.2.2.1.2,.int .i64 d.1.2.2.2.1,.int .i64 d.1.2.2.2.2,.int .i64 d.2.1,.int .i64 d.2.2.1,.int .i64 d.2.2.2]
section
variable {ρ:Type} (cont:SV->HL->Option ρ)
def nqK(a b:Int) (k:Option ρ):Option ρ:=bif a != b then cont (one (.bool false)) []else k
theorem gq434(d:Nd):runF w6E Ash 0 Tryz.f45 (bodyOf Tryz.f45) ρ [nd15 d,nd15 d] [] cont=nqK cont d.1.1.1.1 d.1.1.1.1 (nqK cont d.1.1.1.2 d.1.1.1.2 (nqK cont d.1.1.2.1.1 d.1.1.2.1.1 (nqK cont d.1.1.2.1.2 d.1.1.2.1.2 (nqK cont d.1.1.2.2.1 d.1.1.2.2.1 (nqK cont d.1.1.2.2.2 d.1.1.2.2.2 (nqK cont d.1.2.1.1 d.1.2.1.1 (nqK cont d.1.2.1.2 d.1.2.1.2 (nqK cont d.1.2.2.1.1 d.1.2.2.1.1 (nqK cont d.1.2.2.1.2 d.1.2.2.1.2 (nqK cont d.1.2.2.2.1 d.1.2.2.2.1 (nqK cont d.1.2.2.2.2 d.1.2.2.2.2 (nqK cont d.2.1 d.2.1 (nqK cont d.2.2.1 d.2.2.1 (nqK cont d.2.2.2 d.2.2.2 (cont (one (.bool true)) []))))))))))))))):=by kernel_rfl
end
theorem nqK_eq{ρ:Type} (cont:SV->HL->Option ρ) (a:Int) (k:Option ρ):nqK cont a a k=k:=by
 unfold nqK;rw[bne_self_eq_false,cond_false]
def eqdK{ρ:Type} (d e:Nd) (f:Option ρ):Option ρ:=if d=e then f else none
def eqdO:Orc:=fun ρ args H cont=>match args,H with
 | [.v true [.int .i64 a0,.int .i64 a1,.int .i64 a2,.int .i64 a3,.int .i64 a4,.int .i64 a5,.int .i64 a6,.int .i64 a7,.int .i64 a8,.int .i64 a9,.int .i64 a10,.int .i64 a11,.int .i64 a12,.int .i64 a13,.int .i64 a14],.v true [.int .i64 b0,.int .i64 b1,.int .i64 b2,.int .i64 b3,.int .i64 b4,.int .i64 b5,.int .i64 b6,.int .i64 b7,.int .i64 b8,.int .i64 b9,.int .i64 b10,.int .i64 b11,.int .i64 b12,.int .i64 b13,.int .i64 b14]],[]=>eqdK (((((a0,a1),(a2,a3),(a4,a5)),((a6,a7),(a8,a9),(a10,a11))),a12,a13,a14):Nd) (((((b0,b1),(b2,b3),(b4,b5)),((b6,b7),(b8,b9),(b10,b11))),b12,b13,b14):Nd) (cont (one (.bool true)) [])
 | _,_=>none
theorem orc_eqd:OrcOK NN Tryz.prog 45 eqdO:=
 OrcOK.of_tale (cR_ok (A:=Ash) (fuel:=0) w6E_ok rfl Tryz.func45 (by kernel_rfl)) fun ρ args H cont r hr=>by
  unfold eqdO at hr;split at hr
  ·rename_i a0 a1 a2 a3 a4 a5 a6 a7 a8 a9 a10 a11 a12 a13 a14 b0 b1 b2 b3 b4 b5 b6 b7 b8 b9 b10 b11 b12 b13 b14;unfold eqdK at hr;split at hr
   ·rename_i hc;simp only [Prod.mk.injEq]at hc;obtain⟨⟨⟨⟨rfl,rfl⟩,⟨rfl,rfl⟩,rfl,rfl⟩,⟨rfl,rfl⟩,⟨rfl,rfl⟩,rfl,rfl⟩,rfl,rfl,rfl⟩:=hc;refine(gq434 cont (((((a0,a1),(a2,a3),(a4,a5)),((a6,a7),(a8,a9),(a10,a11))),a12,a13,a14):Nd)).trans ?_;simp only [nqK_eq];exact hr
   ·contradiction
  ·contradiction
def szF(n l:Int):Int:=bif decide (IntKind.i64.wrap (n-l)<0)then -1 else IntKind.i64.wrap (n-l)
def sznO:Orc:=fun ρ args H cont=>match args,H with
 | [.v false [.sl _ (.pair (.pair (.pair (.pair (.int .i64) (.int .i64)) (.pair (.pair (.int .i64) (.int .i64)) (.pair (.int .i64) (.int .i64)))) (.pair (.pair (.int .i64) (.int .i64)) (.pair (.pair (.int .i64) (.int .i64)) (.pair (.int .i64) (.int .i64))))) (.pair (.int .i64) (.pair (.int .i64) (.int .i64)))) t],.v false [.int .i64 n]],[]=>cont (one (.int .i64 (szF n (List.length (α:=Nd) t:Int)))) []
 | _,_=>none
theorem gq389{ρ:Type} (cont:SV->HL->Option ρ) (nb:Option Bool) (t:List Nd) (n:Int):runF w0E Ash 0 Tryz.f7 (bodyOf Tryz.f7) ρ [one (.sl nb tNd t),one (.int .i64 n)] [] cont =
  bif decide (IntKind.i64.wrap (n-(t.length:Int))<0)then cont (one (.int .i64 (-1))) []else cont (one (.int .i64 (IntKind.i64.wrap (n-(t.length:Int))))) []:=by kernel_rfl
theorem orc_szn:OrcOK NN Tryz.prog 7 sznO:=
 OrcOK.of_tale (cR_ok (A:=Ash) (fuel:=0) w0E_ok rfl Tryz.func7 (by kernel_rfl)) fun ρ args H cont r hr=>by
  unfold sznO at hr;split at hr
  ·rename_i nb t n;refine(gq389 cont nb t n).trans (Eq.trans ?_ hr);unfold szF;cases decide (IntKind.i64.wrap (n-(List.length (α:=Nd) t:Int))<0) <;> rfl
  ·contradiction
end Go.Abs

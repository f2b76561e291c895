/-
 A PART OF THE PROOF of ClI (texts AbsP): the claim itself stands in the last text. No conditions beside those of the given row.
-/
import Derived.Test.YtjefeldkonejcaaGreatAbsO
set_option linter.unusedVariables false
set_option linter.unnecessarySimpa false
set_option linter.unusedSimpArgs false
namespace Go.Abs
section
variable {ρ:Type} {N:NumSem} {P:Program} {nt:Nat} {ops:Array Oper} {pres:List (List Nat)} {s0:Slots} {h0:HL}
structure TInv (N:NumSem) (P:Program) (nt:Nat) (ops:Array Oper) (pres:List (List Nat)) (s0:Slots) (h0:HL) (acc:List Rec) (σ:St):Prop where
 facts:Facts N P nt ops pres s0 h0 acc
 sl:∀ t,sget σ.sl t=ovS allL acc (sget s0) t
 hp:∀ l,hget σ.hp l=ovH allL acc (hget h0) l
 base:h0.length<=σ.hp.length
 tops:∀ q∈acc,q.top<=σ.hp.length
theorem checkR_ok{pre:List Nat} {acc:List Rec} {r:Rec} {nt:Nat} (h:checkR pre acc r nt=true):r.e.moved=[]/\inB r.dst nt=true/\wfB r.top r.e=true/\r.nid+r.e.new<=r.top /\
  (∀ p∈r.e.sets,p.1<r.top)/\(∀ q∈acc,(∀ t,r.dst=some t->q.dst≠some t)/\(q.i∈pre\/apartR r q=true)):=by
 unfold checkR at h;simp only [Bool.and_eq_true]at h;obtain⟨h1,h2,h3,h4,h5,h6⟩:=h;refine⟨?_,h2,h3,Nat.le_of_ble_eq_true h4,fun p hp=>Nat.le_of_ble_eq_true (List.all_eq_true.1 h5 p hp),fun q hq=>?_⟩
 ·split at h1
  ·assumption
  ·contradiction
 ·have:=List.all_eq_true.1 h6 q hq;simp only [Bool.and_eq_true,Bool.or_eq_true]at this;refine⟨fun t e1 e2=>?_,this.2.imp (fun h=>by rw[List.elem_eq_mem]at h;simpa using h) id⟩;have h7:=this.1;rw[e1,e2]at h7;simp [Nat.beq_refl]at h7
theorem sget_putS(d:Option Tmp) (v:SV) (s:Slots) (t:Nat):sget (putS d v s) t=if d=some t then v else sget s t:=by
 cases d with
 | none=>rfl
 | some d =>
  simp only [putS,sget];cases hb:Nat.beq d t with
  | true=>rw[if_pos (by rw[Nat.eq_of_beq_eq_true hb])];rfl
  | false=>rw[if_neg (by simpa using Nat.ne_of_beq_eq_false hb)];rfl
theorem TInv.push{acc:List Rec} {σ:St} (h:TInv N P nt ops pres s0 h0 acc σ) {k:Nat} (hk:acc.length=k) {o:Oper} (ho:ops[k]? = some o) {e:Eff} {rd:List Nat} {hp':HL} {msl:Slots} {mh:HL}
  (hhp:∀ l,hget hp' l=match setsAt e.sets l with | some b=>b | none=>hget σ.hp l) (hle:σ.hp.length<=hp'.length)
  (hc:checkR (pres.getD k []) acc ⟨k,o.dst,e,σ.hp.length,hp'.length,rd⟩ nt=true)
  (hm1:∀ t,sget msl t=.undef\/(t ∉ maskT pres k 0 ops.toList/\sget msl t=sget σ.sl t))
  (hm2:∀ l,hget mh l ≠ .dead->l∈rd/\killsB (pres.getD k []) acc l=false/\hget mh l=hget σ.hp l)
  (hrun:(o.guard=none/\OpOK N P (hmap mh) σ.hp.length (evS msl) o e) \/
   ∃ j want d b,o.guard=some (j,want)/\dstOf ops.toList j=some d/\sget msl d=gv b /\
    (((b==some want)=true/\OpOK N P (hmap mh) σ.hp.length (evS msl) o e)\/((b==some want)=false/\e=skipEff))) :
  TInv N P nt ops pres s0 h0 (⟨k,o.dst,e,σ.hp.length,hp'.length,rd⟩ :: acc) ⟨putS o.dst e.val σ.sl,hp'⟩:=by
 obtain⟨c1,c2,c3,c4,c5,c6⟩:=checkR_ok hc;refine⟨.cons h.facts ⟨hk.symm,h.base,c1,c2,c3,c4,c5,h.tops,fun q hq=>(c6 q hq).1,fun q hq=>(c6 q hq).2,o,msl,mh,ho,rfl,fun t=>?_,fun l b hb=>?_,hrun⟩,fun t=>?_,fun l=>?_,Nat.le_trans h.base hle,fun q hq=>?_⟩
 ·rcases hm1 t with e | ⟨e1,e2⟩
  ·exact .inl e
  ·exact .inr ⟨e1,by rw[e2,h.sl]⟩
 ·obtain⟨h1,h2⟩:=hmap_eq hb;obtain⟨a1,a2,a3⟩:=hm2 l (by rw[h1];exact h2);refine⟨a1,fun q hq hne=>?_,by rw[<- h.hp,<- a3];exact hb⟩;unfold killsB at a2;have:=List.any_eq_false.1 a2 q hq;simp only [Bool.and_eq_true,Bool.not_eq_true',not_and,Bool.not_eq_true,Option.isSome_eq_false_iff,Option.isNone_iff_eq_none]at this;cases hb:(pres.getD k []).elem q.i with
  | true=>rw[List.elem_eq_mem]at hb;simpa using hb
  | false=>exact absurd (this hb) hne
 ·show sget (putS o.dst e.val σ.sl) t=_;rw[sget_putS];simp only [ovS,allL,true_and];rw[h.sl]
 ·simp only [ovH,allL,if_true];rw[hhp,h.hp];cases setsAt e.sets l <;> rfl
 ·rcases List.mem_cons.1 hq with e | hq
  ·subst e;exact Nat.le_refl _
  ·exact Nat.le_trans (h.tops q hq) hle
theorem runDr_ok{V:Env} (hV:EnvOK N P V) {acc:List Rec} {σ:St} (h:TInv N P nt ops pres s0 h0 acc σ) {k:Nat} (hk:acc.length=k) {o:Oper} (ho:ops[k]? = some o) {K:List Rec->St->Option ρ} {r:ρ}
  (hr:runDr V nt (pres.getD k []) k acc (maskSl (maskT pres k 0 ops.toList) σ.sl) σ o K=some r)
  (hg:o.guard=none \/ ∃ j want d b,o.guard=some (j,want)/\dstOf ops.toList j=some d/\sget (maskSl (maskT pres k 0 ops.toList) σ.sl) d=gv b/\(b==some want)=true) :
  ∃ q σ',K (q :: acc) σ'=some r/\TInv N P nt ops pres s0 h0 (q :: acc) σ':=by
 unfold runDr at hr;simp only at hr;generalize hmsl:maskSl (maskT pres k 0 ops.toList) σ.sl=msl at hr hg;generalize hrd:reach σ.hp 3 (dedup [] (rdBase o.op (svsIds (o.op.operands.toList.map (evS msl)))))=rd at hr;obtain⟨e,hk',hop⟩:=aop_ok (N:=N) hV hr;cases hc:checkR (pres.getD k []) acc ⟨k,o.dst,e,σ.hp.length,(setsL σ.hp e.sets).length,rd⟩ nt with
 | false=>rw[hc]at hk';contradiction
 | true =>
  rw[hc]at hk';simp only [cond_true]at hk';refine⟨_,_,hk',h.push hk ho (msl:=msl) (mh:=maskH rd (killsB (pres.getD k []) acc) 0 σ.hp) (setsL_setsAt e.sets σ.hp) (length_setsL _ _) hc (fun t=>by rw[<- hmsl];exact sget_maskSl _ _ _)
   (fun l hl=>by have:=hget_maskH (l0:=0) hl;simpa using this) ?_⟩
  rcases hg with hg | ⟨j,want,d,b,h1,h2,h3,h4⟩
  ·exact .inl ⟨hg,hop⟩
  ·exact .inr ⟨j,want,d,b,h1,h2,h3,.inl ⟨h4,hop⟩⟩
theorem skipDr_ok{acc:List Rec} {σ:St} (h:TInv N P nt ops pres s0 h0 acc σ) {k:Nat} (hk:acc.length=k) {o:Oper} (ho:ops[k]? = some o) {K:List Rec->St->Option ρ} {r:ρ}
  (hr:skipDr nt (pres.getD k []) k acc σ o K=some r)
  (hg:∃ j want d b,o.guard=some (j,want)/\dstOf ops.toList j=some d/\sget (maskSl (maskT pres k 0 ops.toList) σ.sl) d=gv b/\(b==some want)=false) :
  ∃ q σ',K (q :: acc) σ'=some r/\TInv N P nt ops pres s0 h0 (q :: acc) σ':=by
 unfold skipDr at hr;simp only at hr;cases hc:checkR (pres.getD k []) acc ⟨k,o.dst,skipEff,σ.hp.length,σ.hp.length,[]⟩ nt with
 | false=>rw[hc]at hr;contradiction
 | true =>
  rw[hc]at hr;simp only [cond_true]at hr;obtain⟨j,want,d,b,h1,h2,h3,h4⟩:=hg;exact⟨_,_,hr,h.push hk ho (e:=skipEff) (hp':=σ.hp) (msl:=maskSl (maskT pres k 0 ops.toList) σ.sl) (mh:=[]) (fun l=>rfl) (Nat.le_refl _) hc (fun t=>sget_maskSl _ _ _)
   (fun l hl=>by simp [hget]at hl) (.inr ⟨j,want,d,b,h1,h2,h3,.inr ⟨h4,rfl⟩⟩)⟩
theorem TInv.again{acc:List Rec} {σ:St} (h:TInv N P nt ops pres s0 h0 acc σ) {d:Nat} {s:SV} (hs:sget σ.sl d=s):TInv N P nt ops pres s0 h0 acc ⟨(d,s) :: σ.sl,σ.hp⟩:=
 ⟨h.facts,fun t=>by
  rw[<- h.sl];simp only [sget];cases hb:Nat.beq d t with
  | true=>rw[<- Nat.eq_of_beq_eq_true hb,hs];rfl
  | false=>rfl,h.hp,h.base,h.tops⟩
theorem sget_maskSl_not{s:Slots} {t:Nat}:∀ {m:List Tmp},t ∉ m->sget (maskSl m s) t=sget s t
 | [],_=>rfl
 | d :: m,h=>by
  simp only [List.mem_cons,not_or]at h;simp only [maskSl,sget];cases hb:Nat.beq d t with
  | true=>exact absurd (Nat.eq_of_beq_eq_true hb).symm h.1
  | false=>exact sget_maskSl_not h.2
theorem regDr_ok{V:Env} (hV:EnvOK N P V):∀ {l:List Oper} {k:Nat} {acc:List Rec} {σ:St} {K:List Rec->St->Option ρ} {r:ρ},
  regDr V nt ops.toList pres l k acc σ K=some r->(∀ i,l[i]? = ops[k+i]?)->acc.length=k->TInv N P nt ops pres s0 h0 acc σ ->
  ∃ recs σ',K recs σ'=some r/\recs.length=k+l.length/\TInv N P nt ops pres s0 h0 recs σ'
 | [],k,acc,σ,K,r,h,hl,hk,ht=>⟨acc,σ,h,by simpa using hk,ht⟩
 | o :: l,k,acc,σ,K,r,h,hl,hk,ht=>by
  have ho:ops[k]? = some o:=by simpa using (hl 0).symm
  have hl':∀ i,l[i]? = ops[k+1+i]?:=fun i=>by
   have:=hl (i+1);rw[show k+(i+1)=k+1+i by omega]at this
   simpa using this
  have fin:∀ {q σ'},regDr V nt ops.toList pres l (k+1) (q :: acc) σ' K=some r->TInv N P nt ops pres s0 h0 (q :: acc) σ' ->
    ∃ recs σ',K recs σ'=some r/\recs.length=k+(o :: l).length/\TInv N P nt ops pres s0 h0 recs σ':=by
   intro q σ' h1 h2;obtain⟨recs,σ2,a,b,c⟩:=regDr_ok hV h1 hl' (by simp [hk]) h2;exact⟨recs,σ2,a,by rw[b];simp;omega,c⟩
  simp only [regDr]at h;split at h
  ·rename_i hg;obtain⟨q,σ',h1,h2⟩:=runDr_ok hV ht hk ho h (.inl hg);exact fin h1 h2
  ·rename_i j want hg;split at h
   ·rename_i d hd;split at h
    ·rename_i hat;obtain⟨q,σ',h1,h2⟩:=skipDr_ok ht hk ho h ⟨j,_,d,none,hg,hd,hat,rfl⟩;exact fin h1 h2
    rename_i s hns hss;obtain⟨at_,hat0,h⟩:=one?_ok h;have hat:sget (maskSl (maskT pres k 0 ops.toList) σ.sl) d=.v false [at_]:=hat0;split at h
    ·rename_i b;have hm:=sget_maskSl σ.sl d (maskT pres k 0 ops.toList);rw[hat]at hm;obtain⟨hm1,hm2⟩:=hm.resolve_left (by simp);have ht1:=ht.again hm2.symm;have hat1:sget (maskSl (maskT pres k 0 ops.toList) ((d,SV.v false [Atom.bool b]) :: σ.sl)) d=one (.bool b):=by
      rw[sget_maskSl_not hm1];simp only [sget,Nat.beq_refl,cond_true];rfl
     cases b <;> cases want <;> simp only [cond_true,cond_false]at h
     ·obtain⟨q,σ',h1,h2⟩:=runDr_ok hV ht1 hk ho h (.inr ⟨j,_,d,some _,hg,hd,hat1,rfl⟩);exact fin h1 h2
     ·obtain⟨q,σ',h1,h2⟩:=skipDr_ok ht1 hk ho h ⟨j,_,d,some _,hg,hd,hat1,rfl⟩;exact fin h1 h2
     ·obtain⟨q,σ',h1,h2⟩:=skipDr_ok ht1 hk ho h ⟨j,_,d,some _,hg,hd,hat1,rfl⟩;exact fin h1 h2
     ·obtain⟨q,σ',h1,h2⟩:=runDr_ok hV ht1 hk ho h (.inr ⟨j,_,d,some _,hg,hd,hat1,rfl⟩);exact fin h1 h2
    ·contradiction
   ·contradiction
theorem backOk_ok:∀ {l:List Oper} {k:Nat},backOk k l=true->∀ {i:Nat} {o:Oper},l[i]? = some o->∀ d∈direct o,d<k+i
 | [],k,_,i,o,h=>by simp at h
 | o' :: l,k,hb,0,o,h=>by
  simp only [List.getElem?_cons_zero,Option.some.injEq]at h;subst h;simp only [backOk,Bool.and_eq_true]at hb;exact fun d hd=>Nat.le_of_ble_eq_true (List.all_eq_true.1 hb.1 d hd)
 | o' :: l,k,hb,i+1,o,h=>by
  simp only [backOk,Bool.and_eq_true]at hb;have:=backOk_ok hb.2 (i:=i) (o:=o) (by simpa using h);intro d hd;have:=this d hd;omega
def cntU(L:Nat->Bool) (l:List Nat):Nat:=(l.filter fun j=>!L j).length
theorem cntU_le(L:Nat->Bool) (i:Nat):∀ (l:List Nat),cntU (addL L i) l<=cntU L l
 | []=>Nat.le_refl _
 | x :: l=>by
  have ih:=cntU_le L i l;simp only [cntU,List.filter_cons]at ih ⊢;cases hL:L x with
  | true =>
   have:addL L i x=true:=by simp [addL,hL]
   simp only [this,Bool.not_true];exact ih
  | false =>
   simp only [Bool.not_false,if_true,List.length_cons];split
   ·simp;exact ih
   ·exact Nat.le_succ_of_le ih
theorem cntU_lt{L:Nat->Bool} {i:Nat} (hL:L i=false):∀ {l:List Nat},i∈l->cntU (addL L i) l<cntU L l
 | [],h=>by cases h
 | x :: l,h=>by
  by_cases hx:x=i
  ·subst hx;have:=cntU_le L x l;simp only [cntU,List.filter_cons,hL,addL_self]at this ⊢;simp;omega
  ·have ih:=cntU_lt hL (l:=l) ((List.mem_cons.1 h).resolve_left fun e=>hx e.symm);simp only [cntU,List.filter_cons,addL_ne L hx]at ih ⊢;split
   ·simp;exact ih
   ·exact ih
theorem cntU_zero{L:Nat->Bool} {l:List Nat} (h:cntU L l=0):∀ j∈l,L j=true:=fun j hj=>by
 unfold cntU at h;have:=List.length_eq_zero_iff.1 h;rw[List.filter_eq_nil_iff]at this
 simpa using this j hj
def lOf(listed:Array Bool):Nat->Bool:=fun j=>listed.getD j false
theorem lOf_set{listed:Array Bool} {i:Nat} (h:i<listed.size):lOf (listed.setIfInBounds i true)=addL (lOf listed) i:=by
 funext j;unfold lOf addL
 by_cases hj:j=i
 ·subst hj;simp [h,Nat.beq_refl]
 ·have:Nat.beq j i=false:=by
   cases hb:Nat.beq j i with
   | false=>rfl
   | true=>exact absurd (Nat.eq_of_beq_eq_true hb) hj
  rw[this,Bool.or_false];simp [Array.getD_eq_getD_getElem?,Array.getElem?_setIfInBounds_ne (Ne.symm hj)]
theorem RegInv.full{C:Ctx} {recs:List Rec} {L:Nat->Bool} {a:Act} {w:World} (hF:Facts N P nt ops pres s0 h0 recs) (h:RegInv N C recs s0 h0 L a w) (hL:∀ q∈recs,L q.i=true):RegInv N C recs s0 h0 allL a w:=by
 obtain⟨G,κ,h1,h2,h3,h4⟩:=h.ex;have e1:hpOf L recs h0=hpOf allL recs h0:=by
  funext l;unfold hpOf;rw[ovH_eq (L':=allL) fun q hq _=>by rw[hL q hq];rfl]
 rw[e1]at h1 h2;refine⟨h.dfr,h.size,G,κ,h1,h2,fun t=>?_,h4⟩;rw[<- ovS_eq (L:=L) (L':=allL) fun q hq _=>by rw[hL q hq];rfl];exact h3 t
theorem dr_any{C:Ctx} {recs:List Rec} (hnt:nt=C.nt) (hF:Facts N P nt ops (ancs [] ops.toList) s0 h0 recs) (hlen':recs.length=ops.size) (hb:backOk 0 ops.toList=true) (hwf:wfH h0)
  (hwfs:∀ t,∀ i∈(sget s0 t).ids,i<h0.length) (hlen:C.H.length<=h0.length) {Q:Exit->Act->World->Prop} (hn:∀ a w,RegInv N C recs s0 h0 allL a w->Q .normal a w) :
  ∀ (fuel:Nat) (listed:Array Bool) (a:Act) (w:World),listed.size=ops.size->cntU (lOf listed) (List.range ops.size)<=fuel ->
   (∀ k,k<ops.size->lOf listed k=true->∀ j∈(ancs [] ops.toList).getD k [],lOf listed j=true)->RegInv N C recs s0 h0 (lOf listed) a w->wpAny P .any ops Q fuel listed a w:=by
 have hall:∀ (listed:Array Bool),listed.size=ops.size->(∀ j∈List.range ops.size,lOf listed j=true)->Region.ready .any ops listed=[]:=fun listed hsz h=>by
  unfold Region.ready;rw[List.filter_eq_nil_iff];intro j hj;have hlt:=List.mem_range.1 hj;have:=h j hj;unfold lOf at this;have h2:listed.getD j true=true:=by
   simp only [Array.getD_eq_getD_getElem?]at this ⊢;have hjs:j<listed.size:=by rw[hsz];exact hlt
   simp only [Array.getElem?_eq_getElem hjs,Option.getD_some]at this ⊢;exact this
  rw[h2];simp
 have hnone:∀ (listed:Array Bool),listed.size=ops.size->Region.ready .any ops listed=[]->∀ j,j<ops.size->lOf listed j=true:=fun listed hsz h j=>by
  induction j using Nat.strongRecOn with
  | _ j ih =>
   intro hj;cases hL:lOf listed j with
   | true=>rfl
   | false =>
    exfalso;unfold Region.ready at h;rw[List.filter_eq_nil_iff]at h;refine h j (List.mem_range.2 hj) ?_;have h2:listed.getD j true=false:=by
     unfold lOf at hL;simp only [Array.getD_eq_getD_getElem?]at hL ⊢;have hjs:j<listed.size:=by rw[hsz];exact hj
     simp only [Array.getElem?_eq_getElem hjs,Option.getD_some]at hL ⊢;exact hL
    rw[h2];have ho:ops[j]? = some ops[j]:=Array.getElem?_eq_getElem hj;rw[ho];simp only [Bool.not_false,Bool.true_and,Option.map_some,Option.getD_some];rw[Array.all_eq_true'];intro e he;cases hbd:Region.binds .any e with
    | false=>rfl
    | true =>
     simp only [Bool.not_true,Bool.false_or];have hd:e.on∈direct ops[j]:=by
      unfold direct;exact List.mem_map.2 ⟨e,List.mem_filter.2 ⟨by simpa using he,hbd⟩,rfl⟩
     have hlt:=backOk_ok hb (i:=j) (o:=ops[j]) (by simpa using ho) _ hd;exact ih e.on (by omega) (by omega)
 have hrec:∀ q∈recs,q.i<ops.size:=fun q hq=>by rw[<- hlen'];exact hF.ixs q hq
 intro fuel
 induction fuel with
 | zero =>
  intro listed a w hsz hc hdc hI;have h0:=cntU_zero (Nat.le_zero.1 hc);exact⟨hall listed hsz h0,hn _ _ (hI.full hF fun q hq=>h0 _ (List.mem_range.2 (hrec q hq)))⟩
 | succ fuel ih =>
  intro listed a w hsz hc hdc hI;refine⟨fun hr=>hn _ _ (hI.full hF fun q hq=>hnone listed hsz hr _ (hrec q hq)),fun i hi=>?_⟩;unfold Region.ready at hi;simp only [List.mem_filter,List.mem_range,Bool.and_eq_true,Bool.not_eq_true']at hi;obtain⟨hilt,hi1,hi2⟩:=hi;have his:i<listed.size:=by rw[hsz];exact hilt
  have hLi:lOf listed i=false:=by
   unfold lOf;simp only [Array.getD_eq_getD_getElem?]at hi1 ⊢;simp only [Array.getElem?_eq_getElem his,Option.getD_some]at hi1 ⊢;exact hi1
  have ho:ops[i]? = some ops[i]:=Array.getElem?_eq_getElem hilt;rw[ho]at hi2;simp only [Option.map_some,Option.getD_some,Array.all_eq_true']at hi2;have hdir:∀ d∈direct ops[i],lOf listed d=true:=fun d hd=>by
   unfold direct at hd;obtain⟨e,he,rfl⟩:=List.mem_map.1 hd;obtain⟨he1,he2⟩:=List.mem_filter.1 he;have:=hi2 e (by simpa using he1);rw[he2]at this
   simpa [lOf] using this
  have hpre:∀ j∈(ancs [] ops.toList).getD i [],lOf listed j=true:=fun j hj=>by
   have:=ancs_mem ops.toList [] i ops[i] (by simpa using ho) j (by simpa using hj);rcases this with h | ⟨d,hd,h⟩
   ·exact hdir j h
   ·have hlt:=backOk_ok hb (i:=i) (o:=ops[i]) (by simpa using ho) _ hd;exact hdc d (by omega) (hdir d hd) j h
  obtain⟨later,r,rest,e,hri⟩:=hF.find (i:=i) (by rw[hlen'];exact hilt);subst hri;subst e;refine dr_step hnt hF hwf hwfs hlen hLi (fun q hq hLq=>hdc q.i (hrec q hq) hLq) hpre hI fun a' w' hI'=>?_
  refine ih _ a' w' (by simpa using hsz) ?_ ?_ ?_
  ·rw[lOf_set his];have:=cntU_lt hLi (List.mem_range.2 hilt);omega
  ·rw[lOf_set his];intro k hk hLk j hj
   by_cases hkr:k=r.i
   ·subst hkr;unfold addL;rw[hpre j hj];rfl
   ·rw[addL_ne _ hkr]at hLk;unfold addL;rw[hdc k hk hLk j hj];rfl
  ·rw[lOf_set his];exact hI'
theorem Inv.drawn{C:Ctx} {σ:St} {a:Act} {w:World} (h:Inv N C σ a w) (n:Nat):Inv N C σ a { w with drawn:=n }:=by
 obtain⟨G,κ,h1,h2,h3,h4⟩:=h.ex;exact⟨h.wf,h.wfs,h.dfr,h.size,h.len,G,κ,⟨h1.gle,h1.size,h1.kept,h1.os,h1.tape,h1.output,h1.gnew,h1.place⟩,⟨h2.ghost,h2.blk,h2.sep,h2.own,h2.inv,h2.off⟩,h3,h4⟩
theorem regAny_ok{V:Env} (hV:EnvOK N P V) (hmix:P.follows .mixedOrders=true) {nt n0:Nat} {ops:Array Oper} {σ:St} {K:St->Option ρ} {r:ρ} (h:regAny V nt n0 ops.toList σ K=some r) :
  ∃ σ',K σ'=some r /\ ∀ {C:Ctx},C.nt=nt->C.H.length=n0->∀ {a:Act} {w:World},Inv N C σ a w->∀ {Q:Exit->Act->World->Prop},(∀ a' w',Inv N C σ' a' w'->Q .normal a' w')->∀ {id:Nat},(Code.region id ops true).wp P Q a w:=by
 unfold regAny at h;cases hb:backOk 0 ops.toList with
 | false=>rw[hb]at h;contradiction
 | true =>
  rw[hb]at h;simp only [cond_true]at h;have ht0:TInv N P nt ops (ancs [] ops.toList) σ.sl σ.hp [] σ:=⟨.nil,fun _=>rfl,fun _=>rfl,Nat.le_refl _,fun _ hq=>by cases hq⟩;obtain⟨recs,σ',hk,hl,ht⟩:=regDr_ok hV h (fun i=>by simp) rfl ht0;cases hst:stayE n0 σ.hp σ'.hp with
  | false=>rw[hst]at hk;contradiction
  | true =>
   rw[hst]at hk;simp only [cond_true]at hk;refine⟨σ',hk,fun{C} c1 c2 {a w} hI Q hn id=>wp_region_any hmix ?_⟩;subst c1;subst c2;have hI1:=hI.drawn (w.drawn+1);refine dr_any rfl ht.facts (by simpa using hl) hb hI.wf hI.wfs hI.len (fun a' w' hR=>hn a' w' ?_) ops.size _ a _ (by simp) ?_ ?_ ?_
   ·obtain⟨G,κ,h1,h2,h3,h4⟩:=hR.ex;have e1:hpOf allL recs σ.hp=hmap σ'.hp:=by
     funext l;unfold hpOf hmap;rw[ht.hp]
    rw[e1]at h1 h2;refine⟨fun l as hl' i hi=>?_,fun t i hi=>?_,hR.dfr,hR.size,Nat.le_trans hI.len ht.base,G,κ,h1,h2,fun t=>by rw[ht.sl];exact h3 t,fun j hj hm=>?_⟩
    ·rw[ht.hp]at hl';rcases ovH_cases allL (hget σ.hp) l recs with e | ⟨q,hq,_,hmem⟩
     ·rw[e]at hl';exact Nat.lt_of_lt_of_le (hI.wf l as hl' i hi) ht.base
     ·rw[hl']at hmem;obtain⟨_,fq⟩:=ht.facts.mem q hq;exact Nat.lt_of_lt_of_le (fq.wfv.2 _ hmem as rfl i hi) (ht.tops q hq)
    ·rw[ht.sl]at hi;rcases ovS_cases allL (sget σ.sl) t recs with e | ⟨q,hq,_,_,e⟩
     ·rw[e]at hi;exact Nat.lt_of_lt_of_le (hI.wfs t i hi) ht.base
     ·rw[e]at hi;obtain⟨_,fq⟩:=ht.facts.mem q hq;exact Nat.lt_of_lt_of_le (fq.wfv.1 i hi) (ht.tops q hq)
    ·refine h4 j hj ?_;have:=List.all_eq_true.1 hst j (List.mem_range.2 hj);rw[hm,Bool.false_or,Bool.not_eq_true']at this;exact this
   ·exact Nat.le_trans (List.length_filter_le _ _) (by simp)
   ·intro k hk hL;unfold lOf at hL;simp [Array.getD_eq_getD_getElem?,hk]at hL
   ·obtain⟨G,κ,h1,h2,h3,h4⟩:=hI1.ex;have hno:∀ q∈recs,lOf (Array.replicate ops.size false) q.i=false:=fun q _=>by
     unfold lOf;rw[Array.getD_eq_getD_getElem?,Array.getElem?_replicate];split <;> rfl
    have eH:∀ l,ovH (lOf (Array.replicate ops.size false)) recs (hget σ.hp) l=hget σ.hp l:=fun l=>by
     rcases ovH_cases (lOf (Array.replicate ops.size false)) (hget σ.hp) l recs with e | ⟨q,hq,hL,_⟩
     ·exact e
     ·rw[hno q hq]at hL;cases hL
    have eS:∀ t,ovS (lOf (Array.replicate ops.size false)) recs (sget σ.sl) t=sget σ.sl t:=fun l=>by
     rcases ovS_cases (lOf (Array.replicate ops.size false)) (sget σ.sl) l recs with e | ⟨q,hq,hL,_⟩
     ·exact e
     ·rw[hno q hq]at hL;cases hL
    have e1:hpOf (lOf (Array.replicate ops.size false)) recs σ.hp=hmap σ.hp:=by
     funext l;unfold hpOf hmap;rw[eH]
    refine⟨hI1.dfr,hI1.size,G,κ,by rw[e1];exact h1,by rw[e1];exact h2,fun t=>by rw[eS];exact h3 t,fun j hj hm=>h4 j hj hm⟩
end
end Go.Abs

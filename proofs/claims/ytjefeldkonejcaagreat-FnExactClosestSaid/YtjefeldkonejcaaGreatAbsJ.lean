/-
 A PART OF THE PROOF of ClI (texts AbsJ AbsK): the claim itself stands in the last text. No conditions beside those of the given row.
-/
import Derived.Test.YtjefeldkonejcaaGreatAbsG
set_option linter.unusedVariables false
set_option linter.unnecessarySimpa false
set_option linter.unusedSimpArgs false
namespace Go.Abs
section
variable {ρ:Type}
def opAppend(T:Tab) (H:HL) (nid t:Nat) (s x:SV) (K:Eff->Option ρ):Option ρ:=
 tfind T t fun e=>(match e.kind with
  | .slice el by' ty=>one? x fun xa=>srcOf H ty xa fun ys=>one? s fun
   | .nils=>(match ys with
    | []=>K { val:=one .nils }
    | _=>if ys.length<=70368744177664/\ys.length*by'<=70368744177664 then K { val:=one (.wsl nid ty.w),sets:=[(nid,.arr el ty ys false true)],new:=1 } else none)
   | .wsl l w=>(match hget H l with
    | .arr el' t' xs frz _=>bif Nat.beq el' el&&Nat.beq w ty.w then(if h:t'=ty then
      (if xs.length+ys.length<=70368744177664/\(xs.length+ys.length)*by'<=70368744177664 then
       K { val:=one (.wsl nid ty.w),sets:=[(l,.dead),(nid,.arr el ty (castDen (congrArg Ty.list h) xs++ys) frz true)],new:=1 } else none)else none)else none
    | _=>none)
   | .osl l w 0 len=>(match hget H l with
    | .arr el' t' xs false _=>bif Nat.beq el' el&&Nat.beq w ty.w then(if h:t'=ty then
      (if len<=xs.length/\len+ys.length<=70368744177664/\(len+ys.length)*by'<=70368744177664 then
       K { val:=one (.wsl nid ty.w),sets:=[(l,.dead),(nid,.arr el ty ((castDen (congrArg Ty.list h) xs).take len++ys) false true)],new:=1 } else none)else none)else none
    | _=>none)
   | _=>none
  | _=>none)
theorem exec_append{o:Oper} {t:Nat} {as ax:Operand} {a:Act} (ho:o.op=.call { callee:=.builtin .append,args:=#[as,ax],argTypes:=#[t,t] }) {P:Program} {w w':World} {v:Value}
  (h:(Builtin.append_ #[t,t] o.type #[a.eval as,a.eval ax]).run P w=.ok v w'):(execOp a.eval o).run P w=.ok (.value v) w':=by
 unfold execOp;simp only [ho,resolve,invoke,builtin,Sem.run_bind,Sem.run_pure,Result.andThen_ok,List.map_toArray,List.map_cons,List.map_nil,h]
theorem opAppend_ok{N:NumSem} {P:Program} {T:Tab} (hT:TabOk P T) {H:HL} {nid:Nat} {ev:Operand->SV} {o:Oper} {t:Nat} {as ax:Operand}
  (ho:o.op=.call { callee:=.builtin .append,args:=#[as,ax],argTypes:=#[t,t] })
  {K:Eff->Option ρ} {r:ρ} (h:opAppend T H nid t (ev as) (ev ax) K=some r):∃ e,K e=some r/\OpOK N P (hmap H) nid ev o e:=by
 unfold opAppend at h;obtain⟨e,he,h⟩:=tfind_ok hT h;have hkk:=te_kind he;split at h
 ·rename_i el by' ty hk
  rw[hk]at hkk;obtain⟨hu,i,z,hi,hsz,hby,hb4,hw0,hz,hzs⟩:=slice_row hkk;obtain⟨xa,hxa,h⟩:=one?_ok h;obtain⟨ys,h,hsrc⟩:=srcOf_ok h;obtain⟨sa,hsa,h⟩:=one?_ok h;have hval:∀ {G:Ghost} {κ:Kap} {a:Act},(∀ x,svR N G κ (ev x) (a.eval x))->AR N G κ sa [a.eval as]/\AR N G κ xa [a.eval ax]:=fun hev=>by
   have h1:=hev as;have h2:=hev ax;rw[hsa]at h1;rw[hxa]at h2;exact⟨one_val h1,one_val h2⟩
  split at h
  ·
   split at h
   ·
    refine⟨_,h,OpOK.pure fun{G κ hf w a} hH hr hev=>?_⟩;obtain⟨h1,h2⟩:=hval hev;simp only [AR,List.cons.injEq,and_true]at h1;have h3:=hsrc hH hr h2;refine⟨.slice none 0 0,exec_append ho ?_,AsR.one rfl⟩;rw[h1];rcases h3 with ⟨h3,_⟩ | ⟨b,o',c,news,h3,hnl,hnews,hone,hnE⟩
    ·rw[h3];simp [Builtin.append_,run_underlying hu,sizeOf,typeInfo,hi,Builtin.lenOf,Builtin.firstCells]
    ·rw[h3];simp [Builtin.append_,run_underlying hu,sizeOf,typeInfo,hi,Builtin.lenOf,Builtin.firstCells,loadCells,loadCellsFrom]
   ·rename_i hne;split at h
    ·rename_i hb;refine⟨_,h,newArr_ok fun{G κ hf w a} hH hr hev=>?_⟩;obtain⟨h1,h2⟩:=hval hev;simp only [AR,List.cons.injEq,and_true]at h1;have h3:=hsrc hH hr h2;rcases h3 with ⟨_,h3⟩ | ⟨b,o',c,news,h3,hnl,hnews,hone,hnE⟩
     ·exact(hne h3).elim
     ·have hpos:0<ys.length:=by
       cases ys with
       | nil=>exact(hne rfl).elim
       | cons y ys=>simp
      have hadd:∀ j,(⟨b,o',none⟩:Addr).add j=⟨b,o'+j,none⟩:=fun j=>Addr.add_lit b o' j
      have hrun:=run_append_nil (P:=P) w t o.type el i z hu hi hz ⟨b,o',none⟩ ys.length c news (by rw[hnl,hsz]) (fun j u hj=>by rw[hadd];exact hnews j u hj) hpos (by omega) (by rw[hby];omega);have hge:=grownCap_ge w ys.length 0 el;have hcm:=grownCap_le_maxLen w ys.length 0 el (by unfold maxLen;omega);generalize grownCap w ys.length 0 el=cap at *;refine⟨_,cap,w.drew,exec_append ho (by rw[h1,h3];exact hrun),rfl,rfl,rfl,rfl,?_,hge,hcm,?_⟩
      ·simp only [Array.size_append,List.size_toArray,hnl,size_zeroCells,hzs,<- Nat.add_mul];congr 1;omega
      ·intro q x hq;obtain⟨vs,h4,h5⟩:=hnE q x hq;refine⟨vs,h4,fun j v hj=>?_⟩;have h6:=h5 j v hj;have hlt:=(List.getElem?_eq_some_iff.1 h6).1;simp only [Array.toList_append];rw[List.getElem?_append_left (by simpa using hlt)];exact h6
    ·contradiction
  ·
   rename_i l wd;split at h
   ·rename_i el' t' xs frz mv hl;cases hb:(Nat.beq el' el&&Nat.beq wd ty.w)with
    | false=>rw[hb]at h;contradiction
    | true =>
     rw[hb]at h;simp only [Bool.and_eq_true]at hb;have hb1:=Nat.eq_of_beq_eq_true hb.1;have hb2:=Nat.eq_of_beq_eq_true hb.2;subst hb1;subst hb2;simp only [cond_true]at h;split at h
     ·rename_i ht;subst ht;split at h
      ·rename_i hc;refine⟨_,h,?_⟩;intro G κ hf w a next Q hH hfr hnm _ hr hev hn;obtain⟨h1,h2⟩:=hval hev;simp only [AR,List.cons.injEq,and_true]at h1;have hfl:=hH l _ (hmap_some hl (by simp));obtain⟨cs,hw,hcsz,hll,hel,hfz⟩:=hr.blk l _ hfl;have hfree:hf nid=none:=hfr 0 Nat.one_pos;have hno0:∀ i as,hf i=some (.var as)->nid ∉ aids as:=fun i as hi=>hnm 0 Nat.one_pos i as hi
       obtain⟨hr1,ht1⟩:=hr.rename hfl (by simp) hfree hno0;have hno:∀ i as,((hf.set l .dead).set nid (.arr el' t' xs frz mv)) i=some (.var as)->nid ∉ aids as:=fun i as hi=>by
        by_cases h1:i=nid
        ·subst h1;rw[Hp.set_same]at hi;simp [Blk.opt]at hi
        ·rw[Hp.set_other _ _ h1]at hi
         by_cases h2:i=l
         ·subst h2;rw[Hp.set_same]at hi;simp [Blk.opt]at hi
         ·rw[Hp.set_other _ _ h2]at hi;exact hno0 i as hi
       have hsx:=hsrc hH hr h2;obtain⟨v',G',p,w',hrun,ht,hr',hv',hp3⟩:=append_core (ty0:=o.type) hr1 hu hi hz hsz hzs (l:=nid) (by rw[Hp.set_same];rfl) hno (Nat.le_refl xs.length) (fun _=>rfl) hsx hc.1 (by rw[hby];exact hc.2);rw[kset_same]at hrun;rw[Hp.set_set]at ht hr';have ht:=ht1.trans ht;rw[List.take_length]at ht hr';have hrun':=exec_append (P:=P) ho (by rw[h1,<- hll.1];exact hrun);unfold Oper.wp;rw[hrun'];refine hn v' G' _ w' ht hr' ?_ ?_
       ·rw[hv'];exact AsR.one (by simp [AR,kset_same])
       ·intro q hq _;have hqn:q≠nid:=by
         rcases hq with hq | hq
         ·exact Nat.ne_of_lt hq
         ·have:nid+1<=q:=hq;omega
        rw[kset_other _ _ hqn,kset_other _ _ hqn]
      ·contradiction
     ·contradiction
   ·contradiction
  ·rename_i l wd len;split at h
   ·rename_i el' t' xs mv hl;cases hb:(Nat.beq el' el&&Nat.beq wd ty.w)with
    | false=>rw[hb]at h;contradiction
    | true =>
     rw[hb]at h;simp only [Bool.and_eq_true]at hb;have hb1:=Nat.eq_of_beq_eq_true hb.1;have hb2:=Nat.eq_of_beq_eq_true hb.2;subst hb1;subst hb2;simp only [cond_true]at h;split at h
     ·rename_i ht;subst ht;split at h
      ·rename_i hc;refine⟨_,h,?_⟩;intro G κ hf w a next Q hH hfr hnm _ hr hev hn;obtain⟨h1,h2⟩:=hval hev;obtain⟨o',h1,hoff,hoc⟩:=h1;simp only [List.cons.injEq,and_true]at h1;have hfl:=hH l _ (hmap_some hl (by simp));obtain⟨cs,hw,hcsz,hll,hel,hfz⟩:=hr.blk l _ hfl;have hfree:hf nid=none:=hfr 0 Nat.one_pos;have hno0:∀ i as,hf i=some (.var as)->nid ∉ aids as:=fun i as hi=>hnm 0 Nat.one_pos i as hi
       obtain⟨hr1,ht1⟩:=hr.rename hfl (by simp) hfree hno0;have hno:∀ i as,((hf.set l .dead).set nid (.arr el' t' xs false mv)) i=some (.var as)->nid ∉ aids as:=fun i as hi=>by
        by_cases h1:i=nid
        ·subst h1;rw[Hp.set_same]at hi;simp [Blk.opt]at hi
        ·rw[Hp.set_other _ _ h1]at hi
         by_cases h2:i=l
         ·subst h2;rw[Hp.set_same]at hi;simp [Blk.opt]at hi
         ·rw[Hp.set_other _ _ h2]at hi;exact hno0 i as hi
       have hsx:=hsrc hH hr h2;obtain⟨v',G',p,w',hrun,ht,hr',hv',hp3⟩:=append_core (ty0:=o.type) hr1 hu hi hz hsz hzs (l:=nid) (by rw[Hp.set_same];rfl) hno hc.1 (fun e=>by cases e) hsx hc.2.1 (by rw[hby];exact hc.2.2);rw[kset_same]at hrun;rw[Hp.set_set]at ht hr';have ht:=ht1.trans ht;have ho0:o'=0:=by simpa using hoff (by omega)
       subst ho0;have hrun':=exec_append (P:=P) ho (by rw[h1];exact hrun);unfold Oper.wp;rw[hrun'];refine hn v' G' _ w' ht hr' ?_ ?_
       ·rw[hv'];exact AsR.one (by simp [AR,kset_same])
       ·intro q hq _;have hqn:q≠nid:=by
         rcases hq with hq | hq
         ·exact Nat.ne_of_lt hq
         ·have:nid+1<=q:=hq;omega
        rw[kset_other _ _ hqn,kset_other _ _ hqn]
      ·contradiction
     ·contradiction
   ·contradiction
  ·contradiction
 ·contradiction
def opLen(T:Tab) (H:HL) (t:Nat) (x:SV) (K:SV->Option ρ):Option ρ:=
 tfind T t fun e=>(match e.kind with
  | .slice ..=>one? x fun a=>(match openW H a with
   | .nils=>K (one (.int .i64 0))
   | .sl _ _ xs=>K (one (.int .i64 xs.length))
   | .osl _ _ _ len=>K (one (.int .i64 len))
   | _=>none)
  | _=>none)
theorem opLen_ok{N:NumSem} {P:Program} {T:Tab} (hT:TabOk P T) {H:HL} {nid:Nat} {ev:Operand->SV} {o:Oper} {t:Nat} {ax:Operand}
  (ho:o.op=.call { callee:=.builtin .len,args:=#[ax],argTypes:=#[t] }) {K:SV->Option ρ} {r:ρ} (h:opLen T H t (ev ax) K=some r):∃ s,K s=some r/\OpOK N P (hmap H) nid ev o { val:=s }:=by
 unfold opLen at h;obtain⟨e,he,h⟩:=tfind_ok hT h;have hkk:=te_kind he;split at h
 ·rename_i el by' ty hk
  rw[hk]at hkk;obtain⟨hu,_⟩:=slice_row hkk;obtain⟨a,ha,h⟩:=one?_ok h;have fin:∀ (n:Nat),(∀ {G:Ghost} {κ:Kap} {hf:Hp} {w:World} {ac:Act},(∀ l b,hmap H l=some b->hf l=some b)->Rel N G κ hf w->AR N G κ (openW H a) [ac.eval ax]->∃ p c,ac.eval ax=.slice p n c) ->
    OpOK N P (hmap H) nid ev o { val:=one (.int .i64 n) }:=by
   intro n hn;refine OpOK.pure fun{G κ hf w ac} hH hr hev=>?_
   have h1:=hev ax;rw[ha]at h1;obtain⟨p,c,hv⟩:=hn hH hr (openW_ok hH hr (one_val h1));refine⟨.int .i64 n,?_,AsR.one rfl⟩;unfold execOp;simp [ho,resolve,invoke,builtin,hv,Builtin.len_,run_underlying hu,goInt]
  split at h
  ·rename_i hop;refine⟨_,h,fin 0 fun{G κ hf w ac} hH hr hv=>?_⟩;rw[hop]at hv;simp only [AR,List.cons.injEq,and_true]at hv;exact⟨_,_,hv⟩
  ·rename_i nil t' xs hop;refine⟨_,h,fin _ fun{G κ hf w ac} hH hr hv=>?_⟩;rw[hop]at hv;obtain⟨v,hv,hs,_⟩:=hv;simp only [List.cons.injEq,and_true]at hv;rcases hs with ⟨hs,hx⟩ | ⟨b,o,c,hs,_⟩
   ·subst hx;exact⟨_,_,hv.trans hs⟩
   ·exact⟨_,_,hv.trans hs⟩
  ·rename_i l w off len hop;refine⟨_,h,fin _ fun{G κ hf w ac} hH hr hv=>?_⟩;rw[hop]at hv;obtain⟨o',hv,_⟩:=hv;simp only [List.cons.injEq,and_true]at hv;exact⟨_,_,hv⟩
  ·contradiction
 ·contradiction
def opMm(mx:Bool) (x y:SV) (K:SV->Option ρ):Option ρ:=
 one? x fun
  | .int k a=>one? y fun
   | .int k' b=>if k=k' then(bif mx then K (one (.int k (if b > a then b else a)))else K (one (.int k (if b<a then b else a))))else none
   | _=>none
  | _=>none
theorem opMm_ok{N:NumSem} {P:Program} {H:Hp} {nid:Nat} {ev:Operand->SV} {o:Oper} {ts:Array TypeId} {mx:Bool} {ax ay:Operand}
  (ho:o.op=.call { callee:=.builtin (bif mx then .max else .min),args:=#[ax,ay],argTypes:=ts }) {K:SV->Option ρ} {r:ρ} (h:opMm mx (ev ax) (ev ay) K=some r):∃ s,K s=some r/\OpOK N P H nid ev o { val:=s }:=by
 unfold opMm at h;obtain⟨a,ha,h⟩:=one?_ok h;split at h
 ·rename_i k x;obtain⟨b,hb,h⟩:=one?_ok h;split at h
  ·rename_i k' y;split at h
   ·rename_i hk;subst hk;have val:∀ {G:Ghost} {κ:Kap} {ac:Act},(∀ x,svR N G κ (ev x) (ac.eval x))->ac.eval ax=.int k x/\ac.eval ay=.int k y:=fun{G κ ac} hev=>by
     have h1:=hev ax;have h2:=hev ay;rw[ha]at h1;rw[hb]at h2;have h1:=one_val h1;have h2:=one_val h2;simp only [AR,List.cons.injEq,and_true]at h1 h2;exact⟨h1,h2⟩
    cases mx with
    | true =>
     refine⟨_,h,OpOK.pure fun{G κ hf w ac} hH hr hev=>?_⟩;obtain⟨h1,h2⟩:=val hev;refine⟨.int k (if y > x then y else x),?_,AsR.one rfl⟩;unfold execOp;simp [ho,resolve,invoke,builtin,h1,h2,Builtin.max_,Builtin.max2]
    | false =>
     refine⟨_,h,OpOK.pure fun{G κ hf w ac} hH hr hev=>?_⟩;obtain⟨h1,h2⟩:=val hev;refine⟨.int k (if y<x then y else x),?_,AsR.one rfl⟩;unfold execOp;simp [ho,resolve,invoke,builtin,h1,h2,Builtin.min_,Builtin.min2]
   ·contradiction
  ·contradiction
 ·contradiction
theorem opFn_ok{N:NumSem} {P:Program} {H:Hp} {nid:Nat} {ev:Operand->SV} {o:Oper} {f:Nat} {caps:Array Operand} (ho:o.op=.makeFunc (.func f) #[] caps)
  {K:SV->Option ρ} {r:ρ} (h:capsOf (caps.toList.map ev) (fun cs=>K (one (.fn f cs)))=some r):∃ s,K s=some r/\OpOK N P H nid ev o { val:=s }:=by
 have key:∀ {xs:List Operand} {g:List (Nat × Nat)->Option ρ},capsOf (xs.map ev) g=some r->∃ cs,g cs=some r /\
   ∀ {N:NumSem} {G:Ghost} {κ:Kap} {ac:Act},(∀ x,svR N G κ (ev x) (ac.eval x))->xs.map ac.eval=cs.map fun c=>.pointer (some ⟨(κ c.1).1,c.2,none⟩):=by
  intro xs
  induction xs with
  | nil=>intro g h;exact⟨[],h,fun _=>rfl⟩
  | cons x xs ih =>
   intro g h;simp only [List.map_cons]at h;unfold capsOf at h;split at h
   ·rename_i heq;cases heq
   ·rename_i l off r' g' heq;simp only [List.cons.injEq]at heq;obtain⟨hx,hr⟩:=heq;subst hr;obtain⟨cs,h1,h2⟩:=ih h;refine⟨_,h1,fun{N G κ ac} hev=>?_⟩;have h3:=hev x;rw[hx]at h3;have h3:=one_val h3;simp only [AR,List.cons.injEq,and_true]at h3;simp [h3,h2 hev]
   ·contradiction
 obtain⟨cs,h1,h2⟩:=key h;refine⟨_,h1,OpOK.pure fun{G κ hf w ac} hH hr hev=>?_⟩;have h3:=h2 hev;refine⟨.func (.func f) #[] (caps.map ac.eval),by simp [execOp,ho,Instr.makeFunc],AsR.one ?_⟩;simp only [AR,List.cons.injEq,and_true];have h4:(caps.toList.map ac.eval).toArray=caps.map ac.eval:=by rw[<- Array.toList_map,Array.toArray_toList]
 rw[<- h3,h4]
end
end Go.Abs
namespace Go.Abs
abbrev Orc:=∀ ρ:Type,List SV->HL->(SV->HL->Option ρ)->Option ρ
def wfH(H:HL):Prop:=∀ j as,hget H j=.var as->∀ i∈aids as,i<H.length
def SvsR(N:NumSem) (G:Ghost) (κ:Kap):List SV->List Value->Prop
 | [],vs=>vs=[]
 | s :: ss,vs=>∃ v r,vs=v :: r/\svR N G κ s v/\SvsR N G κ ss r
def mvB:Blk->Bool
 | .arr _ _ _ _ b=>b
 | .dead=>true
 | _=>false
def OrcOK(N:NumSem) (P:Program) (f:Nat) (F:Orc):Prop:=
 ∀ {ρ:Type} {args:List SV} {H:HL} {cont:SV->HL->Option ρ} {r:ρ},F ρ args H cont=some r->wfH H->(∀ s∈args,∀ i∈s.ids,i<H.length) ->
  ∃ res H',cont res H'=some r/\H.length<=H'.length /\ ∀ {G:Ghost} {κ:Kap} {w:World} {cargs:Array Value},Rel N G κ (hmap H) w->SvsR N G κ args cargs.toList ->
  Calls P f cargs w fun e w'=>∃ G' κ' v,e=.returned v/\Trans G κ (hmap H) w G' κ' (hmap H') w'/\Rel N G' κ' (hmap H') w'/\svR N G' κ' res v /\
   ∀ j,j<H.length->mvB (hget H' j)=false->κ' j=κ j
def renA(φ:Nat->Option Nat):Atom->Atom
 | .ptr l off=>(match φ l with | some j=>.ptr j off | none=>.undef)
 | .eptr l w i off=>(match φ l with | some j=>.eptr j w i off | none=>.undef)
 | .osl l w off len=>(match φ l with | some j=>.osl j w off len | none=>.undef)
 | .wsl l w=>(match φ l with | some j=>.wsl j w | none=>.undef)
 | .mp l=>(match φ l with | some j=>.mp j | none=>.undef)
 | .asl l o n c=>(match φ l with | some j=>.asl j o n c | none=>.undef)
 | .bfn f l b o=>(match φ l with | some j=>.bfn f j b o | none=>.undef)
 | .fn f caps=>(match renC φ caps with | some cs=>.fn f cs | none=>.undef)
 | a=>a
where
 renC (φ:Nat->Option Nat):List (Nat × Nat)->Option (List (Nat × Nat))
  | []=>some []
  | c :: cs=>(match φ c.1 with | some j=>(match renC φ cs with | some r=>some ((j,c.2) :: r) | none=>none) | none=>none)
theorem renC_ok{φ:Nat->Option Nat} {κ κ':Kap} (hφ:∀ l j,φ l=some j->κ' j=κ l):∀ {cs ds:List (Nat × Nat)},renA.renC φ cs=some ds ->
  (ds.map fun c=>Value.pointer (some ⟨(κ' c.1).1,c.2,none⟩))=cs.map fun c=>Value.pointer (some ⟨(κ c.1).1,c.2,none⟩)
 | [],ds,h=>by simp only [renA.renC,Option.some.injEq]at h;subst h;rfl
 | c :: cs,ds,h=>by
  simp only [renA.renC]at h;split at h
  ·rename_i j hj;split at h
   ·rename_i r hr;simp only [Option.some.injEq]at h;subst h;simp [hφ _ _ hj,renC_ok hφ hr]
   ·contradiction
  ·contradiction
theorem renA_ok{N:NumSem} {G:Ghost} {φ:Nat->Option Nat} {κ κ':Kap} (hφ:∀ l j,φ l=some j->κ' j=κ l) {a:Atom} {cs:List Value} (h:AR N G κ a cs):AR N G κ' (renA φ a) cs:=by
 have hu:∀ v,cs=[v]->AR N G κ' .undef cs:=fun v hv=>⟨v,hv,h.plain v (by simp [hv])⟩
 cases a with
 | ptr l off =>
  simp only [renA];split
  ·rename_i j hj;simp only [AR]at h ⊢;rw[hφ _ _ hj];exact h
  ·exact hu _ h
 | eptr l w i off =>
  simp only [renA];split
  ·rename_i j hj;simp only [AR]at h ⊢;rw[hφ _ _ hj];exact h
  ·exact hu _ h
 | osl l w off len =>
  simp only [renA];split
  ·rename_i j hj;simp only [AR]at h ⊢;rw[hφ _ _ hj];exact h
  ·obtain⟨o,h1,_⟩:=h;exact hu _ h1
 | wsl l w =>
  simp only [renA];split
  ·rename_i j hj;simp only [AR]at h ⊢;rw[hφ _ _ hj];exact h
  ·exact hu _ h
 | mp l =>
  simp only [renA];split
  ·rename_i j hj;simp only [AR]at h ⊢;rw[hφ _ _ hj];exact h
  ·exact hu _ h
 | asl l o n c =>
  simp only [renA];split
  ·rename_i j hj;simp only [AR]at h ⊢;rw[hφ _ _ hj];exact h
  ·exact hu _ h
 | bfn f l b o =>
  simp only [renA];split
  ·rename_i j hj;simp only [AR]at h ⊢;rw[hφ _ _ hj];exact h
  ·exact hu _ h
 | fn f caps =>
  simp only [renA];split
  ·rename_i ds hd;simp only [AR]at h ⊢;rw[renC_ok hφ hd];exact h
  ·exact hu _ h
 | num k o=>cases o <;> exact h
 | _=>exact h
theorem renC_ids{φ:Nat->Option Nat} {p:Nat->Prop} (hφ:∀ l j,φ l=some j->p j):∀ {cs ds:List (Nat × Nat)},renA.renC φ cs=some ds->∀ c∈ds,p c.1
 | [],ds,h=>by simp only [renA.renC,Option.some.injEq]at h;subst h;simp
 | c :: cs,ds,h=>by
  simp only [renA.renC]at h;split at h
  ·rename_i j hj;split at h
   ·rename_i r hr;simp only [Option.some.injEq]at h;subst h;intro x hx;rcases List.mem_cons.1 hx with hx | hx
    ·subst hx;exact hφ _ _ hj
    ·exact renC_ids hφ hr x hx
   ·contradiction
  ·contradiction
theorem renA_ids{φ:Nat->Option Nat} {p:Nat->Prop} (hφ:∀ l j,φ l=some j->p j) (a:Atom):∀ i∈(renA φ a).ids,p i:=by
 cases a <;> simp only [renA]
 all_goals first
  | (intro i hi;simp [Atom.ids]at hi;done)
  | skip
 all_goals
  split
  ·rename_i j hj;intro i hi;simp only [Atom.ids,List.mem_singleton]at hi
   first
    | (subst hi;exact hφ _ _ hj)
    | (obtain⟨c,hc,rfl⟩:=List.mem_map.1 hi;exact renC_ids hφ hj c hc)
  ·intro i hi;simp [Atom.ids]at hi
def renAs(φ:Nat->Option Nat):List Atom->List Atom
 | []=>[]
 | a :: r=>renA φ a :: renAs φ r
theorem renAs_ok{N:NumSem} {G:Ghost} {φ:Nat->Option Nat} {κ κ':Kap} (hφ:∀ l j,φ l=some j->κ' j=κ l):∀ {as:List Atom} {cs:List Value},AsR N G κ as cs->AsR N G κ' (renAs φ as) cs
 | [],cs,h=>h
 | a :: as,cs,h=>by
  obtain⟨c,d,e,h1,h2⟩:=h;exact⟨c,d,e,renA_ok hφ h1,renAs_ok hφ h2⟩
theorem renAs_ids{φ:Nat->Option Nat} {p:Nat->Prop} (hφ:∀ l j,φ l=some j->p j):∀ (as:List Atom),∀ i∈aids (renAs φ as),p i
 | [],i,h=>by simp [renAs,aids]at h
 | a :: as,i,h=>by
  simp only [renAs,aids,List.flatMap_cons,List.mem_append]at h;rcases h with h | h
  ·exact renA_ids hφ a i h
  ·exact renAs_ids hφ as i h
def renTup(φ:Nat->Option Nat):List (Bool × List Atom)->List (Bool × List Atom)
 | []=>[]
 | p :: r=>(p.1,renAs φ p.2) :: renTup φ r
def renSV(φ:Nat->Option Nat):SV->SV
 | .undef=>.undef
 | .v g as=>.v g (renAs φ as)
 | .tup vs=>.tup (renTup φ vs)
 | .ifc t a=>.ifc t (renA φ a)
theorem renTup_ok{N:NumSem} {G:Ghost} {φ:Nat->Option Nat} {κ κ':Kap} (hφ:∀ l j,φ l=some j->κ' j=κ l):∀ {vs:List (Bool × List Atom)} {xs:List Value},TupR N G κ vs xs->TupR N G κ' (renTup φ vs) xs
 | [],xs,h=>h
 | p :: ps,xs,h=>by
  obtain⟨x,ys,e,h1,h2⟩:=h;refine⟨x,ys,e,?_,renTup_ok hφ h2⟩;obtain⟨g,as⟩:=p;cases g with
  | false=>exact renAs_ok hφ h1
  | true=>obtain⟨cs,h1,h3⟩:=h1;exact⟨cs,h1,renAs_ok hφ h3⟩
theorem renSV_ok{N:NumSem} {G:Ghost} {φ:Nat->Option Nat} {κ κ':Kap} (hφ:∀ l j,φ l=some j->κ' j=κ l) {s:SV} {v:Value} (h:svR N G κ s v):svR N G κ' (renSV φ s) v:=by
 cases s with
 | undef=>trivial
 | v g as =>
  cases g with
  | false=>exact renAs_ok hφ h
  | true=>obtain⟨cs,h1,h3⟩:=h;exact⟨cs,h1,renAs_ok hφ h3⟩
 | tup vs=>obtain⟨xs,h1,h2⟩:=h;exact⟨xs,h1,renTup_ok hφ h2⟩
 | ifc t a=>obtain⟨y,h1,h2⟩:=h;exact⟨y,h1,renA_ok hφ h2⟩
theorem renTup_ids{φ:Nat->Option Nat} {p:Nat->Prop} (hφ:∀ l j,φ l=some j->p j):∀ (vs:List (Bool × List Atom)),∀ i∈tupIds (renTup φ vs),p i
 | [],i,h=>by simp [renTup,tupIds]at h
 | p :: ps,i,h=>by
  simp only [renTup,tupIds,List.mem_append]at h;rcases h with h | h
  ·exact renAs_ids hφ _ i h
  ·exact renTup_ids hφ ps i h
theorem renSV_ids{φ:Nat->Option Nat} {p:Nat->Prop} (hφ:∀ l j,φ l=some j->p j) (s:SV):∀ i∈(renSV φ s).ids,p i:=by
 cases s with
 | undef=>intro i h;simp [renSV,SV.ids]at h
 | v g as=>exact renAs_ids hφ as
 | tup vs=>exact renTup_ids hφ vs
 | ifc t a=>exact renA_ids hφ a
def renB(φ:Nat->Option Nat):Blk->Blk
 | .dead=>.dead
 | .var as=>.var (renAs φ as)
 | b=>b
def freshB:Blk->Blk
 | .arr e t xs frz _=>.arr e t xs frz false
 | b=>b
theorem isMk_ren(φ:Nat->Option Nat) (as:List Atom):isMk (renAs φ as)=isMk as:=by
 cases as with
 | nil=>rfl
 | cons a r =>
  cases a <;> simp only [renAs,renA] <;> first | rfl | (split <;> rfl)
theorem renB_ok{N:NumSem} {G:Ghost} {φ:Nat->Option Nat} {κ κ':Kap} (hφ:∀ l j,φ l=some j->κ' j=κ l) {w:World} {l l':Nat} (hl:κ' l'=κ l) {b:Blk} (h:BR N G κ w l b):BR N G κ' w l' (renB φ b):=by
 cases b with
 | dead=>exact h
 | var as =>
  obtain⟨o,cs,h1,h3,h2⟩:=h;exact⟨o,cs,by rw[hl];exact h1,by rw[isMk_ren];exact h3,renAs_ok hφ h2⟩
 | arr e t xs frz mv =>
  obtain⟨cs,h1,h2,h3,h4,h5⟩:=h;exact⟨cs,by rw[hl];exact h1,by rw[hl];exact h2,by rw[hl];exact h3,h4,by rw[hl];exact h5⟩
theorem freshB_ok{N:NumSem} {G:Ghost} {κ:Kap} {w:World} {l:Nat} {b:Blk} (h:BR N G κ w l b):BR N G κ w l (freshB b):=by
 cases b <;> exact h
theorem shown_ren(φ:Nat->Option Nat) (b:Blk) (o:Nat):(renB φ b).shown o=b.shown o:=by cases b <;> rfl
theorem shown_fresh(b:Blk) (o:Nat):(freshB b).shown o=b.shown o:=by
 cases b with
 | arr e t xs frz mv=>cases frz <;> rfl
 | _=>rfl
theorem renB_dead(φ:Nat->Option Nat) {b:Blk} (h:renB φ b ≠ .dead):b ≠ .dead:=by cases b <;> simp_all [renB]
theorem freshB_dead{b:Blk} (h:freshB b ≠ .dead):b ≠ .dead:=by cases b <;> simp_all [freshB]
def posOf:List Nat->Nat->Option Nat
 | [],_=>none
 | x :: r,l=>bif Nat.beq x l then some 0 else(match posOf r l with | some j=>some (j+1) | none=>none)
theorem posOf_some:∀ {m:List Nat} {l j:Nat},posOf m l=some j->m[j]? = some l
 | [],l,j,h=>by simp [posOf]at h
 | x :: r,l,j,h=>by
  simp only [posOf]at h;cases hb:Nat.beq x l with
  | true =>
   rw[hb]at h;simp only [cond_true,Option.some.injEq]at h;subst h;simp [Nat.eq_of_beq_eq_true hb]
  | false =>
   rw[hb]at h;simp only [cond_false]at h;split at h
   ·rename_i j' hj;simp only [Option.some.injEq]at h;subst h
    simpa using posOf_some hj
   ·contradiction
theorem posOf_none:∀ {m:List Nat} {l:Nat},posOf m l=none->l ∉ m
 | [],l,_=>by simp
 | x :: r,l,h=>by
  simp only [posOf]at h;cases hb:Nat.beq x l with
  | true=>rw[hb]at h;simp at h
  | false =>
   rw[hb]at h;simp only [cond_false]at h;split at h
   ·contradiction
   ·rename_i hj;have h1:=posOf_none hj;have h2:=Nat.ne_of_beq_eq_false hb;simp only [List.mem_cons,not_or];exact⟨fun e=>h2 e.symm,h1⟩
def expH(H:HL) (m:List Nat):HL:=m.map fun l=>freshB (renB (posOf m) (hget H l))
theorem hget_map(f:Nat->Blk):∀ (m:List Nat) (j:Nat),hget (m.map f) j=match m[j]? with | some l=>f l | none=>.dead
 | [],j=>by simp [hget]
 | x :: r,0=>by simp [hget]
 | x :: r,j+1=>by simpa [hget] using hget_map f r j
theorem hget_len:∀ {H:HL} {j:Nat},hget H j ≠ .dead->j<H.length
 | [],j,h=>by simp [hget]at h
 | b :: r,0,_=>by simp
 | b :: r,j+1,h=>by
  have:=hget_len (H:=r) (j:=j) (by simpa [hget] using h);simp;omega
theorem hmap_eq{H:HL} {l:Nat} {b:Blk} (h:hmap H l=some b):hget H l=b/\b ≠ .dead:=by
 unfold hmap at h;cases hb:hget H l <;> rw[hb]at h <;> simp only [Blk.opt,Option.some.injEq,reduceCtorEq]at h <;> subst h <;> simp
theorem hmap_mk{H:HL} {l:Nat} {b:Blk} (h:hget H l=b) (hb:b ≠ .dead):hmap H l=some b:=hmap_some h hb
theorem nodup_inj:∀ {m:List Nat} {i j l:Nat},m.Nodup->m[i]? = some l->m[j]? = some l->i=j
 | [],i,j,l,_,h,_=>by simp at h
 | x :: m,0,0,l,_,_,_=>rfl
 | x :: m,0,j+1,l,hm,h,h'=>by
  simp only [List.getElem?_cons_zero,Option.some.injEq,List.getElem?_cons_succ]at h h';subst h;exact absurd (List.mem_of_getElem? h') (List.nodup_cons.1 hm).1
 | x :: m,i+1,0,l,hm,h,h'=>by
  simp only [List.getElem?_cons_zero,Option.some.injEq,List.getElem?_cons_succ]at h h';subst h';exact absurd (List.mem_of_getElem? h) (List.nodup_cons.1 hm).1
 | x :: m,i+1,j+1,l,hm,h,h'=>by
  simp only [List.getElem?_cons_succ]at h h';rw[nodup_inj (List.nodup_cons.1 hm).2 h h']
theorem expH_rel{N:NumSem} {G:Ghost} {κ:Kap} {H:HL} {hf:Hp} {w:World} (hH:∀ l b,hmap H l=some b->hf l=some b) (hr:Rel N G κ hf w) {m:List Nat} (hm:m.Nodup) :
  Rel N G (fun j=>κ (m.getD j 0)) (hmap (expH H m)) w:=by
 have hφ:∀ l j,posOf m l=some j->(fun j=>κ (m.getD j 0)) j=κ l:=fun l j h=>by
  have:=posOf_some h;simp [List.getD,this]
 have key:∀ {j b},hmap (expH H m) j=some b->∃ l,m[j]? = some l/\b=freshB (renB (posOf m) (hget H l))/\hmap H l=some (hget H l):=by
  intro j b h;obtain⟨h1,h2⟩:=hmap_eq h;unfold expH at h1;rw[hget_map]at h1;split at h1
  ·rename_i l hl;refine⟨l,hl,h1.symm,hmap_mk rfl ?_⟩;rw[<- h1]at h2;exact renB_dead _ (freshB_dead h2)
  ·exact absurd h1.symm h2
 have hget:∀ {j l},m[j]? = some l->m.getD j 0=l:=fun h=>by simp [List.getD,h]
 exact
 {ghost:=hr.ghost
  blk:=fun j b h=>by
   obtain⟨l,h1,h2,h3⟩:=key h;subst h2;exact freshB_ok (renB_ok hφ (l:=l) (by show κ (m.getD j 0)=κ l;rw[hget h1]) (hr.blk l _ (hH l _ h3)))
  sep:=fun j j' hj hj' hne=>by
   obtain⟨b,hb⟩:=Option.ne_none_iff_exists'.1 hj;obtain⟨b',hb'⟩:=Option.ne_none_iff_exists'.1 hj';obtain⟨l,h1,h2,h3⟩:=key hb;obtain⟨l',h1',h2',h3'⟩:=key hb';simp only [hget h1,hget h1'];refine hr.sep l l' (by rw[hH l _ h3];simp) (by rw[hH l' _ h3'];simp) ?_
   rintro rfl
   exact hne (nodup_inj hm h1 h1')
  own:=fun j b h o v eg=>by
   obtain⟨l,h1,h2,h3⟩:=key h;subst h2;simp only [hget h1]at eg;rw[shown_fresh,shown_ren];exact hr.own l _ (hH l _ h3) o v eg
  inv:=hr.inv
  off:=fun j hj=>by
   obtain⟨b,hb⟩:=Option.ne_none_iff_exists'.1 hj;obtain⟨l,h1,h2,h3⟩:=key hb;simp only [hget h1];exact hr.off l (by rw[hH l _ h3];simp) }
theorem expH_wf(H:HL) (m:List Nat):wfH (expH H m):=by
 intro j as h i hi;unfold expH at h;rw[hget_map]at h;split at h
 ·rename_i l hl;have hlen:∀ x y,posOf m x=some y->y<m.length:=fun x y hxy=>(List.getElem?_eq_some_iff.1 (posOf_some hxy)).1
  cases hb:hget H l with
  | dead=>rw[hb]at h;simp [renB,freshB]at h
  | var bs =>
   rw[hb]at h;simp only [renB,freshB,Blk.var.injEq]at h;subst h;have:=renAs_ids hlen bs i hi
   simpa [expH] using this
  | arr e t xs frz mv=>rw[hb]at h;simp [renB,freshB]at h
 ·contradiction
def backOf(m:List Nat) (n nid:Nat) (j:Nat):Option Nat:=
 match m[j]? with
 | some l=>some l
 | none=>bif Nat.blt j n then some (nid+(j-m.length))else none
def backSets(m:List Nat) (n nid:Nat):Nat->HL->List (Nat × Blk)
 | _,[]=>[]
 | j,b :: r=>(match backOf m n nid j with
  | some l=>(l,renB (backOf m n nid) b) :: backSets m n nid (j+1) r
  | none=>backSets m n nid (j+1) r)
def movedOf:List Nat->HL->List Nat
 | [],_=>[]
 | _,[]=>[]
 | l :: m,b :: r=>bif mvB b then l :: movedOf m r else movedOf m r
theorem movedOf_mem:∀ {m:List Nat} {H:HL} {l j:Nat},j<H.length->m[j]? = some l->mvB (hget H j)=true->l∈movedOf m H
 | [],H,l,j,_,h,_=>by simp at h
 | x :: m,[],l,j,hj,h,hb=>by simp at hj
 | x :: m,b :: H,l,0,_,h,hb=>by
  simp only [List.getElem?_cons_zero,Option.some.injEq]at h;simp only [hget]at hb;subst h;simp [movedOf,hb]
 | x :: m,b :: H,l,j+1,hj,h,hb=>by
  simp only [List.getElem?_cons_succ]at h;simp only [hget]at hb;have:=movedOf_mem (by simpa using hj) h hb;simp only [movedOf];cases mvB b <;> simp [this]
theorem backOf_some{m:List Nat} {n nid j l:Nat} (h:backOf m n nid j=some l):m[j]? = some l\/(m[j]? = none/\j<n/\l=nid+(j-m.length)):=by
 unfold backOf at h;split at h
 ·rename_i l' hl;simp only [Option.some.injEq]at h;subst h;exact .inl hl
 ·rename_i hl;cases hb:Nat.blt j n with
  | false=>rw[hb]at h;simp at h
  | true =>
   rw[hb]at h;simp only [cond_true,Option.some.injEq]at h;exact .inr ⟨hl,Nat.le_of_ble_eq_true hb,h.symm⟩
theorem backSets_get{m:List Nat} {n nid:Nat}:∀ (r:HL) (j0:Nat) (hf:Hp) (l:Nat),
  (∃ j b,r[j]? = some b/\backOf m n nid (j0+j)=some l/\((backSets m n nid j0 r).foldl (fun h p=>h.set p.1 p.2) hf) l=(renB (backOf m n nid) b).opt) \/
  ((∀ j b,r[j]? = some b->backOf m n nid (j0+j)≠some l)/\((backSets m n nid j0 r).foldl (fun h p=>h.set p.1 p.2) hf) l=hf l):=by
 intro r
 induction r with
 | nil=>intro j0 hf l;exact .inr ⟨fun j b h=>by simp at h,rfl⟩
 | cons b r ih =>
  intro j0 hf l;simp only [backSets];cases hb:backOf m n nid j0 with
  | none =>
   simp only [];rcases ih (j0+1) hf l with ⟨j,b',h1,h2,h3⟩ | ⟨h1,h2⟩
   ·exact .inl ⟨j+1,b',by simpa using h1,by rw[<- h2];congr 1;omega,h3⟩
   ·refine .inr ⟨fun j b' h=>?_,h2⟩;cases j with
    | zero=>rw[Nat.add_zero,hb];simp
    | succ j=>have:=h1 j b' (by simpa using h);rw[show j0+1+j=j0+(j+1)by omega]at this;exact this
  | some l0 =>
   simp only [List.foldl_cons];rcases ih (j0+1) (hf.set l0 (renB (backOf m n nid) b)) l with ⟨j,b',h1,h2,h3⟩ | ⟨h1,h2⟩
   ·exact .inl ⟨j+1,b',by simpa using h1,by rw[<- h2];congr 1;omega,h3⟩
   ·by_cases hl:l=l0
    ·subst hl;refine .inl ⟨0,b,rfl,by simpa using hb,?_⟩;rw[h2,Hp.set_same]
    ·refine .inr ⟨fun j b' h=>?_,by rw[h2,Hp.set_other _ _ hl]⟩;cases j with
     | zero=>rw[Nat.add_zero,hb];intro e;exact hl (Option.some.inj e).symm
     | succ j=>have:=h1 j b' (by simpa using h);rw[show j0+1+j=j0+(j+1)by omega]at this;exact this
theorem hget_get{H:HL} {j:Nat} {b:Blk} (h:H[j]? = some b):hget H j=b:=by
 induction H generalizing j with
 | nil=>simp at h
 | cons x r ih =>
  cases j with
  | zero=>simpa [hget] using h
  | succ j=>exact ih (by simpa using h)
theorem get_hget{H:HL} {j:Nat} (h:j<H.length):H[j]? = some (hget H j):=by
 induction H generalizing j with
 | nil=>simp at h
 | cons x r ih =>
  cases j with
  | zero=>simp [hget]
  | succ j=>simpa [hget] using ih (j:=j) (by simpa using h)
theorem back_rel{N:NumSem} {G G':Ghost} {κ κ':Kap} {H Hc:HL} {hf:Hp} {w w':World} {m:List Nat} {nid:Nat} (hm:m.Nodup) (hmn:∀ l∈m,l<nid)
  (hH:∀ l b,hmap H l=some b->hf l=some b) (hr:Rel N G κ hf w)
  (ht:Trans G (fun j=>κ (m.getD j 0)) (hmap (expH H m)) w G' κ' (hmap Hc) w') (hr':Rel N G' κ' (hmap Hc) w') (hlen:m.length<=Hc.length)
  (hstay:∀ j,j<m.length->mvB (hget Hc j)=false->κ' j=κ (m.getD j 0))
  (hfree:∀ i,i<Hc.length-m.length->hf (nid+i)=none) (hnofresh:∀ i,i<Hc.length-m.length->∀ l as,hf l=some (.var as)->nid+i ∉ aids as)
  (hmv:∀ i∈movedOf m Hc,∀ l as,hf l=some (.var as)->l ∉ m->i ∉ aids as) :
  ∃ κc:Kap,(∀ j l,backOf m Hc.length nid j=some l->κc l=κ' j)/\(∀ l,(l<nid\/nid+(Hc.length-m.length)<=l)->l ∉ movedOf m Hc->κc l=κ l) /\
   Trans G κ hf w G' κc ((backSets m Hc.length nid 0 Hc).foldl (fun h p=>h.set p.1 p.2) hf) w'/\Rel N G' κc ((backSets m Hc.length nid 0 Hc).foldl (fun h p=>h.set p.1 p.2) hf) w':=by
 let inv:Nat->Option Nat:=fun l=>match posOf m l with
  | some j=>some j
  | none=>if nid<=l/\l<nid+(Hc.length-m.length)then some (m.length+(l-nid))else none
 have hinv:∀ j l,backOf m Hc.length nid j=some l->inv l=some j:=by
  intro j l h;rcases backOf_some h with h | ⟨h1,h2,h3⟩
  ·have hl:l∈m:=List.mem_of_getElem? h;cases hp:posOf m l with
   | none=>exact absurd hl (posOf_none hp)
   | some j' =>
    simp only [inv,hp];rw[nodup_inj hm (posOf_some hp) h]
  ·have hj:m.length<=j:=by
    rcases Nat.lt_or_ge j m.length with h | h
    ·simp [List.getElem?_eq_getElem h]at h1
    ·exact h
   have hnm:posOf m l=none:=by
    cases hp:posOf m l with
    | none=>rfl
    | some j' =>
     have:=hmn l (List.mem_of_getElem? (posOf_some hp));omega
   simp only [inv,hnm];rw[if_pos (by omega)];congr 1;omega
 have hinv2:∀ l j,inv l=some j->backOf m Hc.length nid j=some l/\j<Hc.length:=by
  intro l j h;simp only [inv]at h;split at h
  ·rename_i j' hp;simp only [Option.some.injEq]at h;subst h;have h1:=posOf_some hp;have h2:=(List.getElem?_eq_some_iff.1 h1).1;exact⟨by simp [backOf,h1],by omega⟩
  ·split at h
   ·rename_i hc;simp only [Option.some.injEq]at h;subst h;have h1:m[m.length+(l-nid)]? = none:=List.getElem?_eq_none (by omega);have h2:Nat.blt (m.length+(l-nid)) Hc.length=true:=Nat.ble_eq_true_of_le (by omega);refine⟨?_,by omega⟩;simp only [backOf,h1,h2,cond_true];congr 1;omega
   ·contradiction
 refine⟨fun l=>match inv l with | some j=>κ' j | none=>κ l,fun j l h=>by simp only [hinv j l h],?_,?_⟩
 ·intro l hl hnm;show (match inv l with | some j=>κ' j | none=>κ l)=κ l;cases hi:inv l with
  | none=>rfl
  | some j =>
   show κ' j=κ l;obtain⟨h1,h2⟩:=hinv2 l j hi;rcases backOf_some h1 with h3 | ⟨h3,h4,h5⟩
   ·have h4:=(List.getElem?_eq_some_iff.1 h3).1;have h5:m.getD j 0=l:=by simp [List.getD,h3]
    rw[hstay j h4 ?_,h5];cases hb:mvB (hget Hc j)with
    | false=>rfl
    | true=>exact absurd (movedOf_mem (by omega) h3 hb) hnm
   ·have hj:m.length<=j:=by
     rcases Nat.lt_or_ge j m.length with h | h
     ·simp [List.getElem?_eq_getElem h]at h3
     ·exact h
    omega
 ·generalize hh:(backSets m Hc.length nid 0 Hc).foldl (fun h p=>h.set p.1 p.2) hf=hf';have hgl:∀ l,(∃ j,inv l=some j/\hf' l=(renB (backOf m Hc.length nid) (hget Hc j)).opt)\/(inv l=none/\hf' l=hf l):=by
   intro l;rcases backSets_get (m:=m) (n:=Hc.length) (nid:=nid) Hc 0 hf l with ⟨j,b,h1,h2,h3⟩ | ⟨h1,h2⟩
   ·rw[Nat.zero_add]at h2;rw[hh]at h3;exact .inl ⟨j,hinv _ _ h2,by rw[h3,hget_get h1]⟩
   ·rw[hh]at h2;refine .inr ⟨?_,h2⟩;cases hi:inv l with
    | none=>rfl
    | some j =>
     obtain⟨h3,h4⟩:=hinv2 l j hi;exact absurd (by rw[Nat.zero_add];exact h3) (h1 j _ (get_hget h4))
  have hexp:∀ j,hmap (expH H m) j≠none->∃ l,m[j]? = some l/\hf l≠none:=by
   intro j hj;obtain⟨b,hb⟩:=Option.ne_none_iff_exists'.1 hj;obtain⟨h1,h2⟩:=hmap_eq hb;unfold expH at h1;rw[hget_map]at h1;split at h1
   ·rename_i l hl;refine⟨l,hl,?_⟩;have:=hH l _ (hmap_mk rfl (renB_dead _ (freshB_dead (h1 ▸ h2))));rw[this];simp
   ·exact absurd h1.symm h2
  have hφ:∀ j l,backOf m Hc.length nid j=some l->(fun l=>match inv l with | some j=>κ' j | none=>κ l) l=κ' j:=fun j l h=>by simp only [hinv j l h]
  have hother:∀ l b,inv l=none->hf l=some b->(∀ j,hmap (expH H m) j≠none->(κ (m.getD j 0)).1≠(κ l).1):=by
   intro l b hi hl j hj e;obtain⟨l',h1,h2⟩:=hexp j hj;have h3:m.getD j 0=l':=by simp [List.getD,h1]
   rw[h3]at e;refine hr.sep l' l h2 (by rw[hl];simp) ?_ e
   rintro rfl
   have:inv l'=some j:=hinv j l' (by simp [backOf,h1]);rw[hi]at this;cases this
  have hplace:∀ j,hmap Hc j≠none->w.heap.size<=(κ' j).1 \/ ∃ l,hf l≠none/\(∃ j0:Nat,m[j0]? = some l)/\(κ l).1=(κ' j).1:=by
   intro j hj;rcases ht.place j hj with h | ⟨j0,h1,h2⟩
   ·exact .inl h
   ·obtain⟨l,h3,h4⟩:=hexp j0 h1;refine .inr ⟨l,h4,⟨j0,h3⟩,?_⟩;rw[<- h2];simp [List.getD,h3]
  have hlive:∀ l j,inv l=some j->hf' l=(renB (backOf m Hc.length nid) (hget Hc j)).opt->∀ b,hf' l=some b->∃ b0,hmap Hc j=some b0/\b=renB (backOf m Hc.length nid) b0:=by
   intro l j hi he b hb;rw[hb]at he;cases hbl:hget Hc j with
   | dead=>rw[hbl]at he;simp [renB,Blk.opt]at he
   | var as=>rw[hbl]at he;simp only [renB,Blk.opt,Option.some.injEq]at he;exact⟨_,hmap_mk hbl (by simp),he⟩
   | arr e t xs frz mv=>rw[hbl]at he;simp only [renB,Blk.opt,Option.some.injEq]at he;exact⟨_,hmap_mk hbl (by simp),he⟩
  refine⟨⟨ht.gle,ht.size,?_,ht.os,ht.tape,ht.output,?_,?_⟩,⟨hr'.ghost,?_,?_,?_,hr'.inv,?_⟩⟩
  ·intro b hb hn;refine ht.kept b hb fun j hj e=>?_
   obtain⟨l,h1,h2⟩:=hexp j hj;have h3:m.getD j 0=l:=by simp [List.getD,h1]
   rw[h3]at e;exact hn l h2 e
  ·intro b o v e;rcases ht.gnew b o v e with h | h | ⟨j,h1,h2⟩
   ·exact .inl h
   ·exact .inr (.inl h)
   ·obtain⟨l,h3,h4⟩:=hexp j h1;refine .inr (.inr ⟨l,h4,?_⟩);rw[<- h2];simp [List.getD,h3]
  ·intro l hl;rcases hgl l with ⟨j,hi,he⟩ | ⟨hi,he⟩
   ·obtain⟨b,hb⟩:=Option.ne_none_iff_exists'.1 hl;obtain⟨b0,h1,_⟩:=hlive l j hi he b hb;simp only [hi];rcases hplace j (by rw[h1];simp)with h | ⟨l',h2,_,h3⟩
    ·exact .inl h
    ·exact .inr ⟨l',h2,h3⟩
   ·simp only [hi];rw[he]at hl;exact .inr ⟨l,hl,rfl⟩
  ·intro l b hb;rcases hgl l with ⟨j,hi,he⟩ | ⟨hi,he⟩
   ·obtain⟨b0,h1,h2⟩:=hlive l j hi he b hb;subst h2;exact renB_ok hφ (l:=j) (by simp only [hi]) (hr'.blk j b0 h1)
   ·rw[he]at hb;have h0:=hr.blk l b hb;refine h0.keep ht.gle ?_ (by simp only [hi]) ?_
    ·refine ht.kept _ h0.block fun j hj=>hother l b hi hb j hj
    ·intro as ha i hia;subst ha;cases hii:inv i with
     | none=>rfl
     | some j =>
      simp only [];obtain⟨h1,h2⟩:=hinv2 i j hii;have hlm:l ∉ m:=fun h=>by
       cases hp:posOf m l with
       | none=>exact posOf_none hp h
       | some j'=>simp only [inv,hp]at hi;cases hi
      rcases backOf_some h1 with h3 | ⟨h3,h4,h5⟩
      ·have h4:=(List.getElem?_eq_some_iff.1 h3).1;have h5:m.getD j 0=i:=by simp [List.getD,h3]
       rw[hstay j h4 ?_,h5];cases hbb:mvB (hget Hc j)with
       | false=>rfl
       | true=>exact absurd hia (hmv i (movedOf_mem (by omega) h3 hbb) l as hb hlm)
      ·have hj:m.length<=j:=by
        rcases Nat.lt_or_ge j m.length with h | h
        ·simp [List.getElem?_eq_getElem h]at h3
        ·exact h
       refine absurd hia ?_;rw[h5];exact hnofresh _ (by omega) l as hb
  ·intro l l' hl hl' hne;obtain⟨b,hb⟩:=Option.ne_none_iff_exists'.1 hl;obtain⟨b',hb'⟩:=Option.ne_none_iff_exists'.1 hl';have cross:∀ l l' b b' j,inv l=some j->hf' l=(renB (backOf m Hc.length nid) (hget Hc j)).opt->hf' l=some b->inv l'=none->hf l'=some b'->(κ' j).1≠(κ l').1:=by
    intro l l' b b' j hi he hb hi' hb' e;obtain⟨b0,h1,_⟩:=hlive l j hi he b hb;rcases hplace j (by rw[h1];simp)with h | ⟨l0,h2,⟨j0,h3⟩,h4⟩
    ·have:=(hr.blk l' b' hb').block;omega
    ·refine hr.sep l0 l' h2 (by rw[hb'];simp) ?_ (h4.trans e)
     rintro rfl
     have:inv l0=some j0:=hinv j0 l0 (by simp [backOf,h3]);rw[hi']at this;cases this
   rcases hgl l with ⟨j,hi,he⟩ | ⟨hi,he⟩ <;> rcases hgl l' with ⟨j',hi',he'⟩ | ⟨hi',he'⟩
   ·obtain⟨b0,h1,_⟩:=hlive l j hi he b hb;obtain⟨b0',h1',_⟩:=hlive l' j' hi' he' b' hb';simp only [hi,hi'];refine hr'.sep j j' (by rw[h1];simp) (by rw[h1'];simp) ?_
    rintro rfl
    have h2:=(hinv2 l j hi).1;have h3:=(hinv2 l' j hi').1;rw[h2]at h3;exact hne (Option.some.inj h3)
   ·simp only [hi,hi'];rw[he']at hb';exact cross l l' b b' j hi he hb hi' hb'
   ·simp only [hi,hi'];rw[he]at hb;exact fun e=>cross l' l b' b j' hi' he' hb' hi hb e.symm
   ·simp only [hi,hi'];rw[he]at hb;rw[he']at hb';exact hr.sep l l' (by rw[hb];simp) (by rw[hb'];simp) hne
  ·intro l b hb o v eg;rcases hgl l with ⟨j,hi,he⟩ | ⟨hi,he⟩
   ·obtain⟨b0,h1,h2⟩:=hlive l j hi he b hb;subst h2;simp only [hi]at eg;rw[shown_ren];exact hr'.own j b0 h1 o v eg
   ·rw[he]at hb;simp only [hi]at eg;rcases ht.gnew _ o v eg with h | h | ⟨j,h1,h2⟩
    ·exact hr.own l b hb o v h
    ·have:=(hr.blk l b hb).block;omega
    ·exact absurd h2 (hother l b hi hb j h1)
  ·intro l hl;rcases hgl l with ⟨j,hi,he⟩ | ⟨hi,he⟩
   ·obtain⟨b,hb⟩:=Option.ne_none_iff_exists'.1 hl;obtain⟨b0,h1,_⟩:=hlive l j hi he b hb;simp only [hi];exact hr'.off j (by rw[h1];simp)
   ·simp only [hi];rw[he]at hl;exact hr.off l hl
end Go.Abs

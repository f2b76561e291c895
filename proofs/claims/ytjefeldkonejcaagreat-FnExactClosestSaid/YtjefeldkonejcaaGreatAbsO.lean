/-
 A PART OF THE PROOF of ClI (texts AbsO): the claim itself stands in the last text. No conditions beside those of the given row.
-/
import Derived.Test.YtjefeldkonejcaaGreatAbsM
set_option linter.unusedVariables false
set_option linter.unnecessarySimpa false
set_option linter.unusedSimpArgs false
namespace Go.Abs
def ins(x:Nat) (s:List Nat):List Nat:=bif s.elem x then s else x :: s
theorem mem_ins{x y:Nat} {s:List Nat} (h:y∈ins x s):y=x\/y∈s:=by
 unfold ins at h;cases hb:s.elem x with
 | true=>rw[hb]at h;exact .inr h
 | false=>rw[hb]at h;simpa using h
def uni(a s:List Nat):List Nat:=a.foldl (fun s x=>ins x s) s
theorem mem_uni{y:Nat}:∀ {a s:List Nat},y∈uni a s->y∈a\/y∈s
 | [],s,h=>.inr h
 | x :: a,s,h=>by
  rcases mem_uni (a:=a) (s:=ins x s) h with h | h
  ·exact .inl (by simp [h])
  ·rcases mem_ins h with h | h
   ·exact .inl (by simp [h])
   ·exact .inr h
def direct(o:Oper):List Nat:=(o.after.toList.filter (Region.binds .any ·)).map (·.on)
def closureP(acc:List (List Nat)):List Nat->List Nat->List Nat
 | [],s=>s
 | d :: ds,s=>closureP acc ds (uni (acc.getD d []) (ins d s))
theorem mem_closureP{acc:List (List Nat)} {y:Nat}:∀ {ds s:List Nat},y∈closureP acc ds s->y∈s\/y∈ds \/ ∃ d∈ds,y∈acc.getD d []
 | [],s,h=>.inl h
 | d :: ds,s,h=>by
  rcases mem_closureP (ds:=ds) h with h | h | ⟨d',hd,h⟩
  ·rcases mem_uni h with h | h
   ·exact .inr (.inr ⟨d,by simp,h⟩)
   ·rcases mem_ins h with h | h
    ·exact .inr (.inl (by simp [h]))
    ·exact .inl h
  ·exact .inr (.inl (by simp [h]))
  ·exact .inr (.inr ⟨d',by simp [hd],h⟩)
def ancs:List (List Nat)->List Oper->List (List Nat)
 | acc,[]=>acc
 | acc,o :: r=>ancs (acc ++ [closureP acc (direct o) []]) r
theorem ancs_pre:∀ (r:List Oper) (acc:List (List Nat)),∃ t,ancs acc r=acc++t
 | [],acc=>⟨[],by simp [ancs]⟩
 | o :: r,acc=>by
  obtain⟨t,ht⟩:=ancs_pre r (acc ++ [closureP acc (direct o) []]);exact⟨_,by rw[ancs,ht,List.append_assoc]⟩
theorem ancs_mem:∀ (r:List Oper) (acc:List (List Nat)) (k:Nat) (o:Oper),r[k]? = some o->∀ y∈(ancs acc r).getD (acc.length+k) [],y∈direct o \/ ∃ d∈direct o,y∈(ancs acc r).getD d []
 | [],acc,k,o,h=>by simp at h
 | o' :: r,acc,0,o,h=>by
  simp only [List.getElem?_cons_zero,Option.some.injEq]at h;subst h;intro y hy;obtain⟨t,ht⟩:=ancs_pre r (acc ++ [closureP acc (direct o') []]);have e:ancs acc (o' :: r)=acc++([closureP acc (direct o') []]++t):=by rw[ancs,ht,List.append_assoc]
  rw[e]at hy ⊢;have:(acc++([closureP acc (direct o') []]++t)).getD (acc.length+0) []=closureP acc (direct o') []:=by
   simp [List.getD,List.getElem?_append]
  rw[this]at hy;rcases mem_closureP hy with h | h | ⟨d,hd,h⟩
  ·simp at h
  ·exact .inl h
  ·refine .inr ⟨d,hd,?_⟩;have hlt:d<acc.length:=by
    rcases Nat.lt_or_ge d acc.length with h' | h'
    ·exact h'
    ·simp [List.getD,List.getElem?_eq_none h']at h
   have:(acc++([closureP acc (direct o') []]++t)).getD d []=acc.getD d []:=by
    simp [List.getD,List.getElem?_append_left hlt]
   rw[this];exact h
 | o' :: r,acc,k+1,o,h=>by
  have:=ancs_mem r (acc ++ [closureP acc (direct o') []]) k o (by simpa using h);rw[List.length_append,List.length_singleton,Nat.add_assoc,Nat.add_comm 1 k]at this;exact this
structure Rec where
 i:Nat
 dst:Option Tmp
 e:Eff
 nid:Nat
 top:Nat
 rd:List Nat
def setsAt:List (Nat × Blk)->Nat->Option Blk
 | [],_=>none
 | p :: r,l=>match setsAt r l with
  | some b=>some b
  | none=>if p.1=l then some p.2 else none
theorem setsAt_mem:∀ {s:List (Nat × Blk)} {l:Nat} {b:Blk},setsAt s l=some b->(l,b)∈s
 | [],l,b,h=>by simp [setsAt]at h
 | p :: r,l,b,h=>by
  simp only [setsAt]at h;split at h
  ·rename_i b' hb;simp only [Option.some.injEq]at h;subst h;exact List.mem_cons_of_mem _ (setsAt_mem hb)
  ·split at h
   ·rename_i hp;simp only [Option.some.injEq]at h;subst h;subst hp;exact List.mem_cons_self
   ·contradiction
theorem app_setsAt:∀ (s:List (Nat × Blk)) (hf:Hp) (l:Nat),(s.foldl (fun h p=>h.set p.1 p.2) hf) l=match setsAt s l with | some b=>b.opt | none=>hf l
 | [],hf,l=>rfl
 | p :: r,hf,l=>by
  simp only [List.foldl_cons];rw[app_setsAt r (hf.set p.1 p.2) l];simp only [setsAt];cases setsAt r l with
  | some b=>rfl
  | none =>
   simp only [Hp.set]
   by_cases hp:p.1=l
   ·subst hp;simp
   ·rw[if_neg hp,if_neg (fun e=>hp e.symm)]
theorem setsL_setsAt:∀ (s:List (Nat × Blk)) (H:HL) (l:Nat),hget (setsL H s) l=match setsAt s l with | some b=>b | none=>hget H l
 | [],H,l=>rfl
 | p :: r,H,l=>by
  rw[show setsL H (p :: r)=setsL (hset H p.1 p.2) r from rfl,setsL_setsAt r (hset H p.1 p.2) l];simp only [setsAt];cases setsAt r l with
  | some b=>rfl
  | none =>
   simp only [hget_hset]
   by_cases hp:p.1=l
   ·subst hp;simp
   ·rw[if_neg hp,if_neg (fun e=>hp e.symm)]
def ovH(L:Nat->Bool):List Rec->(Nat->Blk)->Nat->Blk
 | [],h,l=>h l
 | r :: rs,h,l=>if L r.i=true then(match setsAt r.e.sets l with | some b=>b | none=>ovH L rs h l)else ovH L rs h l
def ovS(L:Nat->Bool):List Rec->(Nat->SV)->Nat->SV
 | [],s,t=>s t
 | r :: rs,s,t=>if L r.i=true/\r.dst=some t then r.e.val else ovS L rs s t
theorem ovH_cases(L:Nat->Bool) (h:Nat->Blk) (l:Nat):∀ (rs:List Rec),ovH L rs h l=h l \/ ∃ q∈rs,L q.i=true/\(l,ovH L rs h l)∈q.e.sets
 | []=>.inl rfl
 | r :: rs=>by
  simp only [ovH];split
  ·rename_i hL;split
   ·rename_i b hb;exact .inr ⟨r,by simp,hL,setsAt_mem hb⟩
   ·rcases ovH_cases L h l rs with h | ⟨q,hq,h1,h2⟩
    ·exact .inl h
    ·exact .inr ⟨q,by simp [hq],h1,h2⟩
  ·rcases ovH_cases L h l rs with h | ⟨q,hq,h1,h2⟩
   ·exact .inl h
   ·exact .inr ⟨q,by simp [hq],h1,h2⟩
theorem ovS_cases(L:Nat->Bool) (s:Nat->SV) (t:Nat):∀ (rs:List Rec),ovS L rs s t=s t \/ ∃ q∈rs,L q.i=true/\q.dst=some t/\ovS L rs s t=q.e.val
 | []=>.inl rfl
 | r :: rs=>by
  simp only [ovS];split
  ·rename_i hL;exact .inr ⟨r,by simp,hL.1,hL.2,rfl⟩
  ·rcases ovS_cases L s t rs with h | ⟨q,hq,h1,h2,h3⟩
   ·exact .inl h
   ·exact .inr ⟨q,by simp [hq],h1,h2,h3⟩
theorem ovH_later{L:Nat->Bool} {h:Nat->Blk} {l:Nat} {xs:List Rec}:∀ {rs:List Rec},(∀ q∈rs,L q.i=true->setsAt q.e.sets l=none)->ovH L (rs++xs) h l=ovH L xs h l
 | [],_=>rfl
 | r :: rs,hn=>by
  simp only [List.cons_append,ovH];rw[ovH_later fun q hq=>hn q (by simp [hq])];split
  ·rename_i hL;rw[hn r (by simp) hL]
  ·rfl
theorem ovS_later{L:Nat->Bool} {s:Nat->SV} {t:Nat} {xs:List Rec}:∀ {rs:List Rec},(∀ q∈rs,L q.i=true->q.dst≠some t)->ovS L (rs++xs) s t=ovS L xs s t
 | [],_=>rfl
 | r :: rs,hn=>by
  simp only [List.cons_append,ovS];rw[ovS_later fun q hq=>hn q (by simp [hq])];split
  ·rename_i hL;exact absurd hL.2 (hn r (by simp) hL.1)
  ·rfl
theorem ovH_eq{L L':Nat->Bool} {h:Nat->Blk} {l:Nat}:∀ {rs:List Rec},(∀ q∈rs,setsAt q.e.sets l≠none->L q.i=L' q.i)->ovH L rs h l=ovH L' rs h l
 | [],_=>rfl
 | r :: rs,hn=>by
  simp only [ovH];rw[ovH_eq fun q hq=>hn q (by simp [hq])];cases hs:setsAt r.e.sets l with
  | none=>simp
  | some b=>rw[hn r (by simp) (by rw[hs];simp)]
theorem ovS_eq{L L':Nat->Bool} {s:Nat->SV} {t:Nat}:∀ {rs:List Rec},(∀ q∈rs,q.dst=some t->L q.i=L' q.i)->ovS L rs s t=ovS L' rs s t
 | [],_=>rfl
 | r :: rs,hn=>by
  simp only [ovS];rw[ovS_eq fun q hq=>hn q (by simp [hq])]
  by_cases hd:r.dst=some t
  ·rw[hn r (by simp) hd]
  ·simp [hd]
def outR(q:Rec) (l:Nat):Bool:=Nat.blt l q.nid || Nat.ble q.top l
def apartR(r q:Rec):Bool:=
 r.e.sets.all (fun p=>!q.rd.elem p.1&&((setsAt q.e.sets p.1).isNone&&(outR q p.1&&(match p.2 with | .var as=>(aids as).all (outR q) | _=>true))))&&r.e.val.ids.all (outR q)
def allL:Nat->Bool:=fun _=>true
def maskT(pres:List (List Nat)) (k:Nat):Nat->List Oper->List Tmp
 | _,[]=>[]
 | j,o :: r=>match o.dst with
  | some d=>bif (bif Nat.blt j k then !(pres.getD k []).elem j else bif Nat.blt k j then !(pres.getD j []).elem k else false)then d :: maskT pres k (j+1) r else maskT pres k (j+1) r
  | none=>maskT pres k (j+1) r
theorem maskT_mem{pres:List (List Nat)} {k:Nat} {d:Tmp}:∀ {r:List Oper} {j i:Nat} {o:Oper},r[i]? = some o->o.dst=some d->d ∉ maskT pres k j r ->
  (j+i<k->(j+i)∈pres.getD k [])/\(k<j+i->k∈pres.getD (j+i) [])
 | [],j,i,o,h=>by simp at h
 | o' :: r,j,0,o,h=>by
  intro hd hm;simp only [List.getElem?_cons_zero,Option.some.injEq]at h;subst h;simp only [maskT,hd]at hm;refine⟨fun hlt=>?_,fun hlt=>?_⟩
  ·have h1:Nat.blt j k=true:=Nat.ble_eq_true_of_le hlt;rw[h1]at hm;simp only [cond_true]at hm;cases he:(pres.getD k []).elem j with
   | true=>rw[List.elem_eq_mem]at he;simpa using he
   | false=>rw[he]at hm;simp at hm
  ·have h1:Nat.blt j k=false:=by
    cases hb:Nat.blt j k with
    | false=>rfl
    | true=>have:=Nat.le_of_ble_eq_true hb;simp only [Nat.add_zero]at hlt;have:j<k:=this;omega
   have h2:Nat.blt k j=true:=Nat.ble_eq_true_of_le (show k+1<=j by omega);rw[h1,h2]at hm;simp only [cond_true,cond_false]at hm;cases he:(pres.getD j []).elem k with
   | true=>rw[List.elem_eq_mem]at he;simpa using he
   | false=>rw[he]at hm;simp at hm
 | o' :: r,j,i+1,o,h=>by
  intro hd hm;have hm':d ∉ maskT pres k (j+1) r:=by
   simp only [maskT]at hm;split at hm
   ·cases hb:(bif Nat.blt j k then !(pres.getD k []).elem j else bif Nat.blt k j then !(pres.getD j []).elem k else false)with
    | true=>rw[hb]at hm;simp only [cond_true,List.mem_cons,not_or]at hm;exact hm.2
    | false=>rw[hb]at hm;exact hm
   ·exact hm
  have:=maskT_mem (r:=r) (j:=j+1) (i:=i) (by simpa using h) hd hm';rw[show j+1+i=j+(i+1)by omega]at this;exact this
def maskSl:List Tmp->Slots->Slots
 | [],s=>s
 | t :: r,s=>(t,.undef) :: maskSl r s
theorem sget_maskSl(s:Slots) (t:Nat):∀ (m:List Tmp),sget (maskSl m s) t=.undef\/(t ∉ m/\sget (maskSl m s) t=sget s t)
 | []=>.inr ⟨by simp,rfl⟩
 | d :: m=>by
  simp only [maskSl,sget];cases hb:Nat.beq d t with
  | true=>exact .inl rfl
  | false =>
   simp only [cond_false];rcases sget_maskSl s t m with h | ⟨h1,h2⟩
   ·exact .inl h
   ·exact .inr ⟨by simp only [List.mem_cons,not_or];exact⟨fun e=>Nat.ne_of_beq_eq_false hb e.symm,h1⟩,h2⟩
def maskH(keep:List Nat) (kill:Nat->Bool):Nat->HL->HL
 | _,[]=>[]
 | l,b :: r=>(bif keep.elem l && !kill l then b else .dead) :: maskH keep kill (l+1) r
theorem hget_maskH{keep:List Nat} {kill:Nat->Bool}:∀ {H:HL} {l0 l:Nat},hget (maskH keep kill l0 H) l ≠ .dead->l0+l∈keep/\kill (l0+l)=false/\hget (maskH keep kill l0 H) l=hget H l
 | [],l0,l,h=>by simp [maskH,hget]at h
 | b :: r,l0,0,h=>by
  simp only [maskH,hget]at h ⊢;cases hk:(keep.elem l0 && !kill l0)with
  | false=>rw[hk]at h;simp at h
  | true =>
   simp only [Bool.and_eq_true,Bool.not_eq_true']at hk;refine⟨?_,hk.2,rfl⟩;have:=hk.1;rw[List.elem_eq_mem]at this
   simpa using this
 | b :: r,l0,l+1,h=>by
  simp only [maskH,hget]at h ⊢;have:=hget_maskH (H:=r) (l0:=l0+1) (l:=l) h;rw[show l0+1+l=l0+(l+1)by omega]at this;exact this
def skipEff:Eff:={ val:=.tup [] }
def killsB(pre:List Nat) (acc:List Rec) (l:Nat):Bool:=acc.any fun q=>!pre.elem q.i&&(setsAt q.e.sets l).isSome
section
variable {ρ:Type}
def checkR(pre:List Nat) (acc:List Rec) (r:Rec) (nt:Nat):Bool:=
 (match r.e.moved with | []=>true | _=>false)&&(inB r.dst nt&&(wfB r.top r.e&&(Nat.ble (r.nid+r.e.new) r.top&&(r.e.sets.all (fun p=>Nat.blt p.1 r.top) &&
  acc.all fun q=>(match r.dst,q.dst with | some x,some y=>!Nat.beq x y | _,_=>true)&&(pre.elem q.i || apartR r q)))))
def rdBase(op:Op) (ids:List Nat):List Nat:=
 match op with
 | .move _=>[]
 | .assign _=>[]
 | .pick _ _ _=>[]
 | .nilCheck _=>[]
 | .fieldAddr _ _ _=>[]
 | .extract _ _=>[]
 | .binOp _ _ _ _ _=>[]
 | .unOp _ _ _=>[]
 | .build _ _=>[]
 | _=>ids
def runDr(V:Env) (nt:Nat) (pre:List Nat) (k:Nat) (acc:List Rec) (msl:Slots) (σ:St) (o:Oper) (K:List Rec->St->Option ρ):Option ρ:=
 let rd:=reach σ.hp 3 (dedup [] (rdBase o.op (svsIds (o.op.operands.toList.map (evS msl)))))
 aop V (maskH rd (killsB pre acc) 0 σ.hp) σ.hp.length (evS msl) o.op fun e =>
  let hp':=setsL σ.hp e.sets
  let r:Rec:=⟨k,o.dst,e,σ.hp.length,hp'.length,rd⟩
  bif checkR pre acc r nt then K (r :: acc) ⟨putS o.dst e.val σ.sl,hp'⟩else none
def skipDr(nt:Nat) (pre:List Nat) (k:Nat) (acc:List Rec) (σ:St) (o:Oper) (K:List Rec->St->Option ρ):Option ρ:=
 let r:Rec:=⟨k,o.dst,skipEff,σ.hp.length,σ.hp.length,[]⟩
 bif checkR pre acc r nt then K (r :: acc) ⟨putS o.dst (.tup []) σ.sl,σ.hp⟩else none
def regDr(V:Env) (nt:Nat) (ops:List Oper) (pres:List (List Nat)):List Oper->Nat->List Rec->St->(List Rec->St->Option ρ)->Option ρ
 | [],k,acc,σ,K=>K acc σ
 | o :: l,k,acc,σ,K =>
  let pre:=pres.getD k []
  let m:=maskT pres k 0 ops
  match o.guard with
  | none=>runDr V nt pre k acc (maskSl m σ.sl) σ o fun acc σ=>regDr V nt ops pres l (k+1) acc σ K
  | some (j,want)=>(match dstOf ops j with
   | some d=>(match sget (maskSl m σ.sl) d with
    | .tup []=>skipDr nt pre k acc σ o fun acc σ=>regDr V nt ops pres l (k+1) acc σ K
    | s=>one? s fun
    | .bool b=>bif b then
      (let σ1:St:=⟨(d,one (.bool true)) :: σ.sl,σ.hp⟩
       bif want then runDr V nt pre k acc (maskSl m σ1.sl) σ1 o fun acc σ=>regDr V nt ops pres l (k+1) acc σ K
       else skipDr nt pre k acc σ1 o fun acc σ=>regDr V nt ops pres l (k+1) acc σ K)
     else
      (let σ1:St:=⟨(d,one (.bool false)) :: σ.sl,σ.hp⟩
       bif want then skipDr nt pre k acc σ1 o fun acc σ=>regDr V nt ops pres l (k+1) acc σ K
       else runDr V nt pre k acc (maskSl m σ1.sl) σ1 o fun acc σ=>regDr V nt ops pres l (k+1) acc σ K)
    | _=>none)
   | none=>none)
def backOk:Nat->List Oper->Bool
 | _,[]=>true
 | k,o :: r=>(direct o).all (Nat.blt · k)&&backOk (k+1) r
def stayE(n0:Nat) (hp hp':HL):Bool:=(List.range n0).all fun j=>mvB (hget hp' j) || !mvB (hget hp j)
def regAny(V:Env) (nt n0:Nat) (ops:List Oper) (σ:St) (K:St->Option ρ):Option ρ:=
 bif backOk 0 ops then regDr V nt ops (ancs [] ops) ops 0 [] σ fun _ σ'=>bif stayE n0 σ.hp σ'.hp then K σ' else none else none
structure Fact (N:NumSem) (P:Program) (nt:Nat) (ops:Array Oper) (pres:List (List Nat)) (s0:Slots) (h0:HL) (rest:List Rec) (r:Rec):Prop where
 ix:r.i=rest.length
 base:h0.length<=r.nid
 mv:r.e.moved=[]
 din:inB r.dst nt=true
 wf:wfB r.top r.e=true
 new:r.nid+r.e.new<=r.top
 keys:∀ p∈r.e.sets,p.1<r.top
 tops:∀ q∈rest,q.top<=r.nid
 dsts:∀ q∈rest,∀ t,r.dst=some t->q.dst≠some t
 apart:∀ q∈rest,q.i∈pres.getD r.i []\/apartR r q=true
 run:∃ (o:Oper) (msl:Slots) (mh:HL),ops[r.i]? = some o/\o.dst=r.dst /\
  (∀ t,sget msl t=.undef\/(t ∉ maskT pres r.i 0 ops.toList/\sget msl t=ovS allL rest (sget s0) t)) /\
  (∀ l b,hmap mh l=some b->l∈r.rd/\(∀ q∈rest,setsAt q.e.sets l≠none->q.i∈pres.getD r.i [])/\(ovH allL rest (hget h0) l).opt=some b) /\
  ((o.guard=none/\OpOK N P (hmap mh) r.nid (evS msl) o r.e) \/
   ∃ j want d b,o.guard=some (j,want)/\dstOf ops.toList j=some d/\sget msl d=gv b /\
    (((b==some want)=true/\OpOK N P (hmap mh) r.nid (evS msl) o r.e)\/((b==some want)=false/\r.e=skipEff)))
inductive Facts (N:NumSem) (P:Program) (nt:Nat) (ops:Array Oper) (pres:List (List Nat)) (s0:Slots) (h0:HL):List Rec->Prop
 | nil:Facts N P nt ops pres s0 h0 []
 | cons {r:Rec} {rest:List Rec}:Facts N P nt ops pres s0 h0 rest->Fact N P nt ops pres s0 h0 rest r->Facts N P nt ops pres s0 h0 (r :: rest)
variable {N:NumSem} {P:Program} {nt:Nat} {ops:Array Oper} {pres:List (List Nat)} {s0:Slots} {h0:HL}
theorem Facts.at{later:List Rec} {r:Rec} {rest:List Rec} (h:Facts N P nt ops pres s0 h0 (later++r :: rest)):Fact N P nt ops pres s0 h0 rest r /\
  ∀ q∈later,q.i≠r.i/\r.top<=q.nid/\(∀ t,q.dst=some t->r.dst≠some t)/\(r.i∈pres.getD q.i []\/apartR q r=true):=by
 induction later with
 | nil=>cases h with | cons h1 h2=>exact⟨h2,by simp⟩
 | cons q later ih =>
  cases h with
  | cons h1 h2 =>
   obtain⟨f,hl⟩:=ih h1;refine⟨f,fun q' hq'=>?_⟩;rcases List.mem_cons.1 hq' with e | e
   ·subst e;refine⟨?_,h2.tops r (by simp),h2.dsts r (by simp),h2.apart r (by simp)⟩;have e1:q'.i=(later++r :: rest).length:=h2.ix;have e2:=f.ix;have e3:(later++r :: rest).length=later.length+(rest.length+1):=by simp
    omega
   ·exact hl q' e
theorem Facts.ixs{recs:List Rec} (h:Facts N P nt ops pres s0 h0 recs):∀ q∈recs,q.i<recs.length:=by
 induction h with
 | nil=>intro q hq;cases hq
 | cons h1 h2 ih =>
  intro q hq;rcases List.mem_cons.1 hq with e | e
  ·subst e;rw[h2.ix];simp
  ·have:=ih q e;simp;omega
theorem Facts.find{recs:List Rec} (h:Facts N P nt ops pres s0 h0 recs) {i:Nat} (hi:i<recs.length):∃ later r rest,recs=later++r :: rest/\r.i=i:=by
 induction h with
 | nil=>simp at hi
 | @cons r rest h1 h2 ih =>
  by_cases he:i=rest.length
  ·exact⟨[],r,rest,rfl,by rw[h2.ix,he]⟩
  ·obtain⟨later,q,rest',e,hq⟩:=ih (by simp at hi;omega);exact⟨r :: later,q,rest',by rw[e];rfl,hq⟩
def hpOf(L:Nat->Bool) (recs:List Rec) (h0:HL):Hp:=fun l=>(ovH L recs (hget h0) l).opt
structure RegInv (N:NumSem) (C:Ctx) (recs:List Rec) (s0:Slots) (h0:HL) (L:Nat->Bool) (a:Act) (w:World):Prop where
 dfr:a.defers=[]
 size:a.tmps.size=C.nt
 ex:∃ G κ,Trans C.G C.κ (hmap C.H) C.w G κ (hpOf L recs h0) w/\Rel N G κ (hpOf L recs h0) w/\(∀ t,svR N G κ (ovS L recs (sget s0) t) (a.tmps.getD t undef)) /\
  ∀ j,j<C.H.length->mvB (hget h0 j)=false->κ j=C.κ j
theorem opt_some{b b':Blk} (h:b.opt=some b'):b=b':=by cases b <;> simp [Blk.opt]at h <;> exact h
def addL(L:Nat->Bool) (i:Nat):Nat->Bool:=fun j=>L j || Nat.beq j i
theorem addL_self(L:Nat->Bool) (i:Nat):addL L i i=true:=by simp [addL,Nat.beq_refl]
theorem addL_ne(L:Nat->Bool) {i j:Nat} (h:j≠i):addL L i j=L j:=by
 unfold addL;cases hb:Nat.beq j i with
 | true=>exact absurd (Nat.eq_of_beq_eq_true hb) h
 | false=>simp
theorem outR_ok{q:Rec} {l:Nat} (h:outR q l=true):l<q.nid\/q.top<=l:=by
 unfold outR at h;simp only [Bool.or_eq_true]at h;rcases h with h | h
 ·exact .inl (Nat.le_of_ble_eq_true h)
 ·exact .inr (Nat.le_of_ble_eq_true h)
theorem apartR_ok{r q:Rec} (h:apartR r q=true):(∀ p∈r.e.sets,p.1 ∉ q.rd/\setsAt q.e.sets p.1=none/\(p.1<q.nid\/q.top<=p.1) /\ ∀ as,p.2=.var as->∀ i∈aids as,i<q.nid\/q.top<=i) /\
  ∀ i∈r.e.val.ids,i<q.nid\/q.top<=i:=by
 unfold apartR at h;simp only [Bool.and_eq_true]at h;refine⟨fun p hp=>?_,fun i hi=>outR_ok (List.all_eq_true.1 h.2 i hi)⟩;have:=List.all_eq_true.1 h.1 p hp;simp only [Bool.and_eq_true,Bool.not_eq_true',List.elem_eq_mem,decide_eq_false_iff_not,Option.isNone_iff_eq_none]at this;refine⟨this.1,this.2.1,outR_ok this.2.2.1,fun as e i hi=>?_⟩;have h3:=this.2.2.2;rw[e]at h3;exact outR_ok (List.all_eq_true.1 h3 i hi)
theorem Fact.wfv{rest:List Rec} {r:Rec} (f:Fact N P nt ops pres s0 h0 rest r):(∀ i∈r.e.val.ids,i<r.top) /\ ∀ p∈r.e.sets,∀ as,p.2=.var as->∀ i∈aids as,i<r.top:=by
 have h:=f.wf;simp only [wfB,Bool.and_eq_true]at h;refine⟨fun i hi=>Nat.le_of_ble_eq_true (List.all_eq_true.1 h.1 i hi),fun p hp as e i hi=>?_⟩;have h3:=List.all_eq_true.1 h.2 p hp;rw[e]at h3;exact Nat.le_of_ble_eq_true (List.all_eq_true.1 h3 i hi)
theorem Facts.mem{recs:List Rec} (h:Facts N P nt ops pres s0 h0 recs):∀ q∈recs,∃ rest,Fact N P nt ops pres s0 h0 rest q:=by
 induction h with
 | nil=>intro q hq;cases hq
 | @cons r rest h1 h2 ih =>
  intro q hq;rcases List.mem_cons.1 hq with e | e
  ·subst e;exact⟨_,h2⟩
  ·exact ih q e
theorem dr_step{C:Ctx} {later:List Rec} {r:Rec} {rest:List Rec} (hnt:nt=C.nt) (hF:Facts N P nt ops pres s0 h0 (later++r :: rest)) (hwf:wfH h0) (hwfs:∀ t,∀ i∈(sget s0 t).ids,i<h0.length) (hlen:C.H.length<=h0.length)
  {L:Nat->Bool} (hL:L r.i=false) (hdc:∀ q∈later++r :: rest,L q.i=true->∀ j∈pres.getD q.i [],L j=true) (hpre:∀ j∈pres.getD r.i [],L j=true)
  {a:Act} {w:World} (hI:RegInv N C (later++r :: rest) s0 h0 L a w) {Q:Exit->Act->World->Prop} {next:Act->World->Prop}
  (hn:∀ a' w',RegInv N C (later++r :: rest) s0 h0 (addL L r.i) a' w'->next a' w'):wpOp P ops Q r.i next a w:=by
 obtain⟨f,hl⟩:=hF.at;obtain⟨o,msl,mh,ho,hod,hm1,hm2,hrun⟩:=f.run;obtain⟨G,κ,ht,hr,hs,hst2⟩:=hI.ex;have hap:∀ q∈later,L q.i=true->apartR q r=true:=fun q hq hLq=>by
  obtain⟨_,_,_,h⟩:=hl q hq;rcases h with h | h
  ·have:=hdc q (by simp [hq]) hLq _ h;rw[hL]at this;cases this
  ·exact h
 have hLH:∀ l,ovH L (r :: rest) (hget h0) l=ovH L rest (hget h0) l:=fun l=>by simp [ovH,hL]
 have hLS:∀ t,ovS L (r :: rest) (sget s0) t=ovS L rest (sget s0) t:=fun t=>by simp [ovS,hL]
 have hsl:∀ t,svR N G κ (sget msl t) (a.tmps.getD t undef):=fun t=>by
  rcases hm1 t with h | ⟨h1,h2⟩
  ·rw[h];trivial
  ·rw[h2];have hcmp:∀ q∈later++r :: rest,q.dst=some t->(q.i<r.i->q.i∈pres.getD r.i [])/\(r.i<q.i->r.i∈pres.getD q.i []):=fun q hq hd=>by
    obtain⟨rest',fq⟩:=hF.mem q hq;obtain⟨oq,_,_,hoq,hodq,_⟩:=fq.run;have:=maskT_mem (r:=ops.toList) (j:=0) (i:=q.i) (o:=oq) (by simpa using hoq) (by rw[hodq,hd]) h1
    simpa using this
   have e1:ovS L (later++r :: rest) (sget s0) t=ovS L (r :: rest) (sget s0) t:=ovS_later fun q hq hLq hd=>by
    obtain⟨hne,_,_,_⟩:=hl q hq;have hgt:r.i<q.i:=by
     obtain⟨l1,l2,e⟩:=List.append_of_mem hq;subst e;have hF':Facts N P nt ops pres s0 h0 (l1++q :: (l2++r :: rest)):=by simpa using hF
     have h1:=hF'.at.1.ix;have h2:=f.ix;have h3:(l2++r :: rest).length=l2.length+(rest.length+1):=by simp
     omega
    have:=hdc q (by simp [hq]) hLq _ ((hcmp q (by simp [hq]) hd).2 hgt);rw[hL]at this;cases this
   have e2:ovS L rest (sget s0) t=ovS allL rest (sget s0) t:=ovS_eq fun q hq hd=>by
    have hlt:q.i<r.i:=by
     rw[f.ix];have hF2:Facts N P nt ops pres s0 h0 rest:=by
      have:∀ later,Facts N P nt ops pres s0 h0 (later++r :: rest)->Facts N P nt ops pres s0 h0 rest:=by
       intro later
       induction later with
       | nil=>intro h;cases h with | cons h1 h2=>exact h1
       | cons q l ih=>intro h;cases h with | cons h1 h2=>exact ih h1
      exact this later hF
     exact hF2.ixs q hq
    rw[hpre _ ((hcmp q (by simp [hq]) hd).1 hlt)];rfl
   rw[<- e2,<- hLS t,<- e1];exact hs t
 have hhp:∀ l b,hmap mh l=some b->hpOf L (later++r :: rest) h0 l=some b:=fun l b hb=>by
  obtain⟨h1,h2,h3⟩:=hm2 l b hb;unfold hpOf;rw[ovH_later,hLH,ovH_eq (L':=allL),h3]
  ·intro q hq hne;rw[hpre _ (h2 q hq hne)];rfl
  ·intro q hq hLq;cases hsa:setsAt q.e.sets l with
   | none=>rfl
   | some b'=>exact absurd h1 ((apartR_ok (hap q hq hLq)).1 (l,b') (setsAt_mem hsa)).1
 have hnewH:∀ l,r.nid<=l->l<r.top->ovH L (later++r :: rest) (hget h0) l=.dead:=fun l h1 h2=>by
  rcases ovH_cases L (hget h0) l (later++r :: rest)with e | ⟨q,hq,hLq,hmem⟩
  ·rw[e];cases hb:hget h0 l with
   | dead=>rfl
   | var as=>have:=hget_len (H:=h0) (j:=l) (by rw[hb];simp);have:=f.base;omega
   | arr _ _ _ _ _=>have:=hget_len (H:=h0) (j:=l) (by rw[hb];simp);have:=f.base;omega
  ·exfalso;rcases List.mem_append.1 hq with hq | hq
   ·have:=((apartR_ok (hap q hq hLq)).1 _ hmem).2.2.1;simp only at this;omega
   ·rcases List.mem_cons.1 hq with e | hq
    ·subst e;rw[hL]at hLq;cases hLq
    ·obtain⟨_,fq⟩:=hF.mem q (by simp [hq]);have h3:=fq.keys _ hmem;have h4:=f.tops q hq;simp only at h3;omega
 have hnewA:∀ i,r.nid<=i->i<r.top->∀ l as,hpOf L (later++r :: rest) h0 l=some (.var as)->i ∉ aids as:=fun i h1 h2 l as hl' hm=>by
  have hl'':=opt_some hl';rcases ovH_cases L (hget h0) l (later++r :: rest)with e | ⟨q,hq,hLq,hmem⟩
  ·rw[e]at hl'';have:=hwf l as hl'' i hm;have:=f.base;omega
  ·rw[hl'']at hmem;rcases List.mem_append.1 hq with hq | hq
   ·have:=((apartR_ok (hap q hq hLq)).1 _ hmem).2.2.2 as rfl i hm;omega
   ·rcases List.mem_cons.1 hq with e | hq
    ·subst e;rw[hL]at hLq;cases hLq
    ·obtain⟨_,fq⟩:=hF.mem q (by simp [hq]);have h3:=fq.wfv.2 _ hmem as rfl i hm;have h4:=f.tops q hq;omega
 have hnewS:∀ t,∀ i∈(ovS L (later++r :: rest) (sget s0) t).ids,i<r.nid\/r.top<=i:=fun t i hi=>by
  rcases ovS_cases L (sget s0) t (later++r :: rest)with e | ⟨q,hq,hLq,_,e⟩
  ·rw[e]at hi;have:=hwfs t i hi;have:=f.base;omega
  ·rw[e]at hi;rcases List.mem_append.1 hq with hq | hq
   ·exact(apartR_ok (hap q hq hLq)).2 i hi
   ·rcases List.mem_cons.1 hq with e | hq
    ·subst e;rw[hL]at hLq;cases hLq
    ·obtain⟨_,fq⟩:=hF.mem q (by simp [hq]);have h3:=fq.wfv.1 i hi;have h4:=f.tops q hq;omega
 have hH':∀ l,ovH (addL L r.i) (later++r :: rest) (hget h0) l=match setsAt r.e.sets l with | some b=>b | none=>ovH L (later++r :: rest) (hget h0) l:=fun l=>by
  cases hsa:setsAt r.e.sets l with
  | some b =>
   rw[ovH_later]
   ·simp only [ovH,addL_self,if_true,hsa]
   ·intro q hq hLq;have hne:=(hl q hq).1;rw[addL_ne L hne]at hLq;cases hsq:setsAt q.e.sets l with
    | none=>rfl
    | some b' =>
     have:=((apartR_ok (hap q hq hLq)).1 (l,b') (setsAt_mem hsq)).2.1;rw[hsa]at this;cases this
  | none =>
   refine ovH_eq fun q hq hne=>?_
   by_cases he:q.i=r.i
   ·exfalso;rcases List.mem_append.1 hq with hq | hq
    ·exact(hl q hq).1 he
    ·rcases List.mem_cons.1 hq with e | hq
     ·subst e;exact hne hsa
     ·have h1:q.i<rest.length:=by
       have hF2:∀ later,Facts N P nt ops pres s0 h0 (later++r :: rest)->Facts N P nt ops pres s0 h0 rest:=by
        intro later
        induction later with
        | nil=>intro h;cases h with | cons h1 h2=>exact h1
        | cons q l ih=>intro h;cases h with | cons h1 h2=>exact ih h1
       exact(hF2 later hF).ixs q hq
      have:=f.ix;omega
   ·exact addL_ne L he
 have hS':∀ t,ovS (addL L r.i) (later++r :: rest) (sget s0) t=if r.dst=some t then r.e.val else ovS L (later++r :: rest) (sget s0) t:=fun t=>by
  split
  ·rename_i hd;rw[ovS_later]
   ·simp [ovS,addL_self,hd]
   ·intro q hq _ hdq;exact(hl q hq).2.2.1 t hdq hd
  ·rename_i hd;refine ovS_eq fun q hq hdq=>?_
   by_cases he:q.i=r.i
   ·exfalso;rcases List.mem_append.1 hq with hq | hq
    ·exact(hl q hq).1 he
    ·rcases List.mem_cons.1 hq with e | hq
     ·subst e;exact hd hdq
     ·have h1:q.i<rest.length:=by
       have hF2:∀ later,Facts N P nt ops pres s0 h0 (later++r :: rest)->Facts N P nt ops pres s0 h0 rest:=by
        intro later
        induction later with
        | nil=>intro h;cases h with | cons h1 h2=>exact h1
        | cons q l ih=>intro h;cases h with | cons h1 h2=>exact ih h1
       exact(hF2 later hF).ixs q hq
      have:=f.ix;omega
   ·exact addL_ne L he
 have happ:r.e.app (hpOf L (later++r :: rest) h0)=hpOf (addL L r.i) (later++r :: rest) h0:=by
  funext l;unfold Eff.app;rw[app_setsAt];unfold hpOf;rw[hH' l];cases setsAt r.e.sets l <;> rfl
 have hput:∀ {G' κ' v} {a':Act} ,a'.tmps=a.tmps->(∀ t,svR N G' κ' (ovS L (later++r :: rest) (sget s0) t) (a.tmps.getD t undef))->svR N G' κ' r.e.val v ->
   ∀ t,svR N G' κ' (ovS (addL L r.i) (later++r :: rest) (sget s0) t) ((a.put r.dst v).tmps.getD t undef):=by
  intro G' κ' v a' _ hold hv t;rw[hS' t];cases hd:r.dst with
  | none=>simpa [Act.put] using hold t
  | some d =>
   have hin:=f.din;rw[hd]at hin;have hdlt:d<a.tmps.size:=by rw[hI.size,<- hnt];exact Nat.le_of_ble_eq_true hin
   by_cases hdt:d=t
   ·subst hdt
    simpa [Act.put,hdlt] using hv
   ·rw[if_neg (by simpa using hdt)];have:({ a with tmps:=a.tmps.setIfInBounds d v }:Act).tmps.getD t undef=a.tmps.getD t undef:=by
     simp [Array.getD_eq_getD_getElem?,Array.getElem?_setIfInBounds_ne hdt]
    show svR N G' κ' _ (({ a with tmps:=a.tmps.setIfInBounds d v }:Act).tmps.getD t undef);rw[this];exact hold t
 have hgo:OpOK N P (hmap mh) r.nid (evS msl) o r.e->o.wp P a w next Q:=fun hop=>by
  refine hop hhp (fun i hi=>?_) (fun i hi l as hl'=>hnewA _ (Nat.le_add_right _ _) (by have:=f.new;omega) l as hl') (fun i hi=>by rw[f.mv]at hi;cases hi) hr (evS_ok hsl) (fun v G' κ' w' ht' hr' hv hκ=>?_)
  ·show (ovH L (later++r :: rest) (hget h0) (r.nid+i)).opt=none;rw[hnewH _ (Nat.le_add_right _ _) (by have:=f.new;omega)];rfl
  ·rw[happ]at ht' hr';have hnew:=f.new;refine hn _ _ ⟨by cases o.dst <;> exact hI.dfr,by cases hd:o.dst with | none=>exact hI.size | some d=>simpa [Act.put] using hI.size,G',κ',ht.trans ht',hr',?_,fun j hj hm=>?_⟩
   ·rw[hod];exact hput (a':=a) rfl (fun t=>(hs t).mono ht'.gle fun l hl'=>hκ l (by have:=hnewS t l hl';omega) (by rw[f.mv];simp)) hv
   ·rw[hκ j (.inl (by have:=f.base;omega)) (by rw[f.mv];simp)];exact hst2 j hj hm
 have hskip:r.e=skipEff->next (a.put o.dst undef) w:=fun he=>by
  have hv:svR N G κ r.e.val undef:=by rw[he];exact⟨#[],rfl,rfl⟩
  have hh:hpOf (addL L r.i) (later++r :: rest) h0=hpOf L (later++r :: rest) h0:=by rw[<- happ,he];rfl
  refine hn _ _ ⟨by cases o.dst <;> exact hI.dfr,by cases hd:o.dst with | none=>exact hI.size | some d=>simpa [Act.put] using hI.size,G,κ,by rw[hh];exact ht,by rw[hh];exact hr,?_,hst2⟩;rw[hod];exact hput (a':=a) rfl hs hv
 unfold wpOp;rw[ho];simp only;rcases hrun with ⟨hg,hop⟩ | ⟨j,want,d,b,hg,hd,hb,hrun⟩
 ·rw[if_pos (by simp [Region.wanted,hg])];exact .inl (hgo hop)
 ·have h4:=hsl d;rw[hb]at h4;have hd':(ops[j]?).bind (·.dst)=some d:=by simpa [dstOf] using hd
  have hw:Region.wanted o (yielded ops a.tmps)=(b==some want):=by
   cases b with
   | none=>exact wanted_none hg hd h4
   | some b =>
    have h4:=one_val h4;simp only [AR,List.cons.injEq,and_true]at h4;have htm:a.tmps[d]? = some (.bool b):=by
     rw[Array.getD_eq_getD_getElem?]at h4;cases hh:a.tmps[d]? with
     | none=>rw[hh]at h4;simp [undef]at h4
     | some v=>rw[hh]at h4;simp at h4;rw[h4]
    simp [Region.wanted,hg,yielded,hd',htm]
  rw[hw];rcases hrun with ⟨hbw,hop⟩ | ⟨hbw,he⟩
  ·rw[if_pos hbw];exact .inl (hgo hop)
  ·rw[if_neg (by rw[hbw];simp)];exact hskip he
end
end Go.Abs

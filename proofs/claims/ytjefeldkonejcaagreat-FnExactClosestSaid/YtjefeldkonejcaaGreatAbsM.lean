/-
 A PART OF THE PROOF of ClI (texts AbsM AbsN): the claim itself stands in the last text. No conditions beside those of the given row.
-/
import Derived.Test.YtjefeldkonejcaaGreatAbsKb
set_option linter.unusedVariables false
set_option linter.unnecessarySimpa false
set_option linter.unusedSimpArgs false
namespace Go.Abs
structure St where
 sl:Slots
 hp:HL
def setMv:Blk->Blk
 | .arr e t xs f _=>.arr e t xs f true
 | b=>b
def remark(old:HL) (mv:List Nat):Nat->HL->HL
 | _,[]=>[]
 | l,b :: r=>(bif mvB (hget old l) || mv.elem l then setMv b else b) :: remark old mv (l+1) r
theorem hget_remark(old:HL) (mv:List Nat):∀ (H:HL) (l j:Nat),hget (remark old mv l H) j=bif mvB (hget old (l+j)) || mv.elem (l+j)then setMv (hget H j)else hget H j
 | [],l,j=>by simp [remark,hget,setMv]
 | b :: r,l,0=>by simp [remark,hget]
 | b :: r,l,j+1=>by
  simp only [remark,hget];rw[hget_remark old mv r (l+1) j];have:l+1+j=l+(j+1):=by omega
  rw[this]
theorem length_remark(old:HL) (mv:List Nat):∀ (H:HL) (l:Nat),(remark old mv l H).length=H.length
 | [],l=>rfl
 | b :: r,l=>by simp [remark,length_remark old mv r]
def Alike(H H':HL):Prop:=∀ l,hget H' l=hget H l\/hget H' l=setMv (hget H l)
theorem Alike.remark(old:HL) (mv:List Nat) (H:HL):Alike H (remark old mv 0 H):=fun l=>by
 rw[hget_remark];cases (mvB (hget old (0+l)) || mv.elem (0+l))with
 | true=>exact .inr rfl
 | false=>exact .inl rfl
theorem Alike.live{H H':HL} (h:Alike H H') (l:Nat):hmap H' l≠none ↔ hmap H l≠none:=by
 unfold hmap;rcases h l with h | h <;> rw[h]
 cases hget H l <;> simp [setMv,Blk.opt]
theorem Alike.rel{N:NumSem} {G:Ghost} {κ:Kap} {w:World} {H H':HL} (h:Alike H H') (r:Rel N G κ (hmap H) w):Rel N G κ (hmap H') w where
 ghost:=r.ghost
 blk:=fun l b e=>by
  obtain⟨h1,h2⟩:=hmap_eq e;rcases h l with h3 | h3
  ·rw[h3]at h1;exact r.blk l b (hmap_mk h1 h2)
  ·rw[h3]at h1;cases hb:hget H l with
   | dead=>rw[hb]at h1;exact absurd h1.symm h2
   | var as=>rw[hb]at h1;subst h1;exact r.blk l (.var as) (hmap_mk hb (by simp))
   | arr el t xs f mv=>rw[hb]at h1;subst h1;exact r.blk l (.arr el t xs f mv) (hmap_mk hb (by simp))
 sep:=fun l l' hl hl'=>r.sep l l' ((h.live l).1 hl) ((h.live l').1 hl')
 inv:=r.inv
 off:=fun l hl=>r.off l ((h.live l).1 hl)
 own:=fun l b e o v eg=>by
  obtain⟨h1,h2⟩:=hmap_eq e;rcases h l with h3 | h3
  ·rw[h3]at h1;exact r.own l b (hmap_mk h1 h2) o v eg
  ·rw[h3]at h1;cases hb:hget H l with
   | dead=>rw[hb]at h1;exact absurd h1.symm h2
   | var as=>rw[hb]at h1;subst h1;exact r.own l (.var as) (hmap_mk hb (by simp)) o v eg
   | arr el t xs f mv =>
    rw[hb]at h1;subst h1;have:=r.own l (.arr el t xs f mv) (hmap_mk hb (by simp)) o v eg;cases f <;> exact this
theorem Alike.trans{G G':Ghost} {κ κ':Kap} {w w':World} {h0:Hp} {H H':HL} (h:Alike H H') (t:Trans G κ h0 w G' κ' (hmap H) w'):Trans G κ h0 w G' κ' (hmap H') w':=
 t.drop fun l hl=>(h.live l).1 hl
def setsL(H:HL) (sets:List (Nat × Blk)):HL:=sets.foldl (fun h p=>hset h p.1 p.2) H
theorem hmap_setsL:∀ (sets:List (Nat × Blk)) (H:HL),hmap (setsL H sets)=sets.foldl (fun h p=>h.set p.1 p.2) (hmap H)
 | [],H=>rfl
 | p :: r,H=>by
  simp only [setsL,List.foldl_cons];rw[show List.foldl (fun h p=>hset h p.1 p.2) (hset H p.1 p.2) r=setsL (hset H p.1 p.2) r from rfl,hmap_setsL r,hmap_hset]
theorem length_hset:∀ (H:HL) (l:Nat) (b:Blk),H.length<=(hset H l b).length
 | [],l,b=>by simp
 | x :: r,0,b=>by simp [hset]
 | x :: r,l+1,b=>by simp [hset];exact length_hset r l b
theorem length_setsL:∀ (sets:List (Nat × Blk)) (H:HL),H.length<=(setsL H sets).length
 | [],H=>Nat.le_refl _
 | p :: r,H=>Nat.le_trans (length_hset H p.1 p.2) (length_setsL r (hset H p.1 p.2))
theorem hget_hset(H:HL) (l i:Nat) (b:Blk):hget (hset H l b) i=if i=l then b else hget H i:=by
 induction H generalizing l i with
 | nil =>
  induction l generalizing i with
  | zero=>cases i <;> simp [hset,hget]
  | succ l ih =>
   cases i with
   | zero=>simp [hset,hget]
   | succ i=>simp [hset,hget,ih]
 | cons x r ih =>
  cases l with
  | zero=>cases i <;> simp [hset,hget]
  | succ l=>cases i <;> simp [hset,hget,ih]
theorem hget_setsL:∀ (sets:List (Nat × Blk)) (H:HL) (i:Nat),(∃ p∈sets,p.1=i/\hget (setsL H sets) i=p.2)\/((∀ p∈sets,p.1≠i)/\hget (setsL H sets) i=hget H i)
 | [],H,i=>.inr ⟨by simp,rfl⟩
 | p :: r,H,i=>by
  rcases hget_setsL r (hset H p.1 p.2) i with ⟨q,hq,h1,h2⟩ | ⟨h1,h2⟩
  ·exact .inl ⟨q,List.mem_cons_of_mem _ hq,h1,h2⟩
  ·by_cases hp:p.1=i
   ·exact .inl ⟨p,List.mem_cons_self,hp,by rw[show setsL H (p :: r)=setsL (hset H p.1 p.2) r from rfl,h2,hget_hset,if_pos hp.symm]⟩
   ·refine .inr ⟨fun q hq=>?_,by rw[show setsL H (p :: r)=setsL (hset H p.1 p.2) r from rfl,h2,hget_hset,if_neg (fun e=>hp e.symm)]⟩;rcases List.mem_cons.1 hq with e | e
    ·subst e;exact hp
    ·exact h1 q e
def strike(ids:List Nat) (l:Nat):Option Nat:=bif ids.elem l then none else some l
theorem strike_some{ids:List Nat} {l j:Nat} (h:strike ids l=some j):j=l/\l ∉ ids:=by
 unfold strike at h;cases hb:ids.elem l with
 | true=>rw[hb]at h;simp at h
 | false =>
  rw[hb]at h;simp only [cond_false,Option.some.injEq]at h;refine⟨h.symm,fun hm=>?_⟩;rw[List.elem_eq_mem]at hb;simp at hb;exact hb hm
def strikeH(ids:List Nat) (H:HL):HL:=
 match ids with
 | []=>H
 | _=>H.map (renB (strike ids))
def strikeS(ids:List Nat) (s:Slots):Slots:=
 match ids with
 | []=>s
 | _=>s.map fun p=>(p.1,renSV (strike ids) p.2)
theorem hget_mapB(f:Blk->Blk) (hf:f .dead=.dead):∀ (H:HL) (l:Nat),hget (H.map f) l=f (hget H l)
 | [],l=>by simp [hget,hf]
 | b :: r,0=>rfl
 | b :: r,l+1=>hget_mapB f hf r l
theorem hget_strikeH(ids:List Nat) (H:HL) (l:Nat):hget (strikeH ids H) l=renB (strike ids) (hget H l)\/hget (strikeH ids H) l=hget H l:=by
 unfold strikeH;split
 ·exact .inr rfl
 ·exact .inl (hget_mapB _ rfl H l)
theorem length_strikeH(ids:List Nat) (H:HL):(strikeH ids H).length=H.length:=by unfold strikeH;split <;> simp
theorem strikeH_rel{N:NumSem} {G:Ghost} {κ:Kap} {w:World} {H:HL} (ids:List Nat) (r:Rel N G κ (hmap H) w):Rel N G κ (hmap (strikeH ids H)) w:=by
 have hφ:∀ l j,strike ids l=some j->κ j=κ l:=fun l j h=>by rw[(strike_some h).1]
 have live:∀ l,hmap (strikeH ids H) l≠none->hmap H l≠none:=fun l h=>by
  obtain⟨b,hb⟩:=Option.ne_none_iff_exists'.1 h;obtain⟨h1,h2⟩:=hmap_eq hb;rcases hget_strikeH ids H l with e | e
  ·rw[h1]at e;rw[hmap_mk rfl (renB_dead _ (e ▸ h2))];simp
  ·rw[h1]at e;rw[hmap_mk e.symm h2];simp
 exact
 {ghost:=r.ghost
  blk:=fun l b e=>by
   obtain⟨h1,h2⟩:=hmap_eq e;rcases hget_strikeH ids H l with e' | e'
   ·rw[h1]at e';subst e';exact renB_ok hφ (l:=l) rfl (r.blk l _ (hmap_mk rfl (renB_dead _ h2)))
   ·rw[h1]at e';exact r.blk l b (hmap_mk e'.symm h2)
  sep:=fun l l' hl hl'=>r.sep l l' (live l hl) (live l' hl')
  inv:=r.inv
  off:=fun l hl=>r.off l (live l hl)
  own:=fun l b e o v eg=>by
   obtain⟨h1,h2⟩:=hmap_eq e;rcases hget_strikeH ids H l with e' | e'
   ·rw[h1]at e';subst e';rw[shown_ren];exact r.own l _ (hmap_mk rfl (renB_dead _ h2)) o v eg
   ·rw[h1]at e';exact r.own l b (hmap_mk e'.symm h2) o v eg }
theorem strikeH_trans{G G':Ghost} {κ κ':Kap} {w w':World} {h0:Hp} {H:HL} (ids:List Nat) (t:Trans G κ h0 w G' κ' (hmap H) w'):Trans G κ h0 w G' κ' (hmap (strikeH ids H)) w':=
 t.drop fun l h=>by
  obtain⟨b,hb⟩:=Option.ne_none_iff_exists'.1 h;obtain⟨h1,h2⟩:=hmap_eq hb;rcases hget_strikeH ids H l with e | e
  ·rw[h1]at e;rw[hmap_mk rfl (renB_dead _ (e ▸ h2))];simp
  ·rw[h1]at e;rw[hmap_mk e.symm h2];simp
theorem strikeH_wf{H:HL} (ids:List Nat) (h:wfH H):wfH (strikeH ids H):=by
 intro l as hl i hi;rw[length_strikeH];have hlt:∀ a b,strike ids a=some b->b=a:=fun a b h=>(strike_some h).1
 rcases hget_strikeH ids H l with e | e
 ·rw[hl]at e;cases hb:hget H l with
  | dead=>rw[hb]at e;cases e
  | arr e' t xs f mv=>rw[hb]at e;cases e
  | var bs =>
   rw[hb]at e;simp only [renB,Blk.var.injEq]at e;subst e;have key:∀ (as:List Atom),∀ i∈aids (renAs (strike ids) as),i∈aids as:=by
    intro as
    induction as with
    | nil=>intro i h;simp [renAs,aids]at h
    | cons a as ih =>
     intro i h;simp only [renAs,aids,List.flatMap_cons,List.mem_append]at h ⊢;rcases h with h | h
     ·refine .inl ?_;have hc:∀ {cs ds:List (Nat × Nat)},renA.renC (strike ids) cs=some ds->ds=cs:=by
       intro cs
       induction cs with
       | nil=>intro ds h;simp only [renA.renC,Option.some.injEq]at h;exact h.symm
       | cons c cs ih =>
        intro ds h;simp only [renA.renC]at h;split at h
        ·rename_i j hj;split at h
         ·rename_i r hr;simp only [Option.some.injEq]at h;subst h;rw[hlt _ _ hj,ih hr]
         ·contradiction
        ·contradiction
      cases a <;> simp only [renA]at h
      all_goals first
       | exact h
       | skip
      all_goals
       split at h
       ·rename_i j hj
        first
         | (simp only [Atom.ids,List.mem_singleton]at h ⊢;rw[h,hlt _ _ hj];done)
         | (have:=hc hj;subst this;exact h)
       ·simp [Atom.ids]at h
     ·exact .inr (ih i h)
   exact h l bs hb i (key bs i hi)
 ·rw[hl]at e;exact h l as e.symm i hi
theorem strike_lt{ids:List Nat} {n:Nat} {s:SV} (h:∀ i∈s.ids,i<n):∀ i∈(renSV (strike ids) s).ids,i<n:=by
 have h1:renSV (strike ids) s=renSV (strike ids) s:=rfl;have hlt:∀ a b,strike ids a=some b->b=a:=fun a b h=>(strike_some h).1
 have hc:∀ {cs ds:List (Nat × Nat)},renA.renC (strike ids) cs=some ds->ds=cs:=by
  intro cs
  induction cs with
  | nil=>intro ds h;simp only [renA.renC,Option.some.injEq]at h;exact h.symm
  | cons c cs ih =>
   intro ds h;simp only [renA.renC]at h;split at h
   ·rename_i j hj;split at h
    ·rename_i r hr;simp only [Option.some.injEq]at h;subst h;rw[hlt _ _ hj,ih hr]
    ·contradiction
   ·contradiction
 have ha:∀ a:Atom,∀ i∈(renA (strike ids) a).ids,i∈a.ids:=by
  intro a i h;cases a <;> simp only [renA]at h
  all_goals first
   | exact h
   | skip
  all_goals
   split at h
   ·rename_i j hj
    first
     | (simp only [Atom.ids,List.mem_singleton]at h ⊢;rw[h,hlt _ _ hj];done)
     | (have:=hc hj;subst this;exact h)
   ·simp [Atom.ids]at h
 have has:∀ (as:List Atom),∀ i∈aids (renAs (strike ids) as),i∈aids as:=by
  intro as
  induction as with
  | nil=>intro i h;simp [renAs,aids]at h
  | cons a as ih =>
   intro i h;simp only [renAs,aids,List.flatMap_cons,List.mem_append]at h ⊢;rcases h with h | h
   ·exact .inl (ha a i h)
   ·exact .inr (ih i h)
 have htp:∀ (vs:List (Bool × List Atom)),∀ i∈tupIds (renTup (strike ids) vs),i∈tupIds vs:=by
  intro vs
  induction vs with
  | nil=>intro i h;simp [renTup,tupIds]at h
  | cons p ps ih =>
   intro i h;simp only [renTup,tupIds,List.mem_append]at h ⊢;rcases h with h | h
   ·exact .inl (has _ i h)
   ·exact .inr (ih i h)
 intro i hi;apply h;cases s with
 | undef=>exact hi
 | v g as=>exact has as i hi
 | tup vs=>exact htp vs i hi
 | ifc t a=>exact ha a i hi
theorem strike_out{ids:List Nat} {s:SV} {l:Nat} (h:l∈(renSV (strike ids) s).ids):l ∉ ids:=
 renSV_ids (p:=fun j=>j ∉ ids) (fun l j hj=>by obtain⟨h1,h2⟩:=strike_some hj;rw[h1];exact h2) s l h
theorem sget_strikeS(ids:List Nat) (s:Slots) (t:Nat):sget (strikeS ids s) t=renSV (strike ids) (sget s t)\/(ids=[]/\sget (strikeS ids s) t=sget s t):=by
 unfold strikeS;split
 ·exact .inr ⟨rfl,rfl⟩
 ·refine .inl ?_
  induction s with
  | nil=>rfl
  | cons p r ih =>
   simp only [List.map_cons,sget];cases Nat.beq p.1 t with
   | true=>rfl
   | false=>exact ih
def wfB(n:Nat) (e:Eff):Bool:=
 e.val.ids.all (Nat.blt · n)&&e.sets.all fun p=>match p.2 with
  | .var as=>(aids as).all (Nat.blt · n)
  | _=>true
def noMention(mv:List Nat) (keys:List Nat):Nat->HL->Bool
 | _,[]=>true
 | l,b :: r=>(match b with
  | .var as=>keys.elem l || (aids as).all (fun i=>!mv.elem i)
  | _=>true)&&noMention mv keys (l+1) r
theorem noMention_ok{mv keys:List Nat}:∀ {H:HL} {l0:Nat},noMention mv keys l0 H=true->∀ j as,hget H j=.var as->l0+j ∉ keys->∀ i∈mv,i ∉ aids as
 | [],l0,_,j,as,h=>by simp [hget]at h
 | b :: r,l0,hn,0,as,h=>by
  intro hk i hi hia;simp only [hget]at h;subst h;simp only [noMention,Bool.and_eq_true,Bool.or_eq_true]at hn;rcases hn.1 with h | h
  ·rw[List.elem_eq_mem]at h;simp at h;exact hk h
  ·have:=List.all_eq_true.1 h i hia;rw[List.elem_eq_mem]at this;simp at this;exact this hi
 | b :: r,l0,hn,j+1,as,h=>by
  intro hk;simp only [noMention,Bool.and_eq_true]at hn;exact noMention_ok hn.2 j as (by simpa [hget] using h) (by rw[show l0+1+j=l0+(j+1)by omega];exact hk)
def preIds(sl:Slots) (op:Op):List Nat:=
 match op with
 | .call c=>(match c.callee,c.args.toList with
  | .builtin .append,s :: _=>(match evS sl s with
   | .v false [.wsl l _]=>[l]
   | .v false [.osl l _ _ _]=>[l]
   | _=>[])
  | _,_=>[])
 | _=>[]
def putS(d:Option Tmp) (v:SV) (s:Slots):Slots:=
 match d with
 | some d=>(d,v) :: s
 | none=>s
def inB(d:Option Tmp) (n:Nat):Bool:=
 match d with
 | some d=>Nat.blt d n
 | none=>true
section
variable {ρ:Type}
def stayB(n0:Nat) (hp hp':HL) (mv:List Nat):Bool:=(List.range n0).all fun j=>mvB (hget hp' j) || !(mvB (hget hp j) || mv.elem j)
def stepOp(V:Env) (nt n0:Nat) (σ:St) (o:Oper) (K:St->Option ρ):Option ρ:=
 let hp:=strikeH (preIds σ.sl o.op) σ.hp
 aop V hp hp.length (evS σ.sl) o.op fun e =>
  let hp':=(match e.sets with | []=>hp | _=>remark hp e.moved 0 (setsL hp e.sets))
  bif inB o.dst nt&&(stayB n0 hp hp' e.moved&&(wfB hp'.length e&&(match e.moved with | []=>true | mv=>noMention mv (e.sets.map (·.1)) 0 hp)))then
   K ⟨putS o.dst e.val (strikeS e.moved σ.sl),hp'⟩else none
structure Ctx where
 G:Ghost
 κ:Kap
 H:HL
 w:World
 nt:Nat
structure Inv (N:NumSem) (C:Ctx) (σ:St) (a:Act) (w:World):Prop where
 wf:wfH σ.hp
 wfs:∀ t,∀ i∈(sget σ.sl t).ids,i<σ.hp.length
 dfr:a.defers=[]
 size:a.tmps.size=C.nt
 len:C.H.length<=σ.hp.length
 ex:∃ G κ,Trans C.G C.κ (hmap C.H) C.w G κ (hmap σ.hp) w/\Rel N G κ (hmap σ.hp) w/\(∀ t,svR N G κ (sget σ.sl t) (a.tmps.getD t undef)) /\
  ∀ j,j<C.H.length->mvB (hget σ.hp j)=false->κ j=C.κ j
theorem evS_ok{N:NumSem} {G:Ghost} {κ:Kap} {sl:Slots} {a:Act} (h:∀ t,svR N G κ (sget sl t) (a.tmps.getD t undef)) (x:Operand):svR N G κ (evS sl x) (a.eval x):=by
 cases x with
 | tmp t=>exact h t
 | const v=>exact constSV_ok N G κ v
 | global g=>trivial
 | func f=>exact AsR.one rfl
theorem stepOp_ok{N:NumSem} {P:Program} {V:Env} (hV:EnvOK N P V) {nt n0:Nat} {σ:St} {o:Oper} {K:St->Option ρ} {r:ρ} (h:stepOp V nt n0 σ o K=some r) :
  ∃ σ',K σ'=some r /\ ∀ {C:Ctx},C.nt=nt->C.H.length=n0->∀ {a:Act} {w:World},Inv N C σ a w->∀ {Q:Exit->Act->World->Prop} {next:Act->World->Prop},
  (∀ a' w',Inv N C σ' a' w'->next a' w')->o.wp P a w next Q:=by
 unfold stepOp at h;generalize hids:preIds σ.sl o.op=ids at h;simp only at h;obtain⟨e,hk,hop⟩:=aop_ok (N:=N) hV h;generalize hhp:(match e.sets with | []=>strikeH ids σ.hp | _=>remark (strikeH ids σ.hp) e.moved 0 (setsL (strikeH ids σ.hp) e.sets))=hp' at hk;cases hb:(inB o.dst nt&&(stayB n0 (strikeH ids σ.hp) hp' e.moved&&(wfB hp'.length e&&(match e.moved with | []=>true | mv=>noMention mv (e.sets.map (·.1)) 0 (strikeH ids σ.hp)))))with
 | false=>rw[hb]at hk;contradiction
 | true =>
  rw[hb]at hk;simp only [cond_true]at hk;simp only [Bool.and_eq_true]at hb;obtain⟨hin,hstb,hwfe,hno⟩:=hb;refine⟨_,hk,fun{C} hC1 hC2 {a w} hI {Q next} hn=>?_⟩;subst hC1;subst hC2;obtain⟨G,κ,ht,hr,hsl,hst⟩:=hI.ex;have hr1:=strikeH_rel ids hr;have ht1:=strikeH_trans ids ht;have hwf1:=strikeH_wf ids hI.wf;have hlen1:(strikeH ids σ.hp).length=σ.hp.length:=length_strikeH ids σ.hp;have hmv1:∀ j,mvB (hget (strikeH ids σ.hp) j)=mvB (hget σ.hp j):=fun j=>by
   rcases hget_strikeH ids σ.hp j with e | e <;> rw[e]
   cases hget σ.hp j <;> rfl
  generalize strikeH ids σ.hp=hp at hop hr1 ht1 hwf1 hlen1 hmv1 hhp hstb hno;have hdead:∀ l,hp.length<=l->hmap hp l=none:=fun l hl=>by
   cases hb:hget hp l with
   | dead=>simp [hmap,hb,Blk.opt]
   | var as=>have:=hget_len (H:=hp) (j:=l) (by rw[hb];simp);omega
   | arr e t xs f mv=>have:=hget_len (H:=hp) (j:=l) (by rw[hb];simp);omega
  refine hop (fun _ _ e=>e) (fun i _=>hdead _ (by omega)) (fun i _ l as hl hm=>?_) (fun i hi l as hl hlk=>?_) hr1 (evS_ok hsl) (fun v G' κ' w' ht' hr' hv hκ=>?_)
  ·have:=hwf1 l as (hmap_eq hl).1 _ hm;omega
  ·cases hmv:e.moved with
   | nil=>rw[hmv]at hi;cases hi
   | cons x xs =>
    rw[hmv]at hno hi;exact noMention_ok hno l as (hmap_eq hl).1 (by rw[Nat.zero_add];exact hlk) i hi
  ·
   have hA:Alike (setsL hp e.sets) hp':=by
    rw[<- hhp];split
    ·rename_i hs;rw[hs];exact fun l=>.inl rfl
    ·exact Alike.remark _ _ _
   have happ:e.app (hmap hp)=hmap (setsL hp e.sets):=(hmap_setsL e.sets hp).symm;rw[happ]at ht' hr';have hlen':(setsL hp e.sets).length=hp'.length:=by
    rw[<- hhp];split
    ·rename_i hs;rw[hs];rfl
    ·rw[length_remark]
   have hle:hp.length<=hp'.length:=by rw[<- hlen'];exact length_setsL _ _
   simp only [wfB,Bool.and_eq_true]at hwfe;have hvid:∀ i∈e.val.ids,i<hp'.length:=fun i hi=>Nat.le_of_ble_eq_true (List.all_eq_true.1 hwfe.1 i hi)
   refine hn _ _ ⟨?_,?_,?_,?_,?_,G',κ',ht1.trans (hA.trans ht'),hA.rel hr',?_,?_⟩
   ·
    intro l as hl i hi;have hl0:hget (setsL hp e.sets) l=.var as:=by
     rcases hA l with h | h
     ·rw[<- h];exact hl
     ·rw[hl]at h;cases hb:hget (setsL hp e.sets) l <;> rw[hb]at h <;> simp [setMv]at h
      rw[h]
    rcases hget_setsL e.sets hp l with ⟨p,hp1,hp2,hp3⟩ | ⟨_,h1⟩
    ·have:=List.all_eq_true.1 hwfe.2 p hp1;rw[hl0]at hp3;rw[<- hp3]at this;exact Nat.le_of_ble_eq_true (List.all_eq_true.1 this i hi)
    ·rw[hl0]at h1;have:=hwf1 l as h1.symm i hi;show i<hp'.length;omega
   ·
    intro t i hi;show i<hp'.length;have hold:∀ i∈(sget (strikeS e.moved σ.sl) t).ids,i<hp'.length:=fun i hi=>by
     have hs:∀ i∈(sget σ.sl t).ids,i<hp'.length:=fun i hi=>by have:=hI.wfs t i hi;omega
     rcases sget_strikeS e.moved σ.sl t with e1 | ⟨_,e1⟩
     ·rw[e1]at hi;exact strike_lt hs i hi
     ·rw[e1]at hi;exact hs i hi
    cases hd:o.dst with
    | none=>rw[hd]at hi;exact hold i hi
    | some d =>
     rw[hd]at hi;simp only [putS,sget]at hi;cases hbq:Nat.beq d t with
     | true=>rw[hbq]at hi;exact hvid i hi
     | false=>rw[hbq]at hi;exact hold i hi
   ·cases hd:o.dst <;> exact hI.dfr
   ·cases hd:o.dst with
    | none=>exact hI.size
    | some d=>simpa [Act.put] using hI.size
   ·show C.H.length<=hp'.length;have:=hI.len;omega
   ·
    intro t;have hold:svR N G' κ' (sget (strikeS e.moved σ.sl) t) (a.tmps.getD t undef):=by
     rcases sget_strikeS e.moved σ.sl t with e1 | ⟨e0,e1⟩
     ·rw[e1];refine svR.mono ht'.gle (κ:=κ) (fun l hl=>hκ l ?_ ?_) (renSV_ok (κ:=κ) (fun l j hj=>by rw[(strike_some hj).1]) (hsl t))
      ·have:=strike_lt (ids:=e.moved) (hI.wfs t) l hl;left;omega
      ·
       intro hm;exact strike_out hl hm
     ·rw[e1];exact(hsl t).mono ht'.gle fun l hl=>hκ l (by have:=hI.wfs t l hl;left;omega) (by rw[e0];simp)
    cases hd:o.dst with
    | none=>exact hold
    | some d =>
     simp only [putS,sget];rw[hd]at hin;have hdlt:d<a.tmps.size:=by rw[hI.size];exact Nat.le_of_ble_eq_true hin
     cases hbq:Nat.beq d t with
     | true =>
      have:=Nat.eq_of_beq_eq_true hbq;subst this
      simpa [Act.put,hdlt] using hv
     | false =>
      have hne:=Nat.ne_of_beq_eq_false hbq;have:({ a with tmps:=a.tmps.setIfInBounds d v }:Act).tmps.getD t undef=a.tmps.getD t undef:=by
       simp [Array.getD_eq_getD_getElem?,Array.getElem?_setIfInBounds_ne hne]
      show svR N G' κ' _ (({ a with tmps:=a.tmps.setIfInBounds d v }:Act).tmps.getD t undef);rw[this];exact hold
   ·
    intro j hj hm;have hcond:mvB (hget hp j)=false/\j ∉ e.moved:=by
     have h1:=List.all_eq_true.1 hstb j (List.mem_range.2 hj);rw[hm,Bool.false_or,Bool.not_eq_true',Bool.or_eq_false_iff]at h1;refine⟨h1.1,fun hmv=>?_⟩;have:=h1.2;rw[List.elem_eq_mem]at this;simp at this;exact this hmv
    rw[hκ j (.inl (by have:=hI.len;omega)) hcond.2];exact hst j hj (by rw[<- hmv1];exact hcond.1)
end
end Go.Abs
namespace Go.Abs
section
variable {ρ:Type}
def gv:Option Bool->SV
 | some b=>.v false [.bool b]
 | none=>.tup []
def dstOf(ops:List Oper) (j:Nat):Option Tmp:=(ops[j]?).bind (·.dst)
def regSeq(V:Env) (nt n0:Nat) (ops:List Oper):List Oper->St->(St->Option ρ)->Option ρ
 | [],σ,K=>K σ
 | o :: r,σ,K=>(match o.guard with
  | none=>stepOp V nt n0 σ o fun σ'=>regSeq V nt n0 ops r σ' K
  | some (j,want)=>(match dstOf ops j with
   | some d=>(match sget σ.sl d with
    | .tup []=>regSeq V nt n0 ops r ⟨putS o.dst (.tup []) σ.sl,σ.hp⟩ K
    | s=>one? s fun
    | .bool b=>bif b then
      (let σ1:St:=⟨(d,one (.bool true)) :: σ.sl,σ.hp⟩
       bif want then stepOp V nt n0 σ1 o fun σ'=>regSeq V nt n0 ops r σ' K else regSeq V nt n0 ops r ⟨putS o.dst (.tup []) σ1.sl,σ1.hp⟩ K)
     else
      (let σ1:St:=⟨(d,one (.bool false)) :: σ.sl,σ.hp⟩
       bif want then regSeq V nt n0 ops r ⟨putS o.dst (.tup []) σ1.sl,σ1.hp⟩ K else stepOp V nt n0 σ1 o fun σ'=>regSeq V nt n0 ops r σ' K)
    | _=>none)
   | none=>none))
theorem Inv.again{N:NumSem} {C:Ctx} {σ:St} {a:Act} {w:World} (h:Inv N C σ a w) {d:Nat} {s:SV} (hs:sget σ.sl d=s):Inv N C ⟨(d,s) :: σ.sl,σ.hp⟩ a w:=by
 have key:∀ t,sget ((d,s) :: σ.sl) t=sget σ.sl t:=fun t=>by
  simp only [sget];cases hb:Nat.beq d t with
  | true=>rw[<- Nat.eq_of_beq_eq_true hb,hs];rfl
  | false=>rfl
 exact⟨h.wf,fun t=>by show ∀ i∈(sget ((d,s) :: σ.sl) t).ids,_;rw[key];exact h.wfs t,h.dfr,h.size,h.len,by
  obtain⟨G,κ,h1,h2,h3,h4⟩:=h.ex;exact⟨G,κ,h1,h2,fun t=>by show svR N G κ (sget ((d,s) :: σ.sl) t) _;rw[key];exact h3 t,h4⟩⟩
theorem Inv.skip{N:NumSem} {C:Ctx} {σ:St} {a:Act} {w:World} (h:Inv N C σ a w) (d:Option Tmp):Inv N C ⟨putS d (.tup []) σ.sl,σ.hp⟩ (a.put d undef) w:=by
 cases d with
 | none=>exact h
 | some d =>
  obtain⟨G,κ,h1,h2,h3,h4⟩:=h.ex;have e:∀ t,(d=t/\sget ((d,SV.tup []) :: σ.sl) t=SV.tup [])\/(d≠t/\sget ((d,SV.tup []) :: σ.sl) t=sget σ.sl t):=fun t=>by
   simp only [sget];cases hb:Nat.beq d t with
   | true=>exact .inl ⟨Nat.eq_of_beq_eq_true hb,rfl⟩
   | false=>exact .inr ⟨Nat.ne_of_beq_eq_false hb,rfl⟩
  refine⟨h.wf,fun t i hi=>?_,h.dfr,by simpa [Act.put] using h.size,h.len,G,κ,h1,h2,fun t=>?_,h4⟩
  ·rcases e t with ⟨_,e1⟩ | ⟨_,e1⟩
   ·simp only [putS]at hi;rw[e1]at hi;simp [SV.ids,tupIds]at hi
   ·simp only [putS]at hi;rw[e1]at hi;exact h.wfs t i hi
  ·rcases e t with ⟨he,e1⟩ | ⟨hne,e1⟩
   ·simp only [putS];rw[e1];subst he;refine⟨#[],?_,rfl⟩;show (a.tmps.setIfInBounds d undef).getD d undef=undef;rw[Array.getD_eq_getD_getElem?]
    by_cases hd:d<a.tmps.size
    ·simp [Array.getElem?_setIfInBounds_self_of_lt hd]
    ·rw[Array.getElem?_eq_none (by rw[Array.size_setIfInBounds];exact Nat.le_of_not_lt hd)];rfl
   ·simp only [putS];rw[e1];have:({ a with tmps:=a.tmps.setIfInBounds d undef }:Act).tmps.getD t undef=a.tmps.getD t undef:=by
     simp [Array.getD_eq_getD_getElem?,Array.getElem?_setIfInBounds_ne hne]
    show svR N G κ _ (({ a with tmps:=a.tmps.setIfInBounds d undef }:Act).tmps.getD t undef);rw[this];exact h3 t
theorem wanted_of{N:NumSem} {C:Ctx} {σ:St} {a:Act} {w:World} (hI:Inv N C σ a w) {ops:Array Oper} {o:Oper} {j:Nat} {want:Bool} (hg:o.guard=some (j,want)) {d:Nat} (hd:dstOf ops.toList j=some d)
  {b:Bool} (hs:sget σ.sl d=.v false [.bool b]):Region.wanted o (yielded ops a.tmps)=(b==want):=by
 obtain⟨G,κ,_,_,h3,_⟩:=hI.ex;have h4:=h3 d;rw[hs]at h4;have h4:=one_val h4;simp only [AR,List.cons.injEq,and_true]at h4;have hd':(ops[j]?).bind (·.dst)=some d:=by simpa [dstOf] using hd
 have ht:a.tmps[d]? = some (.bool b):=by
  rw[Array.getD_eq_getD_getElem?]at h4;cases hh:a.tmps[d]? with
  | none=>rw[hh]at h4;simp [undef]at h4
  | some v=>rw[hh]at h4;simp at h4;rw[h4]
 simp [Region.wanted,hg,yielded,hd',ht]
theorem wanted_none{N:NumSem} {G:Ghost} {κ:Kap} {tmps:Array Value} {ops:Array Oper} {o:Oper} {j:Nat} {want:Bool} (hg:o.guard=some (j,want)) {d:Nat} (hd:dstOf ops.toList j=some d)
  (h:svR N G κ (.tup []) (tmps.getD d undef)):Region.wanted o (yielded ops tmps)=false:=by
 obtain⟨xs,h1,h2⟩:=h;have hd':(ops[j]?).bind (·.dst)=some d:=by simpa [dstOf] using hd
 rw[Array.getD_eq_getD_getElem?]at h1;cases hh:tmps[d]? with
 | none=>simp [Region.wanted,hg,yielded,hd',hh]
 | some v =>
  rw[hh]at h1;simp only [Option.getD_some]at h1;subst h1;simp [Region.wanted,hg,yielded,hd',hh]
theorem regSeq_ok{N:NumSem} {P:Program} {V:Env} (hV:EnvOK N P V) {nt n0:Nat} {ops:Array Oper}:∀ {l:List Oper} {σ:St} {K:St->Option ρ} {r:ρ},
  regSeq V nt n0 ops.toList l σ K=some r->∃ σ',K σ'=some r /\ ∀ {C:Ctx},C.nt=nt->C.H.length=n0->∀ {a:Act} {w:World},Inv N C σ a w->∀ {Q:Exit->Act->World->Prop},(∀ a' w',Inv N C σ' a' w'->Q .normal a' w')->wpList P ops Q l a w
 | [],σ,K,r,h=>⟨σ,h,fun _ _ _ _ hI Q hn=>hn _ _ hI⟩
 | o :: l,σ,K,r,h=>by
  simp only [regSeq]at h;have run:∀ {σ0:St},(stepOp V nt n0 σ0 o fun σ'=>regSeq V nt n0 ops.toList l σ' K)=some r->∃ σ',K σ'=some r /\ ∀ {C:Ctx},C.nt=nt->C.H.length=n0->∀ {a:Act} {w:World},
    Inv N C σ0 a w->Region.wanted o (yielded ops a.tmps)=true->∀ {Q:Exit->Act->World->Prop},(∀ a' w',Inv N C σ' a' w'->Q .normal a' w')->wpList P ops Q (o :: l) a w:=by
   intro σ0 h;obtain⟨σ1,h1,hs⟩:=stepOp_ok (N:=N) hV h;obtain⟨σ2,h2,hs2⟩:=regSeq_ok hV h1;refine⟨σ2,h2,fun c1 c2 _ _ hI hw Q hn=>?_⟩;simp only [wpList];rw[if_pos hw];exact .inl (hs c1 c2 hI fun a' w' hI'=>hs2 c1 c2 hI' hn)
  have skp:∀ {σ0:St},regSeq V nt n0 ops.toList l ⟨putS o.dst (.tup []) σ0.sl,σ0.hp⟩ K=some r->∃ σ',K σ'=some r /\ ∀ {C:Ctx},C.nt=nt->C.H.length=n0->∀ {a:Act} {w:World},
    Inv N C σ0 a w->Region.wanted o (yielded ops a.tmps)=false->∀ {Q:Exit->Act->World->Prop},(∀ a' w',Inv N C σ' a' w'->Q .normal a' w')->wpList P ops Q (o :: l) a w:=by
   intro σ0 h;obtain⟨σ2,h2,hs2⟩:=regSeq_ok hV h;refine⟨σ2,h2,fun c1 c2 _ _ hI hw Q hn=>?_⟩;simp only [wpList];rw[if_neg (by rw[hw];simp)];exact hs2 c1 c2 (hI.skip o.dst) hn
  split at h
  ·rename_i hg;obtain⟨σ2,h2,hs⟩:=run h;exact⟨σ2,h2,fun c1 c2 _ _ hI Q hn=>hs c1 c2 hI (by simp [Region.wanted,hg]) hn⟩
  ·rename_i j want hg;split at h
   ·rename_i d hd;split at h
    ·rename_i hat;obtain⟨σ2,h2,hs⟩:=skp (σ0:=σ) h;refine⟨σ2,h2,fun{C} c1 c2 {a w} hI Q hn=>hs c1 c2 hI ?_ hn⟩;obtain⟨G,κ,_,_,h3,_⟩:=hI.ex;have h4:=h3 d;rw[hat]at h4;exact wanted_none hg hd h4
    rename_i s hns hss;obtain⟨at_,hat0,h⟩:=one?_ok h;have hat:sget σ.sl d=.v false [at_]:=hat0;split at h
    ·rename_i b;cases b <;> cases want <;> simp only [cond_true,cond_false]at h
     ·obtain⟨σ2,h2,hs⟩:=run h;exact⟨σ2,h2,fun c1 c2 _ _ hI Q hn=>hs c1 c2 (hI.again hat) (wanted_of hI hg hd hat) hn⟩
     ·obtain⟨σ2,h2,hs⟩:=skp (σ0:=⟨(d,one (.bool false)) :: σ.sl,σ.hp⟩) h;exact⟨σ2,h2,fun c1 c2 _ _ hI Q hn=>hs c1 c2 (hI.again hat) (wanted_of hI hg hd hat) hn⟩
     ·obtain⟨σ2,h2,hs⟩:=skp (σ0:=⟨(d,one (.bool true)) :: σ.sl,σ.hp⟩) h;exact⟨σ2,h2,fun c1 c2 _ _ hI Q hn=>hs c1 c2 (hI.again hat) (wanted_of hI hg hd hat) hn⟩
     ·obtain⟨σ2,h2,hs⟩:=run h;exact⟨σ2,h2,fun c1 c2 _ _ hI Q hn=>hs c1 c2 (hI.again hat) (wanted_of hI hg hd hat) hn⟩
    ·contradiction
   ·contradiction
def upFrom(n0:Nat):List Nat->List Nat
 | []=>[]
 | x :: r=>bif Nat.ble n0 x then x :: upFrom n0 r else upFrom n0 r
theorem upFrom_mem{n0:Nat}:∀ {m:List Nat} {x:Nat},x∈upFrom n0 m->n0<=x/\x∈m
 | [],x,h=>by simp [upFrom]at h
 | y :: r,x,h=>by
  simp only [upFrom]at h;cases hb:Nat.ble n0 y with
  | true =>
   rw[hb]at h;simp only [cond_true,List.mem_cons]at h;rcases h with h | h
   ·subst h;exact⟨Nat.le_of_ble_eq_true hb,by simp⟩
   ·exact⟨(upFrom_mem h).1,by simp [(upFrom_mem h).2]⟩
  | false =>
   rw[hb]at h;simp only [cond_false]at h;exact⟨(upFrom_mem h).1,by simp [(upFrom_mem h).2]⟩
theorem upFrom_nodup{n0:Nat}:∀ {m:List Nat},m.Nodup->(upFrom n0 m).Nodup
 | [],_=>List.nodup_nil
 | y :: r,h=>by
  obtain⟨h1,h2⟩:=List.nodup_cons.1 h;simp only [upFrom];cases Nat.ble n0 y with
  | true=>exact List.nodup_cons.2 ⟨fun hm=>h1 (upFrom_mem hm).2,upFrom_nodup h2⟩
  | false=>exact upFrom_nodup h2
def gcIds(n0:Nat) (H:HL) (ids:List Nat):List Nat:=List.range n0++upFrom n0 (reach H 3 (dedup (List.range n0) ids))
theorem gcIds_nodup(n0:Nat) (H:HL) (ids:List Nat):(gcIds n0 H ids).Nodup:=by
 unfold gcIds;rw[List.nodup_append];refine⟨List.nodup_range,upFrom_nodup (reach_nodup (dedup_nodup List.nodup_range)),fun a ha b hb=>?_⟩;have h1:=List.mem_range.1 ha;have h2:=(upFrom_mem hb).1;omega
theorem gcIds_old{n0:Nat} {H:HL} {ids:List Nat} {j:Nat} (h:j<n0):(gcIds n0 H ids)[j]? = some j:=by
 unfold gcIds;rw[List.getElem?_append_left (by rw[List.length_range];exact h),List.getElem?_range h]
def keepS(s:Slots):List Nat->Slots
 | []=>[]
 | t :: r=>(t,sget s t) :: keepS s r
theorem sget_keepS(s:Slots):∀ (ks:List Nat) (t:Nat),sget (keepS s ks) t=sget s t\/sget (keepS s ks) t=.undef
 | [],t=>.inr rfl
 | k :: ks,t=>by
  simp only [keepS,sget];cases hb:Nat.beq k t with
  | true=>rw[<- Nat.eq_of_beq_eq_true hb];exact .inl rfl
  | false=>exact sget_keepS s ks t
def slIds:Slots->List Nat
 | []=>[]
 | p :: r=>p.2.ids++slIds r
def renSl(φ:Nat->Option Nat):Slots->Slots
 | []=>[]
 | p :: r=>(p.1,renSV φ p.2) :: renSl φ r
theorem sget_renSl(φ:Nat->Option Nat):∀ (s:Slots) (t:Nat),sget (renSl φ s) t=renSV φ (sget s t)
 | [],t=>rfl
 | p :: r,t=>by
  simp only [renSl,sget];cases Nat.beq p.1 t with
  | true=>rfl
  | false=>exact sget_renSl φ r t
def gcH(H:HL) (m:List Nat):HL:=m.map fun l=>renB (posOf m) (hget H l)
def norm(n0:Nat) (keep:List Nat) (σ:St):St:=
 let s:=keepS σ.sl keep
 let m:=gcIds n0 σ.hp (slIds s)
 ⟨renSl (posOf m) s,gcH σ.hp m⟩
theorem gcH_get(H:HL) (m:List Nat) (j:Nat):hget (gcH H m) j=match m[j]? with | some l=>renB (posOf m) (hget H l) | none=>.dead:=by
 unfold gcH;rw[hget_map];cases m[j]? <;> rfl
theorem gcH_key{H:HL} {m:List Nat} {j:Nat} {b:Blk} (h:hmap (gcH H m) j=some b):∃ l,m[j]? = some l/\b=renB (posOf m) (hget H l)/\hmap H l=some (hget H l):=by
 obtain⟨h1,h2⟩:=hmap_eq h;rw[gcH_get]at h1;split at h1
 ·rename_i l hl;exact⟨l,hl,h1.symm,hmap_mk rfl (renB_dead _ (h1 ▸ h2))⟩
 ·exact absurd h1.symm h2
theorem gcH_rel{N:NumSem} {G:Ghost} {κ:Kap} {H:HL} {w:World} (hr:Rel N G κ (hmap H) w) {m:List Nat} (hm:m.Nodup):Rel N G (fun j=>κ (m.getD j 0)) (hmap (gcH H m)) w:=by
 have hφ:∀ l j,posOf m l=some j->(fun j=>κ (m.getD j 0)) j=κ l:=fun l j h=>by
  have:=posOf_some h;show κ (m.getD j 0)=κ l;simp [List.getD,this]
 have hgd:∀ {j l},m[j]? = some l->m.getD j 0=l:=fun h=>by simp [List.getD,h]
 exact
 {ghost:=hr.ghost
  blk:=fun j b h=>by
   obtain⟨l,h1,h2,h3⟩:=gcH_key h;subst h2;exact renB_ok hφ (l:=l) (by show κ (m.getD j 0)=κ l;rw[hgd h1]) (hr.blk l _ h3)
  sep:=fun j j' hj hj' hne=>by
   obtain⟨b,hb⟩:=Option.ne_none_iff_exists'.1 hj;obtain⟨b',hb'⟩:=Option.ne_none_iff_exists'.1 hj';obtain⟨l,h1,h2,h3⟩:=gcH_key hb;obtain⟨l',h1',h2',h3'⟩:=gcH_key hb';simp only [hgd h1,hgd h1'];refine hr.sep l l' (by rw[h3];simp) (by rw[h3'];simp) ?_
   rintro rfl
   exact hne (nodup_inj hm h1 h1')
  own:=fun j b h o v eg=>by
   obtain⟨l,h1,h2,h3⟩:=gcH_key h;subst h2;simp only [hgd h1]at eg;rw[shown_ren];exact hr.own l _ h3 o v eg
  inv:=hr.inv
  off:=fun j hj=>by
   obtain⟨b,hb⟩:=Option.ne_none_iff_exists'.1 hj;obtain⟨l,h1,h2,h3⟩:=gcH_key hb;simp only [hgd h1];exact hr.off l (by rw[h3];simp) }
theorem gcH_trans{G G':Ghost} {κ κ':Kap} {w w':World} {h0:Hp} {H:HL} {m:List Nat} (t:Trans G κ h0 w G' κ' (hmap H) w'):Trans G κ h0 w G' (fun j=>κ' (m.getD j 0)) (hmap (gcH H m)) w':=
 {t with
  place:=fun j hj=>by
   obtain⟨b,hb⟩:=Option.ne_none_iff_exists'.1 hj;obtain⟨l,h1,h2,h3⟩:=gcH_key hb;have:m.getD j 0=l:=by simp [List.getD,h1]
   simp only [this];exact t.place l (by rw[h3];simp) }
theorem gcH_wf(H:HL) (m:List Nat):wfH (gcH H m):=by
 intro j as h i hi;rw[gcH_get]at h;split at h
 ·rename_i l hl;have hlen:∀ x y,posOf m x=some y->y<m.length:=fun x y hxy=>(List.getElem?_eq_some_iff.1 (posOf_some hxy)).1
  cases hb:hget H l with
  | dead=>rw[hb]at h;simp [renB]at h
  | var bs =>
   rw[hb]at h;simp only [renB,Blk.var.injEq]at h;subst h;have:=renAs_ids (p:=fun y=>y<m.length) hlen bs i hi
   simpa [gcH] using this
  | arr e t xs frz mv=>rw[hb]at h;simp [renB]at h
 ·contradiction
theorem mvB_renB(φ:Nat->Option Nat) (b:Blk):mvB (renB φ b)=mvB b:=by cases b <;> rfl
theorem Inv.norm{N:NumSem} {C:Ctx} {σ:St} {a:Act} {w:World} (h:Inv N C σ a w) (keep:List Nat):Inv N C (norm C.H.length keep σ) a w:=by
 obtain⟨G,κ,h1,h2,h3,h4⟩:=h.ex;unfold Abs.norm;simp only;generalize hs:keepS σ.sl keep=s;generalize hm:gcIds C.H.length σ.hp (slIds s)=m;have hnd:m.Nodup:=by rw[<- hm];exact gcIds_nodup _ _ _
 have hold:∀ j,j<C.H.length->m[j]? = some j:=fun j hj=>by rw[<- hm];exact gcIds_old hj
 have hlen:∀ x y,posOf m x=some y->y<m.length:=fun x y hxy=>(List.getElem?_eq_some_iff.1 (posOf_some hxy)).1
 have hφ:∀ l j,posOf m l=some j->(fun j=>κ (m.getD j 0)) j=κ l:=fun l j h=>by
  have:=posOf_some h;show κ (m.getD j 0)=κ l;simp [List.getD,this]
 have hsv:∀ t,svR N G κ (sget s t) (a.tmps.getD t undef):=fun t=>by
  rw[<- hs];rcases sget_keepS σ.sl keep t with e | e
  ·rw[e];exact h3 t
  ·rw[e];trivial
 refine⟨gcH_wf _ _,fun t i hi=>?_,h.dfr,h.size,?_,G,_,gcH_trans h1,gcH_rel h2 hnd,fun t=>?_,fun j hj hmv=>?_⟩
 ·show i<(gcH σ.hp m).length;have hi':i∈(sget (renSl (posOf m) s) t).ids:=hi;rw[sget_renSl]at hi';have:=renSV_ids (p:=fun y=>y<m.length) hlen _ i hi'
  simpa [gcH] using this
 ·show C.H.length<=(gcH σ.hp m).length;rw[<- hm];simp [gcH,gcIds]
 ·show svR N G _ (sget (renSl (posOf m) s) t) _;rw[sget_renSl];exact renSV_ok hφ (hsv t)
 ·have hmv':mvB (hget (gcH σ.hp m) j)=false:=hmv;rw[gcH_get,hold j hj]at hmv';simp only [mvB_renB]at hmv';have:m.getD j 0=j:=by simp [List.getD,hold j hj]
  show κ (m.getD j 0)=C.κ j;rw[this];exact h4 j hj hmv'
def frzB:Blk->Blk
 | .arr e t xs _ mv=>.arr e t xs true mv
 | b=>b
def frzH:HL->List Nat->HL
 | H,[]=>H
 | H,l :: r=>frzH (match hget H l with
  | .arr e t xs false mv=>hset H l (.arr e t xs true mv)
  | _=>H) r
def frzIds(σ:St):List Nat->List Nat
 | []=>[]
 | t :: r=>(sget σ.sl t).ids++frzIds σ r
theorem Inv.frzOne{N:NumSem} {C:Ctx} {σ:St} {a:Act} {w:World} (h:Inv N C σ a w) (l:Nat) :
  Inv N C ⟨σ.sl,match hget σ.hp l with | .arr e t xs false mv=>hset σ.hp l (.arr e t xs true mv) | _=>σ.hp⟩ a w:=by
 split
 ·rename_i e t xs mv hl;obtain⟨G,κ,h1,h2,h3,h4⟩:=h.ex;have hlive:=hmap_mk hl (by simp);obtain⟨cs,hw,hsz,hle,hel,hfz⟩:=h2.blk l _ hlive;have hno:∀ o v,G (κ l).1 o=some v->False:=fun o v eg=>h2.own l _ hlive o v eg
  have hG:G.le (gadd G (κ l).1 (xs.length*t.w) cs):=fun x o v eg=>by
   unfold gadd;split
   ·rename_i hc;rw[hc.1]at eg;exact(hno o v eg).elim
   ·exact eg
  have hGn:∀ x o v,gadd G (κ l).1 (xs.length*t.w) cs x o=some v->G x o=some v\/(x=(κ l).1/\o<xs.length*t.w/\cs[o]? = some v):=fun x o v eg=>by
   unfold gadd at eg;split at eg
   ·rename_i hc;exact .inr ⟨hc.1,hc.2,eg⟩
   ·exact .inl eg
  have hr':=h2.turn (w':=w) l _ (.arr e t xs true mv) hlive hG (fun x o v eg=>by
    rcases hGn x o v eg with h | ⟨hx,_,hc⟩
    ·exact .inl h
    ·refine .inr ⟨hx,?_⟩;subst hx;simp only [World.cell?,hw]
     simpa using hc) (fun _ _=>rfl) (fun o v eg=>(hno o v eg).elim)
   ⟨cs,hw,hsz,hle,fun i x hx=>by obtain⟨vs,a,b⟩:=hel i x hx;exact⟨vs,a.mono hG,b⟩,fun _ j v hj hc=>by
    unfold gadd;rw[if_pos ⟨rfl,hj⟩];exact hc⟩ (fun o v eg=>by
    rcases hGn _ o v eg with h | ⟨_,h,_⟩
    ·exact(hno o v h).elim
    ·exact h) (by simp)
  have ht':Trans G κ (hmap σ.hp) w (gadd G (κ l).1 (xs.length*t.w) cs) κ ((hmap σ.hp).set l (.arr e t xs true mv)) w:=
   Trans.turn (N:=N) l _ _ hlive hG (fun x o v eg=>by
    rcases hGn x o v eg with h | ⟨hx,_⟩
    ·exact .inl h
    ·exact .inr hx) (fun _ _=>rfl) rfl rfl rfl rfl
  rw[<- hmap_hset]at hr' ht';have hlen:σ.hp.length<=(hset σ.hp l (.arr e t xs true mv)).length:=length_hset _ _ _;refine⟨fun j as hj i hi=>?_,fun t i hi=>Nat.lt_of_lt_of_le (h.wfs t i hi) hlen,h.dfr,h.size,Nat.le_trans h.len hlen,_,κ,h1.trans ht',hr',fun t=>(h3 t).mono hG fun _ _=>rfl,fun j hj hm=>?_⟩
  ·have hj':hget (hset σ.hp l (.arr e t xs true mv)) j=.var as:=hj;rw[hget_hset]at hj';split at hj'
   ·cases hj'
   ·exact Nat.lt_of_lt_of_le (h.wf j as hj' i hi) hlen
  ·have hm':mvB (hget (hset σ.hp l (.arr e t xs true mv)) j)=false:=hm;rw[hget_hset]at hm';split at hm'
   ·rename_i hjl;subst hjl;exact h4 j hj (by rw[hl];exact hm')
   ·exact h4 j hj hm'
 ·exact h
theorem Inv.frzH{N:NumSem} {C:Ctx} {a:Act} {w:World}:∀ {ls:List Nat} {σ:St},Inv N C σ a w->Inv N C ⟨σ.sl,frzH σ.hp ls⟩ a w
 | [],σ,h=>h
 | l :: r,σ,h=>Inv.frzH (ls:=r) (h.frzOne l)
def deepB(H:HL):Blk->Blk
 | .var as=>.var (deepAs H as)
 | b=>b
def deepH(H:HL):HL:=H.map (deepB H)
def deepSl(H:HL):Slots->Slots
 | []=>[]
 | p :: r=>(p.1,deepSV H p.2) :: deepSl H r
def frz(ts:List Nat) (σ:St):St:=
 match ts with
 | []=>σ
 | _ =>
  let H1:=frzH σ.hp (reach σ.hp 2 (dedup [] (frzIds σ ts)))
  ⟨deepSl H1 σ.sl,deepH H1⟩
theorem condIds{b:Bool} {x a:Atom} {i:Nat} (hx:x.ids=[]) (h:i∈(bif b then x else a).ids):i∈a.ids:=by
 cases b with
 | true=>simp only [cond_true,hx]at h;cases h
 | false=>exact h
theorem deepA_ids(H:HL) (a:Atom):∀ i∈(deepA H a).ids,i∈a.ids:=by
 intro i h;cases a <;> simp only [deepA]at h <;> try exact h
 all_goals
  split at h
  ·exact condIds rfl h
  ·exact h
theorem deepAs_ids(H:HL):∀ (as:List Atom),∀ i∈aids (deepAs H as),i∈aids as
 | [],i,h=>by simp [deepAs,aids]at h
 | a :: as,i,h=>by
  simp only [deepAs,aids,List.flatMap_cons,List.mem_append]at h ⊢;rcases h with h | h
  ·exact .inl (deepA_ids H a i h)
  ·exact .inr (deepAs_ids H as i h)
theorem deepSV_ids(H:HL) (s:SV):∀ i∈(deepSV H s).ids,i∈s.ids:=by
 have htp:∀ (vs:List (Bool × List Atom)),∀ i∈tupIds (deepTup H vs),i∈tupIds vs:=by
  intro vs
  induction vs with
  | nil=>intro i h;simp [deepTup,tupIds]at h
  | cons p ps ih =>
   intro i h;simp only [deepTup,tupIds,List.mem_append]at h ⊢;rcases h with h | h
   ·exact .inl (deepAs_ids H _ i h)
   ·exact .inr (ih i h)
 intro i h;cases s with
 | undef=>exact h
 | v g as=>exact deepAs_ids H as i h
 | tup vs=>exact htp vs i h
 | ifc t a=>exact deepA_ids H a i h
theorem sget_deepSl(H:HL) (t:Nat):∀ (s:Slots),sget (deepSl H s) t=deepSV H (sget s t)
 | []=>rfl
 | p :: r=>by
  simp only [deepSl,sget];cases Nat.beq p.1 t with
  | true=>rfl
  | false=>exact sget_deepSl H t r
theorem hget_deepH(H:HL) (l:Nat):hget (deepH H) l=deepB H (hget H l):=hget_mapB _ rfl H l
theorem isMk_deep(H:HL) (as:List Atom):isMk (deepAs H as)=isMk as:=by
 cases as with
 | nil=>rfl
 | cons a r =>
  cases a <;> simp only [deepAs,deepA] <;> first | rfl | (split <;> first | rfl | (cases (Nat.beq _ _) <;> rfl))
theorem Inv.deep{N:NumSem} {C:Ctx} {σ:St} {a:Act} {w:World} (h:Inv N C σ a w):Inv N C ⟨deepSl σ.hp σ.sl,deepH σ.hp⟩ a w:=by
 obtain⟨G,κ,h1,h2,h3,h4⟩:=h.ex;have live:∀ l,hmap (deepH σ.hp) l≠none->hmap σ.hp l≠none:=fun l hl=>by
  unfold hmap at hl ⊢;rw[hget_deepH]at hl;cases hb:hget σ.hp l <;> rw[hb]at hl <;> simp_all [deepB,Blk.opt]
 have hlen:(deepH σ.hp).length=σ.hp.length:=by simp [deepH]
 have cs:∀ {l b},hmap (deepH σ.hp) l=some b->(∃ as,hmap σ.hp l=some (.var as)/\b=.var (deepAs σ.hp as))\/hmap σ.hp l=some b:=fun{l b} e=>by
  obtain⟨e1,e2⟩:=hmap_eq e;rw[hget_deepH]at e1;cases hb:hget σ.hp l with
  | dead=>rw[hb]at e1;exact absurd e1.symm e2
  | var as=>rw[hb]at e1;exact .inl ⟨as,hmap_mk hb (by simp),e1.symm⟩
  | arr el t xs f mv=>rw[hb]at e1;refine .inr (hmap_mk ?_ e2);rw[hb];exact e1
 refine⟨fun l as hl i hi=>?_,fun t i hi=>?_,h.dfr,h.size,by show C.H.length<=(deepH σ.hp).length;rw[hlen];exact h.len,G,κ,h1.drop live,?_,fun t=>?_,fun j hj hm=>?_⟩
 ·have hl':hget (deepH σ.hp) l=.var as:=hl;show i<(deepH σ.hp).length;rw[hlen];rw[hget_deepH]at hl';cases hb:hget σ.hp l with
  | dead=>rw[hb]at hl';cases hl'
  | arr _ _ _ _ _=>rw[hb]at hl';cases hl'
  | var bs =>
   rw[hb]at hl';simp only [deepB,Blk.var.injEq]at hl';subst hl';exact h.wf l bs hb i (deepAs_ids _ _ i hi)
 ·show i<(deepH σ.hp).length;rw[hlen];have hi':i∈(sget (deepSl σ.hp σ.sl) t).ids:=hi;rw[sget_deepSl]at hi';exact h.wfs t i (deepSV_ids _ _ i hi')
 ·exact
  {ghost:=h2.ghost
   blk:=fun l b e=>by
    rcases cs e with ⟨as,e1,rfl⟩ | e1
    ·obtain⟨c,ty,hw,hm,hcs⟩:=h2.blk l _ e1;exact⟨c,ty,hw,by rw[isMk_deep];exact hm,deepAs_ok (fun _ _ e=>e) h2 hcs⟩
    ·exact h2.blk l b e1
   sep:=fun l l' hl hl'=>h2.sep l l' (live l hl) (live l' hl')
   inv:=h2.inv
   off:=fun l hl=>h2.off l (live l hl)
   own:=fun l b e o v eg=>by
    rcases cs e with ⟨as,e1,rfl⟩ | e1
    ·exact h2.own l _ e1 o v eg
    ·exact h2.own l b e1 o v eg }
 ·show svR N G κ (sget (deepSl σ.hp σ.sl) t) _;rw[sget_deepSl];exact deepSV_ok (fun _ _ e=>e) h2 (h3 t)
 ·refine h4 j hj ?_;have hm':mvB (hget (deepH σ.hp) j)=false:=hm;rw[hget_deepH]at hm';cases hb:hget σ.hp j <;> rw[hb]at hm' <;> simpa [deepB,mvB] using hm'
def sealSt(n0:Nat) (σ:St):St:=
 let H1:=frzH σ.hp (upFrom n0 (List.range σ.hp.length))
 ⟨deepSl H1 σ.sl,deepH H1⟩
theorem Inv.sealSt{N:NumSem} {C:Ctx} {σ:St} {a:Act} {w:World} (h:Inv N C σ a w) (n0:Nat):Inv N C (sealSt n0 σ) a w:=
 (h.frzH (ls:=upFrom n0 (List.range σ.hp.length))).deep
theorem Inv.frz{N:NumSem} {C:Ctx} {σ:St} {a:Act} {w:World} (h:Inv N C σ a w) (ts:List Nat):Inv N C (frz ts σ) a w:=by
 unfold Abs.frz;split
 ·exact h
 ·exact(h.frzH).deep
end
end Go.Abs

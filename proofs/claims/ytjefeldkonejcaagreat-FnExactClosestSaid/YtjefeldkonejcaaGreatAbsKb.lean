/-
 A PART OF THE PROOF of ClI (texts AbsKb AbsKc AbsL): the claim itself stands in the last text. No conditions beside those of the given row.
-/
import Derived.Test.YtjefeldkonejcaaGreatAbsJ
import Derived.Laws.BytesString
import Derived.Lib.Strings
set_option linter.unusedVariables false
set_option linter.unnecessarySimpa false
set_option linter.unusedSimpArgs false
namespace Go.Abs
def dropA:List Atom->Nat->Option (List Atom)
 | as,0=>some as
 | [],_=>none
 | a :: r,n+1=>bif Nat.ble a.w (n+1)then dropA r (n+1-a.w)else none
theorem dropA_ok{N:NumSem} {G:Ghost} {κ:Kap}:∀ {as:List Atom} {n:Nat} {bs:List Atom} {cs:List Value},dropA as n=some bs->AsR N G κ as cs->∃ c d,cs=c++d/\c.length=n/\AsR N G κ bs d
 | as,0,bs,cs,h,hc=>by
  have:dropA as 0=some as:=by cases as <;> rfl
  rw[this]at h;cases h;exact⟨[],cs,rfl,rfl,hc⟩
 | [],n+1,bs,cs,h,hc=>by simp [dropA]at h
 | a :: r,n+1,bs,cs,h,hc=>by
  simp only [dropA]at h;cases hb:Nat.ble a.w (n+1)with
  | false=>rw[hb]at h;contradiction
  | true =>
   rw[hb]at h;simp only [cond_true]at h;have hle:=Nat.le_of_ble_eq_true hb;obtain⟨c1,c2,e,h1,h2⟩:=hc;obtain⟨d1,d2,e2,h3,h4⟩:=dropA_ok h h2;have hl:=h1.len;refine⟨c1++d1,d2,by rw[e,e2,List.append_assoc],?_,h4⟩;rw[List.length_append,hl,h3];omega
def readA(T:Ty) (as:List Atom) (off:Nat):Option T.den:=(dropA as off).bind fun bs=>dec T bs fun y _=>some y
theorem readA_ok{N:NumSem} {G:Ghost} {κ:Kap} {T:Ty} {as:List Atom} {off:Nat} {y:T.den} {cs:List Value} (h:readA T as off=some y) (hc:AsR N G κ as cs) :
  ∃ c vs d,cs=c++(vs++d)/\c.length=off/\DR N G T y vs:=by
 unfold readA at h;cases hd:dropA as off with
 | none=>rw[hd]at h;contradiction
 | some bs =>
  rw[hd]at h;simp only [Option.bind_some]at h;obtain⟨c,d,e,h1,h2⟩:=dropA_ok hd hc;obtain⟨x,rest,c1,d1,h3,e2,h4,_⟩:=dec_ok h h2;cases h3;exact⟨c,c1,d1,by rw[e,e2],h1,h4⟩
theorem At.part{G:Ghost} {b o:Nat} {c vs d:List Value} (h:At G b o (c++(vs++d))):At G b (o+c.length) vs:=fun j v e=>by
 have hj:=(List.getElem?_eq_some_iff.1 e).1;have:=h (c.length+j) v (by
  rw[List.getElem?_append_right (by omega),List.getElem?_append_left (by omega),show c.length+j-c.length=j by omega];exact e)
 rwa [<- Nat.add_assoc]at this
def closeB:Blk->Blk
 | .arr e t xs _ mv=>.arr e t xs true mv
 | _=>.dead
def viewA(H:HL) (T:Ty) (oth:List Nat) (a:Atom):Atom × List Nat:=
 match a with
 | .ip t x off=>(match readA T (enc t x) off with
  | some y=>(.ip T y 0,[])
  | none=>(a,[]))
 | .ptr l off=>bif oth.elem l then(a,[])else(match hget H l with
  | .var as=>bif isMk as then(a,[])else(match readA T as off with
   | some y=>(.ip T y 0,[l])
   | none=>(a,[]))
  | _=>(a,[]))
 | .nils=>(match T with
  | .list t=>(.sl none t [],[])
  | _=>(a,[]))
 | .wsl l w=>bif oth.elem l then(a,[])else(match hget H l with
  | .arr _ t xs _ _=>(if T=.list t then bif Nat.beq t.w w then(.sl (some false) t xs,[l])else(a,[])else(a,[]))
  | _=>(a,[]))
 | .osl l w off len=>bif oth.elem l then(a,[])else(match hget H l with
  | .arr _ t xs _ _=>(if T=.list t then bif Nat.beq t.w w then(.sl (some false) t ((xs.drop off).take len),[l])else(a,[])else(a,[]))
  | _=>(a,[]))
 | a=>(a,[])
def viewAs(H:HL) (T:Ty) (oth:List Nat):List Atom->List Atom × List Nat
 | []=>([],[])
 | a :: r=>((viewA H T oth a).1 :: (viewAs H T oth r).1,(viewA H T oth a).2++(viewAs H T oth r).2)
def viewSV(H:HL) (T:Ty) (oth:List Nat) (s:SV):SV × List Nat:=
 match s with
 | .v g as=>(.v g (viewAs H T oth as).1,(viewAs H T oth as).2)
 | s=>(s,[])
def lkT:List (Nat × Ty)->Nat->Option Ty
 | [],_=>none
 | p :: r,k=>bif Nat.beq p.1 k then some p.2 else lkT r k
def othIds(M:List (Nat × Ty)):Nat->List SV->List Nat
 | _,[]=>[]
 | k,s :: r=>(match lkT M k with | some _=>othIds M (k+1) r | none=>s.ids++othIds M (k+1) r)
def sealGo(H:HL) (M:List (Nat × Ty)) (oth:List Nat):Nat->List SV->List SV × List Nat
 | _,[]=>([],[])
 | k,s :: r=>(match lkT M k with
  | some T=>((viewSV H T oth s).1 :: (sealGo H M oth (k+1) r).1,(viewSV H T oth s).2++(sealGo H M oth (k+1) r).2)
  | none=>(s :: (sealGo H M oth (k+1) r).1,(sealGo H M oth (k+1) r).2))
def sealArgs(H:HL) (M:List (Nat × Ty)) (args:List SV):List SV × List Nat:=
 match M with
 | []=>(args,[])
 | _=>sealGo H M (othIds M 0 args) 0 args
def closeL(H:HL):List Nat->List (Nat × Blk)
 | []=>[]
 | l :: r=>(l,closeB (hget H l)) :: closeL H r
def setAll:List (Nat × Blk)->HL->HL
 | [],H=>H
 | p :: r,H=>setAll r (hset H p.1 p.2)
def setAllF:List (Nat × Blk)->Hp->Hp
 | [],h=>h
 | p :: r,h=>setAllF r (h.set p.1 p.2)
def closeH(H:HL) (S:List Nat):HL:=setAll (closeL H S) H
def closeF(H:HL) (S:List Nat) (h:Hp):Hp:=setAllF (closeL H S) h
theorem hmap_setAll:∀ (Z:List (Nat × Blk)) (H:HL),hmap (setAll Z H)=setAllF Z (hmap H)
 | [],H=>rfl
 | p :: r,H=>by simp only [setAll,setAllF];rw[hmap_setAll r,hmap_hset]
theorem hmap_closeH(S:List Nat) (H:HL):hmap (closeH H S)=closeF H S (hmap H):=hmap_setAll _ _
theorem setAllF_fold:∀ (Z:List (Nat × Blk)) (h:Hp),Z.foldl (fun h p=>h.set p.1 p.2) h=setAllF Z h
 | [],h=>rfl
 | p :: r,h=>by simp only [List.foldl_cons,setAllF];exact setAllF_fold r _
theorem setAllF_get(H:HL):∀ (S:List Nat) (h:Hp) (i:Nat),(setAllF (closeL H S) h) i=if i∈S then(closeB (hget H i)).opt else h i
 | [],h,i=>by simp [closeL,setAllF]
 | l :: r,h,i=>by
  simp only [closeL,setAllF];rw[setAllF_get H r]
  by_cases hr:i∈r
  ·simp [hr]
  ·by_cases hi:i=l
   ·subst hi;simp [hr,Hp.set_same]
   ·simp [hr,hi,Hp.set_other _ _ hi]
theorem setAll_get(H0:HL):∀ (S:List Nat) (H:HL) (i:Nat),hget (setAll (closeL H0 S) H) i=if i∈S then closeB (hget H0 i)else hget H i:=by
 have hs:∀ (H:HL) (l i:Nat) (b:Blk),hget (hset H l b) i=if i=l then b else hget H i:=by
  intro H l i b
  induction H generalizing l i with
  | nil =>
   induction l generalizing i with
   | zero=>cases i <;> simp [hset,hget]
   | succ l ih =>
    cases i with
    | zero=>simp [hset,hget]
    | succ i=>simp [hset,hget,ih]
  | cons x r ih =>
   cases l with
   | zero=>cases i <;> simp [hset,hget]
   | succ l=>cases i <;> simp [hset,hget,ih]
 intro S
 induction S with
 | nil=>intro H i;simp [closeL,setAll]
 | cons l r ih =>
  intro H i;simp only [closeL,setAll];rw[ih,hs]
  by_cases hr:i∈r
  ·simp [hr]
  ·by_cases hi:i=l
   ·subst hi;simp [hr]
   ·simp [hr,hi]
theorem setAll_len:∀ (Z:List (Nat × Blk)) (H:HL),H.length<=(setAll Z H).length
 | [],H=>Nat.le_refl _
 | p :: r,H=>by
  have h1:H.length<=(hset H p.1 p.2).length:=by
   have:∀ (H:HL) (l:Nat) (b:Blk),H.length<=(hset H l b).length:=by
    intro H
    induction H with
    | nil=>intro l b;simp
    | cons x r ih =>
     intro l b;cases l with
     | zero=>simp [hset]
     | succ l=>simp only [hset,List.length_cons];have:=ih l b;omega
   exact this H p.1 p.2
  exact Nat.le_trans h1 (setAll_len r _)
theorem closeF_get(H:HL) (S:List Nat) (h:Hp) (i:Nat):(closeF H S h) i=if i∈S then(closeB (hget H i)).opt else h i:=setAllF_get H S h i
theorem closeH_get(H:HL) (S:List Nat) (i:Nat):hget (closeH H S) i=if i∈S then closeB (hget H i)else hget H i:=setAll_get H S H i
theorem closeB_live{b:Blk} (h:(closeB b).opt≠none):b.opt≠none:=by cases b <;> simp_all [closeB,Blk.opt]
theorem closeB_twice(b:Blk):closeB (closeB b)=closeB b:=by cases b <;> rfl
theorem seal_one{N:NumSem} {G:Ghost} {κ:Kap} {hf:Hp} {w:World} (hr:Rel N G κ hf w) (l:Nat) (b:Blk) (hb:hf l=b.opt) :
  ∃ G1,Trans G κ hf w G1 κ (hf.set l (closeB b)) w/\Rel N G1 κ (hf.set l (closeB b)) w /\
   ∀ as,b=.var as->isMk as=false->∃ cs ty,w.heap[(κ l).1]? = some (.cells cs ty (0,0))/\At G1 (κ l).1 0 cs.toList:=by
 have hsub':∀ i,(hf.set l (closeB b)) i≠none->hf i≠none:=fun i h=>by
  by_cases hi:i=l
  ·subst hi;rw[Hp.set_same]at h;rw[hb];exact closeB_live h
  ·rwa [Hp.set_other _ _ hi]at h
 cases b with
 | dead =>
  refine⟨G,(Trans.refl ..).drop hsub',hr.drop fun i b h=>?_,fun as h=>by cases h⟩
  by_cases hi:i=l
  ·subst hi;rw[Hp.set_same]at h;simp [closeB,Blk.opt]at h
  ·rwa [Hp.set_other _ _ hi]at h
 | var as =>
  have hv:hf l=some (.var as):=hb;have hsub:∀ i b,(hf.set l .dead) i=some b->hf i=some b:=fun i b h=>by
   by_cases hi:i=l
   ·subst hi;rw[Hp.set_same]at h;simp [Blk.opt]at h
   ·rwa [Hp.set_other _ _ hi]at h
  have hno:∀ o v,G (κ l).1 o=some v->False:=fun o v eg=>hr.own l _ hv o v eg
  cases hmk:isMk as with
  | true =>
   refine⟨G,(Trans.refl ..).drop hsub',hr.drop hsub,fun as' e hm=>?_⟩;cases e;rw[hmk]at hm;contradiction
  | false =>
  obtain⟨cs,ty,hw,hcs⟩:=(hr.blk l _ hv).cells hmk
  let G1:Ghost:=fun x o=>if x=(κ l).1 then cs[o]? else G x o
  have hG:G.le G1:=fun x o v eg=>by
   show (if x=(κ l).1 then cs[o]? else G x o)=some v;split
   ·rename_i hx;rw[hx]at eg;exact(hno o v eg).elim
   ·exact eg
  have hG1:∀ x o v,G1 x o=some v->G x o=some v\/(x=(κ l).1/\cs[o]? = some v):=fun x o v eg=>by
   have eg:(if x=(κ l).1 then cs[o]? else G x o)=some v:=eg;split at eg
   ·rename_i hx;exact .inr ⟨hx,eg⟩
   ·exact .inl eg
  have hother:∀ i,hf i≠none->i≠l->∀ o v,G1 (κ i).1 o=some v->G (κ i).1 o=some v:=fun i hi hne o v eg=>by
   rcases hG1 _ o v eg with h | ⟨h,_⟩
   ·exact h
   ·exact absurd h (hr.sep i l hi (by rw[hv];simp) hne)
  have hne:∀ i,(hf.set l .dead) i≠none->i≠l:=fun i hi e=>by
   subst e;rw[Hp.set_same]at hi;exact hi rfl
  refine⟨G1,⟨hG,Nat.le_refl _,fun _ _ _=>rfl,rfl,rfl,rfl,fun x o v e=>?_,fun i hi=>.inr ⟨i,hsub' i hi,rfl⟩⟩,⟨fun x o v e=>?_,fun i b e=>?_,fun i j hi hj hij=>hr.sep i j (hsub' i hi) (hsub' j hj) hij,fun i b e o v eg=>?_,hr.inv,fun i hi=>hr.off i (hsub' i hi)⟩,?_⟩
  ·rcases hG1 x o v e with h | ⟨h,_⟩
   ·exact .inl h
   ·exact .inr (.inr ⟨l,by rw[hv];simp,h.symm⟩)
  ·rcases hG1 x o v e with h | ⟨h,h2⟩
   ·exact hr.ghost x o v h
   ·subst h;simp only [World.cell?,hw]
    simpa using h2
  ·exact(hr.blk i b (hsub i b e)).keep hG rfl rfl fun _ _ _ _=>rfl
  ·have hi:(hf.set l .dead) i≠none:=by rw[show (hf.set l .dead) i=some b from e];simp
   exact hr.own i b (hsub i b e) o v (hother i (hsub' i hi) (hne i hi) o v eg)
  ·intro as' _ _;refine⟨cs,ty,hw,fun j v e=>?_⟩;show (if(κ l).1=(κ l).1 then cs[0+j]? else G (κ l).1 (0+j))=some v;rw[if_pos rfl,Nat.zero_add]
   simpa using e
 | arr e t xs f mv =>
  have hlive:hf l=some (.arr e t xs f mv):=hb;cases f with
  | true =>
   have hsame:hf.set l (closeB (.arr e t xs true mv))=hf:=by
    funext i
    by_cases hi:i=l
    ·subst hi;rw[Hp.set_same,hlive];rfl
    ·rw[Hp.set_other _ _ hi]
   rw[hsame];exact⟨G,Trans.refl ..,hr,fun as h=>by cases h⟩
  | false =>
   obtain⟨cs,hw,hsz,hle,hel,hfz⟩:=hr.blk l _ hlive;have hno:∀ o v,G (κ l).1 o=some v->False:=fun o v eg=>hr.own l _ hlive o v eg
   have hG:G.le (gadd G (κ l).1 (xs.length*t.w) cs):=fun x o v eg=>by
    unfold gadd;split
    ·rename_i hc;rw[hc.1]at eg;exact(hno o v eg).elim
    ·exact eg
   have hGn:∀ x o v,gadd G (κ l).1 (xs.length*t.w) cs x o=some v->G x o=some v\/(x=(κ l).1/\o<xs.length*t.w/\cs[o]? = some v):=fun x o v eg=>by
    unfold gadd at eg;split at eg
    ·rename_i hc;exact .inr ⟨hc.1,hc.2,eg⟩
    ·exact .inl eg
   refine⟨gadd G (κ l).1 (xs.length*t.w) cs,?_,?_,fun as h=>by cases h⟩
   ·exact Trans.turn (N:=N) l _ _ hlive hG (fun x o v eg=>by
     rcases hGn x o v eg with h | ⟨hx,_⟩
     ·exact .inl h
     ·exact .inr hx) (fun _ _=>rfl) rfl rfl rfl rfl
   ·exact hr.turn (w':=w) l _ (.arr e t xs true mv) hlive hG (fun x o v eg=>by
     rcases hGn x o v eg with h | ⟨hx,_,hc⟩
     ·exact .inl h
     ·refine .inr ⟨hx,?_⟩;subst hx;simp only [World.cell?,hw]
      simpa using hc) (fun _ _=>rfl) (fun o v eg=>(hno o v eg).elim)
     ⟨cs,hw,hsz,hle,fun i x hx=>by obtain⟨vs,a,b⟩:=hel i x hx;exact⟨vs,a.mono hG,b⟩,fun _ j v hj hc=>by
      unfold gadd;rw[if_pos ⟨rfl,hj⟩];exact hc⟩ (fun o v eg=>by
      rcases hGn _ o v eg with h | ⟨_,h,_⟩
      ·exact(hno o v h).elim
      ·exact h) (by simp)
theorem seal_all{N:NumSem} {H:HL} {κ:Kap} {w:World}:∀ (S:List Nat) {G:Ghost} {hf:Hp} (hr:Rel N G κ hf w) (hS:∀ l∈S,hf l=(hget H l).opt\/hf l=(closeB (hget H l)).opt),
  ∃ G1,Trans G κ hf w G1 κ (closeF H S hf) w/\Rel N G1 κ (closeF H S hf) w /\
   ∀ l∈S,hf l=(hget H l).opt->∀ as,hget H l=.var as->isMk as=false->∃ cs ty,w.heap[(κ l).1]? = some (.cells cs ty (0,0))/\At G1 (κ l).1 0 cs.toList
 | [],G,hf,hr,hS=>⟨G,Trans.refl ..,hr,fun l h=>by cases h⟩
 | l :: r,G,hf,hr,hS=>by
  have hstep:∃ G1,Trans G κ hf w G1 κ (hf.set l (closeB (hget H l))) w/\Rel N G1 κ (hf.set l (closeB (hget H l))) w /\
    (hf l=(hget H l).opt->∀ as,hget H l=.var as->isMk as=false->∃ cs ty,w.heap[(κ l).1]? = some (.cells cs ty (0,0))/\At G1 (κ l).1 0 cs.toList):=by
   rcases hS l (by simp)with h | h
   ·obtain⟨G1,t1,r1,h1⟩:=seal_one hr l _ h;exact⟨G1,t1,r1,fun _=>h1⟩
   ·obtain⟨G1,t1,r1,h1⟩:=seal_one hr l _ h;rw[closeB_twice]at t1 r1;refine⟨G1,t1,r1,fun he as ha=>?_⟩;rw[ha]at h he;rw[h]at he;simp [closeB,Blk.opt]at he
  obtain⟨G1,t1,r1,h1⟩:=hstep;obtain⟨G2,t2,r2,h2⟩:=seal_all r r1 (fun i hi=>by
   by_cases hil:i=l
   ·subst hil;rw[Hp.set_same];exact .inr rfl
   ·rw[Hp.set_other _ _ hil];exact hS i (List.mem_cons_of_mem _ hi))
  refine⟨G2,t1.trans t2,r2,fun i hi he as ha=>?_⟩
  by_cases hil:i=l
  ·subst hil;intro hm;obtain⟨cs,ty,e1,e2⟩:=h1 he as ha hm;exact⟨cs,ty,e1,e2.mono t2.gle⟩
  ·rcases List.mem_cons.1 hi with h | h
   ·exact absurd h hil
   ·exact h2 i h (by rw[Hp.set_other _ _ hil];exact he) as ha
theorem viewA_ids{H:HL} {T:Ty} {oth:List Nat} {a:Atom}:(∀ i∈(viewA H T oth a).1.ids,i∈a.ids) /\ ∀ i∈(viewA H T oth a).2,i∈a.ids/\hget H i ≠ .dead:=by
 unfold viewA;split
 ·split
  ·simp [Atom.ids]
  ·simp
 ·rename_i l off;cases oth.elem l with
  | true=>simp
  | false =>
   simp only [cond_false];split
   ·rename_i as has;cases isMk as with
    | true=>simp
    | false =>
     simp only [cond_false];split
     ·simp [Atom.ids,has]
     ·simp
   ·simp
 ·split
  ·simp [Atom.ids]
  ·simp
 ·rename_i l w;cases oth.elem l with
  | true=>simp
  | false =>
   simp only [cond_false];split
   ·rename_i e t xs f mv ha;split
    ·cases Nat.beq t.w w with
     | true=>simp [Atom.ids,ha]
     | false=>simp
    ·simp
   ·simp
 ·rename_i l w off len;cases oth.elem l with
  | true=>simp
  | false =>
   simp only [cond_false];split
   ·rename_i e t xs f mv ha;split
    ·cases Nat.beq t.w w with
     | true=>simp [Atom.ids,ha]
     | false=>simp
    ·simp
   ·simp
 ·simp
theorem viewAs_ids{H:HL} {T:Ty} {oth:List Nat}:∀ {as:List Atom},(∀ i∈aids (viewAs H T oth as).1,i∈aids as) /\ ∀ i∈(viewAs H T oth as).2,i∈aids as/\hget H i ≠ .dead
 | []=>⟨by simp [viewAs,aids],by simp [viewAs]⟩
 | a :: r=>by
  have h1:=viewA_ids (H:=H) (T:=T) (oth:=oth) (a:=a);have h2:=viewAs_ids (H:=H) (T:=T) (oth:=oth) (as:=r);refine⟨fun i hi=>?_,fun i hi=>?_⟩
  ·simp only [viewAs,aids,List.flatMap_cons,List.mem_append]at hi ⊢;rcases hi with hi | hi
   ·exact .inl (h1.1 i hi)
   ·exact .inr (h2.1 i hi)
  ·simp only [viewAs,aids,List.flatMap_cons,List.mem_append]at hi ⊢;rcases hi with hi | hi
   ·exact⟨.inl (h1.2 i hi).1,(h1.2 i hi).2⟩
   ·exact⟨.inr (h2.2 i hi).1,(h2.2 i hi).2⟩
theorem viewSV_ids{H:HL} {T:Ty} {oth:List Nat} {s:SV}:(∀ i∈(viewSV H T oth s).1.ids,i∈s.ids) /\ ∀ i∈(viewSV H T oth s).2,i∈s.ids/\hget H i ≠ .dead:=by
 cases s with
 | v g as=>exact viewAs_ids
 | undef=>simp [viewSV]
 | tup vs=>simp [viewSV]
 | ifc t a=>simp [viewSV]
theorem viewA_ok{N:NumSem} {G G1:Ghost} {κ:Kap} {H H1:HL} {hf hf1:Hp} {w:World} (hH:∀ l b,hmap H l=some b->hf l=some b) (hr:Rel N G κ hf w) (hG:G.le G1)
  (hH1:∀ l b,hmap H1 l=some b->hf1 l=some b) (hr1:Rel N G1 κ hf1 w) {T:Ty} {oth:List Nat} {a:Atom} {cs:List Value}
  (hS:∀ l∈(viewA H T oth a).2,∀ as,hget H l=.var as->isMk as=false->∃ cs ty,w.heap[(κ l).1]? = some (.cells cs ty (0,0))/\At G1 (κ l).1 0 cs.toList)
  (hC:∀ l∈(viewA H T oth a).2,hget H1 l=closeB (hget H l))
  (h:AR N G κ a cs):AR N G1 κ (viewA H T oth a).1 cs:=by
 unfold viewA at hS hC ⊢;split
 ·rename_i t x off;split
  ·rename_i y hy;obtain⟨b,o,vs,e,h1,h2⟩:=h;obtain⟨c,us,d,e2,h3,h4⟩:=readA_ok hy (enc_ok (κ:=κ) h1);subst e2;have h5:=h2.part;rw[h3]at h5;refine⟨b,o+off,us,?_,h4.mono hG,h5.mono hG⟩;rw[e];rfl
  ·exact h.mono hG fun _ _=>rfl
 ·rename_i l off;simp only at hS;cases hb:oth.elem l with
  | true=>simp only [cond_true];exact h.mono hG fun _ _=>rfl
  | false =>
   rw[hb]at hS;simp only [cond_false]at hS ⊢;split
   ·rename_i as has;rw[has]at hS;simp only at hS;cases hmk:isMk as with
    | true=>simp only [cond_true];exact h.mono hG fun _ _=>rfl
    | false =>
    rw[hmk]at hS;simp only [cond_false]at hS ⊢;split
    ·rename_i y hy;rw[hy]at hS;simp only at hS;have hv:=hH l _ (hmap_mk has (by simp));obtain⟨ds,ty,e1,e2⟩:=hS l (by simp) as has hmk;obtain⟨cs',ty',e1',e3⟩:=(hr.blk l _ hv).cells hmk;rw[e1]at e1';simp only [Option.some.injEq,Obj.cells.injEq]at e1';obtain⟨e1',_⟩:=e1';subst e1';obtain⟨c,us,d,e4,h3,h4⟩:=readA_ok hy e3;rw[e4]at e2;have h5:=e2.part;rw[h3,Nat.zero_add]at h5;simp only [AR]at h;exact⟨(κ l).1,off,us,h,h4.mono hG,h5⟩
    ·exact h.mono hG fun _ _=>rfl
   ·exact h.mono hG fun _ _=>rfl
 ·split
  ·simp only [AR]at h;exact⟨_,h,.inl ⟨rfl,rfl⟩,by simp,by simp⟩
  ·exact h.mono hG fun _ _=>rfl
 ·rename_i l wd;cases hb:oth.elem l with
  | true=>simp only [cond_true];exact h.mono hG fun _ _=>rfl
  | false =>
   simp only [hb,cond_false]at hC ⊢;split
   ·rename_i e t xs f mv ha;simp only [ha]at hC;split
    ·rename_i hT;rw[if_pos hT]at hC;cases hw:Nat.beq t.w wd with
     | false=>simp only [cond_false];exact h.mono hG fun _ _=>rfl
     | true =>
      rw[hw]at hC;simp only [cond_true]at hC ⊢;have h1:hget H1 l=.arr e t xs true mv:=by rw[hC l (by simp),ha];rfl
      have hwd:=Nat.eq_of_beq_eq_true hw;subst hwd;have h2:=openW_ok hH1 hr1 (h.mono hG fun _ _=>rfl);simp only [openW,h1]at h2;have h3:=deepO_ok hH1 hr1 h1 h2
      simpa using h3
    ·exact h.mono hG fun _ _=>rfl
   ·exact h.mono hG fun _ _=>rfl
 ·rename_i l wd off len;cases hb:oth.elem l with
  | true=>simp only [cond_true];exact h.mono hG fun _ _=>rfl
  | false =>
   simp only [hb,cond_false]at hC ⊢;split
   ·rename_i e t xs f mv ha;simp only [ha]at hC;split
    ·rename_i hT;rw[if_pos hT]at hC;cases hw:Nat.beq t.w wd with
     | false=>simp only [cond_false];exact h.mono hG fun _ _=>rfl
     | true =>
      rw[hw]at hC;simp only [cond_true]at hC ⊢;have h1:hget H1 l=.arr e t xs true mv:=by rw[hC l (by simp),ha];rfl
      have hwd:=Nat.eq_of_beq_eq_true hw;subst hwd;exact deepO_ok hH1 hr1 h1 (h.mono hG fun _ _=>rfl)
    ·exact h.mono hG fun _ _=>rfl
   ·exact h.mono hG fun _ _=>rfl
 ·exact h.mono hG fun _ _=>rfl
theorem viewAs_ok{N:NumSem} {G G1:Ghost} {κ:Kap} {H H1:HL} {hf hf1:Hp} {w:World} (hH:∀ l b,hmap H l=some b->hf l=some b) (hr:Rel N G κ hf w) (hG:G.le G1)
  (hH1:∀ l b,hmap H1 l=some b->hf1 l=some b) (hr1:Rel N G1 κ hf1 w) {T:Ty} {oth:List Nat}:∀ {as:List Atom} {cs:List Value}
  (hS:∀ l∈(viewAs H T oth as).2,∀ as,hget H l=.var as->isMk as=false->∃ cs ty,w.heap[(κ l).1]? = some (.cells cs ty (0,0))/\At G1 (κ l).1 0 cs.toList)
  (hC:∀ l∈(viewAs H T oth as).2,hget H1 l=closeB (hget H l))
  (h:AsR N G κ as cs),AsR N G1 κ (viewAs H T oth as).1 cs
 | [],cs,_,_,h=>h
 | a :: r,cs,hS,hC,h=>by
  obtain⟨c,d,e,h1,h2⟩:=h;exact⟨c,d,e,viewA_ok hH hr hG hH1 hr1 (fun l hl=>hS l (List.mem_append_left _ hl)) (fun l hl=>hC l (List.mem_append_left _ hl)) h1,
   viewAs_ok hH hr hG hH1 hr1 (fun l hl=>hS l (List.mem_append_right _ hl)) (fun l hl=>hC l (List.mem_append_right _ hl)) h2⟩
theorem viewSV_ok{N:NumSem} {G G1:Ghost} {κ:Kap} {H H1:HL} {hf hf1:Hp} {w:World} (hH:∀ l b,hmap H l=some b->hf l=some b) (hr:Rel N G κ hf w) (hG:G.le G1)
  (hH1:∀ l b,hmap H1 l=some b->hf1 l=some b) (hr1:Rel N G1 κ hf1 w) {T:Ty} {oth:List Nat} {s:SV} {v:Value}
  (hS:∀ l∈(viewSV H T oth s).2,∀ as,hget H l=.var as->isMk as=false->∃ cs ty,w.heap[(κ l).1]? = some (.cells cs ty (0,0))/\At G1 (κ l).1 0 cs.toList)
  (hC:∀ l∈(viewSV H T oth s).2,hget H1 l=closeB (hget H l))
  (h:svR N G κ s v):svR N G1 κ (viewSV H T oth s).1 v:=by
 cases s with
 | v g as =>
  cases g with
  | false=>exact viewAs_ok hH hr hG hH1 hr1 hS hC h
  | true=>obtain⟨cs,h1,h2⟩:=h;exact⟨cs,h1,viewAs_ok hH hr hG hH1 hr1 hS hC h2⟩
 | undef=>trivial
 | tup vs=>exact h.mono hG fun _ _=>rfl
 | ifc t a=>exact h.mono hG fun _ _=>rfl
theorem SvsR.mono{N:NumSem} {G G':Ghost} {κ:Kap} (hG:G.le G'):∀ {ss:List SV} {vs:List Value},SvsR N G κ ss vs->SvsR N G' κ ss vs
 | [],vs,h=>h
 | s :: ss,vs,h=>by
  obtain⟨v,r,e,h1,h2⟩:=h;exact⟨v,r,e,h1.mono hG fun _ _=>rfl,h2.mono hG⟩
theorem sealGo_ids{H:HL} {M:List (Nat × Ty)} {oth:List Nat}:∀ {args:List SV} {k:Nat},∀ i∈(sealGo H M oth k args).2,hget H i ≠ .dead
 | [],k,i,h=>by simp [sealGo]at h
 | s :: r,k,i,h=>by
  simp only [sealGo]at h;cases hk:lkT M k with
  | none=>rw[hk]at h;exact sealGo_ids i h
  | some T =>
   rw[hk]at h;rcases List.mem_append.1 h with h | h
   ·exact(viewSV_ids.2 i h).2
   ·exact sealGo_ids i h
theorem sealArgs_ids{H:HL} {M:List (Nat × Ty)} {args:List SV}:∀ i∈(sealArgs H M args).2,hget H i ≠ .dead:=by
 cases M with
 | nil=>intro i h;simp [sealArgs]at h
 | cons p r=>exact sealGo_ids
theorem sealGo_ok{N:NumSem} {G G1:Ghost} {κ:Kap} {H H1:HL} {hf hf1:Hp} {w:World} (hH:∀ l b,hmap H l=some b->hf l=some b) (hr:Rel N G κ hf w) (hG:G.le G1)
  (hH1:∀ l b,hmap H1 l=some b->hf1 l=some b) (hr1:Rel N G1 κ hf1 w) {M:List (Nat × Ty)} {oth:List Nat} :
  ∀ {args:List SV} {k:Nat} {vs:List Value},(∀ l∈(sealGo H M oth k args).2,∀ as,hget H l=.var as->isMk as=false->∃ cs ty,w.heap[(κ l).1]? = some (.cells cs ty (0,0))/\At G1 (κ l).1 0 cs.toList) ->
   (∀ l∈(sealGo H M oth k args).2,hget H1 l=closeB (hget H l))->SvsR N G κ args vs->SvsR N G1 κ (sealGo H M oth k args).1 vs
 | [],k,vs,hS,hC,h=>h
 | s :: r,k,vs,hS,hC,h=>by
  obtain⟨v,us,e,h1,h2⟩:=h;simp only [sealGo]at hS hC ⊢;cases hk:lkT M k with
  | none =>
   rw[hk]at hS hC;simp only at hS hC ⊢;exact⟨v,us,e,h1.mono hG fun _ _=>rfl,sealGo_ok hH hr hG hH1 hr1 hS hC h2⟩
  | some T =>
   rw[hk]at hS hC;simp only at hS hC ⊢;exact⟨v,us,e,viewSV_ok hH hr hG hH1 hr1 (fun l hl=>hS l (List.mem_append_left _ hl)) (fun l hl=>hC l (List.mem_append_left _ hl)) h1,
    sealGo_ok hH hr hG hH1 hr1 (fun l hl=>hS l (List.mem_append_right _ hl)) (fun l hl=>hC l (List.mem_append_right _ hl)) h2⟩
theorem sealArgs_ok{N:NumSem} {G:Ghost} {κ:Kap} {H:HL} {hf:Hp} {w:World} (hH:∀ l b,hmap H l=some b->hf l=some b) (hr:Rel N G κ hf w) {M:List (Nat × Ty)} {args:List SV} {vs:List Value}
  (h:SvsR N G κ args vs):∃ G1,Trans G κ hf w G1 κ (closeF H (sealArgs H M args).2 hf) w/\Rel N G1 κ (closeF H (sealArgs H M args).2 hf) w /\
   (∀ l b,hmap (closeH H (sealArgs H M args).2) l=some b->(closeF H (sealArgs H M args).2 hf) l=some b)/\SvsR N G1 κ (sealArgs H M args).1 vs:=by
 have hids:=sealArgs_ids (H:=H) (M:=M) (args:=args);have hlive:∀ l∈(sealArgs H M args).2,hf l=(hget H l).opt:=fun l hl=>by
  have h1:=hids l hl;cases hb:hget H l with
  | dead=>exact absurd hb h1
  | var as=>exact hH l _ (hmap_mk hb (by simp))
  | arr e t xs f mv=>exact hH l _ (hmap_mk hb (by simp))
 obtain⟨G1,t1,r1,hS⟩:=seal_all (H:=H) (sealArgs H M args).2 hr (fun l hl=>.inl (hlive l hl));have hHf1:∀ l b,hmap (closeH H (sealArgs H M args).2) l=some b->(closeF H (sealArgs H M args).2 hf) l=some b:=fun l b hl=>by
  rw[hmap_closeH]at hl;rw[closeF_get]at hl ⊢;split at hl
  ·rename_i hm;rw[if_pos hm];exact hl
  ·rename_i hn;rw[if_neg hn];exact hH l b hl
 refine⟨G1,t1,r1,hHf1,?_⟩;have hC:∀ l∈(sealArgs H M args).2,hget (closeH H (sealArgs H M args).2) l=closeB (hget H l):=fun l hl=>by rw[closeH_get,if_pos hl]
 have hS':∀ l∈(sealArgs H M args).2,∀ as,hget H l=.var as->isMk as=false->∃ cs ty,w.heap[(κ l).1]? = some (.cells cs ty (0,0))/\At G1 (κ l).1 0 cs.toList:=fun l hl as ha=>hS l hl (hlive l hl) as ha
 cases M with
 | nil=>exact h.mono t1.gle
 | cons p r=>exact sealGo_ok hH hr t1.gle hHf1 r1 hS' hC h
section
variable {ρ:Type}
def idxB(s:ByteArray) (n:Int) (f:Nat->Option ρ):Option ρ:=
 if 0<=n then(match s.data.toList[n.toNat]? with | some b=>f b.toNat | none=>none)else none
def opIdxS(T:Tab) (t:Nat) (x i:SV) (K:SV->Option ρ):Option ρ:=
 tfind T t fun e=>(match e.kind with
  | .str=>one? x fun
   | .str s=>one? i fun
    | .int _ n=>idxB s n fun b=>K (one (.int .u8 b))
    | _=>none
   | _=>none
  | _=>none)
theorem opIdxS_ok{N:NumSem} {P:Program} {T:Tab} (hT:TabOk P T) {H:HL} {nid:Nat} {ev:Operand->SV} {o:Oper} {t:Nat} {ax ai:Operand} (ho:o.op=.index t ax ai)
  {K:SV->Option ρ} {r:ρ} (h:opIdxS T t (ev ax) (ev ai) K=some r):∃ s,K s=some r/\OpOK N P (hmap H) nid ev o { val:=s }:=by
 unfold opIdxS at h;obtain⟨e,he,h⟩:=tfind_ok hT h;have hkk:=te_kind he;split at h
 ·rename_i hk;rw[hk]at hkk;simp only [kindOk]at hkk;split at hkk
  ·rename_i hu;obtain⟨a,ha,h⟩:=one?_ok h;split at h
   ·rename_i s;obtain⟨ia,hia,h⟩:=one?_ok h;split at h
    ·rename_i k n;unfold idxB at h;split at h
     ·rename_i h0;split at h
      ·rename_i b hb;refine⟨_,h,OpOK.pure fun{G κ hf w ac} hH hr hev=>?_⟩;have h1:=hev ax;rw[ha]at h1;have h1:=one_val h1;simp only [AR,List.cons.injEq,and_true]at h1;have h2:=hev ai;rw[hia]at h2;have h2:=one_val h2;simp only [AR,List.cons.injEq,and_true]at h2;refine⟨.int .u8 b.toNat,?_,AsR.one rfl⟩;have hlt:n.toNat<s.data.toList.length:=(List.getElem?_eq_some_iff.1 hb).1;have hb2:s[n.toNat]? = some b:=by
        have hl:n.toNat<s.size:=by simpa using hlt
        rw[getElem?_pos s n.toNat hl];have:=(List.getElem?_eq_some_iff.1 hb).2;rw[<- this];rfl
       simp only [execOp,ho,h1,h2,Instr.index,asIntOf,Sem.run_bind,Sem.run_pure,Result.andThen_ok,run_underlying hu,if_pos h0,hb2]
      ·contradiction
     ·contradiction
    ·contradiction
   ·contradiction
  ·contradiction
 ·contradiction
def strCut(s:ByteArray) (l h:Nat):ByteArray:=⟨((s.data.toList.drop l).take (h-l)).toArray⟩
theorem strCut_eq(s:ByteArray) (l h:Nat):s.extract l h=strCut s l h:=by
 have:(s.extract l h).data=(strCut s l h).data:=by
  unfold strCut;rw[ByteArray.data_extract];apply Array.toList_inj.1;rw[Array.toList_extract]
  try rfl
 exact ByteArray.ext this
theorem sliceBoundsS_ok{P:Program} {w:World} {len:Nat} {lo hi:Option SV} {vlo vhi:Option Value} {l h:Int}
  (hlo:(lo=none/\vlo=none/\l=0) \/ ∃ k,vlo=some (.int k l)) (hhi:(hi=none/\vhi=none/\h=len) \/ ∃ k,vhi=some (.int k h))
  (h0:0<=l) (h1:l<=h) (h2:h<=len):(Instr.sliceBounds false len len vlo vhi none).run P w=.ok (l.toNat,h.toNat,len) w:=by
 have eh:(h.toNat:Int)=h:=Int.toNat_of_nonneg (by omega);rcases hlo with ⟨_,rfl,rfl⟩ | ⟨k,rfl⟩ <;> rcases hhi with ⟨_,rfl,rfl⟩ | ⟨k',rfl⟩
 ·simp [Instr.sliceBounds]
 ·simp [Instr.sliceBounds,run_sliceBound,(by omega:0<=h),h2]
 ·simp [Instr.sliceBounds,run_sliceBound,h0,(by omega:l<=(len:Int))]
 ·simp [Instr.sliceBounds,run_sliceBound,h0,(by omega:0<=h),h2,eh,h1]
def opSlS(T:Tab) (t:Nat) (x:SV) (lo hi:Option SV) (K:SV->Option ρ):Option ρ:=
 tfind T t fun e=>(match e.kind with
  | .str=>one? x fun
   | .str s=>bound 0 lo fun l=>bound s.data.toList.length hi fun h=>if 0<=l/\l<=h/\h<=s.data.toList.length then K (one (.str (strCut s l.toNat h.toNat)))else none
   | _=>none
  | _=>none)
theorem opSlS_ok{N:NumSem} {P:Program} {T:Tab} (hT:TabOk P T) {H:HL} {nid:Nat} {ev:Operand->SV} {o:Oper} {t:Nat} {ax:Operand} {lo hi:Option Operand} (ho:o.op=.slice t ax lo hi none)
  {K:SV->Option ρ} {r:ρ} (h:opSlS T t (ev ax) (lo.map ev) (hi.map ev) K=some r):∃ s,K s=some r/\OpOK N P (hmap H) nid ev o { val:=s }:=by
 unfold opSlS at h;obtain⟨e,he,h⟩:=tfind_ok hT h;have hkk:=te_kind he;split at h
 ·rename_i hk;rw[hk]at hkk;simp only [kindOk]at hkk;split at hkk
  ·rename_i hu;obtain⟨a,ha,h⟩:=one?_ok h;split at h
   ·rename_i s;obtain⟨l,h,hl⟩:=bound_ok (N:=N) (G:=fun _ _=>none) (κ:=fun _=>(0,0,0)) h;obtain⟨hh,h,hhh⟩:=bound_ok (N:=N) (G:=fun _ _=>none) (κ:=fun _=>(0,0,0)) h;split at h
    ·rename_i hc;refine⟨_,h,OpOK.pure fun{G κ hf w ac} hH hr hev=>?_⟩;have opnd:∀ (q:Option Operand) (d n:Int),
       ((q.map ev=none/\n=d) \/ ∃ s' k,q.map ev=some s'/\s'=.v false [.int k n])->(q.map ev=none/\q.map ac.eval=none/\n=d) \/ ∃ k,q.map ac.eval=some (.int k n):=by
      intro q d n hq;cases q with
      | none =>
       rcases hq with ⟨_,hq⟩ | ⟨s',k,hq,_⟩
       ·exact .inl ⟨rfl,rfl,hq⟩
       ·cases hq
      | some q =>
       rcases hq with ⟨hq,_⟩ | ⟨s',k,hq,hs⟩
       ·cases hq
       ·simp only [Option.map_some,Option.some.injEq]at hq;have h1:=hev q;rw[hq,hs]at h1;have h1:=one_val h1;simp only [AR,List.cons.injEq,and_true]at h1;exact .inr ⟨k,by simp [h1]⟩
     have h1:=hev ax;rw[ha]at h1;have h1:=one_val h1;simp only [AR,List.cons.injEq,and_true]at h1;have hsz:s.data.toList.length=s.size:=by simp
     refine⟨.string (strCut s l.toNat hh.toNat),?_,AsR.one rfl⟩;have hsb:=sliceBoundsS_ok (P:=P) (w:=w) (len:=s.size) (opnd lo 0 l hl) (by rw[<- hsz];exact opnd hi _ hh hhh) hc.1 hc.2.1 (by rw[<- hsz];exact hc.2.2);simp only [execOp,ho,h1,Instr.sliceAt,Instr.slice,Sem.run_bind,Sem.run_pure,Result.andThen_ok,run_underlying hu,hsb,Option.map_none,Option.isSome_none,Bool.false_eq_true,if_false,<- strCut_eq]
    ·contradiction
   ·contradiction
  ·contradiction
 ·contradiction
def isStrT(T:Tab) (t:Nat):Bool:=(tfind T t fun e=>(match e.kind with | .str=>some true | _=>none)).isSome
def opSl2(T:Tab) (H:HL) (t:Nat) (x:SV) (lo hi:Option SV) (K:SV->Option ρ):Option ρ:=bif isStrT T t then opSlS T t x lo hi K else opSlice T H t x lo hi K
theorem opSl2_ok{N:NumSem} {P:Program} {T:Tab} (hT:TabOk P T) {H:HL} {nid:Nat} {ev:Operand->SV} {o:Oper} {t:Nat} {ax:Operand} {lo hi:Option Operand} (ho:o.op=.slice t ax lo hi none)
  {K:SV->Option ρ} {r:ρ} (h:opSl2 T H t (ev ax) (lo.map ev) (hi.map ev) K=some r):∃ s,K s=some r/\OpOK N P (hmap H) nid ev o { val:=s }:=by
 unfold opSl2 at h;cases hb:isStrT T t
 ·rw[hb]at h;exact opSlice_ok hT ho h
 ·rw[hb]at h;exact opSlS_ok hT ho h
end
end Go.Abs
namespace Go.Abs
def strAdd(a b:ByteArray):ByteArray:=⟨(a.data.toList++b.data.toList).toArray⟩
theorem strAdd_eq(a b:ByteArray):a++b=strAdd a b:=by
 have:(a++b).data=(strAdd a b).data:=by
  unfold strAdd;rw[ByteArray.data_append];apply Array.toList_inj.1;simp
 exact ByteArray.ext this
section
variable {ρ:Type}
def opStrB(op:BinOp) (a b:ByteArray) (K:Atom->Option ρ):Option ρ:=
 match op with
 | .add=>if a.data.toList.length+b.data.toList.length<=1000000 then K (.str (strAdd a b))else none
 | .eql=>K (.bool (a.data.toList==b.data.toList))
 | .neq=>K (.bool (!(a.data.toList==b.data.toList)))
 | _=>none
def strsOf(x y:SV):Option (ByteArray × ByteArray):=match x,y with
 | .v false [.str a],.v false [.str b]=>some (a,b)
 | _,_=>none
theorem opStrB_ok{N:NumSem} {P:Program} {H:Hp} {nid:Nat} {ev:Operand->SV} {o:Oper} {op:BinOp} {t u:Nat} {ax ay:Operand} {a b:ByteArray} {K:Atom->Option ρ} {r:ρ}
  (ho:o.op=.binOp op t ax ay u) (hs:strsOf (ev ax) (ev ay)=some (a,b)) (h:opStrB op a b K=some r):∃ at_,K at_=some r/\OpOK N P H nid ev o { val:=one at_ }:=by
 unfold strsOf at hs;split at hs
 ·rename_i a' b' hx hy;simp only [Option.some.injEq,Prod.mk.injEq]at hs;obtain⟨rfl,rfl⟩:=hs;have key:∀ {N:NumSem} {G:Ghost} {κ:Kap} {ac:Act},(∀ x,svR N G κ (ev x) (ac.eval x))->ac.eval ax=.string a'/\ac.eval ay=.string b':=fun{N G κ ac} hev=>by
   have h1:=hev ax;rw[hx]at h1;have h1:=one_val h1;have h2:=hev ay;rw[hy]at h2;have h2:=one_val h2;simp only [AR,List.cons.injEq,and_true]at h1 h2;exact⟨h1,h2⟩
  unfold opStrB at h;split at h
  ·split at h
   ·rename_i hb;refine⟨_,h,OpOK.pure fun{G κ hf w ac} hH hr hev=>?_⟩;obtain⟨h1,h2⟩:=key hev;refine⟨.string (a'++b'),?_,AsR.one (by rw[strAdd_eq];rfl)⟩;have hs':(a'.size:Int)+(b'.size:Int)<=9223372036854775807:=by
     have e1:a'.size=a'.data.toList.length:=rfl;have e2:b'.size=b'.data.toList.length:=rfl;omega
    simp [execOp,ho,h1,h2,eqGuard,binOp,Op.stringOp,hs']
   ·contradiction
  ·refine⟨_,h,OpOK.pure fun{G κ hf w ac} hH hr hev=>?_⟩;obtain⟨h1,h2⟩:=key hev;refine⟨.bool (a'.toList==b'.toList),?_,AsR.one (by rw[Lib.toList_data,Lib.toList_data];rfl)⟩;simp [execOp,ho,h1,h2,eqGuard,binOp,Op.stringOp]
  ·refine⟨_,h,OpOK.pure fun{G κ hf w ac} hH hr hev=>?_⟩;obtain⟨h1,h2⟩:=key hev;refine⟨.bool (!(a'.toList==b'.toList)),?_,AsR.one (by rw[Lib.toList_data,Lib.toList_data];rfl)⟩;simp [execOp,ho,h1,h2,eqGuard,binOp,Op.stringOp]
  ·contradiction
 ·contradiction
end
end Go.Abs
namespace Go.Abs
def dedup:List Nat->List Nat->List Nat
 | acc,[]=>acc
 | acc,x :: r=>bif acc.elem x then dedup acc r else dedup (acc ++ [x]) r
theorem dedup_nodup:∀ {r acc:List Nat},acc.Nodup->(dedup acc r).Nodup
 | [],acc,h=>h
 | x :: r,acc,h=>by
  simp only [dedup];cases hx:acc.elem x with
  | true=>exact dedup_nodup h
  | false =>
   simp only [cond_false];refine dedup_nodup ?_;rw[List.nodup_append];refine⟨h,by simp,fun a ha b hb=>?_⟩;simp only [List.mem_singleton]at hb;subst hb
   rintro rfl
   rw[List.elem_eq_mem]at hx;simp at hx;exact hx ha
def innerIds(H:HL):List Nat->List Nat
 | []=>[]
 | l :: r=>(match hget H l with | .var as=>aids as | _=>[])++innerIds H r
def reach(H:HL):Nat->List Nat->List Nat
 | 0,m=>m
 | n+1,m=>reach H n (dedup m (innerIds H m))
theorem reach_nodup{H:HL}:∀ {n:Nat} {m:List Nat},m.Nodup->(reach H n m).Nodup
 | 0,m,h=>h
 | n+1,m,h=>by
  show (reach H n (dedup m (innerIds H m))).Nodup;exact reach_nodup (dedup_nodup h)
def deepTup(H:HL):List (Bool × List Atom)->List (Bool × List Atom)
 | []=>[]
 | p :: r=>(p.1,deepAs H p.2) :: deepTup H r
def deepSV(H:HL):SV->SV
 | .undef=>.undef
 | .v g as=>.v g (deepAs H as)
 | .tup vs=>.tup (deepTup H vs)
 | .ifc t a=>.ifc t (deepA H a)
theorem deepTup_ok{N:NumSem} {G:Ghost} {κ:Kap} {H:HL} {hf:Hp} {w:World} (hH:∀ l b,hmap H l=some b->hf l=some b) (hr:Rel N G κ hf w):∀ {vs:List (Bool × List Atom)} {xs:List Value},TupR N G κ vs xs->TupR N G κ (deepTup H vs) xs
 | [],xs,h=>h
 | p :: ps,xs,h=>by
  obtain⟨x,ys,e,h1,h2⟩:=h;refine⟨x,ys,e,?_,deepTup_ok hH hr h2⟩;obtain⟨g,as⟩:=p;cases g with
  | false=>exact deepAs_ok hH hr h1
  | true=>obtain⟨cs,h1,h3⟩:=h1;exact⟨cs,h1,deepAs_ok hH hr h3⟩
theorem deepSV_ok{N:NumSem} {G:Ghost} {κ:Kap} {H:HL} {hf:Hp} {w:World} (hH:∀ l b,hmap H l=some b->hf l=some b) (hr:Rel N G κ hf w) {s:SV} {v:Value} (h:svR N G κ s v):svR N G κ (deepSV H s) v:=by
 cases s with
 | undef=>trivial
 | v g as =>
  cases g with
  | false=>exact deepAs_ok hH hr h
  | true=>obtain⟨cs,h1,h3⟩:=h;exact⟨cs,h1,deepAs_ok hH hr h3⟩
 | tup vs=>obtain⟨xs,h1,h2⟩:=h;exact⟨xs,h1,deepTup_ok hH hr h2⟩
 | ifc t a=>obtain⟨y,h1,h2⟩:=h;exact⟨y,h1,deepA_ok hH hr h2⟩
def svsIds:List SV->List Nat
 | []=>[]
 | s :: r=>s.ids++svsIds r
section
variable {ρ:Type}
def opCall(Γ:Nat->Option Orc) (M:Nat->List (Nat × Ty)) (H:HL) (nid:Nat) (cf:SV) (as:List SV) (K:Eff->Option ρ):Option ρ:=
 one? cf fun
  | .fn f caps=>(match Γ f with
   | some F =>
    let sa:=sealArgs H (M f) (as.map (deepSV H)++caps.map fun c=>one (.ptr c.1 c.2))
    let H1:=closeH H sa.2
    let m:=reach H1 3 (dedup [] (svsIds sa.1))
    bif m.all (Nat.blt · nid)then F ρ (sa.1.map (renSV (posOf m))) (expH H1 m) fun res Hc =>
     bif Nat.ble m.length Hc.length then
      K { val:=renSV (backOf m Hc.length nid) res,sets:=closeL H sa.2++backSets m Hc.length nid 0 Hc,new:=Hc.length-m.length,moved:=movedOf m Hc }
     else none
    else none
   | none=>none)
  | _=>none
def FnOK(P:Program) (f:Nat):Prop:=∀ args w,(callFunc f args).run P w=.ok (.enter f args) w
def GamOK(N:NumSem) (P:Program) (Γ:Nat->Option Orc):Prop:=∀ f F,Γ f=some F->OrcOK N P f F/\FnOK P f
theorem SvsR.append{N:NumSem} {G:Ghost} {κ:Kap}:∀ {ss ts:List SV} {vs us:List Value},SvsR N G κ ss vs->SvsR N G κ ts us->SvsR N G κ (ss++ts) (vs++us)
 | [],ts,vs,us,h,h'=>by simp only [SvsR]at h;subst h;exact h'
 | s :: ss,ts,vs,us,h,h'=>by
  obtain⟨v,r,e,h1,h2⟩:=h;subst e;exact⟨v,r++us,rfl,h1,h2.append h'⟩
theorem SvsR.map{N:NumSem} {G:Ghost} {κ κ':Kap} {g:SV->SV} (hg:∀ s v,svR N G κ s v->svR N G κ' (g s) v):∀ {ss:List SV} {vs:List Value},SvsR N G κ ss vs->SvsR N G κ' (ss.map g) vs
 | [],vs,h=>h
 | s :: ss,vs,h=>by
  obtain⟨v,r,e,h1,h2⟩:=h;exact⟨v,r,e,hg _ _ h1,h2.map hg⟩
theorem SvsR.eval{N:NumSem} {G:Ghost} {κ:Kap} {ev:Operand->SV} {a:Act} (hev:∀ x,svR N G κ (ev x) (a.eval x)):∀ (xs:List Operand),SvsR N G κ (xs.map ev) (xs.map a.eval)
 | []=>rfl
 | x :: xs=>⟨_,_,rfl,hev x,SvsR.eval hev xs⟩
theorem SvsR.caps{N:NumSem} {G:Ghost} {κ:Kap}:∀ (cs:List (Nat × Nat)),SvsR N G κ (cs.map fun c=>one (.ptr c.1 c.2)) (cs.map fun c=>.pointer (some ⟨(κ c.1).1,c.2,none⟩))
 | []=>rfl
 | c :: cs=>⟨_,_,rfl,AsR.one rfl,SvsR.caps cs⟩
theorem backSets_keys{m:List Nat} {n nid:Nat}:∀ (r:HL) (j0:Nat),∀ p∈backSets m n nid j0 r,p.1∈m \/ ∃ i,i<n-m.length/\p.1=nid+i
 | [],j0,p,h=>by simp [backSets]at h
 | b :: r,j0,p,h=>by
  simp only [backSets]at h;split at h
  ·rename_i l hl;rcases List.mem_cons.1 h with h | h
   ·subst h;rcases backOf_some hl with h | ⟨h1,h2,h3⟩
    ·exact .inl (List.mem_of_getElem? h)
    ·refine .inr ⟨j0-m.length,?_,h3⟩;have:m.length<=j0:=by
      rcases Nat.lt_or_ge j0 m.length with h | h
      ·simp [List.getElem?_eq_getElem h]at h1
      ·exact h
     omega
   ·exact backSets_keys r _ p h
  ·exact backSets_keys r _ p h
theorem exec_call{o:Oper} {c:Call} (ho:o.op=.call c) {f:Operand} (hc:c.callee=.value f) {a:Act} {fn:Nat} {caps:Array Value} (hf:a.eval f=.func (.func fn) #[] caps) {P:Program} (hfn:FnOK P fn) (w:World) :
  (execOp a.eval o).run P w=.ok (.enter fn (c.args.map a.eval++caps)) w:=by
 unfold execOp;simp only [ho,resolve,hc,Deferred.ofValue,hf,invoke,Sem.run_bind,Sem.run_pure,Result.andThen_ok,Array.empty_append];exact hfn _ w
theorem opCall_ok{N:NumSem} {P:Program} {Γ:Nat->Option Orc} {M:Nat->List (Nat × Ty)} (hΓ:GamOK N P Γ) {H:HL} {nid:Nat} {ev:Operand->SV} {o:Oper} {c:Call} {f:Operand}
  (ho:o.op=.call c) (hc:c.callee=.value f) {K:Eff->Option ρ} {r:ρ} (h:opCall Γ M H nid (ev f) (c.args.toList.map ev) K=some r) :
  ∃ e,K e=some r/\OpOK N P (hmap H) nid ev o e:=by
 unfold opCall at h;obtain⟨fa,hfa,h⟩:=one?_ok h;split at h
 ·rename_i fnum caps;split at h
  ·rename_i F hF;obtain⟨hO,hfn⟩:=hΓ _ _ hF;simp only at h;generalize hraw:(c.args.toList.map ev).map (deepSV H)++caps.map (fun c=>one (.ptr c.1 c.2))=raw at h;have hsaok:∀ {G:Ghost} {κ:Kap} {hf:Hp} {w:World} (hH:∀ l b,hmap H l=some b->hf l=some b) (hr:Rel N G κ hf w) {vs:List Value} (h:SvsR N G κ raw vs),
     ∃ G1,Trans G κ hf w G1 κ (closeF H (sealArgs H (M fnum) raw).2 hf) w/\Rel N G1 κ (closeF H (sealArgs H (M fnum) raw).2 hf) w /\
      (∀ l b,hmap (closeH H (sealArgs H (M fnum) raw).2) l=some b->(closeF H (sealArgs H (M fnum) raw).2 hf) l=some b)/\SvsR N G1 κ (sealArgs H (M fnum) raw).1 vs:=fun{G κ hf w} hH hr {vs} h=>sealArgs_ok hH hr h
   have hlv:=sealArgs_ids (H:=H) (M:=M fnum) (args:=raw);generalize sealArgs H (M fnum) raw=sa at h hsaok hlv;obtain⟨args,S⟩:=sa;simp only at h hsaok hlv;generalize hH1:closeH H S=H1 at h hsaok;generalize hm:reach H1 3 (dedup [] (svsIds args))=m at h;have hnd:m.Nodup:=by rw[<- hm];exact reach_nodup (dedup_nodup List.nodup_nil)
   cases hb:m.all (Nat.blt · nid)with
   | false=>rw[hb]at h;contradiction
   | true =>
    rw[hb]at h;simp only [cond_true]at h;have hmn:∀ l∈m,l<nid:=fun l hl=>Nat.le_of_ble_eq_true (List.all_eq_true.1 hb l hl)
    have hlen:∀ x y,posOf m x=some y->y<m.length:=fun x y hxy=>(List.getElem?_eq_some_iff.1 (posOf_some hxy)).1
    obtain⟨res,Hc,hk,hle,hcall⟩:=hO h (expH_wf H1 m) (by
     intro s hs i hi;obtain⟨s',_,rfl⟩:=List.mem_map.1 hs;have:=renSV_ids hlen s' i hi
     simpa [expH] using this)
    have hle':m.length<=Hc.length:=by simpa [expH] using hle
    cases hb2:Nat.ble m.length Hc.length with
    | false=>rw[hb2]at hk;contradiction
    | true =>
     rw[hb2]at hk;simp only [cond_true]at hk;refine⟨_,hk,?_⟩;intro G κ hf w a next Q hH p1 p2 p3 hr hev p4;simp only at p1 p2 p3 p4;have hval:=hev f;rw[hfa]at hval;have hval:=one_val hval;simp only [AR,List.cons.injEq,and_true]at hval;have hφ:∀ l j,posOf m l=some j->(fun j=>κ (m.getD j 0)) j=κ l:=fun l j h=>by
      have:=posOf_some h;show κ (m.getD j 0)=κ l;simp [List.getD,this]
     have hrawR:SvsR N G κ raw ((c.args.map a.eval++(caps.map fun c=>Value.pointer (some ⟨(κ c.1).1,c.2,none⟩)).toArray).toList):=by
      rw[<- hraw];simp only [Array.toList_append,Array.toList_map];exact((SvsR.eval hev c.args.toList).map fun s v hs=>deepSV_ok hH hr hs).append (SvsR.caps caps)
     obtain⟨G1,t1,r1,hHf1,hargsR⟩:=hsaok hH hr hrawR;have hfsub:∀ l as,closeF H S hf l=some (.var as)->l ∉ S/\hf l=some (.var as):=fun l as hl=>by
      rw[closeF_get]at hl;split at hl
      ·cases hb:hget H l <;> rw[hb]at hl <;> simp [closeB,Blk.opt]at hl
      ·rename_i hn;exact⟨hn,hl⟩
     have hSlive:∀ l∈S,hf l≠none:=fun l hl=>by
      have h1:=hlv l hl;cases hb:hget H l with
      | dead=>exact absurd hb h1
      | var as=>rw[hH l _ (hmap_mk hb (by simp))];simp
      | arr e t xs f mv=>rw[hH l _ (hmap_mk hb (by simp))];simp
     have hp1:∀ i,i<Hc.length-m.length->closeF H S hf (nid+i)=none:=fun i hi=>by
      rw[closeF_get]
      by_cases hm:nid+i∈S
      ·exact absurd (p1 i hi) (hSlive _ hm)
      ·rw[if_neg hm];exact p1 i hi
     have hcall:=hcall (expH_rel hHf1 r1 hnd) (hargsR.map fun s v hs=>renSV_ok hφ hs);unfold Oper.wp;rw[exec_call ho hc hval hfn w];refine hcall.mono fun e w' hpost=>?_
     obtain⟨G',κ',v,he,ht,hr',hv,hstay⟩:=hpost;subst he;simp only;obtain⟨κc,k1,k2,k3,k4⟩:=back_rel hnd hmn hHf1 r1 ht hr' hle' (fun j hj hm=>hstay j (by simpa [expH] using hj) hm) hp1
      (fun i hi l as hl=>p2 i hi l as (hfsub l _ hl).2) (fun i hi l as hl hlm=>p3 i hi l as (hfsub l _ hl).2 (by
      intro hin;rw[List.map_append,List.mem_append]at hin;rcases hin with hin | hin
      ·have hk:∀ (S:List Nat),l∈(closeL H S).map (·.1)->l∈S:=by
        intro S
        induction S with
        | nil=>intro h;simp [closeL]at h
        | cons x r ih =>
         intro h;simp only [closeL,List.map_cons,List.mem_cons]at h ⊢;rcases h with h | h
         ·exact .inl h
         ·exact .inr (ih h)
       exact(hfsub l _ hl).1 (hk S hin)
      ·obtain⟨p,hp,hpl⟩:=List.mem_map.1 hin;rcases backSets_keys _ _ p hp with h | ⟨i',h1,h2⟩
       ·exact hlm (hpl ▸ h)
       ·have:=p1 i' h1;rw[<- h2,hpl,(hfsub l _ hl).2]at this;cases this))
     have hfold:closeF H S hf=(closeL H S).foldl (fun h p=>h.set p.1 p.2) hf:=(setAllF_fold _ _).symm;rw[hfold]at k3 k4 t1;rw[<- List.foldl_append]at k3 k4;have t2:=t1;rw[List.foldl_append]at k3;refine p4 v G' κc w' ?_ ?_ (renSV_ok (fun l j hlj=>k1 l j hlj) hv) k2
     ·show Trans G κ hf w G' κc ((closeL H S++backSets m Hc.length nid 0 Hc).foldl _ hf) w';rw[List.foldl_append];exact t2.trans k3
     ·exact k4
  ·contradiction
 ·contradiction
theorem pureE{N:NumSem} {P:Program} {H:Hp} {nid:Nat} {ev:Operand->SV} {o:Oper} {K:Eff->Option ρ} {r:ρ} (h:∃ s,K { val:=s } = some r/\OpOK N P H nid ev o { val:=s }) :
  ∃ e,K e=some r/\OpOK N P H nid ev o e:=by
 obtain⟨s,hk,ho⟩:=h;exact⟨_,hk,ho⟩
structure Env where
 T:Tab
 E:EqTab
 Γ:Nat->Option Orc
 M:Nat->List (Nat × Ty):=fun _=>[]
 X:HL->Nat->(Operand->SV)->Op->Option Eff:=fun _ _ _ _=>none
 Y:∀ ρ:Type,HL->Nat->(Operand->SV)->Op->Option ((Eff->Option ρ)->Option ρ):=fun _ _ _ _ _=>none
def aop0(V:Env) (H:HL) (nid:Nat) (ev:Operand->SV) (op:Op) (K:Eff->Option ρ):Option ρ:=
 match op with
 | .move x=>K { val:=ev x }
 | .assign x=>K { val:=ev x }
 | .pick c a b=>opPick (ev c) (ev a) (ev b) fun s=>K { val:=s }
 | .alloc t=>opAlloc V.T nid t K
 | .box _ x=>opBox nid (ev x) K
 | .build t ps=>opBuild V.T t (ps.toList.map fun p=>(p.1,ev p.2)) fun s=>K { val:=s }
 | .buildSlice t n ps=>opLit V.T H nid t n (ps.toList.map fun p=>(p.1,ev p.2)) K
 | .load t x=>opLoad V.T H t (ev x) fun s=>K { val:=s }
 | .store t x v=>opStore V.T H t (ev x) (ev v) K
 | .nilCheck x=>opNil (ev x) fun s=>K { val:=s }
 | .binOp op t x y _=>(match strsOf (ev x) (ev y)with
  | some p=>opStrB op p.1 p.2 fun a=>K { val:=one a }
  | none=>opBin V.T V.E op t (ev x) (ev y) fun a=>K { val:=one a })
 | .unOp op _ x=>opUn op (ev x) fun a=>K { val:=one a }
 | .convert s d x=>opConv V.T s d (ev x) fun s=>K { val:=s }
 | .makeFunc (.func f) first caps=>(match first.toList with
  | []=>capsOf (caps.toList.map ev) fun cs=>K { val:=one (.fn f cs) }
  | _=>none)
 | .makeSlice t l c=>opMake V.T nid t (ev l) (ev c) K
 | .slice t x lo hi none=>opSl2 V.T H t (ev x) (lo.map ev) (hi.map ev) fun s=>K { val:=s }
 | .fieldAddr t x f=>opField V.T t (ev x) f fun s=>K { val:=s }
 | .indexAddr t x i=>opIndex V.T H t (ev x) (ev i) fun s=>K { val:=s }
 | .index t x i=>opIdxS V.T t (ev x) (ev i) fun s=>K { val:=s }
 | .extract x i=>opExtract (ev x) i fun s=>K { val:=s }
 | .call c=>(match c.callee with
  | .builtin .len=>(match c.args.toList,c.argTypes.toList with
   | [x],[t]=>opLen V.T H t (ev x) fun s=>K { val:=s }
   | _,_=>none)
  | .builtin .append=>(match c.args.toList,c.argTypes.toList with
   | [x,y],[t,u]=>bif Nat.beq t u then opAppend V.T H nid t (ev x) (ev y) K else none
   | _,_=>none)
  | .builtin .max=>(match c.args.toList with
   | [x,y]=>opMm true (ev x) (ev y) fun s=>K { val:=s }
   | _=>none)
  | .builtin .min=>(match c.args.toList with
   | [x,y]=>opMm false (ev x) (ev y) fun s=>K { val:=s }
   | _=>none)
  | .value f=>opCall V.Γ V.M H nid (ev f) (c.args.toList.map ev) K
  | _=>none)
 | _=>none
def aop(V:Env) (H:HL) (nid:Nat) (ev:Operand->SV) (op:Op) (K:Eff->Option ρ):Option ρ:=
 match V.Y ρ H nid ev op with
 | some f=>f K
 | none=>(match V.X H nid ev op with
  | some e=>K e
  | none=>aop0 V H nid ev op K)
def XOK(N:NumSem) (P:Program) (X:HL->Nat->(Operand->SV)->Op->Option Eff):Prop:=
 ∀ {H:HL} {nid:Nat} {ev:Operand->SV} {o:Oper} {e:Eff},X H nid ev o.op=some e->OpOK N P (hmap H) nid ev o e
theorem XOK.none{N:NumSem} {P:Program}:XOK N P fun _ _ _ _=>Option.none:=fun h=>by cases h
def YOK(N:NumSem) (P:Program) (Y:∀ ρ:Type,HL->Nat->(Operand->SV)->Op->Option ((Eff->Option ρ)->Option ρ)):Prop:=
 ∀ {ρ:Type} {H:HL} {nid:Nat} {ev:Operand->SV} {o:Oper} {f:(Eff->Option ρ)->Option ρ} {K:Eff->Option ρ} {r:ρ},Y ρ H nid ev o.op=some f->f K=some r->∃ e,K e=some r/\OpOK N P (hmap H) nid ev o e
theorem YOK.none{N:NumSem} {P:Program}:YOK N P fun _ _ _ _ _=>Option.none:=fun h=>by cases h
structure EnvOK (N:NumSem) (P:Program) (V:Env):Prop where
 T:TabOk P V.T
 E:∀ p∈V.E,EqOK P p
 Γ:GamOK N P V.Γ
 X:XOK N P V.X:=by exact XOK.none
 Y:YOK N P V.Y:=by exact YOK.none
theorem toList_one{α:Type} {a:Array α} {x:α} (h:a.toList=[x]):a = #[x]:=by rw[<- Array.toArray_toList (xs:=a),h]
theorem toList_two{α:Type} {a:Array α} {x y:α} (h:a.toList=[x,y]):a = #[x,y]:=by rw[<- Array.toArray_toList (xs:=a),h]
theorem toList_nil{α:Type} {a:Array α} (h:a.toList=[]):a = #[]:=by rw[<- Array.toArray_toList (xs:=a),h]
theorem aop0_ok{N:NumSem} {P:Program} {V:Env} (hV:EnvOK N P V) {H:HL} {nid:Nat} {ev:Operand->SV} {o:Oper} {K:Eff->Option ρ} {r:ρ}
  (h:aop0 V H nid ev o.op K=some r):∃ e,K e=some r/\OpOK N P (hmap H) nid ev o e:=by
 generalize ho:o.op=op at h;cases op <;> simp only [aop0]at h
 case move x=>exact pureE ⟨_,h,opMove_ok (.inl ho)⟩
 case assign x=>exact pureE ⟨_,h,opMove_ok (.inr ho)⟩
 case pick c a b=>exact pureE (opPick_ok ho h)
 case alloc t=>exact id (opAlloc_ok hV.T ho h)
 case box t x=>exact id (opBox_ok ho h)
 case build t ps=>exact pureE (opBuild_ok hV.T ho h)
 case buildSlice t n ps=>exact id (opLit_ok hV.T ho h)
 case load t x=>exact pureE (opLoad_ok hV.T ho h)
 case store t x v=>exact id (opStore_ok hV.T ho h)
 case nilCheck x=>exact pureE (opNil_ok ho h)
 case binOp op t x y yt =>
  split at h
  ·rename_i p hp;obtain⟨at_,hk,hok⟩:=opStrB_ok (N:=N) (P:=P) (H:=hmap H) (nid:=nid) ho hp h;exact⟨_,hk,hok⟩
  obtain⟨at_,hk,hb⟩:=opBin_ok hV.T hV.E h;refine⟨_,hk,?_⟩;intro G κ hf w a next Q hH _ _ _ hr hev p4;obtain⟨v,hrun,hav⟩:=hb (w:=w) (ox:=x) (oy:=y) (hev x) (hev y);unfold Oper.wp;have hrun':(execOp a.eval o).run P w=.ok (.value v) w:=by
   unfold execOp;simp only [ho];rw[Sem.run_bind,hrun];simp
  rw[hrun'];exact p4 v G κ w (Trans.refl ..) hr (AsR.one hav) fun _ _ _=>rfl
 case unOp op t x=>obtain⟨a,hk,hok⟩:=opUn_ok (N:=N) (P:=P) (H:=hmap H) (nid:=nid) ho h;exact⟨_,hk,hok⟩
 case convert s d x=>exact pureE (opConv_ok hV.T ho h)
 case makeFunc fn first caps =>
  cases fn <;> simp only [reduceCtorEq]at h
  case func f =>
   split at h
   ·rename_i hfst;have:=toList_nil hfst;subst this;exact pureE (opFn_ok (K:=fun s=>K { val:=s }) ho h)
   ·contradiction
 case makeSlice t l c=>exact id (opMake_ok hV.T ho h)
 case slice t x lo hi mx =>
  cases mx with
  | some m=>contradiction
  | none=>exact pureE (opSl2_ok hV.T ho h)
 case fieldAddr t x f=>exact pureE (opField_ok hV.T ho h)
 case indexAddr t x i=>exact pureE (opIndex_ok hV.T ho h)
 case index t x i=>exact pureE (opIdxS_ok hV.T ho h)
 case extract x i=>exact pureE (opExtract_ok ho h)
 case call c =>
  obtain⟨callee,args,argTypes⟩:=c;simp only at h;cases callee with
  | value f=>exact opCall_ok hV.Γ ho rfl h
  | invoke _ _=>contradiction
  | builtin b =>
   cases b <;> simp only [reduceCtorEq]at h
   case len =>
    split at h
    ·rename_i x t hx ht;have e1:=toList_one hx;have e2:=toList_one ht;subst e1;subst e2;have h1:=opLen_ok (N:=N) (P:=P) (nid:=nid) (ev:=ev) hV.T ho h;exact pureE h1
    ·contradiction
   case append =>
    split at h
    ·rename_i x y t u hx ht;cases hb:Nat.beq t u with
     | false=>rw[hb]at h;contradiction
     | true =>
      rw[hb]at h;have:=Nat.eq_of_beq_eq_true hb;subst this;have e1:=toList_two hx;have e2:=toList_two ht;subst e1;subst e2;exact id (opAppend_ok hV.T ho h)
    ·contradiction
   case max =>
    split at h
    ·rename_i x y hx;have e1:=toList_two hx;subst e1;exact pureE (opMm_ok (mx:=true) ho h)
    ·contradiction
   case min =>
    split at h
    ·rename_i x y hx;have e1:=toList_two hx;subst e1;exact pureE (opMm_ok (mx:=false) ho h)
    ·contradiction
 all_goals contradiction
theorem aop_ok{N:NumSem} {P:Program} {V:Env} (hV:EnvOK N P V) {H:HL} {nid:Nat} {ev:Operand->SV} {o:Oper} {K:Eff->Option ρ} {r:ρ}
  (h:aop V H nid ev o.op K=some r):∃ e,K e=some r/\OpOK N P (hmap H) nid ev o e:=by
 unfold aop at h;cases hy:V.Y ρ H nid ev o.op with
 | some f=>rw[hy]at h;exact hV.Y hy h
 | none =>
  rw[hy]at h;dsimp only at h;cases hx:V.X H nid ev o.op with
  | some e=>rw[hx]at h;exact⟨e,h,hV.X hx⟩
  | none=>rw[hx]at h;exact aop0_ok hV h
end
end Go.Abs

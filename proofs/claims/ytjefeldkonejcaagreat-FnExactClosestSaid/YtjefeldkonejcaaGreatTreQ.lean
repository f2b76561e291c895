/-
 A PART OF THE PROOF of ClI (texts TreQ TreR): the claim itself stands in the last text. No conditions beside those of the given row.
-/
import Derived.Test.YtjefeldkonejcaaGreatTreI
set_option linter.unusedVariables false
set_option linter.unnecessarySimpa false
set_option linter.unusedSimpArgs false
namespace Go.Abs
def skI(d:Nd):Bool:=decide (d.2.2.2 = -1)
def skS(d:Nd):Bool:=decide (0<=d.2.1)
def lfG(n:Int) (sk:Nd->Bool):List Nd->List Bd × List Bool->Option (List Bd × List Bool)
 | [],s=>some s
 | d :: r,s=>if sk d=true then lfG n sk r s else if d.2.2.2<0\/n<=d.2.2.2\/s.2[d.2.2.2.toNat]?.getD true=true then none
  else lfG n sk r (s.1.set d.2.2.2.toNat d.1,s.2.set d.2.2.2.toNat true)
def lvG(sk:Nd->Bool) (t:List Nd):Option (List Bd):=match lfG (((t.length+1) / 2:Nat):Int) sk t (List.replicate ((t.length+1) / 2) bd0,List.replicate ((t.length+1) / 2) false)with
 | some s=>if s.2.all id=true then some s.1 else none
 | none=>none
def rngL(n:Nat):List Int:=(List.range n).map Int.ofNat
def bldT(L:List Bd):List Nd:=bldS L 61 (rngL L.length) 0
def tokG(sk:Nd->Bool) (t:List Nd):Bool:=decide (t.length % 2=1)&&(decide (t.length<120)&&match lvG sk t with
 | some L=>L.all okBd&&decide (bldT L=t)
 | none=>false)
theorem rngL_ok(n:Nat):okIt n (rngL n):=by
 constructor
 ·unfold rngL;rw[List.Nodup,List.pairwise_map];exact List.nodup_range.imp fun{a b} h e=>h (Int.ofNat.inj e)
 ·intro x hx;obtain⟨k,hk,rfl⟩:=List.mem_map.1 hx;have:=List.mem_range.1 hk;simp only [Int.ofNat_eq_natCast];omega
theorem rngL_len(n:Nat):(rngL n).length=n:=by simp [rngL]
theorem lfG_congr{n:Int} {p q:Nd->Bool}:∀ (t:List Nd) (s:List Bd × List Bool),(∀ d∈t,p d=q d)->lfG n p t s=lfG n q t s
 | [],s,h=>rfl
 | d :: r,s,h=>by
  unfold lfG;rw[h d List.mem_cons_self,lfG_congr r s fun d hd=>h d (List.mem_cons_of_mem _ hd),lfG_congr r _ fun d hd=>h d (List.mem_cons_of_mem _ hd)]
theorem lfG_len{n:Int} {p:Nd->Bool}:∀ (t:List Nd) (s s':List Bd × List Bool),lfG n p t s=some s'->s'.1.length=s.1.length
 | [],s,s',h=>by
  unfold lfG at h;cases h;rfl
 | d :: r,s,s',h=>by
  unfold lfG at h;split at h
  ·exact lfG_len r s s' h
  ·split at h
   ·contradiction
   ·have:=lfG_len r _ s' h
    simpa using this
theorem lvG_len{p:Nd->Bool} {t:List Nd} {L:List Bd} (h:lvG p t=some L):L.length=(t.length+1) / 2:=by
 unfold lvG at h;split at h
 ·rename_i s hs;split at h
  ·cases h;have:=lfG_len _ _ _ hs
   simpa using this
  ·contradiction
 ·contradiction
theorem bldS_sk{bs:List Bd}:∀ (n:Nat) (xs:List Int) (at_:Int),(∀ x∈xs,0<=x)->0<=at_->xs.Nodup->∀ d∈bldS bs n xs at_,skI d=skS d/\(0<=d.2.2.2\/d.2.2.2 = -1)
 | 0,xs,at_,h,ha,hn,d,hd=>by unfold bldS at hd;cases hd
 | n+1,[],at_,h,ha,hn,d,hd=>by unfold bldS at hd;cases hd
 | n+1,x :: r,at_,h,ha,hn,d,hd=>by
  unfold bldS at hd;split at hd
  ·rw[List.mem_singleton]at hd;subst hd;have:=h x List.mem_cons_self;refine⟨?_,.inl this⟩;unfold skI skS;dsimp only;rw[decide_eq_false (by omega),decide_eq_false (by omega)]
  ·dsimp only at hd;obtain⟨p,_⟩:=srtP_ok (f:=midV (bs.map bxV) (axV (bxV (arS bs (bs[x.toNat]?.getD bd0) r)))) hn;revert p hd;generalize srtP (midV (bs.map bxV) (axV (bxV (arS bs (bs[x.toNat]?.getD bd0) r)))) (x :: r)=ys;intro hd p;have hy:∀ y∈ys,0<=y:=fun y hy=>h y (p.mem_iff.1 hy)
   have hyn:=p.symm.nodup hn;rcases List.mem_cons.1 hd with rfl | hd
   ·refine⟨?_,.inr rfl⟩;unfold skI skS;dsimp only;rw[decide_eq_true (by omega),decide_eq_true (by omega)]
   ·rcases List.mem_append.1 hd with hd | hd
    ·exact bldS_sk n _ _ (fun y hm=>hy y (List.mem_of_mem_take hm)) (by omega) (hyn.sublist (List.take_sublist _ _)) d hd
    ·exact bldS_sk n _ _ (fun y hm=>hy y (List.mem_of_mem_drop hm)) (by omega) (hyn.sublist (List.drop_sublist _ _)) d hd
theorem bldT_sk{L:List Bd} {d:Nd} (h:d∈bldT L):skI d=skS d/\(0<=d.2.2.2\/d.2.2.2 = -1):=
 bldS_sk 61 _ 0 (fun x hx=>((rngL_ok _).2 x hx).1) (by omega) (rngL_ok _).1 d h
theorem tokG_some{p:Nd->Bool} {t:List Nd} (h:tokG p t=true):∃ L,lvG p t=some L/\(∀ b∈L,okBd b=true)/\bldT L=t/\t.length % 2=1/\t.length<120:=by
 unfold tokG at h;rw[Bool.and_eq_true,Bool.and_eq_true,decide_eq_true_eq,decide_eq_true_eq]at h;obtain⟨h1,h2,h3⟩:=h;split at h3
 ·rename_i L hL;rw[Bool.and_eq_true,List.all_eq_true,decide_eq_true_eq]at h3;exact⟨L,hL,h3.1,h3.2,h1,h2⟩
 ·contradiction
theorem tokG_same{p q:Nd->Bool} {t:List Nd} (h:∀ d∈t,p d=q d):tokG p t=tokG q t:=by
 unfold tokG lvG;rw[lfG_congr t _ h]
theorem tok_eq(t:List Nd):tokG skI t=tokG skS t:=by
 have key:∀ p,tokG p t=true->tokG skI t=tokG skS t:=fun p h=>by
  obtain⟨L,_,_,h3,_⟩:=tokG_some h;exact tokG_same fun d hd=>(bldT_sk (L:=L) (h3.symm ▸ hd)).1
 cases h1:tokG skI t with
 | true=>rw[<- h1];exact key _ h1
 | false=>cases h2:tokG skS t with
  | true=>rw[<- h1,<- h2];exact key _ h2
  | false=>rfl
def lvs(t:List Nd):List Nd:=t.filter fun d=>!skS d
theorem lvs_app(s t:List Nd):lvs (s++t)=lvs s++lvs t:=List.filter_append ..
theorem lvs_bldS{bs:List Bd}:∀ (n:Nat) (xs:List Int) (at_:Int),(∀ x∈xs,0<=x)->0<=at_->xs.Nodup->xs.length<=n->(lvs (bldS bs n xs at_)).Perm (xs.map fun x=>(bs[x.toNat]?.getD bd0,-1,-1,x))
 | 0,xs,at_,h,ha,hn,hl=>by
  have:xs=[]:=List.length_eq_zero_iff.1 (by omega);subst this;unfold bldS;exact List.Perm.refl _
 | n+1,[],at_,h,ha,hn,hl=>by
  unfold bldS;exact List.Perm.refl _
 | n+1,x :: r,at_,h,ha,hn,hl=>by
  unfold bldS;split
  ·rename_i hr;subst hr;exact List.Perm.refl _
  ·rename_i hr;dsimp only;obtain⟨p,_⟩:=srtP_ok (f:=midV (bs.map bxV) (axV (bxV (arS bs (bs[x.toNat]?.getD bd0) r)))) hn;revert p;generalize srtP (midV (bs.map bxV) (axV (bxV (arS bs (bs[x.toNat]?.getD bd0) r)))) (x :: r)=ys;intro p;have hy:∀ y∈ys,0<=y:=fun y hy=>h y (p.mem_iff.1 hy)
   have hyn:=p.symm.nodup hn;have hyl:=p.length_eq;have hy2:2<=ys.length:=by
    rw[hyl];cases r with
    | nil=>exact absurd rfl hr
    | cons y r=>simp
   obtain⟨t1,t2,t3,t4⟩:=half_len hy2;have e:lvs ((arS bs (bs[x.toNat]?.getD bd0) r,at_+1,at_+1+((bldS bs n (ys.take ((ys.length+1) / 2)) (at_+1)).length:Int),-1) :: (bldS bs n (ys.take ((ys.length+1) / 2)) (at_+1)++bldS bs n (ys.drop ((ys.length+1) / 2)) (at_+1+((bldS bs n (ys.take ((ys.length+1) / 2)) (at_+1)).length:Int)))) =
     lvs (bldS bs n (ys.take ((ys.length+1) / 2)) (at_+1))++lvs (bldS bs n (ys.drop ((ys.length+1) / 2)) (at_+1+((bldS bs n (ys.take ((ys.length+1) / 2)) (at_+1)).length:Int))):=by
    rw[<- lvs_app];unfold lvs;rw[List.filter_cons_of_neg];unfold skS;dsimp only;rw[decide_eq_true (by omega)];simp
   rw[e];refine((lvs_bldS n _ (at_+1) (fun y hm=>hy y (List.mem_of_mem_take hm)) (by omega) (hyn.sublist (List.take_sublist _ _)) (by omega)).append
    (lvs_bldS n _ _ (fun y hm=>hy y (List.mem_of_mem_drop hm)) (by omega) (hyn.sublist (List.drop_sublist _ _)) (by omega))).trans ?_
   rw[<- List.map_append,List.take_append_drop];exact p.map _
theorem lvs_bldT{L:List Bd} (h:L.length<=61):(lvs (bldT L)).Perm ((rngL L.length).map fun x=>(L[x.toNat]?.getD bd0,-1,-1,x)):=
 lvs_bldS 61 _ 0 (fun x hx=>((rngL_ok _).2 x hx).1) (by omega) (rngL_ok _).1 (by rw[rngL_len];exact h)
def leastI(f:Int->Rat) (xs:List Int) (x:Int):Prop:=x∈xs /\ ∀ y∈xs,y=x\/kR f x y
theorem leastI_one{f:Int->Rat} {xs ys:List Int} {x y:Int} (h1:leastI f xs x) (h2:leastI f ys y) (p:xs.Perm ys):x=y:=by
 rcases h1.2 y (p.mem_iff.2 h2.1)with e | e
 ·exact e.symm
 ·rcases h2.2 x (p.mem_iff.1 h1.1)with e' | e'
  ·exact e'
  ·exact absurd e' fun e'=>kR_asymm e e'
def bestI(f:Int->Rat) (xs:List Int) (o:Option Int):Option Int:=xs.foldl (fun o x=>match o with
 | none=>some x
 | some b=>if kR f x b then some x else some b) o
theorem bestI_go{f:Int->Rat}:∀ (xs zs:List Int) (b:Int),leastI f zs b->∃ c,bestI f xs (some b)=some c/\leastI f (zs++xs) c
 | [],zs,b,h=>⟨b,rfl,by simpa using h⟩
 | x :: r,zs,b,h=>by
  unfold bestI;rw[List.foldl_cons];dsimp only;have e:zs++x :: r=(zs ++ [x])++r:=by simp
  rw[e]
  by_cases c:kR f x b
  ·rw[if_pos c];refine bestI_go r (zs ++ [x]) x ⟨by simp,fun y hy=>?_⟩;rcases List.mem_append.1 hy with hy | hy
   ·rcases h.2 y hy with rfl | hy
    ·exact .inr c
    ·exact .inr (kR_trans _ _ _ c hy)
   ·rw[List.mem_singleton]at hy;exact .inl hy
  ·rw[if_neg c];refine bestI_go r (zs ++ [x]) b ⟨by simp [h.1],fun y hy=>?_⟩;rcases List.mem_append.1 hy with hy | hy
   ·exact h.2 y hy
   ·rw[List.mem_singleton]at hy;subst hy
    by_cases e:y=b
    ·exact .inl e
    ·rcases kR_total (f:=f) e with q | q
     ·exact absurd q c
     ·exact .inr q
theorem bestI_ok{f:Int->Rat} {x:Int} {r:List Int}:∃ c,bestI f (x :: r) none=some c/\leastI f (x :: r) c:=by
 have:=bestI_go (f:=f) r [x] x ⟨List.mem_cons_self,fun y hy=>.inl (by simpa using hy)⟩
 simpa [bestI] using this
theorem bestI_perm{f:Int->Rat} {xs ys:List Int} (p:xs.Perm ys):bestI f xs none=bestI f ys none:=by
 cases xs with
 | nil=>rw[List.nil_perm.1 p]
 | cons x r=>cases ys with
  | nil=>exact absurd p.symm.length_eq (by simp)
  | cons y s =>
   obtain⟨c,h1,h2⟩:=bestI_ok (f:=f) (x:=x) (r:=r);obtain⟨d,h3,h4⟩:=bestI_ok (f:=f) (x:=y) (r:=s);rw[h1,h3,leastI_one h2 h4 p]
end Go.Abs
namespace Go.Abs
def stG(h:Br->Option Rat) (s:Int × Option Rat) (d:Nd):Int × Option Rat:=if skS d=true then s else match h (bxV d.1)with
 | none=>s
 | some g=>if s.1<0\/(g<s.2.getD 0\/(g=s.2.getD 0/\d.2.2.2<s.1))then(d.2.2.2,some g)else s
def spG(h:Br->Option Rat) (s:Int × Option Rat) (i:Nat) (b:Br):Int × Option Rat:=match h b with
 | none=>s
 | some g=>if s.1<0\/g<s.2.getD 0 then((i:Int),some g)else s
def foldN{α S:Type} (stp:S->Nat->α->S):List α->Nat->S->S
 | [],_,s=>s
 | x :: r,i,s=>foldN stp r (i+1) (stp s i x)
def bkey(h:Br->Option Rat) (L:List Bd) (x:Int):Rat:=((L[x.toNat]?.bind fun b=>h (bxV b)).getD 0)
def hasG(h:Br->Option Rat) (L:List Bd) (x:Int):Bool:=(L[x.toNat]?.bind fun b=>h (bxV b)).isSome
def tellG(h:Br->Option Rat) (L:List Bd):Option Int->Int × Option Rat
 | none=>(-1,none)
 | some b=>(b,some (bkey h L b))
theorem stG_leaf{h:Br->Option Rat} {L:List Bd}:∀ (t:List Nd) (o:Option Int),(∀ b,o=some b->0<=b)->(∀ d∈t,skS d=false->0<=d.2.2.2/\L[d.2.2.2.toNat]? = some d.1) ->
  t.foldl (stG h) (tellG h L o)=tellG h L (bestI (bkey h L) (((lvs t).map fun d=>d.2.2.2).filter (hasG h L)) o)
 | [],o,ho,ht=>rfl
 | d :: r,o,ho,ht=>by
  rw[List.foldl_cons];have hr:∀ d∈r,skS d=false->0<=d.2.2.2/\L[d.2.2.2.toNat]? = some d.1:=fun e he=>ht e (List.mem_cons_of_mem _ he)
  cases hs:skS d with
  | true =>
   have e1:lvs (d :: r)=lvs r:=by unfold lvs;rw[List.filter_cons_of_neg (by rw[hs];simp)]
   have e2:stG h (tellG h L o) d=tellG h L o:=by unfold stG;rw[if_pos hs]
   rw[e1,e2];exact stG_leaf r o ho hr
  | false =>
   obtain⟨d0,dL⟩:=ht d List.mem_cons_self hs;have e1:lvs (d :: r)=d :: lvs r:=by unfold lvs;rw[List.filter_cons_of_pos (by rw[hs];simp)]
   rw[e1,List.map_cons];cases hh:h (bxV d.1)with
   | none =>
    have e3:hasG h L d.2.2.2=false:=by unfold hasG;rw[dL,Option.bind_some,hh];rfl
    have e2:stG h (tellG h L o) d=tellG h L o:=by unfold stG;rw[if_neg (by rw[hs];simp),hh]
    rw[List.filter_cons_of_neg (by rw[e3];simp),e2];exact stG_leaf r o ho hr
   | some g =>
    have e3:hasG h L d.2.2.2=true:=by unfold hasG;rw[dL,Option.bind_some,hh];rfl
    have e4:bkey h L d.2.2.2=g:=by unfold bkey;rw[dL,Option.bind_some,hh];rfl
    rw[List.filter_cons_of_pos e3];have e2:∃ o',(∀ b,o'=some b->0<=b)/\stG h (tellG h L o) d=tellG h L o' /\ ∀ xs,bestI (bkey h L) (d.2.2.2 :: xs) o=bestI (bkey h L) xs o':=by
     unfold stG;rw[if_neg (by rw[hs];simp),hh];dsimp only;cases o with
     | none =>
      refine⟨some d.2.2.2,fun b hb=>by cases hb;exact d0,?_,fun xs=>rfl⟩;rw[if_pos (show (tellG h L none).1<0\/_ from .inl (show (-1:Int)<0 by decide))];show _=(d.2.2.2,some (bkey h L d.2.2.2));rw[e4]
     | some b =>
      have hb:=ho b rfl;have q1:(tellG h L (some b)).1=b:=rfl;have q2:(tellG h L (some b)).2.getD 0=bkey h L b:=rfl;rw[q1,q2]
      by_cases c:kR (bkey h L) d.2.2.2 b
      ·refine⟨some d.2.2.2,fun b hb=>by cases hb;exact d0,?_,fun xs=>?_⟩
       ·rw[if_pos (.inr (by unfold kR at c;rw[e4]at c;exact c))];show _=(d.2.2.2,some (bkey h L d.2.2.2));rw[e4]
       ·unfold bestI;rw[List.foldl_cons];dsimp only;rw[if_pos c]
      ·refine⟨some b,ho,?_,fun xs=>?_⟩
       ·rw[if_neg (fun e=>c (by
         unfold kR;rw[e4];rcases e with e | e
         ·omega
         ·exact e))]
       ·unfold bestI;rw[List.foldl_cons];dsimp only;rw[if_neg c]
    obtain⟨o',h1,h2,h3⟩:=e2;rw[h2,h3];exact stG_leaf r o' h1 hr
theorem spG_item{h:Br->Option Rat} {L:List Bd}:∀ (l i:Nat) (o:Option Int),(∀ b,o=some b->0<=b/\b<(i:Int))->i+l=L.length ->
  foldN (spG h) ((L.map bxV).drop i) i (tellG h L o)=tellG h L (bestI (bkey h L) ((((List.range' i l).map Int.ofNat)).filter (hasG h L)) o)
 | 0,i,o,ho,hl=>by
  rw[List.drop_of_length_le (by rw[List.length_map];omega)];rfl
 | l+1,i,o,ho,hl=>by
  have hi:i<L.length:=by omega
  have hiL:L[i]? = some L[i]:=List.getElem?_eq_getElem hi;rw[List.drop_eq_getElem_cons (by rw[List.length_map];exact hi),foldN,List.getElem_map,List.range'_succ,List.map_cons];have hx:(Int.ofNat i).toNat=i:=rfl;cases hh:h (bxV L[i])with
  | none =>
   have e3:hasG h L (Int.ofNat i)=false:=by unfold hasG;rw[hx,hiL,Option.bind_some,hh];rfl
   have e2:spG h (tellG h L o) i (bxV L[i])=tellG h L o:=by unfold spG;rw[hh]
   rw[List.filter_cons_of_neg (by rw[e3];simp),e2];exact spG_item l (i+1) o (fun b hb=>by have:=ho b hb;omega) (by omega)
  | some g =>
   have e3:hasG h L (Int.ofNat i)=true:=by unfold hasG;rw[hx,hiL,Option.bind_some,hh];rfl
   have e4:bkey h L (Int.ofNat i)=g:=by unfold bkey;rw[hx,hiL,Option.bind_some,hh];rfl
   rw[List.filter_cons_of_pos e3];have e2:∃ o',(∀ b,o'=some b->0<=b/\b<((i+1:Nat):Int))/\spG h (tellG h L o) i (bxV L[i])=tellG h L o' /\ ∀ xs,bestI (bkey h L) (Int.ofNat i :: xs) o=bestI (bkey h L) xs o':=by
    unfold spG;rw[hh];dsimp only;cases o with
    | none =>
     refine⟨some (i:Int),fun b hb=>by cases hb;omega,?_,fun xs=>rfl⟩;rw[if_pos (show (tellG h L none).1<0\/_ from .inl (show (-1:Int)<0 by decide))];show _=((i:Int),some (bkey h L (Int.ofNat i)));rw[e4]
    | some b =>
     have hb:=ho b rfl;have q1:(tellG h L (some b)).1=b:=rfl;have q2:(tellG h L (some b)).2.getD 0=bkey h L b:=rfl;rw[q1,q2]
     by_cases c:kR (bkey h L) (Int.ofNat i) b
     ·have c2:g<bkey h L b:=by
       unfold kR at c;rw[e4]at c;rcases c with c | ⟨_,c⟩
       ·exact c
       ·exact absurd c (by simp only [Int.ofNat_eq_natCast];omega)
      refine⟨some (i:Int),fun b hb=>by cases hb;omega,?_,fun xs=>?_⟩
      ·rw[if_pos (.inr c2)];show _=((i:Int),some (bkey h L (Int.ofNat i)));rw[e4]
      ·unfold bestI;rw[List.foldl_cons];dsimp only;rw[if_pos c];rfl
     ·refine⟨some b,fun b' hb'=>by cases hb';omega,?_,fun xs=>?_⟩
      ·rw[if_neg (fun e=>c (by
        unfold kR;rw[e4];rcases e with e | e
        ·omega
        ·exact .inl e))]
      ·unfold bestI;rw[List.foldl_cons];dsimp only;rw[if_neg c]
   obtain⟨o',h1,h2,h3⟩:=e2;rw[h2,h3];exact spG_item l (i+1) o' h1 (by omega)
theorem rngL_range(n:Nat):rngL n=(List.range' 0 n).map Int.ofNat:=by unfold rngL;rw[List.range_eq_range']
theorem leaf_at{L:List Bd} (hl:L.length<=61) {d:Nd} (hd:d∈bldT L) (hs:skS d=false):0<=d.2.2.2/\L[d.2.2.2.toNat]? = some d.1:=by
 have hm:d∈lvs (bldT L):=by
  unfold lvs;exact List.mem_filter.2 ⟨hd,by rw[hs];rfl⟩
 have:=(lvs_bldT hl).mem_iff.1 hm;obtain⟨x,hx,rfl⟩:=List.mem_map.1 this;obtain⟨h0,h1⟩:=(rngL_ok _).2 x hx;refine⟨h0,?_⟩;dsimp only;rw[List.getElem?_eq_getElem (by omega),Option.getD_some]
theorem best_eq{h:Br->Option Rat} {L:List Bd} (hl:L.length<=61):(bldT L).foldl (stG h) (-1,none)=foldN (spG h) (L.map bxV) 0 (-1,none):=by
 have e1:=stG_leaf (h:=h) (L:=L) (bldT L) none (fun b hb=>by cases hb) (fun d hd hs=>leaf_at hl hd hs);have e2:=spG_item (h:=h) (L:=L) L.length 0 none (fun b hb=>by cases hb) (by omega);rw[List.drop_zero]at e2;refine e1.trans (Eq.trans ?_ e2.symm);congr 1;refine bestI_perm ?_;rw[<- rngL_range];refine List.Perm.filter _ ?_;have:=(lvs_bldT hl).map fun d:Nd=>d.2.2.2
 rw[List.map_map]at this;refine this.trans (List.Perm.of_eq ?_)
 conv=>rhs;rw[<- List.map_id (rngL L.length)]
 rfl
def gp1(lo hi x:Rat):Rat:=if x<lo then lo-x else if hi<x then x-hi else 0
def gapV(v:V3r) (b:Br):Rat:=0+gp1 b.1.1 b.2.1 v.1*gp1 b.1.1 b.2.1 v.1+gp1 b.1.2.1 b.2.2.1 v.2.1*gp1 b.1.2.1 b.2.2.1 v.2.1+gp1 b.1.2.2 b.2.2.2 v.2.2*gp1 b.1.2.2 b.2.2.2 v.2.2
def gp2(lo hi x:Rat):Rat:=if hi<x then x-hi else if x<lo then lo-x else 0
theorem gp_eq{lo hi:Rat} (h:lo<=hi) (x:Rat):gp2 lo hi x=gp1 lo hi x:=by
 unfold gp1 gp2;split <;> split <;> grind
end Go.Abs

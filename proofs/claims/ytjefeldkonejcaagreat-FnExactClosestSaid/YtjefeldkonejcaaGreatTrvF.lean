/-
 A PART OF THE PROOF of ClI (texts TrvF TrvG TrvH TrvI TrvJ TrvK TrvL): the claim itself stands in the last text. No conditions beside those of the given row.
-/
import Derived.Test.YtjefeldkonejcaaGreatTreZ
set_option linter.unusedVariables false
set_option linter.unnecessarySimpa false
set_option linter.unusedSimpArgs false
namespace Go.Abs
open Go.Proofs
set_option maxRecDepth 100000
set_option maxHeartbeats 2000000
section
variable {ρ:Type} (n:Nat) (K:Exit->St->Option ρ) (go:St->Option ρ) (bs:List Bd) (xs:List Int) (ns:List Nd) (a k i:Int) (s:List Int) (ks:List Rat) (q:Rat) (p j:Int)
theorem turn466i:turnF (bluE n) A466 189 1 0 (loopAt Tryz.f98 1) K go (σ466i bs xs ns a k i s ks q p) =
  bif decide (0<p)then(if 0<=IntKind.i64.wrap (p-1)/\IntKind.i64.wrap (p-1)<(ks.length:Int)then ks[0+(IntKind.i64.wrap (p-1)).toNat]?.bind (fun u=>if(szQ u&&szQ q)=true then
   bif decide (cmpQ u q<0)then K (.exit 2) (σ466i bs xs ns a k i s ks q p)else
   bif cmpQ u q==0 then(if 0<=IntKind.i64.wrap (p-1)/\IntKind.i64.wrap (p-1)<(s.length:Int)then s[0+(IntKind.i64.wrap (p-1)).toNat]?.bind (fun y=>if 0<=i then xs[i.toNat]?.bind (fun x =>
    bif bif false then true else bif true then decide (y<x)else false then K (.exit 2) (σ466i bs xs ns a k i s ks q p)else go (σ466i bs xs ns a k i s ks q (IntKind.i64.wrap (p-1))))else none)else none)
   else go (σ466i bs xs ns a k i s ks q (IntKind.i64.wrap (p-1)))else none)else none)
  else K (.exit 2) (σ466i bs xs ns a k i s ks q p):=by kernel_rfl
theorem turn466j:turnF (bluE n) A466 189 1 0 (loopAt Tryz.f98 2) K go (σ466j bs xs ns a k i s ks q p j) =
  bif decide (p<j)then(if 0<=IntKind.i64.wrap (j-1)/\IntKind.i64.wrap (j-1)<(s.length:Int)then s[0+(IntKind.i64.wrap (j-1)).toNat]?.bind (fun y=>if 0<=j/\j<(s.length:Int)then s[0+j.toNat]?.bind (fun _ =>
   if 0<=IntKind.i64.wrap (j-1)/\IntKind.i64.wrap (j-1)<(ks.length:Int)then ks[0+(IntKind.i64.wrap (j-1)).toNat]?.bind (fun u=>if 0<=j/\j<(ks.length:Int)then ks[0+j.toNat]?.bind (fun _ =>
    go (σ466j bs xs ns a k i (s.set (0+j.toNat) y) (ks.set (0+j.toNat) u) q p (IntKind.i64.wrap (j-1))))else none)else none)else none)else none)
  else K (.exit 4) (σ466i bs xs ns a k i s ks q p):=by kernel_rfl
end
def posK(s:List Int) (ks:List Rat) (q:Rat) (x:Int):Nat->Nat:=ppos fun p=>match s[p]?,ks[p]? with
 | some y,some u=>decide (u<q\/(u=q/\y<x))
 | _,_=>false
theorem loop466i{ρ:Type} (n:Nat) (K:Exit->St->Option ρ) (bs:List Bd) {xs:List Int} (ns:List Nd) (a k:Int) {i:Nat} {s:List Int} {ks:List Rat} {q:Rat} (hi:i<xs.length) (hk:ks.length=s.length) (hq:szQ q=true) (hz:∀ u∈ks,szQ u=true) (hl:s.length<=1000) :
  ∀ p:Nat,p<=s.length->itF (turnF (bluE n) A466 189 1 0 (loopAt Tryz.f98 1) K) (fun _=>none) (p+1) (σ466i bs xs ns a k i s ks q p)=K (.exit 2) (σ466i bs xs ns a k i s ks q (posK s ks q xs[i] p:Nat))
 | 0,h=>by
  show turnF _ _ _ _ _ _ _ _ _=_;rw[turn466i];rfl
 | p+1,h=>by
  show turnF _ _ _ _ _ _ _ _ _=_;have hw:=wr_pred (j:=p) (by omega);have hp:p<s.length:=by omega
  have hpk:p<ks.length:=by omega
  have ih:=loop466i n K bs (xs:=xs) ns a k (i:=i) (q:=q) hi hk hq hz hl p (by omega);have e:posK s ks q xs[i] (p+1)=if decide (ks[p]<q\/(ks[p]=q/\s[p]<xs[i]))=true then p+1 else posK s ks q xs[i] p:=by
   unfold posK;rw[ppos,List.getElem?_eq_getElem hp,List.getElem?_eq_getElem hpk]
  rw[turn466i,decide_eq_true (by omega),cond_true,hw,if_pos ⟨by omega,by omega⟩,Nat.zero_add,Int.toNat_natCast,List.getElem?_eq_getElem hpk,Option.bind_some,if_pos (both (hz _ (List.getElem_mem hpk)) hq),e]
  by_cases c1:ks[p]<q
  ·rw[decide_eq_true (cmpQ_lt.2 c1),cond_true,if_pos (decide_eq_true (.inl c1))]
  ·rw[decide_eq_false (fun e=>c1 (cmpQ_lt.1 e)),cond_false]
   by_cases c2:ks[p]=q
   ·rw[beq_iff_eq.2 (cmpQ_eq.2 c2),cond_true,if_pos ⟨by omega,by omega⟩,List.getElem?_eq_getElem hp,Option.bind_some,if_pos (by omega),Int.toNat_natCast,List.getElem?_eq_getElem hi,Option.bind_some]
    by_cases c3:s[p]<xs[i]
    ·rw[decide_eq_true c3,if_pos (decide_eq_true (.inr ⟨c2,c3⟩))];rfl
    ·rw[decide_eq_false c3,if_neg (fun e=>by
      rcases of_decide_eq_true e with e | e
      ·exact c1 e
      ·exact c3 e.2)]
     exact ih
   ·rw[beq_eq_false_iff_ne.2 (fun e=>c2 (cmpQ_eq.1 e)),cond_false,if_neg (fun e=>by
     rcases of_decide_eq_true e with e | e
     ·exact c1 e
     ·exact c2 e.1)]
    exact ih
def shf{α:Type} (p:Nat):Nat->List α->List α
 | 0,l=>l
 | j+1,l=>if p<j+1 then shf p j (match l[j]? with | some v=>l.set (j+1) v | none=>l)else l
theorem loop466j{ρ:Type} (n:Nat) (K:Exit->St->Option ρ) (bs:List Bd) (xs:List Int) (ns:List Nd) (a k i:Int) (q:Rat) (p:Nat):∀ (j:Nat) {s:List Int} {ks:List Rat},ks.length=s.length->j<s.length->s.length<=1001 ->
  itF (turnF (bluE n) A466 189 1 0 (loopAt Tryz.f98 2) K) (fun _=>none) (j+1) (σ466j bs xs ns a k i s ks q p j)=K (.exit 4) (σ466i bs xs ns a k i (shf p j s) (shf p j ks) q p)
 | 0,s,ks,hk,hj,hl=>by
  show turnF _ _ _ _ _ _ _ _ _=_;rw[turn466j,decide_eq_false (by omega),cond_false];rfl
 | j+1,s,ks,hk,hj,hl=>by
  show turnF _ _ _ _ _ _ _ _ _=_;have hw:=wr_pred (j:=j) (by omega);rw[turn466j];unfold shf
  by_cases c:p<j+1
  ·have h1:s[j]? = some s[j]:=List.getElem?_eq_getElem (by omega);have h2:ks[j]? = some ks[j]:=List.getElem?_eq_getElem (by omega);rw[decide_eq_true (by omega),cond_true,hw,if_pos ⟨by omega,by omega⟩,Nat.zero_add,Int.toNat_natCast,h1,Option.bind_some,if_pos ⟨by omega,by omega⟩,Nat.zero_add,Int.toNat_natCast,List.getElem?_eq_getElem hj,Option.bind_some,if_pos ⟨by omega,by omega⟩,h2,Option.bind_some,if_pos ⟨by omega,by omega⟩,List.getElem?_eq_getElem (by omega),Option.bind_some,if_pos c,if_pos c];exact loop466j n K bs xs ns a k i q p j (s:=s.set (j+1) s[j]) (ks:=ks.set (j+1) ks[j]) (by simpa using hk) (by rw[List.length_set];omega) (by rw[List.length_set];exact hl)
  ·rw[decide_eq_false (by omega),cond_false,if_neg c,if_neg c]
theorem shf_ok{α:Type} {s:List α} {p:Nat}:∀ (j:Nat) (z:α),p<=j->j<=s.length->∃ z',shf p j (s.take j++z :: s.drop j)=s.take p++z' :: s.drop p
 | 0,z,h1,h2=>⟨z,by
  have:p=0:=by omega
  subst this;rfl⟩
 | j+1,z,h1,h2=>by
  unfold shf
  by_cases c:p<j+1
  ·rw[if_pos c];have ht:(s.take (j+1)).length=j+1:=by rw[List.length_take];omega
   have hg:(s.take (j+1)++z :: s.drop (j+1))[j]? = some s[j]:=by
    rw[List.getElem?_append_left (by omega),List.getElem?_take_of_lt (by omega),List.getElem?_eq_getElem (by omega)]
   have hs:(s.take (j+1)++z :: s.drop (j+1)).set (j+1) s[j]=s.take j++s[j] :: s.drop j:=by
    rw[List.set_append_right _ _ (by omega),ht,Nat.sub_self,List.set_cons_zero,List.take_succ_eq_append_getElem (by omega),List.append_assoc,List.singleton_append,<- List.drop_eq_getElem_cons (by omega)]
   rw[hg];dsimp only;rw[hs];exact shf_ok j s[j] (by omega) (by omega)
  ·rw[if_neg c];have:p=j+1:=by omega
   subst this;exact⟨z,rfl⟩
theorem shf_len{α:Type} {p:Nat}:∀ (j:Nat) (l:List α),(shf p j l).length=l.length
 | 0,l=>rfl
 | j+1,l=>by
  unfold shf;split
  ·rw[shf_len j];split <;> simp
  ·rfl
theorem shf_put{α:Type} {s:List α} {p:Nat} (hp:p<=s.length) (z x:α):(shf p s.length (s ++ [z])).set p x=s.take p++x :: s.drop p:=by
 have e:s ++ [z]=s.take s.length++z :: s.drop s.length:=by rw[List.take_length,List.drop_length]
 obtain⟨z',h⟩:=shf_ok (s:=s) (p:=p) s.length z hp (Nat.le_refl _);have ht:(s.take p).length=p:=by rw[List.length_take];omega
 rw[e,h,List.set_append_right _ _ (by omega),ht,Nat.sub_self,List.set_cons_zero]
theorem pos_ex:∃ f:List Int->List Rat->Rat->List Int->Int->Nat,f=fun s ks q xs i=>posK s ks q (xs[i.toNat]?.getD 0) s.length:=⟨_,rfl⟩
noncomputable def posI:=pos_ex.choose
theorem posI_eq:posI=fun s ks q xs i=>posK s ks q (xs[i.toNat]?.getD 0) s.length:=pos_ex.choose_spec
theorem shi_ex:∃ f:List Int->Int->Int->List Int,f=fun s p j=>shf p.toNat j.toNat s:=⟨_,rfl⟩
noncomputable def shIx:=shi_ex.choose
theorem shIx_eq:shIx=fun(s:List Int) (p j:Int)=>shf p.toNat j.toNat s:=shi_ex.choose_spec
theorem shr_ex:∃ f:List Rat->Int->Int->List Rat,f=fun s p j=>shf p.toNat j.toNat s:=⟨_,rfl⟩
noncomputable def shRx:=shr_ex.choose
theorem shRx_eq:shRx=fun(s:List Rat) (p j:Int)=>shf p.toNat j.toNat s:=shr_ex.choose_spec
noncomputable def S466i:Sum:=fun n0 ρ σ K=>match n0,σ with
 | 1,⟨[(0,.v false [.sl none (.pair (.pair (.pair (.int .i64) (.int .i64)) (.pair (.pair (.int .i64) (.int .i64)) (.pair (.int .i64) (.int .i64)))) (.pair (.pair (.int .i64) (.int .i64)) (.pair (.pair (.int .i64) (.int .i64)) (.pair (.int .i64) (.int .i64))))) bs]),(1,.v false [.sl none (.int .i64) xs]),(2,.v false [.wsl 1 15]),(8,.v false [.int .i64 a]),(11,.v false [.int .i64 k]),(12,.v false [.wsl 2 1]),(13,.v false [.wsl 3 3]),(14,.v false [.int .i64 i]),(16,.v false [.ptr 4 0]),(17,.v false [.int .i64 p])],
   [.dead,.arr 72 (.pair (.pair (.pair (.pair (.int .i64) (.int .i64)) (.pair (.pair (.int .i64) (.int .i64)) (.pair (.int .i64) (.int .i64)))) (.pair (.pair (.int .i64) (.int .i64)) (.pair (.pair (.int .i64) (.int .i64)) (.pair (.int .i64) (.int .i64))))) (.pair (.int .i64) (.pair (.int .i64) (.int .i64)))) ns false true,.arr 2 (.int .i64) s false true,.arr 61 (.num 1) ks false true,.var [.num 1 (some q)]]⟩ =>
  if(0<=i/\i<(List.length (α:=Int) xs:Int))/\List.length (α:=Rat) ks=List.length (α:=Int) s/\p=(List.length (α:=Int) s:Int)/\szQ q=true/\List.all (α:=Rat) ks szQ=true/\List.length (α:=Int) s<=1000 then K (.exit 2) (σ466i bs xs ns a k i s ks q (posI s ks q xs i:Nat))else none
 | _,_=>none
noncomputable def S466j:Sum:=fun n0 ρ σ K=>match n0,σ with
 | 1,⟨[(0,.v false [.sl none (.pair (.pair (.pair (.int .i64) (.int .i64)) (.pair (.pair (.int .i64) (.int .i64)) (.pair (.int .i64) (.int .i64)))) (.pair (.pair (.int .i64) (.int .i64)) (.pair (.pair (.int .i64) (.int .i64)) (.pair (.int .i64) (.int .i64))))) bs]),(1,.v false [.sl none (.int .i64) xs]),(2,.v false [.wsl 1 15]),(8,.v false [.int .i64 a]),(11,.v false [.int .i64 k]),(12,.v false [.wsl 2 1]),(13,.v false [.wsl 3 3]),(14,.v false [.int .i64 i]),(16,.v false [.ptr 4 0]),(17,.v false [.int .i64 p]),(19,.v false [.int .i64 j])],
   [.dead,.arr 72 (.pair (.pair (.pair (.pair (.int .i64) (.int .i64)) (.pair (.pair (.int .i64) (.int .i64)) (.pair (.int .i64) (.int .i64)))) (.pair (.pair (.int .i64) (.int .i64)) (.pair (.pair (.int .i64) (.int .i64)) (.pair (.int .i64) (.int .i64))))) (.pair (.int .i64) (.pair (.int .i64) (.int .i64)))) ns false true,.arr 2 (.int .i64) s false true,.arr 61 (.num 1) ks false true,.var [.num 1 (some q)]]⟩ =>
  if(0<=j/\j<(List.length (α:=Int) s:Int))/\List.length (α:=Rat) ks=List.length (α:=Int) s/\0<=p/\List.length (α:=Int) s<=1001 then K (.exit 4) (σ466i bs xs ns a k i (shIx s p j) (shRx ks p j) q p)else none
 | _,_=>none
theorem sum466i{n:Nat} (h:OrcOK NN Tryz.prog 98 (bluO n)):SumOK NN Tryz.prog 189 (loopAt Tryz.f98 1) S466i:=
 SumOK.of_turns (bluE_ok h) mixT (A:=A466) (SumsOK.none fun _=>rfl) fun n0 ρ σ K r hr=>by
  unfold S466i at hr;split at hr
  ·rename_i bs xs a k i p ns s ks q;split at hr
   ·rename_i hc;obtain⟨⟨h1,h2⟩,h3,rfl,h5,h6,h7⟩:=hc;obtain⟨i',rfl⟩:=Int.eq_ofNat_of_zero_le h1;have hi:i'<List.length (α:=Int) xs:=by omega
    refine⟨_,(loop466i n K bs (xs:=xs) ns a k (i:=i') (s:=s) (ks:=ks) (q:=q) hi h3 h5 (List.all_eq_true.1 h6) h7 s.length (Nat.le_refl _)).trans ?_⟩;rw[posI_eq]at hr;dsimp only at hr;rw[Int.toNat_natCast,List.getElem?_eq_getElem hi,Option.getD_some]at hr;exact hr
   ·contradiction
  ·contradiction
theorem sum466j{n:Nat} (h:OrcOK NN Tryz.prog 98 (bluO n)):SumOK NN Tryz.prog 189 (loopAt Tryz.f98 2) S466j:=
 SumOK.of_turns (bluE_ok h) mixT (A:=A466) (SumsOK.none fun _=>rfl) fun n0 ρ σ K r hr=>by
  unfold S466j at hr;split at hr
  ·rename_i bs xs a k i p j ns s ks q;split at hr
   ·rename_i hc;obtain⟨⟨h1,h2⟩,h3,h4,h5⟩:=hc;obtain⟨j',rfl⟩:=Int.eq_ofNat_of_zero_le h1;obtain⟨p',rfl⟩:=Int.eq_ofNat_of_zero_le h4;refine⟨_,(loop466j n K bs xs ns a k i q p' j' (s:=s) (ks:=ks) h3 (by omega) h5).trans ?_⟩;rw[shIx_eq,shRx_eq]at hr;exact hr
   ·contradiction
  ·contradiction
end Go.Abs
namespace Go.Abs
open Go.Proofs
set_option maxRecDepth 100000
set_option maxHeartbeats 2000000
noncomputable def A466o:Ann:={ A466 with sum:=fun i=>bif Nat.beq i 22 then some S466i else bif Nat.beq i 29 then some S466j else none }
noncomputable def bkQ(k:Int) (b:Bd):Rat:=cdI k (vQ b.1.1) (vQ b.1.2.1) (vQ b.1.2.2)+cdI k (vQ b.2.1) (vQ b.2.2.1) (vQ b.2.2.2)
section
variable {ρ:Type} (xs:List Int) (i:Int) (s:List Int) (ks:List Rat) (q:Rat) (f:List Int->List Rat->Option ρ)
noncomputable def putC(p:Int) (s1:List Int) (k1:List Rat):Option ρ:=if 0<=i then xs[i.toNat]?.bind (fun x=>if 0<=p/\p<(s1.length:Int)then s1[0+p.toNat]?.bind (fun _=>if 0<=p/\p<(k1.length:Int)then k1[0+p.toNat]?.bind (fun _=>f (s1.set (0+p.toNat) x) (k1.set (0+p.toNat) q))else none)else none)else none
noncomputable def putD(p:Int) (s1:List Int) (k1:List Rat) (j:Int):Option ρ:=if(0<=j/\j<(s1.length:Int))/\k1.length=s1.length/\0<=p/\s1.length<=1001 then putC xs i q f p (shIx s1 p j) (shRx k1 p j)else none
noncomputable def putE:Option ρ:=if(0<=i/\i<(xs.length:Int))/\ks.length=s.length/\(s.length:Int)=(s.length:Int)/\szQ q=true/\ks.all szQ=true/\s.length<=1000 then
 (if s.length + [(0:Int)].length<=70368744177664/\(s.length + [(0:Int)].length)*8<=70368744177664 then(if ks.length + [q].length<=70368744177664/\(ks.length + [q].length)*40<=70368744177664 then
  putD xs i q f (posI s ks q xs i:Nat) (s ++ [0]) (ks ++ [q]) (IntKind.i64.wrap (((s ++ [0]).length:Int)-1))else none)else none)else none
end
theorem turn466o{ρ:Type} (n:Nat) (K:Exit->St->Option ρ) (go:St->Option ρ) (bs:List Bd) (xs:List Int) (ns:List Nd) (a k i:Int) (s:List Int) (ks:List Rat):turnF (bluE n) A466o 189 1 0 (loopAt Tryz.f98 0) K go (σ466o bs xs ns a k s ks i) =
  bif decide (i<(xs.length:Int))then(if 0<=i then xs[i.toNat]?.bind (fun x=>if(0:Int)<=x then bs[Int.toNat x]?.bind (fun b=>if okV3 b.1=true/\okV3 b.2=true then
   (if(szQ (cdI k (vQ b.1.1) (vQ b.1.2.1) (vQ b.1.2.2))&&szQ (cdI k (vQ b.2.1) (vQ b.2.2.1) (vQ b.2.2.2)))=true then putE xs i s ks (bkQ k b) (fun s' k'=>go (σ466o bs xs ns a k s' k' (IntKind.i64.wrap (i+1))))else none)else none)else none)else none)
  else K (.exit 0) (σ466c bs xs ns a k s ks):=by kernel_rfl
theorem cd_lo(k:Int) (b:Bd):cdI k (vQ b.1.1) (vQ b.1.2.1) (vQ b.1.2.2)=lo3 k (bxV b):=by
 rw[cdI_eq];unfold cd3T lo3
 by_cases h0:k=0
 ·subst h0;rfl
 ·rw[beq_eq_false_iff_ne.2 h0,cond_false,if_neg h0]
  by_cases h1:k=1
  ·subst h1;rfl
  ·rw[beq_eq_false_iff_ne.2 h1,cond_false,if_neg h1];rfl
theorem cd_hi(k:Int) (b:Bd):cdI k (vQ b.2.1) (vQ b.2.2.1) (vQ b.2.2.2)=hi3 k (bxV b):=by
 rw[cdI_eq];unfold cd3T hi3
 by_cases h0:k=0
 ·subst h0;rfl
 ·rw[beq_eq_false_iff_ne.2 h0,cond_false,if_neg h0]
  by_cases h1:k=1
  ·subst h1;rfl
  ·rw[beq_eq_false_iff_ne.2 h1,cond_false,if_neg h1];rfl
theorem bk_mid{bs:List Bd} {k x:Int} {b:Bd} (h:bs[x.toNat]? = some b):bkQ k b=midV (bs.map bxV) k x:=by
 unfold bkQ midV;rw[cd_lo,cd_hi,List.getElem?_map,h];rfl
theorem insP_len(f:Int->Rat) (x:Int) (s:List Int):(insP f x s).length=s.length+1:=by
 rw[(insP_perm (f:=f) (x:=x) (s:=s)).length_eq,List.length_cons]
theorem srtP_succ{f:Int->Rat} {xs:List Int} {i:Nat} (h:i<xs.length):srtP f (xs.take (i+1))=insP f xs[i] (srtP f (xs.take i)):=by
 unfold srtP;rw[List.take_succ_eq_append_getElem h,List.foldl_append];rfl
theorem srtP_len{f:Int->Rat} {xs:List Int}:∀ {i:Nat},i<=xs.length->(srtP f (xs.take i)).length=i
 | 0,h=>rfl
 | i+1,h=>by rw[srtP_succ (by omega),insP_len,srtP_len (by omega)]
theorem srtP_mem{f:Int->Rat} {xs:List Int}:∀ {i:Nat},i<=xs.length->∀ x∈srtP f (xs.take i),x∈xs
 | 0,h,x,hx=>by cases hx
 | i+1,h,x,hx=>by
  rw[srtP_succ (by omega),insP_perm.mem_iff]at hx;rcases List.mem_cons.1 hx with rfl | hx
  ·exact List.getElem_mem _
  ·exact srtP_mem (by omega) x hx
theorem pos_eq{f:Int->Rat} {s:List Int} {x:Int}:posK s (s.map f) (f x) x s.length=iposP f x s:=by
 unfold posK iposP;congr 1;funext p;rw[List.getElem?_map];cases s[p]? <;> rfl
theorem putE_eq{ρ:Type} {xs:List Int} {i:Nat} {s:List Int} {f:Int->Rat} (hi:i<xs.length) (hz:∀ x∈s,szQ (f x)=true) (hq:szQ (f xs[i])=true) (hl:s.length<=1000) (g:List Int->List Rat->Option ρ) :
  putE xs (i:Int) s (s.map f) (f xs[i]) g=g (insP f xs[i] s) ((insP f xs[i] s).map f):=by
 have hp:posI s (s.map f) (f xs[i]) xs (i:Int)=iposP f xs[i] s:=by
  rw[posI_eq];dsimp only;rw[Int.toNat_natCast,List.getElem?_eq_getElem hi,Option.getD_some,pos_eq]
 have hple:=iposP_le f xs[i] s;have l1:(s ++ [0]).length=s.length+1:=by rw[List.length_append];rfl
 have l2:(s.map f ++ [f xs[i]]).length=s.length+1:=by rw[List.length_append,List.length_map];rfl
 have hw:IntKind.i64.wrap (((s ++ [0]).length:Int)-1)=(s.length:Int):=by rw[l1];exact wr_pred (by omega)
 unfold putE;rw[if_pos ⟨⟨by omega,by omega⟩,by rw[List.length_map],rfl,hq,List.all_eq_true.2 (fun u hu=>by obtain⟨x,hx,rfl⟩:=List.mem_map.1 hu;exact hz x hx),hl⟩,if_pos ⟨by rw[List.length_singleton];omega,by rw[List.length_singleton];omega⟩,if_pos ⟨by rw[List.length_map,List.length_singleton];omega,by rw[List.length_map,List.length_singleton];omega⟩,hw,hp];unfold putD;rw[if_pos ⟨⟨by omega,by rw[l1];omega⟩,by rw[l1,l2],by omega,by rw[l1];omega⟩,shIx_eq,shRx_eq];dsimp only;rw[Int.toNat_natCast,Int.toNat_natCast];have s1:(shf (iposP f xs[i] s) s.length (s ++ [0])).length=s.length+1:=by rw[shf_len,l1]
 have s2:(shf (iposP f xs[i] s) s.length (s.map f ++ [f xs[i]])).length=s.length+1:=by rw[shf_len,l2]
 have p1:=shf_put hple (s:=s) (z:=0) (x:=xs[i]);have p2:(shf (iposP f xs[i] s) s.length (s.map f ++ [f xs[i]])).set (iposP f xs[i] s) (f xs[i])=(insP f xs[i] s).map f:=by
  have:=shf_put (s:=s.map f) (p:=iposP f xs[i] s) (by rw[List.length_map];exact hple) (f xs[i]) (f xs[i]);rw[List.length_map]at this;rw[this];unfold insP;rw[List.map_append,List.map_cons,List.map_take,List.map_drop]
 unfold putC;rw[if_pos (by omega),Int.toNat_natCast,List.getElem?_eq_getElem hi,Option.bind_some,if_pos ⟨by omega,by rw[s1];omega⟩,Int.toNat_natCast,Nat.zero_add,List.getElem?_eq_getElem (by rw[s1];omega),Option.bind_some,if_pos ⟨by omega,by rw[s2];omega⟩,List.getElem?_eq_getElem (by rw[s2];omega),Option.bind_some,p1,p2];rfl
theorem szB_key{b:Bd} (h:okBd b=true) (k:Int):szN 8 (lo3 k (bxV b))/\szN 8 (hi3 k (bxV b)):=szB_k (szB_ok' h)
theorem loop466o{ρ:Type} (n:Nat) (K:Exit->St->Option ρ) {bs:List Bd} {xs:List Int} (ns:List Nd) (a k:Int) (h:okL bs xs=true) (hl:xs.length<=100) :
  itF (turnF (bluE n) A466o 189 1 0 (loopAt Tryz.f98 0) K) (fun _=>none) (xs.length+1) (σ466o bs xs ns a k [] [] 0)=K (.exit 0) (σ466c bs xs ns a k (srtP (midV (bs.map bxV) k) xs) ((srtP (midV (bs.map bxV) k) xs).map (midV (bs.map bxV) k))):=by
 have szm:∀ x∈xs,szQ (midV (bs.map bxV) k x)=true:=fun x hx=>by
  obtain⟨x0,b,hb,ob⟩:=okL_at h hx;have hs:=szB_key ob k;rw[<- bk_mid hb];unfold bkQ;rw[cd_lo,cd_hi];exact(hs.1.add hs.2).qq (by omega)
 have key:=itF_list (T:=turnF (bluE n) A466o 189 1 0 (loopAt Tryz.f98 0) K) (xs:=xs) (s:=fun i (_:Unit)=>σ466o bs xs ns a k (srtP (midV (bs.map bxV) k) (xs.take i.toNat)) ((srtP (midV (bs.map bxV) k) (xs.take i.toNat)).map (midV (bs.map bxV) k)) i)
  (body:=fun i x st k'=>k' st) (fin:=fun _=>K (.exit 0) (σ466c bs xs ns a k (srtP (midV (bs.map bxV) k) xs) ((srtP (midV (bs.map bxV) k) xs).map (midV (bs.map bxV) k))))
  (fun go st=>by rw[turn466o,lst_out,Int.toNat_natCast,List.take_length])
  (fun go i hi st=>by
   obtain⟨x0,b,hb,ob⟩:=okL_at h (List.getElem_mem hi);have hs:=szB_key ob k;have hlen:=srtP_len (f:=midV (bs.map bxV) k) (xs:=xs) (i:=i) (by omega);rw[turn466o,lst_in hi,if_pos x0,hb,Option.bind_some,if_pos (okBd_v ob),cd_lo,cd_hi,if_pos (both (hs.1.qq (by omega)) (hs.2.qq (by omega))),bk_mid hb,Int.toNat_natCast,Int.toNat_natCast,
    putE_eq hi (fun x hx=>szm x (srtP_mem (by omega) x hx)) (szm _ (List.getElem_mem hi)) (by rw[hlen];omega),lst_wrap (by omega) hi,srtP_succ hi])
  xs.length 0 () (by omega)
 rw[List.drop_zero]at key;have run:∀ (ys:List Int) (i:Int),runL (fun(i:Int) (x:Int) (st:Unit) k'=>k' st) (fun _=>K (.exit 0) (σ466c bs xs ns a k (srtP (midV (bs.map bxV) k) xs) ((srtP (midV (bs.map bxV) k) xs).map (midV (bs.map bxV) k)))) ys i ()=K (.exit 0) (σ466c bs xs ns a k (srtP (midV (bs.map bxV) k) xs) ((srtP (midV (bs.map bxV) k) xs).map (midV (bs.map bxV) k))):=by
  intro ys
  induction ys with
  | nil=>intro i;rfl
  | cons y r ih=>intro i;exact ih (i+1)
 exact key.trans (run xs 0)
theorem sr_ex:∃ f:List Bd->Int->List Int->List Int × List Rat,f=fun bs k xs=>(srtP (midV (bs.map bxV) k) xs,(srtP (midV (bs.map bxV) k) xs).map (midV (bs.map bxV) k)):=⟨_,rfl⟩
noncomputable def srI:=sr_ex.choose
theorem srI_eq:srI=fun(bs:List Bd) (k:Int) (xs:List Int)=>(srtP (midV (bs.map bxV) k) xs,(srtP (midV (bs.map bxV) k) xs).map (midV (bs.map bxV) k)):=sr_ex.choose_spec
noncomputable def S466o:Sum:=fun n0 ρ σ K=>match n0,σ with
 | 1,⟨[(0,.v false [.sl none (.pair (.pair (.pair (.int .i64) (.int .i64)) (.pair (.pair (.int .i64) (.int .i64)) (.pair (.int .i64) (.int .i64)))) (.pair (.pair (.int .i64) (.int .i64)) (.pair (.pair (.int .i64) (.int .i64)) (.pair (.int .i64) (.int .i64))))) bs]),(1,.v false [.sl none (.int .i64) xs]),(2,.v false [.wsl 1 15]),(8,.v false [.int .i64 a]),(11,.v false [.int .i64 k]),(12,.v false [.wsl 2 1]),(13,.v false [.wsl 3 3]),(14,.v false [.int .i64 i])],
   [.dead,.arr 72 (.pair (.pair (.pair (.pair (.int .i64) (.int .i64)) (.pair (.pair (.int .i64) (.int .i64)) (.pair (.int .i64) (.int .i64)))) (.pair (.pair (.int .i64) (.int .i64)) (.pair (.pair (.int .i64) (.int .i64)) (.pair (.int .i64) (.int .i64))))) (.pair (.int .i64) (.pair (.int .i64) (.int .i64)))) ns false true,.arr 2 (.int .i64) s false true,.arr 61 (.num 1) ks false true]⟩ =>
  if okL bs xs=true/\i=0/\List.length (α:=Int) s=0/\List.length (α:=Rat) ks=0/\List.length (α:=Int) xs<=100 then K (.exit 0) (σ466c bs xs ns a k (srI bs k xs).1 (srI bs k xs).2)else none
 | _,_=>none
theorem sum466o{n:Nat} (h:OrcOK NN Tryz.prog 98 (bluO n)):SumOK NN Tryz.prog 189 (loopAt Tryz.f98 0) S466o:=
 SumOK.of_turns (bluE_ok h) mixT (A:=A466o) (SumsOK.ofL (ls:=[loopAt Tryz.f98 1,loopAt Tryz.f98 2]) (by kernel_rfl) ⟨sumL1 (by kernel_rfl) (sum466i h),sumL1 (by kernel_rfl) (sum466j h),trivial⟩) fun n0 ρ σ K r hr=>by
  unfold S466o at hr;split at hr
  ·rename_i bs xs a k i ns s ks;split at hr
   ·rename_i hc;obtain⟨h1,rfl,h3,h4,h5⟩:=hc;obtain rfl:=List.length_eq_zero_iff.1 h3;obtain rfl:=List.length_eq_zero_iff.1 h4;rw[srI_eq]at hr;exact⟨_,(loop466o n K ns a k h1 h5).trans hr⟩
   ·contradiction
  ·contradiction
noncomputable def A466s:Ann:={ A466 with sum:=fun i=>bif Nat.beq i 17 then some S466o else bif Nat.beq i 22 then some S466i else bif Nat.beq i 29 then some S466j else none }
end Go.Abs
namespace Go.Abs
open Go.Proofs
set_option maxRecDepth 100000
set_option maxHeartbeats 2000000
section
variable {ρ:Type} (n:Nat) (cont:SV->HL->Option ρ) (bs:List Bd) (xs:List Int) (ns:List Nd)
noncomputable def bluC(zs:List Int) (z:List Nd) (f:List Nd->Option ρ):Option ρ:=if(okL bs zs=true/\okIt bs.length zs)/\1<=zs.length/\zs.length<=n/\zs.length<=100/\z.length+2*zs.length<=1000 then f (z++bldJ bs n zs (z.length:Int))else none
noncomputable def bluT(z:List Nd) (ys:List Int):Option ρ:=setC (ns.length:Int) (fun x=>(x.1,(z.length:Int),x.2.2.1,x.2.2.2)) z fun z1 =>
 if 0<=(0:Int)/\0<=gwH ys/\gwH ys<=(ys.length:Int)then bluC n bs ((ys.drop (0+Int.toNat 0)).take ((gwH ys).toNat-Int.toNat 0)) z1 fun z2=>setC (ns.length:Int) (fun x=>(x.1,x.2.1,(z2.length:Int),x.2.2.2)) z2 fun z3 =>
  (if 0<=gwH ys/\gwH ys<=(ys.length:Int)/\(ys.length:Int)<=(ys.length:Int)then bluC n bs ((ys.drop (0+(gwH ys).toNat)).take ((ys.length:Int).toNat-(gwH ys).toNat)) z3 fun z4=>cont (one (.wsl 1 15)) [.dead,.arr 72 tNd z4 false true]else none)else none
noncomputable def bluS(z:List Nd) (k:Int):Option ρ:=if okL bs xs=true/\(0:Int)=0/\([]:List Int).length=0/\([]:List Rat).length=0/\xs.length<=100 then bluT n cont bs ns z (srI bs k xs).1 else none
noncomputable def bluA(z:List Nd) (dx dy dz:Rat) (k:Int):Option ρ:=if(szQ dz&&szQ (cdI k dx dy dz))=true then(bif decide (0<cmpQ dz (cdI k dx dy dz))then bluS n cont bs xs ns z 2 else bluS n cont bs xs ns z k)else none
noncomputable def bluB(z:List Nd) (dx dy dz:Rat):Option ρ:=if(szQ dy&&szQ dx)=true then(bif decide (0<cmpQ dy dx)then bluA n cont bs xs ns z dx dy dz 1 else bluA n cont bs xs ns z dx dy dz 0)else none
noncomputable def bluM(z:List Nd) (b:Bd):Option ρ:=bif (xs.length:Int)==1 then xs[Int.toNat 0]?.bind (fun x=>setC (ns.length:Int) (fun y=>(y.1,y.2.1,y.2.2.1,x)) z fun z1=>cont (one (.wsl 1 15)) [.dead,.arr 72 tNd z1 false true])else
 if okV3 b.1=true/\okV3 b.2=true then(if(s8 (vQ b.2.1)=true/\s8 (vQ b.2.2.1)=true/\s8 (vQ b.2.2.2)=true)/\s8 (vQ b.1.1)=true/\s8 (vQ b.1.2.1)=true/\s8 (vQ b.1.2.2)=true then
  bluB n cont bs xs ns z (vQ b.2.1-vQ b.1.1) (vQ b.2.2.1-vQ b.1.2.1) (vQ b.2.2.2-vQ b.1.2.2)else none)else none
theorem gq466:runF (bluE n) A466s 0 Tryz.f98 (bodyOf Tryz.f98) ρ [one (.sl none tBx bs),one (.sl none (.int .i64) xs),one (.wsl 0 15)] [.arr 72 tNd ns false false] cont =
  if okL bs xs=true/\1<=xs.length/\xs.length<=1000 then(if ns.length + [((arJ bs xs,-1,-1,-1):Nd)].length<=70368744177664/\(ns.length + [((arJ bs xs,-1,-1,-1):Nd)].length)*120<=70368744177664 then bluM n cont bs xs ns (ns ++ [((arJ bs xs,-1,-1,-1):Nd)]) (arJ bs xs)else none)else none:=by kernel_rfl
end
end Go.Abs
namespace Go.Abs
open Go.Proofs
set_option maxRecDepth 100000
set_option maxHeartbeats 1000000
theorem bldS_len{bs:List Bd}:∀ (n:Nat) (xs:List Int) (at_:Int),xs.Nodup->1<=xs.length->xs.length<=n->(bldS bs n xs at_).length+1=2*xs.length
 | 0,xs,at_,hn,h1,hl=>by omega
 | n+1,[],at_,hn,h1,hl=>by simp at h1
 | n+1,x :: r,at_,hn,h1,hl=>by
  unfold bldS;split
  ·rename_i hr;subst hr;rfl
  ·rename_i hr;dsimp only;obtain⟨p,_⟩:=srtP_ok (f:=midV (bs.map bxV) (axV (bxV (arS bs (bs[x.toNat]?.getD bd0) r)))) hn;revert p;generalize srtP (midV (bs.map bxV) (axV (bxV (arS bs (bs[x.toNat]?.getD bd0) r)))) (x :: r)=ys;intro p;have hyn:=p.symm.nodup hn;have hyl:=p.length_eq;have hy2:2<=ys.length:=by
    rw[hyl];cases r with
    | nil=>exact absurd rfl hr
    | cons y r=>simp
   obtain⟨t1,t2,t3,t4⟩:=half_len hy2;have hL:=fun a=>bldS_len (bs:=bs) n (ys.take ((ys.length+1) / 2)) a (hyn.sublist (List.take_sublist _ _)) t1 (by omega)
   have hR:=fun a=>bldS_len (bs:=bs) n (ys.drop ((ys.length+1) / 2)) a (hyn.sublist (List.drop_sublist _ _)) t3 (by omega)
   have q3:(ys.take ((ys.length+1) / 2)).length+(ys.drop ((ys.length+1) / 2)).length=ys.length:=by rw[<- List.length_append,List.take_append_drop]
   have e1:=hL (at_+1);have e2:=hR (at_+1+((bldS bs n (ys.take ((ys.length+1) / 2)) (at_+1)).length:Int));rw[List.length_cons,List.length_append];omega
theorem okL_sub{bs:List Bd} {xs ys:List Int} (h:okL bs xs=true) (hs:∀ y∈ys,y∈xs):okL bs ys=true:=by
 obtain⟨h1,h2⟩:=okL_iff.1 h;exact okL_iff.2 ⟨h1,fun y hy=>h2 y (hs y hy)⟩
section
variable {ρ:Type} {n:Nat} {cont:SV->HL->Option ρ} {bs:List Bd} {ns:List Nd}
theorem bluT_eq{b:Bd} {ys:List Int} (h:okL bs ys=true) (ho:okIt bs.length ys) (h2:2<=ys.length) (hn:ys.length<=n+1) (hl:ys.length<=100) (hns:ns.length+2*ys.length<=1000) :
  bluT n cont bs ns (ns ++ [((b,-1,-1,-1):Nd)]) ys=cont (one (.wsl 1 15)) [.dead,.arr 72 tNd (ns++(b,(ns.length:Int)+1,(ns.length:Int)+1+((bldS bs n (ys.take ((ys.length+1) / 2)) ((ns.length:Int)+1)).length:Int),-1) ::
   (bldS bs n (ys.take ((ys.length+1) / 2)) ((ns.length:Int)+1)++bldS bs n (ys.drop ((ys.length+1) / 2)) ((ns.length:Int)+1+((bldS bs n (ys.take ((ys.length+1) / 2)) ((ns.length:Int)+1)).length:Int)))) false true]:=by
 have e:gwH ys=(((ys.length+1) / 2:Nat):Int):=by
  unfold gwH;have e1:IntKind.i64.wrap ((ys.length:Int)+1)=((ys.length+1:Nat):Int):=by rw[IntKind.wrap_i64];omega
  rw[e1,Int.tdiv_eq_ediv_of_nonneg (by omega),IntKind.wrap_i64];omega
 obtain⟨t1,t2,t3,t4⟩:=half_len h2;have c1:(ys.drop (0+Int.toNat 0)).take ((((ys.length+1) / 2:Nat):Int).toNat-Int.toNat 0)=ys.take ((ys.length+1) / 2):=by rw[Int.toNat_natCast];rfl
 have c2:(ys.drop (0+(((ys.length+1) / 2:Nat):Int).toNat)).take ((ys.length:Int).toNat-(((ys.length+1) / 2:Nat):Int).toNat)=ys.drop ((ys.length+1) / 2):=by
  rw[Int.toNat_natCast,Int.toNat_natCast,Nat.zero_add,List.take_of_length_le (by rw[List.length_drop];omega)]
 have hL:=bldS_len (bs:=bs) n (ys.take ((ys.length+1) / 2)) ((ns.length:Int)+1) (ho.1.sublist (List.take_sublist _ _)) t1 (by omega);have q3:(ys.take ((ys.length+1) / 2)).length+(ys.drop ((ys.length+1) / 2)).length=ys.length:=by rw[<- List.length_append,List.take_append_drop]
 unfold bluT;rw[e,c1,c2,setC_at rfl,if_pos ⟨by omega,by omega,by omega⟩];unfold bluC;have q1:∀ y:Nd,(((ns ++ [y]).length:Nat):Int)=(ns.length:Int)+1:=fun y=>by rw[List.length_append];simp
 rw[if_pos ⟨⟨okL_sub h fun y hy=>List.mem_of_mem_take hy,ho.sub (List.take_sublist _ _)⟩,t1,by omega,by omega,by rw[List.length_append,List.length_singleton];omega⟩,bldJ_eq,q1,q1,List.append_assoc,List.singleton_append];refine(setC_at rfl).trans ?_;have q2:∀ y:Nd,(((ns++y :: bldS bs n (ys.take ((ys.length+1) / 2)) ((ns.length:Int)+1)).length:Nat):Int)=(ns.length:Int)+1+((bldS bs n (ys.take ((ys.length+1) / 2)) ((ns.length:Int)+1)).length:Int):=fun y=>by rw[List.length_append,List.length_cons];omega
 rw[if_pos ⟨by omega,by omega,by omega⟩,if_pos ⟨⟨okL_sub h fun y hy=>List.mem_of_mem_drop hy,ho.sub (List.drop_sublist _ _)⟩,t3,by omega,by omega,by rw[List.length_append,List.length_cons];omega⟩,q2,q2,List.append_assoc,List.cons_append]
end
theorem blu_run{n:Nat} {bs:List Bd} {xs:List Int} {ns:List Nd} (h:okL bs xs=true) (ho:okIt bs.length xs) (h1:1<=xs.length) (hn:xs.length<=n+1) (hl:xs.length<=100) (hns:ns.length+2*xs.length<=1000) {ρ:Type} (cont:SV->HL->Option ρ) :
  runF (bluE n) A466s 0 Tryz.f98 (bodyOf Tryz.f98) ρ [one (.sl none tBx bs),one (.sl none (.int .i64) xs),one (.wsl 0 15)] [.arr 72 tNd ns false false] cont=cont (one (.wsl 1 15)) [.dead,.arr 72 tNd (ns++bldS bs (n+1) xs (ns.length:Int)) false true]:=by
 match xs,h,ho,h1,hn,hl,hns with
 | x :: r,h,ho,h1,hn,hl,hns =>
  obtain⟨x0,c,hc,oc⟩:=okL_at h (x:=x) List.mem_cons_self;have hbs:=(okL_iff.1 h).1;have ej:arJ bs (x :: r)=arS bs (bs[x.toNat]?.getD bd0) r:=by rw[arJ_eq];rfl
  obtain⟨ob,_⟩:=arS_ok hbs r oc;have eg:bs[x.toNat]?.getD bd0=c:=by rw[hc];rfl
  rw[gq466,if_pos ⟨h,h1,by omega⟩,if_pos ⟨by rw[List.length_singleton];omega,by rw[List.length_singleton];omega⟩,ej];unfold bldS;rw[eg];generalize hb:arS bs c r=b;rw[hb]at ob;unfold bluM
  by_cases hr:r=[]
  ·subst hr;rw[if_pos rfl];have e1:((([x].length:Nat):Int)==1)=true:=rfl;rw[e1,cond_true];have e2:[x][Int.toNat 0]? = some x:=rfl;rw[e2,Option.bind_some,setC_at rfl]
  ·rw[if_neg hr];have h2:2<=(x :: r).length:=by
    cases r with
    | nil=>exact absurd rfl hr
    | cons y r=>simp
   have e1:((((x :: r).length:Nat):Int)==1)=false:=by
    rw[beq_eq_false_iff_ne];omega
   obtain⟨⟨⟨a1,a2,a3⟩,a4,a5,a6⟩,_⟩:=okBd_iff.1 ob;have s1:=okQd_s8 a1;have s2:=okQd_s8 a2;have s3:=okQd_s8 a3;have s4:=okQd_s8 a4;have s5:=okQd_s8 a5;have s6:=okQd_s8 a6;have q0:=(s8_subq s4 s1).qq (B:=16) (by omega);have q1:=(s8_subq s5 s2).qq (B:=16) (by omega);have q2:=(s8_subq s6 s3).qq (B:=16) (by omega);rw[e1,cond_false,if_pos (okBd_v ob),if_pos ⟨⟨s4,s5,s6⟩,s1,s2,s3⟩];have ek:bluB n cont bs (x :: r) ns (ns ++ [((b,-1,-1,-1):Nd)]) (vQ b.2.1-vQ b.1.1) (vQ b.2.2.1-vQ b.1.2.1) (vQ b.2.2.2-vQ b.1.2.2)=bluS n cont bs (x :: r) ns (ns ++ [((b,-1,-1,-1):Nd)]) (axV (bxV b)):=by
    have hcm:∀ p q:Rat,decide (0<cmpQ p q)=decide (q<p):=fun p q=>decide_eq_decide.2 cmpQ_gt
    have c0:∀ u v w:Rat,cdI 0 u v w=u:=fun u v w=>by rw[cdI_eq];rfl
    have c1:∀ u v w:Rat,cdI 1 u v w=v:=fun u v w=>by rw[cdI_eq];rfl
    have f1:hi3 1 (bxV b)-lo3 1 (bxV b)=vQ b.2.2.1-vQ b.1.2.1:=rfl;have f0:hi3 0 (bxV b)-lo3 0 (bxV b)=vQ b.2.1-vQ b.1.1:=rfl;have f2:hi3 2 (bxV b)-lo3 2 (bxV b)=vQ b.2.2.2-vQ b.1.2.2:=rfl;unfold bluB bluA axV;dsimp only;rw[if_pos (both q1 q0),hcm,f1,f0,f2,c0,c1]
    by_cases d1:vQ b.2.1-vQ b.1.1<vQ b.2.2.1-vQ b.1.2.1
    ·rw[decide_eq_true d1,cond_true,if_pos d1,if_pos (both q2 q1),hcm,f1]
     by_cases d2:vQ b.2.2.1-vQ b.1.2.1<vQ b.2.2.2-vQ b.1.2.2
     ·rw[decide_eq_true d2,cond_true,if_pos d2]
     ·rw[decide_eq_false d2,cond_false,if_neg d2]
    ·rw[decide_eq_false d1,cond_false,if_neg d1,if_pos (both q2 q0),hcm,f0]
     by_cases d2:vQ b.2.1-vQ b.1.1<vQ b.2.2.2-vQ b.1.2.2
     ·rw[decide_eq_true d2,cond_true,if_pos d2]
     ·rw[decide_eq_false d2,cond_false,if_neg d2]
   rw[ek];obtain⟨p,_⟩:=srtP_ok (f:=midV (bs.map bxV) (axV (bxV b))) ho.1;unfold bluS;rw[if_pos ⟨h,rfl,rfl,rfl,hl⟩,srI_eq];dsimp only;rw[bluT_eq (okL_sub h fun y hy=>p.mem_iff.1 hy) (ho.perm p) (by rw[p.length_eq];exact h2) (by rw[p.length_eq];exact hn) (by rw[p.length_eq];exact hl) (by rw[p.length_eq];exact hns)]
noncomputable def bluO1(n:Nat):Orc:=fun ρ args H cont=>match args,H with
 | [.v false [.sl none (.pair (.pair (.pair (.int .i64) (.int .i64)) (.pair (.pair (.int .i64) (.int .i64)) (.pair (.int .i64) (.int .i64)))) (.pair (.pair (.int .i64) (.int .i64)) (.pair (.pair (.int .i64) (.int .i64)) (.pair (.int .i64) (.int .i64))))) bs],.v false [.sl none (.int .i64) xs],.v false [.wsl 0 15]],
   [.arr 72 (.pair (.pair (.pair (.pair (.int .i64) (.int .i64)) (.pair (.pair (.int .i64) (.int .i64)) (.pair (.int .i64) (.int .i64)))) (.pair (.pair (.int .i64) (.int .i64)) (.pair (.pair (.int .i64) (.int .i64)) (.pair (.int .i64) (.int .i64))))) (.pair (.int .i64) (.pair (.int .i64) (.int .i64)))) ns false false] =>
  if(okL bs xs=true/\okIt (List.length bs) xs)/\1<=List.length (α:=Int) xs/\List.length (α:=Int) xs<=n/\List.length (α:=Int) xs<=100/\List.length (α:=Nd) ns+2*List.length (α:=Int) xs<=1000 then cont (one (.wsl 1 15)) [.dead,.arr 72 tNd ((show List Nd from ns)++bldJ bs n xs (List.length (α:=Nd) ns:Int)) false true]else none
 | _,_=>none
theorem orc_blu1{n:Nat} (h:OrcOK NN Tryz.prog 98 (bluO n)):OrcOK NN Tryz.prog 98 (bluO1 (n+1)):=
 OrcOK.of_tale (runF_ok (bluE_ok h) mixT (A:=A466s) (fuel:=0) Tryz.func98 (c:=bodyOf Tryz.f98) (by kernel_rfl) (SumsOK.ofL (ls:=[loopAt Tryz.f98 0,loopAt Tryz.f98 1,loopAt Tryz.f98 2]) (by kernel_rfl) ⟨sumL1 (by kernel_rfl) (sum466o h),sumL1 (by kernel_rfl) (sum466i h),sumL1 (by kernel_rfl) (sum466j h),trivial⟩)) fun ρ args H cont r hr=>by
  unfold bluO1 at hr;split at hr
  ·rename_i bs xs ns;split at hr
   ·rename_i hc;obtain⟨⟨h1,h2⟩,h3,h4,h5,h6⟩:=hc;rw[bldJ_eq]at hr;exact(blu_run h1 h2 h3 h4 h5 h6 cont).trans hr
   ·contradiction
  ·contradiction
theorem orc_blu:∀ n,OrcOK NN Tryz.prog 98 (bluO n)
 | 0=>by
  intro hr;exfalso;unfold bluO at hr;split at hr
  ·split at hr
   ·rename_i hc;omega
   ·contradiction
  ·contradiction
 | n+1=>OrcOK.argc (orc_blu1 (orc_blu n)) fun args H cont r hr=>by
  unfold bluO at hr;split at hr
  ·rename_i nb bs mb xs ns;refine⟨[one (.sl none tBx bs),one (.sl none (.int .i64) xs),one (.wsl 0 15)],hr,fun s hs i hi=>?_,fun G κ vs hv=>sl_plain2 hv⟩;rcases List.mem_cons.1 hs with rfl | hs
   ·cases hi
   ·rcases List.mem_cons.1 hs with rfl | hs
    ·cases hi
    ·rw[List.mem_singleton]at hs;subst hs;simp only [one,SV.ids,aids,List.flatMap_cons,List.flatMap_nil,Atom.ids,List.append_nil,List.mem_singleton]at hi;subst hi;exact Nat.zero_lt_one
  ·contradiction
end Go.Abs
namespace Go.Abs
open Go.Proofs
set_option maxRecDepth 100000
set_option maxHeartbeats 1000000
noncomputable def bsE:Env:={ VZ [(49,bokO),(98,bluO 61)]with M:=Mbl }
theorem bsE_ok:EnvOK NN Tryz.prog bsE:=
 have h:EnvOK NN Tryz.prog (VZ [(49,bokO),(98,bluO 61)]):=VZ_ok (gamC orc_bokS Tryz.call49 (gamC (orc_blu 61) Tryz.call98 (gamN _ _)))
 {T:=h.T,E:=h.E,Γ:=h.Γ,X:=h.X,Y:=h.Y }
def A453:Ann:={ head:=ptOf [(5,[0,4,5],[])],out:=ptOf [(5,[0,2,3,4],[])],res:=[(0,.list tNd)] }
def σ453(bs:List Bd) (xs:List Int) (i:Int):St:=⟨[(0,one (.sl none tBx bs)),(4,one (.wsl 0 1)),(5,one (.int .i64 i))],[.arr 2 (.int .i64) xs false true]⟩
def σ453r(bs:List Bd) (xs:List Int):St:=⟨[(0,one (.sl none tBx bs)),(2,one (.wsl 0 15)),(3,one (.bool false)),(4,one (.wsl 1 1))],[.arr 72 tNd [] false true,.arr 2 (.int .i64) xs false true]⟩
def σ453o(bs:List Bd) (xs:List Int):St:=⟨[(0,one (.sl none tBx bs)),(2,.undef),(3,.undef),(4,one (.wsl 0 1))],[.arr 2 (.int .i64) xs false true]⟩
theorem turn453{ρ:Type} (K:Exit->St->Option ρ) (go:St->Option ρ) (bs:List Bd) (xs:List Int) (i:Int):turnF bsE A453 37 0 0 (loopAt Tryz.f57 0) K go (σ453 bs xs i) =
  bif decide (i<(bs.length:Int))then(if 0<=i then bs[i.toNat]?.bind (fun x=>bif !okBd x then K .ret (σ453r bs xs)else
   if xs.length + [i].length<=70368744177664/\(xs.length + [i].length)*8<=70368744177664 then go (σ453 bs (xs ++ [i]) (IntKind.i64.wrap (i+1)))else none)else none)
  else K (.exit 0) (σ453o bs xs):=by kernel_rfl
theorem loop453{ρ:Type} (K:Exit->St->Option ρ) {bs:List Bd} (hl:bs.length<=1000) :
  itF (turnF bsE A453 37 0 0 (loopAt Tryz.f57 0) K) (fun _=>none) (bs.length+1) (σ453 bs [] 0) =
   bif bs.all okBd then K (.exit 0) (σ453o bs (rngL bs.length))else K .ret (σ453r bs (rngL (badN bs 0))):=by
 have key:=itF_list (T:=turnF bsE A453 37 0 0 (loopAt Tryz.f57 0) K) (xs:=bs) (s:=fun i (_:Unit)=>σ453 bs (rngL i.toNat) i)
  (body:=fun i x st k=>bif !okBd x then K .ret (σ453r bs (rngL i.toNat))else k st) (fin:=fun _=>K (.exit 0) (σ453o bs (rngL bs.length)))
  (fun go st=>by rw[turn453,lst_out,Int.toNat_natCast])
  (fun go i hi st=>by
   rw[turn453,lst_in hi];cases ho:okBd bs[i]
   ·rfl
   ·rw[lst_wrap (by omega) hi,Int.toNat_natCast,Int.toNat_natCast];have h2:(rngL i).length=i:=rngL_len i;rw[if_pos ⟨by rw[h2,List.length_singleton];omega,by rw[h2,List.length_singleton];omega⟩];have e2:rngL i ++ [(i:Int)]=rngL (i+1):=by unfold rngL;rw[List.range_succ,List.map_append];rfl
    rw[e2])
  bs.length 0 () (by omega)
 have e0:σ453 bs [] 0=σ453 bs (rngL (0:Int).toNat) 0:=rfl;rw[e0];refine key.trans ?_;rw[List.drop_zero];have run:∀ (xs:List Bd) (i:Nat),runL (fun(i:Int) x (st:Unit) k=>bif !okBd x then K .ret (σ453r bs (rngL i.toNat))else k st) (fun _=>K (.exit 0) (σ453o bs (rngL bs.length))) xs (i:Int) () =
   bif xs.all okBd then K (.exit 0) (σ453o bs (rngL bs.length))else K .ret (σ453r bs (rngL (badN xs i))):=by
  intro xs
  induction xs with
  | nil=>intro i;rfl
  | cons b r ih =>
   intro i;unfold runL badN;rw[List.all_cons];cases ho:okBd b
   ·rfl
   ·rw[if_pos rfl,Bool.true_and];exact ih (i+1)
 exact run bs 0
noncomputable def S453:Sum:=fun n0 ρ σ K=>match n0,σ with
 | 0,⟨[(0,.v false [.sl none (.pair (.pair (.pair (.int .i64) (.int .i64)) (.pair (.pair (.int .i64) (.int .i64)) (.pair (.int .i64) (.int .i64)))) (.pair (.pair (.int .i64) (.int .i64)) (.pair (.pair (.int .i64) (.int .i64)) (.pair (.int .i64) (.int .i64))))) bs]),(4,.v false [.wsl 0 1]),(5,.v false [.int .i64 i])],
   [.arr 2 (.int .i64) xs false true]⟩ =>
  if i=0/\List.length (α:=Int) xs=0/\(List.length (α:=Bd) bs:Int)<=1000 then bif List.all (α:=Bd) bs okBd then K (.exit 0) (σ453o bs (rngL (List.length (α:=Bd) bs)))else K .ret (σ453r bs (badT bs).2)else none
 | _,_=>none
theorem sum453:SumOK NN Tryz.prog 37 (loopAt Tryz.f57 0) S453:=
 SumOK.of_turns bsE_ok mixT (A:=A453) (SumsOK.none fun _=>rfl) fun n0 ρ σ K r hr=>by
  unfold S453 at hr;split at hr
  ·rename_i bs i xs;split at hr
   ·rename_i hc;obtain⟨rfl,h4,h5⟩:=hc;obtain rfl:=List.length_eq_zero_iff.1 h4;rw[badT_eq]at hr;exact⟨_,(loop453 K (bs:=bs) (by omega)).trans hr⟩
   ·contradiction
  ·contradiction
noncomputable def A453s:Ann:={ A453 with sum:=fun i=>bif Nat.beq i 5 then some S453 else none }
def tupS(L:List Nd) (o:Bool):SV:=.tup [(false,[.sl (some false) tNd L]),(false,[.bool o])]
theorem gq453{ρ:Type} (cont:SV->HL->Option ρ) (bs:List Bd):runF bsE A453s 0 Tryz.f57 (bodyOf Tryz.f57) ρ [one (.sl none tBx bs)] [] cont =
  bif (bs.length:Int)==0 then cont (tupS [] false) []else bif bif false then true else decide (60<(bs.length:Int))then cont (tupS [] false) []else
  if(0:Int)=0/\([]:List Int).length=0/\(bs.length:Int)<=1000 then
   bif bs.all okBd then(if(okL bs (rngL bs.length)=true/\okIt bs.length (rngL bs.length))/\1<=(rngL bs.length).length/\(rngL bs.length).length<=61/\(rngL bs.length).length<=100/\([]:List Nd).length+2*(rngL bs.length).length<=1000 then cont (tupS ([]++bldJ bs 61 (rngL bs.length) (([]:List Nd).length:Int)) true) []else none)
   else cont (tupS [] false) []else none:=by kernel_rfl
theorem bs_run{ρ:Type} (cont:SV->HL->Option ρ) (bs:List Bd):runF bsE A453s 0 Tryz.f57 (bodyOf Tryz.f57) ρ [one (.sl none tBx bs)] [] (fun s H=>cont (plSV tNd s) H)=cont (tupL (btV bs) (btB bs)) []:=by
 rw[gq453]
 by_cases h0:bs.length=0
 ·have e1:((bs.length:Int)==0)=true:=by rw[beq_iff_eq];omega
  have e2:btB bs=false:=by unfold btB;rw[decide_eq_false (by omega)];rfl
  rw[e1,cond_true];unfold btV;rw[e2];rfl
 ·have e1:((bs.length:Int)==0)=false:=by rw[beq_eq_false_iff_ne];omega
  rw[e1,cond_false,cond_false]
  by_cases h1:60<bs.length
  ·have e2:btB bs=false:=by unfold btB;rw[decide_eq_false (p:=bs.length<=60) (by omega),Bool.false_and,Bool.and_false]
   rw[decide_eq_true (by omega),cond_true];unfold btV;rw[e2];rfl
  ·rw[decide_eq_false (by omega),cond_false,if_pos ⟨rfl,rfl,by omega⟩];cases ha:bs.all okBd
   ·have e2:btB bs=false:=by unfold btB;rw[ha,Bool.and_false,Bool.and_false]
    unfold btV;rw[e2];rfl
   ·have e2:btB bs=true:=by unfold btB;rw[ha,decide_eq_true (by omega),decide_eq_true (by omega)];rfl
    have hbs:∀ b∈bs,okBd b=true:=List.all_eq_true.1 ha;have hr:=rngL_ok bs.length;have hrl:=rngL_len bs.length;rw[cond_true,if_pos ⟨⟨okL_iff.2 ⟨hbs,hr.2⟩,hr⟩,by omega,by omega,by omega,by rw[List.length_nil];omega⟩,bldJ_eq];unfold btV;rw[e2];rfl
theorem orc_bs1:OrcOK NN Tryz.prog 57 btO1:=
 OrcOK.of_tale (OrcOK.pl (runF_ok bsE_ok mixT (A:=A453s) (fuel:=0) Tryz.func57 (c:=bodyOf Tryz.f57) (by kernel_rfl) (SumsOK.ofL (ls:=[loopAt Tryz.f57 0]) (by kernel_rfl) ⟨sumL1 (by kernel_rfl) sum453,trivial⟩)) tNd) fun ρ args H cont r hr=>by
  unfold btO1 at hr;split at hr
  ·rename_i bs;rw[btI_eq]at hr;exact(bs_run cont bs).trans hr
  ·contradiction
theorem orc_bs:OrcOK NN Tryz.prog 57 btO:=OrcOK.argc orc_bs1 fun args H cont r hr=>by
  unfold btO at hr;split at hr
  ·rename_i nb bs;refine⟨[one (.sl none tBx bs)],hr,fun s hs i hi=>?_,fun G κ vs hv=>?_⟩
   ·rw[List.mem_singleton]at hs;subst hs;cases hi
   ·obtain⟨v1,r1,e1,h1,h3⟩:=hv;exact⟨v1,r1,e1,sl_plain h1,h3⟩
  ·contradiction
end Go.Abs
namespace Go.Abs
open Go.Proofs
set_option maxRecDepth 100000
set_option maxHeartbeats 1000000
noncomputable def l7Z:Orc:=cR lvE Ash 0 Tryz.f56
theorem l7Z_ok:OrcOK NN Tryz.prog 56 l7Z:=cR_ok lvE_ok rfl Tryz.func56 (by kernel_rfl)
def Mts:Nat->List (Nat × Ty):=fun f=>bif Nat.beq f 57 then [(0,.list tBx)]else []
noncomputable def tksE:Env:={ VZ [(56,l7Z),(57,btO)]with E:=[(72,15)],M:=Mts }
theorem tksE_ok:EnvOK NN Tryz.prog tksE:=
 have h:EnvOK NN Tryz.prog (VZ [(56,l7Z),(57,btO)]):=VZ_ok (gamC l7Z_ok Tryz.call56 (gamC orc_bs Tryz.call57 (gamN _ _)))
 {T:=h.T,E:=fun p hp=>by
   have hp:p∈([(72,15)]:EqTab):=hp;rw[List.mem_singleton]at hp;subst hp;exact eqNd_ok
  Γ:=h.Γ,X:=h.X,Y:=h.Y }
def A424:Ann:={ head:=ptOf [(7,[0,3,4,5,6],[]),(16,[0,3,4,5,8],[]),(24,[0,9,11],[])],out:=ptOf [(7,[0,2,3,4,5],[]),(16,[0,2,4],[]),(24,[2],[])] }
def σ424a(t:List Nd) (n:Int) (i:Int) (st:List Bd × List Bool):St:=⟨[(0,one (.sl none tNd t)),(3,one (.int .i64 n)),(4,one (.wsl 0 12)),(5,one (.wsl 1 1)),(6,one (.int .i64 i))],hp455 st.1 st.2⟩
def σ424b(t:List Nd) (n:Int) (st:List Bd × List Bool):St:=⟨[(0,one (.sl none tNd t)),(2,.undef),(3,one (.int .i64 n)),(4,one (.wsl 0 12)),(5,one (.wsl 1 1))],hp455 st.1 st.2⟩
def σ424r(t:List Nd) (n:Int) (st:List Bd × List Bool):St:=⟨[(0,one (.sl none tNd t)),(2,one (.bool false)),(3,one (.int .i64 n)),(4,one (.wsl 0 12)),(5,one (.wsl 1 1))],hp455 st.1 st.2⟩
section
variable {ρ:Type} (K:Exit->St->Option ρ) (go:St->Option ρ) (t u:List Nd) (n i:Int)
def ldT(f:Nd->Option ρ):Option ρ:=if 0<=i then t[i.toNat]?.bind f else none
def bd424(ret:List Bd × List Bool->Option ρ) (st:List Bd × List Bool) (k:List Bd × List Bool->Option ρ) (ld:(Nd->Option ρ)->Option ρ) (d:Nd):Option ρ:=bif decide (0<=d.2.1)then k st else ld fun d=>bif decide (0<=d.2.2.2)then
 (bif !bif true then decide (d.2.2.2<n)else false then ret st else(if 0<=d.2.2.2/\d.2.2.2<(st.2.length:Int)then st.2[0+Int.toNat d.2.2.2]?.bind (fun q=>bif bif false then true else q then ret st else
  (if 0<=d.2.2.2/\d.2.2.2<(st.2.length:Int)then st.2[0+Int.toNat d.2.2.2]?.bind (fun _=>ld fun e=>if 0<=d.2.2.2/\d.2.2.2<(st.1.length:Int)then st.1[0+Int.toNat d.2.2.2]?.bind (fun _ =>
   k (st.1.set (0+Int.toNat d.2.2.2) e.1,st.2.set (0+Int.toNat d.2.2.2) true))else none)else none))else none))else ret st
theorem turn424a(st:List Bd × List Bool):turnF tksE A424 106 0 0 (loopAt Tryz.f26 0) K go (σ424a t n i st) =
  bif decide (i<(t.length:Int))then ldT t i (bd424 n (fun st=>K .ret (σ424r t n st)) st (fun st=>go (σ424a t n (IntKind.i64.wrap (i+1)) st)) (ldT t i))
  else K (.exit 0) (σ424b t n st):=by kernel_rfl
def σ424i(t:List Nd) (n:Int) (o:List Bd) (s:List Bool) (i:Int) (_:Unit):St:=⟨[(0,one (.sl none tNd t)),(3,one (.int .i64 n)),(4,one (.wsl 0 12)),(5,one (.wsl 1 1)),(8,one (.int .i64 i))],hp455 o s⟩
def σ424c(t:List Nd) (o:List Bd):St:=⟨[(0,one (.sl none tNd t)),(2,.undef),(4,one (.wsl 0 12))],[.arr 46 tBx o false true]⟩
def σ424d(t:List Nd) (o:List Bd):St:=⟨[(0,one (.sl none tNd t)),(2,one (.bool false)),(4,one (.wsl 0 12))],[.arr 46 tBx o false true]⟩
theorem turn424b(o:List Bd) (s:List Bool):turnF tksE A424 106 0 0 (loopAt Tryz.f26 1) K go (σ424i t n o s i ()) =
  bif decide (i<n)then(if 0<=i/\i<(s.length:Int)then s[0+i.toNat]?.bind (fun q=>bif !q then K .ret (σ424d t o)else go (σ424i t n o s (IntKind.i64.wrap (i+1)) ()))else none)
  else K (.exit 2) (σ424c t o):=by kernel_rfl
def σ424e(t u:List Nd) (i:Int) (_:Unit):St:=⟨[(0,one (.sl none tNd t)),(9,one (.sl none tNd u)),(11,one (.int .i64 i))],[]⟩
theorem turn424c:turnF tksE A424 106 0 0 (loopAt Tryz.f26 2) K go (σ424e t u i ()) =
  bif decide (i<(t.length:Int))then ldT u i (fun x=>ldT t i fun y=>bif !ndQ x y then K .ret ⟨[(2,one (.bool false))],[]⟩else go (σ424e t u (IntKind.i64.wrap (i+1)) ()))else K (.exit 4) ⟨[(2,.undef)],[]⟩:=by kernel_rfl
end
theorem ldT_at{ρ:Type} {t:List Nd} {i:Nat} (h:i<t.length) (f:Nd->Option ρ):ldT t (i:Int) f=f t[i]:=by
 unfold ldT;rw[if_pos (by omega),Int.toNat_natCast,List.getElem?_eq_getElem h,Option.bind_some]
theorem bd424_eq{ρ:Type} {n:Int} {ret:List Bd × List Bool->Option ρ} {d:Nd} {st:List Bd × List Bool} {k:List Bd × List Bool->Option ρ} {ld:(Nd->Option ρ)->Option ρ} (hld:∀ f,ld f=f d) (h:lfI n st) :
  bd424 n ret st k ld d=if skS d=true then k st else if lfBad n d st then ret st else k (lfUpd d st):=by
 have hf:¬ (false=true):=by decide
 unfold bd424;obtain⟨h1,h2⟩:=h
 by_cases c:0<=d.2.1
 ·rw[show skS d=true from decide_eq_true c,if_pos rfl,decide_eq_true c,cond_true]
 ·rw[show skS d=false from decide_eq_false c,if_neg hf,decide_eq_false c,cond_false,hld]
  by_cases c1:0<=d.2.2.2
  ·rw[decide_eq_true c1,cond_true,cond_true]
   by_cases c2:d.2.2.2<n
   ·have hs:d.2.2.2.toNat<st.2.length:=by omega
    have ho:d.2.2.2.toNat<st.1.length:=by omega
    have g1:0<=d.2.2.2/\d.2.2.2<(st.2.length:Int):=⟨by omega,by omega⟩;have g2:0<=d.2.2.2/\d.2.2.2<(st.1.length:Int):=⟨by omega,by omega⟩;rw[decide_eq_true c2,Bool.not_true,cond_false,if_pos g1,Nat.zero_add,List.getElem?_eq_getElem hs,Option.bind_some,cond_false,if_pos g1,Option.bind_some,hld,if_pos g2,List.getElem?_eq_getElem ho,Option.bind_some];cases hq:st.2[d.2.2.2.toNat]
    ·rw[cond_false,if_neg (show ¬ lfBad n d st from by
      rintro (e | e | e)
      ·omega
      ·omega
      ·rw[List.getElem?_eq_getElem hs,Option.getD_some,hq]at e;cases e)]
     rfl
    ·rw[cond_true,if_pos (show lfBad n d st from .inr (.inr (by rw[List.getElem?_eq_getElem hs,Option.getD_some,hq])))]
   ·rw[decide_eq_false c2,Bool.not_false,cond_true,if_pos (show lfBad n d st from .inr (.inl (by omega)))]
  ·rw[decide_eq_false c1,cond_false,if_pos (show lfBad n d st from .inl (by omega))]
theorem loop424a{ρ:Type} (K:Exit->St->Option ρ) {t:List Nd} {n:Int} {st:List Bd × List Bool} (hl:t.length<4611686018427387904) (h:lfI n st) :
  itF (turnF tksE A424 106 0 0 (loopAt Tryz.f26 0) K) (fun _=>none) (t.length+1) (σ424a t n 0 st)=if(lfX n skS t st).1=true then K (.exit 0) (σ424b t n (lfX n skS t st).2)else K .ret (σ424r t n (lfX n skS t st).2):=by
 have key:=itF_list0 (T:=turnF tksE A424 106 0 0 (loopAt Tryz.f26 0) K) (xs:=t) (s:=fun i st=>σ424a t n i st) (body:=fun _ d st k=>bd424 n (fun st=>K .ret (σ424r t n st)) st k (fun f=>f d) d) (fin:=fun st=>K (.exit 0) (σ424b t n st))
  (fun go st=>by rw[turn424a,lst_out])
  (fun go i hi st=>by
   rw[turn424a,decide_eq_true (by omega),cond_true,ldT_at hi,lst_wrap hl hi];have e:(ldT t (i:Int):(Nd->Option ρ)->Option ρ)=fun f=>f t[i]:=by funext f;exact ldT_at hi f
   rw[e]) st
 rw[key];exact runL_lf (sk:=skS) (fin:=fun st=>K (.exit 0) (σ424b t n st)) (ret:=fun st=>K .ret (σ424r t n st)) (fun i d st k h=>bd424_eq (fun f=>rfl) h) t 0 st h
theorem loop424b{ρ:Type} (K:Exit->St->Option ρ) (t:List Nd) {o:List Bd} {s:List Bool} (hl:s.length<4611686018427387904) :
  itF (turnF tksE A424 106 0 0 (loopAt Tryz.f26 1) K) (fun _=>none) (s.length+1) (σ424i t (s.length:Int) o s 0 ())=bif s.all id then K (.exit 2) (σ424c t o)else K .ret (σ424d t o):=by
 have key:=itF_list0 (T:=turnF tksE A424 106 0 0 (loopAt Tryz.f26 1) K) (xs:=s) (s:=fun i st=>σ424i t (s.length:Int) o s i st) (body:=fun _ q st k=>bif !q then K .ret (σ424d t o)else k st) (fin:=fun st=>K (.exit 2) (σ424c t o))
  (fun go st=>by rw[turn424b,lst_out])
  (fun go i hi st=>by rw[turn424b,decide_eq_true (by omega),cond_true,if_pos ⟨by omega,by omega⟩,Nat.zero_add,Int.toNat_natCast,List.getElem?_eq_getElem hi,Option.bind_some,lst_wrap hl hi]) ()
 rw[key];have run:∀ (xs:List Bool) (i:Int),runL (fun(_:Int) q (st:Unit) k=>bif !q then K .ret (σ424d t o)else k st) (fun _=>K (.exit 2) (σ424c t o)) xs i ()=bif xs.all id then K (.exit 2) (σ424c t o)else K .ret (σ424d t o):=by
  intro xs
  induction xs with
  | nil=>intro i;rfl
  | cons b r ih =>
   intro i;unfold runL;rw[List.all_cons];cases b
   ·rfl
   ·exact ih (i+1)
 exact run s 0
theorem loop424c{ρ:Type} (K:Exit->St->Option ρ) {t u:List Nd} (hl:t.length<4611686018427387904) (hu:u.length=t.length) :
  itF (turnF tksE A424 106 0 0 (loopAt Tryz.f26 2) K) (fun _=>none) (u.length+1) (σ424e t u 0 ())=bif eqNs u t then K (.exit 4) ⟨[(2,.undef)],[]⟩else K .ret ⟨[(2,one (.bool false))],[]⟩:=by
 have key:=itF_list0 (T:=turnF tksE A424 106 0 0 (loopAt Tryz.f26 2) K) (xs:=u) (s:=fun i st=>σ424e t u i st) (body:=fun i x (st:Unit) k=>t[i.toNat]?.bind fun y=>bif !ndQ x y then K .ret ⟨[(2,one (.bool false))],[]⟩else k st) (fin:=fun _=>K (.exit 4) ⟨[(2,.undef)],[]⟩)
  (fun go st=>by rw[turn424c,hu,lst_out])
  (fun go i hi st=>by
   rw[turn424c,decide_eq_true (by omega),cond_true,ldT_at hi,ldT_at (by omega),lst_wrap (by omega) hi,Int.toNat_natCast,List.getElem?_eq_getElem (by omega),Option.bind_some]) ()
 rw[key];exact runL_eq u t 0 (fun j=>by rw[Nat.zero_add]) hu
end Go.Abs
namespace Go.Abs
open Go.Proofs
set_option maxRecDepth 100000
set_option maxHeartbeats 2000000
noncomputable def S424a:Sum:=fun n0 ρ σ K=>match n0,σ with
 | 0,⟨[(0,.v false [.sl none (.pair (.pair (.pair (.pair (.int .i64) (.int .i64)) (.pair (.pair (.int .i64) (.int .i64)) (.pair (.int .i64) (.int .i64)))) (.pair (.pair (.int .i64) (.int .i64)) (.pair (.pair (.int .i64) (.int .i64)) (.pair (.int .i64) (.int .i64))))) (.pair (.int .i64) (.pair (.int .i64) (.int .i64)))) t]),(3,.v false [.int .i64 n]),(4,.v false [.wsl 0 12]),(5,.v false [.wsl 1 1]),(6,.v false [.int .i64 i])],
   [.arr 46 (.pair (.pair (.pair (.int .i64) (.int .i64)) (.pair (.pair (.int .i64) (.int .i64)) (.pair (.int .i64) (.int .i64)))) (.pair (.pair (.int .i64) (.int .i64)) (.pair (.pair (.int .i64) (.int .i64)) (.pair (.int .i64) (.int .i64))))) o false true,.arr 4 .bool s false true]⟩ =>
  if i=0/\(List.length (α:=Bd) o:Int)=n/\(List.length (α:=Bool) s:Int)=n/\(List.length (α:=Nd) t:Int)<=1000 then bif (lxI n skS t (o,s)).1 then K (.exit 0) (σ424b t n (lxI n skS t (o,s)).2)else K .ret (σ424r t n (lxI n skS t (o,s)).2)else none
 | _,_=>none
noncomputable def S424b:Sum:=fun n0 ρ σ K=>match n0,σ with
 | 0,⟨[(0,.v false [.sl none (.pair (.pair (.pair (.pair (.int .i64) (.int .i64)) (.pair (.pair (.int .i64) (.int .i64)) (.pair (.int .i64) (.int .i64)))) (.pair (.pair (.int .i64) (.int .i64)) (.pair (.pair (.int .i64) (.int .i64)) (.pair (.int .i64) (.int .i64))))) (.pair (.int .i64) (.pair (.int .i64) (.int .i64)))) t]),(3,.v false [.int .i64 n]),(4,.v false [.wsl 0 12]),(5,.v false [.wsl 1 1]),(8,.v false [.int .i64 i])],
   [.arr 46 (.pair (.pair (.pair (.int .i64) (.int .i64)) (.pair (.pair (.int .i64) (.int .i64)) (.pair (.int .i64) (.int .i64)))) (.pair (.pair (.int .i64) (.int .i64)) (.pair (.pair (.int .i64) (.int .i64)) (.pair (.int .i64) (.int .i64))))) o false true,.arr 4 .bool s false true]⟩ =>
  if i=0/\n=(List.length (α:=Bool) s:Int)/\(List.length (α:=Bool) s:Int)<=1000 then bif List.all (α:=Bool) s id then K (.exit 2) (σ424c t o)else K .ret (σ424d t o)else none
 | _,_=>none
noncomputable def S424c:Sum:=fun n0 ρ σ K=>match n0,σ with
 | 0,⟨[(0,.v false [.sl none (.pair (.pair (.pair (.pair (.int .i64) (.int .i64)) (.pair (.pair (.int .i64) (.int .i64)) (.pair (.int .i64) (.int .i64)))) (.pair (.pair (.int .i64) (.int .i64)) (.pair (.pair (.int .i64) (.int .i64)) (.pair (.int .i64) (.int .i64))))) (.pair (.int .i64) (.pair (.int .i64) (.int .i64)))) t]),
   (9,.v false [.sl none (.pair (.pair (.pair (.pair (.int .i64) (.int .i64)) (.pair (.pair (.int .i64) (.int .i64)) (.pair (.int .i64) (.int .i64)))) (.pair (.pair (.int .i64) (.int .i64)) (.pair (.pair (.int .i64) (.int .i64)) (.pair (.int .i64) (.int .i64))))) (.pair (.int .i64) (.pair (.int .i64) (.int .i64)))) u]),(11,.v false [.int .i64 i])],[]⟩ =>
  if i=0/\(List.length (α:=Nd) u:Int)=(List.length (α:=Nd) t:Int)/\(List.length (α:=Nd) t:Int)<=2000000 then bif eqNs u t then K (.exit 4) ⟨[(2,.undef)],[]⟩else K .ret ⟨[(2,one (.bool false))],[]⟩else none
 | _,_=>none
theorem sum424a:SumOK NN Tryz.prog 106 (loopAt Tryz.f26 0) S424a:=
 SumOK.of_turns tksE_ok mixT (A:=A424) (SumsOK.none fun _=>rfl) fun n0 ρ σ K r hr=>by
  unfold S424a at hr;split at hr
  ·rename_i t n i o s;split at hr
   ·rename_i hc;obtain⟨rfl,h3,h4,h5⟩:=hc;refine⟨_,(loop424a K (t:=t) (n:=n) (st:=(o,s)) (by omega) ⟨h3,h4⟩).trans ?_⟩;rw[lxI_eq]at hr;rw[<- hr];cases (lfX n skS t (o,s)).1 <;> rfl
   ·contradiction
  ·contradiction
theorem sum424b:SumOK NN Tryz.prog 106 (loopAt Tryz.f26 1) S424b:=
 SumOK.of_turns tksE_ok mixT (A:=A424) (SumsOK.none fun _=>rfl) fun n0 ρ σ K r hr=>by
  unfold S424b at hr;split at hr
  ·rename_i t n i o s;split at hr
   ·rename_i hc;obtain⟨rfl,rfl,h3⟩:=hc;exact⟨_,(loop424b K t (o:=o) (s:=s) (by omega)).trans hr⟩
   ·contradiction
  ·contradiction
theorem sum424c:SumOK NN Tryz.prog 106 (loopAt Tryz.f26 2) S424c:=
 SumOK.of_turns tksE_ok mixT (A:=A424) (SumsOK.none fun _=>rfl) fun n0 ρ σ K r hr=>by
  unfold S424c at hr;split at hr
  ·rename_i t u i;split at hr
   ·rename_i hc;obtain⟨rfl,h3,h4⟩:=hc;exact⟨_,(loop424c K (t:=t) (u:=u) (by omega) (by omega)).trans hr⟩
   ·contradiction
  ·contradiction
noncomputable def A424s:Ann:={ A424 with sum:=fun i=>bif Nat.beq i 7 then some S424a else bif Nat.beq i 16 then some S424b else bif Nat.beq i 24 then some S424c else none }
section
variable {ρ:Type} (cont:SV->HL->Option ρ) (t:List Nd) (n:Int)
noncomputable def tsB(o:List Bd):Option ρ:=bif !btB o then cont (one (.bool false)) []else bif bif false then true else((btI o).length:Int) != (t.length:Int)then cont (one (.bool false)) []else
 if(0:Int)=0/\((btI o).length:Int)=(t.length:Int)/\(t.length:Int)<=2000000 then(bif eqNs (btI o) t then cont (one (.bool true)) []else cont (one (.bool false)) [])else none
noncomputable def tsD(p:Bool × (List Bd × List Bool)):Option ρ:=bif p.1 then(if(0:Int)=0/\n=(p.2.2.length:Int)/\(p.2.2.length:Int)<=1000 then bif p.2.2.all id then tsB cont t p.2.1 else cont (one (.bool false)) []else none)else cont (one (.bool false)) []
noncomputable def tsQ:Option ρ:=if 0<=n/\n<=n/\n<=70368744177664/\n*((96:Nat):Int)<=70368744177664 then(if 0<=n/\n<=n/\n<=70368744177664/\n*((1:Nat):Int)<=70368744177664 then
 (if(0:Int)=0/\((List.replicate n.toNat bd0).length:Int)=n/\((List.replicate n.toNat false).length:Int)=n/\(t.length:Int)<=1000 then tsD cont t n (lxI n skS t (List.replicate n.toNat bd0,List.replicate n.toNat false))else none)else none)else none
theorem gq424:runF tksE A424s 0 Tryz.f26 (bodyOf Tryz.f26) ρ [one (.sl none tNd t)] [] cont =
  bif Int.tmod (t.length:Int) 2==0 then cont (one (.bool false)) []else bif bif false then true else decide (120<=(t.length:Int))then cont (one (.bool false)) []else tsQ cont t (nT t):=by kernel_rfl
end
theorem eqNs_comm(a b:List Nd):eqNs a b=eqNs b a:=by
 cases h1:eqNs a b
 ·cases h2:eqNs b a
  ·rfl
  ·rw[eqNs_iff.1 h2,eqNs_iff.2 rfl]at h1;cases h1
 ·rw[eqNs_iff.1 h1,eqNs_iff.2 rfl]
theorem tsB_eq{ρ:Type} (cont:SV->HL->Option ρ) {t:List Nd} {L:List Bd} (hl:t.length<=2000000):tsB cont t L=cont (one (.bool (btB L&&eqNs t (btV L)))) []:=by
 unfold tsB;rw[btI_eq];cases hb:btB L
 ·rfl
 ·rw[Bool.true_and,Bool.not_true,cond_false,cond_false]
  by_cases e:(btV L).length=t.length
  ·have e1:(((btV L).length:Int) != (t.length:Int))=false:=by rw[bne_eq_false_iff_eq];omega
   rw[e1,cond_false,if_pos ⟨rfl,by omega,by omega⟩,eqNs_comm];cases eqNs t (btV L) <;> rfl
  ·have e1:(((btV L).length:Int) != (t.length:Int))=true:=by rw[bne_iff_ne];omega
   rw[e1,cond_true];cases hq:eqNs t (btV L)
   ·rfl
   ·exact absurd (by rw[<- eqNs_iff.1 hq]) e
theorem ts_run{ρ:Type} (cont:SV->HL->Option ρ) {t:List Nd} (hl:t.length<=2000000):runF tksE A424s 0 Tryz.f26 (bodyOf Tryz.f26) ρ [one (.sl none tNd t)] [] cont=cont (one (.bool (tkI t))) []:=by
 rw[gq424,tmod2,nT_eq (by omega),tkI_eq,tok_parts];unfold lvP
 by_cases h0:t.length % 2=0
 ·rw[decide_eq_true h0,cond_true,if_neg (by omega)]
 ·rw[decide_eq_false h0,cond_false,cond_false]
  by_cases h1:120<=t.length
  ·rw[decide_eq_true (by omega),cond_true,if_neg (by omega)]
  ·rw[decide_eq_false (by omega),cond_false,if_pos ⟨by omega,by omega⟩];unfold tsQ lvG;rw[if_pos ⟨by omega,by omega,by omega,by omega⟩,if_pos ⟨by omega,by omega,by omega,by omega⟩,if_pos ⟨rfl,by rw[List.length_replicate,Int.toNat_natCast],by rw[List.length_replicate,Int.toNat_natCast],by omega⟩,Int.toNat_natCast,lxI_eq,lfX_G];have hI:lfI (((t.length+1) / 2:Nat):Int) (List.replicate ((t.length+1) / 2) bd0,List.replicate ((t.length+1) / 2) false):=⟨by rw[List.length_replicate],by rw[List.length_replicate]⟩;have hJ:=(lfX_I (sk:=skS) t hI).2;revert hJ;generalize lfX (((t.length+1) / 2:Nat):Int) skS t (List.replicate ((t.length+1) / 2) bd0,List.replicate ((t.length+1) / 2) false)=p;intro hJ;obtain⟨q,o,s⟩:=p;have hJ':(s.length:Int)=(((t.length+1) / 2:Nat):Int):=hJ;unfold tsD;cases q
   ·rfl
   ·dsimp only;rw[cond_true,if_pos ⟨rfl,hJ'.symm,by omega⟩,if_pos rfl];dsimp only;cases hs:s.all id
    ·rw[cond_false,if_neg (by decide)]
    ·rw[cond_true,if_pos rfl,tsB_eq cont hl]
theorem orc_ts1:OrcOK NN Tryz.prog 26 tkO1:=
 OrcOK.of_tale (runF_ok tksE_ok mixT (A:=A424s) (fuel:=0) Tryz.func26 (c:=bodyOf Tryz.f26) (by kernel_rfl) (SumsOK.ofL (ls:=[loopAt Tryz.f26 0,loopAt Tryz.f26 1,loopAt Tryz.f26 2]) (by kernel_rfl) ⟨sumL1 (by kernel_rfl) sum424a,sumL1 (by kernel_rfl) sum424b,sumL1 (by kernel_rfl) sum424c,trivial⟩)) fun ρ args H cont r hr=>by
  unfold tkO1 at hr;split at hr
  ·rename_i t;split at hr
   ·rename_i hc;exact(ts_run cont (t:=t) hc).trans hr
   ·contradiction
  ·contradiction
theorem orc_ts:OrcOK NN Tryz.prog 26 tkO:=OrcOK.argc orc_ts1 fun args H cont r hr=>by
  unfold tkO at hr;split at hr
  ·rename_i nb t;refine⟨[one (.sl none tNd t)],hr,fun s hs i hi=>?_,fun G κ vs hv=>?_⟩
   ·rw[List.mem_singleton]at hs;subst hs;cases hi
   ·obtain⟨v1,r1,e1,h1,h3⟩:=hv;exact⟨v1,r1,e1,sl_plain h1,h3⟩
  ·contradiction
end Go.Abs

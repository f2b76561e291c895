/-
 A PART OF THE PROOF of ClI (texts TreI TreJ SrtS SrtT TreK SrtU TreL TreP): the claim itself stands in the last text. No conditions beside those of the given row.
-/
import Derived.Test.YtjefeldkonejcaaGreatTreD
import Derived.Shelf.Sort.Plain
import Derived.Test.YtjefeldkonejcaaGreatDrwA
set_option linter.unusedVariables false
set_option linter.unnecessarySimpa false
set_option linter.unusedSimpArgs false
namespace Go.Abs
open Go.Proofs
set_option maxRecDepth 100000
noncomputable def blkJ(bs:List bxT.den) (k:Int) (xs:List Int) (n s a:Int):List Int × Nat:=blkA (ltI bs k) s.toNat n.toNat (n.toNat+1) xs a.toNat
noncomputable def blkK(bs:List bxT.den) (k:Int) (xs:List Int) (n s a:Int):List Int × Nat:=blkB (ltI bs k) s.toNat n.toNat (n.toNat+1) xs a.toNat
noncomputable def S272a:Sum:=fun n0 ρ σ K=>match n0,σ with
 | 4,⟨[(1,.v false [.int .i64 n]),(2,.v false [.ptr 4 0]),(4,.v false [.int .i64 s]),(5,.v false [.int .i64 a]),(6,.v false [.int .i64 b])],
   [.var [.sl none (.pair (.pair (.num 0) (.pair (.num 0) (.num 0))) (.pair (.num 0) (.pair (.num 0) (.num 0)))) bs],.var [.wsl 3 1],.var [.int .i64 k],.arr 3 (.int .i64) xs false false,.var [.fn 143 [(0,0),(1,0),(2,0)],.bfn 162 3 0 3]]⟩ =>
  if(okI bs xs=true/\isAx k)/\1<=s/\s<=1000/\0<=a/\a<=n/\b=a+s/\n<=(List.length (α:=Int) xs:Int)/\(List.length (α:=Int) xs:Int)<=1000 then K (.exit 0) (s272o bs k (blkJ bs k xs n s a).1 n s ((blkJ bs k xs n s a).2:Nat))else none
 | _,_=>none
theorem sum272a:SumOK NN Tryz.prog 57 (loopAt Tryz.f180 0) S272a:=
 SumOK.of_turns stbE_ok mixT (A:=A272) (SumsOK.none fun _=>rfl) fun n0 ρ σ K r h=>by
  unfold S272a at h;split at h
  ·rename_i n s a b bs k xs;split at h
   ·rename_i hc;obtain⟨⟨h1,h2⟩,h3,h4,h5,h6,rfl,h8,h9⟩:=hc;obtain⟨n',rfl⟩:=Int.eq_ofNat_of_zero_le (show 0<=n by omega);obtain⟨s',rfl⟩:=Int.eq_ofNat_of_zero_le (show 0<=s by omega);obtain⟨a',rfl⟩:=Int.eq_ofNat_of_zero_le h5;exact⟨_,(loop272a K h2 (s:=s') (n:=n') (by omega) (by omega) n' (xs:=xs) (a:=a') h1 (by omega) (by omega) (by omega) (by omega)).trans h⟩
   ·contradiction
  ·contradiction
noncomputable def S272c:Sum:=fun n0 ρ σ K=>match n0,σ with
 | 4,⟨[(1,.v false [.int .i64 n]),(2,.v false [.ptr 4 0]),(4,.v false [.int .i64 s]),(5,.v false [.int .i64 a]),(6,.v false [.int .i64 b])],
   [.var [.sl none (.pair (.pair (.num 0) (.pair (.num 0) (.num 0))) (.pair (.num 0) (.pair (.num 0) (.num 0)))) bs],.var [.wsl 3 1],.var [.int .i64 k],.arr 3 (.int .i64) xs false false,.var [.fn 143 [(0,0),(1,0),(2,0)],.bfn 162 3 0 3]]⟩ =>
  if(okI bs xs=true/\isAx k)/\1<=s/\s<=1000/\0<=a/\a<=n/\b=a+2*s/\n<=(List.length (α:=Int) xs:Int)/\(List.length (α:=Int) xs:Int)<=1000 then K (.exit 4) (s272o bs k (blkK bs k xs n s a).1 n s ((blkK bs k xs n s a).2:Nat))else none
 | _,_=>none
theorem sum272c:SumOK NN Tryz.prog 57 (loopAt Tryz.f180 2) S272c:=
 SumOK.of_turns stbE_ok mixT (A:=A272) (SumsOK.none fun _=>rfl) fun n0 ρ σ K r h=>by
  unfold S272c at h;split at h
  ·rename_i n s a b bs k xs;split at h
   ·rename_i hc;obtain⟨⟨h1,h2⟩,h3,h4,h5,h6,rfl,h8,h9⟩:=hc;obtain⟨n',rfl⟩:=Int.eq_ofNat_of_zero_le (show 0<=n by omega);obtain⟨s',rfl⟩:=Int.eq_ofNat_of_zero_le (show 0<=s by omega);obtain⟨a',rfl⟩:=Int.eq_ofNat_of_zero_le h5;exact⟨_,(loop272c K h2 (s:=s') (n:=n') (by omega) (by omega) n' (xs:=xs) (a:=a') h1 (by omega) (by omega) (by omega) (by omega)).trans h⟩
   ·contradiction
  ·contradiction
noncomputable def A272m:Ann:={ A272 with sum:=fun i=>bif Nat.beq i 10 then some S272c else none }
section
variable {ρ:Type} (K:Exit->St->Option ρ) (go:St->Option ρ) (bs:List bxT.den) (k:Int) (xs:List Int) (n s:Int)
noncomputable def midC(f:List Int × Nat->Option ρ):Option ρ:=if(okI bs xs=true/\isAx k)/\1<=s/\s<=1000/\0<=(0:Int)/\(0:Int)<=n/\IntKind.i64.wrap (2*s)=0+2*s/\n<=(xs.length:Int)/\(xs.length:Int)<=1000 then f (blkK bs k xs n s 0)else none
theorem turn272b:turnF stbE A272m 57 4 0 (loopAt Tryz.f180 1) K go (s272m bs k xs n s)=bif decide (s<n)then midC bs k xs n s (fun p=>bif decide (IntKind.i64.wrap ((p.2:Nat)+s)<n)then syC 1000 bs k p.1 (p.2:Nat) (IntKind.i64.wrap ((p.2:Nat)+s)) n (fun ys=>go (s272m bs k ys n (IntKind.i64.wrap (s*2))))else go (s272m bs k p.1 n (IntKind.i64.wrap (s*2))))else K (.exit 2) ⟨[],hpS bs k xs⟩:=by kernel_rfl
end
theorem blkD_perm{lt:Int->Int->Bool} {s n:Nat} (hs:1<=s) {p:List Int × Nat} (h:n<=p.1.length):(blkD lt s n p).Perm p.1:=by
 unfold blkD;split
 ·exact symF_perm 1000 (by omega) (by omega) h
 ·exact List.Perm.refl _
theorem loop272b{ρ:Type} (K:Exit->St->Option ρ) {bs:List bxT.den} {k:Int} (hk:isAx k) {n:Nat}:∀ (t:Nat) {xs:List Int} {s:Nat},okI bs xs=true->xs.length<=1000->n<=xs.length->1<=s->s<=2000->n-s<=t ->
  itF (turnF stbE A272m 57 4 0 (loopAt Tryz.f180 1) K) (fun _=>none) (t+1) (s272m bs k xs n s)=K (.exit 2) ⟨[],hpS bs k (blkC (ltI bs k) n (t+1) xs s)⟩
 | t,xs,s,h,hl,hn,hs,hs2,ht=>by
  show turnF _ _ _ _ _ _ _ _ _=_;unfold blkC;rw[turn272b]
  by_cases c:s<n
  ·have w1:IntKind.i64.wrap (2*(s:Int))=((2*s:Nat):Int):=by rw[IntKind.wrap_i64];omega
   have w2:IntKind.i64.wrap ((s:Int)*2)=((2*s:Nat):Int):=by rw[IntKind.wrap_i64];omega
   have hp:=blkB_ok (lt:=ltI bs k) hs (n+1) (xs:=xs) (a:=0) hn (by omega);have e:blkK bs k xs (n:Int) (s:Int) 0=blkB (ltI bs k) s n (n+1) xs 0:=rfl;rw[if_pos c,decide_eq_true (by omega),cond_true];unfold midC;rw[if_pos ⟨⟨h,hk⟩,by omega,by omega,by omega,by omega,by rw[w1];omega,by omega,by omega⟩,e,w2];have hq:=blkD_perm (lt:=ltI bs k) (n:=n) hs (p:=blkB (ltI bs k) s n (n+1) xs 0) (by rw[hp.1.length_eq];exact hn);have hpq:=hq.trans hp.1
   match t,ht with
   | 0,ht=>omega
   | t+1,ht =>
    refine Eq.trans ?_ (loop272b K hk (n:=n) t (xs:=blkD (ltI bs k) s n (blkB (ltI bs k) s n (n+1) xs 0)) (s:=2*s) (okI_perm h hpq) (by rw[hpq.length_eq];exact hl) (by rw[hpq.length_eq];exact hn) (by omega) (by omega) (by omega));unfold blkD;revert hp;generalize blkB (ltI bs k) s n (n+1) xs 0=p;intro hp;have w3:IntKind.i64.wrap ((p.2:Int)+(s:Int))=((p.2+s:Nat):Int):=by rw[IntKind.wrap_i64];omega
    show (bif decide (IntKind.i64.wrap ((p.2:Int)+(s:Int))<(n:Int))then syC 1000 bs k p.1 (p.2:Nat) (IntKind.i64.wrap ((p.2:Int)+(s:Int))) n _ else _)=_;rw[w3]
    by_cases d:p.2+s<n
    ·rw[if_pos d,decide_eq_true (by omega),cond_true,syC_eq (okI_perm h hp.1) hk (by rw[hp.1.length_eq];exact hl) (by omega) d (by rw[hp.1.length_eq];exact hn) (by omega)]
    ·rw[if_neg d,decide_eq_false (by omega),cond_false]
  ·rw[if_neg c,decide_eq_false (by omega),cond_false]
noncomputable def blkI(bs:List bxT.den) (k:Int) (xs:List Int) (n s:Int):List Int:=blkC (ltI bs k) n.toNat (n.toNat+1) xs s.toNat
noncomputable def S272b:Sum:=fun n0 ρ σ K=>match n0,σ with
 | 4,⟨[(1,.v false [.int .i64 n]),(2,.v false [.ptr 4 0]),(4,.v false [.int .i64 s])],
   [.var [.sl none (.pair (.pair (.num 0) (.pair (.num 0) (.num 0))) (.pair (.num 0) (.pair (.num 0) (.num 0)))) bs],.var [.wsl 3 1],.var [.int .i64 k],.arr 3 (.int .i64) xs false false,.var [.fn 143 [(0,0),(1,0),(2,0)],.bfn 162 3 0 3]]⟩ =>
  if(okI bs xs=true/\isAx k)/\1<=s/\s<=1000/\0<=n/\n<=(List.length (α:=Int) xs:Int)/\(List.length (α:=Int) xs:Int)<=1000 then K (.exit 2) ⟨[],hpS bs k (blkI bs k xs n s)⟩else none
 | _,_=>none
theorem sum272b:SumOK NN Tryz.prog 57 (loopAt Tryz.f180 1) S272b:=
 SumOK.of_turns stbE_ok mixT (A:=A272m) (SumsOK.ofL (ls:=[loopAt Tryz.f180 2]) (by kernel_rfl) ⟨sumL1 (by kernel_rfl) sum272c,trivial⟩) fun n0 ρ σ K r h=>by
  unfold S272b at h;split at h
  ·rename_i n s bs k xs;split at h
   ·rename_i hc;obtain⟨⟨h1,h2⟩,h3,h4,h5,h6,h7⟩:=hc;obtain⟨n',rfl⟩:=Int.eq_ofNat_of_zero_le h5;obtain⟨s',rfl⟩:=Int.eq_ofNat_of_zero_le (show 0<=s by omega);exact⟨_,(loop272b K h2 (n:=n') n' (xs:=xs) (s:=s') h1 (by omega) (by omega) (by omega) (by omega) (by omega)).trans h⟩
   ·contradiction
  ·contradiction
noncomputable def A272s:Ann:={ A272 with sum:=fun i=>bif Nat.beq i 3 then some S272a else bif Nat.beq i 8 then some S272b else bif Nat.beq i 10 then some S272c else none }
def stbF(lt:Int->Int->Bool) (n:Nat) (xs:List Int):List Int:=blkC lt n (n+1) (insX lt (blkA lt 20 n (n+1) xs 0).1 (blkA lt 20 n (n+1) xs 0).2 n) 20
noncomputable def stbI(bs:List bxT.den) (k:Int) (xs:List Int) (n:Int):List Int:=stbF (ltI bs k) n.toNat xs
noncomputable def stbO:Orc:=fun ρ args H cont=>match args,H with
 | [.v true [.fn 143 [(0,0),(1,0),(2,0)],.bfn 162 3 0 3],.v false [.int .i64 n]],[.var [.sl none (.pair (.pair (.num 0) (.pair (.num 0) (.num 0))) (.pair (.num 0) (.pair (.num 0) (.num 0)))) bs],.var [.wsl 3 1],.var [.int .i64 k],.arr 3 (.int .i64) xs false false] =>
  if(okI bs xs=true/\isAx k)/\0<=n/\n<=(List.length (α:=Int) xs:Int)/\(List.length (α:=Int) xs:Int)<=1000 then cont (.tup []) (hpS bs k (stbI bs k xs n))else none
 | _,_=>none
section
variable {ρ:Type} (bs:List bxT.den) (k:Int) (xs:List Int) (n:Int)
noncomputable def begC(f:List Int × Nat->Option ρ):Option ρ:=if(okI bs xs=true/\isAx k)/\1<=(20:Int)/\(20:Int)<=1000/\0<=(0:Int)/\(0:Int)<=n/\(20:Int)=0+20/\n<=(xs.length:Int)/\(xs.length:Int)<=1000 then f (blkJ bs k xs n 20 0)else none
noncomputable def endC(f:List Int->Option ρ):Option ρ:=if(okI bs xs=true/\isAx k)/\1<=(20:Int)/\(20:Int)<=1000/\0<=n/\n<=(xs.length:Int)/\(xs.length:Int)<=1000 then f (blkI bs k xs n 20)else none
end
theorem gq272{ρ:Type} (cont:SV->HL->Option ρ) (bs:List bxT.den) (k:Int) (xs:List Int) (n:Int):runF stbE A272s 0 Tryz.f180 (bodyOf Tryz.f180) ρ [.v true dtA,one (.int .i64 n)] (hpS bs k xs) cont =
  begC bs k xs n (fun p=>insC bs k p.1 (p.2:Nat) n (fun ys=>endC bs k ys n (fun zs=>cont (.tup []) (hpS bs k zs)))):=by kernel_rfl
theorem orc_stb:OrcOK NN Tryz.prog 180 stbO:=
 OrcOK.of_tale (runF_ok stbE_ok mixT (A:=A272s) (fuel:=0) Tryz.func180 (c:=bodyOf Tryz.f180) (by kernel_rfl) (SumsOK.ofL (ls:=[loopAt Tryz.f180 0,loopAt Tryz.f180 1,loopAt Tryz.f180 2]) (by kernel_rfl) ⟨sumL1 (by kernel_rfl) sum272a,sumL1 (by kernel_rfl) sum272b,sumL1 (by kernel_rfl) sum272c,trivial⟩)) fun ρ args H cont r hr=>by
  unfold stbO at hr;split at hr
  ·rename_i n bs k xs;split at hr
   ·rename_i hc;obtain⟨⟨h,hk⟩,h1,h2,h3⟩:=hc;obtain⟨n',rfl⟩:=Int.eq_ofNat_of_zero_le h1;refine(gq272 cont bs k xs n').trans (Eq.trans ?_ hr);have hp:=blkA_ok (lt:=ltI bs k) (s:=20) (n:=n') (n'+1) (xs:=xs) (a:=0) (by omega) (by omega);have e:blkJ bs k xs (n':Int) 20 0=blkA (ltI bs k) 20 n' (n'+1) xs 0:=rfl;unfold begC stbI stbF;rw[if_pos ⟨⟨h,hk⟩,by omega,by omega,by omega,by omega,by omega,by omega,by omega⟩,e,Int.toNat_natCast];revert hp;generalize blkA (ltI bs k) 20 n' (n'+1) xs 0=p;intro hp;show insC bs k p.1 (p.2:Nat) n' _=_;have hq:=insX_perm (lt:=ltI bs k) (xs:=p.1) (a:=p.2) (b:=n') hp.2 (by rw[hp.1.length_eq];omega);have hpq:=hq.trans hp.1;rw[insC_eq (okI_perm h hp.1) hk (by rw[hp.1.length_eq];omega) hp.2 (by rw[hp.1.length_eq];omega)];unfold endC blkI;rw[if_pos ⟨⟨okI_perm h hpq,hk⟩,by omega,by omega,by omega,by rw[hpq.length_eq];omega,by rw[hpq.length_eq];omega⟩,Int.toNat_natCast];rfl
   ·contradiction
  ·contradiction
end Go.Abs
namespace Go.Abs
open Go.Proofs
set_option maxRecDepth 100000
noncomputable def stsE:Env:=VZ [(180,stbO)]
theorem stsE_ok:EnvOK NN Tryz.prog stsE:=VZ_ok (gamC orc_stb Tryz.call180 (gamN _ _))
def A237:Ann:={ head:=ptOf [],out:=ptOf [] }
noncomputable def stsO:Orc:=fun ρ args H cont=>match args,H with
 | [.ifc 164 (.wsl 0 1),.v false [.fn 143 [(1,0),(2,0),(3,0)]]],[.arr 3 (.int .i64) xs false false,.var [.sl none (.pair (.pair (.num 0) (.pair (.num 0) (.num 0))) (.pair (.num 0) (.pair (.num 0) (.num 0)))) bs],.var [.wsl 0 1],.var [.int .i64 k]] =>
  if(okI bs xs=true/\isAx k)/\2<=(List.length (α:=Int) xs)/\(List.length (α:=Int) xs:Int)<=1000 then cont (.tup []) [.arr 3 (.int .i64) (stbI bs k xs (List.length (α:=Int) xs)) false false,.var [.sl none bxT bs],.var [.wsl 0 1],.var [.int .i64 k]]else none
 | _,_=>none
theorem gq237{ρ:Type} (cont:SV->HL->Option ρ) (bs:List bxT.den) (k x y:Int) (zs:List Int):runF stsE A237 0 Tryz.f142 (bodyOf Tryz.f142) ρ [.ifc 164 (.wsl 0 1),one (.fn 143 [(1,0),(2,0),(3,0)])] [.arr 3 (.int .i64) (x :: y :: zs) false false,.var [.sl none bxT bs],.var [.wsl 0 1],.var [.int .i64 k]] cont =
  if(okI bs (x :: y :: zs)=true/\isAx k)/\0<=((x :: y :: zs).length:Int)/\((x :: y :: zs).length:Int)<=((x :: y :: zs).length:Int)/\((x :: y :: zs).length:Int)<=1000 then
   cont (.tup []) [.arr 3 (.int .i64) (stbI bs k (x :: y :: zs) ((x :: y :: zs).length:Int)) false false,.var [.sl none bxT bs],.var [.wsl 0 1],.var [.int .i64 k]]else none:=by kernel_rfl
theorem orc_sts:OrcOK NN Tryz.prog 142 stsO:=
 OrcOK.of_tale (runF_ok stsE_ok mixT (A:=A237) (fuel:=0) Tryz.func142 (c:=bodyOf Tryz.f142) (by kernel_rfl) (SumsOK.none fun _=>rfl)) fun ρ args H cont r hr=>by
  unfold stsO at hr;split at hr
  ·rename_i xs bs k;split at hr
   ·rename_i hc;obtain⟨h1,h2,h3⟩:=hc
    match xs,h1,h2,h3,hr with
    | x :: y :: zs,h1,h2,h3,hr =>
     refine(gq237 cont bs k x y zs).trans ?_;rw[if_pos ⟨h1,by omega,by omega,h3⟩];exact hr
   ·contradiction
  ·contradiction
end Go.Abs
namespace Go.Abs
def Cross(lt:Int->Int->Bool) (R:Int->Int->Prop) (xs:List Int) (a m b:Nat):Prop:=∀ x∈seg xs a m,∀ y∈seg xs m b,(lt y x=true ↔ R y x)/\(R x y\/R y x)
theorem lt2_eq{lt:Int->Int->Bool} {xs:List Int} {i j:Nat} (hi:i<xs.length) (hj:j<xs.length):lt2 lt xs i j=lt xs[i] xs[j]:=by
 unfold lt2;rw[List.getElem?_eq_getElem hi,List.getElem?_eq_getElem hj]
theorem Cross.at{lt:Int->Int->Bool} {R:Int->Int->Prop} {xs:List Int} {a m b:Nat} (h:Cross lt R xs a m b) (hb:b<=xs.length) {i j:Nat} (h1:a<=i) (h2:i<m) (h3:m<=j) (h4:j<b) :
  (lt2 lt xs j i=true->R (xs[j]'(by omega)) (xs[i]'(by omega)))/\(lt2 lt xs j i=false->R (xs[i]'(by omega)) (xs[j]'(by omega))):=by
 have c:=h (xs[i]'(by omega)) (seg_mem.2 ⟨i,h1,h2,List.getElem?_eq_getElem (by omega)⟩) (xs[j]'(by omega)) (seg_mem.2 ⟨j,h3,h4,List.getElem?_eq_getElem (by omega)⟩);rw[lt2_eq (by omega) (by omega)];refine⟨fun e=>c.1.1 e,fun e=>?_⟩;rcases c.2 with k | k
 ·exact k
 ·rw[c.1.2 k]at e;cases e
theorem symF_done{lt:Int->Int->Bool} {R:Int->Int->Prop} (tr:∀ x y z,R x y->R y z->R x z):∀ (n:Nat) {xs:List Int} {a m b:Nat},a<m->m<b->b<=xs.length->b-a<=n ->
  (seg xs a m).Pairwise R->(seg xs m b).Pairwise R->Cross lt R xs a m b->Done R xs a b (symF lt n xs a m b)
 | 0,xs,a,m,b,h1,h2,h3,h4,pl,pr,hc=>by omega
 | n+1,xs,a,m,b,h1,h2,h3,h4,pl,pr,hc=>by
  unfold symF
  by_cases c1:m-a=1
  ·rw[if_pos c1];have hb:=bsr_ok (fun h=>lt2 lt xs h a) (b-m) m b (by omega) (by omega);revert hb;generalize bsr (fun h=>lt2 lt xs h a) (b-m) m b=i;intro hb;obtain⟨b1,b2,b3,b4⟩:=hb;have e:m=a+1:=by omega
   subst e;refine put_right tr b1 b2 h3 pr (List.getElem?_eq_getElem (by omega)) ?_ ?_
   ·rcases b3 with b3 | b3
    ·exact .inl b3
    ·by_cases g:i=a+1
     ·exact .inl g
     ·exact .inr ⟨_,List.getElem?_eq_getElem (by omega),(hc.at h3 (i:=a) (j:=i-1) (Nat.le_refl _) (by omega) (by omega) (by omega)).1 b3⟩
   ·by_cases g:i=b
    ·exact .inl g
    ·rcases b4 with b4 | b4
     ·exact .inl b4
     ·exact .inr ⟨_,List.getElem?_eq_getElem (by omega),(hc.at h3 (i:=a) (j:=i) (Nat.le_refl _) (by omega) (by omega) (by omega)).2 b4⟩
  ·rw[if_neg c1]
   by_cases c2:b-m=1
   ·rw[if_pos c2];have hb:=bsr_ok (fun h=>!lt2 lt xs m h) (m-a) a m (by omega) (by omega);revert hb;generalize bsr (fun h=>!lt2 lt xs m h) (m-a) a m=i;intro hb;obtain⟨b1,b2,b3,b4⟩:=hb;have e:b=m+1:=by omega
    subst e;refine put_left tr b1 b2 h3 pl (List.getElem?_eq_getElem (by omega)) ?_ ?_
    ·by_cases g:i=a
     ·exact .inl g
     ·rcases b3 with b3 | b3
      ·exact .inl b3
      ·exact .inr ⟨_,List.getElem?_eq_getElem (by omega),(hc.at h3 (i:=i-1) (j:=m) (by omega) (by omega) (by omega) (by omega)).2 (by simpa using b3)⟩
    ·by_cases g:i=m
     ·exact .inl g
     ·rcases b4 with b4 | b4
      ·exact .inl b4
      ·exact .inr ⟨_,List.getElem?_eq_getElem (by omega),(hc.at h3 (i:=i) (j:=m) (by omega) (by omega) (by omega) (by omega)).1 (by simpa using b4)⟩
   ·rw[if_neg c2];dsimp only;have hs:=syS_rng lt xs h1 h2;have hr:=sy_rng h1 h2;have hb:=bsr_ok (fun c=>!lt2 lt xs ((a+b) / 2+m-1-c) c) (syHi a m b-syLo a m b) (syLo a m b) (syHi a m b) hr.2.1 (Nat.le_refl _);have e:bsr (fun c=>!lt2 lt xs ((a+b) / 2+m-1-c) c) (syHi a m b-syLo a m b) (syLo a m b) (syHi a m b)=syS lt xs a m b:=rfl;rw[e]at hb;have hlo:syLo a m b=a\/syLo a m b=(a+b) / 2+m-b:=by unfold syLo;split <;> simp
    have hhi:syHi a m b=m\/syHi a m b=(a+b) / 2:=by unfold syHi;split <;> simp
    revert hs hb;generalize syS lt xs a m b=s;intro hs hb;obtain⟨b1,b2,b3,b4⟩:=hb;have er:(if s<m/\m<(a+b) / 2+m-s then rotL xs s m ((a+b) / 2+m-s)else xs)=rotL xs s m ((a+b) / 2+m-s):=by
     split
     ·rfl
     ·rename_i g;exact(rot_id (by omega) (by omega) (by omega) (by omega)).symm
    rw[er];have hm:s+((a+b) / 2+m-s-m)=(a+b) / 2:=by omega
    generalize he:(a+b) / 2+m-s=e' at *;obtain⟨r1,r2,r3,r4⟩:=rot_segs (xs:=xs) (a:=a) (s:=s) (m:=m) (e:=e') (b:=b) (by omega) (by omega) (by omega) (by omega) h3;rw[hm]at r2 r3;have hl:=rot_len (xs:=xs) (a:=s) (m:=m) (b:=e') (by omega) (by omega) (by omega);have al:seg xs a m=seg xs a s++seg xs s m:=seg_app (by omega) (by omega);have ar:seg xs m b=seg xs m e'++seg xs e' b:=seg_app (by omega) (by omega);have pl':=pl;have pr':=pr;rw[al,List.pairwise_append]at pl';rw[ar,List.pairwise_append]at pr';have d1:Done R (rotL xs s m e') a ((a+b) / 2) (if a<s/\s<(a+b) / 2 then symF lt n (rotL xs s m e') a s ((a+b) / 2)else rotL xs s m e'):=by
     split
     ·rename_i g;refine symF_done tr n g.1 g.2 (by omega) (by omega) (by rw[r1];exact pl'.1) (by rw[r2];exact pr'.1) ?_;intro x hx y hy;rw[r1]at hx;rw[r2]at hy;exact hc x (by rw[al];exact List.mem_append_left _ hx) y (by rw[ar];exact List.mem_append_left _ hy)
     ·rename_i g;refine Done.refl ?_
      by_cases q:s=a
      ·rw[show seg (rotL xs s m e') a ((a+b) / 2)=seg (rotL xs s m e') s ((a+b) / 2)by rw[q],r2];exact pr'.1
      ·rw[show seg (rotL xs s m e') a ((a+b) / 2)=seg (rotL xs s m e') a s by rw[show (a+b) / 2=s by omega],r1];exact pl'.1
    revert d1;generalize (if a<s/\s<(a+b) / 2 then symF lt n (rotL xs s m e') a s ((a+b) / 2)else rotL xs s m e')=zs;intro d1;have z1:seg zs ((a+b) / 2) e'=seg xs s m:=(d1.same (.inr (Nat.le_refl _))).trans r3;have z2:seg zs e' b=seg xs e' b:=(d1.same (.inr (by omega))).trans r4;have d2:Done R zs ((a+b) / 2) b (if(a+b) / 2<e'/\e'<b then symF lt n zs ((a+b) / 2) e' b else zs):=by
     have hz:=d1.len;split
     ·rename_i g;refine symF_done tr n g.1 g.2 (by omega) (by omega) (by rw[z1];exact pl'.2.1) (by rw[z2];exact pr'.2.1) ?_;intro x hx y hy;rw[z1]at hx;rw[z2]at hy;exact hc x (by rw[al];exact List.mem_append_right _ hx) y (by rw[ar];exact List.mem_append_right _ hy)
     ·rename_i g;refine Done.refl ?_
      by_cases q:e'=b
      ·rw[show seg zs ((a+b) / 2) b=seg zs ((a+b) / 2) e' by rw[q],z1];exact pl'.2.1
      ·rw[show seg zs ((a+b) / 2) b=seg zs e' b by rw[show (a+b) / 2=e' by omega],z2];exact pr'.2.1
    refine merge_step tr (s:=s) (m:=m) (e:=e') (by omega) (by omega) (by omega) (by omega) h3 pl pr ?_ ?_ (by rw[hm];exact d1) (by rw[hm];exact d2)
    ·by_cases g:s=a
     ·exact .inl g
     ·by_cases g2:e'=b
      ·exact .inr (.inl g2)
      ·rcases b3 with b3 | b3
       ·omega
       ·refine .inr (.inr ⟨_,_,List.getElem?_eq_getElem (by omega),List.getElem?_eq_getElem (by omega),(hc.at h3 (i:=s-1) (j:=e') (by omega) (by omega) (by omega) (by omega)).2 ?_⟩);rw[show (a+b) / 2+m-1-(s-1)=e' by omega]at b3
        simpa using b3
    ·by_cases g:e'=m
     ·exact .inl g
     ·by_cases g2:s=m
      ·exact .inr (.inl g2)
      ·rcases b4 with b4 | b4
       ·omega
       ·refine .inr (.inr ⟨_,_,List.getElem?_eq_getElem (by omega),List.getElem?_eq_getElem (by omega),(hc.at h3 (i:=s) (j:=e'-1) (by omega) (by omega) (by omega) (by omega)).1 ?_⟩);rw[show (a+b) / 2+m-1-s=e'-1 by omega]at b4
        simpa using b4
end Go.Abs
namespace Go.Abs
structure Mid (R:Int->Int->Prop) (xs ys:List Int) (i j:Nat):Prop where
 perm:(seg ys i j).Perm (seg xs i j)
 pw:(seg ys i j).Pairwise R
inductive Chn (s n:Nat) (P:Nat->Nat->Prop):Nat->Prop
 | last {a:Nat}:a<=n->n<=a+s->P a n->Chn s n P a
 | more {a:Nat}:a+s<n->P a (a+s)->Chn s n P (a+s)->Chn s n P a
theorem Chn.le{s n:Nat} {P:Nat->Nat->Prop} {a:Nat} (h:Chn s n P a):a<=n:=by
 cases h <;> omega
theorem Chn.mono{s n:Nat} {P Q:Nat->Nat->Prop} {a:Nat} (h:Chn s n P a):(∀ i j,a<=i->P i j->Q i j)->Chn s n Q a:=by
 induction h with
 | last h1 h2 h3=>exact fun f=>.last h1 h2 (f _ _ (Nat.le_refl _) h3)
 | more h1 h2 h3 ih=>exact fun f=>.more h1 (f _ _ (Nat.le_refl _) h2) (ih fun i j hi=>f i j (by omega))
theorem Mid.nil{R:Int->Int->Prop} {xs ys:List Int} {i:Nat}:Mid R xs ys i i:=⟨by rw[seg_nil (Nat.le_refl _),seg_nil (Nat.le_refl _)],by rw[seg_nil (Nat.le_refl _)];exact List.Pairwise.nil⟩
theorem Mid.same{R:Int->Int->Prop} {xs ys zs:List Int} {i j:Nat} (h:Mid R xs ys i j) (e:seg zs i j=seg ys i j):Mid R xs zs i j:=⟨by rw[e];exact h.perm,by rw[e];exact h.pw⟩
theorem Mid.merge{lt:Int->Int->Bool} {R:Int->Int->Prop} (tr:∀ x y z,R x y->R y z->R x z) {xs ys:List Int} {a m b N:Nat} (hA:Agree lt R xs 0 N) (hN:b<=N) (hl:ys.length=xs.length) (h1:a<m) (h2:m<b) (h3:b<=xs.length) (h4:b-a<=1000) (l:Mid R xs ys a m) (r:Mid R xs ys m b) :
  Done R ys a b (symF lt 1000 ys a m b)/\Mid R xs (symF lt 1000 ys a m b) a b:=by
 have d:Done R ys a b (symF lt 1000 ys a m b):=by
  refine symF_done tr 1000 h1 h2 (by omega) h4 l.pw r.pw fun x hx y hy=>?_
  obtain⟨i,i1,i2,ix⟩:=seg_mem.1 (l.perm.mem_iff.1 hx);obtain⟨j,j1,j2,jy⟩:=seg_mem.1 (r.perm.mem_iff.1 hy);exact hA i j x y (Nat.zero_le _) (by omega) (by omega) ix jy
 refine⟨d,d.perm.trans ?_,d.pw⟩;rw[seg_app (xs:=ys) (j:=m) (by omega) (by omega),seg_app (xs:=xs) (j:=m) (by omega) (by omega)];exact l.perm.append r.perm
theorem blkB_chn{lt:Int->Int->Bool} {R:Int->Int->Prop} (tr:∀ x y z,R x y->R y z->R x z) {xs:List Int} {s n:Nat} (hs:1<=s) (hA:Agree lt R xs 0 n) (hn:n<=xs.length) (hl:n<=1000):∀ (t:Nat) {ys:List Int} {a:Nat},ys.length=xs.length->Chn s n (Mid R xs ys) a->n-a<=t ->
  (blkD lt s n (blkB lt s n (t+1) ys a)).length=ys.length/\(∀ u,u<a->(blkD lt s n (blkB lt s n (t+1) ys a))[u]? = ys[u]?)/\(∀ u,n<=u->(blkD lt s n (blkB lt s n (t+1) ys a))[u]? = ys[u]?)/\Chn (2*s) n (Mid R xs (blkD lt s n (blkB lt s n (t+1) ys a))) a
 | t,ys,a,hy,h,ht=>by
  unfold blkB;have hle:=h.le
  by_cases c:a+2*s<=n
  ·rw[if_pos c]
   match t,ht with
   | 0,ht=>omega
   | t+1,ht =>
    have hm:Mid R xs ys a (a+s)/\Mid R xs ys (a+s) (a+2*s)/\(n=a+2*s\/Chn s n (Mid R xs ys) (a+2*s)):=by
     cases h with
     | last h1 h2 h3=>omega
     | more h1 h2 h3 =>
      cases h3 with
      | last k1 k2 k3=>exact⟨h2,by rw[show a+2*s=n by omega];exact k3,.inl (by omega)⟩
      | more k1 k2 k3=>exact⟨h2,by rw[show a+2*s=a+s+s by omega];exact k2,.inr (by rw[show a+2*s=a+s+s by omega];exact k3)⟩
    obtain⟨m1,m2,m3⟩:=hm;obtain⟨d,md⟩:=Mid.merge tr hA c hy (by omega) (by omega) (by omega) (by omega) m1 m2;have hc:Chn s n (Mid R xs (symF lt 1000 ys a (a+s) (a+2*s))) (a+2*s):=by
     rcases m3 with e | e
     ·exact .last c (by omega) (by rw[<- e];exact Mid.nil)
     ·exact e.mono fun i j hi hm=>hm.same (d.same (.inr hi))
    obtain⟨g1,g2,g3,g4⟩:=blkB_chn tr hs hA hn hl t (ys:=symF lt 1000 ys a (a+s) (a+2*s)) (a:=a+2*s) (by rw[d.len];exact hy) hc (by omega);refine⟨g1.trans d.len,fun u hu=>(g2 u (by omega)).trans (d.low u hu),fun u hu=>(g3 u hu).trans (d.high u (by omega)),?_⟩;have mz:=md.same (zs:=blkD lt s n (blkB lt s n (t+1) (symF lt 1000 ys a (a+s) (a+2*s)) (a+2*s))) (seg_eq' fun u h1 h2=>g2 u h2)
    by_cases q:a+2*s<n
    ·exact .more q mz g4
    ·exact .last hle (by omega) (by rw[show n=a+2*s by omega]at mz ⊢;exact mz)
  ·rw[if_neg c];unfold blkD;dsimp only
   by_cases q:a+s<n
   ·rw[if_pos q];have hm:Mid R xs ys a (a+s)/\Mid R xs ys (a+s) n:=by
     cases h with
     | last h1 h2 h3=>omega
     | more h1 h2 h3 =>
      cases h3 with
      | last k1 k2 k3=>exact⟨h2,k3⟩
      | more k1 k2 k3=>omega
    obtain⟨d,md⟩:=Mid.merge tr hA (Nat.le_refl _) hy (by omega) q hn (by omega) hm.1 hm.2;exact⟨d.len,d.low,d.high,.last hle (by omega) md⟩
   ·rw[if_neg q];cases h with
    | last h1 h2 h3=>exact⟨rfl,fun _ _=>rfl,fun _ _=>rfl,.last h1 (by omega) h3⟩
    | more h1 h2 h3=>omega
theorem blkC_mid{lt:Int->Int->Bool} {R:Int->Int->Prop} (tr:∀ x y z,R x y->R y z->R x z) {xs:List Int} {n:Nat} (hA:Agree lt R xs 0 n) (hn:n<=xs.length) (hl:n<=1000):∀ (t:Nat) {ys:List Int} {s:Nat},1<=s->ys.length=xs.length->Chn s n (Mid R xs ys) 0->n-s<=t ->
  (blkC lt n (t+1) ys s).length=ys.length/\(∀ u,n<=u->(blkC lt n (t+1) ys s)[u]? = ys[u]?)/\Mid R xs (blkC lt n (t+1) ys s) 0 n
 | t,ys,s,hs,hy,h,ht=>by
  unfold blkC
  by_cases c:s<n
  ·rw[if_pos c]
   match t,ht with
   | 0,ht=>omega
   | t+1,ht =>
    obtain⟨g1,g2,g3,g4⟩:=blkB_chn tr hs hA hn hl n (ys:=ys) (a:=0) hy h (by omega);obtain⟨k1,k2,k3⟩:=blkC_mid tr hA hn hl t (ys:=blkD lt s n (blkB lt s n (n+1) ys 0)) (s:=2*s) (by omega) (by rw[g1];exact hy) g4 (by omega);exact⟨k1.trans g1,fun u hu=>(k2 u hu).trans (g3 u hu),k3⟩
  ·rw[if_neg c];cases h with
   | last h1 h2 h3=>exact⟨rfl,fun _ _=>rfl,h3⟩
   | more h1 h2 h3=>omega
theorem insX_done{lt:Int->Int->Bool} {R:Int->Int->Prop} (tr:∀ x y z,R x y->R y z->R x z) {xs ys:List Int} {a b n:Nat} (hA:Agree lt R xs 0 n) (hb:b<=n) (hn:n<=ys.length) (h:a<b) (e:∀ u,a<=u->ys[u]? = xs[u]?):Done R ys a b (insX lt ys a b)/\Mid R xs (insX lt ys a b) a b:=by
 have hB:Agree lt R ys a b:=fun s t x y h1 h2 h3 hx hy=>hA s t x y (Nat.zero_le _) h2 (by omega) (by rw[<- e s h1];exact hx) (by rw[<- e t (by omega)];exact hy)
 have d:=insN_done tr (xs:=ys) (a:=a) (b:=b) (by omega) hB (b-a-1) (by omega);rw[show a+1+(b-a-1)=b by omega]at d;refine⟨d,?_,d.pw⟩;have:=d.perm;rw[seg_eq' (xs:=ys) (ys:=xs) (i:=a) (j:=b) fun u h1 h2=>e u h1]at this;exact this
theorem blkA_chn{lt:Int->Int->Bool} {R:Int->Int->Prop} (tr:∀ x y z,R x y->R y z->R x z) {xs:List Int} {s n:Nat} (hs:1<=s) (hA:Agree lt R xs 0 n) (hn:n<=xs.length):∀ (t:Nat) {ys:List Int} {a:Nat},ys.length=xs.length->(∀ u,a<=u->ys[u]? = xs[u]?)->a<=n->n-a<=t ->
  (insX lt (blkA lt s n (t+1) ys a).1 (blkA lt s n (t+1) ys a).2 n).length=ys.length/\(∀ u,u<a->(insX lt (blkA lt s n (t+1) ys a).1 (blkA lt s n (t+1) ys a).2 n)[u]? = ys[u]?) /\
  (∀ u,n<=u->(insX lt (blkA lt s n (t+1) ys a).1 (blkA lt s n (t+1) ys a).2 n)[u]? = xs[u]?)/\Chn s n (Mid R xs (insX lt (blkA lt s n (t+1) ys a).1 (blkA lt s n (t+1) ys a).2 n)) a
 | t,ys,a,hy,e,ha,ht=>by
  unfold blkA
  by_cases c:a+s<=n
  ·rw[if_pos c]
   match t,ht with
   | 0,ht=>omega
   | t+1,ht =>
    obtain⟨d,md⟩:=insX_done tr (a:=a) (b:=a+s) hA c (by omega) (by omega) e;obtain⟨g1,g2,g3,g4⟩:=blkA_chn tr hs hA hn t (ys:=insX lt ys a (a+s)) (a:=a+s) (by rw[d.len];exact hy) (fun u hu=>(d.high u hu).trans (e u (by omega))) c (by omega);refine⟨g1.trans d.len,fun u hu=>(g2 u (by omega)).trans (d.low u hu),g3,?_⟩;have mz:=md.same (zs:=insX lt (blkA lt s n (t+1) (insX lt ys a (a+s)) (a+s)).1 (blkA lt s n (t+1) (insX lt ys a (a+s)) (a+s)).2 n) (seg_eq' fun u h1 h2=>g2 u h2)
    by_cases q:a+s<n
    ·exact .more q mz g4
    ·exact .last ha (by omega) (by rw[show n=a+s by omega]at mz ⊢;exact mz)
  ·rw[if_neg c];dsimp only
   by_cases q:a<n
   ·obtain⟨d,md⟩:=insX_done tr (a:=a) (b:=n) hA (Nat.le_refl _) (by omega) q e;exact⟨d.len,d.low,fun u hu=>(d.high u hu).trans (e u (by omega)),.last ha (by omega) md⟩
   ·have ex:insX lt ys a n=ys:=by unfold insX;rw[show n-a-1=0 by omega];rfl
    rw[ex];exact⟨rfl,fun _ _=>rfl,fun u hu=>e u (by omega),.last ha (by omega) (by rw[show a=n by omega];exact Mid.nil)⟩
theorem stbF_mid{lt:Int->Int->Bool} {R:Int->Int->Prop} (tr:∀ x y z,R x y->R y z->R x z) {xs:List Int} {n:Nat} (hA:Agree lt R xs 0 n) (hn:n<=xs.length) (hl:n<=1000):Mid R xs (stbF lt n xs) 0 n:=by
 obtain⟨g1,g2,g3,g4⟩:=blkA_chn tr (s:=20) (by omega) hA hn n (ys:=xs) (a:=0) rfl (fun _ _=>rfl) (Nat.zero_le _) (by omega);exact(blkC_mid tr hA hn hl n (s:=20) (by omega) g1 g4 (by omega)).2.2
end Go.Abs
namespace Go.Abs
open Go.Proofs
set_option maxRecDepth 100000
def mnQ(a b:Rat):Rat:=bif decide (0<cmpQ a b)then b else a
def mxQ(a b:Rat):Rat:=bif decide (0<cmpQ a b)then a else b
noncomputable def mmO:Orc:=fun ρ args H cont=>match args,H with
 | [.v true [.num 0 (some a)],.v true [.num 0 (some b)]],[]=>if(szQ a&&szQ b)=true then cont (.tup [(true,[.num 0 (some (mnQ a b))]),(true,[.num 0 (some (mxQ a b))])]) []else none
 | _,_=>none
theorem gq267{ρ:Type} (cont:SV->HL->Option ρ) (a b:Rat):runF lsE Ash 20 Tryz.f89 (bodyOf Tryz.f89) ρ [.v true [.num 0 (some a)],.v true [.num 0 (some b)]] [] cont =
  if(szQ a&&szQ b)=true then bif decide (0<cmpQ a b)then cont (.tup [(true,[.num 0 (some b)]),(true,[.num 0 (some a)])]) []else cont (.tup [(true,[.num 0 (some a)]),(true,[.num 0 (some b)])]) []else none:=by kernel_rfl
theorem orc_mm:OrcOK NN Tryz.prog 89 mmO:=
 OrcOK.of_tale (runF_ok lsE_ok mixT (A:=Ash) (fuel:=20) Tryz.func89 (c:=bodyOf Tryz.f89) (by kernel_rfl) (SumsOK.none fun _=>rfl)) fun ρ args H cont r hr=>by
  unfold mmO at hr;split at hr
  ·rename_i a b;refine(gq267 cont a b).trans ?_;rw[<- hr];unfold mnQ mxQ;cases decide (0<cmpQ a b) <;> rfl
  ·contradiction
noncomputable def wiE:Env:=VZ [(89,mmO)]
theorem wiE_ok:EnvOK NN Tryz.prog wiE:=VZ_ok (gamC orc_mm Tryz.call89 (gamN _ _))
def A472:Ann:={ head:=ptOf [(2,[2,3,4,6],[])],out:=ptOf [(2,[2,4],[])],shut:=true }
noncomputable def wiO:Orc:=fun ρ args H cont=>match args,H with
 | [.v true [.num 0 (some a0),.num 0 (some a1),.num 0 (some a2),.num 0 (some a3),.num 0 (some a4),.num 0 (some a5)],.v true [.num 0 (some b0),.num 0 (some b1),.num 0 (some b2),.num 0 (some b3),.num 0 (some b4),.num 0 (some b5)]],[]=>if(szQ a0&&szQ b0)=true/\(szQ a1&&szQ b1)=true/\(szQ a2&&szQ b2)=true/\(szQ a3&&szQ b3)=true/\(szQ a4&&szQ b4)=true/\(szQ a5&&szQ b5)=true then cont (.v true [.num 0 (some (mnQ a0 b0)),.num 0 (some (mnQ a1 b1)),.num 0 (some (mnQ a2 b2)),.num 0 (some (mxQ a3 b3)),.num 0 (some (mxQ a4 b4)),.num 0 (some (mxQ a5 b5))]) []else none
 | _,_=>none
theorem gq472{ρ:Type} (cont:SV->HL->Option ρ) (a0 a1 a2 a3 a4 a5 b0 b1 b2 b3 b4 b5:Rat):runF wiE A472 20 Tryz.f140 (bodyOf Tryz.f140) ρ [.v true [.num 0 (some a0),.num 0 (some a1),.num 0 (some a2),.num 0 (some a3),.num 0 (some a4),.num 0 (some a5)],.v true [.num 0 (some b0),.num 0 (some b1),.num 0 (some b2),.num 0 (some b3),.num 0 (some b4),.num 0 (some b5)]] [] cont =
  if(szQ a0&&szQ b0)=true then if(szQ a3&&szQ b3)=true then if(szQ a1&&szQ b1)=true then if(szQ a4&&szQ b4)=true then if(szQ a2&&szQ b2)=true then if(szQ a5&&szQ b5)=true then cont (.v true [.num 0 (some (mnQ a0 b0)),.num 0 (some (mnQ a1 b1)),.num 0 (some (mnQ a2 b2)),.num 0 (some (mxQ a3 b3)),.num 0 (some (mxQ a4 b4)),.num 0 (some (mxQ a5 b5))]) []else none else none else none else none else none else none:=by kernel_rfl
theorem orc_wi:OrcOK NN Tryz.prog 140 wiO:=
 OrcOK.of_tale (runF_ok wiE_ok mixT (A:=A472) (fuel:=20) Tryz.func140 (c:=bodyOf Tryz.f140) (by kernel_rfl) (SumsOK.none fun _=>rfl)) fun ρ args H cont r hr=>by
  unfold wiO at hr;split at hr
  ·rename_i a0 a1 a2 a3 a4 a5 b0 b1 b2 b3 b4 b5;split at hr
   ·rename_i hc;obtain⟨h0,h1,h2,h3,h4,h5⟩:=hc;refine(gq472 cont a0 a1 a2 a3 a4 a5 b0 b1 b2 b3 b4 b5).trans ?_;rw[if_pos h0,if_pos h3,if_pos h1,if_pos h4,if_pos h2,if_pos h5];exact hr
   ·contradiction
  ·contradiction
end Go.Abs
namespace Go.Abs
def kR(f:Int->Rat) (x y:Int):Prop:=f x<f y\/(f x=f y/\x<y)
instance (f:Int->Rat) (x y:Int):Decidable (kR f x y):=by unfold kR;infer_instance
theorem kR_trans{f:Int->Rat}:∀ x y z,kR f x y->kR f y z->kR f x z:=by
 intro x y z h1 h2;unfold kR at *;rcases h1 with h1 | ⟨h1,h1'⟩ <;> rcases h2 with h2 | ⟨h2,h2'⟩
 ·exact .inl (by grind)
 ·exact .inl (by grind)
 ·exact .inl (by grind)
 ·exact .inr ⟨h1.trans h2,by omega⟩
theorem kR_asymm{f:Int->Rat} {x y:Int} (h1:kR f x y) (h2:kR f y x):False:=by
 unfold kR at *
 grind
theorem kR_total{f:Int->Rat} {x y:Int} (h:x≠y):kR f x y\/kR f y x:=by
 unfold kR
 grind
def ppos(g:Nat->Bool):Nat->Nat
 | 0=>0
 | p+1=>if g p=true then p+1 else ppos g p
theorem ppos_ok(g:Nat->Bool):∀ p,ppos g p<=p/\(∀ i,ppos g p<=i->i<p->g i=false)/\(0<ppos g p->g (ppos g p-1)=true)
 | 0=>⟨Nat.le_refl _,fun i _ h=>by omega,fun h=>by simp [ppos]at h⟩
 | p+1=>by
  unfold ppos
  by_cases c:g p=true
  ·rw[if_pos c];exact⟨Nat.le_refl _,fun i h1 h2=>by omega,fun _=>by simpa using c⟩
  ·rw[if_neg c];obtain⟨h1,h2,h3⟩:=ppos_ok g p;refine⟨by omega,fun i h4 h5=>?_,h3⟩
   by_cases e:i=p
   ·subst e;simpa using c
   ·exact h2 i h4 (by omega)
def iposP(f:Int->Rat) (x:Int) (s:List Int):Nat:=ppos (fun p=>match s[p]? with | some y=>decide (kR f y x) | none=>false) s.length
def insP(f:Int->Rat) (x:Int) (s:List Int):List Int:=s.take (iposP f x s)++x :: s.drop (iposP f x s)
def srtP(f:Int->Rat) (xs:List Int):List Int:=xs.foldl (fun s x=>insP f x s) []
theorem iposP_le(f:Int->Rat) (x:Int) (s:List Int):iposP f x s<=s.length:=(ppos_ok _ _).1
theorem insP_perm{f:Int->Rat} {x:Int} {s:List Int}:(insP f x s).Perm (x :: s):=by
 unfold insP;have:=List.perm_middle (a:=x) (l₁:=s.take (iposP f x s)) (l₂:=s.drop (iposP f x s))
 rwa [List.take_append_drop]at this
theorem insP_pw{f:Int->Rat} {x:Int} {s:List Int} (h:s.Pairwise (kR f)) (hx:x ∉ s):(insP f x s).Pairwise (kR f):=by
 obtain⟨h1,h2,h3⟩:=ppos_ok (fun p=>match s[p]? with | some y=>decide (kR f y x) | none=>false) s.length;have e:iposP f x s=ppos (fun p=>match s[p]? with | some y=>decide (kR f y x) | none=>false) s.length:=rfl;rw[<- e]at h1 h2 h3;unfold insP;generalize iposP f x s=p at h1 h2 h3;have hl:∀ y∈s.take p,kR f y x:=by
  intro y hy;obtain⟨i,hi,rfl⟩:=List.mem_take_iff_getElem.1 hy;have hp:0<p:=by omega
  have h4:=h3 hp;rw[List.getElem?_eq_getElem (by omega)]at h4;have h4:=of_decide_eq_true h4
  by_cases c:i=p-1
  ·subst c;exact h4
  ·exact kR_trans _ _ _ (List.pairwise_iff_getElem.1 h i (p-1) (by omega) (by omega) (by omega)) h4
 have hr:∀ y∈s.drop p,kR f x y:=by
  intro y hy;obtain⟨i,hi,rfl⟩:=List.mem_drop_iff_getElem.1 hy;have h4:=h2 (p+i) (by omega) (by omega);rw[List.getElem?_eq_getElem (by omega)]at h4;have h4:=of_decide_eq_false h4;rcases kR_total (f:=f) (x:=x) (y:=s[p+i]) (fun e=>hx (by rw[e];exact List.getElem_mem _))with h5 | h5
  ·exact h5
  ·exact absurd h5 h4
 rw[List.pairwise_append];refine⟨h.sublist (List.take_sublist _ _),List.pairwise_cons.2 ⟨hr,h.sublist (List.drop_sublist _ _)⟩,fun a ha b hb=>?_⟩;rcases List.mem_cons.1 hb with rfl | hb
 ·exact hl a ha
 ·exact kR_trans _ _ _ (hl a ha) (hr b hb)
theorem srtF_ok{f:Int->Rat}:∀ (xs s:List Int),s.Pairwise (kR f)->(s++xs).Nodup->(xs.foldl (fun s x=>insP f x s) s).Perm (s++xs)/\(xs.foldl (fun s x=>insP f x s) s).Pairwise (kR f)
 | [],s,h,hn=>⟨by simp,h⟩
 | x :: xs,s,h,hn=>by
  have hx:x ∉ s:=fun hm=>by
   have:=(List.nodup_append.1 hn).2.2 x hm x List.mem_cons_self;exact this rfl
  have hp:(insP f x s++xs).Perm (s++x :: xs):=((insP_perm).append_right xs).trans (by
   rw[List.cons_append];exact List.perm_middle.symm)
  obtain⟨h1,h2⟩:=srtF_ok xs (insP f x s) (insP_pw h hx) (hp.symm.nodup hn);exact⟨h1.trans hp,h2⟩
theorem srtP_ok{f:Int->Rat} {xs:List Int} (h:xs.Nodup):(srtP f xs).Perm xs/\(srtP f xs).Pairwise (kR f):=by
 have:=srtF_ok (f:=f) xs [] List.Pairwise.nil (by simpa using h)
 simpa [srtP] using this
theorem srt_one{f:Int->Rat} {xs ys zs:List Int} (h1:ys.Perm xs) (h2:ys.Pairwise (kR f)) (h3:zs.Perm xs) (h4:zs.Pairwise (kR f)):ys=zs:=
 List.Perm.eq_of_pairwise (le:=kR f) (fun a b _ _ h5 h6=>absurd h6 fun h=>kR_asymm h5 h) h2 h4 (h1.trans h3.symm)
def msI(xs:List Int):List Int:=xs.mergeSort fun x y=>decide (x<=y)
theorem msI_perm(xs:List Int):(msI xs).Perm xs:=List.mergeSort_perm _ _
theorem msI_pw{xs:List Int} (h:xs.Nodup):(msI xs).Pairwise (· < ·):=by
 have h1:=List.pairwise_mergeSort (le:=fun x y:Int=>decide (x<=y)) (fun a b c h1 h2=>by simp at *;omega) (fun a b=>by simp;omega) xs;have h2:(msI xs).Nodup:=(msI_perm xs).symm.nodup h;exact(h1.and h2).imp fun{a b} h=>by
  have h3:=of_decide_eq_true h.1;have h4:=h.2;omega
theorem seg_full{ys:List Int} {n:Nat} (h:ys.length=n):seg ys 0 n=ys:=by subst h;exact seg_all
theorem stbF_len{lt:Int->Int->Bool} {R:Int->Int->Prop} (tr:∀ x y z,R x y->R y z->R x z) {xs:List Int} {n:Nat} (hA:Agree lt R xs 0 n) (hn:n<=xs.length) (hl:n<=1000):(stbF lt n xs).length=xs.length:=by
 obtain⟨g1,g2,g3,g4⟩:=blkA_chn tr (s:=20) (by omega) hA hn n (ys:=xs) (a:=0) rfl (fun _ _=>rfl) (Nat.zero_le _) (by omega);exact(blkC_mid tr hA hn hl n (s:=20) (by omega) g1 g4 (by omega)).1.trans g1
theorem stb_srt{f:Int->Rat} {lt:Int->Int->Bool} {xs:List Int} (hn:xs.Nodup) (hl:xs.length<=1000) (hlt:∀ x∈xs,∀ y∈xs,(lt x y=true ↔ f x<f y)):stbF lt (msI xs).length (msI xs)=srtP f xs:=by
 have hp:=msI_perm xs;have hw:=msI_pw hn;have hA:Agree lt (kR f) (msI xs) 0 (msI xs).length:=fun s t x y h1 h2 h3 hx hy=>by
  obtain⟨hs,rfl⟩:=List.getElem?_eq_some_iff.1 hx;obtain⟨ht,rfl⟩:=List.getElem?_eq_some_iff.1 hy;have hxy:=List.pairwise_iff_getElem.1 hw s t hs ht h2;rw[hlt _ (hp.mem_iff.1 (List.getElem_mem ht)) _ (hp.mem_iff.1 (List.getElem_mem hs))];refine⟨⟨fun h=>.inl h,fun h=>?_⟩,kR_total (by omega)⟩;rcases h with h | ⟨_,h⟩
  ·exact h
  ·omega
 have hm:=stbF_mid (lt:=lt) kR_trans hA (Nat.le_refl _) (by rw[hp.length_eq];exact hl);have hlen:(stbF lt (msI xs).length (msI xs)).length=(msI xs).length:=stbF_len kR_trans hA (Nat.le_refl _) (by rw[hp.length_eq];exact hl);have h1:(stbF lt (msI xs).length (msI xs)).Perm (msI xs):=by
  have:=hm.perm;rw[seg_all,seg_full hlen]at this;exact this
 have h2:(stbF lt (msI xs).length (msI xs)).Pairwise (kR f):=by
  have:=hm.pw;rw[seg_full hlen]at this;exact this
 obtain⟨h3,h4⟩:=srtP_ok (f:=f) hn;exact srt_one (h1.trans hp) h2 h3 h4
end Go.Abs
namespace Go.Proofs
open Go.Shelf
def Tryz.lays191_ren:Go.Shelf.Ren:=⟨fun | 191=>141 | 189=>179 | 125=>126 | 257=>191 | 128=>167 | 129=>168 | 294=>195 | 295=>196 | 296=>197 | 297=>198 | 298=>199 | 299=>200 | 216=>201 | 300=>202 | 301=>203 | 328=>210 | 329=>211 | 330=>212 | 331=>213 | 332=>214 | 215=>215 | 343=>218 | n=>n,fun | 28=>164 | 0=>0 | 3=>3 | 46=>161 | 51=>162 | 53=>120 | 4=>4 | 183=>241 | 182=>240 | 131=>221 | 5=>5 | 9=>9 | 218=>251 | 222=>233 | 228=>255 | 229=>237 | n=>n,fun | n=>n⟩
theorem Tryz.lays191:Go.Proofs.Lays.n191 Tryz.prog Tryz.lays191_ren where
 mixed:=by kernel_rfl
 f125:=Tryz.func126.trans (congrArg some (by kernel_rfl))
 f128:=Tryz.func167.trans (congrArg some (by kernel_rfl))
 f129:=Tryz.func168.trans (congrArg some (by kernel_rfl))
 f189:=Tryz.func179.trans (congrArg some (by kernel_rfl))
 f191:=Tryz.func141.trans (congrArg some (by kernel_rfl))
 f215:=Tryz.func215.trans (congrArg some (by kernel_rfl))
 f216:=Tryz.func201.trans (congrArg some (by kernel_rfl))
 f257:=Tryz.func191.trans (congrArg some (by kernel_rfl))
 f294:=Tryz.func195.trans (congrArg some (by kernel_rfl))
 f295:=Tryz.func196.trans (congrArg some (by kernel_rfl))
 f296:=Tryz.func197.trans (congrArg some (by kernel_rfl))
 f297:=Tryz.func198.trans (congrArg some (by kernel_rfl))
 f298:=Tryz.func199.trans (congrArg some (by kernel_rfl))
 f299:=Tryz.func200.trans (congrArg some (by kernel_rfl))
 f300:=Tryz.func202.trans (congrArg some (by kernel_rfl))
 f301:=Tryz.func203.trans (congrArg some (by kernel_rfl))
 f328:=Tryz.func210.trans (congrArg some (by kernel_rfl))
 f329:=Tryz.func211.trans (congrArg some (by kernel_rfl))
 f330:=Tryz.func212.trans (congrArg some (by kernel_rfl))
 f331:=Tryz.func213.trans (congrArg some (by kernel_rfl))
 f332:=Tryz.func214.trans (congrArg some (by kernel_rfl))
 f343:=Tryz.func218.trans (congrArg some (by kernel_rfl))
 t0:=Tryz.underlying0
 a0:=Tryz.isAgg0
 z0:=Tryz.sizeOf0
 v0:=Tryz.zeroValue0
 t3:=Tryz.underlying3
 a3:=Tryz.isAgg3
 z3:=Tryz.sizeOf3
 v3:=Tryz.zeroValue3
 t4:=Tryz.underlying4
 a4:=Tryz.isAgg4
 z4:=Tryz.sizeOf4
 v4:=Tryz.zeroValue4
 t5:=Tryz.underlying5
 a5:=Tryz.isAgg5
 z5:=Tryz.sizeOf5
 v5:=Tryz.zeroValue5
 t9:=Tryz.underlying9
 a9:=Tryz.isAgg9
 z9:=Tryz.sizeOf9
 v9:=Tryz.zeroValue9
 t28:=Tryz.underlying164
 a28:=Tryz.isAgg164
 z28:=Tryz.sizeOf164
 v28:=Tryz.zeroValue164
 t46:=Tryz.underlying161
 a46:=Tryz.isAgg161
 z46:=Tryz.sizeOf161
 v46:=Tryz.zeroValue161
 t51:=Tryz.underlying162
 a51:=Tryz.isAgg162
 z51:=Tryz.sizeOf162
 v51:=Tryz.zeroValue162
 t53:=Tryz.underlying120
 a53:=Tryz.isAgg120
 z53:=Tryz.sizeOf120
 v53:=Tryz.zeroValue120
 t131:=Tryz.underlying221
 a131:=Tryz.isAgg221
 z131:=Tryz.sizeOf221
 v131:=Tryz.zeroValue221
 t182:=Tryz.underlying240
 a182:=Tryz.isAgg240
 z182:=Tryz.sizeOf240
 v182:=Tryz.zeroValue240
 t183:=Tryz.underlying241
 a183:=Tryz.isAgg241
 z183:=Tryz.sizeOf241
 v183:=Tryz.zeroValue241
 t218:=Tryz.underlying251
 a218:=Tryz.isAgg251
 z218:=Tryz.sizeOf251
 v218:=Tryz.zeroValue251
 t222:=Tryz.underlying233
 a222:=Tryz.isAgg233
 z222:=Tryz.sizeOf233
 v222:=Tryz.zeroValue233
 t228:=Tryz.underlying255
 a228:=Tryz.isAgg255
 z228:=Tryz.sizeOf255
 v228:=Tryz.zeroValue255
 t229:=Tryz.underlying237
 a229:=Tryz.isAgg237
 z229:=Tryz.sizeOf237
 v229:=Tryz.zeroValue237
end Go.Proofs
namespace Go.Abs
open Go.Proofs Go.Shelf Go.Sort
set_option maxRecDepth 100000
theorem heap_putRow{α:Type} [Inhabited α] (enc:α->Value) (w:World) (b off:Nat) (d:Array α) {cs:Array Value} {e:Nat} {fr:Nat × Nat} (h:w.heap[b]? = some (.cells cs e fr)):(putRow enc w b off d).heap[b]? = some (.cells (putCells enc off d cs) e fr):=by
 simp only [putRow,mapBlock,Array.getElem?_modify,if_true,h,Option.map_some,onCells]
theorem heap_putRow_other{α:Type} [Inhabited α] (enc:α->Value) (w:World) (b off:Nat) (d:Array α) {x:Nat} (h:x≠b):(putRow enc w b off d).heap[x]? = w.heap[x]?:=by
 simp only [putRow,mapBlock,Array.getElem?_modify,if_neg (Ne.symm h)]
theorem Rel.grown{N:NumSem} {G:Ghost} {κ:Kap} {h:Hp} {w:World} (r:Rel N G κ h w) (os:Array Obj):Rel N G κ h (Sort.grow w os) where
 ghost:=fun x o v e=>by
  have h0:=r.ghost x o v e;have hx:x<w.heap.size:=by
   unfold World.cell? at h0;split at h0
   ·rename_i heq;exact(Array.getElem?_eq_some_iff.1 heq).1
   ·contradiction
  rw[<- h0];simp only [World.cell?];rw[Sort.heap_grow_old w os hx]
 blk:=fun l b e=>(r.blk l b e).keep G.le_refl (Sort.heap_grow_old w os (r.blk l b e).block) rfl fun _ _ _ _=>rfl
 sep:=r.sep
 own:=r.own
 inv:=fun b hb=>by
  obtain⟨x,h1,h2⟩:=r.inv b hb;exact⟨x,by rw[Sort.heap_grow_old w os (Array.getElem?_eq_some_iff.1 h1).1];exact h1,h2⟩
 off:=r.off
theorem Trans.grown{G:Ghost} {κ:Kap} {h:Hp} {w:World} (os:Array Obj):Trans G κ h w G κ h (Sort.grow w os):=
 ⟨G.le_refl,by simp,fun g hg _=>Sort.heap_grow_old w os hg,rfl,rfl,rfl,fun _ _ _ e=>.inl e,fun l hl=>.inr ⟨l,hl,rfl⟩⟩
noncomputable def sinO:Orc:=fun ρ args H cont=>match args,H with
 | [.v false [.wsl 0 1]],[.arr e (.int .i64) xs false false]=>if(List.length (α:=Int) xs)<=1000 then cont (.tup []) [.arr e (.int .i64) (msI xs) false false]else none
 | _,_=>none
theorem toArr1{a:Array Value} {x:Value} (h:a.toList=[x]):a = #[x]:=by rw[<- Array.toArray_toList (xs:=a),h]
theorem elems_ints{N:NumSem} {G:Ghost} {xs:List Int} {cs:List Value} (h:Elems N G (.int .i64) xs cs) {i:Nat} {x:Int} (hx:xs[i]? = some x):cs[i]? = some (.int .i64 x):=by
 obtain⟨vs,h1,h2⟩:=h i x hx;simp only [DR]at h1;subst h1;have:=h2 0 _ rfl
 simpa [Ty.w] using this
theorem orc_sin:OrcOK NN Tryz.prog 141 sinO:=by
 intro ρ args H cont r h hwf hids;unfold sinO at h;split at h
 ·rename_i e xs;split at h
  ·rename_i hc;refine⟨_,_,h,Nat.le_refl _,fun{G κ w cargs} hr ha=>?_⟩;obtain⟨v1,r1,e1,h1,h3⟩:=ha;have h1:=one_val h1;simp only [AR,List.cons.injEq,and_true]at h1;subst h1;simp only [SvsR]at h3;subst h3;rw[toArr1 e1];have hl:hmap [Blk.arr e (.int .i64) xs false false] 0=some (.arr e (.int .i64) xs false false):=rfl;have hb0:=hr.blk 0 _ hl;have hb0':=hb0.block;obtain⟨cs,hh,hsz,hcap,hel,_⟩:=hb0;have hxl:(List.length (α:=Int) xs)=(κ 0).2.2:=hcap.1;have hcz:cs.size=(κ 0).2.1:=by rw[hsz];simp [Ty.w]
   have hcap2:(List.length (α:=Int) xs)<=(κ 0).2.1:=hcap.2.1;have hge:∀ (i:Nat) (x:Int),(show List Int from xs)[i]? = some x->cs[i]? = some (.int .i64 x):=fun i x hx=>by
    have:=elems_ints hel hx
    simpa using this
   have hH:Holds (Value.int .i64) w (κ 0).1 0 (List.toArray (α:=Int) xs):=fun j hj=>by
    have hj':j<List.length (α:=Int) xs:=by simpa using hj
    have hx:(show List Int from xs)[j]? = some ((show List Int from xs)[j]):=List.getElem?_eq_getElem hj';constructor
    ·simp only [World.cell?,hh];rw[Nat.zero_add];simp only [Option.isSome_none,Bool.false_eq_true,if_false];rw[hge j _ hx];congr 2;rw[getElem!_pos _ j hj];simp
    ·simp [World.frozen?,hh]
   have hml:(msI xs).length=(List.length (α:=Int) xs):=(msI_perm xs).length_eq;rw[show (κ 0).2.2=List.length (α:=Int) xs from hxl.symm];refine(Any.sort_Ints Tryz.lays191 (κ 0).1 0 (κ 0).2.1 xs w hH hb0' (by omega)).mono ?_
   rintro e' w' ⟨rfl,n,os,rfl⟩
   have hw:∀ x,x≠(κ 0).1->(putRow (Value.int .i64) (Sort.ahead w n) (κ 0).1 0 (msI xs).toArray).heap[x]? = w.heap[x]?:=fun x hx=>(heap_putRow_other _ _ _ _ _ hx).trans rfl
   have hp:=heap_putRow (Value.int .i64) (Sort.ahead w n) (κ 0).1 0 (msI xs).toArray (cs:=cs) (e:=e) (fr:=(0,0)) hh;have hno:∀ o v,G (κ 0).1 o=some v->False:=fun o v hg=>hr.own 0 _ hl o v hg
   have hbr:BR NN G κ (putRow (Value.int .i64) (Sort.ahead w n) (κ 0).1 0 (msI xs).toArray) 0 (.arr e (.int .i64) (msI xs) false false):=by
    refine⟨_,hp,by simpa [putCells] using hsz,⟨hml.trans hxl,by rw[hml];exact hcap2,hcap.2.2⟩,fun i x hx=>?_,fun hf=>by cases hf⟩;refine⟨[.int .i64 x],rfl,fun j v hj=>?_⟩;have hj0:j=0/\v=.int .i64 x:=by
     cases j with
     | zero=>exact⟨rfl,by simpa using hj.symm⟩
     | succ j=>simp at hj
    obtain⟨rfl,rfl⟩:=hj0;have hx':(msI xs)[i]? = some x:=hx;obtain⟨hi,hxi⟩:=List.getElem?_eq_some_iff.1 hx';have hic:i<cs.size:=by omega
    simp only [Ty.w,Nat.mul_one,Nat.add_zero];show (putCells (Value.int .i64) 0 (msI xs).toArray cs).toList[i]? = _;rw[Array.getElem?_toList];simp only [putCells,Array.getElem?_mapIdx];rw[Array.getElem?_eq_getElem hic,Option.map_some,if_pos ⟨by omega,by simpa using hi⟩];rw[Nat.sub_zero,getElem!_pos _ i (by simpa using hi)];simp [hxi]
   have r1:Rel NN G κ ((hmap [Blk.arr e (.int .i64) xs false false]).set 0 (.arr e (.int .i64) (msI xs) false false)) (putRow (Value.int .i64) (Sort.ahead w n) (κ 0).1 0 (msI xs).toArray):=
    Rel.turn hr 0 _ _ hl G.le_refl (fun x o v e=>.inl e) hw (fun o v hg=>(hno o v hg).elim) hbr (fun o v hg=>(hno o v hg).elim) (by simp)
   have t1:Trans G κ (hmap [Blk.arr e (.int .i64) xs false false]) w G κ ((hmap [Blk.arr e (.int .i64) xs false false]).set 0 (.arr e (.int .i64) (msI xs) false false)) (putRow (Value.int .i64) (Sort.ahead w n) (κ 0).1 0 (msI xs).toArray):=
    Trans.turn (N:=NN) 0 _ _ hl G.le_refl (fun x o v e=>.inl e) hw (by rw[size_putRow];rfl) rfl rfl rfl
   rw[<- hmap_hset]at r1 t1;exact⟨G,κ,_,rfl,t1.trans (Trans.grown os),r1.grown os,⟨_,rfl,rfl⟩,fun _ _ _=>rfl⟩
  ·contradiction
 ·contradiction
end Go.Abs
namespace Go.Abs
abbrev Qd:=Int × Int
abbrev V3q:=Qd × Qd × Qd
abbrev Bd:=V3q × V3q
abbrev Nd:=Bd × Int × Int × Int
abbrev V3r:=Rat × Rat × Rat
abbrev Br:=V3r × V3r
instance:DecidableEq Qd:=inferInstanceAs (DecidableEq (Int × Int))
instance:DecidableEq V3q:=inferInstanceAs (DecidableEq (Qd × Qd × Qd))
instance:DecidableEq Bd:=inferInstanceAs (DecidableEq (V3q × V3q))
instance:DecidableEq Nd:=inferInstanceAs (DecidableEq (Bd × Int × Int × Int))
def vQ(q:Qd):Rat:=Rat.divInt q.1 q.2
def v3V(v:V3q):V3r:=(vQ v.1,vQ v.2.1,vQ v.2.2)
def bxV(b:Bd):Br:=(v3V b.1,v3V b.2)
def qU(q:Rat):Qd:=(q.num,(q.den:Int))
def v3U(v:V3r):V3q:=(qU v.1,qU v.2.1,qU v.2.2)
def bxU(b:Br):Bd:=(v3U b.1,v3U b.2)
def okQd(q:Qd):Bool:=qOkB q.1 q.2
def okV3(v:V3q):Bool:=okQd v.1&&(okQd v.2.1&&okQd v.2.2)
def okBd(b:Bd):Bool:=(okV3 b.1&&okV3 b.2)&&(decide (vQ b.1.1<=vQ b.2.1)&&(decide (vQ b.1.2.1<=vQ b.2.2.1)&&decide (vQ b.1.2.2<=vQ b.2.2.2)))
theorem qU_vQ{q:Qd} (h:okQd q=true):qU (vQ q)=q:=by
 obtain⟨h1,h2⟩:=q_rt h;unfold qU vQ;rw[h1,h2]
theorem v3U_v3V{v:V3q} (h:okV3 v=true):v3U (v3V v)=v:=by
 unfold okV3 at h;rw[Bool.and_eq_true,Bool.and_eq_true]at h;unfold v3U v3V;rw[qU_vQ h.1,qU_vQ h.2.1,qU_vQ h.2.2]
theorem bxU_bxV{b:Bd} (h:okBd b=true):bxU (bxV b)=b:=by
 unfold okBd at h;rw[Bool.and_eq_true,Bool.and_eq_true]at h;unfold bxU bxV;rw[v3U_v3V h.1.1,v3U_v3V h.1.2]
def wiV(a b:Br):Br:=((mnQ a.1.1 b.1.1,mnQ a.1.2.1 b.1.2.1,mnQ a.1.2.2 b.1.2.2),(mxQ a.2.1 b.2.1,mxQ a.2.2.1 b.2.2.1,mxQ a.2.2.2 b.2.2.2))
def arV(bs:List Br) (b:Br) (xs:List Int):Br:=xs.foldl (fun b x=>match bs[x.toNat]? with | some c=>wiV b c | none=>b) b
def lsS(a b:Qd):Qd:=if vQ b<vQ a then b else a
def grS(a b:Qd):Qd:=if vQ a<vQ b then b else a
def wiS(a b:Bd):Bd:=((lsS a.1.1 b.1.1,lsS a.1.2.1 b.1.2.1,lsS a.1.2.2 b.1.2.2),(grS a.2.1 b.2.1,grS a.2.2.1 b.2.2.1,grS a.2.2.2 b.2.2.2))
def arS(bs:List Bd) (b:Bd) (xs:List Int):Bd:=xs.foldl (fun b x=>match bs[x.toNat]? with | some c=>wiS b c | none=>b) b
theorem mnQ_eq(a b:Rat):mnQ a b=if b<a then b else a:=by
 unfold mnQ
 by_cases h:b<a
 ·rw[if_pos h,decide_eq_true (cmpQ_gt.2 h)];rfl
 ·rw[if_neg h,decide_eq_false (fun e=>h (cmpQ_gt.1 e))];rfl
theorem mxQ_eq(a b:Rat):mxQ a b=if a<b then b else a:=by
 unfold mxQ
 by_cases h:b<a
 ·rw[decide_eq_true (cmpQ_gt.2 h),cond_true,if_neg (by grind)]
 ·rw[decide_eq_false (fun e=>h (cmpQ_gt.1 e)),cond_false]
  by_cases h2:a<b
  ·rw[if_pos h2]
  ·rw[if_neg h2];grind
theorem lsS_ok{a b:Qd} (ha:okQd a=true) (hb:okQd b=true):okQd (lsS a b)=true/\vQ (lsS a b)=mnQ (vQ a) (vQ b):=by
 rw[mnQ_eq];unfold lsS;split
 ·exact⟨hb,rfl⟩
 ·exact⟨ha,rfl⟩
theorem grS_ok{a b:Qd} (ha:okQd a=true) (hb:okQd b=true):okQd (grS a b)=true/\vQ (grS a b)=mxQ (vQ a) (vQ b):=by
 rw[mxQ_eq];unfold grS;split
 ·exact⟨hb,rfl⟩
 ·exact⟨ha,rfl⟩
theorem okBd_iff{b:Bd}:okBd b=true ↔ ((okQd b.1.1=true/\okQd b.1.2.1=true/\okQd b.1.2.2=true)/\okQd b.2.1=true/\okQd b.2.2.1=true/\okQd b.2.2.2=true)/\vQ b.1.1<=vQ b.2.1/\vQ b.1.2.1<=vQ b.2.2.1/\vQ b.1.2.2<=vQ b.2.2.2:=by
 unfold okBd okV3;simp only [Bool.and_eq_true,decide_eq_true_eq]
theorem mnQ_le(a b:Rat):mnQ a b<=a/\mnQ a b<=b:=by
 rw[mnQ_eq];split <;> grind
theorem mxQ_ge(a b:Rat):a<=mxQ a b/\b<=mxQ a b:=by
 rw[mxQ_eq];split <;> grind
theorem wiS_ok{a b:Bd} (ha:okBd a=true) (hb:okBd b=true):okBd (wiS a b)=true/\bxV (wiS a b)=wiV (bxV a) (bxV b):=by
 obtain⟨⟨⟨a1,a2,a3⟩,a4,a5,a6⟩,a7,a8,a9⟩:=okBd_iff.1 ha;obtain⟨⟨⟨b1,b2,b3⟩,b4,b5,b6⟩,b7,b8,b9⟩:=okBd_iff.1 hb;have l1:=lsS_ok a1 b1;have l2:=lsS_ok a2 b2;have l3:=lsS_ok a3 b3;have g1:=grS_ok a4 b4;have g2:=grS_ok a5 b5;have g3:=grS_ok a6 b6;refine⟨okBd_iff.2 ⟨⟨⟨l1.1,l2.1,l3.1⟩,g1.1,g2.1,g3.1⟩,?_,?_,?_⟩,?_⟩
 ·show vQ (lsS _ _)<=vQ (grS _ _);rw[l1.2,g1.2];exact Rat.le_trans (mnQ_le _ _).1 (Rat.le_trans a7 (mxQ_ge _ _).1)
 ·show vQ (lsS _ _)<=vQ (grS _ _);rw[l2.2,g2.2];exact Rat.le_trans (mnQ_le _ _).1 (Rat.le_trans a8 (mxQ_ge _ _).1)
 ·show vQ (lsS _ _)<=vQ (grS _ _);rw[l3.2,g3.2];exact Rat.le_trans (mnQ_le _ _).1 (Rat.le_trans a9 (mxQ_ge _ _).1)
 ·unfold bxV v3V wiS wiV;dsimp only;rw[l1.2,l2.2,l3.2,g1.2,g2.2,g3.2]
theorem arS_ok{bs:List Bd} (hbs:∀ b∈bs,okBd b=true):∀ (xs:List Int) {b:Bd},okBd b=true->okBd (arS bs b xs)=true/\bxV (arS bs b xs)=arV (bs.map bxV) (bxV b) xs
 | [],b,h=>⟨h,rfl⟩
 | x :: r,b,h=>by
  unfold arS arV;rw[List.foldl_cons,List.foldl_cons,List.getElem?_map];cases hx:bs[x.toNat]? with
  | none=>exact arS_ok hbs r h
  | some c =>
   obtain⟨h1,h2⟩:=wiS_ok h (hbs c (List.mem_of_getElem? hx));rw[Option.map_some];dsimp only;rw[<- h2];exact arS_ok hbs r h1
def axV(b:Br):Int:=(fun k=>if hi3 k b-lo3 k b<hi3 2 b-lo3 2 b then 2 else k) (if hi3 0 b-lo3 0 b<hi3 1 b-lo3 1 b then 1 else 0)
theorem axV_is(b:Br):isAx (axV b):=by
 have key:∀ k:Int,isAx k->isAx (if hi3 k b-lo3 k b<hi3 2 b-lo3 2 b then 2 else k):=fun k hk=>by
  split
  ·exact .inr (.inr rfl)
  ·exact hk
 refine key _ ?_;split
 ·exact .inr (.inl rfl)
 ·exact .inl rfl
def midV(bs:List Br) (k x:Int):Rat:=match bs[x.toNat]? with
 | some a=>lo3 k a+hi3 k a
 | none=>0
def br0:Br:=((0,0,0),(0,0,0))
def bd0:Bd:=(((0,0),(0,0),(0,0)),((0,0),(0,0),(0,0)))
def twV(bs:List Br):Nat->List Int->Tw
 | 0,_=>.nil
 | _+1,[]=>.nil
 | n+1,x :: r=>if r=[]then .node (arV bs (bs[x.toNat]?.getD br0) (x :: r)) .nil .nil x
  else(fun b ys=>.node b (twV bs n (ys.take ((ys.length+1) / 2))) (twV bs n (ys.drop ((ys.length+1) / 2))) (-1))
   (arV bs (bs[x.toNat]?.getD br0) (x :: r)) (srtP (midV bs (axV (arV bs (bs[x.toNat]?.getD br0) (x :: r)))) (x :: r))
def isNilT:Tw->Bool
 | .nil=>true
 | _=>false
def liT:Tw->Int->List Nd
 | .nil,_=>[]
 | .node b l r it,at_=>if isNilT l=true then [(bxU b,-1,-1,it)]
  else(bxU b,at_+1,at_+1+((liT l (at_+1)).length:Int),it) :: (liT l (at_+1)++liT r (at_+1+((liT l (at_+1)).length:Int)))
def bldS(bs:List Bd):Nat->List Int->Int->List Nd
 | 0,_,_=>[]
 | _+1,[],_=>[]
 | n+1,x :: r,at_=>if r=[]then [(arS bs (bs[x.toNat]?.getD bd0) r,-1,-1,x)]
  else(fun b ys=>(b,at_+1,at_+1+((bldS bs n (ys.take ((ys.length+1) / 2)) (at_+1)).length:Int),-1) :: (bldS bs n (ys.take ((ys.length+1) / 2)) (at_+1)++bldS bs n (ys.drop ((ys.length+1) / 2)) (at_+1+((bldS bs n (ys.take ((ys.length+1) / 2)) (at_+1)).length:Int))))
   (arS bs (bs[x.toNat]?.getD bd0) r) (srtP (midV (bs.map bxV) (axV (bxV (arS bs (bs[x.toNat]?.getD bd0) r)))) (x :: r))
def okIt(n:Nat) (xs:List Int):Prop:=xs.Nodup /\ ∀ x∈xs,0<=x/\x<(n:Int)
theorem okIt.perm{n:Nat} {xs ys:List Int} (h:okIt n xs) (p:ys.Perm xs):okIt n ys:=⟨p.symm.nodup h.1,fun x hx=>h.2 x (p.mem_iff.1 hx)⟩
theorem okIt.sub{n:Nat} {xs ys:List Int} (h:okIt n xs) (p:ys.Sublist xs):okIt n ys:=⟨h.1.sublist p,fun x hx=>h.2 x (p.subset hx)⟩
theorem wiV_same(b:Br):wiV b b=b:=by
 unfold wiV;simp only [mnQ_eq,mxQ_eq,ite_self]
theorem arV_first{bs:List Br} {x:Int} {b:Br} (h:bs[x.toNat]? = some b) (r:List Int):arV bs b (x :: r)=arV bs b r:=by
 unfold arV;rw[List.foldl_cons,h];dsimp only;rw[wiV_same]
theorem twV_nil{bs:List Br}:∀ {n:Nat} {xs:List Int},xs ≠ []->xs.length<=n->isNilT (twV bs n xs)=false
 | 0,x :: r,h,hl=>by simp at hl
 | n+1,[],h,hl=>absurd rfl h
 | n+1,x :: r,h,hl=>by
  unfold twV;split <;> rfl
theorem half_len{ys:List Int} (h:2<=ys.length):1<=(ys.take ((ys.length+1) / 2)).length/\(ys.take ((ys.length+1) / 2)).length<ys.length/\1<=(ys.drop ((ys.length+1) / 2)).length/\(ys.drop ((ys.length+1) / 2)).length<ys.length:=by
 rw[List.length_take,List.length_drop];omega
theorem bld_eq{bs:List Bd} (hbs:∀ b∈bs,okBd b=true):∀ (n:Nat) (xs:List Int) (at_:Int),okIt bs.length xs->xs.length<=n->liT (twV (bs.map bxV) n xs) at_=bldS bs n xs at_
 | 0,xs,at_,h,hl=>by
  unfold twV liT bldS;rfl
 | n+1,[],at_,h,hl=>by
  unfold twV liT bldS;rfl
 | n+1,x :: r,at_,h,hl=>by
  obtain⟨x0,x1⟩:=h.2 x List.mem_cons_self;have hx:bs[x.toNat]? = some bs[x.toNat]:=List.getElem?_eq_getElem (by omega);have hxm:(bs.map bxV)[x.toNat]? = some (bxV bs[x.toNat]):=by rw[List.getElem?_map,hx];rfl
  obtain⟨a1,a2⟩:=arS_ok hbs r (hbs _ (List.getElem_mem (show x.toNat<bs.length by omega)));have ea:arV (bs.map bxV) ((bs.map bxV)[x.toNat]?.getD br0) (x :: r)=bxV (arS bs (bs[x.toNat]?.getD bd0) r):=by
   rw[hxm,Option.getD_some,arV_first hxm,hx,Option.getD_some,a2]
  have eu:bxU (bxV (arS bs (bs[x.toNat]?.getD bd0) r))=arS bs (bs[x.toNat]?.getD bd0) r:=by
   rw[hx,Option.getD_some];exact bxU_bxV a1
  unfold twV bldS;rw[ea]
  by_cases hr:r=[]
  ·rw[if_pos hr,if_pos hr];unfold liT;rw[if_pos (show isNilT Tw.nil=true from rfl),eu]
  ·rw[if_neg hr,if_neg hr];dsimp only;obtain⟨p,_⟩:=srtP_ok (f:=midV (bs.map bxV) (axV (bxV (arS bs (bs[x.toNat]?.getD bd0) r)))) h.1;revert p;generalize srtP (midV (bs.map bxV) (axV (bxV (arS bs (bs[x.toNat]?.getD bd0) r)))) (x :: r)=ys;intro p;have hy:2<=ys.length:=by
    rw[p.length_eq];cases r with
    | nil=>exact absurd rfl hr
    | cons y r=>simp
   have hyl:=p.length_eq;obtain⟨t1,t2,t3,t4⟩:=half_len hy;have hL:=bld_eq hbs n (ys.take ((ys.length+1) / 2)) (at_+1) ((h.perm p).sub (List.take_sublist _ _)) (by omega);have hR:=fun a=>bld_eq hbs n (ys.drop ((ys.length+1) / 2)) a ((h.perm p).sub (List.drop_sublist _ _)) (by omega)
   have hn:isNilT (twV (bs.map bxV) n (ys.take ((ys.length+1) / 2)))=false:=twV_nil (fun e=>by rw[e]at t1;simp at t1) (by omega);rw[liT,if_neg (by rw[hn];simp),eu,hL,hR]
end Go.Abs

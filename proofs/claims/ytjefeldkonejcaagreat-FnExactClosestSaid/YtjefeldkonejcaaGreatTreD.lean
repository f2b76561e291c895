/-
 A PART OF THE PROOF of ClI (texts TreD TreE TreF TreG TreH): the claim itself stands in the last text. No conditions beside those of the given row.
-/
import Derived.Test.YtjefeldkonejcaaGreatDrwA
set_option linter.unusedVariables false
set_option linter.unnecessarySimpa false
set_option linter.unusedSimpArgs false
namespace Go.Abs
open Go.Proofs
set_option maxRecDepth 100000
def A323:Ann:={ head:=ptOf [(2,[1,2,3,4,8],[])],out:=ptOf [(2,[],[])] }
def σ323(bs:List bxT.den) (k:Int) (xs:List Int) (a b n i:Int):St:=⟨[(1,one (.int .i64 a)),(2,one (.int .i64 b)),(3,one (.int .i64 n)),(4,one (.ptr 4 0)),(8,one (.int .i64 i))],hpS bs k xs ++ [.var dtA]⟩
section
variable {ρ:Type} (K:Exit->St->Option ρ) (go:St->Option ρ) (bs:List bxT.den) (k:Int) (xs:List Int) (a b n i:Int)
theorem turn323:turnF inE A323 23 4 0 (loopAt Tryz.f216 0) K go (σ323 bs k xs a b n i) =
  bif decide (i<n)then swT xs (IntKind.i64.wrap (a+i)) (IntKind.i64.wrap (b+i)) (fun ys=>go (σ323 bs k ys a b n (IntKind.i64.wrap (i+1))))else K (.exit 0) ⟨[],hpS bs k xs⟩:=by kernel_rfl
end
theorem loop323{ρ:Type} (K:Exit->St->Option ρ) (bs:List bxT.den) (k:Int) {xs:List Int} (hl:xs.length<=1000) {a b n:Nat} (ha:a+n<=xs.length) (hb:b+n<=xs.length):∀ (m i:Nat),i+m=n ->
  itF (turnF inE A323 23 4 0 (loopAt Tryz.f216 0) K) (fun _=>none) (m+1) (σ323 bs k (swR xs a b i) a b n i)=K (.exit 0) ⟨[],hpS bs k (swR xs a b n)⟩
 | 0,i,e=>by
  show turnF _ _ _ _ _ _ _ _ _=_;rw[turn323,decide_eq_false (by omega),cond_false,show i=n by omega]
 | m+1,i,e=>by
  have hn:=swR_len (xs:=xs) (a:=a) (b:=b) i;show turnF _ _ _ _ _ _ _ _ _=_;have w1:IntKind.i64.wrap ((a:Int)+(i:Int))=((a+i:Nat):Int):=by rw[IntKind.wrap_i64];omega
  have w2:IntKind.i64.wrap ((b:Int)+(i:Int))=((b+i:Nat):Int):=by rw[IntKind.wrap_i64];omega
  have w3:IntKind.i64.wrap ((i:Int)+1)=((i+1:Nat):Int):=by rw[IntKind.wrap_i64];omega
  rw[turn323,decide_eq_true (by omega),cond_true,w1,w2,w3,swT_eq (xs:=swR xs a b i) (j:=a+i) (w:=b+i) (by omega) (by omega)];exact loop323 K bs k hl ha hb m (i+1) (by omega)
def swA(xs:List Int) (a b n:Int):List Int:=swR xs a.toNat b.toNat n.toNat
noncomputable def S323:Sum:=fun n0 ρ σ K=>match n0,σ with
 | 4,⟨[(1,.v false [.int .i64 a]),(2,.v false [.int .i64 b]),(3,.v false [.int .i64 n]),(4,.v false [.ptr 4 0]),(8,.v false [.int .i64 i])],
   [.var [.sl none (.pair (.pair (.num 0) (.pair (.num 0) (.num 0))) (.pair (.num 0) (.pair (.num 0) (.num 0)))) bs],.var [.wsl 3 1],.var [.int .i64 k],.arr 3 (.int .i64) xs false false,.var [.fn 143 [(0,0),(1,0),(2,0)],.bfn 162 3 0 3]]⟩ =>
  if i=0/\0<=a/\0<=b/\0<=n/\a+n<=(List.length (α:=Int) xs:Int)/\b+n<=(List.length (α:=Int) xs:Int)/\(List.length (α:=Int) xs:Int)<=1000 then K (.exit 0) ⟨[],hpS bs k (swA xs a b n)⟩else none
 | _,_=>none
theorem sum323:SumOK NN Tryz.prog 23 (loopAt Tryz.f216 0) S323:=
 SumOK.of_turns inE_ok mixT (A:=A323) (SumsOK.none fun _=>rfl) fun n0 ρ σ K r h=>by
  unfold S323 at h;split at h
  ·rename_i a b n i bs k xs;split at h
   ·rename_i hc;obtain⟨rfl,h1,h2,h3,h4,h5,h6⟩:=hc;obtain⟨a',rfl⟩:=Int.eq_ofNat_of_zero_le h1;obtain⟨b',rfl⟩:=Int.eq_ofNat_of_zero_le h2;obtain⟨n',rfl⟩:=Int.eq_ofNat_of_zero_le h3;have ht:=loop323 K bs k (xs:=xs) (by omega) (a:=a') (b:=b') (n:=n') (by omega) (by omega) n' 0 (by omega);unfold swA at h;rw[Int.toNat_natCast,Int.toNat_natCast,Int.toNat_natCast]at h;exact⟨_,ht.trans h⟩
   ·contradiction
  ·contradiction
noncomputable def A323s:Ann:={ A323 with sum:=fun i=>bif Nat.beq i 2 then some S323 else none }
noncomputable def swrO:Orc:=fun ρ args H cont=>match args,H with
 | [.v true [.fn 143 [(0,0),(1,0),(2,0)],.bfn 162 3 0 3],.v false [.int .i64 a],.v false [.int .i64 b],.v false [.int .i64 n]],[.var [.sl none (.pair (.pair (.num 0) (.pair (.num 0) (.num 0))) (.pair (.num 0) (.pair (.num 0) (.num 0)))) bs],.var [.wsl 3 1],.var [.int .i64 k],.arr 3 (.int .i64) xs false false] =>
  if 0<=a/\0<=b/\0<=n/\a+n<=(List.length (α:=Int) xs:Int)/\b+n<=(List.length (α:=Int) xs:Int)/\(List.length (α:=Int) xs:Int)<=1000 then cont (.tup []) (hpS bs k (swA xs a b n))else none
 | _,_=>none
theorem gq323{ρ:Type} (cont:SV->HL->Option ρ) (bs:List bxT.den) (k:Int) (xs:List Int) (a b n:Int):runF inE A323s 0 Tryz.f216 (bodyOf Tryz.f216) ρ [.v true dtA,one (.int .i64 a),one (.int .i64 b),one (.int .i64 n)] (hpS bs k xs) cont =
  if(0:Int)=0/\0<=a/\0<=b/\0<=n/\a+n<=(xs.length:Int)/\b+n<=(xs.length:Int)/\(xs.length:Int)<=1000 then cont (.tup []) (hpS bs k (swA xs a b n))else none:=by kernel_rfl
theorem orc_swr:OrcOK NN Tryz.prog 216 swrO:=
 OrcOK.of_tale (runF_ok inE_ok mixT (A:=A323s) (fuel:=0) Tryz.func216 (c:=bodyOf Tryz.f216) (by kernel_rfl) (SumsOK.ofL (ls:=[loopAt Tryz.f216 0]) (by kernel_rfl) ⟨sumL1 (by kernel_rfl) sum323,trivial⟩)) fun ρ args H cont r hr=>by
  unfold swrO at hr;split at hr
  ·rename_i a b n bs k xs;split at hr
   ·rename_i hc;refine(gq323 cont bs k xs a b n).trans ?_;rw[if_pos ⟨rfl,hc⟩];exact hr
   ·contradiction
  ·contradiction
end Go.Abs
namespace Go.Abs
open Go.Proofs
set_option maxRecDepth 100000
noncomputable def twE:Env:=VZ [(216,swrO)]
theorem twE_ok:EnvOK NN Tryz.prog twE:=VZ_ok (gamC orc_swr Tryz.call216 (gamN _ _))
def A312:Ann:={ head:=ptOf [(3,[2,4,8,9],[])],out:=ptOf [(3,[2,4,8],[])] }
def σ312(bs:List bxT.den) (k:Int) (xs:List Int) (m i j:Int):St:=⟨[(2,one (.int .i64 m)),(4,one (.ptr 4 0)),(8,one (.int .i64 i)),(9,one (.int .i64 j))],hpS bs k xs ++ [.var dtA]⟩
def σ312o(bs:List bxT.den) (k:Int) (xs:List Int) (m i:Int):St:=⟨[(2,one (.int .i64 m)),(4,one (.ptr 4 0)),(8,one (.int .i64 i))],hpS bs k xs ++ [.var dtA]⟩
section
variable {ρ:Type} (K:Exit->St->Option ρ) (go:St->Option ρ) (bs:List bxT.den) (k:Int) (xs:List Int) (m i j:Int)
def swC(a b n:Int) (f:List Int->Option ρ):Option ρ:=if 0<=a/\0<=b/\0<=n/\a+n<=(xs.length:Int)/\b+n<=(xs.length:Int)/\(xs.length:Int)<=1000 then f (swA xs a b n)else none
theorem turn312:turnF twE A312 53 4 0 (loopAt Tryz.f204 0) K go (σ312 bs k xs m i j) =
  bif !decide (i=j)then bif decide (j<i)then swC xs (IntKind.i64.wrap (m-i)) m j (fun ys=>go (σ312 bs k ys m (IntKind.i64.wrap (i-j)) j))else swC xs (IntKind.i64.wrap (m-i)) (IntKind.i64.wrap (IntKind.i64.wrap (m+j)-i)) i (fun ys=>go (σ312 bs k ys m i (IntKind.i64.wrap (j-i))))else K (.exit 0) (σ312o bs k xs m i):=by kernel_rfl
end
theorem swC_eq{ρ:Type} {xs:List Int} {a b n:Nat} (h1:a+n<=xs.length) (h2:b+n<=xs.length) (h3:xs.length<=1000) (f:List Int->Option ρ):swC xs a b n f=f (swR xs a b n):=by
 unfold swC swA;rw[if_pos ⟨by omega,by omega,by omega,by omega,by omega,by omega⟩,Int.toNat_natCast,Int.toNat_natCast,Int.toNat_natCast]
def twL(m:Nat):Nat->List Int->Nat->Nat->List Int × Nat
 | 0,xs,i,j=>(xs,i)
 | t+1,xs,i,j=>bif Nat.beq i j then(xs,i)else bif Nat.blt j i then twL m t (swR xs (m-i) m j) (i-j) j else twL m t (swR xs (m-i) (m+j-i) i) i (j-i)
theorem twL_ok{m:Nat}:∀ (t:Nat) {xs:List Int} {i j:Nat},i+j<=t->1<=i->1<=j->i<=m->m+j<=xs.length ->
  ((twL m t xs i j).2<=m/\m+(twL m t xs i j).2<=xs.length)/\(twL m t xs i j).1.length=xs.length/\swR (twL m t xs i j).1 (m-(twL m t xs i j).2) m (twL m t xs i j).2=rotL xs (m-i) m (m+j)
 | 0,xs,i,j,h,h1,h2,h3,h4=>by omega
 | t+1,xs,i,j,h,h1,h2,h3,h4=>by
  unfold twL
  by_cases e:i=j
  ·rw[show Nat.beq i j=true by rw[e];exact Nat.beq_refl j,cond_true];subst e;exact⟨⟨h3,h4⟩,rfl,rot_same h3 h4⟩
  ·rw[show Nat.beq i j=false from Bool.eq_false_iff.2 fun c=>e (Nat.eq_of_beq_eq_true c),cond_false]
   by_cases l:j<i
   ·rw[show Nat.blt j i=true from Nat.ble_eq_true_of_le l,cond_true];have hl:=swR_len (xs:=xs) (a:=m-i) (b:=m) j;have ih:=twL_ok (m:=m) t (xs:=swR xs (m-i) m j) (i:=i-j) (j:=j) (by omega) (by omega) h2 (by omega) (by omega);rw[rot_more h3 l h4,hl]at ih;exact ih
   ·rw[show Nat.blt j i=false from Bool.eq_false_iff.2 fun c=>l (Nat.le_of_ble_eq_true c),cond_false];have hl:=swR_len (xs:=xs) (a:=m-i) (b:=m+j-i) i;have ih:=twL_ok (m:=m) t (xs:=swR xs (m-i) (m+j-i) i) (i:=i) (j:=j-i) (by omega) h1 (by omega) h3 (by omega);rw[rot_less h3 (by omega) h4,hl]at ih;exact ih
theorem loop312{ρ:Type} (K:Exit->St->Option ρ) (bs:List bxT.den) (k:Int) {m:Nat}:∀ (t:Nat) {xs:List Int} {i j:Nat},xs.length<=1000->i+j<=t+1->1<=i->1<=j->i<=m->m+j<=xs.length ->
  itF (turnF twE A312 53 4 0 (loopAt Tryz.f204 0) K) (fun _=>none) (t+1) (σ312 bs k xs m i j)=K (.exit 0) (σ312o bs k (twL m (t+1) xs i j).1 m ((twL m (t+1) xs i j).2:Nat))
 | t,xs,i,j,hl,h,h1,h2,h3,h4=>by
  show turnF _ _ _ _ _ _ _ _ _=_;unfold twL;rw[turn312]
  by_cases e:i=j
  ·rw[show Nat.beq i j=true by rw[e];exact Nat.beq_refl j,cond_true,decide_eq_true (by omega),Bool.not_true,cond_false]
  ·rw[show Nat.beq i j=false from Bool.eq_false_iff.2 fun c=>e (Nat.eq_of_beq_eq_true c),cond_false,decide_eq_false (by omega),Bool.not_false,cond_true];have w0:IntKind.i64.wrap ((m:Int)-(i:Int))=((m-i:Nat):Int):=by rw[IntKind.wrap_i64];omega
   rw[w0]
   match t,h with
   | 0,h=>omega
   | t+1,h =>
   by_cases l:j<i
   ·have w1:IntKind.i64.wrap ((i:Int)-(j:Int))=((i-j:Nat):Int):=by rw[IntKind.wrap_i64];omega
    rw[show Nat.blt j i=true from Nat.ble_eq_true_of_le l,cond_true,decide_eq_true (by omega),cond_true,w1,swC_eq (xs:=xs) (a:=m-i) (b:=m) (n:=j) (by omega) (by omega) hl];have hz:=swR_len (xs:=xs) (a:=m-i) (b:=m) j;exact loop312 K bs k (m:=m) t (xs:=swR xs (m-i) m j) (i:=i-j) (j:=j) (by omega) (by omega) (by omega) h2 (by omega) (by omega)
   ·have w1:IntKind.i64.wrap ((j:Int)-(i:Int))=((j-i:Nat):Int):=by rw[IntKind.wrap_i64];omega
    have w2:IntKind.i64.wrap (IntKind.i64.wrap ((m:Int)+(j:Int))-(i:Int))=((m+j-i:Nat):Int):=by
     rw[show IntKind.i64.wrap ((m:Int)+(j:Int))=((m+j:Nat):Int)by rw[IntKind.wrap_i64];omega,IntKind.wrap_i64];omega
    rw[show Nat.blt j i=false from Bool.eq_false_iff.2 fun c=>l (Nat.le_of_ble_eq_true c),cond_false,decide_eq_false (by omega),cond_false,w1,w2,swC_eq (xs:=xs) (a:=m-i) (b:=m+j-i) (n:=i) (by omega) (by omega) hl];have hz:=swR_len (xs:=xs) (a:=m-i) (b:=m+j-i) i;exact loop312 K bs k (m:=m) t (xs:=swR xs (m-i) (m+j-i) i) (i:=i) (j:=j-i) (by omega) (by omega) h1 (by omega) h3 (by omega)
def twJ(xs:List Int) (m i j:Int):List Int × Nat:=twL m.toNat (i.toNat+j.toNat) xs i.toNat j.toNat
noncomputable def S312:Sum:=fun n0 ρ σ K=>match n0,σ with
 | 4,⟨[(2,.v false [.int .i64 m]),(4,.v false [.ptr 4 0]),(8,.v false [.int .i64 i]),(9,.v false [.int .i64 j])],
   [.var [.sl none (.pair (.pair (.num 0) (.pair (.num 0) (.num 0))) (.pair (.num 0) (.pair (.num 0) (.num 0)))) bs],.var [.wsl 3 1],.var [.int .i64 k],.arr 3 (.int .i64) xs false false,.var [.fn 143 [(0,0),(1,0),(2,0)],.bfn 162 3 0 3]]⟩ =>
  if 1<=i/\1<=j/\i<=m/\m+j<=(List.length (α:=Int) xs:Int)/\(List.length (α:=Int) xs:Int)<=1000 then K (.exit 0) (σ312o bs k (twJ xs m i j).1 m ((twJ xs m i j).2:Nat))else none
 | _,_=>none
theorem sum312:SumOK NN Tryz.prog 53 (loopAt Tryz.f204 0) S312:=
 SumOK.of_turns twE_ok mixT (A:=A312) (SumsOK.none fun _=>rfl) fun n0 ρ σ K r h=>by
  unfold S312 at h;split at h
  ·rename_i m i j bs k xs;split at h
   ·rename_i hc;obtain⟨h1,h2,h3,h4,h5⟩:=hc;obtain⟨i',rfl⟩:=Int.eq_ofNat_of_zero_le (show 0<=i by omega);obtain⟨j',rfl⟩:=Int.eq_ofNat_of_zero_le (show 0<=j by omega);obtain⟨m',rfl⟩:=Int.eq_ofNat_of_zero_le (show 0<=m by omega);have ht:=loop312 K bs k (m:=m') (i'+j'-1) (xs:=xs) (i:=i') (j:=j') (by omega) (by omega) (by omega) (by omega) (by omega) (by omega);rw[show i'+j'-1+1=i'+j' by omega]at ht;unfold twJ at h;rw[Int.toNat_natCast,Int.toNat_natCast,Int.toNat_natCast]at h;exact⟨_,ht.trans h⟩
   ·contradiction
  ·contradiction
noncomputable def A312s:Ann:={ A312 with sum:=fun i=>bif Nat.beq i 3 then some S312 else none }
def rotA(xs:List Int) (a m b:Int):List Int:=rotL xs a.toNat m.toNat b.toNat
noncomputable def rotO:Orc:=fun ρ args H cont=>match args,H with
 | [.v true [.fn 143 [(0,0),(1,0),(2,0)],.bfn 162 3 0 3],.v false [.int .i64 a],.v false [.int .i64 m],.v false [.int .i64 b]],[.var [.sl none (.pair (.pair (.num 0) (.pair (.num 0) (.num 0))) (.pair (.num 0) (.pair (.num 0) (.num 0)))) bs],.var [.wsl 3 1],.var [.int .i64 k],.arr 3 (.int .i64) xs false false] =>
  if 0<=a/\a<m/\m<b/\b<=(List.length (α:=Int) xs:Int)/\(List.length (α:=Int) xs:Int)<=1000 then cont (.tup []) (hpS bs k (rotA xs a m b))else none
 | _,_=>none
abbrev rotG(xs:List Int) (m i j:Int):Prop:=1<=i/\1<=j/\i<=m/\m+j<=(xs.length:Int)/\(xs.length:Int)<=1000
theorem gq312{ρ:Type} (cont:SV->HL->Option ρ) (bs:List bxT.den) (k:Int) (xs:List Int) (a m b:Int):runF twE A312s 0 Tryz.f204 (bodyOf Tryz.f204) ρ [.v true dtA,one (.int .i64 a),one (.int .i64 m),one (.int .i64 b)] (hpS bs k xs) cont =
  if rotG xs m (IntKind.i64.wrap (m-a)) (IntKind.i64.wrap (b-m))then swC (twJ xs m (IntKind.i64.wrap (m-a)) (IntKind.i64.wrap (b-m))).1 (IntKind.i64.wrap (m-((twJ xs m (IntKind.i64.wrap (m-a)) (IntKind.i64.wrap (b-m))).2:Nat))) m ((twJ xs m (IntKind.i64.wrap (m-a)) (IntKind.i64.wrap (b-m))).2:Nat) (fun ys=>cont (.tup []) (hpS bs k ys))else none:=by kernel_rfl
theorem orc_rot:OrcOK NN Tryz.prog 204 rotO:=
 OrcOK.of_tale (runF_ok twE_ok mixT (A:=A312s) (fuel:=0) Tryz.func204 (c:=bodyOf Tryz.f204) (by kernel_rfl) (SumsOK.ofL (ls:=[loopAt Tryz.f204 0]) (by kernel_rfl) ⟨sumL1 (by kernel_rfl) sum312,trivial⟩)) fun ρ args H cont r hr=>by
  unfold rotO at hr;split at hr
  ·rename_i a m b bs k xs;split at hr
   ·rename_i hc;obtain⟨h1,h2,h3,h4,h5⟩:=hc;obtain⟨a',rfl⟩:=Int.eq_ofNat_of_zero_le h1;obtain⟨m',rfl⟩:=Int.eq_ofNat_of_zero_le (show 0<=m by omega);obtain⟨b',rfl⟩:=Int.eq_ofNat_of_zero_le (show 0<=b by omega);refine(gq312 cont bs k xs a' m' b').trans ?_;have w1:IntKind.i64.wrap ((m':Int)-(a':Int))=((m'-a':Nat):Int):=by rw[IntKind.wrap_i64];omega
    have w2:IntKind.i64.wrap ((b':Int)-(m':Int))=((b'-m':Nat):Int):=by rw[IntKind.wrap_i64];omega
    rw[w1,w2,if_pos ⟨by omega,by omega,by omega,by omega,by omega⟩];have hk:=twL_ok (m:=m') (m'-a'+(b'-m')) (xs:=xs) (i:=m'-a') (j:=b'-m') (Nat.le_refl _) (by omega) (by omega) (by omega) (by omega);have e:twJ xs (m':Int) ((m'-a':Nat):Int) ((b'-m':Nat):Int)=twL m' (m'-a'+(b'-m')) xs (m'-a') (b'-m'):=by
     unfold twJ;rw[Int.toNat_natCast,Int.toNat_natCast,Int.toNat_natCast]
    rw[e];revert hk;generalize twL m' (m'-a'+(b'-m')) xs (m'-a') (b'-m')=z;intro hk;obtain⟨⟨k1,k2⟩,k3,k4⟩:=hk;have w3:IntKind.i64.wrap ((m':Int)-(z.2:Int))=((m'-z.2:Nat):Int):=by rw[IntKind.wrap_i64];omega
    rw[w3,swC_eq (xs:=z.1) (a:=m'-z.2) (b:=m') (n:=z.2) (by omega) (by omega) (by omega),k4,show m'-(m'-a')=a' by omega,show m'+(b'-m')=b' by omega];unfold rotA at hr;rw[Int.toNat_natCast,Int.toNat_natCast,Int.toNat_natCast]at hr;exact hr
   ·contradiction
  ·contradiction
end Go.Abs
namespace Go.Abs
open Go.Proofs
set_option maxRecDepth 100000
noncomputable def bgE:Env:=VZ [(143,lessO),(204,rotO)]
theorem bgE_ok:EnvOK NN Tryz.prog bgE:=VZ_ok (gamC orc_less Tryz.call143 (gamC orc_rot Tryz.call204 (gamN _ _)))
def A299:Ann:={ head:=ptOf [(4,[1,4,8,9],[]),(10,[4,8,11],[]),(16,[2,4,12,13],[]),(22,[4,12,15],[]),(34,[1,2,3,4,16,17,18,19,20],[])],out:=ptOf [(4,[1,4,8],[]),(10,[],[]),(16,[2,4,12],[]),(22,[],[]),(34,[1,2,3,4,16,17,18],[])] }
def hlf(i j:Int):Int:=IntKind.i64.wrap ((IntKind.u64.wrap (IntKind.i64.wrap (i+j))).fdiv (2 ^ min (Int.toNat 1) IntKind.u64.bits))
theorem hlf_eq{i j:Nat} (h:i+j<=2000):hlf i j=(((i+j) / 2:Nat):Int):=by
 unfold hlf;rw[show (2 ^ min (Int.toNat 1) IntKind.u64.bits:Int)=2 from rfl,show IntKind.i64.wrap ((i:Int)+(j:Int))=((i+j:Nat):Int)by rw[IntKind.wrap_i64];omega,
  show IntKind.u64.wrap ((i+j:Nat):Int)=((i+j:Nat):Int)by rw[IntKind.wrap_u64];omega,Int.fdiv_eq_ediv_of_nonneg _ (by omega),IntKind.wrap_i64]
 omega
theorem itF_bsr{ρ:Type} {turn:(St->Option ρ)->St->Option ρ} {σ:Nat->Nat->St} {f:Nat->Bool} {fin:Nat->Option ρ} {lo hi:Nat}
  (ht:∀ go i j,lo<=i->i<j->j<=hi->turn go (σ i j)=bif f ((i+j) / 2)then go (σ ((i+j) / 2+1) j)else go (σ i ((i+j) / 2)))
  (he:∀ go i,turn go (σ i i)=fin i):∀ (n i j:Nat),lo<=i->i<=j->j<=hi->j-i<=n->itF turn (fun _=>none) (n+1) (σ i j)=fin (bsr f n i j)
 | 0,i,j,h0,h1,h2,h3=>by
  show turn _ _=_;have:j=i:=by omega
  subst this;exact he _ _
 | n+1,i,j,h0,h1,h2,h3=>by
  show turn _ _=_;unfold bsr
  by_cases e:i<j
  ·rw[if_pos e,ht _ i j h0 e h2];cases hf:f ((i+j) / 2)
   ·rw[cond_false,if_neg (by decide)];exact itF_bsr ht he n i ((i+j) / 2) h0 (by omega) (by omega) (by omega)
   ·rw[cond_true,if_pos rfl];exact itF_bsr ht he n ((i+j) / 2+1) j (by omega) (by omega) h2 (by omega)
  ·have:j=i:=by omega
   subst this;rw[if_neg e];exact he _ _
def lt2(lt:Int->Int->Bool) (xs:List Int) (i j:Nat):Bool:=match xs[i]?,xs[j]? with
 | some x,some y=>lt x y
 | _,_=>false
theorem lokT_two{ρ:Type} {bs:List bxT.den} {k:Int} {xs:List Int} (h:okI bs xs=true) (hk:isAx k) {j w:Nat} (hj:j<xs.length) (hw:w<xs.length) (f:Bool->Option ρ):lokT bs k xs j w f=f (lt2 (ltI bs k) xs j w):=by
 rw[lokT_eq h hk (List.getElem?_eq_getElem hj) (List.getElem?_eq_getElem hw)];unfold lt2;rw[List.getElem?_eq_getElem hj,List.getElem?_eq_getElem hw]
section
variable {ρ:Type} (K:Exit->St->Option ρ) (go:St->Option ρ) (bs:List bxT.den) (k:Int) (xs:List Int) (a i j:Int)
def s299a:St:=⟨[(1,one (.int .i64 a)),(4,one (.ptr 4 0)),(8,one (.int .i64 i)),(9,one (.int .i64 j))],hpS bs k xs ++ [.var dtA]⟩
def s299ao:St:=⟨[(1,one (.int .i64 a)),(4,one (.ptr 4 0)),(8,one (.int .i64 i))],hpS bs k xs ++ [.var dtA]⟩
theorem turn299a:turnF bgE A299 177 4 0 (loopAt Tryz.f192 0) K go (s299a bs k xs a i j)=bif decide (i<j)then lokT bs k xs (hlf i j) a (fun l=>bif l then go (s299a bs k xs a (IntKind.i64.wrap (hlf i j+1)) j)else go (s299a bs k xs a i (hlf i j)))else K (.exit 0) (s299ao bs k xs a i):=by kernel_rfl
def s299b:St:=⟨[(4,one (.ptr 4 0)),(8,one (.int .i64 i)),(11,one (.int .i64 j))],hpS bs k xs ++ [.var dtA]⟩
theorem turn299b:turnF bgE A299 177 4 0 (loopAt Tryz.f192 1) K go (s299b bs k xs i j)=bif decide (j<IntKind.i64.wrap (i-1))then swT xs j (IntKind.i64.wrap (j+1)) (fun ys=>go (s299b bs k ys i (IntKind.i64.wrap (j+1))))else K (.exit 2) ⟨[],hpS bs k xs⟩:=by kernel_rfl
def s299c(m:Int):St:=⟨[(2,one (.int .i64 m)),(4,one (.ptr 4 0)),(12,one (.int .i64 i)),(13,one (.int .i64 j))],hpS bs k xs ++ [.var dtA]⟩
def s299co(m:Int):St:=⟨[(2,one (.int .i64 m)),(4,one (.ptr 4 0)),(12,one (.int .i64 i))],hpS bs k xs ++ [.var dtA]⟩
theorem turn299c(m:Int):turnF bgE A299 177 4 0 (loopAt Tryz.f192 2) K go (s299c bs k xs i j m)=bif decide (i<j)then lokT bs k xs m (hlf i j) (fun l=>bif !l then go (s299c bs k xs (IntKind.i64.wrap (hlf i j+1)) j m)else go (s299c bs k xs i (hlf i j) m))else K (.exit 4) (s299co bs k xs i m):=by kernel_rfl
def s299d:St:=⟨[(4,one (.ptr 4 0)),(12,one (.int .i64 i)),(15,one (.int .i64 j))],hpS bs k xs ++ [.var dtA]⟩
theorem turn299d:turnF bgE A299 177 4 0 (loopAt Tryz.f192 3) K go (s299d bs k xs i j)=bif decide (i<j)then swT xs j (IntKind.i64.wrap (j-1)) (fun ys=>go (s299d bs k ys i (IntKind.i64.wrap (j-1))))else K (.exit 6) ⟨[],hpS bs k xs⟩:=by kernel_rfl
def s299e(m b z n p:Int):St:=⟨[(1,one (.int .i64 a)),(2,one (.int .i64 m)),(3,one (.int .i64 b)),(4,one (.ptr 4 0)),(16,one (.int .i64 z)),(17,one (.int .i64 n)),(18,one (.int .i64 i)),(19,one (.int .i64 j)),(20,one (.int .i64 p))],hpS bs k xs ++ [.var dtA]⟩
def s299eo(m b z n:Int):St:=⟨[(1,one (.int .i64 a)),(2,one (.int .i64 m)),(3,one (.int .i64 b)),(4,one (.ptr 4 0)),(16,one (.int .i64 z)),(17,one (.int .i64 n)),(18,one (.int .i64 i))],hpS bs k xs ++ [.var dtA]⟩
theorem turn299e(m b z n p:Int):turnF bgE A299 177 4 0 (loopAt Tryz.f192 4) K go (s299e bs k xs a i j m b z n p)=bif decide (i<j)then lokT bs k xs (IntKind.i64.wrap (p-hlf i j)) (hlf i j) (fun l=>bif !l then go (s299e bs k xs a (IntKind.i64.wrap (hlf i j+1)) j m b z n p)else go (s299e bs k xs a i (hlf i j) m b z n p))else K (.exit 8) (s299eo bs k xs a i m b z n):=by kernel_rfl
end
noncomputable def b299a(bs:List bxT.den) (k:Int) (xs:List Int) (a i j:Int):Nat:=bsr (fun h=>lt2 (ltI bs k) xs h a.toNat) (j.toNat-i.toNat) i.toNat j.toNat
noncomputable def b299c(bs:List bxT.den) (k:Int) (xs:List Int) (m i j:Int):Nat:=bsr (fun h=>!lt2 (ltI bs k) xs m.toNat h) (j.toNat-i.toNat) i.toNat j.toNat
noncomputable def b299e(bs:List bxT.den) (k:Int) (xs:List Int) (p i j:Int):Nat:=bsr (fun c=>!lt2 (ltI bs k) xs (p.toNat-c) c) (j.toNat-i.toNat) i.toNat j.toNat
theorem loop299a{ρ:Type} (K:Exit->St->Option ρ) {bs:List bxT.den} {k:Int} {xs:List Int} (h:okI bs xs=true) (hk:isAx k) (hl:xs.length<=1000) {a i j:Nat} (ha:a<xs.length) (hij:i<=j) (hj:j<=xs.length) :
  itF (turnF bgE A299 177 4 0 (loopAt Tryz.f192 0) K) (fun _=>none) (j-i+1) (s299a bs k xs a i j)=K (.exit 0) (s299ao bs k xs a (b299a bs k xs a i j)):=
 itF_bsr (σ:=fun i j=>s299a bs k xs a i j) (f:=fun h=>lt2 (ltI bs k) xs h a) (fin:=fun i=>K (.exit 0) (s299ao bs k xs a i)) (lo:=i) (hi:=j)
  (fun go u v h1 h2 h3=>by
   rw[turn299a,decide_eq_true (by omega),cond_true,hlf_eq (i:=u) (j:=v) (by omega),lokT_two h hk (j:=(u+v) / 2) (w:=a) (by omega) ha,show IntKind.i64.wrap ((((u+v) / 2:Nat):Int)+1)=(((u+v) / 2+1:Nat):Int)by rw[IntKind.wrap_i64];omega])
  (fun go u=>by rw[turn299a,decide_eq_false (by omega),cond_false]) (j-i) i j (Nat.le_refl _) hij (Nat.le_refl _) (Nat.le_refl _)
theorem loop299c{ρ:Type} (K:Exit->St->Option ρ) {bs:List bxT.den} {k:Int} {xs:List Int} (h:okI bs xs=true) (hk:isAx k) (hl:xs.length<=1000) {m i j:Nat} (hm:m<xs.length) (hij:i<=j) (hj:j<=xs.length) :
  itF (turnF bgE A299 177 4 0 (loopAt Tryz.f192 2) K) (fun _=>none) (j-i+1) (s299c bs k xs i j m)=K (.exit 4) (s299co bs k xs (b299c bs k xs m i j) m):=
 itF_bsr (σ:=fun i j=>s299c bs k xs i j m) (f:=fun h=>!lt2 (ltI bs k) xs m h) (fin:=fun i=>K (.exit 4) (s299co bs k xs i m)) (lo:=i) (hi:=j)
  (fun go u v h1 h2 h3=>by
   rw[turn299c,decide_eq_true (by omega),cond_true,hlf_eq (i:=u) (j:=v) (by omega),lokT_two h hk (j:=m) (w:=(u+v) / 2) hm (by omega),show IntKind.i64.wrap ((((u+v) / 2:Nat):Int)+1)=(((u+v) / 2+1:Nat):Int)by rw[IntKind.wrap_i64];omega])
  (fun go u=>by rw[turn299c,decide_eq_false (by omega),cond_false]) (j-i) i j (Nat.le_refl _) hij (Nat.le_refl _) (Nat.le_refl _)
theorem loop299e{ρ:Type} (K:Exit->St->Option ρ) {bs:List bxT.den} {k:Int} {xs:List Int} (h:okI bs xs=true) (hk:isAx k) (hl:xs.length<=1000) {i j p:Nat} (a m b z n:Int) (hij:i<=j) (hj:j<=xs.length) (hp:j<=p+1) (hp2:p<xs.length+i) :
  itF (turnF bgE A299 177 4 0 (loopAt Tryz.f192 4) K) (fun _=>none) (j-i+1) (s299e bs k xs a i j m b z n p)=K (.exit 8) (s299eo bs k xs a (b299e bs k xs p i j) m b z n):=
 itF_bsr (σ:=fun i j=>s299e bs k xs a i j m b z n p) (f:=fun c=>!lt2 (ltI bs k) xs (p-c) c) (fin:=fun i=>K (.exit 8) (s299eo bs k xs a i m b z n)) (lo:=i) (hi:=j)
  (fun go u v h1 h2 h3=>by
   rw[turn299e,decide_eq_true (by omega),cond_true,hlf_eq (i:=u) (j:=v) (by omega),show IntKind.i64.wrap ((p:Int)-(((u+v) / 2:Nat):Int))=((p-(u+v) / 2:Nat):Int)by rw[IntKind.wrap_i64];omega,lokT_two h hk (j:=p-(u+v) / 2) (w:=(u+v) / 2) (by omega) (by omega),show IntKind.i64.wrap ((((u+v) / 2:Nat):Int)+1)=(((u+v) / 2+1:Nat):Int)by rw[IntKind.wrap_i64];omega])
  (fun go u=>by rw[turn299e,decide_eq_false (by omega),cond_false]) (j-i) i j (Nat.le_refl _) hij (Nat.le_refl _) (Nat.le_refl _)
theorem loop299b{ρ:Type} (K:Exit->St->Option ρ) (bs:List bxT.den) (k:Int) {xs:List Int} (hl:xs.length<=1000) {a i:Nat} (hi:i<=xs.length):∀ (m j:Nat),a<=j->j+1+m=i ->
  itF (turnF bgE A299 177 4 0 (loopAt Tryz.f192 1) K) (fun _=>none) (m+1) (s299b bs k (rotL xs a (a+1) (j+1)) i j)=K (.exit 2) ⟨[],hpS bs k (rotL xs a (a+1) i)⟩
 | 0,j,h,e=>by
  show turnF _ _ _ _ _ _ _ _ _=_;rw[turn299b,show IntKind.i64.wrap ((i:Int)-1)=(j:Int)by rw[IntKind.wrap_i64];omega,decide_eq_false (by omega),cond_false,show j+1=i by omega]
 | m+1,j,h,e=>by
  have hz:=rot_len (xs:=xs) (a:=a) (m:=a+1) (b:=j+1) (by omega) (by omega) (by omega);show turnF _ _ _ _ _ _ _ _ _=_;rw[turn299b,show IntKind.i64.wrap ((i:Int)-1)=((i-1:Nat):Int)by rw[IntKind.wrap_i64];omega,decide_eq_true (by omega),cond_true,show IntKind.i64.wrap ((j:Int)+1)=((j+1:Nat):Int)by rw[IntKind.wrap_i64];omega,
   swT_eq (xs:=rotL xs a (a+1) (j+1)) (j:=j) (w:=j+1) (by omega) (by omega),rot_up (xs:=xs) h (by omega)]
  exact loop299b K bs k hl hi m (j+1) (by omega) (by omega)
theorem loop299d{ρ:Type} (K:Exit->St->Option ρ) (bs:List bxT.den) (k:Int) {xs:List Int} (hl:xs.length<=1000) {i w:Nat} (hw:w<xs.length):∀ (m j:Nat),j<=w->i+m=j ->
  itF (turnF bgE A299 177 4 0 (loopAt Tryz.f192 3) K) (fun _=>none) (m+1) (s299d bs k (rotL xs j w (w+1)) i j)=K (.exit 6) ⟨[],hpS bs k (rotL xs i w (w+1))⟩
 | 0,j,h,e=>by
  show turnF _ _ _ _ _ _ _ _ _=_;rw[turn299d,decide_eq_false (by omega),cond_false,show j=i by omega]
 | m+1,0,h,e=>by omega
 | m+1,j+1,h,e=>by
  have hz:=rot_len (xs:=xs) (a:=j+1) (m:=w) (b:=w+1) (by omega) (by omega) (by omega);show turnF _ _ _ _ _ _ _ _ _=_;rw[turn299d,decide_eq_true (by omega),cond_true,wr_pred (by omega),
   swT_eq (xs:=rotL xs (j+1) w (w+1)) (j:=j+1) (w:=j) (by omega) (by omega),rot_down (xs:=xs) (j:=j) (by omega) hw]
  exact loop299d K bs k hl hw m j (by omega) (by omega)
noncomputable def S299a:Sum:=fun n0 ρ σ K=>match n0,σ with
 | 4,⟨[(1,.v false [.int .i64 a]),(4,.v false [.ptr 4 0]),(8,.v false [.int .i64 i]),(9,.v false [.int .i64 j])],
   [.var [.sl none (.pair (.pair (.num 0) (.pair (.num 0) (.num 0))) (.pair (.num 0) (.pair (.num 0) (.num 0)))) bs],.var [.wsl 3 1],.var [.int .i64 k],.arr 3 (.int .i64) xs false false,.var [.fn 143 [(0,0),(1,0),(2,0)],.bfn 162 3 0 3]]⟩ =>
  if(okI bs xs=true/\isAx k)/\0<=a/\a<(List.length (α:=Int) xs:Int)/\0<=i/\i<=j/\j<=(List.length (α:=Int) xs:Int)/\(List.length (α:=Int) xs:Int)<=1000 then K (.exit 0) (s299ao bs k xs a (b299a bs k xs a i j))else none
 | _,_=>none
theorem sum299a:SumOK NN Tryz.prog 177 (loopAt Tryz.f192 0) S299a:=
 SumOK.of_turns bgE_ok mixT (A:=A299) (SumsOK.none fun _=>rfl) fun n0 ρ σ K r h=>by
  unfold S299a at h;split at h
  ·rename_i a i j bs k xs;split at h
   ·rename_i hc;obtain⟨⟨h1,h2⟩,h3,h4,h5,h6,h7,h8⟩:=hc;obtain⟨a',rfl⟩:=Int.eq_ofNat_of_zero_le h3;obtain⟨i',rfl⟩:=Int.eq_ofNat_of_zero_le h5;obtain⟨j',rfl⟩:=Int.eq_ofNat_of_zero_le (show 0<=j by omega);exact⟨_,(loop299a K h1 h2 (by omega) (a:=a') (i:=i') (j:=j') (by omega) (by omega) (by omega)).trans h⟩
   ·contradiction
  ·contradiction
noncomputable def S299b:Sum:=fun n0 ρ σ K=>match n0,σ with
 | 4,⟨[(4,.v false [.ptr 4 0]),(8,.v false [.int .i64 i]),(11,.v false [.int .i64 j])],
   [.var [.sl none (.pair (.pair (.num 0) (.pair (.num 0) (.num 0))) (.pair (.num 0) (.pair (.num 0) (.num 0)))) bs],.var [.wsl 3 1],.var [.int .i64 k],.arr 3 (.int .i64) xs false false,.var [.fn 143 [(0,0),(1,0),(2,0)],.bfn 162 3 0 3]]⟩ =>
  if 0<=j/\j<i/\i<=(List.length (α:=Int) xs:Int)/\(List.length (α:=Int) xs:Int)<=1000 then K (.exit 2) ⟨[],hpS bs k (rotA xs j (j+1) i)⟩else none
 | _,_=>none
theorem sum299b:SumOK NN Tryz.prog 177 (loopAt Tryz.f192 1) S299b:=
 SumOK.of_turns bgE_ok mixT (A:=A299) (SumsOK.none fun _=>rfl) fun n0 ρ σ K r h=>by
  unfold S299b at h;split at h
  ·rename_i i j bs k xs;split at h
   ·rename_i hc;obtain⟨h1,h2,h3,h4⟩:=hc;obtain⟨i',rfl⟩:=Int.eq_ofNat_of_zero_le (show 0<=i by omega);obtain⟨j',rfl⟩:=Int.eq_ofNat_of_zero_le h1;have ht:=loop299b K bs k (xs:=xs) (by omega) (a:=j') (i:=i') (by omega) (i'-j'-1) j' (Nat.le_refl _) (by omega);rw[rot_id (.inr rfl) (by omega) (by omega) (by omega)]at ht;unfold rotA at h;rw[Int.toNat_natCast,Int.toNat_natCast,show ((j':Int)+1).toNat=j'+1 by omega]at h;exact⟨_,ht.trans h⟩
   ·contradiction
  ·contradiction
noncomputable def S299c:Sum:=fun n0 ρ σ K=>match n0,σ with
 | 4,⟨[(2,.v false [.int .i64 m]),(4,.v false [.ptr 4 0]),(12,.v false [.int .i64 i]),(13,.v false [.int .i64 j])],
   [.var [.sl none (.pair (.pair (.num 0) (.pair (.num 0) (.num 0))) (.pair (.num 0) (.pair (.num 0) (.num 0)))) bs],.var [.wsl 3 1],.var [.int .i64 k],.arr 3 (.int .i64) xs false false,.var [.fn 143 [(0,0),(1,0),(2,0)],.bfn 162 3 0 3]]⟩ =>
  if(okI bs xs=true/\isAx k)/\0<=m/\m<(List.length (α:=Int) xs:Int)/\0<=i/\i<=j/\j<=(List.length (α:=Int) xs:Int)/\(List.length (α:=Int) xs:Int)<=1000 then K (.exit 4) (s299co bs k xs (b299c bs k xs m i j) m)else none
 | _,_=>none
theorem sum299c:SumOK NN Tryz.prog 177 (loopAt Tryz.f192 2) S299c:=
 SumOK.of_turns bgE_ok mixT (A:=A299) (SumsOK.none fun _=>rfl) fun n0 ρ σ K r h=>by
  unfold S299c at h;split at h
  ·rename_i m i j bs k xs;split at h
   ·rename_i hc;obtain⟨⟨h1,h2⟩,h3,h4,h5,h6,h7,h8⟩:=hc;obtain⟨m',rfl⟩:=Int.eq_ofNat_of_zero_le h3;obtain⟨i',rfl⟩:=Int.eq_ofNat_of_zero_le h5;obtain⟨j',rfl⟩:=Int.eq_ofNat_of_zero_le (show 0<=j by omega);exact⟨_,(loop299c K h1 h2 (by omega) (m:=m') (i:=i') (j:=j') (by omega) (by omega) (by omega)).trans h⟩
   ·contradiction
  ·contradiction
noncomputable def S299d:Sum:=fun n0 ρ σ K=>match n0,σ with
 | 4,⟨[(4,.v false [.ptr 4 0]),(12,.v false [.int .i64 i]),(15,.v false [.int .i64 j])],
   [.var [.sl none (.pair (.pair (.num 0) (.pair (.num 0) (.num 0))) (.pair (.num 0) (.pair (.num 0) (.num 0)))) bs],.var [.wsl 3 1],.var [.int .i64 k],.arr 3 (.int .i64) xs false false,.var [.fn 143 [(0,0),(1,0),(2,0)],.bfn 162 3 0 3]]⟩ =>
  if 0<=i/\i<=j/\j<(List.length (α:=Int) xs:Int)/\(List.length (α:=Int) xs:Int)<=1000 then K (.exit 6) ⟨[],hpS bs k (rotA xs i j (j+1))⟩else none
 | _,_=>none
theorem sum299d:SumOK NN Tryz.prog 177 (loopAt Tryz.f192 3) S299d:=
 SumOK.of_turns bgE_ok mixT (A:=A299) (SumsOK.none fun _=>rfl) fun n0 ρ σ K r h=>by
  unfold S299d at h;split at h
  ·rename_i i j bs k xs;split at h
   ·rename_i hc;obtain⟨h1,h2,h3,h4⟩:=hc;obtain⟨i',rfl⟩:=Int.eq_ofNat_of_zero_le h1;obtain⟨j',rfl⟩:=Int.eq_ofNat_of_zero_le (show 0<=j by omega);have ht:=loop299d K bs k (xs:=xs) (by omega) (i:=i') (w:=j') (by omega) (j'-i') j' (Nat.le_refl _) (by omega);rw[rot_id (.inl rfl) (by omega) (by omega) (by omega)]at ht;unfold rotA at h;rw[Int.toNat_natCast,Int.toNat_natCast,show ((j':Int)+1).toNat=j'+1 by omega]at h;exact⟨_,ht.trans h⟩
   ·contradiction
  ·contradiction
noncomputable def S299e:Sum:=fun n0 ρ σ K=>match n0,σ with
 | 4,⟨[(1,.v false [.int .i64 a]),(2,.v false [.int .i64 m]),(3,.v false [.int .i64 b]),(4,.v false [.ptr 4 0]),(16,.v false [.int .i64 z]),(17,.v false [.int .i64 n]),(18,.v false [.int .i64 i]),(19,.v false [.int .i64 j]),(20,.v false [.int .i64 p])],
   [.var [.sl none (.pair (.pair (.num 0) (.pair (.num 0) (.num 0))) (.pair (.num 0) (.pair (.num 0) (.num 0)))) bs],.var [.wsl 3 1],.var [.int .i64 k],.arr 3 (.int .i64) xs false false,.var [.fn 143 [(0,0),(1,0),(2,0)],.bfn 162 3 0 3]]⟩ =>
  if(okI bs xs=true/\isAx k)/\0<=i/\i<=j/\j<=(List.length (α:=Int) xs:Int)/\(List.length (α:=Int) xs:Int)<=1000/\0<=p/\j<=p+1/\p<(List.length (α:=Int) xs:Int)+i then K (.exit 8) (s299eo bs k xs a (b299e bs k xs p i j) m b z n)else none
 | _,_=>none
theorem sum299e:SumOK NN Tryz.prog 177 (loopAt Tryz.f192 4) S299e:=
 SumOK.of_turns bgE_ok mixT (A:=A299) (SumsOK.none fun _=>rfl) fun n0 ρ σ K r h=>by
  unfold S299e at h;split at h
  ·rename_i a m b z n i j p bs k xs;split at h
   ·rename_i hc;obtain⟨⟨h1,h2⟩,h3,h4,h5,h6,h7,h8,h9⟩:=hc;obtain⟨i',rfl⟩:=Int.eq_ofNat_of_zero_le h3;obtain⟨j',rfl⟩:=Int.eq_ofNat_of_zero_le (show 0<=j by omega);obtain⟨p',rfl⟩:=Int.eq_ofNat_of_zero_le h7;exact⟨_,(loop299e K h1 h2 (by omega) (i:=i') (j:=j') (p:=p') a m b z n (by omega) (by omega) (by omega) (by omega)).trans h⟩
   ·contradiction
  ·contradiction
end Go.Abs
namespace Go.Abs
open Go.Proofs
set_option maxRecDepth 100000
def syLo(a m b:Nat):Nat:=if(a+b) / 2<m then(a+b) / 2+m-b else a
def syHi(a m b:Nat):Nat:=if(a+b) / 2<m then(a+b) / 2 else m
def syS(lt:Int->Int->Bool) (xs:List Int) (a m b:Nat):Nat:=bsr (fun c=>!lt2 lt xs ((a+b) / 2+m-1-c) c) (syHi a m b-syLo a m b) (syLo a m b) (syHi a m b)
theorem sy_rng{a m b:Nat} (h1:a<m) (h2:m<b):a<=syLo a m b/\syLo a m b<=syHi a m b/\syHi a m b<=m/\syHi a m b<=(a+b) / 2/\(a+b) / 2+m<=b+syLo a m b/\m+syHi a m b<=(a+b) / 2+m:=by
 unfold syLo syHi
 by_cases c:(a+b) / 2<m
 ·rw[if_pos c,if_pos c];omega
 ·rw[if_neg c,if_neg c];omega
theorem syS_rng(lt:Int->Int->Bool) (xs:List Int) {a m b:Nat} (h1:a<m) (h2:m<b):a<=syS lt xs a m b/\syS lt xs a m b<=m/\syS lt xs a m b<=(a+b) / 2/\m<=(a+b) / 2+m-syS lt xs a m b/\(a+b) / 2+m-syS lt xs a m b<=b:=by
 have h:=sy_rng h1 h2;have hb:=bsr_ok (fun c=>!lt2 lt xs ((a+b) / 2+m-1-c) c) (syHi a m b-syLo a m b) (syLo a m b) (syHi a m b) h.2.1 (Nat.le_refl _);have e:syS lt xs a m b=bsr (fun c=>!lt2 lt xs ((a+b) / 2+m-1-c) c) (syHi a m b-syLo a m b) (syLo a m b) (syHi a m b):=rfl;rw[<- e]at hb;omega
def symF(lt:Int->Int->Bool):Nat->List Int->Nat->Nat->Nat->List Int
 | 0,xs,a,m,b=>xs
 | n+1,xs,a,m,b=>if m-a=1 then rotL xs a (a+1) (bsr (fun h=>lt2 lt xs h a) (b-m) m b)
  else if b-m=1 then rotL xs (bsr (fun h=>!lt2 lt xs m h) (m-a) a m) m (m+1)
  else(fun ys=>(fun zs=>if(a+b) / 2<(a+b) / 2+m-syS lt xs a m b/\(a+b) / 2+m-syS lt xs a m b<b then symF lt n zs ((a+b) / 2) ((a+b) / 2+m-syS lt xs a m b) b else zs)
    (if a<syS lt xs a m b/\syS lt xs a m b<(a+b) / 2 then symF lt n ys a (syS lt xs a m b) ((a+b) / 2)else ys))
   (if syS lt xs a m b<m/\m<(a+b) / 2+m-syS lt xs a m b then rotL xs (syS lt xs a m b) m ((a+b) / 2+m-syS lt xs a m b)else xs)
theorem symF_perm{lt:Int->Int->Bool}:∀ (n:Nat) {xs:List Int} {a m b:Nat},a<m->m<b->b<=xs.length->(symF lt n xs a m b).Perm xs
 | 0,xs,a,m,b,h1,h2,h3=>List.Perm.refl _
 | n+1,xs,a,m,b,h1,h2,h3=>by
  unfold symF
  by_cases c1:m-a=1
  ·rw[if_pos c1];have hb:=bsr_ok (fun h=>lt2 lt xs h a) (b-m) m b (by omega) (by omega);exact rot_perm (by omega) (by omega) (by omega)
  ·rw[if_neg c1]
   by_cases c2:b-m=1
   ·rw[if_pos c2];have hb:=bsr_ok (fun h=>!lt2 lt xs m h) (m-a) a m (by omega) (by omega);exact rot_perm (by omega) (by omega) (by omega)
   ·rw[if_neg c2];dsimp only;have hs:=syS_rng lt xs h1 h2;revert hs;generalize syS lt xs a m b=s;intro hs;have p1:(if s<m/\m<(a+b) / 2+m-s then rotL xs s m ((a+b) / 2+m-s)else xs).Perm xs:=by
     split
     ·exact rot_perm (by omega) (by omega) (by omega)
     ·exact List.Perm.refl _
    revert p1;generalize (if s<m/\m<(a+b) / 2+m-s then rotL xs s m ((a+b) / 2+m-s)else xs)=ys;intro p1;have p2:(if a<s/\s<(a+b) / 2 then symF lt n ys a s ((a+b) / 2)else ys).Perm xs:=by
     split
     ·rename_i c;exact(symF_perm n c.1 c.2 (by rw[p1.length_eq];omega)).trans p1
     ·exact p1
    revert p2;generalize (if a<s/\s<(a+b) / 2 then symF lt n ys a s ((a+b) / 2)else ys)=zs;intro p2;split
    ·rename_i c;exact(symF_perm n c.1 c.2 (by rw[p2.length_eq];omega)).trans p2
    ·exact p2
noncomputable def syI(n:Nat) (bs:List bxT.den) (k:Int) (xs:List Int) (a m b:Int):List Int:=symF (ltI bs k) n xs a.toNat m.toNat b.toNat
abbrev syG(n:Nat) (bs:List bxT.den) (k:Int) (xs:List Int) (a m b:Int):Prop:=(okI bs xs=true/\isAx k)/\0<=a/\a<m/\m<b/\b<=(xs.length:Int)/\(xs.length:Int)<=1000/\b-a<=(n:Int)
noncomputable def syO(n:Nat):Orc:=fun ρ args H cont=>match args,H with
 | [.v true [.fn 143 [(0,0),(1,0),(2,0)],.bfn 162 3 0 3],.v false [.int .i64 a],.v false [.int .i64 m],.v false [.int .i64 b]],[.var [.sl none (.pair (.pair (.num 0) (.pair (.num 0) (.num 0))) (.pair (.num 0) (.pair (.num 0) (.num 0)))) bs],.var [.wsl 3 1],.var [.int .i64 k],.arr 3 (.int .i64) xs false false] =>
  if syG n bs k xs a m b then cont (.tup []) (hpS bs k (syI n bs k xs a m b))else none
 | _,_=>none
noncomputable def syE(n:Nat):Env:=VZ [(143,lessO),(204,rotO),(192,syO n)]
noncomputable def A299s:Ann:={ A299 with sum:=fun i=>bif Nat.beq i 4 then some S299a else bif Nat.beq i 10 then some S299b else bif Nat.beq i 16 then some S299c else bif Nat.beq i 22 then some S299d else bif Nat.beq i 34 then some S299e else none }
section
variable {ρ:Type} (n:Nat) (bs:List bxT.den) (k:Int) (f:List Int->Option ρ)
def pk{α:Type} (c1 c2:Bool) (A B:α):α:=bif c1 then(bif (bif true then c2 else false)then A else B)else B
def rotC(xs:List Int) (s m e:Int) (f:List Int->Option ρ):Option ρ:=if 0<=s/\s<m/\m<e/\e<=(xs.length:Int)/\(xs.length:Int)<=1000 then f (rotA xs s m e)else none
noncomputable def syC(xs:List Int) (a m b:Int) (f:List Int->Option ρ):Option ρ:=if syG n bs k xs a m b then f (syI n bs k xs a m b)else none
noncomputable def syTc(xs:List Int) (mid e b:Int):Option ρ:=pk (decide (mid<e)) (decide (e<b)) (syC n bs k xs mid e b f) (f xs)
noncomputable def syTb(xs:List Int) (a s e mid b:Int):Option ρ:=pk (decide (a<s)) (decide (s<mid)) (syC n bs k xs a s mid fun zs=>syTc n bs k f zs mid e b) (syTc n bs k f xs mid e b)
noncomputable def syTa(xs:List Int) (a s m e mid b:Int):Option ρ:=pk (decide (s<m)) (decide (m<e)) (rotC xs s m e fun ys=>syTb n bs k f ys a s e mid b) (syTb n bs k f xs a s e mid b)
noncomputable def sySr(xs:List Int) (a m b mid nn p i j:Int):Option ρ:=if(okI bs xs=true/\isAx k)/\0<=i/\i<=j/\j<=(xs.length:Int)/\(xs.length:Int)<=1000/\0<=p/\j<=p+1/\p<(xs.length:Int)+i then syTa n bs k f xs a (b299e bs k xs p i j) m (IntKind.i64.wrap (nn-(b299e bs k xs p i j:Int))) mid b else none
noncomputable def syL(xs:List Int) (a m b:Int):Option ρ:=if(okI bs xs=true/\isAx k)/\0<=a/\a<(xs.length:Int)/\0<=m/\m<=b/\b<=(xs.length:Int)/\(xs.length:Int)<=1000 then
 if 0<=a/\a<(b299a bs k xs a m b:Int)/\(b299a bs k xs a m b:Int)<=(xs.length:Int)/\(xs.length:Int)<=1000 then f (rotA xs a (a+1) (b299a bs k xs a m b))else none else none
noncomputable def syR(xs:List Int) (a m:Int):Option ρ:=if(okI bs xs=true/\isAx k)/\0<=m/\m<(xs.length:Int)/\0<=a/\a<=m/\m<=(xs.length:Int)/\(xs.length:Int)<=1000 then
 if 0<=(b299c bs k xs m a m:Int)/\(b299c bs k xs m a m:Int)<=m/\m<(xs.length:Int)/\(xs.length:Int)<=1000 then f (rotA xs (b299c bs k xs m a m) m (m+1))else none else none
end
theorem gq299{ρ:Type} (n:Nat) (cont:SV->HL->Option ρ) (bs:List bxT.den) (k:Int) (xs:List Int) (a m b:Int):runF (syE n) A299s 0 Tryz.f192 (bodyOf Tryz.f192) ρ [.v true dtA,one (.int .i64 a),one (.int .i64 m),one (.int .i64 b)] (hpS bs k xs) cont =
  bif IntKind.i64.wrap (m-a)==1 then syL bs k (fun ys=>cont (.tup []) (hpS bs k ys)) xs a m b
  else bif IntKind.i64.wrap (b-m)==1 then syR bs k (fun ys=>cont (.tup []) (hpS bs k ys)) xs a m
  else bif decide (hlf a b<m)then sySr n bs k (fun ys=>cont (.tup []) (hpS bs k ys)) xs a m b (hlf a b) (IntKind.i64.wrap (hlf a b+m)) (IntKind.i64.wrap (IntKind.i64.wrap (hlf a b+m)-1)) (IntKind.i64.wrap (IntKind.i64.wrap (hlf a b+m)-b)) (hlf a b)
  else sySr n bs k (fun ys=>cont (.tup []) (hpS bs k ys)) xs a m b (hlf a b) (IntKind.i64.wrap (hlf a b+m)) (IntKind.i64.wrap (IntKind.i64.wrap (hlf a b+m)-1)) a m:=by kernel_rfl
theorem pk_eq{α:Type} {p q:Prop} [Decidable p] [Decidable q] (A B:α):pk (decide p) (decide q) A B=if p/\q then A else B:=by
 unfold pk
 by_cases hp:p <;> by_cases hq:q <;> simp [hp,hq]
section
variable {ρ:Type} {n:Nat} {bs:List bxT.den} {k:Int} {f:List Int->Option ρ}
theorem syC_eq{xs:List Int} (h:okI bs xs=true) (hk:isAx k) (hl:xs.length<=1000) {a m b:Nat} (h1:a<m) (h2:m<b) (h3:b<=xs.length) (h4:b-a<=n):syC n bs k xs a m b f=f (symF (ltI bs k) n xs a m b):=by
 unfold syC syI;rw[if_pos ⟨⟨h,hk⟩,by omega,by omega,by omega,by omega,by omega,by omega⟩,Int.toNat_natCast,Int.toNat_natCast,Int.toNat_natCast]
theorem syTc_eq{xs:List Int} (h:okI bs xs=true) (hk:isAx k) (hl:xs.length<=1000) {mid e b:Nat} (h3:b<=xs.length) (h4:b-mid<=n):syTc n bs k f xs mid e b=f (if mid<e/\e<b then symF (ltI bs k) n xs mid e b else xs):=by
 unfold syTc;rw[pk_eq]
 by_cases c:mid<e/\e<b
 ·rw[if_pos c,if_pos ⟨by omega,by omega⟩,syC_eq h hk hl c.1 c.2 h3 h4]
 ·rw[if_neg c,if_neg (by omega)]
theorem syTb_eq{xs:List Int} (h:okI bs xs=true) (hk:isAx k) (hl:xs.length<=1000) {a s mid e b:Nat} (h2:mid<=b) (h3:b<=xs.length) (h4:b-mid<=n) (h5:mid-a<=n):syTb n bs k f xs a s e mid b=f ((fun zs=>if mid<e/\e<b then symF (ltI bs k) n zs mid e b else zs) (if a<s/\s<mid then symF (ltI bs k) n xs a s mid else xs)):=by
 unfold syTb;rw[pk_eq]
 by_cases c:a<s/\s<mid
 ·have hp:=symF_perm (lt:=ltI bs k) n (xs:=xs) c.1 c.2 (by omega);rw[if_pos c,if_pos ⟨by omega,by omega⟩,syC_eq h hk hl c.1 c.2 (by omega) h5,syTc_eq (okI_perm h hp) hk (by rw[hp.length_eq];exact hl) (by rw[hp.length_eq];exact h3) h4]
 ·rw[if_neg c,if_neg (by omega),syTc_eq h hk hl h3 h4]
theorem syTa_eq{xs:List Int} (h:okI bs xs=true) (hk:isAx k) (hl:xs.length<=1000) {a s m mid e b:Nat} (h0:e<=b) (h2:mid<=b) (h3:b<=xs.length) (h4:b-mid<=n) (h5:mid-a<=n):syTa n bs k f xs a s m e mid b =
  f ((fun ys=>(fun zs=>if mid<e/\e<b then symF (ltI bs k) n zs mid e b else zs) (if a<s/\s<mid then symF (ltI bs k) n ys a s mid else ys)) (if s<m/\m<e then rotL xs s m e else xs)):=by
 unfold syTa;rw[pk_eq]
 by_cases c:s<m/\m<e
 ·have hp:=rot_perm (xs:=xs) (a:=s) (m:=m) (b:=e) (by omega) (by omega) (by omega);rw[if_pos c,if_pos ⟨by omega,by omega⟩];unfold rotC rotA;rw[if_pos ⟨by omega,by omega,by omega,by omega,by omega⟩,Int.toNat_natCast,Int.toNat_natCast,Int.toNat_natCast];exact syTb_eq (okI_perm h hp) hk (by rw[hp.length_eq];exact hl) h2 (by rw[hp.length_eq];exact h3) h4 h5
 ·rw[if_neg c,if_neg (by omega),syTb_eq h hk hl h2 h3 h4 h5]
theorem syL_eq{xs:List Int} (h:okI bs xs=true) (hk:isAx k) (hl:xs.length<=1000) {a m b:Nat} (h1:a<m) (h2:m<b) (h3:b<=xs.length):syL bs k f xs a m b=f (rotL xs a (a+1) (bsr (fun h=>lt2 (ltI bs k) xs h a) (b-m) m b)):=by
 have hb:=bsr_ok (fun h=>lt2 (ltI bs k) xs h a) (b-m) m b (by omega) (by omega);have e:b299a bs k xs a m b=bsr (fun h=>lt2 (ltI bs k) xs h a) (b-m) m b:=rfl;unfold syL rotA;rw[e];revert hb;generalize bsr (fun h=>lt2 (ltI bs k) xs h a) (b-m) m b=z;intro hb;rw[if_pos ⟨⟨h,hk⟩,by omega,by omega,by omega,by omega,by omega,by omega⟩,if_pos ⟨by omega,by omega,by omega,by omega⟩,Int.toNat_natCast,Int.toNat_natCast,show ((a:Int)+1).toNat=a+1 by omega]
theorem syR_eq{xs:List Int} (h:okI bs xs=true) (hk:isAx k) (hl:xs.length<=1000) {a m:Nat} (h1:a<m) (h2:m<xs.length):syR bs k f xs a m=f (rotL xs (bsr (fun h=>!lt2 (ltI bs k) xs m h) (m-a) a m) m (m+1)):=by
 have hb:=bsr_ok (fun h=>!lt2 (ltI bs k) xs m h) (m-a) a m (by omega) (by omega);have e:b299c bs k xs m a m=bsr (fun h=>!lt2 (ltI bs k) xs m h) (m-a) a m:=rfl;unfold syR rotA;rw[e];revert hb;generalize bsr (fun h=>!lt2 (ltI bs k) xs m h) (m-a) a m=z;intro hb;rw[if_pos ⟨⟨h,hk⟩,by omega,by omega,by omega,by omega,by omega,by omega⟩,if_pos ⟨by omega,by omega,by omega,by omega⟩,Int.toNat_natCast,Int.toNat_natCast,show ((m:Int)+1).toNat=m+1 by omega]
theorem sySr_eq{xs:List Int} (h:okI bs xs=true) (hk:isAx k) (hl:xs.length<=1000) {a m b:Nat} (h1:a<m) (h2:m<b) (h3:b<=xs.length) (h4:b-a<=n+1):sySr n bs k f xs a m b ((a+b) / 2:Nat) ((a+b) / 2+m:Nat) ((a+b) / 2+m-1:Nat) (syLo a m b) (syHi a m b) =
  f ((fun ys=>(fun zs=>if(a+b) / 2<(a+b) / 2+m-syS (ltI bs k) xs a m b/\(a+b) / 2+m-syS (ltI bs k) xs a m b<b then symF (ltI bs k) n zs ((a+b) / 2) ((a+b) / 2+m-syS (ltI bs k) xs a m b) b else zs)
    (if a<syS (ltI bs k) xs a m b/\syS (ltI bs k) xs a m b<(a+b) / 2 then symF (ltI bs k) n ys a (syS (ltI bs k) xs a m b) ((a+b) / 2)else ys))
   (if syS (ltI bs k) xs a m b<m/\m<(a+b) / 2+m-syS (ltI bs k) xs a m b then rotL xs (syS (ltI bs k) xs a m b) m ((a+b) / 2+m-syS (ltI bs k) xs a m b)else xs)):=by
 have hr:=sy_rng h1 h2;have hs:=syS_rng (ltI bs k) xs h1 h2;have e:b299e bs k xs ((a+b) / 2+m-1:Nat) (syLo a m b) (syHi a m b)=syS (ltI bs k) xs a m b:=rfl;unfold sySr;rw[e];revert hs;generalize syS (ltI bs k) xs a m b=s;intro hs;have w:IntKind.i64.wrap ((((a+b) / 2+m:Nat):Int)-(s:Int))=(((a+b) / 2+m-s:Nat):Int):=by rw[IntKind.wrap_i64];omega
 rw[if_pos ⟨⟨h,hk⟩,by omega,by omega,by omega,by omega,by omega,by omega,by omega⟩,w];exact syTa_eq h hk hl (by omega) (by omega) h3 (by omega) (by omega)
end
theorem sums299:SumsOK NN Tryz.prog A299s 177 (bodyOf Tryz.f192):=SumsOK.ofL (ls:=[loopAt Tryz.f192 0,loopAt Tryz.f192 1,loopAt Tryz.f192 2,loopAt Tryz.f192 3,loopAt Tryz.f192 4]) (by kernel_rfl) ⟨sumL1 (by kernel_rfl) sum299a,sumL1 (by kernel_rfl) sum299b,sumL1 (by kernel_rfl) sum299c,sumL1 (by kernel_rfl) sum299d,sumL1 (by kernel_rfl) sum299e,trivial⟩
theorem orc_sy:∀ n,OrcOK NN Tryz.prog 192 (syO n)
 | 0=>OrcOK.of_tale (runF_ok bgE_ok mixT (A:=A299s) (fuel:=0) Tryz.func192 (c:=bodyOf Tryz.f192) (by kernel_rfl) sums299) fun ρ args H cont r hr=>by
  exfalso;unfold syO at hr;split at hr
  ·rename_i a m b bs k xs;split at hr
   ·rename_i hc;obtain⟨_,h1,h2,h3,h4,h5,h6⟩:=hc;omega
   ·contradiction
  ·contradiction
 | n+1=>OrcOK.of_tale (runF_ok (show EnvOK NN Tryz.prog (syE n)from VZ_ok (gamC orc_less Tryz.call143 (gamC orc_rot Tryz.call204 (gamC (orc_sy n) Tryz.call192 (gamN _ _))))) mixT (A:=A299s) (fuel:=0) Tryz.func192 (c:=bodyOf Tryz.f192) (by kernel_rfl) sums299) fun ρ args H cont r hr=>by
  unfold syO at hr;split at hr
  ·rename_i a m b bs k xs;split at hr
   ·rename_i hc;obtain⟨⟨h,hk⟩,h1,h2,h3,h4,h5,h6⟩:=hc;obtain⟨a',rfl⟩:=Int.eq_ofNat_of_zero_le h1;obtain⟨m',rfl⟩:=Int.eq_ofNat_of_zero_le (show 0<=m by omega);obtain⟨b',rfl⟩:=Int.eq_ofNat_of_zero_le (show 0<=b by omega);refine(gq299 n cont bs k xs a' m' b').trans ?_;unfold syI at hr;rw[Int.toNat_natCast,Int.toNat_natCast,Int.toNat_natCast]at hr;refine Eq.trans ?_ hr;unfold symF;have w1:IntKind.i64.wrap ((m':Int)-(a':Int))=((m'-a':Nat):Int):=by rw[IntKind.wrap_i64];omega
    have w2:IntKind.i64.wrap ((b':Int)-(m':Int))=((b'-m':Nat):Int):=by rw[IntKind.wrap_i64];omega
    have w3:=hlf_eq (i:=a') (j:=b') (by omega);rw[w1,w2,w3]
    by_cases c1:m'-a'=1
    ·rw[if_pos c1,c1];exact syL_eq (f:=fun ys=>cont (.tup []) (hpS bs k ys)) h hk (by omega) (by omega) (by omega) (by omega)
    ·rw[if_neg c1,show (((m'-a':Nat):Int)==1)=false from beq_eq_false_iff_ne.2 (by omega),cond_false]
     by_cases c2:b'-m'=1
     ·rw[if_pos c2,c2];exact syR_eq (f:=fun ys=>cont (.tup []) (hpS bs k ys)) h hk (by omega) (by omega) (by omega)
     ·rw[if_neg c2,show (((b'-m':Nat):Int)==1)=false from beq_eq_false_iff_ne.2 (by omega),cond_false];have w4:IntKind.i64.wrap ((((a'+b') / 2:Nat):Int)+(m':Int))=(((a'+b') / 2+m':Nat):Int):=by rw[IntKind.wrap_i64];omega
      have w5:IntKind.i64.wrap ((((a'+b') / 2+m':Nat):Int)-1)=(((a'+b') / 2+m'-1:Nat):Int):=by rw[IntKind.wrap_i64];omega
      rw[w4,w5];refine Eq.trans ?_ (sySr_eq (f:=fun ys=>cont (.tup []) (hpS bs k ys)) h hk (by omega) (a:=a') (m:=m') (b:=b') (n:=n) (by omega) (by omega) (by omega) (by omega));unfold syLo syHi
      by_cases c3:(a'+b') / 2<m'
      ·have w6:IntKind.i64.wrap ((((a'+b') / 2+m':Nat):Int)-(b':Int))=(((a'+b') / 2+m'-b':Nat):Int):=by rw[IntKind.wrap_i64];omega
       rw[w6,if_pos c3,if_pos c3,decide_eq_true (by omega),cond_true]
      ·rw[if_neg c3,if_neg c3,decide_eq_false (by omega),cond_false]
   ·contradiction
  ·contradiction
end Go.Abs
namespace Go.Abs
open Go.Proofs
set_option maxRecDepth 100000
noncomputable def stbE:Env:=VZ [(169,insO),(192,syO 1000)]
theorem stbE_ok:EnvOK NN Tryz.prog stbE:=VZ_ok (gamC orc_ins Tryz.call169 (gamC (orc_sy 1000) Tryz.call192 (gamN _ _)))
def A272:Ann:={ head:=ptOf [(3,[1,2,4,5,6],[]),(8,[1,2,4],[]),(10,[1,2,4,5,6],[])],out:=ptOf [(3,[1,2,4,5],[]),(8,[],[]),(10,[1,2,4,5],[])] }
def insX(lt:Int->Int->Bool) (xs:List Int) (a b:Nat):List Int:=insN lt a (b-a-1) xs
def blkA(lt:Int->Int->Bool) (s n:Nat):Nat->List Int->Nat->List Int × Nat
 | 0,xs,a=>(xs,a)
 | t+1,xs,a=>if a+s<=n then blkA lt s n t (insX lt xs a (a+s)) (a+s)else(xs,a)
def blkB(lt:Int->Int->Bool) (s n:Nat):Nat->List Int->Nat->List Int × Nat
 | 0,xs,a=>(xs,a)
 | t+1,xs,a=>if a+2*s<=n then blkB lt s n t (symF lt 1000 xs a (a+s) (a+2*s)) (a+2*s)else(xs,a)
def blkD(lt:Int->Int->Bool) (s n:Nat) (p:List Int × Nat):List Int:=if p.2+s<n then symF lt 1000 p.1 p.2 (p.2+s) n else p.1
def blkC(lt:Int->Int->Bool) (n:Nat):Nat->List Int->Nat->List Int
 | 0,xs,s=>xs
 | t+1,xs,s=>if s<n then blkC lt n t (blkD lt s n (blkB lt s n (n+1) xs 0)) (2*s)else xs
theorem insX_perm{lt:Int->Int->Bool} {xs:List Int} {a b:Nat} (h:a<=b) (hb:b<=xs.length):(insX lt xs a b).Perm xs:=by
 unfold insX
 by_cases c:a+(b-a-1)<xs.length
 ·exact insN_perm _ c
 ·rw[show b-a-1=0 by omega];exact List.Perm.refl _
theorem blkA_ok{lt:Int->Int->Bool} {s n:Nat}:∀ (t:Nat) {xs:List Int} {a:Nat},n<=xs.length->a<=n->(blkA lt s n t xs a).1.Perm xs/\(blkA lt s n t xs a).2<=n
 | 0,xs,a,h,ha=>⟨List.Perm.refl _,ha⟩
 | t+1,xs,a,h,ha=>by
  unfold blkA
  by_cases c:a+s<=n
  ·rw[if_pos c];have hp:=insX_perm (lt:=lt) (xs:=xs) (a:=a) (b:=a+s) (by omega) (by omega);have ih:=blkA_ok (lt:=lt) (s:=s) t (xs:=insX lt xs a (a+s)) (a:=a+s) (by rw[hp.length_eq];exact h) c;exact⟨ih.1.trans hp,ih.2⟩
  ·rw[if_neg c];exact⟨List.Perm.refl _,ha⟩
theorem blkB_ok{lt:Int->Int->Bool} {s n:Nat} (hs:1<=s):∀ (t:Nat) {xs:List Int} {a:Nat},n<=xs.length->a<=n->(blkB lt s n t xs a).1.Perm xs/\(blkB lt s n t xs a).2<=n
 | 0,xs,a,h,ha=>⟨List.Perm.refl _,ha⟩
 | t+1,xs,a,h,ha=>by
  unfold blkB
  by_cases c:a+2*s<=n
  ·rw[if_pos c];have hp:=symF_perm (lt:=lt) 1000 (xs:=xs) (a:=a) (m:=a+s) (b:=a+2*s) (by omega) (by omega) (by omega);have ih:=blkB_ok (lt:=lt) hs t (xs:=symF lt 1000 xs a (a+s) (a+2*s)) (a:=a+2*s) (by rw[hp.length_eq];exact h) c;exact⟨ih.1.trans hp,ih.2⟩
  ·rw[if_neg c];exact⟨List.Perm.refl _,ha⟩
section
variable {ρ:Type} (K:Exit->St->Option ρ) (go:St->Option ρ) (bs:List bxT.den) (k:Int) (xs:List Int) (n s a b:Int)
def s272:St:=⟨[(1,one (.int .i64 n)),(2,one (.ptr 4 0)),(4,one (.int .i64 s)),(5,one (.int .i64 a)),(6,one (.int .i64 b))],hpS bs k xs ++ [.var dtA]⟩
def s272o:St:=⟨[(1,one (.int .i64 n)),(2,one (.ptr 4 0)),(4,one (.int .i64 s)),(5,one (.int .i64 a))],hpS bs k xs ++ [.var dtA]⟩
def s272m:St:=⟨[(1,one (.int .i64 n)),(2,one (.ptr 4 0)),(4,one (.int .i64 s))],hpS bs k xs ++ [.var dtA]⟩
noncomputable def insC(xs:List Int) (a b:Int) (f:List Int->Option ρ):Option ρ:=if(okI bs xs=true/\isAx k)/\0<=a/\a<=b/\b<=(xs.length:Int)/\(xs.length:Int)<=1000 then f (insA bs k xs a b)else none
theorem turn272a:turnF stbE A272 57 4 0 (loopAt Tryz.f180 0) K go (s272 bs k xs n s a b)=bif decide (b<=n)then insC bs k xs a b (fun ys=>go (s272 bs k ys n s b (IntKind.i64.wrap (b+s))))else K (.exit 0) (s272o bs k xs n s a):=by kernel_rfl
theorem turn272c:turnF stbE A272 57 4 0 (loopAt Tryz.f180 2) K go (s272 bs k xs n s a b)=bif decide (b<=n)then syC 1000 bs k xs a (IntKind.i64.wrap (a+s)) b (fun ys=>go (s272 bs k ys n s b (IntKind.i64.wrap (b+IntKind.i64.wrap (2*s)))))else K (.exit 4) (s272o bs k xs n s a):=by kernel_rfl
end
theorem insC_eq{ρ:Type} {bs:List bxT.den} {k:Int} {xs:List Int} (h:okI bs xs=true) (hk:isAx k) (hl:xs.length<=1000) {a b:Nat} (h1:a<=b) (h2:b<=xs.length) (f:List Int->Option ρ):insC bs k xs a b f=f (insX (ltI bs k) xs a b):=by
 unfold insC insA insX;rw[if_pos ⟨⟨h,hk⟩,by omega,by omega,by omega,by omega⟩,Int.toNat_natCast,Int.toNat_natCast]
section
variable {ρ:Type} (K:Exit->St->Option ρ) {bs:List bxT.den} {k:Int}
theorem loop272a(hk:isAx k) {s n:Nat} (hs:1<=s) (hs2:s<=1000):∀ (t:Nat) {xs:List Int} {a:Nat},okI bs xs=true->xs.length<=1000->n<=xs.length->a<=n->n-a<=t ->
  itF (turnF stbE A272 57 4 0 (loopAt Tryz.f180 0) K) (fun _=>none) (t+1) (s272 bs k xs n s a ((a+s:Nat):Int))=K (.exit 0) (s272o bs k (blkA (ltI bs k) s n (t+1) xs a).1 n s ((blkA (ltI bs k) s n (t+1) xs a).2:Nat))
 | t,xs,a,h,hl,hn,ha,ht=>by
  show turnF _ _ _ _ _ _ _ _ _=_;unfold blkA;rw[turn272a]
  by_cases c:a+s<=n
  ·have hp:=insX_perm (lt:=ltI bs k) (xs:=xs) (a:=a) (b:=a+s) (by omega) (by omega);rw[if_pos c,decide_eq_true (by omega),cond_true,insC_eq h hk hl (a:=a) (b:=a+s) (by omega) (by omega),show IntKind.i64.wrap (((a+s:Nat):Int)+(s:Int))=((a+s+s:Nat):Int)by rw[IntKind.wrap_i64];omega]
   match t,ht with
   | 0,ht=>omega
   | t+1,ht=>exact loop272a hk hs hs2 t (xs:=insX (ltI bs k) xs a (a+s)) (a:=a+s) (okI_perm h hp) (by rw[hp.length_eq];exact hl) (by rw[hp.length_eq];exact hn) c (by omega)
  ·rw[if_neg c,decide_eq_false (by omega),cond_false]
theorem loop272c(hk:isAx k) {s n:Nat} (hs:1<=s) (hs2:s<=1000):∀ (t:Nat) {xs:List Int} {a:Nat},okI bs xs=true->xs.length<=1000->n<=xs.length->a<=n->n-a<=t ->
  itF (turnF stbE A272 57 4 0 (loopAt Tryz.f180 2) K) (fun _=>none) (t+1) (s272 bs k xs n s a ((a+2*s:Nat):Int))=K (.exit 4) (s272o bs k (blkB (ltI bs k) s n (t+1) xs a).1 n s ((blkB (ltI bs k) s n (t+1) xs a).2:Nat))
 | t,xs,a,h,hl,hn,ha,ht=>by
  show turnF _ _ _ _ _ _ _ _ _=_;unfold blkB;rw[turn272c]
  by_cases c:a+2*s<=n
  ·have hp:=symF_perm (lt:=ltI bs k) 1000 (xs:=xs) (a:=a) (m:=a+s) (b:=a+2*s) (by omega) (by omega) (by omega);rw[if_pos c,decide_eq_true (by omega),cond_true,show IntKind.i64.wrap ((a:Int)+(s:Int))=((a+s:Nat):Int)by rw[IntKind.wrap_i64];omega,
    syC_eq h hk hl (a:=a) (m:=a+s) (b:=a+2*s) (by omega) (by omega) (by omega) (by omega),
    show IntKind.i64.wrap (((a+2*s:Nat):Int)+IntKind.i64.wrap (2*(s:Int)))=((a+2*s+2*s:Nat):Int)by rw[show IntKind.i64.wrap (2*(s:Int))=((2*s:Nat):Int)by rw[IntKind.wrap_i64];omega,IntKind.wrap_i64];omega]
   match t,ht with
   | 0,ht=>omega
   | t+1,ht=>exact loop272c hk hs hs2 t (xs:=symF (ltI bs k) 1000 xs a (a+s) (a+2*s)) (a:=a+2*s) (okI_perm h hp) (by rw[hp.length_eq];exact hl) (by rw[hp.length_eq];exact hn) c (by omega)
  ·rw[if_neg c,decide_eq_false (by omega),cond_false]
end
end Go.Abs

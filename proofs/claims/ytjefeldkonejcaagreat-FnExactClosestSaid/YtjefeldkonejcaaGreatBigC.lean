/-
 A PART OF THE PROOF of ClI (texts BigC BigD BigE): the claim itself stands in the last text. No conditions beside those of the given row.
-/
import Derived.Test.YtjefeldkonejcaaGreatMagU
set_option linter.unusedVariables false
set_option linter.unnecessarySimpa false
set_option linter.unusedSimpArgs false
namespace Go.Abs
open Go.Proofs
set_option maxRecDepth 100000
def signO:Orc:=fun ρ args H cont=>match args,H with
 | [.v false [.ip (.pair .bool (.list (.int .u32))) d 0]],[]=>if zOk d then cont (one (.int .i64 (Int.sign (zV d)))) []else none
 | [.v false [.ptr 0 0]],[.var [.bool b,.sl f (.int .u32) xs]]=>if zOk (b,xs)then cont (one (.int .i64 (Int.sign (zV (b,xs))))) [.var [.bool b,.sl f tW xs]]else none
 | _,_=>none
def signC{ρ:Type} (cont:SV->HL->Option ρ) (H:HL) (b:Bool) (xs:List tW.den):Option ρ:=
 bif b then cont (one (.int .i64 (-1))) H else bif decide ((0:Int)<xs.length)then cont (one (.int .i64 1)) H else cont (one (.int .i64 0)) H
theorem run174{ρ:Type} (cont:SV->HL->Option ρ) (x:tZ.den):runF V7 Ash 0 Tryz.f145 (bodyOf Tryz.f145) ρ [one (.ip tZ x 0)] [] cont=signC cont [] x.1 x.2:=by kernel_rfl
theorem run174p{ρ:Type} (cont:SV->HL->Option ρ) (b0:Bool) (f0:Option Bool) (x0:List tW.den):runF V7 Ash 0 Tryz.f145 (bodyOf Tryz.f145) ρ [one (.ptr 0 0)] [.var [.bool b0,.sl f0 tW x0]] cont =
  signC cont [.var [.bool b0,.sl f0 tW x0]] b0 x0:=by kernel_rfl
theorem signC_eq{ρ:Type} (cont:SV->HL->Option ρ) (H:HL) (n:Int):signC cont H (decide (n<0)) (words n.natAbs)=cont (one (.int .i64 (Int.sign n))) H:=by
 unfold signC;have e:decide ((0:Int)<List.length (α:=tW.den) (words n.natAbs))=decide (n≠0):=by
  rw[<- words_pos n];simp
 rw[e];rcases Int.lt_trichotomy n 0 with h | h | h
 ·rw[decide_eq_true h,cond_true,Int.sign_eq_neg_one_of_neg h]
 ·subst h;rfl
 ·rw[decide_eq_false (by omega),cond_false,decide_eq_true (by omega),cond_true,Int.sign_eq_one_of_pos h]
theorem orc174(N:NumSem):OrcOK N Tryz.prog 145 signO:=
 OrcOK.of_tale (runF_ok (V7_ok N) mixT (A:=Ash) (fuel:=0) Tryz.func145 (c:=bodyOf Tryz.f145) (by kernel_rfl) (wp_loops (by kernel_rfl))) fun ρ args H cont r h=>by
  unfold signO at h;split at h
  ·rename_i d;split at h
   ·rename_i hd;obtain⟨n,hd1,hd2⟩:=zOk_ex hd;have hd1':(d:(Ty.pair .bool (.list (.int .u32))).den)=zD n:=hd1;subst hd1';rw[zV_zD]at h;exact(run174 cont (zD n)).trans ((signC_eq cont [] n).trans h)
   ·contradiction
  ·rename_i b f xs;split at h
   ·rename_i hd;obtain⟨n,hd1,hd2⟩:=zOk_ex hd;rw[hd1,zV_zD]at h;have hb:b=decide (n<0):=congrArg Prod.fst hd1;have hx:(xs:List (Ty.int .u32).den)=words n.natAbs:=congrArg Prod.snd hd1;subst hb hx;exact(run174p cont _ f _).trans ((signC_eq cont _ n).trans h)
   ·contradiction
  ·contradiction
def M8:Nat->List (Nat × Ty):=fun f=>bif Nat.beq f 147 then [(2,tL)]else bif Nat.beq f 182 then [(0,tL)]else bif Nat.beq f 184 then [(1,tZ),(2,tZ)]else bif Nat.beq f 145 then [(0,tZ)]else
 bif Nat.beq f 183 then [(1,tZ)]else bif Nat.beq f 149 then [(1,tZ)]else []
def V8:Env:={ T:=tryT,E:=[],Γ:=gamL [(147,putO),(150,cmpMagO),(182,trimmedU),(193,divMagO),(145,signO),(183,un1 fun n=>n.natAbs),(149,un1 fun n=>n)],M:=M8 }
theorem V8_ok(N:NumSem):EnvOK N Tryz.prog V8:=
 {T:=TabOk.of tryT_ok,E:=fun p hp=>(by cases hp),Γ:=gamC (orc207 N) Tryz.call147 (gamC (orc209 N) Tryz.call150 (gamC (orc226u N) Tryz.call182 (gamC (orc233 N) Tryz.call193 (gamC (orc174 N) Tryz.call145 (gamC (orc227 N) Tryz.call183 (gamC (orc176 N) Tryz.call149 (gamN N _))))))) }
def clamp(n:Int):Int:=if(-1:Int) > (if 1<n then 1 else n)then -1 else(if 1<n then 1 else n)
theorem clamp_sign(n:Int):clamp n=Int.sign n:=by
 unfold clamp;rcases Int.lt_trichotomy n 0 with h | h | h
 ·rw[Int.sign_eq_neg_one_of_neg h];repeat' split <;> omega
 ·subst h;rfl
 ·rw[Int.sign_eq_one_of_pos h];repeat' split <;> omega
def cmpO:Orc:=fun ρ args H cont=>match args,H with
 | [.v false [.ip (.pair .bool (.list (.int .u32))) d 0],.v false [.ip (.pair .bool (.list (.int .u32))) e 0]],[]=>if zOk d/\zOk e then cont (one (.int .i64 (Int.sign (zV d-zV e)))) []else none
 | _,_=>none
theorem run158{ρ:Type} (cont:SV->HL->Option ρ) (x y:tZ.den):runF V8 Ash 0 Tryz.f114 (bodyOf Tryz.f114) ρ [one (.ip tZ x 0),one (.ip tZ y 0)] [] cont =
  if List.length (α:=tW.den) x.2<1000000000000/\List.length (α:=tW.den) y.2<1000000000000/\okW x.2/\okW y.2 then
   bif x.1 != y.1 then(if zOk x then(if zOk y then cont (one (.int .i64 (clamp (IntKind.i64.wrap (Int.sign (zV x)-Int.sign (zV y)))))) []else none)else none)
   else bif x.1 then cont (one (.int .i64 (clamp (IntKind.i64.wrap (0-cmpR x.2 y.2))))) []else cont (one (.int .i64 (clamp (cmpR x.2 y.2)))) []
  else none:=by kernel_rfl
theorem orc158(N:NumSem):OrcOK N Tryz.prog 114 cmpO:=
 OrcOK.of_tale (runF_ok (V8_ok N) mixT (A:=Ash) (fuel:=0) Tryz.func114 (c:=bodyOf Tryz.f114) (by kernel_rfl) (wp_loops (by kernel_rfl))) fun ρ args H cont r h=>by
  unfold cmpO at h;split at h
  ·rename_i d e;split at h
   ·rename_i hd;obtain⟨hd,he⟩:=hd;obtain⟨n,hd1,hd2⟩:=zOk_ex hd;obtain⟨m,he1,he2⟩:=zOk_ex he;have hd1':(d:(Ty.pair .bool (.list (.int .u32))).den)=zD n:=hd1;have he1':(e:(Ty.pair .bool (.list (.int .u32))).den)=zD m:=he1;subst hd1' he1';rw[zV_zD,zV_zD]at h;refine(run158 cont (zD n) (zD m)).trans ?_;rw[if_pos ⟨by show (words n.natAbs).length<_;omega,by show (words m.natAbs).length<_;omega,words_ok _,words_ok _⟩,if_pos hd,if_pos he,zV_zD,zV_zD];simp only [zD];rw[clamp_sign,clamp_sign,clamp_sign];obtain⟨c1,c2⟩:=cmpR_words n.natAbs m.natAbs;have hcb:-1000000000<cmpR (words n.natAbs) (words m.natAbs)/\cmpR (words n.natAbs) (words m.natAbs)<1000000000:=by
     unfold cmpR;split
     ·split
      ·omega
      ·split <;> omega
     ·omega
    generalize cmpR (words n.natAbs) (words m.natAbs)=C at *;have sg:∀ a b:Int,(a<0 ↔ b<0)->(a=0 ↔ b=0)->Int.sign a=Int.sign b:=fun a b h1 h2=>by
     rcases Int.lt_trichotomy a 0 with h | h | h
     ·rw[Int.sign_eq_neg_one_of_neg h,Int.sign_eq_neg_one_of_neg (h1.1 h)]
     ·rw[h,h2.1 h]
     ·rw[Int.sign_eq_one_of_pos h,Int.sign_eq_one_of_pos (by omega)]
    have w64:∀ a:Int,-9223372036854775808<=a->a<9223372036854775808->IntKind.i64.wrap a=a:=fun a h0 h1=>by rw[IntKind.wrap_i64];omega
    have sb:∀ a:Int,-1<=Int.sign a/\Int.sign a<=1:=fun a=>by
     rcases Int.lt_trichotomy a 0 with h | h | h
     ·rw[Int.sign_eq_neg_one_of_neg h];omega
     ·rw[h];decide
     ·rw[Int.sign_eq_one_of_pos h];omega
    have sn:∀ {a:Int},0<=a->0<=Int.sign a:=fun{a} ha=>by
     rcases Int.lt_or_le 0 a with h | h
     ·rw[Int.sign_eq_one_of_pos h];omega
     ·rw[show a=0 by omega];decide
    rw[<- h]
    by_cases hs:decide (n<0)=decide (m<0)
    ·have hs':(n<0 ↔ m<0):=decide_eq_decide.1 hs;rw[hs,bne_self_eq_false,cond_false]
     by_cases hm:m<0
     ·rw[decide_eq_true hm,cond_true,w64 _ (by omega) (by omega),sg (0-C) (n-m) (by omega) (by omega)]
     ·rw[decide_eq_false hm,cond_false,sg C (n-m) (by omega) (by omega)]
    ·have hne:(decide (n<0) != decide (m<0))=true:=by simpa using hs
     have hs':¬ (n<0 ↔ m<0):=fun h=>hs (decide_eq_decide.2 h)
     rw[hne,cond_true,w64 _ (by have:=sb n;have:=sb m;omega) (by have:=sb n;have:=sb m;omega)];have e:Int.sign (Int.sign n-Int.sign m)=Int.sign (n-m):=by
      refine sg _ _ ?_ ?_
      ·rcases Int.lt_or_le n 0 with h | h
       ·have:=sb m;have h':0<=m:=by omega
        have:=sn h';rw[Int.sign_eq_neg_one_of_neg h];omega
       ·have h':m<0:=by omega
        have:=sn h;rw[Int.sign_eq_neg_one_of_neg h'];omega
      ·rcases Int.lt_or_le n 0 with h | h
       ·have h':0<=m:=by omega
        have:=sn h';rw[Int.sign_eq_neg_one_of_neg h];omega
       ·have h':m<0:=by omega
        have:=sn h;rw[Int.sign_eq_neg_one_of_neg h'];omega
     rw[e]
   ·contradiction
  ·contradiction
def quoRemO:Orc:=fun ρ args H cont=>match args,H with
 | [.v false [.ptr 0 0],.v false [.ip (.pair .bool (.list (.int .u32))) d 0],.v false [.ip (.pair .bool (.list (.int .u32))) e 0],.v false [.ptr 1 0]],[B,B'] =>
  bif isZ B&&isZ B' then(if zOk d/\zOk e/\zV e≠0 then cont (.tup [(false,[.ptr 0 0]),(false,[.ptr 1 0])]) [zB (Int.tdiv (zV d) (zV e)),zB (Int.tmod (zV d) (zV e))]else none)else none
 | _,_=>none
theorem run228{ρ:Type} (cont:SV->HL->Option ρ) (b0 b1:Bool) (a0 a1:Atom) (ha:za a0) (ha':za a1) (x y:tZ.den) :
  runF V8 Ash 0 Tryz.f184 (bodyOf Tryz.f184) ρ [one (.ptr 0 0),one (.ip tZ x 0),one (.ip tZ y 0),one (.ptr 1 0)] [.var [.bool b0,a0],.var [.bool b1,a1]] cont =
  if canon x.2/\canon y.2/\List.length (α:=tW.den) x.2<10000000000/\List.length (α:=tW.den) y.2<10000000000/\0<val y.2 then
   cont (.tup [(false,[.ptr 0 0]),(false,[.ptr 1 0])])
    [.var [.bool (x.1 != y.1&&decide (0<List.length (α:=tW.den) (words ((val x.2).toNat / (val y.2).toNat)))),.sl none tW (words ((val x.2).toNat / (val y.2).toNat))],
     .var [.bool (x.1&&decide (0<List.length (α:=tW.den) (words ((val x.2).toNat % (val y.2).toNat)))),.sl none tW (words ((val x.2).toNat % (val y.2).toNat))]]else none:=by
 rcases ha with rfl | ⟨f,x0,rfl⟩ <;> rcases ha' with rfl | ⟨f',x1,rfl⟩ <;> kernel_rfl
theorem words_nat_pos(k:Nat):decide (0<List.length (α:=tW.den) (words k))=decide (k≠0):=by
 have:=words_pos (k:Int);rw[Int.natAbs_natCast]at this;rw[show decide (0<List.length (α:=tW.den) (words k))=decide (0<(words k).length)from rfl,this];simp
theorem orc228(N:NumSem):OrcOK N Tryz.prog 184 quoRemO:=
 OrcOK.of_tale (runF_ok (V8_ok N) mixT (A:=Ash) (fuel:=0) Tryz.func184 (c:=bodyOf Tryz.f184) (by kernel_rfl) (wp_loops (by kernel_rfl))) fun ρ args H cont r h=>by
  unfold quoRemO at h;split at h
  ·rename_i d e B B';cases hB:(isZ B&&isZ B')with
   | false=>rw[hB]at h;cases h
   | true =>
    rw[hB,cond_true]at h;simp only [Bool.and_eq_true]at hB;split at h
    ·rename_i hd;obtain⟨hd,he,hm0⟩:=hd;obtain⟨n,hd1,hd2⟩:=zOk_ex hd;obtain⟨m,he1,he2⟩:=zOk_ex he;obtain⟨b0,a0,rfl,ha⟩:=isZ_cases hB.1;obtain⟨b1,a1,rfl,ha'⟩:=isZ_cases hB.2;have hd1':(d:(Ty.pair .bool (.list (.int .u32))).den)=zD n:=hd1;have he1':(e:(Ty.pair .bool (.list (.int .u32))).den)=zD m:=he1;subst hd1' he1';rw[zV_zD,zV_zD]at h;rw[zV_zD]at hm0;refine(run228 cont b0 b1 a0 a1 ha ha' (zD n) (zD m)).trans ?_;rw[if_pos ⟨canon_words _,canon_words _,by show (words n.natAbs).length<_;omega,by show (words m.natAbs).length<_;omega,by show 0<val (words m.natAbs);rw[val_words];omega⟩];have v1:(val (zD n).2).toNat=n.natAbs:=by show (val (words n.natAbs)).toNat=_;rw[val_words,Int.toNat_natCast]
     have v2:(val (zD m).2).toNat=m.natAbs:=by show (val (words m.natAbs)).toNat=_;rw[val_words,Int.toNat_natCast]
     rw[v1,v2,words_nat_pos,words_nat_pos,<- h];have q1:(Int.tdiv n m).natAbs=n.natAbs / m.natAbs:=Int.natAbs_tdiv ..;have q2:(Int.tmod n m).natAbs=n.natAbs % m.natAbs:=Int.natAbs_tmod ..;have s1:((zD n).1 != (zD m).1&&decide (n.natAbs / m.natAbs≠0))=decide (Int.tdiv n m<0):=by
      show (decide (n<0) != decide (m<0)&&_)=_;rw[<- q1];have hz:decide ((Int.tdiv n m).natAbs≠0)=decide (Int.tdiv n m≠0):=decide_eq_decide.2 (by omega);rw[hz]
      by_cases h0:Int.tdiv n m=0
      ·simp [h0]
      ·rw[decide_eq_true h0,Bool.and_true];rcases Int.lt_or_le n 0 with hn | hn <;> rcases Int.lt_or_le m 0 with hm | hm
       ·have:0<=Int.tdiv n m:=Int.tdiv_nonneg_of_nonpos_of_nonpos (by omega) (by omega);rw[decide_eq_true hn,decide_eq_true hm,decide_eq_false (by omega)];rfl
       ·have h1:Int.tdiv n m = -Int.tdiv (-n) m:=by rw[Int.neg_tdiv,Int.neg_neg]
        have h2:0<=Int.tdiv (-n) m:=Int.tdiv_nonneg (by omega) hm;rw[decide_eq_true hn,decide_eq_false (by omega),decide_eq_true (by omega)];rfl
       ·have h1:Int.tdiv n m = -Int.tdiv n (-m):=by rw[Int.tdiv_neg,Int.neg_neg]
        have h2:0<=Int.tdiv n (-m):=Int.tdiv_nonneg hn (by omega);rw[decide_eq_false (by omega),decide_eq_true hm,decide_eq_true (by omega)];rfl
       ·have:0<=Int.tdiv n m:=Int.tdiv_nonneg hn hm;rw[decide_eq_false (by omega),decide_eq_false (by omega),decide_eq_false (by omega)];rfl
     have s2:((zD n).1&&decide (n.natAbs % m.natAbs≠0))=decide (Int.tmod n m<0):=by
      show (decide (n<0)&&_)=_;rw[<- q2];have hz:decide ((Int.tmod n m).natAbs≠0)=decide (Int.tmod n m≠0):=decide_eq_decide.2 (by omega);rw[hz];rcases Int.lt_or_le n 0 with hn | hn
      ·have:Int.tmod n m<=0:=by
        have h1:Int.tmod n m = -Int.tmod (-n) m:=by rw[Int.neg_tmod,Int.neg_neg]
        have h2:0<=Int.tmod (-n) m:=Int.tmod_nonneg m (by omega);omega
       rw[decide_eq_true hn,Bool.true_and,decide_eq_decide];omega
      ·have:0<=Int.tmod n m:=Int.tmod_nonneg m hn;rw[decide_eq_false (by omega),Bool.false_and,decide_eq_false (by omega)]
     rw[s1,s2,<- q1,<- q2];rfl
    ·contradiction
  ·contradiction
def V9:Env:={ T:=tryT,E:=[],Γ:=gamL [(184,quoRemO),(145,signO),(183,un1 fun n=>n.natAbs),(149,un1 fun n=>n)],M:=M8 }
theorem V9_ok(N:NumSem):EnvOK N Tryz.prog V9:=
 {T:=TabOk.of tryT_ok,E:=fun p hp=>(by cases hp),Γ:=gamC (orc228 N) Tryz.call184 (gamC (orc174 N) Tryz.call145 (gamC (orc227 N) Tryz.call183 (gamC (orc176 N) Tryz.call149 (gamN N _)))) }
theorem run211{ρ:Type} (cont:SV->HL->Option ρ) (b0:Bool) (a0:Atom) (ha:za a0) (x y:tZ.den) :
  runF V9 Ash 0 Tryz.f154 (bodyOf Tryz.f154) ρ [one (.ptr 0 0),one (.ip tZ x 0),one (.ip tZ y 0)] [.var [.bool b0,a0]] cont =
  if zOk x/\zOk y/\zV y≠0 then cont (one (.ptr 0 0)) [zB (Int.tdiv (zV x) (zV y))]else none:=by
 rcases ha with rfl | ⟨f,x0,rfl⟩ <;> kernel_rfl
theorem orc211(N:NumSem):OrcOK N Tryz.prog 154 (un2 (fun _ m=>decide (m≠0)) fun n m=>Int.tdiv n m):=
 un2_ok (runF_ok (V9_ok N) mixT (A:=Ash) (fuel:=0) Tryz.func154 (c:=bodyOf Tryz.f154) (by kernel_rfl) (wp_loops (by kernel_rfl))) fun ρ cont b0 a0 n m hn hm hg ha=>by
  rw[run211 cont b0 a0 ha,zV_zD,zV_zD,if_pos ⟨zOk_zD hn,zOk_zD hm,of_decide_eq_true hg⟩]
def A210:Ann:={ head:=ptOf [(2,[0,7,8],[])],out:=ptOf [(2,[0,7],[])],ips:=fun i=>bif Nat.beq i 2 then [(7,tZ),(8,tZ)]else [],shut:=true }
theorem turn210{ρ:Type} (K:Exit->St->Option ρ) (go:St->Option ρ) (b0:Bool) (a0:Atom) (ha:za a0) (x y:tZ.den) :
  turnF V9 A210 30 1 0 (loopAt Tryz.f153 0) K go ⟨[(0,one (.ptr 0 0)),(7,one (.ip tZ x 0)),(8,one (.ip tZ y 0))],[.var [.bool b0,a0]]⟩ =
  if zOk y then
   bif Int.sign (zV y) != 0 then
    if zOk x/\zOk y/\zV y≠0 then go ⟨[(0,one (.ptr 0 0)),(7,one (.ip tZ y 0)),(8,one (.ip tZ (zD (Int.tmod (zV x) (zV y))) 0))],[.var [.bool b0,a0]]⟩else none
   else K (.exit 0) ⟨[(0,one (.ptr 0 0)),(7,one (.ip tZ x 0))],[.var [.bool b0,a0]]⟩
  else none:=by
 rcases ha with rfl | ⟨f,x0,rfl⟩ <;> kernel_rfl
theorem loop210{ρ:Type} (K:Exit->St->Option ρ) (b0:Bool) (a0:Atom) (ha:za a0):∀ (b a:Nat),(words a).length<1000000000->(words b).length<1000000000->∃ n,
  itF (turnF V9 A210 30 1 0 (loopAt Tryz.f153 0) K) (fun _=>none) n ⟨[(0,one (.ptr 0 0)),(7,one (.ip tZ (zD a) 0)),(8,one (.ip tZ (zD b) 0))],[.var [.bool b0,a0]]⟩ =
   K (.exit 0) ⟨[(0,one (.ptr 0 0)),(7,one (.ip tZ (zD (Nat.gcd a b)) 0))],[.var [.bool b0,a0]]⟩:=by
 intro b
 induction b using Nat.strongRecOn with
 | _ b ih =>
  intro a ha1 hb1;have hzb:zOk (zD (b:Int)):=zOk_zD (by rw[Int.natAbs_natCast];exact hb1);have hza:zOk (zD (a:Int)):=zOk_zD (by rw[Int.natAbs_natCast];exact ha1);rcases Nat.eq_zero_or_pos b with h0 | h0
  ·refine⟨1,?_⟩;rw[itF_succ,turn210 _ _ b0 a0 ha,if_pos hzb,zV_zD];subst h0;simp only [Int.natCast_zero,Int.sign_zero,bne_self_eq_false,cond_false,Nat.gcd_zero_right]
  ·have hlt:a % b<b:=Nat.mod_lt _ h0;have hmono:(words (a % b)).length<=(words b).length:=words_mono (Nat.le_of_lt hlt);obtain⟨n,hn⟩:=ih (a % b) hlt b hb1 (by omega);refine⟨n+1,?_⟩;have hs:(Int.sign (b:Int) != 0)=true:=by rw[Int.sign_eq_one_of_pos (by omega)];rfl
   have hne:(b:Int)≠0:=by omega
   have hmod:Int.tmod (a:Int) (b:Int)=((a % b:Nat):Int):=by rw[Int.tmod_eq_emod_of_nonneg (by omega)];rfl
   rw[itF_succ,turn210 _ _ b0 a0 ha,if_pos hzb,zV_zD,zV_zD,hs,cond_true,if_pos ⟨hza,hzb,hne⟩,hmod,hn,Nat.gcd_comm b,<- Nat.gcd_rec,Nat.gcd_comm]
def S210:Sum:=fun n0 ρ σ K=>match n0,σ with
 | 1,⟨[(0,.v false [.ptr 0 0]),(7,.v false [.ip (.pair .bool (.list (.int .u32))) x 0]),(8,.v false [.ip (.pair .bool (.list (.int .u32))) y 0])],[.var [.bool b0,a0]]⟩ =>
  (match a0 with
  | .nils=>if zOk x/\zOk y/\0<=zV x/\0<=zV y then K (.exit 0) ⟨[(0,one (.ptr 0 0)),(7,one (.ip tZ (zD (Nat.gcd (zV x).toNat (zV y).toNat)) 0))],[.var [.bool b0,.nils]]⟩else none
  | .sl f (.int .u32) xs=>if zOk x/\zOk y/\0<=zV x/\0<=zV y then K (.exit 0) ⟨[(0,one (.ptr 0 0)),(7,one (.ip tZ (zD (Nat.gcd (zV x).toNat (zV y).toNat)) 0))],[.var [.bool b0,.sl f tW xs]]⟩else none
  | _=>none)
 | _,_=>none
theorem sum210(N:NumSem):SumOK N Tryz.prog 30 (loopAt Tryz.f153 0) S210:=
 SumOK.of_turns (V9_ok N) mixT (A:=A210) (SumsOK.none fun _=>rfl) fun n0 ρ σ K r h=>by
  have key:∀ (b0:Bool) (a0:Atom),za a0->∀ x y:tZ.den,(if zOk x/\zOk y/\0<=zV x/\0<=zV y then K (.exit 0) ⟨[(0,one (.ptr 0 0)),(7,one (.ip tZ (zD (Nat.gcd (zV x).toNat (zV y).toNat)) 0))],[.var [.bool b0,a0]]⟩else none)=some r ->
    ∃ n,itF (turnF V9 A210 30 1 0 (loopAt Tryz.f153 0) K) (fun _=>none) n ⟨[(0,one (.ptr 0 0)),(7,one (.ip tZ x 0)),(8,one (.ip tZ y 0))],[.var [.bool b0,a0]]⟩=some r:=by
   intro b0 a0 ha x y h;split at h
   ·rename_i hc;obtain⟨hx,hy,h0,h1⟩:=hc;obtain⟨n,hx1,hx2⟩:=zOk_ex hx;obtain⟨m,hy1,hy2⟩:=zOk_ex hy;subst hx1 hy1;rw[zV_zD]at h0 h1;rw[zV_zD,zV_zD]at h;obtain⟨a,rfl⟩:=Int.eq_ofNat_of_zero_le h0;obtain⟨b,rfl⟩:=Int.eq_ofNat_of_zero_le h1;rw[Int.toNat_natCast,Int.toNat_natCast]at h;rw[Int.natAbs_natCast]at hx2 hy2;obtain⟨k,hk⟩:=loop210 K b0 a0 ha b a hx2 hy2;exact⟨k,hk.trans h⟩
   ·contradiction
  unfold S210 at h;split at h
  ·rename_i x y b0 a0;split at h
   ·exact key b0 _ (.inl rfl) x y h
   ·rename_i f xs;exact key b0 _ (.inr ⟨f,xs,rfl⟩) x y h
   ·contradiction
  ·contradiction
def A210s:Ann:={ A210 with sum:=fun i=>bif Nat.beq i 2 then some S210 else none }
theorem run210{ρ:Type} (cont:SV->HL->Option ρ) (b0:Bool) (a0:Atom) (ha:za a0) (x y:tZ.den) :
  runF V9 A210s 0 Tryz.f153 (bodyOf Tryz.f153) ρ [one (.ptr 0 0),one (.ip tZ x 0),one (.ip tZ y 0)] [.var [.bool b0,a0]] cont =
  if zOk x then(if zOk y then
   (if zOk (zD (zV x).natAbs)/\zOk (zD (zV y).natAbs)/\0<=zV (zD (zV x).natAbs)/\0<=zV (zD (zV y).natAbs)then
    (if zOk (zD (Nat.gcd (zV (zD (zV x).natAbs)).toNat (zV (zD (zV y).natAbs)).toNat))then cont (one (.ptr 0 0)) [zB (zV (zD (Nat.gcd (zV (zD (zV x).natAbs)).toNat (zV (zD (zV y).natAbs)).toNat)))]else none)else none)else none)else none:=by
 rcases ha with rfl | ⟨f,x0,rfl⟩ <;> kernel_rfl
theorem orc210(N:NumSem):OrcOK N Tryz.prog 153 (un2 (fun n m=>decide (n≠0\/m≠0)) fun n m=>(Int.gcd n m:Nat)):=
 un2_ok (runF_ok (V9_ok N) mixT (A:=A210s) (fuel:=0) Tryz.func153 (c:=bodyOf Tryz.f153) (by kernel_rfl)
  (SumsOK.ofL (ls:=[loopAt Tryz.f153 0]) (by kernel_rfl) ⟨sumL1 (by kernel_rfl) (sum210 N),trivial⟩)) fun ρ cont b0 a0 n m hn hm hg ha=>by
  have hg':n≠0\/m≠0:=of_decide_eq_true hg;have e1:((n.natAbs:Nat):Int).natAbs=n.natAbs:=Int.natAbs_natCast _;have e2:((m.natAbs:Nat):Int).natAbs=m.natAbs:=Int.natAbs_natCast _;have hgl:(words (Nat.gcd n.natAbs m.natAbs)).length<1000000000:=by
   rcases hg' with h | h
   ·have:=words_mono (Nat.le_of_dvd (by omega) (Nat.gcd_dvd_left n.natAbs m.natAbs));omega
   ·have:=words_mono (Nat.le_of_dvd (by omega) (Nat.gcd_dvd_right n.natAbs m.natAbs));omega
  rw[run210 cont b0 a0 ha,if_pos (zOk_zD hn),if_pos (zOk_zD hm)];simp only [zV_zD,Int.toNat_natCast];rw[if_pos ⟨zOk_zD (by rw[e1];exact hn),zOk_zD (by rw[e2];exact hm),by omega,by omega⟩,if_pos (zOk_zD (by rw[Int.natAbs_natCast];exact hgl))];rfl
end Go.Abs
namespace Go.Abs
open Go.Proofs
set_option maxRecDepth 100000
def setIntO:Orc:=fun ρ args H cont=>match args,H with
 | [.v false [.ptr 0 0],.v false [.int .i64 n]],[B]=>bif isZ B then(if -9223372036854775808<=n/\n<9223372036854775808 then cont (one (.ptr 0 0)) [zB n]else none)else none
 | _,_=>none
def two(s:Int):List tW.den:=[IntKind.u32.wrap s,IntKind.u32.wrap (s.fdiv (2 ^ min (Int.toNat 32) IntKind.u64.bits))]
theorem run217{ρ:Type} (cont:SV->HL->Option ρ) (b0:Bool) (a0:Atom) (ha:za a0) (n:Int) :
  runF V7 Ash 0 Tryz.f181 (bodyOf Tryz.f181) ρ [one (.ptr 0 0),one (.int .i64 n)] [.var [.bool b0,a0]] cont =
  bif decide (n<0)then
   (let t:=two (IntKind.u64.wrap (0-IntKind.u64.wrap n))
    cont (one (.ptr 0 0)) [.var [.bool (decide (n<0)&&decide (0<List.length (α:=tW.den) (List.take (trimTo t (List.length (α:=tW.den) t)) t))),.sl none tW (List.take (trimTo t (List.length (α:=tW.den) t)) t)]])
  else
   (let t:=two (IntKind.u64.wrap n)
    cont (one (.ptr 0 0)) [.var [.bool (decide (n<0)&&decide (0<List.length (α:=tW.den) (List.take (trimTo t (List.length (α:=tW.den) t)) t))),.sl none tW (List.take (trimTo t (List.length (α:=tW.den) t)) t)]]):=by
 rcases ha with rfl | ⟨f,x0,rfl⟩ <;> kernel_rfl
theorem two_words(s:Nat) (h:s<18446744073709551616):List.take (trimTo (two s) (two s).length) (two s)=words s:=by
 have e1:IntKind.u32.wrap (s:Int)=((s % 4294967296:Nat):Int):=by rw[IntKind.wrap_u32];omega
 have e2:IntKind.u32.wrap ((s:Int).fdiv (2 ^ min (Int.toNat 32) IntKind.u64.bits))=((s / 4294967296:Nat):Int):=by
  rw[show (2:Int) ^ min (Int.toNat 32) IntKind.u64.bits=4294967296 by decide,Int.fdiv_eq_ediv_of_nonneg _ (by decide),IntKind.wrap_u32];omega
 have ht:two s=([((s % 4294967296:Nat):Int),((s / 4294967296:Nat):Int)]:List Int):=by unfold two;rw[e1,e2]
 rw[ht];have hok:okW [((s % 4294967296:Nat):Int),((s / 4294967296:Nat):Int)]:=by
  rw[okW_cons,okW_cons];exact⟨by omega,by omega,by simp [okW]⟩
 have:=trim_words hok;rw[show List.take (trimTo ([((s % 4294967296:Nat):Int),((s / 4294967296:Nat):Int)]:List tW.den) (List.length (α:=tW.den) [((s % 4294967296:Nat):Int),((s / 4294967296:Nat):Int)])) ([((s % 4294967296:Nat):Int),((s / 4294967296:Nat):Int)]:List tW.den)=_ from this];congr 1;simp only [val];omega
theorem orc217(N:NumSem):OrcOK N Tryz.prog 181 setIntO:=
 OrcOK.of_tale (runF_ok (V7_ok N) mixT (A:=Ash) (fuel:=0) Tryz.func181 (c:=bodyOf Tryz.f181) (by kernel_rfl) (wp_loops (by kernel_rfl))) fun ρ args H cont r h=>by
  unfold setIntO at h;split at h
  ·rename_i n B;cases hB:isZ B with
   | false=>rw[hB]at h;cases h
   | true =>
    rw[hB,cond_true]at h;split at h
    ·rename_i hn;obtain⟨b0,a0,rfl,ha⟩:=isZ_cases hB;refine(run217 cont b0 a0 ha n).trans ?_;have fin:∀ s:Int,s=(n.natAbs:Int)->cont (one (.ptr 0 0)) [.var [.bool (decide (n<0)&&decide (0<List.length (α:=tW.den) (List.take (trimTo (two s) (List.length (α:=tW.den) (two s))) (two s)))),.sl none tW (List.take (trimTo (two s) (List.length (α:=tW.den) (two s))) (two s))]]=some r:=fun s hs=>by
      have e:=two_words n.natAbs (by omega);rw[hs,e,<- h];have e2:(decide (n<0)&&decide (0<List.length (α:=tW.den) (words n.natAbs)))=decide (n<0):=neg_pos n;rw[e2];rfl
     by_cases hneg:n<0
     ·rw[decide_eq_true hneg,cond_true];have:=fin (IntKind.u64.wrap (0-IntKind.u64.wrap n)) (by rw[IntKind.wrap_u64,IntKind.wrap_u64];omega);rw[decide_eq_true hneg]at this;exact this
     ·rw[decide_eq_false hneg,cond_false];have:=fin (IntKind.u64.wrap n) (by rw[IntKind.wrap_u64];omega);rw[decide_eq_false hneg]at this;exact this
    ·contradiction
  ·contradiction
def newIntO:Orc:=fun ρ args H cont=>match args,H with
 | [.v false [.int .i64 n]],[]=>if -9223372036854775808<=n/\n<9223372036854775808 then cont (one (.ip tZ (zD n) 0)) []else none
 | _,_=>none
def Vni:Env:={ T:=tryT,E:=[],Γ:=gamL [(181,setIntO)],M:=M8 }
theorem Vni_ok(N:NumSem):EnvOK N Tryz.prog Vni:=
 {T:=TabOk.of tryT_ok,E:=fun p hp=>(by cases hp),Γ:=gamC (orc217 N) Tryz.call181 (gamN N _) }
def Aip:Ann:={ shut:=true,res:=[(0,tZ)] }
theorem run178{ρ:Type} (cont:SV->HL->Option ρ) (n:Int):runF Vni Aip 0 Tryz.f146 (bodyOf Tryz.f146) ρ [one (.int .i64 n)] [] cont =
  if -9223372036854775808<=n/\n<9223372036854775808 then cont (one (.ip tZ (zD n) 0)) []else none:=by kernel_rfl
theorem orc178(N:NumSem):OrcOK N Tryz.prog 146 newIntO:=
 OrcOK.of_tale (runF_ok (Vni_ok N) mixT (A:=Aip) (fuel:=0) Tryz.func146 (c:=bodyOf Tryz.f146) (by kernel_rfl) (wp_loops (by kernel_rfl))) fun ρ args H cont r h=>by
  unfold newIntO at h;split at h
  ·rename_i n;exact(run178 cont n).trans h
  ·contradiction
def A177:Ann:={ head:=ptOf [(3,[3,16,17,18],[])],out:=ptOf [(3,[3],[])] }
theorem turn177{ρ:Type} (K:Exit->St->Option ρ) (go:St->Option ρ) (b:Option Bool) (xs:List tW.den) (c n i:Int) :
  turnF V0 A177 32 0 0 (loopAt Tryz.f151 0) K go ⟨[(3,one (.int .u64 c)),(16,one (.sl b tW xs)),(17,one (.int .i64 n)),(18,one (.int .i64 i))],[]⟩ =
 bif decide (i<n)then
  if 0<=i then(xs[i.toNat]?).bind fun x =>
   if IntKind.i64.wrap (32*i)<0 then none
   else go ⟨[(3,one (.int .u64 (bits .or .u64 c (IntKind.u64.wrap (IntKind.u64.wrap x*2 ^ min (IntKind.i64.wrap (32*i)).toNat IntKind.u64.bits))))),(16,one (.sl b tW xs)),(17,one (.int .i64 n)),(18,one (.int .i64 (IntKind.i64.wrap (i+1))))],[]⟩
  else none
 else K (.exit 0) ⟨[(3,one (.int .u64 c))],[]⟩:=by kernel_rfl
theorem or_low(c x:Int) (k:Nat) (hc:0<=c/\c<2 ^ k) (hx:0<=x/\x<4294967296) (hk:k<=32):bits .or .u64 c (x*2 ^ k)=c+x*2 ^ k:=by
 obtain⟨c,rfl⟩:=Int.eq_ofNat_of_zero_le hc.1;obtain⟨x,rfl⟩:=Int.eq_ofNat_of_zero_le hx.1;have hw:∀ n:Int,0<=n->n<2 ^ 64->IntKind.u64.wrap n=n:=fun n h0 h1=>by rw[IntKind.wrap_u64];omega
 have e:((x:Int)*2 ^ k)=((x*2 ^ k:Nat):Int):=by simp
 have hp:(2:Nat) ^ k<=2 ^ 32:=Nat.pow_le_pow_right (by omega) hk;have hb1:x*2 ^ k<=4294967295*2 ^ 32:=Nat.mul_le_mul (by omega) hp;have hcn:c<2 ^ k:=by have:=hc.2;rw[show (2:Int) ^ k=((2 ^ k:Nat):Int)by simp]at this;omega
 rw[e,(bits_nat .u64 64 (by decide) hw c (x*2 ^ k) (by omega) (by omega)).2];have h:=Nat.shiftLeft_add_eq_or_of_lt (i:=k) (b:=c) hcn x;rw[Nat.shiftLeft_eq]at h;rw[Nat.or_comm c,<- h];omega
def S177:Sum:=fun n0 ρ σ K=>match n0,σ with
 | 0,⟨[(3,.v false [.int .u64 c]),(16,.v false [.sl b (.int .u32) xs]),(17,.v false [.int .i64 n]),(18,.v false [.int .i64 i])],[]⟩ =>
  if c=0/\i=0/\n=xs.length/\xs.length<=2/\okW xs then K (.exit 0) ⟨[(3,one (.int .u64 (val xs)))],[]⟩else none
 | _,_=>none
theorem sum177(N:NumSem):SumOK N Tryz.prog 32 (loopAt Tryz.f151 0) S177:=
 SumOK.of_turns (V0_ok N) mixT (A:=A177) (SumsOK.none fun _=>rfl) fun n0 ρ σ K r h=>by
  unfold S177 at h;split at h
  ·rename_i c b xs n i;split at h
   ·rename_i hc;obtain⟨rfl,rfl,rfl,hl,hok⟩:=hc;have z0:IntKind.i64.wrap (32*0)=0:=by decide
    have z1:IntKind.i64.wrap (32*1)=32:=by decide
    have a1:IntKind.i64.wrap (0+1)=1:=by decide
    have a2:IntKind.i64.wrap (1+1)=2:=by decide
    have p0:(2:Int) ^ min (Int.toNat 0) IntKind.u64.bits=2 ^ 0:=by decide
    have p1:(2:Int) ^ min (Int.toNat 32) IntKind.u64.bits=2 ^ 32:=by decide
    have first:∀ x:Int,0<=x/\x<4294967296->bits .or .u64 0 (IntKind.u64.wrap (IntKind.u64.wrap x*2 ^ min (IntKind.i64.wrap (32*0)).toNat IntKind.u64.bits))=x:=fun x hx=>by
     rw[z0,p0,u64_id x hx.1 (by omega),u64_id _ (by omega) (by omega)];have:=or_low 0 x 0 (by decide) hx (by omega);rw[this];omega
    match xs,hl,hok with
    | [],_,_ =>
     refine⟨1,?_⟩;rw[itF_succ];refine(turn177 K _ b [] 0 _ 0).trans ?_;rw[decide_eq_false (by simp),cond_false];exact h
    | [x],_,hok =>
     obtain⟨hx,_⟩:=okW_cons.1 hok;refine⟨2,?_⟩;rw[itF_succ];refine(turn177 K _ b [x] 0 _ 0).trans ?_;have g0:([x]:List tW.den)[Int.toNat 0]? = some x:=rfl;rw[decide_eq_true (by simp),cond_true,if_pos (by omega),g0,Option.bind_some,if_neg (by rw[z0];omega),first x hx,a1,itF_succ];refine(turn177 K _ b [x] _ _ 1).trans ?_;rw[decide_eq_false (by simp),cond_false,<- h];simp only [val,Int.mul_zero,Int.add_zero]
    | [x,y],_,hok =>
     obtain⟨hx,hok2⟩:=okW_cons.1 hok;obtain⟨hy,_⟩:=okW_cons.1 hok2;refine⟨3,?_⟩;rw[itF_succ];refine(turn177 K _ b [x,y] 0 _ 0).trans ?_;have g0:([x,y]:List tW.den)[Int.toNat 0]? = some x:=rfl;have g1:([x,y]:List tW.den)[Int.toNat 1]? = some y:=rfl;rw[decide_eq_true (by simp),cond_true,if_pos (by omega),g0,Option.bind_some,if_neg (by rw[z0];omega),first x hx,a1,itF_succ];refine(turn177 K _ b [x,y] _ _ 1).trans ?_;rw[decide_eq_true (by simp),cond_true,if_pos (by omega),g1,Option.bind_some];have e:bits .or .u64 x (IntKind.u64.wrap (IntKind.u64.wrap y*2 ^ min (IntKind.i64.wrap (32*1)).toNat IntKind.u64.bits))=x+4294967296*y:=by
      rw[z1,p1,u64_id y hy.1 (by omega),u64_id _ (by omega) (by omega),or_low x y 32 hx hy (by omega)];omega
     rw[if_neg (by rw[z1];omega),e,a2,itF_succ];refine(turn177 K _ b [x,y] _ _ 2).trans ?_;rw[decide_eq_false (by simp),cond_false,<- h];simp only [val,Int.mul_zero,Int.add_zero]
   ·contradiction
  ·contradiction
def A177s:Ann:={ A177 with sum:=fun i=>bif Nat.beq i 3 then some S177 else none }
def lo64(n:Int):Int:=if 0<=n then n % 18446744073709551616 else(-n) % 18446744073709551616
theorem lo64_eq(n:Int):lo64 n=((n.natAbs % 18446744073709551616:Nat):Int):=by
 unfold lo64;split <;> omega
def uintO:Orc:=fun ρ args H cont=>match args,H with
 | [.v false [.ip (.pair .bool (.list (.int .u32))) d 0]],[]=>if zOk d then cont (one (.int .u64 (lo64 (zV d)))) []else none
 | _,_=>none
theorem run177{ρ:Type} (cont:SV->HL->Option ρ) (x:tZ.den):runF V0 A177s 0 Tryz.f151 (bodyOf Tryz.f151) ρ [one (.ip tZ x 0)] [] cont =
  (let m:Int:=if(2:Int)<List.length (α:=tW.den) x.2 then 2 else List.length (α:=tW.den) x.2
   if(0:Int)<=0/\0<=m/\m<=List.length (α:=tW.den) x.2 then
    (let c:List tW.den:=cut x.2 0 m
    if(0:Int)=0/\(0:Int)=0/\(c.length:Int)=c.length/\c.length<=2/\okW c then cont (one (.int .u64 (val c))) []else none)
   else none):=by kernel_rfl
theorem orc177(N:NumSem):OrcOK N Tryz.prog 151 uintO:=
 OrcOK.of_tale (runF_ok (V0_ok N) mixT (A:=A177s) (fuel:=0) Tryz.func151 (c:=bodyOf Tryz.f151) (by kernel_rfl)
  (SumsOK.ofL (ls:=[loopAt Tryz.f151 0]) (by kernel_rfl) ⟨sumL1 (by kernel_rfl) (sum177 N),trivial⟩)) fun ρ args H cont r h=>by
  unfold uintO at h;split at h
  ·rename_i d;split at h
   ·rename_i hd;obtain⟨n,hd1,hd2⟩:=zOk_ex hd;have hd1':(d:(Ty.pair .bool (.list (.int .u32))).den)=zD n:=hd1;subst hd1';rw[zV_zD]at h;refine(run177 cont (zD n)).trans ?_;have hl:List.length (α:=tW.den) (zD n).2=(words n.natAbs).length:=rfl;simp only [hl];have hm:∃ k:Nat,(if(2:Int)<((words n.natAbs).length:Int)then(2:Int)else((words n.natAbs).length:Int))=k/\k=min 2 (words n.natAbs).length:=by
     split
     ·exact⟨2,rfl,by omega⟩
     ·exact⟨_,rfl,by omega⟩
    obtain⟨k,hk,hk2⟩:=hm;rw[hk,if_pos (by omega)];have hc:(cut (zD n).2 0 (k:Int):List tW.den)=(words n.natAbs).take k:=by simp [cut,zD]
    rw[hc];have hc2:okW ((words n.natAbs).take k):=okW_take (words_ok _) _;have hcl:List.length (α:=tW.den) ((words n.natAbs).take k)=k:=by
     show ((words n.natAbs).take k).length=k;rw[List.length_take];omega
    rw[if_pos ⟨trivial,trivial,trivial,by rw[hcl];omega,hc2⟩,<- h];have hval:val ((words n.natAbs).take k)=((n.natAbs % 18446744073709551616:Nat):Int):=by
     have hs:=val_split (words n.natAbs) (n:=k) (by omega);rw[val_words]at hs;have hlo:=okW_val_take (words_ok n.natAbs) (k:=k) (by omega);have hdr:=val_nonneg (okW_drop (words_ok n.natAbs) k);rcases Nat.lt_or_ge (words n.natAbs).length 2 with h2 | h2
     ·have e:(words n.natAbs).drop k=[]:=List.drop_eq_nil_of_le (by omega);rw[e]at hs;simp only [val,Int.mul_zero,Int.add_zero]at hs;have h3:=words_lt n.natAbs;have h4:4294967296 ^ (words n.natAbs).length<=4294967296 ^ 1:=Nat.pow_le_pow_right (by omega) (by omega);rw[<- hs,Nat.mod_eq_of_lt (by omega)]
     ·have e:k=2:=by omega
      rw[e]at hs hlo ⊢;have e2:(4294967296:Int) ^ 2=18446744073709551616:=by decide
      rw[e2]at hs hlo;generalize val (List.drop 2 (words n.natAbs))=D at *;generalize val (List.take 2 (words n.natAbs))=L at *;omega
    rw[hval,lo64_eq]
   ·contradiction
  ·contradiction
def V10:Env:={ T:=tryT,E:=[],Γ:=gamL [(151,uintO)],M:=M8 }
theorem V10_ok(N:NumSem):EnvOK N Tryz.prog V10:=
 {T:=TabOk.of tryT_ok,E:=fun p hp=>(by cases hp),Γ:=gamC (orc177 N) Tryz.call151 (gamN N _) }
def int64O:Orc:=fun ρ args H cont=>match args,H with
 | [.v false [.ip (.pair .bool (.list (.int .u32))) d 0]],[]=>if zOk d /\ -9223372036854775808<=zV d/\zV d<9223372036854775808 then cont (one (.int .i64 (zV d))) []else none
 | _,_=>none
theorem run142{ρ:Type} (cont:SV->HL->Option ρ) (x:tZ.den):runF V10 Ash 0 Tryz.f117 (bodyOf Tryz.f117) ρ [one (.ip tZ x 0)] [] cont =
  if zOk x then(bif x.1 then cont (one (.int .i64 (IntKind.i64.wrap (0-IntKind.i64.wrap (lo64 (zV x)))))) []else cont (one (.int .i64 (IntKind.i64.wrap (lo64 (zV x))))) [])else none:=by kernel_rfl
theorem orc142(N:NumSem):OrcOK N Tryz.prog 117 int64O:=
 OrcOK.of_tale (runF_ok (V10_ok N) mixT (A:=Ash) (fuel:=0) Tryz.func117 (c:=bodyOf Tryz.f117) (by kernel_rfl) (wp_loops (by kernel_rfl))) fun ρ args H cont r h=>by
  unfold int64O at h;split at h
  ·rename_i d;split at h
   ·rename_i hd;obtain⟨hd,h1,h2⟩:=hd;obtain⟨n,hd1,hd2⟩:=zOk_ex hd;have hd1':(d:(Ty.pair .bool (.list (.int .u32))).den)=zD n:=hd1;subst hd1';rw[zV_zD]at h h1 h2;refine(run142 cont (zD n)).trans ?_;rw[if_pos hd,zV_zD,<- h];have h1':(zD n).1=decide (n<0):=rfl;rw[h1',lo64_eq,Nat.mod_eq_of_lt (by omega)]
    by_cases hneg:n<0
    ·rw[decide_eq_true hneg,cond_true];congr 3;rw[IntKind.wrap_i64,IntKind.wrap_i64];omega
    ·rw[decide_eq_false hneg,cond_false];congr 3;rw[IntKind.wrap_i64];omega
   ·contradiction
  ·contradiction
def isInt64O:Orc:=fun ρ args H cont=>match args,H with
 | [.v false [.ip (.pair .bool (.list (.int .u32))) d 0]],[]=>if zOk d then cont (one (.bool (decide (-9223372036854775808<=zV d/\zV d<9223372036854775808)))) []else none
 | _,_=>none
theorem run140{ρ:Type} (cont:SV->HL->Option ρ) (x:tZ.den):runF V10 Ash 0 Tryz.f116 (bodyOf Tryz.f116) ρ [one (.ip tZ x 0)] [] cont =
  bif decide ((List.length (α:=tW.den) x.2:Int)<=2)then
   (if zOk x then
    (bif decide (lo64 (zV x)<9223372036854775808)then cont (one (.bool true)) []
    else bif x.1 then(if zOk x then cont (one (.bool (bif true then bif false then true else bif true then(lo64 (zV x):Int)==9223372036854775808 else false else false))) []else none)
    else cont (one (.bool false)) [])else none)
  else cont (one (.bool false)) []:=by kernel_rfl
theorem orc140(N:NumSem):OrcOK N Tryz.prog 116 isInt64O:=
 OrcOK.of_tale (runF_ok (V10_ok N) mixT (A:=Ash) (fuel:=0) Tryz.func116 (c:=bodyOf Tryz.f116) (by kernel_rfl) (wp_loops (by kernel_rfl))) fun ρ args H cont r h=>by
  unfold isInt64O at h;split at h
  ·rename_i d;split at h
   ·rename_i hd;obtain⟨n,hd1,hd2⟩:=zOk_ex hd;have hd1':(d:(Ty.pair .bool (.list (.int .u32))).den)=zD n:=hd1;subst hd1';rw[zV_zD]at h;refine(run140 cont (zD n)).trans ?_;rw[<- h];have hl:List.length (α:=tW.den) (zD n).2=(words n.natAbs).length:=rfl;have h1':(zD n).1=decide (n<0):=rfl;rw[hl,zV_zD,h1'];have hlt:=words_lt n.natAbs
    by_cases h2:(words n.natAbs).length<=2
    ·have h3:4294967296 ^ (words n.natAbs).length<=4294967296 ^ 2:=Nat.pow_le_pow_right (by omega) h2;rw[decide_eq_true (by omega),cond_true,if_pos hd,lo64_eq,Nat.mod_eq_of_lt (by omega)]
     by_cases h4:n.natAbs<9223372036854775808
     ·rw[decide_eq_true (by omega),cond_true,decide_eq_true (by omega)]
     ·rw[decide_eq_false (by omega),cond_false]
      by_cases hneg:n<0
      ·rw[decide_eq_true hneg,cond_true,if_pos hd];congr 3;simp only [cond_true,cond_false];rw[Bool.eq_iff_iff,beq_iff_eq,decide_eq_true_eq];omega
      ·rw[decide_eq_false hneg,cond_false,decide_eq_false (by omega)]
    ·rw[decide_eq_false (by omega),cond_false,decide_eq_false];have h3:=words_len_ge (a:=n.natAbs) (n:=(words n.natAbs).length-1) (by omega);have h4:4294967296 ^ 2<=4294967296 ^ ((words n.natAbs).length-1):=Nat.pow_le_pow_right (by omega) (by omega);omega
   ·contradiction
  ·contradiction
end Go.Abs
namespace Go.Abs
open Go.Proofs
set_option maxRecDepth 100000
def negO:Orc:=fun ρ args H cont=>match args,H with
 | [.v false [.ptr 0 0],.v false [.ptr 0 0]],[.var [.bool b,.sl f (.int .u32) xs]]=>if zOk (b,xs)then cont (one (.ptr 0 0)) [zB (-(zV (b,xs)))]else none
 | args,H=>un1 (fun n=>-n) ρ args H cont
theorem run173s{ρ:Type} (cont:SV->HL->Option ρ) (b0:Bool) (f0:Option Bool) (x0:List tW.den) :
  runF V7 Ash 0 Tryz.f152 (bodyOf Tryz.f152) ρ [one (.ptr 0 0),one (.ptr 0 0)] [.var [.bool b0,.sl f0 tW x0]] cont =
  (let z:List tW.den:=[]
   if z.length+x0.length<=70368744177664/\(z.length+x0.length)*4<=70368744177664 then
   cont (one (.ptr 0 0)) [.var [.bool (!b0&&decide (0<List.length (α:=tW.den) (z++x0))),.sl none tW (z++x0)]]else none):=by kernel_rfl
theorem neg_sign(n:Int):(!decide (n<0)&&decide (0<(words n.natAbs).length))=decide (-n<0):=by
 rw[words_pos];rcases Int.lt_trichotomy n 0 with h | h | h
 ·simp [h];omega
 ·simp [h]
 ·have h1:¬ n<0:=by omega
  have h2:n≠0:=by omega
  simp [h1,h2];omega
theorem orc173n(N:NumSem):OrcOK N Tryz.prog 152 negO:=by
 have h0:OrcOK N Tryz.prog 152 (runF V7 Ash 0 Tryz.f152 (bodyOf Tryz.f152)):=runF_ok (V7_ok N) mixT (A:=Ash) (fuel:=0) Tryz.func152 (c:=bodyOf Tryz.f152) (by kernel_rfl) (wp_loops (by kernel_rfl));intro ρ args H cont r hr;unfold negO at hr;split at hr
 ·rename_i b f xs;split at hr
  ·rename_i hd;obtain⟨n,hd1,hd2⟩:=zOk_ex hd;rw[hd1,zV_zD]at hr;have hb:b=decide (n<0):=congrArg Prod.fst hd1;have hx:(xs:List (Ty.int .u32).den)=words n.natAbs:=congrArg Prod.snd hd1;subst hb hx;refine h0 ((run173s cont _ f _).trans ?_);have e:List.length (α:=tW.den) (words n.natAbs)=(words n.natAbs).length:=rfl;have e0:([]:List tW.den).length=0:=rfl;simp only [e,e0];rw[if_pos (by omega),<- hr];show cont (one (.ptr 0 0)) [.var [.bool (!decide (n<0)&&decide (0<(words n.natAbs).length)),.sl none tW (words n.natAbs)]]=cont (one (.ptr 0 0)) [.var [.bool (decide (-n<0)),.sl none tW (words (-n).natAbs)]];rw[neg_sign,Int.natAbs_neg]
  ·contradiction
 ·exact orc173 N hr
def rB(p q:Int):Blk:=.var [.bool (decide (p<0)),.sl none tW (words p.natAbs),.bool (decide (q<0)),.sl none tW (words q.natAbs)]
def rD(q:Rat):tR.den:=(zD q.num,zD q.den)
def rV(d:tR.den):Rat:=Rat.divInt (zV d.1) (zV d.2)
def rOk(d:tR.den):Prop:=d=rD (rV d)/\List.length (α:=Int) d.1.2<400000000/\List.length (α:=Int) d.2.2<400000000
instance (d:tR.den):Decidable (rOk d):=by unfold rOk;infer_instance
theorem rV_rD(q:Rat):rV (rD q)=q:=by
 unfold rV rD;simp only [zV_zD];exact Rat.num_divInt_den q
theorem rOk_ex{d:tR.den} (h:rOk d):∃ q:Rat,d=rD q/\(words q.num.natAbs).length<400000000/\(words q.den).length<400000000:=by
 obtain⟨h1,h2,h3⟩:=h;refine⟨rV d,h1,?_,?_⟩
 ·rw[h1]at h2;exact h2
 ·rw[h1]at h3;exact h3
theorem rOk_rD{q:Rat} (h:(words q.num.natAbs).length<400000000) (h':(words q.den).length<400000000):rOk (rD q):=⟨by rw[rV_rD],h,h'⟩
def M11:Nat->List (Nat × Ty):=fun f=>bif Nat.beq f 153 then [(1,tZ),(2,tZ)]else bif Nat.beq f 154 then [(1,tZ),(2,tZ)]else bif Nat.beq f 145 then [(0,tZ)]else bif Nat.beq f 152 then [(1,tZ)]else []
def V11:Env:={ T:=tryT,E:=[],Γ:=gamL [(153,un2 (fun n m=>decide (n≠0\/m≠0)) fun n m=>(Int.gcd n m:Nat)),(145,signO),(152,negO),(154,un2 (fun _ m=>decide (m≠0)) fun n m=>Int.tdiv n m)],M:=M11 }
theorem V11_ok(N:NumSem):EnvOK N Tryz.prog V11:=
 {T:=TabOk.of tryT_ok,E:=fun p hp=>(by cases hp),Γ:=gamC (orc210 N) Tryz.call153 (gamC (orc174 N) Tryz.call145 (gamC (orc173n N) Tryz.call152 (gamC (orc211 N) Tryz.call154 (gamN N _)))) }
def A159:Ann:={ shut:=true,ips:=fun i=>bif Nat.beq i 4 then [(7,tZ)]else [] }
def fin159{ρ:Type} (cont:SV->HL->Option ρ) (x y:tZ.den) (c:Int):Option ρ:=
 if zOk x/\zOk (zD c)/\decide (zV (zD c)≠0)=true then
  (if zOk y/\zOk (zD c)/\decide (zV (zD c)≠0)=true then cont (one (.ptr 0 0)) [rB (Int.tdiv (zV x) (zV (zD c))) (Int.tdiv (zV y) (zV (zD c)))]else none)else none
theorem run159{ρ:Type} (cont:SV->HL->Option ρ) (b0 b1:Bool) (x y:tZ.den) :
  runF V11 A159 0 Tryz.f119 (bodyOf Tryz.f119) ρ [one (.ptr 0 0),one (.ip tZ x 0),one (.ip tZ y 0)] [.var [.bool b0,.nils,.bool b1,.nils]] cont =
  if zOk x/\zOk y/\decide (zV x≠0\/zV y≠0)=true then
   (if zOk y then
    bif decide (Int.sign (zV y)<0)then(if zOk (zD (Int.gcd (zV x) (zV y):Nat))then fin159 cont x y (-(zV (zD (Int.gcd (zV x) (zV y):Nat))))else none)
    else fin159 cont x y (Int.gcd (zV x) (zV y):Nat)
   else none)
  else none:=by kernel_rfl
def setFracO:Orc:=fun ρ args H cont=>match args,H with
 | [.v false [.ptr 0 0],.v false [.ip (.pair .bool (.list (.int .u32))) d 0],.v false [.ip (.pair .bool (.list (.int .u32))) e 0]],[.var [.bool _,.nils,.bool _,.nils]] =>
  if zOk d/\zOk e/\zV e≠0 then cont (one (.ptr 0 0)) [rB (Rat.divInt (zV d) (zV e)).num (Rat.divInt (zV d) (zV e)).den]else none
 | _,_=>none
theorem tdiv_neg_gcd(n m:Int) (hm:m≠0):Int.tdiv n (if m<0 then -(Int.gcd n m:Int)else Int.gcd n m)=(Rat.divInt n m).num/\Int.tdiv m (if m<0 then -(Int.gcd n m:Int)else Int.gcd n m)=(Rat.divInt n m).den:=by
 have hg:0<Int.gcd n m:=Int.gcd_pos_of_ne_zero_right n hm;rw[Rat.num_divInt,Rat.den_divInt,if_neg hm,Int.gcd_comm m n];obtain⟨a,ha⟩:((Int.gcd n m:Nat):Int) ∣ n:=Int.gcd_dvd_left ..;obtain⟨b,hb⟩:((Int.gcd n m:Nat):Int) ∣ m:=Int.gcd_dvd_right ..;generalize Int.gcd n m=g at *;have hgi:(g:Int)≠0:=by omega
 have hbn:m.natAbs / g=b.natAbs:=by
  rw[hb,Int.natAbs_mul,Int.natAbs_natCast,Nat.mul_div_cancel_left _ hg]
 rw[hbn];rcases Int.lt_or_le m 0 with h | h
 ·have hbneg:b<0:=by
   rcases Int.lt_or_le b 0 with hb0 | hb0
   ·exact hb0
   ·exfalso;have:0<=(g:Int)*b:=Int.mul_nonneg (by omega) hb0;omega
  rw[if_pos h,Int.sign_eq_neg_one_of_neg h];refine⟨?_,?_⟩
  ·rw[ha,Int.tdiv_neg,Int.mul_tdiv_cancel_left _ hgi,Int.neg_mul,Int.one_mul,<- Int.mul_neg,Int.mul_ediv_cancel_left _ hgi]
  ·rw[hb,Int.tdiv_neg,Int.mul_tdiv_cancel_left _ hgi];omega
 ·have hbpos:0<=b:=by
   rcases Int.lt_or_le b 0 with hb0 | hb0
   ·exfalso;have:(g:Int)*b<0:=Int.mul_neg_of_pos_of_neg (by omega) hb0;omega
   ·exact hb0
  rw[if_neg (by omega),Int.sign_eq_one_of_pos (by omega)];refine⟨?_,?_⟩
  ·rw[ha,Int.mul_tdiv_cancel_left _ hgi,Int.one_mul,Int.mul_ediv_cancel_left _ hgi]
  ·rw[hb,Int.mul_tdiv_cancel_left _ hgi];omega
theorem orc159(N:NumSem):OrcOK N Tryz.prog 119 setFracO:=
 OrcOK.of_tale (runF_ok (V11_ok N) mixT (A:=A159) (fuel:=0) Tryz.func119 (c:=bodyOf Tryz.f119) (by kernel_rfl) (wp_loops (by kernel_rfl))) fun ρ args H cont r h=>by
  unfold setFracO at h;split at h
  ·rename_i d e b0 b1;split at h
   ·rename_i hd;obtain⟨hd,he,hm0⟩:=hd;obtain⟨n,hd1,hd2⟩:=zOk_ex hd;obtain⟨m,he1,he2⟩:=zOk_ex he;have hd1':(d:(Ty.pair .bool (.list (.int .u32))).den)=zD n:=hd1;have he1':(e:(Ty.pair .bool (.list (.int .u32))).den)=zD m:=he1;subst hd1' he1';rw[zV_zD,zV_zD]at h;rw[zV_zD]at hm0;refine(run159 cont b0 b1 (zD n) (zD m)).trans ?_;rw[zV_zD,zV_zD,if_pos ⟨hd,he,decide_eq_true (.inr hm0)⟩,if_pos he,zV_zD];have hgl:(words (Int.gcd n m)).length<1000000000:=by
     have h1:Int.gcd n m<=m.natAbs:=Nat.le_of_dvd (by omega) (Nat.gcd_dvd_right ..);have:=words_mono h1;omega
    have hg:0<Int.gcd n m:=Int.gcd_pos_of_ne_zero_right n hm0;have hzg:zOk (zD ((Int.gcd n m:Nat):Int)):=zOk_zD (by rw[Int.natAbs_natCast];exact hgl);have hzg':zOk (zD (-((Int.gcd n m:Nat):Int))):=zOk_zD (by rw[Int.natAbs_neg,Int.natAbs_natCast];exact hgl);obtain⟨t1,t2⟩:=tdiv_neg_gcd n m hm0;have fin:∀ c:Int,zOk (zD c)->c≠0->c=(if m<0 then -(Int.gcd n m:Int)else Int.gcd n m)->fin159 cont (zD n) (zD m) c=some r:=fun c hc hc0 hcc=>by
     unfold fin159;rw[zV_zD,zV_zD,zV_zD,if_pos ⟨hd,hc,decide_eq_true hc0⟩,if_pos ⟨he,hc,decide_eq_true hc0⟩,hcc,t1,t2];exact h
    rcases Int.lt_or_le m 0 with hm | hm
    ·rw[Int.sign_eq_neg_one_of_neg hm,show decide ((-1:Int)<0)=true from rfl,cond_true,if_pos hzg];exact fin _ hzg' (by omega) (by rw[if_pos hm])
    ·rw[Int.sign_eq_one_of_pos (by omega),show decide ((1:Int)<0)=false from rfl,cond_false];exact fin _ hzg (by omega) (by rw[if_neg (by omega)])
   ·contradiction
  ·contradiction
end Go.Abs

/-
 A PART OF THE PROOF of ClI (texts BigF RatA RatN RatB): the claim itself stands in the last text. No conditions beside those of the given row.
-/
import Derived.Test.YtjefeldkonejcaaGreatBigC
import Derived.Lib.LaidTab
import Derived.Lib.ItoaNum
set_option linter.unusedVariables false
set_option linter.unnecessarySimpa false
set_option linter.unusedSimpArgs false
namespace Go.Abs
open Go.Proofs
set_option maxRecDepth 100000
def M12:Nat->List (Nat × Ty):=fun f=>bif Nat.beq f 119 then [(1,tZ),(2,tZ)]else bif Nat.beq f 112 then [(1,tZ),(2,tZ)]else bif Nat.beq f 120 then [(1,tZ),(2,tZ)]else bif Nat.beq f 114 then [(0,tZ),(1,tZ)]else
 bif Nat.beq f 145 then [(0,tZ)]else bif Nat.beq f 152 then [(1,tZ)]else bif Nat.beq f 149 then [(1,tZ)]else bif Nat.beq f 115 then [(0,tR)]else bif Nat.beq f 113 then [(0,tR)]else
 bif Nat.beq f 118 then [(1,tR)]else bif Nat.beq f 83 then [(1,tR),(2,tR)]else []
theorem rOk_z{q:Rat} (h:rOk (rD q)):zOk (zD q.num)/\zOk (zD (q.den:Int))/\(words q.num.natAbs).length<400000000/\(words q.den).length<400000000:=by
 obtain⟨h1,h2,h3⟩:=h;have h2':(words q.num.natAbs).length<400000000:=h2;have h3':(words q.den).length<400000000:=h3;exact⟨zOk_zD (by omega),zOk_zD (by rw[Int.natAbs_natCast];omega),h2',h3'⟩
def ofR(f:Rat->SV):Orc:=fun ρ args H cont=>match args,H with
 | [.v false [.ip (.pair (.pair .bool (.list (.int .u32))) (.pair .bool (.list (.int .u32)))) d 0]],[]=>if rOk d then cont (f (rV d)) []else none
 | _,_=>none
theorem ofR_ok{N:NumSem} {P:Program} {k:Nat} {f:Rat->SV} {F:Orc} (hF:OrcOK N P k F)
  (h:∀ ρ (cont:SV->HL->Option ρ) (q:Rat),rOk (rD q)->F ρ [one (.ip tR (rD q) 0)] [] cont=cont (f q) []):OrcOK N P k (ofR f):=
 OrcOK.of_tale hF fun ρ args H cont r hr=>by
  unfold ofR at hr;split at hr
  ·rename_i d;split at hr
   ·rename_i hd;obtain⟨q,hd1,hd2⟩:=rOk_ex hd;have hd1':(d:tR.den)=rD q:=hd1;subst hd1';rw[rV_rD]at hr;exact(h ρ cont q hd).trans hr
   ·contradiction
  ·contradiction
def V12:Env:={ T:=tryT,E:=[],Γ:=gamL [(119,setFracO),(149,un1 fun n=>n),(152,negO),(145,signO),(146,newIntO),(112,un2 (fun _ _=>true) fun n m=>n*m),(120,addO),(114,cmpO)],M:=M12 }
theorem V12_ok(N:NumSem):EnvOK N Tryz.prog V12:=
 {T:=TabOk.of tryT_ok,E:=fun p hp=>(by cases hp),Γ:=gamC (orc159 N) Tryz.call119 (gamC (orc176 N) Tryz.call149 (gamC (orc173n N) Tryz.call152 (gamC (orc174 N) Tryz.call145 (gamC (orc178 N) Tryz.call146 (gamC (orc157 N) Tryz.call112 (gamC (orc160 N) Tryz.call120 (gamC (orc158 N) Tryz.call114 (gamN N _)))))))) }
theorem run139{ρ:Type} (cont:SV->HL->Option ρ) (x:tR.den):runF V12 Aip 0 Tryz.f115 (bodyOf Tryz.f115) ρ [one (.ip tR x 0)] [] cont =
  if zOk x.1 then cont (one (.ip tZ (zD (zV x.1)) 0)) []else none:=by kernel_rfl
theorem orc139(N:NumSem):OrcOK N Tryz.prog 115 (ofR fun q=>one (.ip tZ (zD q.num) 0)):=
 ofR_ok (runF_ok (V12_ok N) mixT (A:=Aip) (fuel:=0) Tryz.func115 (c:=bodyOf Tryz.f115) (by kernel_rfl) (wp_loops (by kernel_rfl))) fun ρ cont q hq=>by
  have h1:zOk (rD q).1:=(rOk_z hq).1;rw[run139,if_pos h1];simp only [rD,zV_zD]
theorem run141{ρ:Type} (cont:SV->HL->Option ρ) (x:tR.den):runF V12 Aip 0 Tryz.f113 (bodyOf Tryz.f113) ρ [one (.ip tR x 0)] [] cont =
  if zOk x.2 then
   bif Int.sign (zV x.2)==0 then(if(-9223372036854775808:Int)<=1/\(1:Int)<9223372036854775808 then cont (one (.ip tZ (zD 1) 0)) []else none)
   else(if zOk x.2 then cont (one (.ip tZ (zD (zV x.2)) 0)) []else none)
  else none:=by kernel_rfl
theorem orc141(N:NumSem):OrcOK N Tryz.prog 113 (ofR fun q=>one (.ip tZ (zD q.den) 0)):=
 ofR_ok (runF_ok (V12_ok N) mixT (A:=Aip) (fuel:=0) Tryz.func113 (c:=bodyOf Tryz.f113) (by kernel_rfl) (wp_loops (by kernel_rfl))) fun ρ cont q hq=>by
  have h2:=(rOk_z hq).2.1;have hd:=q.den_pos;have hs:(Int.sign (q.den:Int)==0)=false:=by rw[Int.sign_eq_one_of_pos (by omega)];rfl
  rw[run141];show (if zOk (zD (q.den:Int))then _ else none)=_;rw[if_pos h2];simp only [rD,zV_zD];rw[hs,cond_false,if_pos h2]
theorem run137{ρ:Type} (cont:SV->HL->Option ρ) (x:tR.den):runF V12 Ash 0 Tryz.f110 (bodyOf Tryz.f110) ρ [one (.ip tR x 0)] [] cont =
  if zOk x.1 then cont (one (.int .i64 (Int.sign (zV x.1)))) []else none:=by kernel_rfl
theorem orc137(N:NumSem):OrcOK N Tryz.prog 110 (ofR fun q=>one (.int .i64 (Int.sign q.num))):=
 ofR_ok (runF_ok (V12_ok N) mixT (A:=Ash) (fuel:=0) Tryz.func110 (c:=bodyOf Tryz.f110) (by kernel_rfl) (wp_loops (by kernel_rfl))) fun ρ cont q hq=>by
  have h1:zOk (rD q).1:=(rOk_z hq).1;rw[run137,if_pos h1];simp only [rD,zV_zD]
def newRatO:Orc:=fun ρ args H cont=>match args,H with
 | [.v false [.int .i64 a],.v false [.int .i64 b]],[]=>if(-9223372036854775808<=a/\a<9223372036854775808)/\(-9223372036854775808<=b/\b<9223372036854775808)/\b≠0 then cont (one (.ip tR (rD (Rat.divInt a b)) 0)) []else none
 | _,_=>none
def Ar:Ann:={ shut:=true,res:=[(0,tR)] }
theorem run143{ρ:Type} (cont:SV->HL->Option ρ) (a b:Int):runF V12 Ar 0 Tryz.f111 (bodyOf Tryz.f111) ρ [one (.int .i64 a),one (.int .i64 b)] [] cont =
  if -9223372036854775808<=a/\a<9223372036854775808 then(if -9223372036854775808<=b/\b<9223372036854775808 then
   (if zOk (zD a)/\zOk (zD b)/\zV (zD b)≠0 then cont (one (.ip tR (rD (Rat.divInt (zV (zD a)) (zV (zD b)))) 0)) []else none)else none)else none:=by kernel_rfl
theorem words_small{n:Nat} (h:n<18446744073709551616):(words n).length<=2:=words_length (k:=2) (by omega)
theorem orc143(N:NumSem):OrcOK N Tryz.prog 111 newRatO:=
 OrcOK.of_tale (runF_ok (V12_ok N) mixT (A:=Ar) (fuel:=0) Tryz.func111 (c:=bodyOf Tryz.f111) (by kernel_rfl) (wp_loops (by kernel_rfl))) fun ρ args H cont r h=>by
  unfold newRatO at h;split at h
  ·rename_i a b;split at h
   ·rename_i hc;obtain⟨ha,hb,hb0⟩:=hc;refine(run143 cont a b).trans ?_;have la:=words_small (n:=a.natAbs) (by omega);have lb:=words_small (n:=b.natAbs) (by omega);rw[if_pos ha,if_pos hb,zV_zD,zV_zD,if_pos ⟨zOk_zD (by omega),zOk_zD (by omega),hb0⟩];exact h
   ·contradiction
  ·contradiction
theorem words_mul(a b:Nat):(words (a*b)).length<=(words a).length+(words b).length:=by
 refine words_length ?_;have h1:=words_lt a;have h2:=words_lt b;rw[Nat.pow_add];exact Nat.mul_lt_mul'' h1 h2
theorem words_add(a b:Nat):(words (a+b)).length<=max (words a).length (words b).length+1:=by
 refine words_length ?_;have h1:=words_lt a;have h2:=words_lt b;have h3:4294967296 ^ (words a).length<=4294967296 ^ max (words a).length (words b).length:=Nat.pow_le_pow_right (by omega) (Nat.le_max_left ..);have h4:4294967296 ^ (words b).length<=4294967296 ^ max (words a).length (words b).length:=Nat.pow_le_pow_right (by omega) (Nat.le_max_right ..);rw[Nat.pow_succ];omega
theorem words_imul(a b:Int):(words (a*b).natAbs).length<=(words a.natAbs).length+(words b.natAbs).length:=by
 rw[Int.natAbs_mul];exact words_mul _ _
theorem words_iadd(a b:Int):(words (a+b).natAbs).length<=max (words a.natAbs).length (words b.natAbs).length+1:=
 Nat.le_trans (words_mono (Int.natAbs_add_le a b)) (words_add _ _)
theorem words_isub(a b:Int):(words (a-b).natAbs).length<=max (words a.natAbs).length (words b.natAbs).length+1:=by
 have:=words_iadd a (-b);rw[Int.natAbs_neg]at this;rw[Int.sub_eq_add_neg];exact this
def unR(g:Rat->Bool) (f:Rat->Rat):Orc:=fun ρ args H cont=>match args,H with
 | [.v false [.ptr 0 0],.v false [.ip (.pair (.pair .bool (.list (.int .u32))) (.pair .bool (.list (.int .u32)))) d 0]],[.var [.bool _,.nils,.bool _,.nils]] =>
  if rOk d/\g (rV d)=true then cont (one (.ptr 0 0)) [rB (f (rV d)).num (f (rV d)).den]else none
 | _,_=>none
theorem unR_ok{N:NumSem} {P:Program} {k:Nat} {g:Rat->Bool} {f:Rat->Rat} {F:Orc} (hF:OrcOK N P k F)
  (h:∀ ρ (cont:SV->HL->Option ρ) b0 b1 (q:Rat),rOk (rD q)->g q=true->F ρ [one (.ptr 0 0),one (.ip tR (rD q) 0)] [.var [.bool b0,.nils,.bool b1,.nils]] cont=cont (one (.ptr 0 0)) [rB (f q).num (f q).den]):OrcOK N P k (unR g f):=
 OrcOK.of_tale hF fun ρ args H cont r hr=>by
  unfold unR at hr;split at hr
  ·rename_i d b0 b1;split at hr
   ·rename_i hd;obtain⟨hd,hg⟩:=hd;obtain⟨q,hd1,hd2⟩:=rOk_ex hd;have hd1':(d:tR.den)=rD q:=hd1;subst hd1';rw[rV_rD]at hr hg;exact(h ρ cont b0 b1 q hd hg).trans hr
   ·contradiction
  ·contradiction
def V13:Env:={ T:=tryT,E:=[],Γ:=gamL [(119,setFracO),(152,negO),(112,un2 (fun _ _=>true) fun n m=>n*m),(120,addO),(114,cmpO),(115,ofR fun q=>one (.ip tZ (zD q.num) 0)),(113,ofR fun q=>one (.ip tZ (zD q.den) 0))],M:=M12 }
theorem V13_ok(N:NumSem):EnvOK N Tryz.prog V13:=
 {T:=TabOk.of tryT_ok,E:=fun p hp=>(by cases hp),Γ:=gamC (orc159 N) Tryz.call119 (gamC (orc173n N) Tryz.call152 (gamC (orc157 N) Tryz.call112 (gamC (orc160 N) Tryz.call120 (gamC (orc158 N) Tryz.call114 (gamC (orc139 N) Tryz.call115 (gamC (orc141 N) Tryz.call113 (gamN N _))))))) }
def frac{ρ:Type} (cont:SV->HL->Option ρ) (a b:Int):Option ρ:=
 if zOk (zD a)/\zOk (zD b)/\zV (zD b)≠0 then cont (one (.ptr 0 0)) [rB (Rat.divInt (zV (zD a)) (zV (zD b))).num (Rat.divInt (zV (zD a)) (zV (zD b))).den]else none
theorem frac_eq{ρ:Type} (cont:SV->HL->Option ρ) (a b:Int) (ha:(words a.natAbs).length<1000000000) (hb:(words b.natAbs).length<1000000000) (h0:b≠0) :
  frac cont a b=cont (one (.ptr 0 0)) [rB (Rat.divInt a b).num (Rat.divInt a b).den]:=by
 unfold frac;rw[zV_zD,zV_zD,if_pos ⟨zOk_zD ha,zOk_zD hb,h0⟩]
theorem run136{ρ:Type} (cont:SV->HL->Option ρ) (b0 b1:Bool) (x:tR.den):runF V13 Ash 0 Tryz.f118 (bodyOf Tryz.f118) ρ [one (.ptr 0 0),one (.ip tR x 0)] [.var [.bool b0,.nils,.bool b1,.nils]] cont =
  if zOk x.1 then(if rOk x then frac cont (-(zV x.1)) (rV x).den else none)else none:=by kernel_rfl
theorem orc136(N:NumSem):OrcOK N Tryz.prog 118 (unR (fun _=>true) fun q=>-q):=
 unR_ok (runF_ok (V13_ok N) mixT (A:=Ash) (fuel:=0) Tryz.func118 (c:=bodyOf Tryz.f118) (by kernel_rfl) (wp_loops (by kernel_rfl))) fun ρ cont b0 b1 q hq _=>by
  obtain⟨h1,h2,h3,h4⟩:=rOk_z hq;rw[run136,rV_rD,if_pos hq];show (if zOk (zD q.num)then _ else none)=_;rw[if_pos h1];have hd:=q.den_pos;rw[frac_eq cont _ _ (by simp only [rD,zV_zD,Int.natAbs_neg];omega) (by rw[Int.natAbs_natCast];omega) (by omega)];simp only [rD,zV_zD];rw[<- Rat.neg_divInt,Rat.num_divInt_den]
theorem run175{ρ:Type} (cont:SV->HL->Option ρ) (b0 b1:Bool) (x:tR.den):runF V13 Ash 0 Tryz.f157 (bodyOf Tryz.f157) ρ [one (.ptr 0 0),one (.ip tR x 0)] [.var [.bool b0,.nils,.bool b1,.nils]] cont =
  if rOk x then(if rOk x then frac cont (rV x).den (rV x).num else none)else none:=by kernel_rfl
theorem orc175(N:NumSem):OrcOK N Tryz.prog 157 (unR (fun q=>decide (q≠0)) fun q=>q⁻¹):=
 unR_ok (runF_ok (V13_ok N) mixT (A:=Ash) (fuel:=0) Tryz.func157 (c:=bodyOf Tryz.f157) (by kernel_rfl) (wp_loops (by kernel_rfl))) fun ρ cont b0 b1 q hq hg=>by
  obtain⟨h1,h2,h3,h4⟩:=rOk_z hq;have h0:q≠0:=of_decide_eq_true hg;have hn:q.num≠0:=fun e=>h0 (Rat.num_eq_zero.1 e)
  rw[run175,rV_rD,if_pos hq,if_pos hq,frac_eq cont _ _ (by rw[Int.natAbs_natCast];omega) (by omega) hn];rw[<- Rat.inv_divInt,Rat.num_divInt_den]
def unR2(f:Rat->Rat->Rat):Orc:=fun ρ args H cont=>match args,H with
 | [.v false [.ptr 0 0],.v false [.ip (.pair (.pair .bool (.list (.int .u32))) (.pair .bool (.list (.int .u32)))) d 0],.v false [.ip (.pair (.pair .bool (.list (.int .u32))) (.pair .bool (.list (.int .u32)))) e 0]],[.var [.bool _,.nils,.bool _,.nils]] =>
  if rOk d/\rOk e then cont (one (.ptr 0 0)) [rB (f (rV d) (rV e)).num (f (rV d) (rV e)).den]else none
 | _,_=>none
theorem unR2_ok{N:NumSem} {P:Program} {k:Nat} {f:Rat->Rat->Rat} {F:Orc} (hF:OrcOK N P k F)
  (h:∀ ρ (cont:SV->HL->Option ρ) b0 b1 (p q:Rat),rOk (rD p)->rOk (rD q)->F ρ [one (.ptr 0 0),one (.ip tR (rD p) 0),one (.ip tR (rD q) 0)] [.var [.bool b0,.nils,.bool b1,.nils]] cont=cont (one (.ptr 0 0)) [rB (f p q).num (f p q).den]):OrcOK N P k (unR2 f):=
 OrcOK.of_tale hF fun ρ args H cont r hr=>by
  unfold unR2 at hr;split at hr
  ·rename_i d e b0 b1;split at hr
   ·rename_i hd;obtain⟨hd,he⟩:=hd;obtain⟨p,hd1,hd2⟩:=rOk_ex hd;obtain⟨q,he1,he2⟩:=rOk_ex he;have hd1':(d:tR.den)=rD p:=hd1;have he1':(e:tR.den)=rD q:=he1;subst hd1' he1';rw[rV_rD,rV_rD]at hr;exact(h ρ cont b0 b1 p q hd he).trans hr
   ·contradiction
  ·contradiction
theorem run117{ρ:Type} (cont:SV->HL->Option ρ) (b0 b1:Bool) (x y:tR.den):runF V13 Ash 0 Tryz.f83 (bodyOf Tryz.f83) ρ [one (.ptr 0 0),one (.ip tR x 0),one (.ip tR y 0)] [.var [.bool b0,.nils,.bool b1,.nils]] cont =
  if rOk y then(if zOk x.1/\zOk (zD (rV y).den)/\true=true then
   (if rOk x then(if zOk y.1/\zOk (zD (rV x).den)/\true=true then
    (if zOk (zD (zV x.1*zV (zD (rV y).den)))/\zOk (zD (zV y.1*zV (zD (rV x).den)))then
     (if rOk x then(if rOk y then(if zOk (zD (rV x).den)/\zOk (zD (rV y).den)/\true=true then
      frac cont (zV (zD (zV x.1*zV (zD (rV y).den)))+zV (zD (zV y.1*zV (zD (rV x).den)))) (zV (zD (rV x).den)*zV (zD (rV y).den))else none)else none)else none)
     else none)else none)else none)else none)else none:=by kernel_rfl
theorem orc117(N:NumSem):OrcOK N Tryz.prog 83 (unR2 fun p q=>p+q):=
 unR2_ok (runF_ok (V13_ok N) mixT (A:=Ash) (fuel:=0) Tryz.func83 (c:=bodyOf Tryz.f83) (by kernel_rfl) (wp_loops (by kernel_rfl))) fun ρ cont b0 b1 p q hp hq=>by
  obtain⟨p1,p2,p3,p4⟩:=rOk_z hp;obtain⟨q1,q2,q3,q4⟩:=rOk_z hq;have m1:=words_imul p.num q.den;have m2:=words_imul q.num p.den;have m3:=words_imul p.den q.den;have m4:=words_iadd (p.num*q.den) (q.num*p.den);rw[Int.natAbs_natCast]at m1 m2 m3;rw[Int.natAbs_natCast]at m3;have hx1:(rD p).1=zD p.num:=rfl;have hy1:(rD q).1=zD q.num:=rfl;rw[run117];simp only [rV_rD,hx1,hy1,zV_zD];rw[if_pos hq,if_pos ⟨p1,q2,trivial⟩,if_pos hp,if_pos ⟨q1,p2,trivial⟩,if_pos ⟨zOk_zD (by omega),zOk_zD (by omega)⟩,if_pos hp,if_pos hq,if_pos ⟨p2,q2,trivial⟩];have hd:=p.den_pos;have hd':=q.den_pos;have hne:(p.den:Int)*q.den≠0:=by
   have:=Int.mul_pos (a:=(p.den:Int)) (b:=q.den) (by omega) (by omega);omega
  rw[frac_eq cont _ _ (by omega) (by omega) hne,<- Rat.divInt_add_divInt _ _ (by omega) (by omega),Rat.num_divInt_den,Rat.num_divInt_den]
theorem run119{ρ:Type} (cont:SV->HL->Option ρ) (b0 b1:Bool) (x y:tR.den):runF V13 Ash 0 Tryz.f85 (bodyOf Tryz.f85) ρ [one (.ptr 0 0),one (.ip tR x 0),one (.ip tR y 0)] [.var [.bool b0,.nils,.bool b1,.nils]] cont =
  if zOk x.1/\zOk y.1/\true=true then(if rOk x then(if rOk y then(if zOk (zD (rV x).den)/\zOk (zD (rV y).den)/\true=true then
   frac cont (zV x.1*zV y.1) (zV (zD (rV x).den)*zV (zD (rV y).den))else none)else none)else none)else none:=by kernel_rfl
theorem orc119(N:NumSem):OrcOK N Tryz.prog 85 (unR2 fun p q=>p*q):=
 unR2_ok (runF_ok (V13_ok N) mixT (A:=Ash) (fuel:=0) Tryz.func85 (c:=bodyOf Tryz.f85) (by kernel_rfl) (wp_loops (by kernel_rfl))) fun ρ cont b0 b1 p q hp hq=>by
  obtain⟨p1,p2,p3,p4⟩:=rOk_z hp;obtain⟨q1,q2,q3,q4⟩:=rOk_z hq;have m1:=words_imul p.num q.num;have m3:=words_imul p.den q.den;rw[Int.natAbs_natCast]at m3;rw[Int.natAbs_natCast]at m3;have hx1:(rD p).1=zD p.num:=rfl;have hy1:(rD q).1=zD q.num:=rfl;rw[run119];simp only [rV_rD,hx1,hy1,zV_zD];rw[if_pos ⟨p1,q1,trivial⟩,if_pos hp,if_pos hq,if_pos ⟨p2,q2,trivial⟩];have hd:=p.den_pos;have hd':=q.den_pos;have hne:(p.den:Int)*q.den≠0:=by
   have:=Int.mul_pos (a:=(p.den:Int)) (b:=q.den) (by omega) (by omega);omega
  rw[frac_eq cont _ _ (by omega) (by omega) hne,<- Rat.divInt_mul_divInt,Rat.num_divInt_den,Rat.num_divInt_den]
def cmpQ(p q:Rat):Int:=Int.sign (p.num*q.den-q.num*p.den)
def cmpRatO:Orc:=fun ρ args H cont=>match args,H with
 | [.v false [.ip (.pair (.pair .bool (.list (.int .u32))) (.pair .bool (.list (.int .u32)))) d 0],.v false [.ip (.pair (.pair .bool (.list (.int .u32))) (.pair .bool (.list (.int .u32)))) e 0]],[] =>
  if rOk d/\rOk e then cont (one (.int .i64 (cmpQ (rV d) (rV e)))) []else none
 | _,_=>none
theorem run116{ρ:Type} (cont:SV->HL->Option ρ) (x y:tR.den):runF V13 Ash 0 Tryz.f78 (bodyOf Tryz.f78) ρ [one (.ip tR x 0),one (.ip tR y 0)] [] cont =
  if rOk y then(if zOk x.1/\zOk (zD (rV y).den)/\true=true then(if rOk x then(if zOk y.1/\zOk (zD (rV x).den)/\true=true then
   (if zOk (zD (zV x.1*zV (zD (rV y).den)))/\zOk (zD (zV y.1*zV (zD (rV x).den)))then
    cont (one (.int .i64 (Int.sign (zV (zD (zV x.1*zV (zD (rV y).den)))-zV (zD (zV y.1*zV (zD (rV x).den))))))) []else none)else none)else none)else none)else none:=by kernel_rfl
theorem orc116(N:NumSem):OrcOK N Tryz.prog 78 cmpRatO:=
 OrcOK.of_tale (runF_ok (V13_ok N) mixT (A:=Ash) (fuel:=0) Tryz.func78 (c:=bodyOf Tryz.f78) (by kernel_rfl) (wp_loops (by kernel_rfl))) fun ρ args H cont r hr=>by
  unfold cmpRatO at hr;split at hr
  ·rename_i d e;split at hr
   ·rename_i hd;obtain⟨hp,hq⟩:=hd;obtain⟨p,hd1,hd2⟩:=rOk_ex hp;obtain⟨q,he1,he2⟩:=rOk_ex hq;have hd1':(d:tR.den)=rD p:=hd1;have he1':(e:tR.den)=rD q:=he1;subst hd1' he1';rw[rV_rD,rV_rD]at hr;obtain⟨p1,p2,p3,p4⟩:=rOk_z hp;obtain⟨q1,q2,q3,q4⟩:=rOk_z hq;have m1:=words_imul p.num q.den;have m2:=words_imul q.num p.den;rw[Int.natAbs_natCast]at m1 m2;have hx1:(rD p).1=zD p.num:=rfl;have hy1:(rD q).1=zD q.num:=rfl;refine(run116 cont (rD p) (rD q)).trans ?_;simp only [rV_rD,hx1,hy1,zV_zD];rw[if_pos hq,if_pos ⟨p1,q2,trivial⟩,if_pos hp,if_pos ⟨q1,p2,trivial⟩,if_pos ⟨zOk_zD (by omega),zOk_zD (by omega)⟩];exact hr
   ·contradiction
  ·contradiction
def V14:Env:={ T:=tryT,E:=[],Γ:=gamL [(118,unR (fun _=>true) fun q=>-q),(83,unR2 fun p q=>p+q)],M:=M12 }
theorem V14_ok(N:NumSem):EnvOK N Tryz.prog V14:=
 {T:=TabOk.of tryT_ok,E:=fun p hp=>(by cases hp),Γ:=gamC (orc136 N) Tryz.call118 (gamC (orc117 N) Tryz.call83 (gamN N _)) }
theorem run94{ρ:Type} (cont:SV->HL->Option ρ) (b0 b1:Bool) (x y:tR.den):runF V14 Ash 0 Tryz.f82 (bodyOf Tryz.f82) ρ [one (.ptr 0 0),one (.ip tR x 0),one (.ip tR y 0)] [.var [.bool b0,.nils,.bool b1,.nils]] cont =
  if rOk y/\true=true then(if rOk x/\rOk (rD (-(rV y)))then cont (one (.ptr 0 0)) [rB (rV x+rV (rD (-(rV y)))).num (rV x+rV (rD (-(rV y)))).den]else none)else none:=by kernel_rfl
theorem orc94(N:NumSem):OrcOK N Tryz.prog 82 (unR2 fun p q=>p-q):=
 unR2_ok (runF_ok (V14_ok N) mixT (A:=Ash) (fuel:=0) Tryz.func82 (c:=bodyOf Tryz.f82) (by kernel_rfl) (wp_loops (by kernel_rfl))) fun ρ cont b0 b1 p q hp hq=>by
  obtain⟨q1,q2,q3,q4⟩:=rOk_z hq;rw[run94,rV_rD,rV_rD,if_pos ⟨hq,rfl⟩,if_pos ⟨hp,rOk_rD (by rw[Rat.neg_num,Int.natAbs_neg];exact q3) (by rw[Rat.neg_den];exact q4)⟩,rV_rD,Rat.sub_eq_add_neg]
end Go.Abs
namespace Go.Abs
open Go.Proofs
set_option maxRecDepth 100000
def igcd(a b:Int):Int:=if 0<=a then(Nat.gcd a.toNat b.toNat:Nat)else 0
def iabs(n:Int):Int:=if n<0 then -n else n
theorem iabs_eq(n:Int):iabs n=n.natAbs:=by unfold iabs;split <;> omega
theorem igcd_eq(a b:Nat):igcd a b=(Nat.gcd a b:Nat):=by unfold igcd;rw[if_pos (by omega)];rfl
def gcdO:Orc:=fun ρ args H cont=>match args,H with
 | [.v false [.int .u64 a],.v false [.int .u64 b]],[]=>if 0<=a/\0<=b then cont (one (.int .u64 (igcd a b))) []else none
 | _,_=>none
def A118:Ann:={ head:=ptOf [(1,[0,1],[])],out:=ptOf [(1,[0],[])] }
theorem turn118{ρ:Type} (K:Exit->St->Option ρ) (go:St->Option ρ) (a b:Int) :
  turnF V0 A118 12 0 0 (loopAt Tryz.f84 0) K go ⟨[(0,one (.int .u64 a)),(1,one (.int .u64 b))],[]⟩ =
  bif b != 0 then(if b=0 then none else go ⟨[(0,one (.int .u64 b)),(1,one (.int .u64 (a.tmod b)))],[]⟩)else K (.exit 0) ⟨[(0,one (.int .u64 a))],[]⟩:=by kernel_rfl
theorem loop118{ρ:Type} (K:Exit->St->Option ρ):∀ (b a:Nat),∃ n,
  itF (turnF V0 A118 12 0 0 (loopAt Tryz.f84 0) K) (fun _=>none) n ⟨[(0,one (.int .u64 a)),(1,one (.int .u64 b))],[]⟩=K (.exit 0) ⟨[(0,one (.int .u64 (Nat.gcd a b:Nat)))],[]⟩:=by
 intro b
 induction b using Nat.strongRecOn with
 | _ b ih =>
  intro a;rcases Nat.eq_zero_or_pos b with h0 | h0
  ·refine⟨1,?_⟩;subst h0;rw[itF_succ,turn118];simp only [Int.natCast_zero,bne_self_eq_false,cond_false,Nat.gcd_zero_right]
  ·obtain⟨n,hn⟩:=ih (a % b) (Nat.mod_lt _ h0) b;refine⟨n+1,?_⟩;have hne:((b:Int) != 0)=true:=by rw[bne_iff_ne];omega
   have hmod:Int.tmod (a:Int) (b:Int)=((a % b:Nat):Int):=by rw[Int.tmod_eq_emod_of_nonneg (by omega)];rfl
   rw[itF_succ,turn118,hne,cond_true,if_neg (by omega),hmod,hn,Nat.gcd_comm b,<- Nat.gcd_rec,Nat.gcd_comm]
def S118:Sum:=fun n0 ρ σ K=>match n0,σ with
 | 0,⟨[(0,.v false [.int .u64 a]),(1,.v false [.int .u64 b])],[]⟩=>if 0<=a/\0<=b then K (.exit 0) ⟨[(0,one (.int .u64 (igcd a b)))],[]⟩else none
 | _,_=>none
theorem sum118(N:NumSem):SumOK N Tryz.prog 12 (loopAt Tryz.f84 0) S118:=
 SumOK.of_turns (V0_ok N) mixT (A:=A118) (SumsOK.none fun _=>rfl) fun n0 ρ σ K r h=>by
  unfold S118 at h;split at h
  ·rename_i a b;split at h
   ·rename_i hc;obtain⟨a,rfl⟩:=Int.eq_ofNat_of_zero_le hc.1;obtain⟨b,rfl⟩:=Int.eq_ofNat_of_zero_le hc.2;rw[igcd_eq]at h;obtain⟨n,hn⟩:=loop118 K b a;exact⟨n,hn.trans h⟩
   ·contradiction
  ·contradiction
def A118s:Ann:={ A118 with sum:=fun i=>bif Nat.beq i 1 then some S118 else none }
theorem run118{ρ:Type} (cont:SV->HL->Option ρ) (a b:Int):runF V0 A118s 0 Tryz.f84 (bodyOf Tryz.f84) ρ [one (.int .u64 a),one (.int .u64 b)] [] cont =
  if 0<=a/\0<=b then cont (one (.int .u64 (igcd a b))) []else none:=by kernel_rfl
theorem orc118(N:NumSem):OrcOK N Tryz.prog 84 gcdO:=
 OrcOK.of_tale (runF_ok (V0_ok N) mixT (A:=A118s) (fuel:=0) Tryz.func84 (c:=bodyOf Tryz.f84) (by kernel_rfl)
  (SumsOK.ofL (ls:=[loopAt Tryz.f84 0]) (by kernel_rfl) ⟨sumL1 (by kernel_rfl) (sum118 N),trivial⟩)) fun ρ args H cont r h=>by
  unfold gcdO at h;split at h
  ·rename_i a b;exact(run118 cont a b).trans h
  ·contradiction
def absO:Orc:=fun ρ args H cont=>match args,H with
 | [.v false [.int .i64 a]],[]=>if -9223372036854775808<=a/\a<9223372036854775808 then cont (one (.int .u64 (iabs a))) []else none
 | _,_=>none
theorem run115{ρ:Type} (cont:SV->HL->Option ρ) (n:Int):runF V0 Ash 0 Tryz.f76 (bodyOf Tryz.f76) ρ [one (.int .i64 n)] [] cont =
  bif decide (n<0)then cont (one (.int .u64 (IntKind.u64.wrap (IntKind.i64.wrap (0-n))))) []else cont (one (.int .u64 (IntKind.u64.wrap n))) []:=by kernel_rfl
theorem orc115(N:NumSem):OrcOK N Tryz.prog 76 absO:=
 OrcOK.of_tale (runF_ok (V0_ok N) mixT (A:=Ash) (fuel:=0) Tryz.func76 (c:=bodyOf Tryz.f76) (by kernel_rfl) (wp_loops (by kernel_rfl))) fun ρ args H cont r h=>by
  unfold absO at h;split at h
  ·rename_i a;split at h
   ·rename_i hc;refine(run115 cont a).trans ?_;unfold iabs at h
    by_cases hn:a<0
    ·rw[if_pos hn]at h;rw[decide_eq_true hn,cond_true,<- h];congr 3;rw[IntKind.wrap_i64,IntKind.wrap_u64];omega
    ·rw[if_neg hn]at h;rw[decide_eq_false hn,cond_false,<- h];congr 3;rw[IntKind.wrap_u64];omega
   ·contradiction
  ·contradiction
def hi64(p:Int):Int:=if 0<=p then p / 18446744073709551616 else 0
def low64(p:Int):Int:=if 0<=p then p % 18446744073709551616 else 0
def mul64O:Orc:=fun ρ args H cont=>match args,H with
 | [.v false [.int .u64 a],.v false [.int .u64 b]],[]=>if(0<=a/\a<18446744073709551616)/\0<=b/\b<18446744073709551616 then cont (.tup [(false,[.int .u64 (hi64 (a*b))]),(false,[.int .u64 (low64 (a*b))])]) []else none
 | _,_=>none
theorem run114{ρ:Type} (cont:SV->HL->Option ρ) (a b:Int):runF V0 Ash 0 Tryz.f75 (bodyOf Tryz.f75) ρ [one (.int .u64 a),one (.int .u64 b)] [] cont =
  (let sh:=fun x:Int=>x.fdiv (2 ^ min (Int.toNat 32) IntKind.u64.bits)
   let lo:=fun x:Int=>bits .and .u64 x 4294967295
   let w0:=IntKind.u64.wrap (lo a*lo b)
   let t:=IntKind.u64.wrap (IntKind.u64.wrap (sh a*lo b)+sh w0)
   let w1:=IntKind.u64.wrap (lo t+IntKind.u64.wrap (lo a*sh b))
   cont (.tup [(false,[.int .u64 (IntKind.u64.wrap (IntKind.u64.wrap (IntKind.u64.wrap (sh a*sh b)+sh t)+sh w1))]),(false,[.int .u64 (IntKind.u64.wrap (a*b))])]) []):=by kernel_rfl
theorem and_low(x:Int) (h0:0<=x) (h1:x<18446744073709551616):bits .and .u64 x 4294967295=x % 4294967296:=by
 obtain⟨x,rfl⟩:=Int.eq_ofNat_of_zero_le h0;have hw:∀ n:Int,0<=n->n<2 ^ 64->IntKind.u64.wrap n=n:=fun n h0 h1=>by rw[IntKind.wrap_u64];omega
 have e:=(bits_nat .u64 64 (by decide) hw x 4294967295 (by omega) (by omega)).1;rw[show (4294967295:Int)=((4294967295:Nat):Int)from rfl,e];have:=Nat.and_two_pow_sub_one_eq_mod x 32;rw[show 2 ^ 32-1=4294967295 from rfl]at this;rw[this];omega
theorem orc114(N:NumSem):OrcOK N Tryz.prog 75 mul64O:=
 OrcOK.of_tale (runF_ok (V0_ok N) mixT (A:=Ash) (fuel:=0) Tryz.func75 (c:=bodyOf Tryz.f75) (by kernel_rfl) (wp_loops (by kernel_rfl))) fun ρ args H cont r h=>by
  unfold mul64O at h;split at h
  ·rename_i a b;split at h
   ·rename_i hc;obtain⟨⟨a0,a1⟩,b0,b1⟩:=hc;refine(run114 cont a b).trans ?_;have sh:∀ x:Int,x.fdiv (2 ^ min (Int.toNat 32) IntKind.u64.bits)=x / 4294967296:=fun x=>by
     rw[show (2:Int) ^ min (Int.toNat 32) IntKind.u64.bits=4294967296 by decide,Int.fdiv_eq_ediv_of_nonneg _ (by decide)]
    have la:=and_low a a0 a1;have lb:=and_low b b0 b1;simp only [sh,la,lb];have hp0:0<=a*b:=Int.mul_nonneg a0 b0;rw[<- h];unfold hi64 low64;rw[if_pos hp0,if_pos hp0];have ea:a=a / 4294967296*4294967296+a % 4294967296:=by omega
    have eb:b=b / 4294967296*4294967296+b % 4294967296:=by omega
    have ra1:0<=a / 4294967296/\a / 4294967296<4294967296:=by omega
    have rb1:0<=b / 4294967296/\b / 4294967296<4294967296:=by omega
    have ra0:0<=a % 4294967296/\a % 4294967296<4294967296:=by omega
    have rb0:0<=b % 4294967296/\b % 4294967296<4294967296:=by omega
    have m11:=word_mul ra1 rb1;have m10:=word_mul ra1 rb0;have m01:=word_mul ra0 rb1;have m00:=word_mul ra0 rb0;have hprod:a*b=a / 4294967296*(b / 4294967296)*18446744073709551616+(a / 4294967296*(b % 4294967296)+a % 4294967296*(b / 4294967296))*4294967296+a % 4294967296*(b % 4294967296):=by
     generalize a / 4294967296=x1 at *;generalize a % 4294967296=x0 at *;generalize b / 4294967296=y1 at *;generalize b % 4294967296=y0 at *;rw[ea,eb,Int.add_mul,Int.mul_add,Int.mul_add];have q1:x1*4294967296*(y1*4294967296)=x1*y1*18446744073709551616:=by
      rw[Int.mul_assoc,<- Int.mul_assoc 4294967296,Int.mul_comm 4294967296 y1,Int.mul_assoc y1,<- Int.mul_assoc];rfl
     have q2:x1*4294967296*y0=x1*y0*4294967296:=by rw[Int.mul_assoc,Int.mul_comm 4294967296,<- Int.mul_assoc]
     have q3:x0*(y1*4294967296)=x0*y1*4294967296:=by rw[<- Int.mul_assoc]
     rw[q1,q2,q3];omega
    rw[hprod];generalize a / 4294967296*(b / 4294967296)=P at *;generalize a / 4294967296*(b % 4294967296)=Q at *;generalize a % 4294967296*(b / 4294967296)=R at *;generalize a % 4294967296*(b % 4294967296)=S at *;have e1:IntKind.u64.wrap S=S:=u64_id S m00.1 (by omega);have e2:IntKind.u64.wrap Q=Q:=u64_id Q m10.1 (by omega);have e3:IntKind.u64.wrap R=R:=u64_id R m01.1 (by omega);have e4:IntKind.u64.wrap P=P:=u64_id P m11.1 (by omega);rw[e1,e2,e3,e4,u64_id (Q+S / 4294967296) (by omega) (by omega),and_low (Q+S / 4294967296) (by omega) (by omega),u64_id ((Q+S / 4294967296) % 4294967296+R) (by omega) (by omega),
     u64_id (P+(Q+S / 4294967296) / 4294967296) (by omega) (by omega)]
    have f1:IntKind.u64.wrap (P+(Q+S / 4294967296) / 4294967296+((Q+S / 4294967296) % 4294967296+R) / 4294967296)=(P*18446744073709551616+(Q+R)*4294967296+S) / 18446744073709551616:=by
     rw[IntKind.wrap_u64];omega
    have f2:IntKind.u64.wrap (P*18446744073709551616+(Q+R)*4294967296+S)=(P*18446744073709551616+(Q+R)*4294967296+S) % 18446744073709551616:=IntKind.wrap_u64 _;rw[f1,f2]
   ·contradiction
  ·contradiction
def smallQ(q:Rat):Prop:=(-9223372036854775808<q.num/\q.num<9223372036854775808)/\q.den<9223372036854775808
instance (q:Rat):Decidable (smallQ q):=by unfold smallQ;infer_instance
def ratS(q:Rat):SV:=.v true [.int .i64 q.num,.int .i64 q.den,.nilp]
def ratB(q:Rat):SV:=.v true [.int .i64 0,.int .i64 0,.ip tR (rD q) 0]
theorem TT_ok:TabOk Tryz.prog tranT:=TabOk.of tranT_ok
def Vt:Env:={ T:=tranT,E:=[],Γ:=gamL [(84,gcdO),(76,absO),(111,newRatO),(115,ofR fun q=>one (.ip tZ (zD q.num) 0)),(113,ofR fun q=>one (.ip tZ (zD q.den) 0)),(116,isInt64O),(117,int64O)],M:=M12 }
theorem Vt_ok(N:NumSem):EnvOK N Tryz.prog Vt:=
 {T:=TT_ok,E:=fun p hp=>(by cases hp),Γ:=gamC (orc118 N) Tryz.call84 (gamC (orc115 N) Tryz.call76 (gamC (orc143 N) Tryz.call111 (gamC (orc139 N) Tryz.call115 (gamC (orc141 N) Tryz.call113 (gamC (orc140 N) Tryz.call116 (gamC (orc142 N) Tryz.call117 (gamN N _))))))) }
def lowO:Orc:=fun ρ args H cont=>match args,H with
 | [.v false [.int .i64 n],.v false [.int .i64 d]],[]=>if(-9223372036854775808<n/\n<9223372036854775808)/\0<d/\d<9223372036854775808 then cont (ratS (Rat.divInt n d)) []else none
 | _,_=>none
theorem run92{ρ:Type} (cont:SV->HL->Option ρ) (a b:Int):runF Vt Ash 0 Tryz.f80 (bodyOf Tryz.f80) ρ [one (.int .i64 a),one (.int .i64 b)] [] cont =
 if -9223372036854775808<=a/\a<9223372036854775808 then
  (if 0<=iabs a/\0<=IntKind.u64.wrap b then
   (let g:=IntKind.i64.wrap (igcd (iabs a) (IntKind.u64.wrap b))
   bif decide (1<g)then
    (if g=0 then none else if g=0 then none else cont (.v true [.int .i64 (IntKind.i64.wrap (a.tdiv g)),.int .i64 (IntKind.i64.wrap (b.tdiv g)),.nilp]) [])
   else cont (.v true [.int .i64 a,.int .i64 b,.nilp]) [])
  else none)
 else none:=by kernel_rfl
theorem divInt_pos(n d:Int) (hd:0<d):(Rat.divInt n d).num=n / (Int.gcd n d:Nat)/\((Rat.divInt n d).den:Int)=d / (Int.gcd n d:Nat):=by
 rw[Rat.num_divInt,Rat.den_divInt,if_neg (by omega),Int.sign_eq_one_of_pos hd,Int.one_mul,Int.gcd_comm d n];refine⟨rfl,?_⟩;rw[Int.natCast_ediv];congr 1;omega
theorem orc92(N:NumSem):OrcOK N Tryz.prog 80 lowO:=
 OrcOK.of_tale (runF_ok (Vt_ok N) mixT (A:=Ash) (fuel:=0) Tryz.func80 (c:=bodyOf Tryz.f80) (by kernel_rfl) (wp_loops (by kernel_rfl))) fun ρ args H cont r h=>by
  unfold lowO at h;split at h
  ·rename_i n d;split at h
   ·rename_i hc;obtain⟨⟨n0,n1⟩,d0,d1⟩:=hc;refine(run92 cont n d).trans ?_;obtain⟨k1,k2⟩:=divInt_pos n d d0;have hu:IntKind.u64.wrap d=d:=u64_id d (by omega) (by omega);have hg:igcd (iabs n) d=(Int.gcd n d:Nat):=by
     obtain⟨e,rfl⟩:=Int.eq_ofNat_of_zero_le (Int.le_of_lt d0);rw[iabs_eq,igcd_eq];rfl
    have hgp:0<Int.gcd n d:=Int.gcd_pos_of_ne_zero_right n (by omega);have hgd:Int.gcd n d<=d.natAbs:=Nat.le_of_dvd (by omega) (Nat.gcd_dvd_right ..);have hgw:IntKind.i64.wrap ((Int.gcd n d:Nat):Int)=(Int.gcd n d:Nat):=i64_nat _ (by omega) (by omega);rw[if_pos ⟨by omega,n1⟩,hu,if_pos ⟨by rw[iabs_eq];omega,by omega⟩];simp only [hg,hgw];rw[<- h];unfold ratS;rw[k1,k2];have hdn:((Int.gcd n d:Nat):Int) ∣ n:=Int.gcd_dvd_left ..;have hdd:((Int.gcd n d:Nat):Int) ∣ d:=Int.gcd_dvd_right ..;generalize Int.gcd n d=g at *
    by_cases h1:(1:Int)<g
    ·rw[decide_eq_true h1,cond_true,if_neg (by omega),if_neg (by omega)];have e1:n.tdiv g=n / g:=Int.tdiv_eq_ediv_of_dvd hdn;have e2:d.tdiv g=d / g:=Int.tdiv_eq_ediv_of_dvd hdd;have b1:-9223372036854775808<n / g/\n / g<9223372036854775808:=by
      obtain⟨m,rfl⟩:=hdn;rw[Int.mul_ediv_cancel_left _ (by omega)];rcases Int.lt_or_le m 0 with hm | hm
      ·have:(g:Int)*m<=1*m:=Int.mul_le_mul_of_nonpos_right (by omega) (by omega);omega
      ·have:1*m<=(g:Int)*m:=Int.mul_le_mul_of_nonneg_right (by omega) hm;omega
     have b2:0<=d / g/\d / g<=d:=⟨Int.ediv_nonneg (by omega) (by omega),Int.ediv_le_self _ (by omega)⟩;rw[e1,e2];have w1:IntKind.i64.wrap (n / g)=n / g:=by rw[IntKind.wrap_i64];omega
     have w2:IntKind.i64.wrap (d / g)=d / g:=by rw[IntKind.wrap_i64];omega
     rw[w1,w2]
    ·have e1:(g:Int)=1:=by omega
     rw[decide_eq_false h1,cond_false,e1,Int.ediv_one,Int.ediv_one]
   ·contradiction
  ·contradiction
def littleB(n d:Int):Bool:=decide (-2147483648<n)&&decide (n<2147483648)&&decide (d<2147483648)
def littleO:Orc:=fun ρ args H cont=>match args,H with
 | [.v true [.int .i64 n,.int .i64 d,.nilp]],[]=>cont (one (.bool (littleB n d))) []
 | [.v true [.int .i64 n,.int .i64 d,.ip t D 0]],[]=>(match t with | .pair (.pair .bool (.list (.int .u32))) (.pair .bool (.list (.int .u32)))=>cont (one (.bool false)) [] | _=>none)
 | _,_=>none
theorem run91{ρ:Type} (cont:SV->HL->Option ρ) (a b:Int):runF Vt Ash 0 Tryz.f79 (bodyOf Tryz.f79) ρ [.v true [.int .i64 a,.int .i64 b,.nilp]] [] cont =
 bif bif true then decide (-2147483648<a)else false then
  bif bif true then decide (a<2147483648)else false then cont (one (.bool (bif true then decide (b<2147483648)else false))) []else cont (one (.bool false)) []
 else cont (one (.bool false)) []:=by kernel_rfl
theorem run91b{ρ:Type} (cont:SV->HL->Option ρ) (a b:Int) (D:tR.den):runF Vt Ash 0 Tryz.f79 (bodyOf Tryz.f79) ρ [.v true [.int .i64 a,.int .i64 b,.ip tR D 0]] [] cont=cont (one (.bool false)) []:=by kernel_rfl
theorem orc91(N:NumSem):OrcOK N Tryz.prog 79 littleO:=
 OrcOK.of_tale (runF_ok (Vt_ok N) mixT (A:=Ash) (fuel:=0) Tryz.func79 (c:=bodyOf Tryz.f79) (by kernel_rfl) (wp_loops (by kernel_rfl))) fun ρ args H cont r h=>by
  unfold littleO at h;split at h
  ·rename_i n d;refine(run91 cont n d).trans ?_;unfold littleB at h
   by_cases h1:-2147483648<n
   ·rw[decide_eq_true h1]at h ⊢
    by_cases h2:n<2147483648
    ·rw[decide_eq_true h2]at h ⊢;exact h
    ·rw[decide_eq_false h2]at h ⊢;exact h
   ·rw[decide_eq_false h1]at h ⊢;exact h
  ·rename_i n d t D;split at h
   ·exact(run91b cont n d _).trans h
   ·contradiction
  ·contradiction
theorem run95{ρ:Type} (cont:SV->HL->Option ρ) (a b:Int):runF Vt Ash 0 Tryz.f77 (bodyOf Tryz.f77) ρ [.v true [.int .i64 a,.int .i64 b,.nilp]] [] cont =
 if(-9223372036854775808<=a/\a<9223372036854775808)/\(-9223372036854775808<=b/\b<9223372036854775808)/\b≠0 then cont (one (.ip tR (rD (Rat.divInt a b)) 0)) []else none:=by kernel_rfl
theorem run95b{ρ:Type} (cont:SV->HL->Option ρ) (a b:Int) (D:tR.den):runF Vt Ash 0 Tryz.f77 (bodyOf Tryz.f77) ρ [.v true [.int .i64 a,.int .i64 b,.ip tR D 0]] [] cont=cont (one (.ip tR D 0)) []:=by kernel_rfl
def bigO:Orc:=fun ρ args H cont=>match args,H with
 | [.v true [.int .i64 n,.int .i64 d,.nilp]],[]=>if(-9223372036854775808<=n/\n<9223372036854775808)/\(-9223372036854775808<=d/\d<9223372036854775808)/\d≠0 then cont (one (.ip tR (rD (Rat.divInt n d)) 0)) []else none
 | [.v true [.int .i64 n,.int .i64 d,.ip (.pair (.pair .bool (.list (.int .u32))) (.pair .bool (.list (.int .u32)))) D 0]],[]=>cont (one (.ip tR D 0)) []
 | _,_=>none
theorem orc95(N:NumSem):OrcOK N Tryz.prog 77 bigO:=
 OrcOK.of_tale (runF_ok (Vt_ok N) mixT (A:=Ash) (fuel:=0) Tryz.func77 (c:=bodyOf Tryz.f77) (by kernel_rfl) (wp_loops (by kernel_rfl))) fun ρ args H cont r h=>by
  unfold bigO at h;split at h
  ·rename_i n d;exact(run95 cont n d).trans h
  ·rename_i n d D;exact(run95b cont n d D).trans h
  ·contradiction
def fitO:Orc:=fun ρ args H cont=>match args,H with
 | [.v false [.ip (.pair (.pair .bool (.list (.int .u32))) (.pair .bool (.list (.int .u32)))) D 0]],[]=>if rOk D then(if smallQ (rV D)then cont (ratS (rV D)) []else cont (ratB (rV D)) [])else none
 | _,_=>none
theorem run93{ρ:Type} (cont:SV->HL->Option ρ) (D:tR.den):runF Vt Ash 0 Tryz.f81 (bodyOf Tryz.f81) ρ [one (.ip tR D 0)] [] cont =
 (let n:=zV (zD (rV D).num)
  let d:=zV (zD (rV D).den)
  let B:=cont (.v true [.int .i64 0,.int .i64 0,.ip tR D 0]) []
  if rOk D then
  if zOk (zD (rV D).num)then
   bif decide (-9223372036854775808<=n/\n<9223372036854775808)then
    (if rOk D then(if zOk (zD (rV D).den)then
     (bif bif true then decide (-9223372036854775808<=d/\d<9223372036854775808)else false then
      (if rOk D then(if zOk (zD (rV D).num) /\ -9223372036854775808<=n/\n<9223372036854775808 then
       (bif decide (-9223372036854775808<n)then
        (if rOk D then(if zOk (zD (rV D).den) /\ -9223372036854775808<=d/\d<9223372036854775808 then cont (.v true [.int .i64 n,.int .i64 d,.nilp]) []else none)else none)
       else B)else none)else none)
     else B)else none)else none)
   else B
  else none
 else none):=by kernel_rfl
theorem orc93(N:NumSem):OrcOK N Tryz.prog 81 fitO:=
 OrcOK.of_tale (runF_ok (Vt_ok N) mixT (A:=Ash) (fuel:=0) Tryz.func81 (c:=bodyOf Tryz.f81) (by kernel_rfl) (wp_loops (by kernel_rfl))) fun ρ args H cont r h=>by
  unfold fitO at h;split at h
  ·rename_i D;split at h
   ·rename_i hD;obtain⟨q,hq,_⟩:=rOk_ex hD;have hq':(D:tR.den)=rD q:=hq;subst hq';rw[rV_rD]at h;obtain⟨z1,z2,_⟩:=rOk_z hD;refine(run93 cont (rD q)).trans ?_;simp only [rV_rD,zV_zD];rw[if_pos hD,if_pos z1,if_pos z2];have hdp:=q.den_pos
    by_cases h1:-9223372036854775808<=q.num/\q.num<9223372036854775808
    ·rw[decide_eq_true h1,cond_true,if_pos hD]
     by_cases h2:-9223372036854775808<=(q.den:Int)/\(q.den:Int)<9223372036854775808
     ·rw[decide_eq_true h2,cond_true,cond_true,if_pos hD,if_pos ⟨z1,h1⟩]
      by_cases h3:-9223372036854775808<q.num
      ·rw[decide_eq_true h3,cond_true,if_pos hD,if_pos ⟨z2,h2⟩];rw[if_pos (show smallQ q from ⟨⟨h3,h1.2⟩,by omega⟩)]at h;exact h
      ·rw[decide_eq_false h3,cond_false];rw[if_neg (fun e:smallQ q=>h3 e.1.1)]at h;exact h
     ·rw[decide_eq_false h2,cond_true,cond_false];rw[if_neg (fun e:smallQ q=>h2 ⟨by omega,by have:=e.2;omega⟩)]at h;exact h
    ·rw[decide_eq_false h1,cond_false];rw[if_neg (fun e:smallQ q=>h1 ⟨by have:=e.1;omega,e.1.2⟩)]at h;exact h
   ·contradiction
  ·contradiction
end Go.Abs
namespace Go.Abs
open Go.Proofs
set_option maxRecDepth 100000
def N0:NumSem where
 num:=fun _ _ _ _=>False
 big:=fun k _ t cs=>(k=0/\t=.nil/\cs=[.pointer none])\/(k=1/\t=.nil/\cs=[.int .i64 0,.int .i64 0,.slice none 0 0])
 num_len:=fun h=>h.elim
 big_len:=fun h=>by rcases h with ⟨rfl,_,rfl⟩ | ⟨rfl,_,rfl⟩ <;> rfl
 num_mono:=fun _ h=>h.elim
 big_mono:=fun _ h=>h
 num_plain:=fun h=>h.elim
 big_nil:=.inl ⟨rfl,rfl,rfl⟩
 big_nil':=fun h=>by
  rcases h with h | h
  ·exact h.2.2
  ·cases h.1
 big1:=.inr ⟨rfl,rfl,rfl⟩
 big_node:=fun h=>by rcases h with h | h <;> cases h.2.1
 big_plain:=fun h=>by
  rcases h with ⟨_,_,rfl⟩ | ⟨_,_,rfl⟩
  ·intro v hv;simp only [List.mem_singleton]at hv;subst hv;exact⟨fun xs=>by simp,fun xs=>by simp⟩
  ·intro v hv;simp only [List.mem_cons,List.not_mem_nil,or_false]at hv;rcases hv with rfl | rfl | rfl <;> exact⟨fun xs=>by simp,fun xs=>by simp⟩
def Ty.flat:Ty->Bool
 | .num _=>false
 | .big _=>false
 | .list t=>t.flat
 | .pair a b=>a.flat&&b.flat
 | .ip t=>t.flat
 | _=>true
theorem DR.flat{N N':NumSem} {G:Ghost}:∀ {t:Ty} {x:t.den} {cs:List Value},t.flat=true->DR N G t x cs->DR N' G t x cs
 | .int k,n,cs,_,h=>h
 | .bool,n,cs,_,h=>h
 | .str,n,cs,_,h=>h
 | .num k,q,cs,hf,h=>by simp [Ty.flat]at hf
 | .big k,q,cs,hf,h=>by simp [Ty.flat]at hf
 | .list t,xs,cs,hf,h=>by
  obtain⟨v,h,h2⟩:=h;refine⟨v,h,?_⟩;rcases h2 with h2 | ⟨b,o,c,h1,h2,h3⟩
  ·exact .inl h2
  ·refine .inr ⟨b,o,c,h1,h2,fun i x e=>?_⟩;obtain⟨vs,a,b,c⟩:=h3 i x e;exact⟨vs,DR.flat (t:=t) hf a,b,c⟩
 | .pair a b,x,cs,hf,h=>by
  simp only [Ty.flat,Bool.and_eq_true]at hf;obtain⟨c,d,h,h1,h2⟩:=h;exact⟨c,d,h,DR.flat hf.1 h1,DR.flat hf.2 h2⟩
 | .unit,_,cs,_,h=>h
 | .ip t,x,cs,hf,h=>by
  obtain⟨b,o,vs,h,h1,h2⟩:=h;exact⟨b,o,vs,h,DR.flat (t:=t) hf h1,h2⟩
def numW:Nat->Ghost->Rat->List Value->Prop
 | 0,G,q,cs=>(smallQ q/\cs=[.int .i64 q.num,.int .i64 q.den,.pointer none])\/(¬ smallQ q /\ ∃ b o vs,cs=[.int .i64 0,.int .i64 0,.pointer (some ⟨b,o,none⟩)]/\DR N0 G tR (rD q) vs/\At G b o vs)
 | _,G,q,cs=>(∃ n d:Int,cs=[.int .i64 n,.int .i64 d,.slice none 0 0]/\(0<d/\d<2147483648)/\(-2147483648<n/\n<2147483648)/\q=Rat.divInt n d)\/(∃ v,cs=[.int .i64 0,.int .i64 0,v]/\Plain v/\SlR G 2 (DR N0 G tZ) [zD q.num,zD q.den] v)
theorem plainI(k:IntKind) (n:Int):Plain (.int k n):=by simp [Plain]
theorem plainP(p:Option Addr):Plain (.pointer p):=by simp [Plain]
theorem plainS(p:Option Addr) (n c:Nat):Plain (.slice p n c):=by simp [Plain]
def P3R(G:Ghost) (p:Rat × Rat × Rat) (c:List Value):Prop:=∃ a e,c=a++e/\numW 0 G p.1 a /\ ∃ f g,e=f++g/\numW 0 G p.2.1 f/\numW 0 G p.2.2 g
def BxR(G:Ghost) (b:(Rat × Rat × Rat) × (Rat × Rat × Rat)) (cb:List Value):Prop:=∃ c d,cb=c++d/\P3R G b.1 c/\P3R G b.2 d
def TwR(G:Ghost):Tw->List Value->Prop
 | .nil,cs=>cs=[.pointer none]
 | .node b l r it,cs=>∃ bk o vs,cs=[.pointer (some ⟨bk,o,none⟩)]/\(∃ cb e,vs=cb++e/\BxR G b cb /\ ∃ cl e',e=cl++e'/\TwR G l cl /\ ∃ cr e'',e'=cr++e''/\TwR G r cr/\e''=[.int .i64 it])/\At G bk o vs
theorem numW_mono0{G G':Ghost} {q:Rat} {cs:List Value} (hG:G.le G') (h:numW 0 G q cs):numW 0 G' q cs:=by
 rcases h with h | ⟨h0,b,o,vs,h,h1,h2⟩
 ·exact .inl h
 ·exact .inr ⟨h0,b,o,vs,h,h1.mono hG,h2.mono hG⟩
theorem P3R.mono{G G':Ghost} {p:Rat × Rat × Rat} {cs:List Value} (hG:G.le G') (h:P3R G p cs):P3R G' p cs:=by
 obtain⟨a,e,h1,h2,f,g,h3,h4,h5⟩:=h;exact⟨a,e,h1,numW_mono0 hG h2,f,g,h3,numW_mono0 hG h4,numW_mono0 hG h5⟩
theorem TwR.mono{G G':Ghost} (hG:G.le G'):∀ {t:Tw} {cs:List Value},TwR G t cs->TwR G' t cs
 | .nil,cs,h=>h
 | .node b l r it,cs,h=>by
  obtain⟨bk,o,vs,h1,⟨cb,e,h2,⟨c,d,h3,h4,h5⟩,cl,e',h6,h7,cr,e'',h8,h9,h10⟩,h11⟩:=h;exact⟨bk,o,vs,h1,⟨cb,e,h2,⟨c,d,h3,h4.mono hG,h5.mono hG⟩,cl,e',h6,TwR.mono hG h7,cr,e'',h8,TwR.mono hG h9,h10⟩,h11.mono hG⟩
theorem TwR.one{G:Ghost}:∀ {t:Tw} {cs:List Value},TwR G t cs->∃ p,cs=[.pointer p]
 | .nil,cs,h=>⟨_,h⟩
 | .node ..,cs,h=>by obtain⟨bk,o,vs,h1,_⟩:=h;exact⟨_,h1⟩
theorem numW_len{k:Nat} {G:Ghost} {q:Rat} {cs:List Value} (h:numW k G q cs):cs.length=3:=by
 cases k with
 | zero=>rcases h with ⟨_,h⟩ | ⟨_,b,o,vs,h,_⟩ <;> subst h <;> rfl
 | succ k=>rcases h with ⟨n,d,h,_⟩ | ⟨v,h,_⟩ <;> subst h <;> rfl
theorem numW_mono{k:Nat} {G G':Ghost} {q:Rat} {cs:List Value} (hG:G.le G') (h:numW k G q cs):numW k G' q cs:=by
 cases k with
 | zero =>
  rcases h with h | ⟨h0,b,o,vs,h,h1,h2⟩
  ·exact .inl h
  ·exact .inr ⟨h0,b,o,vs,h,h1.mono hG,h2.mono hG⟩
 | succ k =>
  rcases h with h | ⟨v,h,hp,h2⟩
  ·exact .inl h
  ·exact .inr ⟨v,h,hp,h2.mono hG fun x vs=>DR.mono hG⟩
theorem numW_plain{k:Nat} {G:Ghost} {q:Rat} {cs:List Value} (h:numW k G q cs):∀ v∈cs,Plain v:=by
 cases k with
 | zero =>
  rcases h with ⟨_,h⟩ | ⟨_,b,o,vs,h,_⟩ <;> subst h <;> intro v hv <;> simp only [List.mem_cons,List.not_mem_nil,or_false]at hv <;> rcases hv with rfl | rfl | rfl <;> first | exact plainI _ _ | exact plainP _
 | succ k =>
  rcases h with ⟨n,d,h,_⟩ | ⟨w,h,hp,_⟩ <;> subst h <;> intro v hv <;> simp only [List.mem_cons,List.not_mem_nil,or_false]at hv <;> rcases hv with rfl | rfl | rfl <;> first | exact plainI _ _ | exact plainS _ _ _ | exact hp
def l1W(G:Ghost):Tw->List Value->Prop
 | .nil,cs=>cs=[.int .i64 0,.int .i64 0,.slice none 0 0]
 | .node b _ _ _,cs=>numW 1 G b.1.1 cs
def NN:NumSem where
 num:=numW
 big:=fun k G t cs=>match k with
  | 0=>TwR G t cs
  | 1=>l1W G t cs
  | _=>False
 num_len:=numW_len
 big_len:=fun{k G q cs} h=>by
  match k,h with
  | 0,h=>obtain⟨p,rfl⟩:=TwR.one h;rfl
  | 1,h =>
   cases q with
   | nil=>subst h;rfl
   | node b l r it=>exact numW_len (k:=1) h
  | k+2,h=>exact h.elim
 big_nil:=rfl
 big1:=rfl
 big_nil':=fun{G cs} h=>h
 big_node:=fun{G b l r it cs} h=>by obtain⟨bk,o,vs,h1,_⟩:=h;exact⟨_,h1⟩
 num_mono:=numW_mono
 big_mono:=fun{k G G' q cs} hG h=>by
  match k,h with
  | 0,h=>exact TwR.mono hG h
  | 1,h =>
   cases q with
   | nil=>exact h
   | node b l r it=>exact numW_mono (k:=1) hG h
  | k+2,h=>exact h.elim
 num_plain:=numW_plain
 big_plain:=fun{k G q cs} h=>by
  match k,h with
  | 0,h =>
   obtain⟨p,rfl⟩:=TwR.one h;intro v hv;simp only [List.mem_singleton]at hv;subst hv;exact plainP p
  | 1,h =>
   cases q with
   | nil =>
    subst h;intro v hv;simp only [List.mem_cons,List.not_mem_nil,or_false]at hv;rcases hv with rfl | rfl | rfl <;> first | exact plainI _ _ | exact plainS _ _ _
   | node b l r it=>exact numW_plain (k:=1) h
  | k+2,h=>exact h.elim
 isHeld:=fun _=>false
 heldIs:=fun _ x=>∃ t m,x=.cells ((Lib.pow10Tab.map fun z=>Value.int .u64 z).toArray) t m
def ratT(q:Rat):SV:=if smallQ q then ratS q else ratB q
def nm(k:Nat) (q:Rat):SV:=.v true [.num k (some q)]
theorem AsR.three{N:NumSem} {G:Ghost} {κ:Kap} {a b c:Atom} {x y z:Value} (h1:AR N G κ a [x]) (h2:AR N G κ b [y]) (h3:AR N G κ c [z]):AsR N G κ [a,b,c] [x,y,z]:=
 ⟨[x],[y,z],rfl,h1,[y],[z],rfl,h2,[z],[],rfl,h3,rfl⟩
theorem nm_in{G:Ghost} {κ:Kap} {q:Rat} {v:Value} (h:svR NN G κ (nm 0 q) v):svR NN G κ (ratT q) v:=by
 obtain⟨cs,hv,h⟩:=h;have h:=h.one_inv;unfold ratT;rcases h with ⟨hs,h⟩ | ⟨hs,b,o,vs,h,h1,h2⟩
 ·rw[if_pos hs];refine⟨cs,hv,?_⟩;rw[h];exact AsR.three rfl rfl rfl
 ·rw[if_neg hs];refine⟨cs,hv,?_⟩;rw[h];exact AsR.three rfl rfl ⟨b,o,vs,rfl,h1.flat rfl,h2⟩
theorem AsR.three_inv{N:NumSem} {G:Ghost} {κ:Kap} {a b c:Atom} {cs:List Value} (h:AsR N G κ [a,b,c] cs):∃ x y z,cs=x++(y++z)/\AR N G κ a x/\AR N G κ b y/\AR N G κ c z:=by
 obtain⟨x,r,e,h1,y,r2,e2,h2,z,r3,e3,h3,h4⟩:=h;simp only [AsR]at h4;subst h4;simp only [List.append_nil]at e3;subst e3 e2 e;exact⟨x,y,r2,rfl,h1,h2,h3⟩
theorem nm_out{G:Ghost} {κ:Kap} {q:Rat} {v:Value} (h:svR NN G κ (ratT q) v):svR NN G κ (nm 0 q) v:=by
 unfold ratT at h;split at h
 ·rename_i hs;obtain⟨cs,hv,h⟩:=h;obtain⟨x,y,z,e,h1,h2,h3⟩:=h.three_inv;simp only [AR]at h1 h2 h3;subst h1 h2 h3;exact⟨cs,hv,AsR.one (.inl ⟨hs,by rw[e];rfl⟩)⟩
 ·rename_i hs;obtain⟨cs,hv,h⟩:=h;obtain⟨x,y,z,e,h1,h2,h3⟩:=h.three_inv;obtain⟨b,o,vs,h3,h4,h5⟩:=h3;simp only [AR]at h1 h2;subst h1 h2 h3;exact⟨cs,hv,AsR.one (.inr ⟨hs,b,o,vs,by rw[e];rfl,h4.flat rfl,h5⟩)⟩
def convS:SV->SV
 | .v true [.num 0 (some q)]=>ratT q
 | s=>s
theorem convS_out{G:Ghost} {κ:Kap} {s:SV} {v:Value} (h:svR NN G κ (convS s) v):svR NN G κ s v:=by
 unfold convS at h;split at h
 ·exact nm_out h
 ·exact h
theorem ratT_ids(q:Rat):(ratT q).ids=[]:=by unfold ratT;split <;> rfl
def rat1(g:Rat->Bool) (f:Rat->SV):Orc:=fun ρ args H cont=>match args,H with
 | [.v true [.num 0 (some q)]],[]=>if g q=true then cont (f q) []else none
 | _,_=>none
def rat2(g:Rat->Rat->Bool) (f:Rat->Rat->SV):Orc:=fun ρ args H cont=>match args,H with
 | [.v true [.num 0 (some p)],.v true [.num 0 (some q)]],[]=>if g p q=true then cont (f p q) []else none
 | _,_=>none
theorem rat1_ok{P:Program} {k:Nat} {F:Orc} {g:Rat->Bool} {f:Rat->SV} (hF:OrcOK NN P k F)
  (h:∀ ρ (cont:SV->HL->Option ρ) (q:Rat),g q=true->F ρ [ratT q] [] cont=cont (convS (f q)) []):OrcOK NN P k (rat1 g f):=by
 intro ρ args H cont r hr hwf hids;unfold rat1 at hr;split at hr
 ·rename_i q;split at hr
  ·rename_i hg;refine⟨_,_,hr,Nat.le_refl _,fun{G κ w cargs} hrel hargs=>?_⟩;obtain⟨s',H',e,_,hcall⟩:=hF (h _ (fun s H=>some (s,H)) q hg) hwf (fun s hs i hi=>by
    have:s=ratT q:=by simpa using hs
    subst this;rw[ratT_ids]at hi;cases hi)
   simp only [Option.some.injEq,Prod.mk.injEq]at e;obtain⟨rfl,rfl⟩:=e;obtain⟨v,r',e1,h1,h2⟩:=hargs;refine(hcall hrel ⟨v,r',e1,nm_in h1,h2⟩).mono fun e w' hq=>?_
   obtain⟨G',κ',v',q1,q2,q3,q4,q5⟩:=hq;exact⟨G',κ',v',q1,q2,q3,convS_out q4,q5⟩
  ·contradiction
 ·contradiction
theorem rat2_ok{P:Program} {k:Nat} {F:Orc} {g:Rat->Rat->Bool} {f:Rat->Rat->SV} (hF:OrcOK NN P k F)
  (h:∀ ρ (cont:SV->HL->Option ρ) (p q:Rat),g p q=true->F ρ [ratT p,ratT q] [] cont=cont (convS (f p q)) []):OrcOK NN P k (rat2 g f):=by
 intro ρ args H cont r hr hwf hids;unfold rat2 at hr;split at hr
 ·rename_i p q;split at hr
  ·rename_i hg;refine⟨_,_,hr,Nat.le_refl _,fun{G κ w cargs} hrel hargs=>?_⟩;obtain⟨s',H',e,_,hcall⟩:=hF (h _ (fun s H=>some (s,H)) p q hg) hwf (fun s hs i hi=>by
    have:s=ratT p\/s=ratT q:=by simpa using hs
    rcases this with rfl | rfl <;> rw[ratT_ids]at hi <;> cases hi)
   simp only [Option.some.injEq,Prod.mk.injEq]at e;obtain⟨rfl,rfl⟩:=e;obtain⟨v,r',e1,h1,v2,r2,e2,h2,h3⟩:=hargs;refine(hcall hrel ⟨v,r',e1,nm_in h1,v2,r2,e2,nm_in h2,h3⟩).mono fun e w' hq=>?_
   obtain⟨G',κ',v',q1,q2,q3,q4,q5⟩:=hq;exact⟨G',κ',v',q1,q2,q3,convS_out q4,q5⟩
  ·contradiction
 ·contradiction
def szQ(q:Rat):Bool:=decide ((words q.num.natAbs).length<100000000)&&decide ((words q.den).length<100000000)
theorem szQ_ok{q:Rat} (h:szQ q=true):(words q.num.natAbs).length<100000000/\(words q.den).length<100000000:=by
 simpa [szQ] using h
theorem szQ_r{q:Rat} (h:szQ q=true):rOk (rD q):=by
 obtain⟨h1,h2⟩:=szQ_ok h;exact rOk_rD (by omega) (by omega)
end Go.Abs
namespace Go.Abs
open Go.Proofs
set_option maxRecDepth 100000
def Mr:Nat->List (Nat × Ty):=fun f=>bif Nat.beq f 81 then [(0,tR)]else bif Nat.beq f 83 then [(1,tR),(2,tR)]else bif Nat.beq f 82 then [(1,tR),(2,tR)]else bif Nat.beq f 85 then [(1,tR),(2,tR)]else bif Nat.beq f 78 then [(0,tR),(1,tR)]else bif Nat.beq f 118 then [(1,tR)]else bif Nat.beq f 157 then [(1,tR)]else bif Nat.beq f 110 then [(0,tR)]else []
def Vr:Env:={ T:=tranT,E:=[],Γ:=gamL [(79,littleO),(80,lowO),(77,bigO),(81,fitO),(83,unR2 fun p q=>p+q),(82,unR2 fun p q=>p-q),(85,unR2 fun p q=>p*q),(78,cmpRatO),(118,unR (fun _=>true) fun q=>-q),(157,unR (fun q=>decide (q≠0)) fun q=>q⁻¹),(110,ofR fun q=>one (.int .i64 (Int.sign q.num))),(84,gcdO),(76,absO),(75,mul64O)],M:=Mr }
theorem Vr_ok(N:NumSem):EnvOK N Tryz.prog Vr:=
 {T:=TT_ok,E:=fun p hp=>(by cases hp),Γ:=gamC (orc91 N) Tryz.call79 (gamC (orc92 N) Tryz.call80 (gamC (orc95 N) Tryz.call77 (gamC (orc93 N) Tryz.call81 (gamC (orc117 N) Tryz.call83 (gamC (orc94 N) Tryz.call82 (gamC (orc119 N) Tryz.call85 (gamC (orc116 N) Tryz.call78 (gamC (orc136 N) Tryz.call118 (gamC (orc175 N) Tryz.call157 (gamC (orc137 N) Tryz.call110 (gamC (orc118 N) Tryz.call84 (gamC (orc115 N) Tryz.call76 (gamC (orc114 N) Tryz.call75 (gamN N _)))))))))))))) }
def rS(n d:Int):SV:=.v true [.int .i64 n,.int .i64 d,.nilp]
def rL(D:tR.den):SV:=.v true [.int .i64 0,.int .i64 0,.ip tR D 0]
theorem ratT_S{q:Rat} (h:smallQ q):ratT q=rS q.num q.den:=if_pos h
theorem ratT_L{q:Rat} (h:¬ smallQ q):ratT q=rL (rD q):=if_neg h
def fitC{ρ:Type} (cont:SV->HL->Option ρ) (D:tR.den):Option ρ:=if rOk D then(if smallQ (rV D)then cont (ratS (rV D)) []else cont (ratB (rV D)) [])else none
theorem fitC_eq{ρ:Type} (cont:SV->HL->Option ρ) (q:Rat) (h:rOk (rD q)):fitC cont (rD q)=cont (ratT q) []:=by
 unfold fitC ratT;rw[if_pos h,rV_rD];split <;> rfl
theorem small_pos{q:Rat} (h:smallQ q):(-9223372036854775808<q.num/\q.num<9223372036854775808)/\(0<(q.den:Int)/\(q.den:Int)<9223372036854775808):=by
 have:=q.den_pos;obtain⟨h1,h2⟩:=h;exact⟨h1,by omega,by omega⟩
theorem inv_parts{q:Rat} (h:q≠0):q⁻¹.num=(if q.num<0 then -(q.den:Int)else q.den)/\(q⁻¹.den:Int)=(if q.num<0 then -q.num else q.num):=by
 have hn:q.num≠0:=fun e=>h (Rat.num_eq_zero.1 e)
 have e:q⁻¹=Rat.divInt q.den q.num:=by rw[<- Rat.inv_divInt,Rat.num_divInt_den]
 have hg:Int.gcd q.num q.den=1:=q.reduced;have hd:=q.den_pos;rw[e,Rat.num_divInt,Rat.den_divInt,if_neg hn,hg];rcases Int.lt_or_le q.num 0 with h0 | h0
 ·rw[if_pos h0,if_pos h0,Int.sign_eq_neg_one_of_neg h0];refine⟨by rw[Int.natCast_one,Int.ediv_one];omega,by rw[Nat.div_one];omega⟩
 ·rw[if_neg (by omega),if_neg (by omega),Int.sign_eq_one_of_pos (by omega)];refine⟨by rw[Int.natCast_one,Int.ediv_one,Int.one_mul],by rw[Nat.div_one];omega⟩
theorem run88{ρ:Type} (cont:SV->HL->Option ρ) (a b:Int):runF Vr Ash 0 Tryz.f74 (bodyOf Tryz.f74) ρ [rS a b] [] cont =
  bif decide (a<0)then cont (one (.int .i64 (-1))) []else bif decide (0<a)then cont (one (.int .i64 1)) []else cont (one (.int .i64 0)) []:=by kernel_rfl
def bigOf{ρ:Type} (a b:Int) (k:tR.den->Option ρ):Option ρ:=
 if(-9223372036854775808<=a/\a<9223372036854775808)/\(-9223372036854775808<=b/\b<9223372036854775808)/\b≠0 then k (rD (Rat.divInt a b))else none
theorem bigOf_eq{ρ:Type} {q:Rat} (h:smallQ q) (k:tR.den->Option ρ):bigOf q.num q.den k=k (rD q):=by
 have:=small_pos h;unfold bigOf;rw[if_pos ⟨by omega,by omega,by omega⟩,Rat.num_divInt_den]
def addB{ρ:Type} (cont:SV->HL->Option ρ) (f:Rat->Rat->Rat) (D E:tR.den):Option ρ:=if rOk D/\rOk E then fitC cont (rD (f (rV D) (rV E)))else none
def lowC{ρ:Type} (cont:SV->HL->Option ρ) (n d:Int):Option ρ:=if(-9223372036854775808<n/\n<9223372036854775808)/\0<d/\d<9223372036854775808 then cont (ratS (Rat.divInt n d)) []else none
def addS{ρ:Type} (cont:SV->HL->Option ρ) (op:Int->Int->Int) (f:Rat->Rat->Rat) (a b c d:Int):Option ρ:=
 bif littleB a b then
  bif bif true then littleB c d else false then
   bif b==1 then
    (bif bif true then d==1 else false then cont (rS (IntKind.i64.wrap (op a c)) 1) []
     else bif b==d then lowC cont (IntKind.i64.wrap (op a c)) b else lowC cont (IntKind.i64.wrap (op (IntKind.i64.wrap (a*d)) (IntKind.i64.wrap (c*b)))) (IntKind.i64.wrap (b*d)))
   else
    bif b==d then lowC cont (IntKind.i64.wrap (op a c)) b else lowC cont (IntKind.i64.wrap (op (IntKind.i64.wrap (a*d)) (IntKind.i64.wrap (c*b)))) (IntKind.i64.wrap (b*d))
  else bigOf a b fun D=>bigOf c d fun E=>addB cont f D E
 else bigOf a b fun D=>bigOf c d fun E=>addB cont f D E
theorem run59{ρ:Type} (cont:SV->HL->Option ρ) (a b c d:Int):runF Vr Ash 0 Tryz.f41 (bodyOf Tryz.f41) ρ [rS a b,rS c d] [] cont=addS cont (fun x y=>x+y) (fun p q=>p+q) a b c d:=by kernel_rfl
theorem run59l{ρ:Type} (cont:SV->HL->Option ρ) (D:tR.den) (c d:Int):runF Vr Ash 0 Tryz.f41 (bodyOf Tryz.f41) ρ [rL D,rS c d] [] cont=bigOf c d fun E=>addB cont (fun p q=>p+q) D E:=by kernel_rfl
theorem run59r{ρ:Type} (cont:SV->HL->Option ρ) (a b:Int) (E:tR.den):runF Vr Ash 0 Tryz.f41 (bodyOf Tryz.f41) ρ [rS a b,rL E] [] cont =
  bif littleB a b then(bigOf a b fun D=>addB cont (fun p q=>p+q) D E)else(bigOf a b fun D=>addB cont (fun p q=>p+q) D E):=by kernel_rfl
theorem run59b{ρ:Type} (cont:SV->HL->Option ρ) (D E:tR.den):runF Vr Ash 0 Tryz.f41 (bodyOf Tryz.f41) ρ [rL D,rL E] [] cont=addB cont (fun p q=>p+q) D E:=by kernel_rfl
theorem run37{ρ:Type} (cont:SV->HL->Option ρ) (a b c d:Int):runF Vr Ash 0 Tryz.f40 (bodyOf Tryz.f40) ρ [rS a b,rS c d] [] cont=addS cont (fun x y=>x-y) (fun p q=>p-q) a b c d:=by kernel_rfl
theorem run37l{ρ:Type} (cont:SV->HL->Option ρ) (D:tR.den) (c d:Int):runF Vr Ash 0 Tryz.f40 (bodyOf Tryz.f40) ρ [rL D,rS c d] [] cont=bigOf c d fun E=>addB cont (fun p q=>p-q) D E:=by kernel_rfl
theorem run37r{ρ:Type} (cont:SV->HL->Option ρ) (a b:Int) (E:tR.den):runF Vr Ash 0 Tryz.f40 (bodyOf Tryz.f40) ρ [rS a b,rL E] [] cont =
  bif littleB a b then(bigOf a b fun D=>addB cont (fun p q=>p-q) D E)else(bigOf a b fun D=>addB cont (fun p q=>p-q) D E):=by kernel_rfl
theorem run37b{ρ:Type} (cont:SV->HL->Option ρ) (D E:tR.den):runF Vr Ash 0 Tryz.f40 (bodyOf Tryz.f40) ρ [rL D,rL E] [] cont=addB cont (fun p q=>p-q) D E:=by kernel_rfl
end Go.Abs

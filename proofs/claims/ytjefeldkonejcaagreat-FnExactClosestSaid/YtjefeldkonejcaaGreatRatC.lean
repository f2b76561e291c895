/-
 A PART OF THE PROOF of ClI (texts RatC RatD SpcA): the claim itself stands in the last text. No conditions beside those of the given row.
-/
import Derived.Test.YtjefeldkonejcaaGreatBigF
set_option linter.unusedVariables false
set_option linter.unnecessarySimpa false
set_option linter.unusedSimpArgs false
namespace Go.Abs
open Go.Proofs
set_option maxRecDepth 100000
theorem i64_in(n:Int) (h0:-9223372036854775808<=n) (h1:n<9223372036854775808):IntKind.i64.wrap n=n:=by rw[IntKind.wrap_i64];omega
theorem prodB{x y B C:Int} (hB:0<=B) (hx:-B<=x/\x<=B) (hy:-C<=y/\y<=C):-(B*C)<=x*y/\x*y<=B*C:=by
 have h:(x*y).natAbs<=B.natAbs*C.natAbs:=by
  rw[Int.natAbs_mul];exact Nat.mul_le_mul (by omega) (by omega)
 have e:B*C=((B.natAbs*C.natAbs:Nat):Int):=by
  rw[Int.natCast_mul,Int.natAbs_of_nonneg (by omega),Int.natAbs_of_nonneg (by omega)]
 omega
theorem divInt_pos_le{n d:Int} (hd:0<d):(Rat.divInt n d).num.natAbs<=n.natAbs/\(Rat.divInt n d).den<=d.natAbs:=by
 rw[Rat.num_divInt,Rat.den_divInt,if_neg (by omega),Int.sign_eq_one_of_pos hd,Int.one_mul];refine⟨?_,Nat.div_le_self ..⟩;rw[Int.natAbs_ediv_of_dvd (Int.gcd_dvd_right ..)];exact Nat.div_le_self ..
theorem small_divInt{n d:Int} (hn:-9223372036854775808<n/\n<9223372036854775808) (hd:0<d/\d<9223372036854775808):smallQ (Rat.divInt n d):=by
 obtain⟨h1,h2⟩:=divInt_pos_le (n:=n) hd.1;have h2':=Int.le_trans (Int.ofNat_le.2 h2) (by omega:(d.natAbs:Int)<=d);exact⟨by omega,by omega⟩
theorem lowC_eq{ρ:Type} (cont:SV->HL->Option ρ) {n d:Int} (hn:-9223372036854775808<n/\n<9223372036854775808) (hd:0<d/\d<9223372036854775808) :
  lowC cont n d=cont (ratT (Rat.divInt n d)) []:=by
 unfold lowC ratT;rw[if_pos ⟨hn,hd⟩,if_pos (small_divInt hn hd)]
theorem ratT_int{n:Int} (hn:-9223372036854775808<n/\n<9223372036854775808):ratT (Rat.divInt n 1)=rS n 1:=by
 rw[ratT_S (small_divInt hn (by omega))];obtain⟨h1,h2⟩:=divInt_pos n 1 (by omega);rw[h1,h2,Int.gcd_one];rw[Int.natCast_one,Int.ediv_one,Int.ediv_one]
theorem szQ_divInt{n d:Int} {B:Nat} (hd:0<d) (h1:(words n.natAbs).length<B) (h2:(words d.natAbs).length<B) :
  (words (Rat.divInt n d).num.natAbs).length<B/\(words (Rat.divInt n d).den).length<B:=by
 obtain⟨k1,k2⟩:=divInt_pos_le (n:=n) hd;exact⟨Nat.lt_of_le_of_lt (words_mono k1) h1,Nat.lt_of_le_of_lt (words_mono k2) h2⟩
theorem littleB_eq{n d:Int}:littleB n d=decide ((-2147483648<n/\n<2147483648)/\d<2147483648):=by
 unfold littleB;simp only [Bool.decide_and]
structure AddOp (op:Int->Int->Int) (f:Rat->Rat->Rat):Prop where
 eq:∀ p q:Rat,f p q=Rat.divInt (op (p.num*q.den) (q.num*p.den)) (p.den*q.den)
 mul:∀ a b c,op (a*b) (c*b)=op a c*b
 bnd:∀ x y,(op x y).natAbs<=x.natAbs+y.natAbs
 wrd:∀ x y:Int,(words (op x y).natAbs).length<=max (words x.natAbs).length (words y.natAbs).length+1
theorem addOp:AddOp (fun x y=>x+y) (fun p q=>p+q) where
 eq p q:=by
  have hd:=p.den_pos;have hd':=q.den_pos;show p+q=_;rw[<- Rat.divInt_add_divInt _ _ (by omega) (by omega),Rat.num_divInt_den,Rat.num_divInt_den]
 mul a b c:=(Int.add_mul ..).symm
 bnd x y:=Int.natAbs_add_le x y
 wrd x y:=words_iadd x y
theorem subOp:AddOp (fun x y=>x-y) (fun p q=>p-q) where
 eq p q:=by
  have hd:=p.den_pos;have hd':=q.den_pos;show p-q=_;have:=addOp.eq p (-q);simp only [Rat.neg_num,Rat.neg_den,Int.neg_mul]at this;rw[Rat.sub_eq_add_neg,this];rfl
 mul a b c:=(Int.sub_mul ..).symm
 bnd x y:=Int.natAbs_sub_le x y
 wrd x y:=words_isub x y
theorem AddOp.size{op:Int->Int->Int} {f:Rat->Rat->Rat} (ho:AddOp op f) {p q:Rat} {B:Nat}
  (p1:(words p.num.natAbs).length<B) (p2:(words p.den).length<B) (q1:(words q.num.natAbs).length<B) (q2:(words q.den).length<B) :
  (words (f p q).num.natAbs).length<2*B/\(words (f p q).den).length<2*B:=by
 have hd:=p.den_pos;have hd':=q.den_pos;have hpos:0<(p.den:Int)*q.den:=Int.mul_pos (by omega) (by omega);have m1:=words_imul p.num q.den;have m2:=words_imul q.num p.den;have m3:=words_imul p.den q.den;rw[Int.natAbs_natCast]at m1 m2 m3;rw[Int.natAbs_natCast]at m3;have m4:=ho.wrd (p.num*q.den) (q.num*p.den);rw[ho.eq];refine szQ_divInt hpos ?_ ?_ <;> omega
theorem AddOp.rOk{op:Int->Int->Int} {f:Rat->Rat->Rat} (ho:AddOp op f) {p q:Rat} (hp:szQ p=true) (hq:szQ q=true):rOk (rD (f p q)):=by
 obtain⟨p1,p2⟩:=szQ_ok hp;obtain⟨q1,q2⟩:=szQ_ok hq;obtain⟨h1,h2⟩:=ho.size p1 p2 q1 q2;exact rOk_rD (by omega) (by omega)
theorem addB_eq{ρ:Type} (cont:SV->HL->Option ρ) {op:Int->Int->Int} {f:Rat->Rat->Rat} (ho:AddOp op f) {p q:Rat} (hp:szQ p=true) (hq:szQ q=true) :
  addB cont f (rD p) (rD q)=cont (ratT (f p q)) []:=by
 unfold addB;rw[if_pos ⟨szQ_r hp,szQ_r hq⟩,rV_rD,rV_rD,fitC_eq cont _ (ho.rOk hp hq)]
theorem addS_eq{ρ:Type} (cont:SV->HL->Option ρ) {op:Int->Int->Int} {f:Rat->Rat->Rat} (ho:AddOp op f) {p q:Rat} (sp:smallQ p) (sq:smallQ q) (hp:szQ p=true) (hq:szQ q=true) :
  addS cont op f p.num p.den q.num q.den=cont (ratT (f p q)) []:=by
 have hB:(bigOf p.num p.den fun D=>bigOf q.num q.den fun E=>addB cont f D E)=cont (ratT (f p q)) []:=by
  rw[bigOf_eq sp,bigOf_eq sq,addB_eq cont ho hp hq]
 have hd:=p.den_pos;have hd':=q.den_pos;have he:=ho.eq p q;unfold addS;rw[littleB_eq,littleB_eq]
 by_cases h1:(-2147483648<p.num/\p.num<2147483648)/\(p.den:Int)<2147483648
 ·rw[decide_eq_true h1,cond_true,cond_true]
  by_cases h2:(-2147483648<q.num/\q.num<2147483648)/\(q.den:Int)<2147483648
  ·rw[decide_eq_true h2,cond_true];have hd2:(0:Int)<p.den:=by omega
   have hd2':(0:Int)<q.den:=by omega
   rw[he];generalize (p.den:Int)=b at *;generalize (q.den:Int)=d at *;generalize p.num=a at *;generalize q.num=c at *;have hbnd:=ho.bnd a c;have w1:IntKind.i64.wrap (op a c)=op a c:=i64_in _ (by omega) (by omega);have k1:=prodB (x:=a) (y:=d) (B:=2147483647) (C:=2147483647) (by omega) (by omega) (by omega);have k2:=prodB (x:=c) (y:=b) (B:=2147483647) (C:=2147483647) (by omega) (by omega) (by omega);have k3:=prodB (x:=b) (y:=d) (B:=2147483647) (C:=2147483647) (by omega) (by omega) (by omega);have hbd:0<b*d:=Int.mul_pos (by omega) (by omega);have hbnd2:=ho.bnd (a*d) (c*b);have hgen:lowC cont (IntKind.i64.wrap (op (IntKind.i64.wrap (a*d)) (IntKind.i64.wrap (c*b)))) (IntKind.i64.wrap (b*d))=cont (ratT (Rat.divInt (op (a*d) (c*b)) (b*d))) []:=by
    rw[i64_in (a*d) (by omega) (by omega),i64_in (c*b) (by omega) (by omega),i64_in (b*d) (by omega) (by omega),i64_in (op (a*d) (c*b)) (by omega) (by omega)];exact lowC_eq cont (by omega) (by omega)
   have hsame:b=d->lowC cont (IntKind.i64.wrap (op a c)) b=cont (ratT (Rat.divInt (op (a*d) (c*b)) (b*d))) []:=fun e=>by
    subst e;rw[w1,lowC_eq cont (by omega) (by omega),ho.mul,Rat.divInt_mul_right (by omega)]
   have hrest:(bif b==d then lowC cont (IntKind.i64.wrap (op a c)) b else lowC cont (IntKind.i64.wrap (op (IntKind.i64.wrap (a*d)) (IntKind.i64.wrap (c*b)))) (IntKind.i64.wrap (b*d)))=cont (ratT (Rat.divInt (op (a*d) (c*b)) (b*d))) []:=by
    by_cases e:b=d
    ·rw[beq_iff_eq.2 e,cond_true];exact hsame e
    ·rw[beq_eq_false_iff_ne.2 e,cond_false];exact hgen
   by_cases e1:b=1
   ·rw[beq_iff_eq.2 e1,cond_true,cond_true]
    by_cases e2:d=1
    ·rw[beq_iff_eq.2 e2,cond_true,w1];subst e1 e2;rw[Int.mul_one,Int.mul_one,Int.mul_one,ratT_int (by omega)]
    ·rw[beq_eq_false_iff_ne.2 e2,cond_false];exact hrest
   ·rw[beq_eq_false_iff_ne.2 e1,cond_false];exact hrest
  ·rw[decide_eq_false h2,cond_false];exact hB
 ·rw[decide_eq_false h1,cond_false];exact hB
theorem orc59:OrcOK NN Tryz.prog 41 (rat2 (fun p q=>szQ p&&szQ q) fun p q=>nm 0 (p+q)):=
 rat2_ok (runF_ok (Vr_ok NN) mixT (A:=Ash) (fuel:=0) Tryz.func41 (c:=bodyOf Tryz.f41) (by kernel_rfl) (wp_loops (by kernel_rfl))) fun ρ cont p q hq=>by
  simp only [Bool.and_eq_true]at hq;show _=cont (ratT (p+q)) []
  by_cases sp:smallQ p <;> by_cases sq:smallQ q
  ·rw[ratT_S sp,ratT_S sq,run59];exact addS_eq cont addOp sp sq hq.1 hq.2
  ·rw[ratT_S sp,ratT_L sq,run59r,bigOf_eq sp,Bool.cond_self];exact addB_eq cont addOp hq.1 hq.2
  ·rw[ratT_L sp,ratT_S sq,run59l,bigOf_eq sq];exact addB_eq cont addOp hq.1 hq.2
  ·rw[ratT_L sp,ratT_L sq,run59b];exact addB_eq cont addOp hq.1 hq.2
theorem orc37:OrcOK NN Tryz.prog 40 (rat2 (fun p q=>szQ p&&szQ q) fun p q=>nm 0 (p-q)):=
 rat2_ok (runF_ok (Vr_ok NN) mixT (A:=Ash) (fuel:=0) Tryz.func40 (c:=bodyOf Tryz.f40) (by kernel_rfl) (wp_loops (by kernel_rfl))) fun ρ cont p q hq=>by
  simp only [Bool.and_eq_true]at hq;show _=cont (ratT (p-q)) []
  by_cases sp:smallQ p <;> by_cases sq:smallQ q
  ·rw[ratT_S sp,ratT_S sq,run37];exact addS_eq cont subOp sp sq hq.1 hq.2
  ·rw[ratT_S sp,ratT_L sq,run37r,bigOf_eq sp,Bool.cond_self];exact addB_eq cont subOp hq.1 hq.2
  ·rw[ratT_L sp,ratT_S sq,run37l,bigOf_eq sq];exact addB_eq cont subOp hq.1 hq.2
  ·rw[ratT_L sp,ratT_L sq,run37b];exact addB_eq cont subOp hq.1 hq.2
end Go.Abs
namespace Go.Abs
open Go.Proofs
set_option maxRecDepth 100000
theorem run57{ρ:Type} (cont:SV->HL->Option ρ) (a:Int):runF Vr Ash 0 Tryz.f38 (bodyOf Tryz.f38) ρ [one (.int .i64 a)] [] cont=cont (rS a 1) []:=by kernel_rfl
def riT:Orc:=fun ρ args H cont=>match args,H with
 | [.v false [.int .i64 a]],[]=>cont (rS a 1) []
 | _,_=>none
theorem orc57t(N:NumSem):OrcOK N Tryz.prog 38 riT:=
 OrcOK.of_tale (runF_ok (Vr_ok N) mixT (A:=Ash) (fuel:=0) Tryz.func38 (c:=bodyOf Tryz.f38) (by kernel_rfl) (wp_loops (by kernel_rfl))) fun ρ args H cont r h=>by
  unfold riT at h;split at h
  ·exact(run57 cont _).trans h
  ·contradiction
def sgnB(a:Int):Int:=bif decide (a<0)then -1 else bif decide (0<a)then 1 else 0
def signT:Orc:=fun ρ args H cont=>match args,H with
 | [.v true [.int .i64 a,.int .i64 b,.nilp]],[]=>cont (one (.int .i64 (sgnB a))) []
 | _,_=>none
theorem orc88t(N:NumSem):OrcOK N Tryz.prog 74 signT:=
 OrcOK.of_tale (runF_ok (Vr_ok N) mixT (A:=Ash) (fuel:=0) Tryz.func74 (c:=bodyOf Tryz.f74) (by kernel_rfl) (wp_loops (by kernel_rfl))) fun ρ args H cont r h=>by
  unfold signT at h;split at h
  ·rename_i a b;refine(run88 cont a b).trans ?_;unfold sgnB at h;rcases Int.lt_or_le a 0 with h1 | h1
   ·rw[decide_eq_true h1]at h ⊢;exact h
   ·rw[decide_eq_false (Int.not_lt.2 h1)]at h ⊢;rcases Int.lt_or_le 0 a with h2 | h2
    ·rw[decide_eq_true h2]at h ⊢;exact h
    ·rw[decide_eq_false (Int.not_lt.2 h2)]at h ⊢;exact h
  ·contradiction
def Vs:Env:={ T:=tranT,E:=[],Γ:=gamL [(79,littleO),(80,lowO),(77,bigO),(81,fitO),(85,unR2 fun p q=>p*q),(78,cmpRatO),(84,gcdO),(76,absO),(75,mul64O),(38,riT),(74,signT)],M:=Mr }
theorem Vs_ok(N:NumSem):EnvOK N Tryz.prog Vs:=
 {T:=TT_ok,E:=fun p hp=>(by cases hp),Γ:=gamC (orc91 N) Tryz.call79 (gamC (orc92 N) Tryz.call80 (gamC (orc95 N) Tryz.call77 (gamC (orc93 N) Tryz.call81 (gamC (orc119 N) Tryz.call85 (gamC (orc116 N) Tryz.call78 (gamC (orc118 N) Tryz.call84 (gamC (orc115 N) Tryz.call76 (gamC (orc114 N) Tryz.call75 (gamC (orc57t N) Tryz.call38 (gamC (orc88t N) Tryz.call74 (gamN N _))))))))))) }
def mulE{ρ:Type} (cont:SV->HL->Option ρ) (B:Option ρ) (x y U V:Int):Option ρ:=
 if -9223372036854775808<=x/\x<9223372036854775808 then(if -9223372036854775808<=y/\y<9223372036854775808 then
  (if(0<=iabs x/\iabs x<18446744073709551616)/\0<=iabs y/\iabs y<18446744073709551616 then(if(0<=U/\U<18446744073709551616)/\0<=V/\V<18446744073709551616 then
   bif hi64 (iabs x*iabs y)==0 then bif bif true then hi64 (U*V)==0 else false then bif bif true then decide (low64 (iabs x*iabs y)<9223372036854775808)else false then bif bif true then decide (low64 (U*V)<9223372036854775808)else false then
    bif decide (x<0) != decide (y<0)then cont (rS (IntKind.i64.wrap (0-IntKind.i64.wrap (low64 (iabs x*iabs y)))) (IntKind.i64.wrap (low64 (U*V)))) []
    else cont (rS (IntKind.i64.wrap (low64 (iabs x*iabs y))) (IntKind.i64.wrap (low64 (U*V)))) []
   else B else B else B else B
  else none)else none)else none)else none
def mulM{ρ:Type} (cont:SV->HL->Option ρ) (B:Option ρ) (a b c d:Int):Option ρ:=
 if -9223372036854775808<=a/\a<9223372036854775808 then(if 0<=iabs a/\0<=IntKind.u64.wrap d then
  (if -9223372036854775808<=c/\c<9223372036854775808 then(if 0<=iabs c/\0<=IntKind.u64.wrap b then
   (let g:=IntKind.i64.wrap (igcd (iabs a) (IntKind.u64.wrap d))
    let h:=IntKind.i64.wrap (igcd (iabs c) (IntKind.u64.wrap b))
    if g=0 then none else if h=0 then none else if h=0 then none else if g=0 then none else
     mulE cont B (IntKind.i64.wrap (a.tdiv g)) (IntKind.i64.wrap (c.tdiv h)) (IntKind.u64.wrap (IntKind.i64.wrap (b.tdiv h))) (IntKind.u64.wrap (IntKind.i64.wrap (d.tdiv g))))else none)else none)else none)else none
def mulS{ρ:Type} (cont:SV->HL->Option ρ) (a b c d:Int):Option ρ:=
 let B:=bigOf a b fun D=>bigOf c d fun E=>addB cont (fun p q=>p*q) D E
 bif a==0 then cont (rS 0 1) []else bif bif false then true else c==0 then cont (rS 0 1) []else
 bif littleB a b then
  (bif bif true then littleB c d else false then
   (bif b==1 then(bif bif true then d==1 else false then cont (rS (IntKind.i64.wrap (a*c)) 1) []else lowC cont (IntKind.i64.wrap (a*c)) (IntKind.i64.wrap (b*d)))
    else lowC cont (IntKind.i64.wrap (a*c)) (IntKind.i64.wrap (b*d)))
   else mulM cont B a b c d)
 else mulM cont B a b c d
theorem run60{ρ:Type} (cont:SV->HL->Option ρ) (a b c d:Int):runF Vs Ash 0 Tryz.f42 (bodyOf Tryz.f42) ρ [rS a b,rS c d] [] cont=mulS cont a b c d:=by kernel_rfl
theorem run60l{ρ:Type} (cont:SV->HL->Option ρ) (D:tR.den) (c d:Int):runF Vs Ash 0 Tryz.f42 (bodyOf Tryz.f42) ρ [rL D,rS c d] [] cont=bigOf c d fun E=>addB cont (fun p q=>p*q) D E:=by kernel_rfl
theorem run60r{ρ:Type} (cont:SV->HL->Option ρ) (a b:Int) (E:tR.den):runF Vs Ash 0 Tryz.f42 (bodyOf Tryz.f42) ρ [rS a b,rL E] [] cont=bigOf a b fun D=>addB cont (fun p q=>p*q) D E:=by kernel_rfl
theorem run60b{ρ:Type} (cont:SV->HL->Option ρ) (D E:tR.den):runF Vs Ash 0 Tryz.f42 (bodyOf Tryz.f42) ρ [rL D,rL E] [] cont=addB cont (fun p q=>p*q) D E:=by kernel_rfl
def cmpS{ρ:Type} (cont:SV->HL->Option ρ) (a b c d:Int):Option ρ:=
 bif b==d then(bif decide (a<c)then cont (one (.int .i64 (-1))) []else bif decide (c<a)then cont (one (.int .i64 1)) []else cont (one (.int .i64 0)) [])
 else bif sgnB a != sgnB c then(bif decide (sgnB a<sgnB c)then cont (one (.int .i64 (-1))) []else cont (one (.int .i64 1)) [])
 else if -9223372036854775808<=a/\a<9223372036854775808 then
  (if(0<=iabs a/\iabs a<18446744073709551616)/\0<=IntKind.u64.wrap d/\IntKind.u64.wrap d<18446744073709551616 then
   (if -9223372036854775808<=c/\c<9223372036854775808 then
    (if(0<=iabs c/\iabs c<18446744073709551616)/\0<=IntKind.u64.wrap b/\IntKind.u64.wrap b<18446744073709551616 then
     (let p:=iabs a*IntKind.u64.wrap d
      let q:=iabs c*IntKind.u64.wrap b
      let K:=fun t:Int=>cont (one (.int .i64 (IntKind.i64.wrap (t*sgnB a)))) []
      bif hi64 p != hi64 q then(bif decide (hi64 p<hi64 q)then K (-1)else K 1)
      else bif low64 p != low64 q then(bif decide (low64 p<low64 q)then K (-1)else K 1)else K 0)
     else none)else none)else none)else none
theorem run58{ρ:Type} (cont:SV->HL->Option ρ) (a b c d:Int):runF Vs Ash 0 Tryz.f39 (bodyOf Tryz.f39) ρ [rS a b,rS c d] [] cont=cmpS cont a b c d:=by kernel_rfl
def cmpBig{ρ:Type} (cont:SV->HL->Option ρ) (D E:tR.den):Option ρ:=if rOk D/\rOk E then cont (one (.int .i64 (cmpQ (rV D) (rV E)))) []else none
theorem run58l{ρ:Type} (cont:SV->HL->Option ρ) (D:tR.den) (c d:Int):runF Vs Ash 0 Tryz.f39 (bodyOf Tryz.f39) ρ [rL D,rS c d] [] cont=bigOf c d fun E=>cmpBig cont D E:=by kernel_rfl
theorem run58r{ρ:Type} (cont:SV->HL->Option ρ) (a b:Int) (E:tR.den):runF Vs Ash 0 Tryz.f39 (bodyOf Tryz.f39) ρ [rS a b,rL E] [] cont=bigOf a b fun D=>cmpBig cont D E:=by kernel_rfl
theorem run58b{ρ:Type} (cont:SV->HL->Option ρ) (D E:tR.den):runF Vs Ash 0 Tryz.f39 (bodyOf Tryz.f39) ρ [rL D,rL E] [] cont=cmpBig cont D E:=by kernel_rfl
theorem mul_parts(p q:Rat):(p*q).num=(p.num.tdiv (Nat.gcd p.num.natAbs q.den))*(q.num.tdiv (Nat.gcd q.num.natAbs p.den)) /\
  (p*q).den=(p.den / (Nat.gcd q.num.natAbs p.den))*(q.den / (Nat.gcd p.num.natAbs q.den)):=by
 constructor
 ·show (Rat.mul p q).num=_;rw[Rat.mul];simp only [Int.divExact_eq_tdiv]
 ·show (Rat.mul p q).den=_;rw[Rat.mul];simp only [Nat.divExact_eq_div]
theorem mulE_eq{ρ:Type} (cont:SV->HL->Option ρ) (B:Option ρ) (R:Rat) (x y u v:Int) (hx:-9223372036854775808<x/\x<9223372036854775808) (hy:-9223372036854775808<y/\y<9223372036854775808)
  (hu:0<u/\u<9223372036854775808) (hv:0<v/\v<9223372036854775808) (h1:R.num=x*y) (h2:(R.den:Int)=u*v) (hB:B=cont (ratT R) []) :
  mulE cont B x y u v=cont (ratT R) []:=by
 have ax:=iabs_eq x;have ay:=iabs_eq y;have hp:0<=iabs x*iabs y:=Int.mul_nonneg (by omega) (by omega);have hq:0<u*v:=Int.mul_pos hu.1 hv.1;unfold mulE;rw[if_pos ⟨by omega,hx.2⟩,if_pos ⟨by omega,hy.2⟩,if_pos ⟨⟨by omega,by omega⟩,by omega,by omega⟩,if_pos ⟨⟨by omega,by omega⟩,by omega,by omega⟩];have e1:hi64 (iabs x*iabs y)=iabs x*iabs y / 18446744073709551616:=if_pos hp;have e2:low64 (iabs x*iabs y)=iabs x*iabs y % 18446744073709551616:=if_pos hp;have e3:hi64 (u*v)=u*v / 18446744073709551616:=if_pos (by omega);have e4:low64 (u*v)=u*v % 18446744073709551616:=if_pos (by omega);have hxy:iabs x*iabs y=((x*y).natAbs:Int):=by rw[ax,ay,Int.natAbs_mul,Int.natCast_mul]
 have hsg:(decide (x<0) != decide (y<0))=true->x*y<=0:=fun h=>by
  rcases Int.lt_or_le x 0 with c1 | c1 <;> rcases Int.lt_or_le y 0 with c2 | c2
  ·rw[decide_eq_true c1,decide_eq_true c2]at h;exact absurd h (by decide)
  ·exact Int.mul_nonpos_of_nonpos_of_nonneg (by omega) c2
  ·exact Int.mul_nonpos_of_nonneg_of_nonpos c1 (by omega)
  ·rw[decide_eq_false (by omega),decide_eq_false (by omega)]at h;exact absurd h (by decide)
 have hsg':(decide (x<0) != decide (y<0))=false->0<=x*y:=fun h=>by
  rcases Int.lt_or_le x 0 with c1 | c1 <;> rcases Int.lt_or_le y 0 with c2 | c2
  ·exact Int.mul_nonneg_of_nonpos_of_nonpos (by omega) (by omega)
  ·rw[decide_eq_true c1,decide_eq_false (by omega)]at h;exact absurd h (by decide)
  ·rw[decide_eq_false (by omega),decide_eq_true c2]at h;exact absurd h (by decide)
  ·exact Int.mul_nonneg c1 c2
 rw[e1,e2,e3,e4];generalize iabs x*iabs y=P at *;generalize hQ:u*v=Q at *
 by_cases c1:P / 18446744073709551616=0
 ·rw[beq_iff_eq.2 c1,cond_true,cond_true]
  by_cases c2:Q / 18446744073709551616=0
  ·rw[beq_iff_eq.2 c2,cond_true,cond_true]
   by_cases c3:P % 18446744073709551616<9223372036854775808
   ·rw[decide_eq_true c3,cond_true,cond_true]
    by_cases c4:Q % 18446744073709551616<9223372036854775808
    ·rw[decide_eq_true c4,cond_true];have f1:P % 18446744073709551616=P:=by omega
     have f2:Q % 18446744073709551616=Q:=by omega
     rw[f1,f2,i64_in P (by omega) (by omega),i64_in Q (by omega) (by omega)];have hs:smallQ R:=⟨by omega,by omega⟩;rw[ratT_S hs,h1,h2];cases hc:(decide (x<0) != decide (y<0))with
     | true =>
      have:=hsg hc;rw[cond_true,i64_in (0-P) (by omega) (by omega)];have:0-P=x*y:=by omega
      rw[this]
     | false =>
      have:=hsg' hc;rw[cond_false];have:P=x*y:=by omega
      rw[this]
    ·rw[decide_eq_false c4,cond_false];exact hB
   ·rw[decide_eq_false c3];exact hB
  ·rw[beq_eq_false_iff_ne.2 c2,cond_false];exact hB
 ·rw[beq_eq_false_iff_ne.2 c1,cond_false];exact hB
theorem tdiv_in{a g:Int} (ha:-9223372036854775808<a/\a<9223372036854775808) (hg:0<g):-9223372036854775808<a.tdiv g/\a.tdiv g<9223372036854775808:=by
 have h:(a.tdiv g).natAbs<=a.natAbs:=by rw[Int.natAbs_tdiv];exact Nat.div_le_self ..
 omega
theorem tdiv_pos{b g:Int} (hb:0<b/\b<9223372036854775808) (hg:0<g) (hd:g ∣ b):0<b.tdiv g/\b.tdiv g<9223372036854775808:=by
 obtain⟨m,rfl⟩:=hd;rw[Int.mul_tdiv_cancel_left _ (by omega)];have hm:0<m:=by
  rcases Int.lt_or_le 0 m with h | h
  ·exact h
  ·have:=Int.mul_nonpos_of_nonneg_of_nonpos (a:=g) (b:=m) (by omega) h;omega
 have:1*m<=g*m:=Int.mul_le_mul_of_nonneg_right (by omega) (by omega);omega
theorem mulM_eq{ρ:Type} (cont:SV->HL->Option ρ) (B:Option ρ) {p q:Rat} (sp:smallQ p) (sq:smallQ q) (hB:B=cont (ratT (p*q)) []) :
  mulM cont B p.num p.den q.num q.den=cont (ratT (p*q)) []:=by
 obtain⟨m1,m2⟩:=mul_parts p q;have kp:=small_pos sp;have kq:=small_pos sq;have ua:=iabs_eq p.num;have uc:=iabs_eq q.num;have hu:IntKind.u64.wrap (p.den:Int)=p.den:=u64_id _ (by omega) (by omega);have hv:IntKind.u64.wrap (q.den:Int)=q.den:=u64_id _ (by omega) (by omega);unfold mulM;rw[hu,hv,if_pos ⟨by omega,kp.1.2⟩,if_pos ⟨by omega,by omega⟩,if_pos ⟨by omega,kq.1.2⟩,if_pos ⟨by omega,by omega⟩,ua,uc,igcd_eq,igcd_eq];have g0:0<Nat.gcd p.num.natAbs q.den:=Nat.gcd_pos_of_pos_right _ q.den_pos;have g1:Nat.gcd p.num.natAbs q.den<=q.den:=Nat.gcd_le_right _ q.den_pos;have g2:((Nat.gcd p.num.natAbs q.den:Nat):Int) ∣ q.den:=Int.natCast_dvd_natCast.2 (Nat.gcd_dvd_right ..);have h0:0<Nat.gcd q.num.natAbs p.den:=Nat.gcd_pos_of_pos_right _ p.den_pos;have h1:Nat.gcd q.num.natAbs p.den<=p.den:=Nat.gcd_le_right _ p.den_pos;have h2:((Nat.gcd q.num.natAbs p.den:Nat):Int) ∣ p.den:=Int.natCast_dvd_natCast.2 (Nat.gcd_dvd_right ..);have m3:((p*q).den:Int)=(p.den:Int).tdiv (Nat.gcd q.num.natAbs p.den:Nat)*(q.den:Int).tdiv (Nat.gcd p.num.natAbs q.den:Nat):=by
  rw[m2,Int.natCast_mul];rfl
 clear m2;generalize Nat.gcd p.num.natAbs q.den=g at *;generalize Nat.gcd q.num.natAbs p.den=h at *;simp only [];rw[i64_in (g:Int) (by omega) (by omega),i64_in (h:Int) (by omega) (by omega),if_neg (by omega),if_neg (by omega),if_neg (by omega),if_neg (by omega)];have x1:=tdiv_in (g:=(g:Int)) kp.1 (by omega);have x2:=tdiv_in (g:=(h:Int)) kq.1 (by omega);have x3:=tdiv_pos (g:=(h:Int)) kp.2 (by omega) h2;have x4:=tdiv_pos (g:=(g:Int)) kq.2 (by omega) g2;rw[i64_in _ (by omega) x1.2,i64_in _ (by omega) x2.2,i64_in _ (by omega) x3.2,i64_in _ (by omega) x4.2,u64_id _ (by omega) (by omega),u64_id _ (by omega) (by omega)];exact mulE_eq cont B (p*q) _ _ _ _ x1 x2 x3 x4 m1 m3 hB
theorem mul_eq(p q:Rat):p*q=Rat.divInt (p.num*q.num) (p.den*q.den):=by
 rw[<- Rat.divInt_mul_divInt,Rat.num_divInt_den,Rat.num_divInt_den]
theorem mul_size{p q:Rat} {B:Nat}
  (p1:(words p.num.natAbs).length<B) (p2:(words p.den).length<B) (q1:(words q.num.natAbs).length<B) (q2:(words q.den).length<B) :
  (words (p*q).num.natAbs).length<2*B/\(words (p*q).den).length<2*B:=by
 have hd:=p.den_pos;have hd':=q.den_pos;have hpos:0<(p.den:Int)*q.den:=Int.mul_pos (by omega) (by omega);have m1:=words_imul p.num q.num;have m3:=words_imul p.den q.den;rw[Int.natAbs_natCast]at m3;rw[Int.natAbs_natCast]at m3;rw[mul_eq];refine szQ_divInt hpos ?_ ?_ <;> omega
theorem mulB_eq{ρ:Type} (cont:SV->HL->Option ρ) {p q:Rat} (hp:szQ p=true) (hq:szQ q=true) :
  addB cont (fun p q=>p*q) (rD p) (rD q)=cont (ratT (p*q)) []:=by
 obtain⟨p1,p2⟩:=szQ_ok hp;obtain⟨q1,q2⟩:=szQ_ok hq;obtain⟨h1,h2⟩:=mul_size p1 p2 q1 q2;unfold addB;rw[if_pos ⟨szQ_r hp,szQ_r hq⟩,rV_rD,rV_rD];exact fitC_eq cont (p*q) (rOk_rD (by omega) (by omega))
theorem mulS_eq{ρ:Type} (cont:SV->HL->Option ρ) {p q:Rat} (sp:smallQ p) (sq:smallQ q) (hp:szQ p=true) (hq:szQ q=true) :
  mulS cont p.num p.den q.num q.den=cont (ratT (p*q)) []:=by
 have hB:(bigOf p.num p.den fun D=>bigOf q.num q.den fun E=>addB cont (fun p q=>p*q) D E)=cont (ratT (p*q)) []:=by
  rw[bigOf_eq sp,bigOf_eq sq,mulB_eq cont hp hq]
 have hM:=mulM_eq cont _ sp sq hB;have hd:=p.den_pos;have hd':=q.den_pos;have he:=mul_eq p q;have h0:ratT 0=rS 0 1:=by rw[ratT_S (q:=0) ⟨by decide,by decide⟩];rfl
 unfold mulS
 by_cases z1:p.num=0
 ·rw[beq_iff_eq.2 z1,cond_true];have:p=0:=Rat.num_eq_zero.1 z1;rw[this,Rat.zero_mul,h0]
 by_cases z2:q.num=0
 ·rw[beq_iff_eq.2 z2,beq_eq_false_iff_ne.2 z1,cond_false,cond_false,cond_true];have:q=0:=Rat.num_eq_zero.1 z2;rw[this,Rat.mul_zero,h0]
 rw[beq_eq_false_iff_ne.2 z1,beq_eq_false_iff_ne.2 z2,cond_false,cond_false,cond_false];rw[littleB_eq,littleB_eq]
 by_cases h1:(-2147483648<p.num/\p.num<2147483648)/\(p.den:Int)<2147483648
 ·rw[decide_eq_true h1,cond_true,cond_true]
  by_cases h2:(-2147483648<q.num/\q.num<2147483648)/\(q.den:Int)<2147483648
  ·rw[decide_eq_true h2,cond_true];have hd2:(0:Int)<p.den:=by omega
   have hd2':(0:Int)<q.den:=by omega
   clear hM hB;rw[he];generalize (p.den:Int)=b at *;generalize (q.den:Int)=d at *;generalize p.num=a at *;generalize q.num=c at *;have k1:=prodB (x:=a) (y:=c) (B:=2147483647) (C:=2147483647) (by omega) (by omega) (by omega);have k3:=prodB (x:=b) (y:=d) (B:=2147483647) (C:=2147483647) (by omega) (by omega) (by omega);have hbd:0<b*d:=Int.mul_pos (by omega) (by omega);have hgen:lowC cont (IntKind.i64.wrap (a*c)) (IntKind.i64.wrap (b*d))=cont (ratT (Rat.divInt (a*c) (b*d))) []:=by
    rw[i64_in (a*c) (by omega) (by omega),i64_in (b*d) (by omega) (by omega)];exact lowC_eq cont (by omega) (by omega)
   by_cases e1:b=1
   ·rw[beq_iff_eq.2 e1,cond_true,cond_true]
    by_cases e2:d=1
    ·rw[beq_iff_eq.2 e2,cond_true,i64_in (a*c) (by omega) (by omega)];subst e1 e2;rw[Int.mul_one,ratT_int (by omega)]
    ·rw[beq_eq_false_iff_ne.2 e2,cond_false];exact hgen
   ·rw[beq_eq_false_iff_ne.2 e1,cond_false];exact hgen
  ·rw[decide_eq_false h2,cond_false];exact hM
 ·rw[decide_eq_false h1,cond_false];exact hM
theorem orc60:OrcOK NN Tryz.prog 42 (rat2 (fun p q=>szQ p&&szQ q) fun p q=>nm 0 (p*q)):=
 rat2_ok (runF_ok (Vs_ok NN) mixT (A:=Ash) (fuel:=0) Tryz.func42 (c:=bodyOf Tryz.f42) (by kernel_rfl) (wp_loops (by kernel_rfl))) fun ρ cont p q hq=>by
  simp only [Bool.and_eq_true]at hq;show _=cont (ratT (p*q)) []
  by_cases sp:smallQ p <;> by_cases sq:smallQ q
  ·rw[ratT_S sp,ratT_S sq,run60];exact mulS_eq cont sp sq hq.1 hq.2
  ·rw[ratT_S sp,ratT_L sq,run60r,bigOf_eq sp];exact mulB_eq cont hq.1 hq.2
  ·rw[ratT_L sp,ratT_S sq,run60l,bigOf_eq sq];exact mulB_eq cont hq.1 hq.2
  ·rw[ratT_L sp,ratT_L sq,run60b];exact mulB_eq cont hq.1 hq.2
theorem sgnB_eq(a:Int):sgnB a=Int.sign a:=by
 unfold sgnB;rcases Int.lt_trichotomy a 0 with h | h | h
 ·rw[decide_eq_true h,cond_true,Int.sign_eq_neg_one_of_neg h]
 ·subst h;rfl
 ·rw[decide_eq_false (by omega),cond_false,decide_eq_true h,cond_true,Int.sign_eq_one_of_pos h]
theorem hilo{P Q:Int} (hP:0<=P) (hQ:0<=Q) {α:Type} (x y z:α) :
  (bif hi64 P != hi64 Q then(bif decide (hi64 P<hi64 Q)then x else y)else bif low64 P != low64 Q then(bif decide (low64 P<low64 Q)then x else y)else z)=if P<Q then x else if Q<P then y else z:=by
 have e1:hi64 P=P / 18446744073709551616:=if_pos hP;have e2:low64 P=P % 18446744073709551616:=if_pos hP;have e3:hi64 Q=Q / 18446744073709551616:=if_pos hQ;have e4:low64 Q=Q % 18446744073709551616:=if_pos hQ;rw[e1,e2,e3,e4]
 by_cases c1:P / 18446744073709551616=Q / 18446744073709551616
 ·rw[bne_eq_false_iff_eq.2 c1,cond_false]
  by_cases c2:P % 18446744073709551616=Q % 18446744073709551616
  ·rw[bne_eq_false_iff_eq.2 c2,cond_false,if_neg (by omega),if_neg (by omega)]
  ·rw[bne_iff_ne.2 c2,cond_true]
   by_cases c3:P % 18446744073709551616<Q % 18446744073709551616
   ·rw[decide_eq_true c3,cond_true,if_pos (by omega)]
   ·rw[decide_eq_false c3,cond_false,if_neg (by omega),if_pos (by omega)]
 ·rw[bne_iff_ne.2 c1,cond_true]
  by_cases c3:P / 18446744073709551616<Q / 18446744073709551616
  ·rw[decide_eq_true c3,cond_true,if_pos (by omega)]
  ·rw[decide_eq_false c3,cond_false,if_neg (by omega),if_pos (by omega)]
theorem cmpBig_eq{ρ:Type} (cont:SV->HL->Option ρ) {p q:Rat} (hp:szQ p=true) (hq:szQ q=true) :
  cmpBig cont (rD p) (rD q)=cont (one (.int .i64 (cmpQ p q))) []:=by
 unfold cmpBig;rw[if_pos ⟨szQ_r hp,szQ_r hq⟩,rV_rD,rV_rD]
theorem cmpS_eq{ρ:Type} (cont:SV->HL->Option ρ) {p q:Rat} (sp:smallQ p) (sq:smallQ q) :
  cmpS cont p.num p.den q.num q.den=cont (one (.int .i64 (cmpQ p q))) []:=by
 have kp:=small_pos sp;have kq:=small_pos sq;unfold cmpS cmpQ;generalize (p.den:Int)=b at *;generalize (q.den:Int)=d at *;generalize p.num=a at *;generalize q.num=c at *;have ua:=iabs_eq a;have uc:=iabs_eq c
 by_cases e:b=d
 ·subst e;rw[beq_self_eq_true,cond_true,<- Int.sub_mul,Int.sign_mul,Int.sign_eq_one_of_pos kp.2.1,Int.mul_one];rcases Int.lt_trichotomy a c with h | h | h
  ·rw[decide_eq_true h,cond_true,Int.sign_eq_neg_one_of_neg (by omega)]
  ·subst h;rw[decide_eq_false (by omega),cond_false,cond_false,Int.sub_self];rfl
  ·rw[decide_eq_false (by omega),cond_false,decide_eq_true h,cond_true,Int.sign_eq_one_of_pos (by omega)]
 rw[beq_eq_false_iff_ne.2 e,cond_false,sgnB_eq,sgnB_eq];have hu:IntKind.u64.wrap b=b:=u64_id _ (by omega) (by omega);have hv:IntKind.u64.wrap d=d:=u64_id _ (by omega) (by omega);have sa:a<0->a*d<0:=fun h=>Int.mul_neg_of_neg_of_pos h kq.2.1
 have sc:c<0->c*b<0:=fun h=>Int.mul_neg_of_neg_of_pos h kp.2.1
 have sa':0<a->0<a*d:=fun h=>Int.mul_pos h kq.2.1
 have sc':0<c->0<c*b:=fun h=>Int.mul_pos h kp.2.1
 have na:iabs a*d=(a*d).natAbs:=by rw[ua,Int.natAbs_mul,Int.natCast_mul];congr 1;omega
 have nc:iabs c*b=(c*b).natAbs:=by rw[uc,Int.natAbs_mul,Int.natCast_mul];congr 1;omega
 have za:a=0->a*d=0:=fun h=>by rw[h,Int.zero_mul]
 have zc:c=0->c*b=0:=fun h=>by rw[h,Int.zero_mul]
 rw[hu,hv];simp only [];rw[hilo (by rw[na];omega) (by rw[nc];omega),na,nc];have g1:(0<=iabs a/\iabs a<18446744073709551616)/\0<=d/\d<18446744073709551616:=by omega
 have g2:(0<=iabs c/\iabs c<18446744073709551616)/\0<=b/\b<18446744073709551616:=by omega
 rw[if_pos (c:=-9223372036854775808<=a/\a<9223372036854775808) (by omega),if_pos g1,if_pos (c:=-9223372036854775808<=c/\c<9223372036854775808) (by omega),if_pos g2];generalize a*d=P at *;generalize c*b=Q at *;have n1:Int.sign a = -1/\a<0\/Int.sign a=0/\a=0\/Int.sign a=1/\0<a:=by
  rcases Int.lt_trichotomy a 0 with h | h | h
  ·exact .inl ⟨Int.sign_eq_neg_one_of_neg h,h⟩
  ·exact .inr (.inl ⟨by rw[h];rfl,h⟩)
  ·exact .inr (.inr ⟨Int.sign_eq_one_of_pos h,h⟩)
 have n2:Int.sign c = -1/\c<0\/Int.sign c=0/\c=0\/Int.sign c=1/\0<c:=by
  rcases Int.lt_trichotomy c 0 with h | h | h
  ·exact .inl ⟨Int.sign_eq_neg_one_of_neg h,h⟩
  ·exact .inr (.inl ⟨by rw[h];rfl,h⟩)
  ·exact .inr (.inr ⟨Int.sign_eq_one_of_pos h,h⟩)
 have n3:∀ t:Int,(t<0->Int.sign t = -1)/\(t=0->Int.sign t=0)/\(0<t->Int.sign t=1):=fun t=>⟨Int.sign_eq_neg_one_of_neg,fun h=>by rw[h];rfl,Int.sign_eq_one_of_pos⟩
 have n4:=n3 (P-Q);have w1:∀ t s:Int,(t = -1\/t=0\/t=1)->(s = -1\/s=0\/s=1)->IntKind.i64.wrap (t*s)=t*s:=fun t s h1 h2=>by
  rcases h1 with rfl | rfl | rfl <;> rcases h2 with rfl | rfl | rfl <;> decide
 rcases n1 with ⟨h1,h1'⟩ | ⟨h1,h1'⟩ | ⟨h1,h1'⟩ <;> rcases n2 with ⟨h2,h2'⟩ | ⟨h2,h2'⟩ | ⟨h2,h2'⟩ <;> rw[h1,h2] <;>
  first
  | (show cont (one (.int .i64 (-1))) []=_;rw[n4.1 (by omega)])
  | (show cont (one (.int .i64 1)) []=_;rw[n4.2.2 (by omega)])
  | (
    rcases Int.lt_trichotomy (P.natAbs:Int) Q.natAbs with h | h | h
    ·rw[bne_self_eq_false,cond_false,if_pos h]
     first
     | (exfalso;omega)
     | (rw[n4.1 (by omega)];rfl)
     | (rw[n4.2.2 (by omega)];rfl)
    ·rw[bne_self_eq_false,cond_false,if_neg (by omega),if_neg (by omega),n4.2.1 (by omega)];rfl
    ·rw[bne_self_eq_false,cond_false,if_neg (by omega),if_pos h]
     first
     | (exfalso;omega)
     | (rw[n4.1 (by omega)];rfl)
     | (rw[n4.2.2 (by omega)];rfl))
theorem orc58:OrcOK NN Tryz.prog 39 (rat2 (fun p q=>szQ p&&szQ q) fun p q=>one (.int .i64 (cmpQ p q))):=
 rat2_ok (runF_ok (Vs_ok NN) mixT (A:=Ash) (fuel:=0) Tryz.func39 (c:=bodyOf Tryz.f39) (by kernel_rfl) (wp_loops (by kernel_rfl))) fun ρ cont p q hq=>by
  simp only [Bool.and_eq_true]at hq;show _=cont (one (.int .i64 (cmpQ p q))) []
  by_cases sp:smallQ p <;> by_cases sq:smallQ q
  ·rw[ratT_S sp,ratT_S sq,run58];exact cmpS_eq cont sp sq
  ·rw[ratT_S sp,ratT_L sq,run58r,bigOf_eq sp];exact cmpBig_eq cont hq.1 hq.2
  ·rw[ratT_L sp,ratT_S sq,run58l,bigOf_eq sq];exact cmpBig_eq cont hq.1 hq.2
  ·rw[ratT_L sp,ratT_L sq,run58b];exact cmpBig_eq cont hq.1 hq.2
end Go.Abs
namespace Go.Abs
open Go.Proofs
set_option maxRecDepth 100000
def Vz0:Env:={ T:=tranT,E:=[],Γ:=gamL [] }
theorem Vz0_ok(N:NumSem):EnvOK N Tryz.prog Vz0:={ T:=TT_ok,E:=fun p hp=>(by cases hp),Γ:=gamN N _ }
def A201:Ann:={ head:=ptOf [(2,[0,3],[])],out:=ptOf [(2,[0,3],[])] }
def σ201(b:Option Bool) (xs:List tW.den) (n:Int):St:=⟨[(0,one (.sl b tW xs)),(3,one (.int .i64 n))],[]⟩
theorem turn201{ρ:Type} (K:Exit->St->Option ρ) (go:St->Option ρ) (b:Option Bool) (xs:List tW.den) (n:Int) :
  turnF Vz0 A201 21 0 0 (loopAt Tryz.f139 0) K go (σ201 b xs n) =
 bif decide (0<n)then
  (if 0<=IntKind.i64.wrap (n-1)then
   (xs[(IntKind.i64.wrap (n-1)).toNat]?).bind fun x=>bif bif true then((x:Int)==0)else false then go (σ201 b xs (IntKind.i64.wrap (n-1)))else K (.exit 0) (σ201 b xs n)else none)
 else K (.exit 0) (σ201 b xs n):=by kernel_rfl
theorem loop201{ρ:Type} (K:Exit->St->Option ρ) (b:Option Bool) (xs:List tW.den) (hx:xs.length<4611686018427387904):∀ m,m<=xs.length ->
  itF (turnF Vz0 A201 21 0 0 (loopAt Tryz.f139 0) K) (fun _=>none) (m+1) (σ201 b xs m)=K (.exit 0) (σ201 b xs (trimTo xs m:Nat)):=by
 intro m
 induction m with
 | zero =>
  intro _;rw[itF_succ,turn201,decide_eq_false (by omega),cond_false];rfl
 | succ m ih =>
  intro hm;have hml:m<xs.length:=hm;have hw:IntKind.i64.wrap (((m+1:Nat):Int)-1)=m:=by rw[i64_nat] <;> omega
  rw[itF_succ,turn201,decide_eq_true (by omega),cond_true,hw,if_pos (by omega),Int.toNat_natCast,List.getElem?_eq_getElem hml,Option.bind_some,cond_true];cases hx0:((xs[m]:Int)==0)with
  | true =>
   rw[cond_true,ih (by omega)];have:(xs[m]:Int)=0:=by simpa using hx0
   have:xs[m]? = some (0:Int):=by rw[List.getElem?_eq_getElem hml];exact congrArg some this
   have e:trimTo xs (m+1)=trimTo xs m:=by rw[trimTo];exact if_pos this
   rw[e]
  | false =>
   rw[cond_false];have hne:(xs[m]:Int)≠0:=by simpa using hx0
   have e:trimTo xs (m+1)=m+1:=by
    rw[trimTo];exact if_neg (by rw[List.getElem?_eq_getElem hml];exact fun h=>hne (by simpa using h))
   rw[e]
def S201:Sum:=fun n0 ρ σ K=>match n0,σ with
 | 0,⟨[(0,.v false [.sl b (.int .u32) xs]),(3,.v false [.int .i64 n])],[]⟩=>if n=xs.length/\xs.length<4611686018427387904 then K (.exit 0) (σ201 b xs (trimTo xs xs.length:Nat))else none
 | _,_=>none
theorem sum201(N:NumSem):SumOK N Tryz.prog 21 (loopAt Tryz.f139 0) S201:=
 SumOK.of_turns (Vz0_ok N) mixT (A:=A201) (SumsOK.none fun _=>rfl) fun n0 ρ σ K r h=>by
  unfold S201 at h;split at h
  ·rename_i b xs n;split at h
   ·rename_i hc;obtain⟨rfl,hx⟩:=hc;exact⟨_,(loop201 K b xs hx xs.length (Nat.le_refl _)).trans h⟩
   ·contradiction
  ·contradiction
def A201s:Ann:={ A201 with sum:=fun i=>bif Nat.beq i 2 then some S201 else none }
def sW(n:Nat):SV:=one (.sl none tW (words n))
def trimO:Orc:=fun ρ args H cont=>match args,H with
 | [.v false [.sl b (.int .u32) xs]],[]=>if List.length (α:=Int) xs<4000000000000/\okW xs then cont (sW (val xs).toNat) []else none
 | _,_=>none
theorem run201{ρ:Type} (b:Option Bool) (xs:List tW.den) (cont:SV->HL->Option ρ) :
  runF Vz0 A201s 0 Tryz.f139 (bodyOf Tryz.f139) ρ [one (.sl b tW xs)] [] (fun s H=>cont (plSV tW s) H) =
  if(xs.length:Int)=xs.length/\xs.length<4611686018427387904 then
   (if(0:Int)<=0/\(0:Int)<=(trimTo xs xs.length:Nat)/\((trimTo xs xs.length:Nat):Int)<=xs.length then cont (one (.sl none tW (cut xs 0 (trimTo xs xs.length:Nat)))) []else none)else none:=by kernel_rfl
theorem orc201(N:NumSem):OrcOK N Tryz.prog 139 trimO:=
 OrcOK.of_tale (OrcOK.pl (runF_ok (Vz0_ok N) mixT (A:=A201s) (fuel:=0) Tryz.func139 (c:=bodyOf Tryz.f139) (by kernel_rfl) (SumsOK.ofL (ls:=[loopAt Tryz.f139 0]) (by kernel_rfl) ⟨sumL1 (by kernel_rfl) (sum201 N),trivial⟩)) tW) fun ρ args H cont r h=>by
  unfold trimO at h;split at h
  ·rename_i b xs;split at h
   ·rename_i hc;obtain⟨hl,hx⟩:=hc;refine(run201 b xs cont).trans ?_;have hl':(xs:List tW.den).length<4000000000000:=hl;have:=trimTo_le xs xs.length;have e:(cut xs 0 ((trimTo xs xs.length:Nat):Int):List tW.den)=words (val xs).toNat:=by
     have:(cut xs 0 ((trimTo xs xs.length:Nat):Int):List tW.den)=xs.take (trimTo xs xs.length):=by simp [cut]
     rw[this];exact trim_words hx
    rw[if_pos ⟨rfl,by omega⟩,if_pos ⟨by omega,by omega,by omega⟩,e];exact h
   ·contradiction
  ·contradiction
def Mz:Nat->List (Nat × Ty):=fun f=>bif Nat.beq f 139 then [(0,.list tW)]else []
def Vz1:Env:={ T:=tranT,E:=[],Γ:=gamL [(139,trimO)],M:=Mz }
theorem Vz1_ok(N:NumSem):EnvOK N Tryz.prog Vz1:={ T:=TT_ok,E:=fun p hp=>(by cases hp),Γ:=gamC (orc201 N) Tryz.call139 (gamN N _) }
def magO:Orc:=fun ρ args H cont=>match args,H with
 | [.v false [.int .u64 a]],[]=>if 0<=a/\a<18446744073709551616 then cont (sW a.toNat) []else none
 | _,_=>none
theorem run165{ρ:Type} (cont:SV->HL->Option ρ) (a:Int):runF Vz1 Ash 0 Tryz.f131 (bodyOf Tryz.f131) ρ [one (.int .u64 a)] [] (fun s H=>cont (plSV tW s) H) =
  (let l:List Int:=[IntKind.u32.wrap a,IntKind.u32.wrap (a.fdiv (2 ^ min (Int.toNat 32) IntKind.u64.bits))]
   if List.length (α:=Int) l<4000000000000/\okW l then cont (sW (val l).toNat) []else none):=by kernel_rfl
theorem orc165(N:NumSem):OrcOK N Tryz.prog 131 magO:=
 OrcOK.of_tale (OrcOK.pl (runF_ok (Vz1_ok N) mixT (A:=Ash) (fuel:=0) Tryz.func131 (c:=bodyOf Tryz.f131) (by kernel_rfl) (wp_loops (by kernel_rfl))) tW) fun ρ args H cont r h=>by
  unfold magO at h;split at h
  ·rename_i a;split at h
   ·rename_i hc;refine(run165 cont a).trans ?_;have e3:a.fdiv (2 ^ min (Int.toNat 32) IntKind.u64.bits)=a / 4294967296:=by
     rw[show (2:Int) ^ min (Int.toNat 32) IntKind.u64.bits=4294967296 by decide];rw[Int.fdiv_eq_ediv_of_nonneg _ (by decide)]
    rw[e3,IntKind.wrap_u32,IntKind.wrap_u32];simp only [];have hw:okW [a % 4294967296,a / 4294967296 % 4294967296]:=okW_cons.2 ⟨by omega,okW_cons.2 ⟨by omega,fun x hx=>by cases hx⟩⟩;have hv:val [a % 4294967296,a / 4294967296 % 4294967296]=a:=by simp only [val];omega
    rw[if_pos ⟨by simp only [List.length_cons,List.length_nil];omega,hw⟩,hv];exact h
   ·contradiction
  ·contradiction
theorem run78{ρ:Type} (cont:SV->HL->Option ρ) (n:Int):runF Vz0 Ash 0 Tryz.f68 (bodyOf Tryz.f68) ρ [one (.int .i64 n)] [] cont =
  bif decide (n<0)then cont (one (.int .u64 (IntKind.u64.wrap (0-IntKind.u64.wrap n)))) []else cont (one (.int .u64 (IntKind.u64.wrap n))) []:=by kernel_rfl
theorem orc78(N:NumSem):OrcOK N Tryz.prog 68 absO:=
 OrcOK.of_tale (runF_ok (Vz0_ok N) mixT (A:=Ash) (fuel:=0) Tryz.func68 (c:=bodyOf Tryz.f68) (by kernel_rfl) (wp_loops (by kernel_rfl))) fun ρ args H cont r h=>by
  unfold absO at h;split at h
  ·rename_i a;split at h
   ·rename_i hc;refine(run78 cont a).trans ?_;unfold iabs at h
    by_cases hn:a<0
    ·rw[if_pos hn]at h;rw[decide_eq_true hn,cond_true,<- h];congr 3;rw[IntKind.wrap_u64,IntKind.wrap_u64];omega
    ·rw[if_neg hn]at h;rw[decide_eq_false hn,cond_false,<- h];congr 3;rw[IntKind.wrap_u64];omega
   ·contradiction
  ·contradiction
def A77:Ann:={ head:=ptOf [(1,[0,1],[])],out:=ptOf [(1,[0],[])] }
theorem turn77{ρ:Type} (K:Exit->St->Option ρ) (go:St->Option ρ) (a b:Int) :
  turnF Vz0 A77 12 0 0 (loopAt Tryz.f67 0) K go ⟨[(0,one (.int .u64 a)),(1,one (.int .u64 b))],[]⟩ =
  bif b != 0 then(if b=0 then none else go ⟨[(0,one (.int .u64 b)),(1,one (.int .u64 (a.tmod b)))],[]⟩)else K (.exit 0) ⟨[(0,one (.int .u64 a))],[]⟩:=by kernel_rfl
theorem loop77{ρ:Type} (K:Exit->St->Option ρ):∀ (b a:Nat),∃ n,
  itF (turnF Vz0 A77 12 0 0 (loopAt Tryz.f67 0) K) (fun _=>none) n ⟨[(0,one (.int .u64 a)),(1,one (.int .u64 b))],[]⟩=K (.exit 0) ⟨[(0,one (.int .u64 (Nat.gcd a b:Nat)))],[]⟩:=by
 intro b
 induction b using Nat.strongRecOn with
 | _ b ih =>
  intro a;rcases Nat.eq_zero_or_pos b with h0 | h0
  ·refine⟨1,?_⟩;subst h0;rw[itF_succ,turn77];simp only [Int.natCast_zero,bne_self_eq_false,cond_false,Nat.gcd_zero_right]
  ·obtain⟨n,hn⟩:=ih (a % b) (Nat.mod_lt _ h0) b;refine⟨n+1,?_⟩;have hne:((b:Int) != 0)=true:=by rw[bne_iff_ne];omega
   have hmod:Int.tmod (a:Int) (b:Int)=((a % b:Nat):Int):=by rw[Int.tmod_eq_emod_of_nonneg (by omega)];rfl
   rw[itF_succ,turn77,hne,cond_true,if_neg (by omega),hmod,hn,Nat.gcd_comm b,<- Nat.gcd_rec,Nat.gcd_comm]
def S77:Sum:=fun n0 ρ σ K=>match n0,σ with
 | 0,⟨[(0,.v false [.int .u64 a]),(1,.v false [.int .u64 b])],[]⟩=>if 0<=a/\0<=b then K (.exit 0) ⟨[(0,one (.int .u64 (igcd a b)))],[]⟩else none
 | _,_=>none
theorem sum77(N:NumSem):SumOK N Tryz.prog 12 (loopAt Tryz.f67 0) S77:=
 SumOK.of_turns (Vz0_ok N) mixT (A:=A77) (SumsOK.none fun _=>rfl) fun n0 ρ σ K r h=>by
  unfold S77 at h;split at h
  ·rename_i a b;split at h
   ·rename_i hc;obtain⟨a,rfl⟩:=Int.eq_ofNat_of_zero_le hc.1;obtain⟨b,rfl⟩:=Int.eq_ofNat_of_zero_le hc.2;rw[igcd_eq]at h;obtain⟨n,hn⟩:=loop77 K b a;exact⟨n,hn.trans h⟩
   ·contradiction
  ·contradiction
def A77s:Ann:={ A77 with sum:=fun i=>bif Nat.beq i 1 then some S77 else none }
theorem run77{ρ:Type} (cont:SV->HL->Option ρ) (a b:Int):runF Vz0 A77s 0 Tryz.f67 (bodyOf Tryz.f67) ρ [one (.int .u64 a),one (.int .u64 b)] [] cont =
  if 0<=a/\0<=b then cont (one (.int .u64 (igcd a b))) []else none:=by kernel_rfl
theorem orc77(N:NumSem):OrcOK N Tryz.prog 67 gcdO:=
 OrcOK.of_tale (runF_ok (Vz0_ok N) mixT (A:=A77s) (fuel:=0) Tryz.func67 (c:=bodyOf Tryz.f67) (by kernel_rfl)
  (SumsOK.ofL (ls:=[loopAt Tryz.f67 0]) (by kernel_rfl) ⟨sumL1 (by kernel_rfl) (sum77 N),trivial⟩)) fun ρ args H cont r h=>by
  unfold gcdO at h;split at h
  ·rename_i a b;exact(run77 cont a b).trans h
  ·contradiction
def zS(n:Int):SV:=.v true [.bool (decide (n<0)),.sl none tW (words n.natAbs)]
def Vz2:Env:={ T:=tranT,E:=[],Γ:=gamL [(139,trimO),(131,magO),(68,absO),(67,gcdO)],M:=Mz }
theorem Vz2_ok(N:NumSem):EnvOK N Tryz.prog Vz2:={ T:=TT_ok,E:=fun p hp=>(by cases hp),Γ:=gamC (orc201 N) Tryz.call139 (gamC (orc165 N) Tryz.call131 (gamC (orc78 N) Tryz.call68 (gamC (orc77 N) Tryz.call67 (gamN N _)))) }
def zOfO:Orc:=fun ρ args H cont=>match args,H with
 | [.v false [.int .i64 a]],[]=>if -9223372036854775808<=a/\a<9223372036854775808 then cont (zS a) []else none
 | _,_=>none
theorem run132{ρ:Type} (cont:SV->HL->Option ρ) (a:Int):runF Vz2 Ash 0 Tryz.f103 (bodyOf Tryz.f103) ρ [one (.int .i64 a)] [] cont =
  if -9223372036854775808<=a/\a<9223372036854775808 then(if 0<=iabs a/\iabs a<18446744073709551616 then cont (.v true [.bool (decide (a<0)),.sl none tW (words (iabs a).toNat)]) []else none)else none:=by kernel_rfl
theorem orc132(N:NumSem):OrcOK N Tryz.prog 103 zOfO:=
 OrcOK.of_tale (runF_ok (Vz2_ok N) mixT (A:=Ash) (fuel:=0) Tryz.func103 (c:=bodyOf Tryz.f103) (by kernel_rfl) (wp_loops (by kernel_rfl))) fun ρ args H cont r h=>by
  unfold zOfO at h;split at h
  ·rename_i a;split at h
   ·rename_i hc;refine(run132 cont a).trans ?_;rw[if_pos hc,iabs_eq,if_pos (by omega),Int.toNat_natCast];exact h
   ·contradiction
  ·contradiction
def A170:Ann:={ head:=ptOf [(6,[0,1,5],[])],out:=ptOf [(6,[4],[])] }
def σ170(b b':Option Bool) (xs ys:List tW.den) (i:Int):St:=⟨[(0,one (.sl b tW xs)),(1,one (.sl b' tW ys)),(5,one (.int .i64 i))],[]⟩
theorem turn170{ρ:Type} (K:Exit->St->Option ρ) (go:St->Option ρ) (b b':Option Bool) (xs ys:List tW.den) (i:Int) :
  turnF Vz0 A170 41 0 0 (loopAt Tryz.f137 0) K go (σ170 b b' xs ys i) =
  bif decide (0<=i)then
   (if 0<=i then(xs[i.toNat]?).bind fun x=>if 0<=i then(ys[i.toNat]?).bind fun y=>bif (x:Int) != y then
    (if 0<=i then(xs[i.toNat]?).bind fun x=>if 0<=i then(ys[i.toNat]?).bind fun y=>bif decide ((x:Int)<y)then K .ret ⟨[(4,one (.int .i64 (-1)))],[]⟩else K .ret ⟨[(4,one (.int .i64 1))],[]⟩else none else none)
    else go (σ170 b b' xs ys (IntKind.i64.wrap (i-1)))else none else none)
  else K (.exit 0) ⟨[(4,.undef)],[]⟩:=by kernel_rfl
theorem loop170{ρ:Type} (K:Exit->St->Option ρ) (b b':Option Bool) (xs ys:List tW.den) (hx:okW xs) (hy:okW ys) (hl:xs.length=ys.length) (hN:xs.length<4611686018427387904):∀ (m:Nat),m<=xs.length ->
  itF (turnF Vz0 A170 41 0 0 (loopAt Tryz.f137 0) K) (fun _=>none) (m+1) (σ170 b b' xs ys ((m:Int)-1)) =
   if val (xs.take m)<val (ys.take m)then K .ret ⟨[(4,one (.int .i64 (-1)))],[]⟩else if val (ys.take m)<val (xs.take m)then K .ret ⟨[(4,one (.int .i64 1))],[]⟩else K (.exit 0) ⟨[(4,.undef)],[]⟩:=by
 intro m
 induction m with
 | zero =>
  intro _;rw[itF_succ,turn170,show decide (0<=(((0:Nat):Int)-1))=false from rfl,cond_false];simp
 | succ m ih =>
  intro hm;have e0:((m+1:Nat):Int)-1=m:=by omega
  rw[itF_succ,turn170,e0,decide_eq_true (by omega),cond_true];have hm1:m<xs.length:=hm;have hm2:m<ys.length:=by omega
  have hp:0<=(m:Int):=by omega
  simp only [if_pos hp,Int.toNat_natCast,List.getElem?_eq_getElem hm1,List.getElem?_eq_getElem hm2,Option.bind_some];have vx:=val_take_succ (List.getElem?_eq_getElem hm1);have vy:=val_take_succ (List.getElem?_eq_getElem hm2);have bx:=hx _ (List.getElem_mem hm1);have by':=hy _ (List.getElem_mem hm2)
  have tx0:=val_nonneg (okW_take hx m);have ty0:=val_nonneg (okW_take hy m);have tx1:=val_lt (okW_take hx m);have ty1:=val_lt (okW_take hy m);rw[List.length_take,Nat.min_eq_left (by omega)]at tx1 ty1;generalize (xs[m]:Int)=x at *;generalize (ys[m]:Int)=y at *;rw[vx,vy];generalize hA:val (xs.take m)=A at *;generalize hB:val (ys.take m)=B at *;generalize hP:(4294967296:Int) ^ m=P at *;have hP0:0<P:=by rw[<- hP];exact Int.pow_pos (by decide)
  have mono:∀ u v:Int,u<v->P*u+P<=P*v:=fun u v h=>by
   have:=Int.mul_le_mul_of_nonneg_left (show u+1<=v by omega) (Int.le_of_lt hP0);rw[Int.mul_add,Int.mul_one]at this;exact this
  by_cases h0:x=y
  ·subst h0;rw[bne_self_eq_false,cond_false];have e1:IntKind.i64.wrap ((m:Int)-1)=(m:Int)-1:=by rw[IntKind.wrap_i64];omega
   rw[e1,ih (by omega)];have q1:(A+P*x<B+P*x) ↔ A<B:=by omega
   have q2:(B+P*x<A+P*x) ↔ B<A:=by omega
   simp only [q1,q2]
  ·rw[bne_iff_ne.2 h0,cond_true]
   by_cases h1:x<y
   ·rw[decide_eq_true h1,cond_true];have:=mono x y h1;rw[if_pos (show A+P*x<B+P*y by omega)]
   ·rw[decide_eq_false h1,cond_false];have h2:(y:Int)<x:=Int.lt_iff_le_and_ne.2 ⟨Int.not_lt.1 h1,fun e=>h0 e.symm⟩;have:=mono y x h2;rw[if_neg (show ¬ (A+P*x<B+P*y)by omega),if_pos (show B+P*y<A+P*x by omega)]
def S170:Sum:=fun n0 ρ σ K=>match n0,σ with
 | 0,⟨[(0,.v false [.sl b (.int .u32) xs]),(1,.v false [.sl b' (.int .u32) ys]),(5,.v false [.int .i64 i])],[]⟩ =>
  if i=(xs.length:Int)-1/\xs.length=ys.length/\xs.length<4611686018427387904/\okW xs/\okW ys then
   (if val xs<val ys then K .ret ⟨[(4,one (.int .i64 (-1)))],[]⟩else if val ys<val xs then K .ret ⟨[(4,one (.int .i64 1))],[]⟩else K (.exit 0) ⟨[(4,.undef)],[]⟩)else none
 | _,_=>none
theorem sum170(N:NumSem):SumOK N Tryz.prog 41 (loopAt Tryz.f137 0) S170:=
 SumOK.of_turns (Vz0_ok N) mixT (A:=A170) (SumsOK.none fun _=>rfl) fun n0 ρ σ K r h=>by
  unfold S170 at h;split at h
  ·rename_i b xs b' ys i;split at h
   ·rename_i hc;obtain⟨rfl,hl,hz,hx,hy⟩:=hc;have h1:=loop170 K b b' xs ys hx hy hl hz xs.length (Nat.le_refl _);rw[List.take_length,hl,List.take_length,<- hl]at h1;exact⟨_,h1.trans h⟩
   ·contradiction
  ·contradiction
def A170s:Ann:={ A170 with sum:=fun i=>bif Nat.beq i 6 then some S170 else none }
def cmpV(a b:Int):Int:=if a<b then -1 else if b<a then 1 else 0
def magCmpO:Orc:=fun ρ args H cont=>match args,H with
 | [.v false [.sl b (.int .u32) xs],.v false [.sl b' (.int .u32) ys]],[] =>
  if List.length (α:=Int) xs<1000000000000/\List.length (α:=Int) ys<1000000000000/\canon xs/\canon ys then cont (one (.int .i64 (cmpV (val xs) (val ys)))) []else none
 | _,_=>none
theorem run170{ρ:Type} (b b':Option Bool) (xs ys:List tW.den) (cont:SV->HL->Option ρ):runF Vz0 A170s 0 Tryz.f137 (bodyOf Tryz.f137) ρ [one (.sl b tW xs),one (.sl b' tW ys)] [] cont =
  bif (xs.length:Int) != ys.length then(bif decide ((xs.length:Int)<ys.length)then cont (one (.int .i64 (-1))) []else cont (one (.int .i64 1)) [])
  else(if IntKind.i64.wrap ((xs.length:Int)-1)=(xs.length:Int)-1/\xs.length=ys.length/\xs.length<4611686018427387904/\okW xs/\okW ys then
   (if val xs<val ys then cont (one (.int .i64 (-1))) []else if val ys<val xs then cont (one (.int .i64 1)) []else cont (one (.int .i64 0)) [])else none):=by kernel_rfl
theorem canon_ok{xs:List Int} (h:canon xs):okW xs:=by rw[h];exact words_ok _
theorem canon_ex{xs:List Int} (h:canon xs):∃ n:Nat,xs=words n:=⟨_,h⟩
theorem orc170(N:NumSem):OrcOK N Tryz.prog 137 magCmpO:=
 OrcOK.of_tale (runF_ok (Vz0_ok N) mixT (A:=A170s) (fuel:=0) Tryz.func137 (c:=bodyOf Tryz.f137) (by kernel_rfl)
  (SumsOK.ofL (ls:=[loopAt Tryz.f137 0]) (by kernel_rfl) ⟨sumL1 (by kernel_rfl) (sum170 N),trivial⟩)) fun ρ args H cont r h=>by
  unfold magCmpO at h;split at h
  ·rename_i b xs b' ys;split at h
   ·rename_i hc;obtain⟨h1,h2,hx,hy⟩:=hc;obtain⟨m,hm⟩:=canon_ex hx;obtain⟨n,hn⟩:=canon_ex hy;have hm':(xs:List tW.den)=words m:=hm;have hn':(ys:List tW.den)=words n:=hn;refine(run170 b b' xs ys cont).trans (Eq.trans ?_ h);have hvx:val xs=m:=by rw[hm,val_words]
    have hvy:val ys=n:=by rw[hn,val_words]
    have l1:(xs:List tW.den).length=(words m).length:=by rw[hm']
    have l2:(ys:List tW.den).length=(words n).length:=by rw[hn']
    have h1':(xs:List tW.den).length<1000000000000:=h1;have h2':(ys:List tW.den).length<1000000000000:=h2;rw[hvx,hvy];unfold cmpV
    by_cases hl:(xs:List tW.den).length=(ys:List tW.den).length
    ·rw[hl,bne_self_eq_false,cond_false,if_pos ⟨by rw[IntKind.wrap_i64];omega,rfl,by omega,canon_ok hx,canon_ok hy⟩];split
     ·rfl
     ·split <;> rfl
    ·have hb:(((xs:List tW.den).length:Int) != (ys:List tW.den).length)=true:=by rw[bne_iff_ne];omega
     rw[hb,cond_true];rcases Nat.lt_or_ge m n with hlt | hge
     ·have:=words_mono (Nat.le_of_lt hlt);rw[decide_eq_true (by omega),cond_true,if_pos (by omega)]
     ·have:=words_mono hge;rw[decide_eq_false (by omega),cond_false,if_neg (by omega)];have hne:m≠n:=fun e=>hl (by rw[l1,l2,e])
      rw[if_pos (by omega)]
   ·contradiction
  ·contradiction
end Go.Abs

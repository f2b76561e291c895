/-
 A PART OF THE PROOF of ClI (texts MagU BigA BigB): the claim itself stands in the last text. No conditions beside those of the given row.
-/
import Derived.Test.YtjefeldkonejcaaGreatMagR
set_option linter.unusedVariables false
set_option linter.unnecessarySimpa false
set_option linter.unusedSimpArgs false
namespace Go.Abs
open Go.Proofs
set_option maxRecDepth 100000
def canon(xs:List Int):Prop:=xs=words (val xs).toNat
instance (xs:List Int):Decidable (canon xs):=by unfold canon;infer_instance
theorem canon_words(n:Nat):canon (words n):=by
 unfold canon;rw[val_words,Int.toNat_natCast]
theorem trimTo_append:∀ (A B:List Int) (k:Nat),k<=A.length->trimTo (A++B) k=trimTo A k
 | A,B,0,_=>rfl
 | A,B,k+1,h=>by
  unfold trimTo;rw[List.getElem?_append_left (by omega),trimTo_append A B k (by omega)]
theorem words_len_ge{a n:Nat} (hn:(words a).length=n+1):4294967296 ^ n<=a:=by
 rcases Nat.lt_or_ge a (4294967296 ^ n)with h | h
 ·have:=words_length h;omega
 ·exact h
theorem words_lt(a:Nat):a<4294967296 ^ (words a).length:=by
 have h:=val_lt (words_ok a);rw[val_words]at h;have:((4294967296 ^ (words a).length:Nat):Int)=4294967296 ^ (words a).length:=by simp
 omega
theorem shZ_small{s:Nat} (hs:s<=31) (xs:List Int):shZ s xs=shL (2 ^ s) 0 xs:=by
 unfold shZ;have e1:((s:Int) / 32).toNat=0:=by omega
 have e2:((s:Int) % 32).toNat=s:=by omega
 rw[e1,e2];rfl
theorem pow_pos32(k:Nat):(0:Int)<4294967296 ^ k:=Int.pow_pos (by omega)
structure Long (a b:Nat) (x:Int) (s:Nat):Prop where
 s31:s<=31
 lo:2147483648<=x*2 ^ s
 hi:x*2 ^ s<4294967296
 top:(words b)[(words b).length-1]? = some x
 two:2<=(words b).length
 le:b<=a
section
variable {a b:Nat} {x:Int} {s:Nat}
theorem Long.pa(h:Long a b x s) (c:Nat):val (shZ s (words c))=((2 ^ s*c:Nat):Int):=by
 rw[shZ_small h.s31,shL_val,val_words,Int.zero_add];simp
theorem Long.ok(h:Long a b x s) (c:Nat):okW (shZ s (words c)):=by
 rw[shZ_small h.s31];have:(2:Nat) ^ s<=2 ^ 31:=Nat.pow_le_pow_right (by omega) h.s31;refine shL_ok _ (Int.pow_pos (by omega)) ?_ 0 _ (words_ok c) (by omega) (Int.pow_pos (by omega));rw[show (2:Int) ^ s=((2 ^ s:Nat):Int)by simp];omega
theorem Long.len(h:Long a b x s) (c:Nat):(shZ s (words c)).length=(words c).length+1:=by
 rw[shZ_small h.s31,shL_length]
theorem Long.trim(h:Long a b x s) (c:Nat):(shZ s (words c)).take (trimTo (shZ s (words c)) (shZ s (words c)).length)=words (2 ^ s*c):=by
 rw[trim_words (h.ok c),h.pa c,Int.toNat_natCast]
theorem Long.trimLen(h:Long a b x s) (c:Nat):trimTo (shZ s (words c)) (shZ s (words c)).length=(words (2 ^ s*c)).length:=by
 have e:=congrArg List.length (h.trim c);rw[List.length_take,Nat.min_eq_left (trimTo_le _ _)]at e;exact e
theorem Long.p1(h:Long a b x s):1<=2 ^ s:=Nat.one_le_two_pow
theorem Long.lenGe(h:Long a b x s) (c:Nat):(words c).length<=(words (2 ^ s*c)).length:=
 words_mono (Nat.le_mul_of_pos_left c h.p1)
theorem Long.lenLe(h:Long a b x s) (c:Nat):(words (2 ^ s*c)).length<=(words c).length+1:=by
 rw[<- h.trimLen c,<- h.len c];exact trimTo_le _ _
theorem Long.bval(h:Long a b x s):∃ lo:Nat,b=lo+4294967296 ^ ((words b).length-1)*x.toNat/\lo<4294967296 ^ ((words b).length-1)/\0<x/\x<4294967296:=by
 have hx:=okW_get (words_ok b) h.top;have h2:=h.two;have hs:=val_split (words b) (n:=(words b).length-1) (by omega);have hd:=val_drop (words b) (n:=(words b).length-1) (by omega);have hlo:=okW_val_take (words_ok b) (k:=(words b).length-1) (by omega);have hg:(words b).getD ((words b).length-1) 0=x:=by rw[List.getD_eq_getElem?_getD,h.top];rfl
 rw[show (words b).drop ((words b).length-1+1)=[]from List.drop_eq_nil_of_le (by omega),hg]at hd;rw[hd,val_words]at hs;simp only [val,Int.mul_zero,Int.add_zero]at hs;obtain⟨lo,hl⟩:=Int.eq_ofNat_of_zero_le hlo.1;obtain⟨y,rfl⟩:=Int.eq_ofNat_of_zero_le hx.1;rw[hl]at hs hlo;have hpos:0<(y:Int):=by
  rcases Nat.eq_zero_or_pos y with h0 | h0
  ·exfalso;have:=h.lo;rw[h0]at this;simp at this
  ·omega
 refine⟨lo,?_,?_,hpos,hx.2⟩
 ·rw[Int.toNat_natCast];have e:((4294967296 ^ ((words b).length-1)*y:Nat):Int)=4294967296 ^ ((words b).length-1)*(y:Int):=by simp
  omega
 ·have e:((4294967296 ^ ((words b).length-1):Nat):Int)=4294967296 ^ ((words b).length-1):=by simp
  omega
theorem Long.vlen(h:Long a b x s):(words (2 ^ s*b)).length=(words b).length:=by
 refine Nat.le_antisymm ?_ (h.lenGe b);obtain⟨lo,h1,h2,h3,h4⟩:=h.bval;refine words_length ?_;have h5:=h.hi;obtain⟨y,rfl⟩:=Int.eq_ofNat_of_zero_le (Int.le_of_lt h3);rw[Int.toNat_natCast]at h1;have h6:y*2 ^ s+1<=4294967296:=by
  have e:((y*2 ^ s:Nat):Int)=(y:Int)*2 ^ s:=by simp
  omega
 have hn:=h.two;generalize hk:(words b).length=k at *;obtain⟨m,rfl⟩:∃ m,k=m+1:=⟨k-1,by omega⟩;simp only [Nat.add_sub_cancel]at h1 h2;have h7:y*2 ^ s+2 ^ s<=4294967296:=by
  have e32:4294967296=2 ^ (32-s)*2 ^ s:=by rw[<- Nat.pow_add,show 32-s+s=32 by have:=h.s31;omega]
  rw[e32]at h6 ⊢;rw[<- Nat.succ_mul];refine Nat.mul_le_mul_right _ ?_;have:y*2 ^ s<2 ^ (32-s)*2 ^ s:=h6;exact Nat.lt_of_mul_lt_mul_right this
 have e:2 ^ s*b=2 ^ s*lo+4294967296 ^ m*(y*2 ^ s):=by
  rw[h1,Nat.mul_add,Nat.mul_comm (2 ^ s) (4294967296 ^ m*y),Nat.mul_assoc]
 have h8:2 ^ s*lo<2 ^ s*4294967296 ^ m:=Nat.mul_lt_mul_of_pos_left h2 h.p1;have h9:4294967296 ^ m*(y*2 ^ s+2 ^ s)<=4294967296 ^ m*4294967296:=Nat.mul_le_mul_left _ h7;rw[Nat.mul_add,Nat.mul_comm (4294967296 ^ m) (2 ^ s)]at h9;rw[Nat.pow_succ];omega
theorem Long.T(h:Long a b x s):2147483648<=(words (2 ^ s*b)).getD ((words b).length-1) 0:=by
 have h2:=h.two;have hv:=h.vlen;have hs:=val_split (words (2 ^ s*b)) (n:=(words b).length-1) (by omega);have hd:=val_drop (words (2 ^ s*b)) (n:=(words b).length-1) (by omega);have hlo:=okW_val_take (words_ok (2 ^ s*b)) (k:=(words b).length-1) (by omega);rw[show (words (2 ^ s*b)).drop ((words b).length-1+1)=[]from List.drop_eq_nil_of_le (by omega)]at hd;rw[hd,val_words]at hs;simp only [val,Int.mul_zero,Int.add_zero]at hs;obtain⟨lo,h1,h3,h4,h5⟩:=h.bval;obtain⟨y,rfl⟩:=Int.eq_ofNat_of_zero_le (Int.le_of_lt h4);rw[Int.toNat_natCast]at h1;have hlo2:=h.lo;generalize (words (2 ^ s*b)).getD ((words b).length-1) 0=T at *;generalize (words b).length-1=m at *;have e:((2 ^ s*b:Nat):Int)=2 ^ s*lo+4294967296 ^ m*(y*2 ^ s):=by
  have e0:2 ^ s*b=2 ^ s*lo+4294967296 ^ m*(y*2 ^ s):=by
   rw[h1,Nat.mul_add,Nat.mul_comm (2 ^ s) (4294967296 ^ m*y),Nat.mul_assoc]
  rw[e0];simp
 have e2:(0:Int)<=2 ^ s*lo:=Int.mul_nonneg (Int.le_of_lt (Int.pow_pos (by omega))) (by omega);have e3:4294967296 ^ m*2147483648<=4294967296 ^ m*((y:Int)*2 ^ s):=Int.mul_le_mul_of_nonneg_left hlo2 (Int.le_of_lt (pow_pos32 m));rcases Int.lt_or_le T 2147483648 with hl | hl
 ·exfalso;have:4294967296 ^ m*(T+1)<=4294967296 ^ m*2147483648:=Int.mul_le_mul_of_nonneg_left (by omega) (Int.le_of_lt (pow_pos32 m));rw[Int.mul_add,Int.mul_one]at this;omega
 ·exact hl
theorem Long.up(h:Long a b x s):okW (upZ (words a) (shZ s (words a)) (words (2 ^ s*a)).length)/\(upZ (words a) (shZ s (words a)) (words (2 ^ s*a)).length).length=(words a).length+1 /\
  val (upZ (words a) (shZ s (words a)) (words (2 ^ s*a)).length)=((2 ^ s*a:Nat):Int):=by
 unfold upZ;have ht:=h.trim a;rw[h.trimLen a]at ht;split
 ·rename_i hk;refine⟨okW_append (okW_take (h.ok a) _) (by simp [okW]),?_,?_⟩
  ·rw[ht,List.length_append,hk];rfl
  ·rw[val_append,ht,val_words];simp [val]
 ·exact⟨h.ok a,h.len a,h.pa a⟩
theorem Long.out(h:Long a b x s) {d:List Int × List Int}
  (hd:d=divGo (words (2 ^ s*b)) ((words a).length+1-(words b).length) (upZ (words a) (shZ s (words a)) (words (2 ^ s*a)).length) (List.replicate ((words a).length+1-(words b).length) 0)) :
  val (List.drop ((words a).length+1-(words b).length) (upZ (words a) (shZ s (words a)) (words (2 ^ s*a)).length))<val (words (2 ^ s*b)) /\
  okW d.1/\d.1.length=(words a).length+1/\okW d.2/\d.2.length=(words a).length+1-(words b).length/\val d.2=((a / b:Nat):Int)/\val d.1=((2 ^ s*(a % b):Nat):Int):=by
 obtain⟨u1,u2,u3⟩:=h.up;have hba:(words b).length<=(words a).length:=words_mono h.le;have h2:=h.two;have hT:=h.T;generalize upZ (words a) (shZ s (words a)) (words (2 ^ s*a)).length=U at *;have hv:=words_ok (2 ^ s*b);have hvl:=h.vlen;have hpre:val (List.drop ((words a).length+1-(words b).length) U)<val (words (2 ^ s*b)):=by
  have e1:=val_split U (n:=(words a).length+1-(words b).length) (by omega);have e2:=val_nonneg (okW_take u1 ((words a).length+1-(words b).length));have e3:=val_split (words (2 ^ s*b)) (n:=(words b).length-1) (by omega);have e4:=val_nonneg (okW_take hv ((words b).length-1));have e5:=val_drop (words (2 ^ s*b)) (n:=(words b).length-1) (by omega);rw[show (words (2 ^ s*b)).drop ((words b).length-1+1)=[]from List.drop_eq_nil_of_le (by omega)]at e5;simp only [val,Int.mul_zero,Int.add_zero]at e5;rw[e5]at e3;rw[u3]at e1;have ha:=words_lt a;have hp:(2:Nat) ^ s<=2147483648:=Nat.pow_le_pow_right (by omega) h.s31;have e6:((2 ^ s*a:Nat):Int)<2147483648*4294967296 ^ (words a).length:=by
   have:2 ^ s*a<2147483648*4294967296 ^ (words a).length:=Nat.lt_of_le_of_lt (Nat.mul_le_mul_right a hp) (Nat.mul_lt_mul_of_pos_left ha (by omega));have e:((2147483648*4294967296 ^ (words a).length:Nat):Int)=2147483648*4294967296 ^ (words a).length:=by simp
   omega
  have e7:(4294967296:Int) ^ (words a).length=4294967296 ^ ((words a).length+1-(words b).length)*4294967296 ^ ((words b).length-1):=by
   rw[<- Int.pow_add];congr 1;omega
  have e8:4294967296 ^ ((words b).length-1)*2147483648<=4294967296 ^ ((words b).length-1)*(words (2 ^ s*b)).getD ((words b).length-1) 0:=Int.mul_le_mul_of_nonneg_left hT (Int.le_of_lt (pow_pos32 _));generalize val (List.drop ((words a).length+1-(words b).length) U)=D at *;rcases Int.lt_or_le D (val (words (2 ^ s*b)))with hl | hl
  ·exact hl
  ·exfalso;have hD:4294967296 ^ ((words b).length-1)*2147483648<=D:=by omega
   have:4294967296 ^ ((words a).length+1-(words b).length)*(4294967296 ^ ((words b).length-1)*2147483648)<=4294967296 ^ ((words a).length+1-(words b).length)*D:=Int.mul_le_mul_of_nonneg_left hD (Int.le_of_lt (pow_pos32 _));rw[<- Int.mul_assoc,<- e7,Int.mul_comm]at this;omega
 refine⟨hpre,?_⟩;have hgo:=divGo_ok (vs:=words (2 ^ s*b)) (L:=(words a).length+1) hv (by omega) (by rw[hvl];exact hT) ((words a).length+1-(words b).length) (us:=U) (qs:=List.replicate ((words a).length+1-(words b).length) 0) u1 u2 (by omega) hpre (okW_zero _) (by simp) (fun i hi=>by
  rw[List.getD_eq_getElem?_getD,List.getElem?_replicate];split <;> rfl)
 rw[<- hd]at hgo;obtain⟨g1,g2,g3,g4,g5,g6⟩:=hgo;rw[u3,val_zero,Int.mul_zero,Int.add_zero]at g6;rw[val_words]at g5 g6;have hd0:=val_nonneg g1;have hq0:=val_nonneg g3;obtain⟨R,hR⟩:=Int.eq_ofNat_of_zero_le hd0;obtain⟨Q,hQ⟩:=Int.eq_ofNat_of_zero_le hq0;rw[hR]at g5 g6 ⊢;rw[hQ]at g6 ⊢;have g7:R+2 ^ s*b*Q=2 ^ s*a:=by
  have e:((2 ^ s*b*Q:Nat):Int)=((2 ^ s*b:Nat):Int)*(Q:Int):=by simp
  omega
 have hb:0<b:=by
  rcases Nat.eq_zero_or_pos b with h0 | h0
  ·rw[h0]at h2;simp [words,wordsF]at h2
  ·exact h0
 have hpb:0<2 ^ s*b:=Nat.mul_pos h.p1 hb;have hQe:Q=a / b:=by
  have e1:(2 ^ s*a) / (2 ^ s*b)=Q:=by
   rw[<- g7,Nat.add_mul_div_left _ _ hpb,Nat.div_eq_of_lt (by omega),Nat.zero_add]
  rw[<- e1,Nat.mul_div_mul_left _ _ h.p1]
 have hRe:R=2 ^ s*(a % b):=by
  have e1:(2 ^ s*a) % (2 ^ s*b)=R:=by
   rw[<- g7,Nat.add_mul_mod_self_left,Nat.mod_eq_of_lt (by omega)]
  rw[<- e1,Nat.mul_mod_mul_left]
 exact⟨g1,g2,g3,by simpa using g4,by rw[hQe],by rw[hRe]⟩
end
def divMagO:Orc:=fun ρ args H cont=>match args,H with
 | [.v false [.sl b (.int .u32) xs],.v false [.sl b' (.int .u32) ys]],[] =>
  if canon xs/\canon ys/\xs.length<10000000000/\ys.length<10000000000/\0<val ys then
   cont (.tup [(false,[.sl none tW (words ((val xs).toNat / (val ys).toNat))]),(false,[.sl none tW (words ((val xs).toNat % (val ys).toNat))])]) []else none
 | _,_=>none
theorem orc233(N:NumSem):OrcOK N Tryz.prog 193 divMagO:=
 OrcOK.of_tale (OrcOK.pl (runF_ok (V6_ok N) mixT (A:=A233s) (fuel:=0) Tryz.func193 (c:=bodyOf Tryz.f193) (by kernel_rfl)
  (SumsOK.ofL (ls:=[loopAt Tryz.f193 0,loopAt Tryz.f193 1,loopAt Tryz.f193 2,loopAt Tryz.f193 3]) (by kernel_rfl)
   ⟨sumL1 (by kernel_rfl) (sum233a N),sumL1 (by kernel_rfl) (sum233c N),sumL1 (by kernel_rfl) (sum233b N),sumL1 (by kernel_rfl) (sum233d N),trivial⟩)) tW) fun ρ args H cont r h=>by
  unfold divMagO at h;split at h
  ·rename_i b0 xs b1 ys;split at h
   ·rename_i hc;obtain⟨cx,cy,lx,ly,hb⟩:=hc;generalize ha':(val xs).toNat=a at *;generalize hb':(val ys).toNat=b at *;unfold canon at cx cy;rw[ha']at cx;rw[hb']at cy;have hxs:(xs:List tW.den)=words a:=cx;have hys:(ys:List tW.den)=words b:=cy;subst hxs hys;rw[val_words]at ha' hb' hb;clear ha' hb' cx cy;have hb0:0<b:=by omega
    refine(run233 ρ (fun s H'=>cont (plSV tW s) H') b0 b1 (words a) (words b)).trans ?_;have lx':(words a).length<10000000000:=lx;have ly':(words b).length<10000000000:=ly;rw[if_pos ⟨by omega,by omega,words_ok a,words_ok b⟩];obtain⟨c1,c2⟩:=cmpR_words a b
    by_cases hlt:a<b
    ·rw[decide_eq_true (c1.2 hlt),cond_true];have el:(([]:List tW.den)).length=0:=rfl;have el2:List.length (α:=tW.den) (words a)=(words a).length:=rfl;simp only [el,el2];rw[if_pos (by omega),<- h,Nat.div_eq_of_lt hlt,Nat.mod_eq_of_lt hlt];rfl
    ·rw[decide_eq_false (fun e=>hlt (c1.1 e)),cond_false];have hle:b<=a:=by omega
     have hba:(words b).length<=(words a).length:=words_mono hle
     by_cases h1:(words b).length=1
     ·have h1':List.length (α:=tW.den) (words b)=1:=h1;rw[h1',show (((1:Nat):Int)==1)=true from rfl,cond_true];obtain⟨y,hy⟩:∃ y,words b=[y]:=List.length_eq_one_iff.1 h1;have hyv:(y:Int)=b:=by
       have:=val_words b;rw[hy]at this
       simpa [val] using this
      have hyb:y<4294967296:=(words_ok b y (by rw[hy];simp)).2;have e1:(words b:List tW.den)[Int.toNat 0]? = some y:=by
       show (words b)[0]? = some y;rw[hy];rfl
      rw[e1,Option.bind_some];rw[if_pos ⟨by show (words a).length<_;omega,words_ok a,by rw[hyv];omega,hyb⟩];have e2:val (words a) % (y:Int)=((a % b:Nat):Int):=by rw[val_words,hyv];simp
      have e3:(val (words a) / (y:Int)).toNat=a / b:=by rw[val_words,hyv,<- Int.natCast_ediv,Int.toNat_natCast]
      have e4:(List.take (trimTo [val (words a) % (y:Int)] [val (words a) % (y:Int)].length) (List.drop 0 [val (words a) % (y:Int)]))=words (a % b):=by
       rw[List.drop_zero];have hyb':0<(y:Int):=by omega
       have hm:=Int.emod_lt_of_pos (val (words a)) hyb';have hm0:=Int.emod_nonneg (val (words a)) (b:=(y:Int)) (by omega);rw[trim_words (by rw[okW_cons];exact⟨⟨hm0,by omega⟩,by simp [okW]⟩)];congr 1;simp only [val,Int.mul_zero,Int.add_zero];rw[e2,Int.toNat_natCast]
      rw[<- h];show cont (.tup [(false,[.sl none tW (words (val (words a) / (y:Int)).toNat)]),(false,[.sl none tW (List.take (trimTo [val (words a) % (y:Int)] [val (words a) % (y:Int)].length) (List.drop 0 [val (words a) % (y:Int)]))])]) []=_;rw[e3,e4]
     ·have h1':((List.length (α:=tW.den) (words b):Int)==1)=false:=by
       have:((words b).length:Int)≠1:=by omega
       exact beq_eq_false_iff_ne.2 this
      have hn0:0<(words b).length:=by
       rw[words_eq,if_neg (by omega)];simp
      rw[h1',cond_false];have hi0:IntKind.i64.wrap ((List.length (α:=tW.den) (words b):Int)-1)=(((words b).length-1:Nat):Int):=by
       rw[show (List.length (α:=tW.den) (words b):Int)=((words b).length:Int)from rfl,i64_nat] <;> omega
      simp only [hi0,Int.toNat_natCast];obtain⟨x,hx⟩:∃ x:Int,(words b)[(words b).length-1]? = some x:=⟨_,List.getElem?_eq_getElem (by omega)⟩;have hx':(words b:List tW.den)[(words b).length-1]? = some x:=hx;have hxb:=okW_get (words_ok b) hx;have hxp:0<x:=by
       have ht:=val_split (words b) (n:=(words b).length-1) (by omega);have hd:=val_drop (words b) (n:=(words b).length-1) (by omega);rw[show (words b).drop ((words b).length-1+1)=[]from List.drop_eq_nil_of_le (by omega),show (words b).getD ((words b).length-1) 0=x by rw[List.getD_eq_getElem?_getD,hx];rfl]at hd;rcases Int.lt_or_le 0 x with h | h
       ·exact h
       ·exfalso;have hx0:x=0:=by omega
        rw[hd,hx0]at ht;simp only [val,Int.mul_zero,Int.add_zero]at ht;have h3:=words_len_ge (a:=b) (n:=(words b).length-1) (by omega);have h4:=okW_val_take (words_ok b) (k:=(words b).length-1) (by omega);rw[<- ht,val_words]at h4;have e:((4294967296 ^ ((words b).length-1):Nat):Int)=4294967296 ^ ((words b).length-1):=by simp
        omega
      obtain⟨s,hs1,hs2,hs3,hs4⟩:=lz_ok x hxp hxb.2;have L:Long a b x s:=⟨hs2,hs3,hs4,hx,by omega,hle⟩;rw[if_pos (by omega),hx',Option.bind_some,if_pos ⟨hxp,hxb.2⟩];have hsw:IntKind.u64.wrap (lz x)=s:=by rw[hs1,u64_id] <;> omega
      simp only [hsw];have ll:∀ c,List.length (α:=tW.den) (words c)=(words c).length:=fun _=>rfl
      have lu:∀ c,List.length (α:=tW.den) (shZ s (words c))=(words c).length+1:=fun c=>L.len c
      rw[if_pos ⟨words_ok a,by rw[ll];omega,by omega,by omega⟩,if_pos ⟨words_ok b,by rw[ll];omega,by omega,by omega⟩];have tr:∀ c,trimTo (shZ s (words c)) (shZ s (words c)).length=(words (2 ^ s*c)).length:=L.trimLen;have tr':∀ c,trimTo (shZ s (words c)) (List.length (α:=tW.den) (shZ s (words c)))=(words (2 ^ s*c)).length:=L.trimLen;have hva:=L.lenGe a;have hva':=L.lenLe a;rw[tr' a,if_pos ⟨trivial,by rw[lu];exact hva',lu a,by rw[ll];omega,by rw[ll];omega⟩,if_pos (by omega)];have hvs:(List.take (trimTo (shZ s (words b)) (shZ s (words b)).length) (List.drop 0 (shZ s (words b))):List Int)=words (2 ^ s*b):=by
       rw[List.drop_zero];exact L.trim b
      have hvs':(List.take (trimTo (shZ s (words b)) (shZ s (words b)).length) (List.drop 0 (shZ s (words b))):List tW.den)=words (2 ^ s*b):=hvs;simp only [hvs'];have hvl:=L.vlen;obtain⟨t,ht⟩:∃ t:Int,(words (2 ^ s*b))[(words b).length-1]? = some t:=⟨_,List.getElem?_eq_getElem (by omega)⟩;have ht':(words (2 ^ s*b):List tW.den)[(words b).length-1]? = some t:=ht;have htb:=okW_get (words_ok _) ht;have htg:(words (2 ^ s*b)).getD ((words b).length-1) 0=t:=by rw[List.getD_eq_getElem?_getD,ht];rfl
      rw[ht',Option.bind_some];have hl:IntKind.i64.wrap (((List.length (α:=tW.den) (words a)+1:Nat):Int)-List.length (α:=tW.den) (words b))=(((words a).length+1-(words b).length:Nat):Int):=by
       rw[ll,ll,i64_nat] <;> omega
      have hj:IntKind.i64.wrap ((((words a).length+1-(words b).length:Nat):Int)-1)+1=(((words a).length+1-(words b).length:Nat):Int):=by
       rw[i64_nat] <;> omega
      simp only [hl,hj,Int.toNat_natCast];rw[if_pos (by omega)];obtain⟨u1,u2,u3⟩:=L.up;generalize hd:divGo (words (2 ^ s*b)) ((words a).length+1-(words b).length) (upZ (words a) (shZ s (words a)) (words (2 ^ s*a)).length) (List.replicate ((words a).length+1-(words b).length) 0)=d;obtain⟨o1,o2,o3,o4,o5,o6,o7⟩:=L.out hd.symm;have hT:=L.T;have lv:List.length (α:=tW.den) (words (2 ^ s*b))=(words b).length:=hvl;have l2:=L.two;rw[if_pos ⟨trivial,trivial,by rw[ll,lv],by rw[lv];exact l2,by rw[lv];omega,by rw[ll];omega,by rw[ll];exact u2.symm,words_ok _,u1,by rw[lv];exact hT,by rw[lv,htg,u64_id t htb.1 (Int.lt_trans htb.2 (by omega))],by omega,
       by rw[lv,ll];omega,o1,by show _<=(List.replicate _ (0:Int)).length;rw[List.length_replicate];exact Nat.le_refl _⟩]
      have ld1:List.length (α:=tW.den) d.1=(words a).length+1:=o3;have ld2:List.length (α:=tW.den) d.2=(words a).length+1-(words b).length:=o5;have hb1:(Nat.blt (List.length (α:=tW.den) d.1) 4611686018427387904&&Nat.ble (List.length (α:=tW.den) (words a)+1) (List.length (α:=tW.den) d.1))=true:=by
       rw[ld1,ll,Bool.and_eq_true];exact⟨Nat.ble_eq_true_of_le (by omega),Nat.ble_eq_true_of_le (Nat.le_refl _)⟩
      rw[hb1,cond_true];have k1:trimTo d.1 (List.length (α:=tW.den) (words a)+1)=(words (2 ^ s*(a % b))).length:=by
       rw[ll,<- o3];have e:=congrArg List.length (trim_words o2);rw[List.length_take,Nat.min_eq_left (trimTo_le _ _),o7,Int.toNat_natCast]at e;exact e
      have k1t:List.take (words (2 ^ s*(a % b))).length d.1=words (2 ^ s*(a % b)):=by
       rw[<- k1,ll,<- o3,trim_words o2,o7,Int.toNat_natCast]
      have k1le:(words (2 ^ s*(a % b))).length<=(words a).length+1:=by
       rw[<- k1,ll];exact trimTo_le _ _
      rw[k1,if_pos ⟨trivial,trivial,trivial,trivial,by omega,by omega,by omega,by rw[ld1];exact k1le,o2⟩];have hb2:Nat.blt (List.length (α:=tW.den) d.2) 4611686018427387904=true:=Nat.ble_eq_true_of_le (by rw[ld2];omega);rw[hb2,cond_true];have k1t':(List.take (words (2 ^ s*(a % b))).length d.1:List tW.den)=words (2 ^ s*(a % b)):=k1t;rw[k1t'];generalize hz3:(shrL (2 ^ s) (words (2 ^ s*(a % b)))++List.drop (words (2 ^ s*(a % b))).length d.1:List Int)=z3;have lsh:(shrL (2 ^ s) (words (2 ^ s*(a % b)))).length=(words (2 ^ s*(a % b))).length:=shrL_length _ _;have lz3:z3.length=(words a).length+1:=by
       rw[<- hz3,List.length_append,lsh,List.length_drop,o3];omega
      have hb3:(Nat.blt (List.length (α:=tW.den) z3) 4611686018427387904&&Nat.ble (words (2 ^ s*(a % b))).length (List.length (α:=tW.den) z3))=true:=by
       have:List.length (α:=tW.den) z3=(words a).length+1:=lz3;rw[this,Bool.and_eq_true];exact⟨Nat.ble_eq_true_of_le (by omega),Nat.ble_eq_true_of_le k1le⟩
      rw[hb3,cond_true];have f1:(List.take (trimTo d.2 (List.length (α:=Int) d.2)) (List.drop 0 d.2))=words (a / b):=by
       rw[List.drop_zero,trim_words o4,o6,Int.toNat_natCast]
      have f2:(List.take (trimTo z3 (words (2 ^ s*(a % b))).length) (List.drop 0 z3))=words (a % b):=by
       rw[List.drop_zero,<- hz3,trimTo_append _ _ _ (by rw[lsh];exact Nat.le_refl _),List.take_append_of_le_length (Nat.le_trans (trimTo_le _ _) (by rw[lsh];exact Nat.le_refl _))];rw[<- lsh,trim_words (shrL_ok _ _)];congr 1;have hc:(2:Int) ^ s*2 ^ (32-s)=4294967296:=by rw[<- Int.pow_add,show s+(32-s)=32 by omega];rfl
       rw[shrL_val (2 ^ s) (2 ^ (32-s)) (Int.pow_pos (by omega)) hc _ (words_ok _),val_words];have e:((2 ^ s*(a % b):Nat):Int)=2 ^ s*((a % b:Nat):Int):=by simp
       rw[e,Int.mul_ediv_cancel_left _ (Int.ne_of_gt (Int.pow_pos (by omega))),Int.toNat_natCast]
      rw[<- h];show cont (.tup [(false,[.sl none tW (List.take (trimTo d.2 (List.length (α:=Int) d.2)) (List.drop 0 d.2))]),(false,[.sl none tW (List.take (trimTo z3 (words (2 ^ s*(a % b))).length) (List.drop 0 z3))])]) []=_;rw[f1,f2]
   ·contradiction
  ·contradiction
end Go.Abs
namespace Go.Abs
open Go.Proofs
set_option maxRecDepth 100000
abbrev tL:Ty:=.list tW
abbrev tZ:Ty:=.pair .bool tL
abbrev tR:Ty:=.pair tZ tZ
def zD(n:Int):tZ.den:=(decide (n<0),words n.natAbs)
def zB(n:Int):Blk:=.var [.bool (decide (n<0)),.sl none tW (words n.natAbs)]
def zV(d:tZ.den):Int:=if d.1=true then -(val d.2)else val d.2
def zOk(d:tZ.den):Prop:=d=zD (zV d)/\List.length (α:=Int) d.2<1000000000
instance (d:tZ.den):Decidable (zOk d):=by unfold zOk;infer_instance
theorem zV_zD(n:Int):zV (zD n)=n:=by
 unfold zV zD;simp only [decide_eq_true_eq];rw[val_words];split <;> omega
theorem zOk_ex{d:tZ.den} (h:zOk d):∃ n,d=zD n/\(words n.natAbs).length<1000000000:=by
 obtain⟨h1,h2⟩:=h;refine⟨zV d,h1,?_⟩;rw[h1]at h2;exact h2
theorem zOk_zD{n:Int} (h:(words n.natAbs).length<1000000000):zOk (zD n):=⟨by rw[zV_zD],h⟩
theorem words_pos(n:Int):decide (0<(words n.natAbs).length)=decide (n≠0):=by
 rw[words_eq]
 by_cases h:n=0
 ·subst h;rfl
 ·rw[if_neg (by omega)];simp [h]
def isZ:Blk->Bool
 | .var [.bool _,.nils]=>true
 | .var [.bool _,.sl _ (.int .u32) _]=>true
 | _=>false
theorem isZ_ex{B:Blk} (h:isZ B=true):(∃ b,B=.var [.bool b,.nils]) \/ ∃ b f xs,B=.var [.bool b,.sl f tW xs]:=by
 unfold isZ at h;split at h
 ·exact .inl ⟨_,rfl⟩
 ·exact .inr ⟨_,_,_,rfl⟩
 ·cases h
def putO:Orc:=fun ρ args H cont=>match args,H with
 | [.v false [.ptr 0 0],.v false [.bool neg],.v false [.sl b (.int .u32) xs]],[B]=>bif isZ B then cont (one (.ptr 0 0)) [.var [.bool (neg&&decide (0<List.length (α:=Int) xs)),.sl none tW xs]]else none
 | _,_=>none
theorem run207{ρ:Type} (cont:SV->HL->Option ρ) (b0 neg:Bool) (a0:Atom) (ha:a0=.nils \/ ∃ f xs,a0=.sl f tW xs) (fl:Option Bool) (xs:List tW.den) :
  runF V0 {} 0 Tryz.f147 (bodyOf Tryz.f147) ρ [one (.ptr 0 0),one (.bool neg),one (.sl fl tW xs)] [.var [.bool b0,a0]] cont =
  bif neg then cont (one (.ptr 0 0)) [.var [.bool (bif true then decide (0<(List.length (α:=Int) xs:Int))else false),.sl fl tW xs]]else cont (one (.ptr 0 0)) [.var [.bool false,.sl fl tW xs]]:=by
 rcases ha with rfl | ⟨f,x0,rfl⟩
 ·kernel_rfl
 ·kernel_rfl
theorem orc207(N:NumSem):OrcOK N Tryz.prog 147 putO:=
 OrcOK.of_tale (OrcOK.plh (runF_ok (V0_ok N) mixT (A:={}) (fuel:=0) Tryz.func147 (c:=bodyOf Tryz.f147) (by kernel_rfl) (wp_loops (by kernel_rfl))) tW) fun ρ args H cont r h=>by
  unfold putO at h;split at h
  ·rename_i neg b xs B;cases hB:isZ B with
   | false=>rw[hB]at h;cases h
   | true =>
    rw[hB,cond_true]at h;have key:∀ b0 a0,(a0=.nils \/ ∃ f xs,a0=.sl f tW xs)->runF V0 {} 0 Tryz.f147 (bodyOf Tryz.f147) ρ [one (.ptr 0 0),one (.bool neg),one (.sl b tW xs)] [.var [.bool b0,a0]] (fun s H'=>cont (plSV tW s) (plHp tW H'))=some r:=fun b0 a0 ha=>by
     rw[run207 _ b0 neg a0 ha b xs];cases neg with
     | false=>exact h
     | true =>
      rw[cond_true,cond_true];have e:decide (0<(List.length (α:=Int) xs:Int))=decide (0<List.length (α:=Int) xs):=by simp
      rw[e];exact h
    rcases isZ_ex hB with ⟨b0,rfl⟩ | ⟨b0,f,x0,rfl⟩
    ·exact key b0 _ (.inl rfl)
    ·exact key b0 _ (.inr ⟨f,x0,rfl⟩)
  ·contradiction
def V7:Env:={ T:=tryT,E:=[],Γ:=gamL [(147,putO),(148,mulMagO),(155,addMagO),(156,subMagO),(150,cmpMagO),(182,trimmedU)],M:=fun f=>bif Nat.beq f 147 then [(2,tL)]else bif Nat.beq f 182 then [(0,tL)]else [] }
theorem V7_ok(N:NumSem):EnvOK N Tryz.prog V7:=
 {T:=TabOk.of tryT_ok,E:=fun p hp=>(by cases hp),Γ:=gamC (orc207 N) Tryz.call147 (gamC (orc208 N) Tryz.call148 (gamC (orc212 N) Tryz.call155 (gamC (orc213 N) Tryz.call156 (gamC (orc209 N) Tryz.call150 (gamC (orc226u N) Tryz.call182 (gamN N _)))))) }
def Ash:Ann:={ shut:=true }
end Go.Abs
namespace Go.Abs
open Go.Proofs
set_option maxRecDepth 100000
def za(a0:Atom):Prop:=a0=.nils \/ ∃ f xs,a0=.sl f tW xs
theorem isZ_cases{B:Blk} (h:isZ B=true):∃ b0 a0,B=.var [.bool b0,a0]/\za a0:=by
 rcases isZ_ex h with ⟨b0,rfl⟩ | ⟨b0,f,x0,rfl⟩
 ·exact⟨b0,_,rfl,.inl rfl⟩
 ·exact⟨b0,_,rfl,.inr ⟨f,x0,rfl⟩⟩
def un1(f:Int->Int):Orc:=fun ρ args H cont=>match args,H with
 | [.v false [.ptr 0 0],.v false [.ip (.pair .bool (.list (.int .u32))) d 0]],[B]=>bif isZ B then(if zOk d then cont (one (.ptr 0 0)) [zB (f (zV d))]else none)else none
 | _,_=>none
theorem un1_ok{N:NumSem} {P:Program} {k:Nat} {f:Int->Int} {F:Orc} (hF:OrcOK N P k F)
  (h:∀ ρ (cont:SV->HL->Option ρ) b0 a0 (n:Int),(words n.natAbs).length<1000000000->za a0->F ρ [one (.ptr 0 0),one (.ip tZ (zD n) 0)] [.var [.bool b0,a0]] cont=cont (one (.ptr 0 0)) [zB (f n)]):OrcOK N P k (un1 f):=
 OrcOK.of_tale hF fun ρ args H cont r hr=>by
  unfold un1 at hr;split at hr
  ·rename_i d B;cases hB:isZ B with
   | false=>rw[hB]at hr;cases hr
   | true =>
    rw[hB,cond_true]at hr;split at hr
    ·rename_i hd;obtain⟨n,hd1,hd2⟩:=zOk_ex hd;obtain⟨b0,a0,rfl,ha⟩:=isZ_cases hB;have hd1':(d:(Ty.pair .bool (.list (.int .u32))).den)=zD n:=hd1;subst hd1';rw[zV_zD]at hr;exact(h ρ cont b0 a0 n hd2 ha).trans hr
    ·contradiction
  ·contradiction
def un2(g:Int->Int->Bool) (f:Int->Int->Int):Orc:=fun ρ args H cont=>match args,H with
 | [.v false [.ptr 0 0],.v false [.ip (.pair .bool (.list (.int .u32))) d 0],.v false [.ip (.pair .bool (.list (.int .u32))) e 0]],[B] =>
  bif isZ B then(if zOk d/\zOk e/\g (zV d) (zV e)=true then cont (one (.ptr 0 0)) [zB (f (zV d) (zV e))]else none)else none
 | _,_=>none
theorem un2_ok{N:NumSem} {P:Program} {k:Nat} {g:Int->Int->Bool} {f:Int->Int->Int} {F:Orc} (hF:OrcOK N P k F)
  (h:∀ ρ (cont:SV->HL->Option ρ) b0 a0 (n m:Int),(words n.natAbs).length<1000000000->(words m.natAbs).length<1000000000->g n m=true->za a0 ->
   F ρ [one (.ptr 0 0),one (.ip tZ (zD n) 0),one (.ip tZ (zD m) 0)] [.var [.bool b0,a0]] cont=cont (one (.ptr 0 0)) [zB (f n m)]):OrcOK N P k (un2 g f):=
 OrcOK.of_tale hF fun ρ args H cont r hr=>by
  unfold un2 at hr;split at hr
  ·rename_i d e B;cases hB:isZ B with
   | false=>rw[hB]at hr;cases hr
   | true =>
    rw[hB,cond_true]at hr;split at hr
    ·rename_i hd;obtain⟨hd,he,hg⟩:=hd;obtain⟨n,hd1,hd2⟩:=zOk_ex hd;obtain⟨m,he1,he2⟩:=zOk_ex he;obtain⟨b0,a0,rfl,ha⟩:=isZ_cases hB;have hd1':(d:(Ty.pair .bool (.list (.int .u32))).den)=zD n:=hd1;have he1':(e:(Ty.pair .bool (.list (.int .u32))).den)=zD m:=he1;subst hd1' he1';rw[zV_zD,zV_zD]at hr hg;exact(h ρ cont b0 a0 n m hd2 he2 hg ha).trans hr
    ·contradiction
  ·contradiction
theorem neg_pos(n:Int):(decide (n<0)&&decide (0<(words n.natAbs).length))=decide (n<0):=by
 rw[words_pos]
 by_cases h:n<0
 ·simp [h];omega
 ·simp [h]
theorem run176{ρ:Type} (cont:SV->HL->Option ρ) (b0:Bool) (a0:Atom) (ha:za a0) (x:tZ.den) :
  runF V7 Ash 0 Tryz.f149 (bodyOf Tryz.f149) ρ [one (.ptr 0 0),one (.ip tZ x 0)] [.var [.bool b0,a0]] cont =
  (let z:List tW.den:=[]
   if z.length+List.length (α:=tW.den) x.2<=70368744177664/\(z.length+List.length (α:=tW.den) x.2)*4<=70368744177664 then
   cont (one (.ptr 0 0)) [.var [.bool (x.1&&decide (0<List.length (α:=tW.den) (z++x.2))),.sl none tW (z++x.2)]]else none):=by
 rcases ha with rfl | ⟨f,x0,rfl⟩ <;> kernel_rfl
theorem orc176(N:NumSem):OrcOK N Tryz.prog 149 (un1 fun n=>n):=
 un1_ok (runF_ok (V7_ok N) mixT (A:=Ash) (fuel:=0) Tryz.func149 (c:=bodyOf Tryz.f149) (by kernel_rfl) (wp_loops (by kernel_rfl))) fun ρ cont b0 a0 n hn ha=>by
  rw[run176 cont b0 a0 ha];have e:List.length (α:=tW.den) (zD n).2=(words n.natAbs).length:=rfl;have e0:([]:List tW.den).length=0:=rfl;simp only [e,e0];rw[if_pos (by omega)];show cont (one (.ptr 0 0)) [.var [.bool (decide (n<0)&&decide (0<(words n.natAbs).length)),.sl none tW (words n.natAbs)]]=_;rw[neg_pos];rfl
theorem run173{ρ:Type} (cont:SV->HL->Option ρ) (b0:Bool) (a0:Atom) (ha:za a0) (x:tZ.den) :
  runF V7 Ash 0 Tryz.f152 (bodyOf Tryz.f152) ρ [one (.ptr 0 0),one (.ip tZ x 0)] [.var [.bool b0,a0]] cont =
  (let z:List tW.den:=[]
   if z.length+List.length (α:=tW.den) x.2<=70368744177664/\(z.length+List.length (α:=tW.den) x.2)*4<=70368744177664 then
   cont (one (.ptr 0 0)) [.var [.bool (!x.1&&decide (0<List.length (α:=tW.den) (z++x.2))),.sl none tW (z++x.2)]]else none):=by
 rcases ha with rfl | ⟨f,x0,rfl⟩ <;> kernel_rfl
theorem orc173(N:NumSem):OrcOK N Tryz.prog 152 (un1 fun n=>-n):=
 un1_ok (runF_ok (V7_ok N) mixT (A:=Ash) (fuel:=0) Tryz.func152 (c:=bodyOf Tryz.f152) (by kernel_rfl) (wp_loops (by kernel_rfl))) fun ρ cont b0 a0 n hn ha=>by
  rw[run173 cont b0 a0 ha];have e:List.length (α:=tW.den) (zD n).2=(words n.natAbs).length:=rfl;have e0:([]:List tW.den).length=0:=rfl;simp only [e,e0];rw[if_pos (by omega)];show cont (one (.ptr 0 0)) [.var [.bool (!decide (n<0)&&decide (0<(words n.natAbs).length)),.sl none tW (words n.natAbs)]]=cont (one (.ptr 0 0)) [.var [.bool (decide (-n<0)),.sl none tW (words (-n).natAbs)]];have e1:(!decide (n<0)&&decide (0<(words n.natAbs).length))=decide (-n<0):=by
   rw[words_pos];rcases Int.lt_trichotomy n 0 with h | h | h
   ·simp [h];omega
   ·simp [h]
   ·have h1:¬ n<0:=by omega
    have h2:n≠0:=by omega
    have h3:-n<0:=by omega
    simp [h1,h2];omega
  rw[e1,Int.natAbs_neg]
theorem run227{ρ:Type} (cont:SV->HL->Option ρ) (b0:Bool) (a0:Atom) (ha:za a0) (x:tZ.den) :
  runF V7 Ash 0 Tryz.f183 (bodyOf Tryz.f183) ρ [one (.ptr 0 0),one (.ip tZ x 0)] [.var [.bool b0,a0]] cont =
  (let z:List tW.den:=[]
   if z.length+List.length (α:=tW.den) x.2<=70368744177664/\(z.length+List.length (α:=tW.den) x.2)*4<=70368744177664 then
   cont (one (.ptr 0 0)) [.var [.bool false,.sl none tW (z++x.2)]]else none):=by
 rcases ha with rfl | ⟨f,x0,rfl⟩ <;> kernel_rfl
theorem orc227(N:NumSem):OrcOK N Tryz.prog 183 (un1 fun n=>n.natAbs):=
 un1_ok (runF_ok (V7_ok N) mixT (A:=Ash) (fuel:=0) Tryz.func183 (c:=bodyOf Tryz.f183) (by kernel_rfl) (wp_loops (by kernel_rfl))) fun ρ cont b0 a0 n hn ha=>by
  rw[run227 cont b0 a0 ha];have e:List.length (α:=tW.den) (zD n).2=(words n.natAbs).length:=rfl;have e0:([]:List tW.den).length=0:=rfl;simp only [e,e0];rw[if_pos (by omega)];show cont (one (.ptr 0 0)) [.var [.bool false,.sl none tW (words n.natAbs)]]=cont (one (.ptr 0 0)) [.var [.bool (decide ((n.natAbs:Int)<0)),.sl none tW (words (n.natAbs:Int).natAbs)]];rw[decide_eq_false (by omega),Int.natAbs_natCast]
theorem run157{ρ:Type} (cont:SV->HL->Option ρ) (b0:Bool) (a0:Atom) (ha:za a0) (x y:tZ.den) :
  runF V7 Ash 0 Tryz.f112 (bodyOf Tryz.f112) ρ [one (.ptr 0 0),one (.ip tZ x 0),one (.ip tZ y 0)] [.var [.bool b0,a0]] cont =
  if List.length (α:=tW.den) x.2<1000000000000/\List.length (α:=tW.den) y.2<1000000000000/\okW x.2/\okW y.2 then
   cont (one (.ptr 0 0)) [.var [.bool (x.1 != y.1&&decide (0<List.length (α:=tW.den) (words (val x.2*val y.2).toNat))),.sl none tW (words (val x.2*val y.2).toNat)]]else none:=by
 rcases ha with rfl | ⟨f,x0,rfl⟩ <;> kernel_rfl
theorem orc157(N:NumSem):OrcOK N Tryz.prog 112 (un2 (fun _ _=>true) fun n m=>n*m):=
 un2_ok (runF_ok (V7_ok N) mixT (A:=Ash) (fuel:=0) Tryz.func112 (c:=bodyOf Tryz.f112) (by kernel_rfl) (wp_loops (by kernel_rfl))) fun ρ cont b0 a0 n m hn hm _ ha=>by
  rw[run157 cont b0 a0 ha,if_pos ⟨by show (words n.natAbs).length<_;omega,by show (words m.natAbs).length<_;omega,words_ok _,words_ok _⟩];show cont (one (.ptr 0 0)) [.var [.bool (decide (n<0) != decide (m<0)&&decide (0<(words (val (words n.natAbs)*val (words m.natAbs)).toNat).length)),.sl none tW (words (val (words n.natAbs)*val (words m.natAbs)).toNat)]] =
   cont (one (.ptr 0 0)) [.var [.bool (decide (n*m<0)),.sl none tW (words (n*m).natAbs)]]
  have e:(val (words n.natAbs)*val (words m.natAbs)).toNat=(n*m).natAbs:=by
   rw[val_words,val_words,<- Int.natCast_mul,Int.toNat_natCast,Int.natAbs_mul]
  rw[e,words_pos];have e2:(decide (n<0) != decide (m<0)&&decide (n*m≠0))=decide (n*m<0):=by
   rcases Int.lt_trichotomy n 0 with h | h | h
   ·rcases Int.lt_trichotomy m 0 with h' | h' | h'
    ·have:=Int.mul_pos_of_neg_of_neg h h';have h1:¬ n*m<0:=by omega
     simp [h,h',h1]
    ·simp [h']
    ·have:=Int.mul_neg_of_neg_of_pos h h';have h1:¬ m<0:=by omega
     have h2:n*m≠0:=by omega
     simp [h,h1,this,h2]
   ·simp [h]
   ·rcases Int.lt_trichotomy m 0 with h' | h' | h'
    ·have:=Int.mul_neg_of_pos_of_neg h h';have h1:¬ n<0:=by omega
     have h2:n*m≠0:=by omega
     simp [h1,h',this,h2]
    ·simp [h']
    ·have:=Int.mul_pos h h';have h1:¬ n<0:=by omega
     have h2:¬ m<0:=by omega
     have h3:¬ n*m<0:=by omega
     simp [h1,h2,h3]
  rw[e2]
def addC{ρ:Type} (cont:SV->HL->Option ρ) (x1 y1:Bool) (x2 y2:List tW.den):Option ρ:=
 bif x1==y1 then
  if x2.length<1000000000000/\y2.length<1000000000000/\okW x2/\okW y2 then
   cont (one (.ptr 0 0)) [.var [.bool (x1&&decide (0<List.length (α:=tW.den) (words (val x2+val y2).toNat))),.sl none tW (words (val x2+val y2).toNat)]]else none
 else
  if x2.length<1000000000000/\y2.length<1000000000000/\okW x2/\okW y2 then
   bif decide (0<=cmpR x2 y2)then
    if x2.length<1000000000000/\y2.length<=x2.length/\okW x2/\okW y2/\val y2<=val x2 then
     cont (one (.ptr 0 0)) [.var [.bool (x1&&decide (0<List.length (α:=tW.den) (words (val x2-val y2).toNat))),.sl none tW (words (val x2-val y2).toNat)]]else none
   else
    if y2.length<1000000000000/\x2.length<=y2.length/\okW y2/\okW x2/\val x2<=val y2 then
     cont (one (.ptr 0 0)) [.var [.bool (y1&&decide (0<List.length (α:=tW.den) (words (val y2-val x2).toNat))),.sl none tW (words (val y2-val x2).toNat)]]else none
  else none
theorem run160{ρ:Type} (cont:SV->HL->Option ρ) (b0:Bool) (a0:Atom) (ha:za a0) (x y:tZ.den) :
  runF V7 Ash 0 Tryz.f120 (bodyOf Tryz.f120) ρ [one (.ptr 0 0),one (.ip tZ x 0),one (.ip tZ y 0)] [.var [.bool b0,a0]] cont=addC cont x.1 y.1 x.2 y.2:=by
 rcases ha with rfl | ⟨f,x0,rfl⟩ <;> kernel_rfl
theorem run160s{ρ:Type} (cont:SV->HL->Option ρ) (b0:Bool) (f0:Option Bool) (x0:List tW.den) (y:tZ.den) :
  runF V7 Ash 0 Tryz.f120 (bodyOf Tryz.f120) ρ [one (.ptr 0 0),one (.ptr 0 0),one (.ip tZ y 0)] [.var [.bool b0,.sl f0 tW x0]] cont=addC cont b0 y.1 x0 y.2:=by kernel_rfl
theorem addC_eq{ρ:Type} (cont:SV->HL->Option ρ) (n m:Int) (hn:(words n.natAbs).length<1000000000) (hm:(words m.natAbs).length<1000000000) :
  addC cont (decide (n<0)) (decide (m<0)) (words n.natAbs) (words m.natAbs)=cont (one (.ptr 0 0)) [zB (n+m)]:=by
 unfold addC;have hc:List.length (α:=tW.den) (words n.natAbs)<1000000000000/\List.length (α:=tW.den) (words m.natAbs)<1000000000000/\okW (words n.natAbs)/\okW (words m.natAbs):=
  ⟨by show (words n.natAbs).length<_;omega,by show (words m.natAbs).length<_;omega,words_ok _,words_ok _⟩
 obtain⟨c1,c2⟩:=cmpR_words n.natAbs m.natAbs;have fin:∀ (b:Bool) (w:Int),w.toNat=(n+m).natAbs->(n+m≠0->b=decide (n+m<0)) ->
   cont (one (.ptr 0 0)) [.var [.bool (b&&decide (0<List.length (α:=tW.den) (words w.toNat))),.sl none tW (words w.toNat)]]=cont (one (.ptr 0 0)) [zB (n+m)]:=by
  intro b w hw hb;rw[hw];have e:(b&&decide (0<List.length (α:=tW.den) (words (n+m).natAbs)))=decide (n+m<0):=by
   rw[show decide (0<List.length (α:=tW.den) (words (n+m).natAbs))=decide (n+m≠0)from words_pos (n+m)]
   by_cases h0:n+m=0
   ·simp [h0]
   ·rw[hb h0];simp [h0]
  rw[e];rfl
 by_cases hs:decide (n<0)=decide (m<0)
 ·rw[hs,beq_self_eq_true,cond_true,if_pos hc];have hs':(n<0 ↔ m<0):=decide_eq_decide.1 hs;refine fin _ _ (by rw[val_words,val_words];omega) fun h0=>?_
  rw[decide_eq_decide];omega
 ·have hne:(decide (n<0)==decide (m<0))=false:=by simpa using hs
  have hs':¬ (n<0 ↔ m<0):=fun h=>hs (decide_eq_decide.2 h)
  rw[hne,cond_false,if_pos hc]
  by_cases hlt:n.natAbs<m.natAbs
  ·rw[decide_eq_false (by have:=c1.2 hlt;omega),cond_false,if_pos ⟨hc.2.1,words_mono (by omega),hc.2.2.2,hc.2.2.1,by rw[val_words,val_words];omega⟩];refine fin _ _ (by rw[val_words,val_words];omega) fun h0=>?_
   rw[decide_eq_decide];omega
  ·have hge:¬ cmpR (words n.natAbs) (words m.natAbs)<0:=fun h=>hlt (c1.1 h)
   rw[decide_eq_true (by omega),cond_true,if_pos ⟨hc.1,words_mono (by omega),hc.2.2.1,hc.2.2.2,by rw[val_words,val_words];omega⟩];refine fin _ _ (by rw[val_words,val_words];omega) fun h0=>?_
   rw[decide_eq_decide];omega
def addO:Orc:=fun ρ args H cont=>match args,H with
 | [.v false [.ptr 0 0],.v false [.ptr 0 0],.v false [.ip (.pair .bool (.list (.int .u32))) e 0]],[.var [.bool b,.sl f (.int .u32) xs]] =>
  if zOk (b,xs)/\zOk e then cont (one (.ptr 0 0)) [zB (zV (b,xs)+zV e)]else none
 | args,H=>un2 (fun _ _=>true) (fun n m=>n+m) ρ args H cont
theorem orc160(N:NumSem):OrcOK N Tryz.prog 120 addO:=by
 have h0:OrcOK N Tryz.prog 120 (runF V7 Ash 0 Tryz.f120 (bodyOf Tryz.f120)):=runF_ok (V7_ok N) mixT (A:=Ash) (fuel:=0) Tryz.func120 (c:=bodyOf Tryz.f120) (by kernel_rfl) (wp_loops (by kernel_rfl));have h1:OrcOK N Tryz.prog 120 (un2 (fun _ _=>true) fun n m=>n+m):=un2_ok h0 fun ρ cont b0 a0 n m hn hm _ ha=>by
  rw[run160 cont b0 a0 ha];exact addC_eq cont n m hn hm
 intro ρ args H cont r hr;unfold addO at hr;split at hr
 ·rename_i e b f xs;split at hr
  ·rename_i hd;obtain⟨hd,he⟩:=hd;obtain⟨n,hd1,hd2⟩:=zOk_ex hd;obtain⟨m,he1,he2⟩:=zOk_ex he;have he1':(e:(Ty.pair .bool (.list (.int .u32))).den)=zD m:=he1;subst he1';rw[hd1,zV_zD,zV_zD]at hr;have hb:b=decide (n<0):=congrArg Prod.fst hd1;have hx:(xs:List (Ty.int .u32).den)=words n.natAbs:=congrArg Prod.snd hd1;subst hb hx;exact h0 ((run160s cont _ f _ (zD m)).trans ((addC_eq cont n m hd2 he2).trans hr))
  ·contradiction
 ·exact h1 hr
end Go.Abs

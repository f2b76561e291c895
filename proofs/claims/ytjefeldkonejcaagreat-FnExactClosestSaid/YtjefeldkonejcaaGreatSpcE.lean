/-
 A PART OF THE PROOF of ClI (texts SpcE SpcF SpcG): the claim itself stands in the last text. No conditions beside those of the given row.
-/
import Derived.Test.YtjefeldkonejcaaGreatSpcB
set_option linter.unusedVariables false
set_option linter.unnecessarySimpa false
set_option linter.unusedSimpArgs false
namespace Go.Abs
open Go.Proofs
set_option maxRecDepth 100000
def Vz3:Env:={ T:=tranT,E:=[],Γ:=gamL [(139,trimO),(137,magCmpO),(177,magDiv1O),(178,shlO)],M:=Mz }
theorem Vz3_ok(N:NumSem):EnvOK N Tryz.prog Vz3:={ T:=TT_ok,E:=fun p hp=>(by cases hp),Γ:=gamC (orc201 N) Tryz.call139 (gamC (orc170 N) Tryz.call137 (gamC (orc214 N) Tryz.call177 (gamC (orc215 N) Tryz.call178 (gamN N _)))) }
def A168:Ann:={ head:=ptOf [(6,[0,1,6],[]),(13,[6,7,8,9,10,11],[8]),(19,[6,7,8,9,10,11,13,14,15],[]),(26,[6,7,8,9,10,11,13,16,17,18],[]),(39,[6,7,8,9,10,11,13,22,23],[]),(48,[6,7,9,10,25,26],[])],out:=ptOf [(6,[0,1,6],[]),(13,[6,7,9,10],[]),(19,[6,7,8,9,10,11,13],[]),(26,[6,7,8,9,10,11,13,16,17],[]),(39,[6,7,8,9,10,11,13,22],[]),(48,[10,25],[])],shut:=true }
def σ168a(b b':Option Bool) (xs ys:List tW.den) (s:Int):St:=⟨[(0,one (.sl b tW xs)),(1,one (.sl b' tW ys)),(6,one (.int .u64 s))],[]⟩
theorem turn168a{ρ:Type} (K:Exit->St->Option ρ) (go:St->Option ρ) (b b':Option Bool) (xs ys:List tW.den) (s:Int):turnF Vz3 A168 301 0 0 (loopAt Tryz.f135 0) K go (σ168a b b' xs ys s) =
  if 0<=IntKind.i64.wrap ((ys.length:Int)-1)then(ys[(IntKind.i64.wrap ((ys.length:Int)-1)).toNat]?).bind fun x=>if s<0 then none else
   bif decide (IntKind.u32.wrap (x*2 ^ min s.toNat IntKind.u32.bits)<2147483648)then go (σ168a b b' xs ys (IntKind.u64.wrap (s+1)))else K (.exit 0) (σ168a b b' xs ys s)else none:=by kernel_rfl
theorem loop168a{ρ:Type} (K:Exit->St->Option ρ) (b b':Option Bool) (xs ys:List tW.den) (x:Int) (h0:0<ys.length) (h1:ys.length<4611686018427387904) (hx:ys[ys.length-1]? = some x) (hx0:0<x) (t:Nat) (ht:t<=31) (h2:2147483648<=x*2 ^ t) (h3:x*2 ^ t<4294967296) :
  ∀ (m s:Nat),s+m=t->itF (turnF Vz3 A168 301 0 0 (loopAt Tryz.f135 0) K) (fun _=>none) (m+1) (σ168a b b' xs ys s)=K (.exit 0) (σ168a b b' xs ys t):=by
 have hn:IntKind.i64.wrap ((ys.length:Int)-1)=((ys.length-1:Nat):Int):=by rw[i64_nat] <;> omega
 have hb:IntKind.u32.bits=32:=rfl;intro m
 induction m with
 | zero =>
  intro s hs;have e:s=t:=by omega
  subst e;have e1:min (Int.toNat (s:Int)) IntKind.u32.bits=s:=by rw[Int.toNat_natCast,hb];exact Nat.min_eq_left (by omega)
  rw[itF_succ,turn168a,hn,if_pos (by omega),Int.toNat_natCast,hx,Option.bind_some,if_neg (by omega),e1];have e2:IntKind.u32.wrap (x*2 ^ s)=x*2 ^ s:=by rw[IntKind.wrap_u32];omega
  rw[e2,decide_eq_false (by omega),cond_false]
 | succ m ih =>
  intro s hs;have e1:min (Int.toNat (s:Int)) IntKind.u32.bits=s:=by rw[Int.toNat_natCast,hb];exact Nat.min_eq_left (by omega)
  rw[itF_succ,turn168a,hn,if_pos (by omega),Int.toNat_natCast,hx,Option.bind_some,if_neg (by omega),e1];have hle:x*2 ^ s*2<=x*2 ^ t:=by
   have hp:(2:Int) ^ t=2 ^ s*(2*2 ^ m):=by rw[<- hs,Int.pow_add,Int.pow_succ,Int.mul_comm (2 ^ m) 2]
   have hm1:(1:Int)<=2 ^ m:=Int.pow_pos (by omega);have hps:(0:Int)<=x*2 ^ s:=Int.mul_nonneg (by omega) (Int.le_of_lt (Int.pow_pos (by omega)));rw[hp,<- Int.mul_assoc];exact Int.mul_le_mul_of_nonneg_left (by omega) hps
  have hps:(0:Int)<=x*2 ^ s:=Int.mul_nonneg (by omega) (Int.le_of_lt (Int.pow_pos (by omega)));have e2:IntKind.u32.wrap (x*2 ^ s)=x*2 ^ s:=by rw[IntKind.wrap_u32];omega
  have e3:IntKind.u64.wrap ((s:Int)+1)=((s+1:Nat):Int):=by rw[u64_id] <;> omega
  rw[e2,decide_eq_true (by omega),cond_true,e3,ih (s+1) (by omega)]
def S168a:Sum:=fun n0 ρ σ K=>match n0,σ with
 | 0,⟨[(0,.v false [.sl b (.int .u32) xs]),(1,.v false [.sl b' (.int .u32) ys]),(6,.v false [.int .u64 s])],[]⟩ =>
  if s=0/\0<List.length (α:=Int) ys/\List.length (α:=Int) ys<4611686018427387904/\0<List.getD (α:=Int) ys (List.length (α:=Int) ys-1) 0/\List.getD (α:=Int) ys (List.length (α:=Int) ys-1) 0<4294967296 then
   K (.exit 0) (σ168a b b' xs ys (lz (List.getD (α:=Int) ys (List.length (α:=Int) ys-1) 0)))else none
 | _,_=>none
theorem sum168a(N:NumSem):SumOK N Tryz.prog 301 (loopAt Tryz.f135 0) S168a:=
 SumOK.of_turns (Vz3_ok N) mixT (A:=A168) (SumsOK.none fun _=>rfl) fun n0 ρ σ K r h=>by
  unfold S168a at h;split at h
  ·rename_i b xs b' ys s;split at h
   ·rename_i hc;obtain⟨rfl,h0,h1,h2,h3⟩:=hc;obtain⟨t,ht1,ht2,ht3,ht4⟩:=lz_ok _ h2 h3;rw[ht1]at h;have hx:(ys:List tW.den)[List.length (α:=Int) ys-1]? = some (List.getD (α:=Int) ys (List.length (α:=Int) ys-1) 0):=by
     show (ys:List Int)[List.length (α:=Int) ys-1]? = _;rw[List.getD_eq_getElem?_getD,List.getElem?_eq_getElem (by omega)];rfl
    have hl:=loop168a K b b' xs ys _ h0 h1 hx h2 t ht2 ht3 ht4 t 0 (by omega);exact⟨_,hl.trans h⟩
   ·contradiction
  ·contradiction
def σ168(b:Option Bool) (us vs qs:List tW.den) (s n j:Int) (l:Slots):St:=
 ⟨(6,one (.int .u64 s)) :: (7,one (.int .i64 n)) :: (8,one (.sl b tW vs)) :: (9,one (.wsl 0 1)) :: (10,one (.wsl 1 1)) :: (11,one (.int .i64 j)) :: l,[.arr 162 tW us false true,.arr 162 tW qs false true]⟩
section
variable {ρ:Type} (K:Exit->St->Option ρ) (go:St->Option ρ) (b:Option Bool) (us vs qs:List tW.den) (s n j:Int)
def fin168b(q r k:Int):Option ρ:=
 if 0<=IntKind.i64.wrap (n-1)then(vs[(IntKind.i64.wrap (n-1)).toNat]?).bind fun x=>go (σ168 b us vs qs s n j [(13,one (.int .u64 (IntKind.u64.wrap (q-1)))),(14,one (.int .u64 (IntKind.u64.wrap (r+IntKind.u64.wrap x)))),(15,one (.int .i64 (IntKind.i64.wrap (k+1))))])else none
theorem turn168b(q r k:Int):turnF Vz3 A168 301 0 0 (loopAt Tryz.f135 2) K go (σ168 b us vs qs s n j [(13,one (.int .u64 q)),(14,one (.int .u64 r)),(15,one (.int .i64 k))]) =
  bif decide (k<3)then bif bif true then decide (r<4294967296)else false then bif decide (4294967296<=q)then fin168b go b us vs qs s n j q r k
   else(if 0<=IntKind.i64.wrap (n-2)then(vs[(IntKind.i64.wrap (n-2)).toNat]?).bind fun x =>
    if 0<=IntKind.i64.wrap (IntKind.i64.wrap (j+n)-2)/\IntKind.i64.wrap (IntKind.i64.wrap (j+n)-2)<us.length then(us[0+(IntKind.i64.wrap (IntKind.i64.wrap (j+n)-2)).toNat]?).bind fun u =>
     bif bif true then bif false then true else decide (bits .or .u64 (IntKind.u64.wrap (r*2 ^ min (Int.toNat 32) IntKind.u64.bits)) (IntKind.u64.wrap u)<IntKind.u64.wrap (q*IntKind.u64.wrap x))else false then fin168b go b us vs qs s n j q r k
     else K (.exit 4) (σ168 b us vs qs s n j [(13,one (.int .u64 q))])else none else none)
   else K (.exit 4) (σ168 b us vs qs s n j [(13,one (.int .u64 q))])
  else K (.exit 4) (σ168 b us vs qs s n j [(13,one (.int .u64 q))]):=by kernel_rfl
end
theorem loop168b{ρ:Type} (K:Exit->St->Option ρ) (b:Option Bool) (us vs qs:List tW.den) (s:Int) (n j:Nat) (T v2 u0:Int) (hn:2<=n) (hn':n<1000000000000) (hj:j<1000000000000) (hT:vs[n-1]? = some T) (hv:vs[n-2]? = some v2) (hu:us[j+n-2]? = some u0)
  (hTb:0<=T/\T<4294967296) (hvb:0<=v2/\v2<4294967296) (hub:0<=u0/\u0<4294967296):∀ (m:Nat) (k g r:Int),k+m=3->0<=k->0<=g->g<8589934592->0<=r->r<8589934592 ->
  itF (turnF Vz3 A168 301 0 0 (loopAt Tryz.f135 2) K) (fun _=>none) (m+1) (σ168 b us vs qs s n j [(13,one (.int .u64 g)),(14,one (.int .u64 r)),(15,one (.int .i64 k))]) =
   K (.exit 4) (σ168 b us vs qs s n j [(13,one (.int .u64 (corr T v2 u0 m g r).1))]):=by
 have w1:IntKind.i64.wrap ((n:Int)-1)=((n-1:Nat):Int):=by rw[i64_nat] <;> omega
 have w2:IntKind.i64.wrap ((n:Int)-2)=((n-2:Nat):Int):=by rw[i64_nat] <;> omega
 have w3:IntKind.i64.wrap (IntKind.i64.wrap ((j:Int)+n)-2)=((j+n-2:Nat):Int):=by
  have:IntKind.i64.wrap ((j:Int)+n)=((j+n:Nat):Int):=by rw[i64_nat] <;> omega
  rw[this,i64_nat] <;> omega
 have hul:j+n-2<us.length:=(List.getElem?_eq_some_iff.1 hu).1;intro m
 induction m with
 | zero =>
  intro k g r hk hk0 hg0 hg1 hr0 hr1;rw[itF_succ,turn168b,decide_eq_false (by omega),cond_false];rfl
 | succ m ih =>
  intro k g r hk hk0 hg0 hg1 hr0 hr1;have hfin:1<=g->r<4294967296->fin168b (itF (turnF Vz3 A168 301 0 0 (loopAt Tryz.f135 2) K) (fun _=>none) (m+1)) b us vs qs s n j g r k =
    K (.exit 4) (σ168 b us vs qs s n j [(13,one (.int .u64 (corr T v2 u0 m (g-1) (r+T)).1))]):=fun h1 hr=>by
   unfold fin168b;have e1:IntKind.u64.wrap (g-1)=g-1:=u64_id _ (by omega) (by omega);have e2:IntKind.u64.wrap (r+IntKind.u64.wrap T)=r+T:=by rw[u64_id T hTb.1 (by omega),u64_id _ (by omega) (by omega)]
   have e3:IntKind.i64.wrap (k+1)=k+1:=i64_nat _ (by omega) (by omega);rw[w1,if_pos (by omega),Int.toNat_natCast,hT,Option.bind_some,e1,e2,e3,ih (k+1) (g-1) (r+T) (by omega) (by omega) (by omega) (by omega) (by omega) (by omega)]
  rw[itF_succ,turn168b,decide_eq_true (by omega),cond_true,cond_true]
  by_cases hr:r<4294967296
  ·rw[decide_eq_true hr,cond_true]
   by_cases hg:4294967296<=g
   ·rw[decide_eq_true hg,cond_true,hfin (by omega) hr];have:tooBig v2 u0 g r=true:=by simp [tooBig,hr,hg]
    rw[corr,if_pos this]
   ·have e1:IntKind.u64.wrap (r*2 ^ min (Int.toNat 32) IntKind.u64.bits)=r*4294967296:=by
     rw[show (2:Int) ^ min (Int.toNat 32) IntKind.u64.bits=4294967296 by decide,u64_id _ (by omega) (by omega)]
    have e2:bits .or .u64 (r*4294967296) (IntKind.u64.wrap u0)=r*4294967296+u0:=by
     rw[u64_id u0 hub.1 (by omega)];exact or_u64 r u0 ⟨hr0,hr⟩ hub
    have hm:=word_mul ⟨hg0,(by omega:g<4294967296)⟩ hvb;have e3:IntKind.u64.wrap (g*IntKind.u64.wrap v2)=g*v2:=by
     rw[u64_id v2 hvb.1 (by omega),u64_id _ hm.1 (by omega)]
    rw[decide_eq_false hg,cond_false,w2,if_pos (by omega),Int.toNat_natCast,hv,Option.bind_some,w3,if_pos ⟨by omega,by omega⟩,Int.toNat_natCast,Nat.zero_add,hu,Option.bind_some,e1,e2,e3,cond_true,cond_false]
    by_cases ht:r*4294967296+u0<g*v2
    ·have hg1':1<=g:=by
      rcases Int.lt_or_le g 1 with h | h
      ·exfalso;have:g=0:=by omega
       rw[this,Int.zero_mul]at ht;omega
      ·exact h
     rw[decide_eq_true ht,cond_true,hfin hg1' hr];have:tooBig v2 u0 g r=true:=by simp [tooBig,hr,ht]
     rw[corr,if_pos this]
    ·rw[decide_eq_false ht,cond_false];have:¬ tooBig v2 u0 g r=true:=by simp [tooBig,hg,ht]
     rw[corr,if_neg this]
  ·rw[decide_eq_false hr,cond_false];have:¬ tooBig v2 u0 g r=true:=by simp [tooBig,hr]
   rw[corr,if_neg this]
def S168b:Sum:=fun n0 ρ σ K=>match n0,σ with
 | 0,⟨[(6,.v false [.int .u64 s]),(7,.v false [.int .i64 n]),(8,.v false [.sl b (.int .u32) vs]),(9,.v false [.wsl 0 1]),(10,.v false [.wsl 1 1]),(11,.v false [.int .i64 j]),(13,.v false [.int .u64 g]),(14,.v false [.int .u64 r]),(15,.v false [.int .i64 k])],
   [.arr el (.int .u32) us false true,.arr el' (.int .u32) qs false true]⟩ =>
  if(el=162/\el'=162/\k=0)/\(2<=n/\n<1000000000000/\n=List.length (α:=Int) vs)/\(0<=j/\j<1000000000000/\j.toNat+n.toNat<List.length (α:=Int) us)/\okW vs/\okW us/\(0<=g/\g<8589934592)/\0<=r/\r<8589934592 then
   K (.exit 4) (σ168 b us vs qs s n j [(13,one (.int .u64 (corr (List.getD (α:=Int) vs (n.toNat-1) 0) (List.getD (α:=Int) vs (n.toNat-2) 0) (List.getD (α:=Int) us (j.toNat+n.toNat-2) 0) 3 g r).1))])else none
 | _,_=>none
theorem getD_some{xs:List Int} {i:Nat} (h:i<xs.length):xs[i]? = some (xs.getD i 0):=by
 rw[List.getD_eq_getElem?_getD,List.getElem?_eq_getElem h];rfl
theorem sum168b(N:NumSem):SumOK N Tryz.prog 301 (loopAt Tryz.f135 2) S168b:=
 SumOK.of_turns (Vz3_ok N) mixT (A:=A168) (SumsOK.none fun _=>rfl) fun n0 ρ σ K r h=>by
  unfold S168b at h;split at h
  ·rename_i s n b vs j g rr k el us el' qs;split at h
   ·rename_i hc;obtain⟨⟨rfl,rfl,rfl⟩,⟨n2,n3,n4⟩,⟨j0,j1,j2⟩,hv,hu,⟨g0,g1⟩,r0,r1⟩:=hc;obtain⟨n,rfl⟩:=Int.eq_ofNat_of_zero_le (by omega:0<=n);obtain⟨j,rfl⟩:=Int.eq_ofNat_of_zero_le j0;rw[Int.toNat_natCast,Int.toNat_natCast]at h;rw[Int.toNat_natCast,Int.toNat_natCast]at j2;have hl:=loop168b K b us vs qs s n j _ _ _ (by omega) (by omega) (by omega) (getD_some (xs:=vs) (i:=n-1) (by omega)) (getD_some (xs:=vs) (i:=n-2) (by omega)) (getD_some (xs:=us) (i:=j+n-2) (by omega)) (okW_getD hv _) (okW_getD hv _) (okW_getD hu _) 3 0 g rr (by omega) (by omega) g0 g1 r0 r1;exact⟨_,hl.trans h⟩
   ·contradiction
  ·contradiction
section
variable {ρ:Type} (K:Exit->St->Option ρ) (go:St->Option ρ) (b:Option Bool) (us vs qs:List tW.den) (s n j:Int)
def fin168c(q c w i x u:Int):Option ρ:=
 let p:=IntKind.u64.wrap (IntKind.u64.wrap (q*IntKind.u64.wrap x)+c)
 let t:=IntKind.u64.wrap (IntKind.u64.wrap (IntKind.u64.wrap u-bits .and .u64 p 4294967295)-w)
 go (σ168 b (us.set (0+(IntKind.i64.wrap (i+j)).toNat) (IntKind.u32.wrap t)) vs qs s n j [(13,one (.int .u64 q)),(16,one (.int .u64 (p.fdiv (2 ^ min (Int.toNat 32) IntKind.u64.bits)))),(17,one (.int .u64 (t.fdiv (2 ^ min (Int.toNat 63) IntKind.u64.bits)))),(18,one (.int .i64 (IntKind.i64.wrap (i+1))))])
theorem turn168c(q c w i:Int):turnF Vz3 A168 301 0 0 (loopAt Tryz.f135 3) K go (σ168 b us vs qs s n j [(13,one (.int .u64 q)),(16,one (.int .u64 c)),(17,one (.int .u64 w)),(18,one (.int .i64 i))]) =
  bif decide (i<n)then(if 0<=i then(vs[i.toNat]?).bind fun x=>if 0<=IntKind.i64.wrap (i+j)/\IntKind.i64.wrap (i+j)<us.length then(us[0+(IntKind.i64.wrap (i+j)).toNat]?).bind fun u =>
   if 0<=IntKind.i64.wrap (i+j)/\IntKind.i64.wrap (i+j)<us.length then(us[0+(IntKind.i64.wrap (i+j)).toNat]?).bind fun _=>fin168c go b us vs qs s n j q c w i x u else none else none else none)
  else K (.exit 6) (σ168 b us vs qs s n j [(13,one (.int .u64 q)),(16,one (.int .u64 c)),(17,one (.int .u64 w))]):=by kernel_rfl
end
theorem loop168c{ρ:Type} (K:Exit->St->Option ρ) (b:Option Bool) (vs qs:List tW.den) (s:Int) (n j Z:Nat) (q:Int) (hq:0<=q/\q<4294967296) (hv:okW vs) (hn:vs.length=n) (hn':n<1000000000000) (hj':j<1000000000000) (hj:j+n<=Z) :
  ∀ (m i:Nat) (us:List tW.den) (c w:Int),i+m=n->us.length=Z->okW us->0<=c->c<4294967296->0<=w->w<=1 ->
  itF (turnF Vz3 A168 301 0 0 (loopAt Tryz.f135 3) K) (fun _=>none) (m+1) (σ168 b us vs qs s n j [(13,one (.int .u64 q)),(16,one (.int .u64 c)),(17,one (.int .u64 w)),(18,one (.int .i64 i))]) =
   K (.exit 6) (σ168 b (us.take (j+i)++(takeL q c w ((us.drop (j+i)).take m) (vs.drop i)++us.drop (j+n))) vs qs s n j
    [(13,one (.int .u64 q)),(16,one (.int .u64 (takeE q c w ((us.drop (j+i)).take m) (vs.drop i)).1)),(17,one (.int .u64 (takeE q c w ((us.drop (j+i)).take m) (vs.drop i)).2))]):=by
 intro m
 induction m with
 | zero =>
  intro i us c w hi hz hu h0 h1 w0 w1;have e:i=n:=by omega
  rw[itF_succ,turn168c,decide_eq_false (by omega),cond_false,e];simp only [List.take_zero,takeL,takeE,List.nil_append,List.take_append_drop]
 | succ m ih =>
  intro i us c w hi hz hu h0 h1 w0 w1;have hil:i<vs.length:=by omega
  have hju:j+i<us.length:=by omega
  have hp:(0:Int)<=i:=by omega
  have e1:IntKind.i64.wrap ((i:Int)+j)=((j+i:Nat):Int):=by rw[i64_nat] <;> omega
  have e2:IntKind.i64.wrap ((i:Int)+1)=((i+1:Nat):Int):=by rw[i64_nat] <;> omega
  have hpz:(0:Int)<=((j+i:Nat):Int)/\((j+i:Nat):Int)<us.length:=by omega
  have hxb:=hv _ (List.getElem_mem hil);have hub:=hu _ (List.getElem_mem hju);have dz:(us.drop (j+i)).take (m+1)=us[j+i] :: (us.drop (j+i+1)).take m:=by
   rw[List.drop_eq_getElem_cons hju,List.take_succ_cons]
  have dv:vs.drop i=vs[i] :: vs.drop (i+1):=List.drop_eq_getElem_cons hil;rw[itF_succ,turn168c,decide_eq_true (by omega),cond_true,if_pos hp,Int.toNat_natCast,List.getElem?_eq_getElem hil,Option.bind_some,e1,if_pos hpz,Int.toNat_natCast,Nat.zero_add,List.getElem?_eq_getElem hju,Option.bind_some,if_pos hpz,Option.bind_some,dz,dv];unfold fin168c;rw[e1,Int.toNat_natCast,Nat.zero_add,e2];generalize hxv:(vs[i]:Int)=x at *;generalize huv:(us[j+i]:Int)=u at *;have hm:=word_mul hq hxb;have f1:IntKind.u64.wrap (IntKind.u64.wrap (q*IntKind.u64.wrap x)+c)=c+q*x:=by
   rw[u64_id x hxb.1 (by omega),u64_id (q*x) hm.1 (by omega),u64_id _ (by omega) (by omega),Int.add_comm]
  simp only [f1];rw[and_low (c+q*x) (by omega) (by omega),shr32,shr63,u64_id u hub.1 (by omega)];generalize hQ:c+q*x=Q at *;have hQ0:0<=Q:=by omega
  have hQ1:Q<18446744069414584321:=by omega
  have f2:IntKind.u64.wrap (IntKind.u64.wrap (u-Q % 4294967296)-w)=(u-w-Q % 4294967296) % 18446744073709551616:=by rw[IntKind.wrap_u64,IntKind.wrap_u64];omega
  have f3:IntKind.u32.wrap ((u-w-Q % 4294967296) % 18446744073709551616)=(u-Q % 4294967296-w) % 4294967296:=by rw[IntKind.wrap_u32];omega
  rw[f2,f3,bor64 u (Q % 4294967296) w hub (by omega) w0 w1];have hdb:0<=(u-Q % 4294967296-w) % 4294967296/\(u-Q % 4294967296-w) % 4294967296<4294967296:=⟨Int.emod_nonneg _ (by decide),Int.emod_lt_of_pos _ (by decide)⟩;have hwb:(0:Int)<=(if u<Q % 4294967296+w then 1 else 0)/\(if u<Q % 4294967296+w then(1:Int)else 0)<=1:=by split <;> omega
  rw[ih (i+1) _ _ _ (by omega) (by simpa using hz) (okW_set hu hdb) (by omega) (by omega) hwb.1 hwb.2];have t1:(us.set (j+i) ((u-Q % 4294967296-w) % 4294967296)).take (j+(i+1))=us.take (j+i) ++ [(u-Q % 4294967296-w) % 4294967296]:=by
   rw[<- Nat.add_assoc];exact take_set_one us _ _ hju
  have t2:∀ k,j+i<k->(us.set (j+i) ((u-Q % 4294967296-w) % 4294967296)).drop k=us.drop k:=fun k hk=>List.drop_set_of_lt hk
  rw[t1,t2 _ (by omega),t2 _ (by omega)];simp only [takeL,takeE,List.headD_cons,List.tail_cons,List.append_assoc,List.cons_append,List.nil_append,hQ,Nat.add_assoc]
def S168c:Sum:=fun n0 ρ σ K=>match n0,σ with
 | 0,⟨[(6,.v false [.int .u64 s]),(7,.v false [.int .i64 n]),(8,.v false [.sl b (.int .u32) vs]),(9,.v false [.wsl 0 1]),(10,.v false [.wsl 1 1]),(11,.v false [.int .i64 j]),(13,.v false [.int .u64 q]),(16,.v false [.int .u64 c]),(17,.v false [.int .u64 w]),(18,.v false [.int .i64 i])],
   [.arr el (.int .u32) us false true,.arr el' (.int .u32) qs false true]⟩ =>
  if(el=162/\el'=162/\c=0/\w=0/\i=0)/\(0<=n/\n<1000000000000/\n=List.length (α:=Int) vs)/\(0<=j/\j<1000000000000/\j.toNat+n.toNat<=List.length (α:=Int) us)/\okW vs/\okW us/\0<=q/\q<4294967296 then
   (let win:List Int:=List.take n.toNat (List.drop (α:=Int) j.toNat us)
    K (.exit 6) (σ168 b (List.take (α:=Int) j.toNat us++(takeL q 0 0 win vs++List.drop (α:=Int) (j.toNat+n.toNat) us)) vs qs s n j [(13,one (.int .u64 q)),(16,one (.int .u64 (takeE q 0 0 win vs).1)),(17,one (.int .u64 (takeE q 0 0 win vs).2))]))else none
 | _,_=>none
theorem sum168c(N:NumSem):SumOK N Tryz.prog 301 (loopAt Tryz.f135 3) S168c:=
 SumOK.of_turns (Vz3_ok N) mixT (A:=A168) (SumsOK.none fun _=>rfl) fun n0 ρ σ K r h=>by
  unfold S168c at h;split at h
  ·rename_i s n b vs j q c w i el us el' qs;split at h
   ·rename_i hc;obtain⟨⟨rfl,rfl,rfl,rfl,rfl⟩,⟨n2,n3,n4⟩,⟨j0,j1,j2⟩,hv,hu,hq⟩:=hc;obtain⟨n,rfl⟩:=Int.eq_ofNat_of_zero_le n2;obtain⟨j,rfl⟩:=Int.eq_ofNat_of_zero_le j0;simp only [Int.toNat_natCast]at h j2;have hl:=loop168c K b vs qs s n j (List.length (α:=Int) us) q hq hv (Int.ofNat_inj.1 n4.symm) (by omega) (by omega) j2 n 0 us 0 0 (Nat.zero_add _) rfl hu (by omega) (by omega) (by omega) (by omega);exact⟨_,hl.trans h⟩
   ·contradiction
  ·contradiction
section
variable {ρ:Type} (K:Exit->St->Option ρ) (go:St->Option ρ) (b:Option Bool) (us vs qs:List tW.den) (s n j:Int)
theorem turn168d(q c i:Int):turnF Vz3 A168 301 0 0 (loopAt Tryz.f135 4) K go (σ168 b us vs qs s n j [(13,one (.int .u64 q)),(22,one (.int .u64 c)),(23,one (.int .i64 i))]) =
  bif decide (i<n)then(if 0<=IntKind.i64.wrap (i+j)/\IntKind.i64.wrap (i+j)<us.length then(us[0+(IntKind.i64.wrap (i+j)).toNat]?).bind fun u=>if 0<=i then(vs[i.toNat]?).bind fun x =>
   if 0<=IntKind.i64.wrap (i+j)/\IntKind.i64.wrap (i+j)<us.length then(us[0+(IntKind.i64.wrap (i+j)).toNat]?).bind fun _ =>
    go (σ168 b (us.set (0+(IntKind.i64.wrap (i+j)).toNat) (IntKind.u32.wrap (IntKind.u64.wrap (IntKind.u64.wrap (IntKind.u64.wrap u+IntKind.u64.wrap x)+c)))) vs qs s n j
     [(13,one (.int .u64 q)),(22,one (.int .u64 ((IntKind.u64.wrap (IntKind.u64.wrap (IntKind.u64.wrap u+IntKind.u64.wrap x)+c)).fdiv (2 ^ min (Int.toNat 32) IntKind.u64.bits)))),(23,one (.int .i64 (IntKind.i64.wrap (i+1))))])else none else none else none)
  else K (.exit 8) (σ168 b us vs qs s n j [(13,one (.int .u64 q)),(22,one (.int .u64 c))]):=by kernel_rfl
end
theorem loop168d{ρ:Type} (K:Exit->St->Option ρ) (b:Option Bool) (vs qs:List tW.den) (s:Int) (n j Z:Nat) (q:Int) (hv:okW vs) (hn:vs.length=n) (hn':n<1000000000000) (hj':j<1000000000000) (hj:j+n<=Z) :
  ∀ (m i:Nat) (us:List tW.den) (c:Int),i+m=n->us.length=Z->okW us->0<=c->c<=1 ->
  itF (turnF Vz3 A168 301 0 0 (loopAt Tryz.f135 4) K) (fun _=>none) (m+1) (σ168 b us vs qs s n j [(13,one (.int .u64 q)),(22,one (.int .u64 c)),(23,one (.int .i64 i))]) =
   K (.exit 8) (σ168 b (us.take (j+i)++(giveL c ((us.drop (j+i)).take m) (vs.drop i)++us.drop (j+n))) vs qs s n j
    [(13,one (.int .u64 q)),(22,one (.int .u64 (giveC c ((us.drop (j+i)).take m) (vs.drop i))))]):=by
 intro m
 induction m with
 | zero =>
  intro i us c hi hz hu h0 h1;have e:i=n:=by omega
  rw[itF_succ,turn168d,decide_eq_false (by omega),cond_false,e];simp only [List.take_zero,giveL,giveC,List.nil_append,List.take_append_drop]
 | succ m ih =>
  intro i us c hi hz hu h0 h1;have hil:i<vs.length:=by omega
  have hju:j+i<us.length:=by omega
  have hp:(0:Int)<=i:=by omega
  have e1:IntKind.i64.wrap ((i:Int)+j)=((j+i:Nat):Int):=by rw[i64_nat] <;> omega
  have e2:IntKind.i64.wrap ((i:Int)+1)=((i+1:Nat):Int):=by rw[i64_nat] <;> omega
  have hpz:(0:Int)<=((j+i:Nat):Int)/\((j+i:Nat):Int)<us.length:=by omega
  have hxb:=hv _ (List.getElem_mem hil);have hub:=hu _ (List.getElem_mem hju);have dz:(us.drop (j+i)).take (m+1)=us[j+i] :: (us.drop (j+i+1)).take m:=by
   rw[List.drop_eq_getElem_cons hju,List.take_succ_cons]
  have dv:vs.drop i=vs[i] :: vs.drop (i+1):=List.drop_eq_getElem_cons hil;rw[itF_succ,turn168d,decide_eq_true (by omega),cond_true,e1,if_pos hpz,Int.toNat_natCast,Nat.zero_add,List.getElem?_eq_getElem hju,Option.bind_some,if_pos hp,Int.toNat_natCast,List.getElem?_eq_getElem hil,Option.bind_some,if_pos hpz,Option.bind_some,e2,dz,dv];generalize hxv:(vs[i]:Int)=x at *;generalize huv:(us[j+i]:Int)=u at *;have f1:IntKind.u64.wrap (IntKind.u64.wrap (IntKind.u64.wrap u+IntKind.u64.wrap x)+c)=u+x+c:=by
   rw[u64_id x hxb.1 (by omega),u64_id u hub.1 (by omega),u64_id (u+x) (by omega) (by omega),u64_id _ (by omega) (by omega)]
  rw[f1,shr32,IntKind.wrap_u32];have hdb:0<=(u+x+c) % 4294967296/\(u+x+c) % 4294967296<4294967296:=⟨Int.emod_nonneg _ (by decide),Int.emod_lt_of_pos _ (by decide)⟩;rw[ih (i+1) _ _ (by omega) (by simpa using hz) (okW_set hu hdb) (by omega) (by omega)];have t1:(us.set (j+i) ((u+x+c) % 4294967296)).take (j+(i+1))=us.take (j+i) ++ [(u+x+c) % 4294967296]:=by
   rw[<- Nat.add_assoc];exact take_set_one us _ _ hju
  have t2:∀ k,j+i<k->(us.set (j+i) ((u+x+c) % 4294967296)).drop k=us.drop k:=fun k hk=>List.drop_set_of_lt hk
  rw[t1,t2 _ (by omega),t2 _ (by omega)];simp only [giveL,giveC,List.headD_cons,List.tail_cons,List.append_assoc,List.cons_append,List.nil_append,Nat.add_assoc]
def S168d:Sum:=fun n0 ρ σ K=>match n0,σ with
 | 0,⟨[(6,.v false [.int .u64 s]),(7,.v false [.int .i64 n]),(8,.v false [.sl b (.int .u32) vs]),(9,.v false [.wsl 0 1]),(10,.v false [.wsl 1 1]),(11,.v false [.int .i64 j]),(13,.v false [.int .u64 q]),(22,.v false [.int .u64 c]),(23,.v false [.int .i64 i])],
   [.arr el (.int .u32) us false true,.arr el' (.int .u32) qs false true]⟩ =>
  if(el=162/\el'=162/\c=0/\i=0)/\(0<=n/\n<1000000000000/\n=List.length (α:=Int) vs)/\(0<=j/\j<1000000000000/\j.toNat+n.toNat<=List.length (α:=Int) us)/\okW vs/\okW us then
   (let win:List Int:=List.take n.toNat (List.drop (α:=Int) j.toNat us)
    K (.exit 8) (σ168 b (List.take (α:=Int) j.toNat us++(giveL 0 win vs++List.drop (α:=Int) (j.toNat+n.toNat) us)) vs qs s n j [(13,one (.int .u64 q)),(22,one (.int .u64 (giveC 0 win vs)))]))else none
 | _,_=>none
theorem sum168d(N:NumSem):SumOK N Tryz.prog 301 (loopAt Tryz.f135 4) S168d:=
 SumOK.of_turns (Vz3_ok N) mixT (A:=A168) (SumsOK.none fun _=>rfl) fun n0 ρ σ K r h=>by
  unfold S168d at h;split at h
  ·rename_i s n b vs j q c i el us el' qs;split at h
   ·rename_i hc;obtain⟨⟨rfl,rfl,rfl,rfl⟩,⟨n2,n3,n4⟩,⟨j0,j1,j2⟩,hv,hu⟩:=hc;obtain⟨n,rfl⟩:=Int.eq_ofNat_of_zero_le n2;obtain⟨j,rfl⟩:=Int.eq_ofNat_of_zero_le j0;simp only [Int.toNat_natCast]at h j2;have hl:=loop168d K b vs qs s n j (List.length (α:=Int) us) q hv (Int.ofNat_inj.1 n4.symm) (by omega) (by omega) j2 n 0 us 0 (Nat.zero_add _) rfl hu (by omega) (by omega);exact⟨_,hl.trans h⟩
   ·contradiction
  ·contradiction
end Go.Abs
namespace Go.Abs
open Go.Proofs
set_option maxRecDepth 100000
theorem take_snoc:∀ (d c w:Int) (us ys:List Int) (u:Int),ys.length=us.length ->
  takeL d c w (us ++ [u]) ys=takeL d c w us ys ++ [(u-(takeE d c w us ys).1 % 4294967296-(takeE d c w us ys).2) % 4294967296] /\
  (takeE d c w (us ++ [u]) ys).2=if u<(takeE d c w us ys).1 % 4294967296+(takeE d c w us ys).2 then 1 else 0
 | d,c,w,[],ys,u,h=>by
  have:ys=[]:=List.length_eq_zero_iff.1 h;subst this;refine⟨by simp [takeL,takeE],?_⟩;simp only [takeE,List.nil_append,List.headD_nil,Int.mul_zero,Int.add_zero]
  by_cases hu:u<c % 4294967296+w
  ·exact(if_pos hu).trans (if_pos hu).symm
  ·exact(if_neg hu).trans (if_neg hu).symm
 | d,c,w,v :: r,ys,u,h=>by
  cases ys with
  | nil=>simp at h
  | cons y ys =>
   have hl:ys.length=r.length:=by simpa using h
   constructor
   ·simp only [List.cons_append,takeL,takeE,List.headD_cons,List.tail_cons];exact congrArg _ (take_snoc d _ _ r ys u hl).1
   ·simp only [List.cons_append,takeE,List.headD_cons,List.tail_cons];exact(take_snoc d _ _ r ys u hl).2
theorem give_snoc:∀ (c:Int) (us ys:List Int) (u:Int),ys.length=us.length->giveL c (us ++ [u]) ys=giveL c us ys ++ [(u+giveC c us ys) % 4294967296]
 | c,[],ys,u,h=>by
  have:ys=[]:=List.length_eq_zero_iff.1 h;subst this;simp [giveL,giveC]
 | c,v :: r,ys,u,h=>by
  cases ys with
  | nil=>simp at h
  | cons y ys =>
   have h1:=give_snoc ((v+y+c) / 4294967296) r ys u (by simpa using h);simp only [List.cons_append,giveL,giveC,List.headD_cons,List.tail_cons,h1]
section
variable {ρ:Type} (K:Exit->St->Option ρ) (go:St->Option ρ) (b:Option Bool) (us vs qs:List tW.den) (s n j:Int)
def fin168e(us2:List tW.den) (q:Int):Option ρ:=
 if 0<=j/\j<qs.length then(qs[0+j.toNat]?).bind fun _=>go (σ168 b us2 vs (qs.set (0+j.toNat) (IntKind.u32.wrap q)) s n (IntKind.i64.wrap (j-1)) [])else none
def giv168e(us2:List tW.den) (q C:Int):Option ρ:=
 if 0<=IntKind.i64.wrap (j+n)/\IntKind.i64.wrap (j+n)<us2.length then(us2[0+(IntKind.i64.wrap (j+n)).toNat]?).bind fun u =>
  if 0<=IntKind.i64.wrap (j+n)/\IntKind.i64.wrap (j+n)<us2.length then(us2[0+(IntKind.i64.wrap (j+n)).toNat]?).bind fun _ =>
   fin168e go b vs qs s n j (us2.set (0+(IntKind.i64.wrap (j+n)).toNat) (IntKind.u32.wrap (u+IntKind.u32.wrap C))) (IntKind.u64.wrap (q-1))else none else none
def back168e(us1:List tW.den) (q t:Int):Option ρ:=
 bif t.fdiv (2 ^ min (Int.toNat 63) IntKind.u64.bits)==1 then
  (if(162=162/\162=162/\(0:Int)=0/\(0:Int)=0)/\(0<=n/\n<1000000000000/\n=List.length (α:=Int) vs)/\(0<=j/\j<1000000000000/\j.toNat+n.toNat<=List.length (α:=Int) us1)/\okW vs/\okW us1 then
   (let win:List Int:=List.take n.toNat (List.drop (α:=Int) j.toNat us1)
    giv168e go b vs qs s n j (List.take (α:=Int) j.toNat us1++(giveL 0 win vs++List.drop (α:=Int) (j.toNat+n.toNat) us1)) q (giveC 0 win vs))else none)
 else fin168e go b vs qs s n j us1 q
def mid168e(us1:List tW.den) (q E1 E2:Int):Option ρ:=
 if 0<=IntKind.i64.wrap (j+n)/\IntKind.i64.wrap (j+n)<us1.length then(us1[0+(IntKind.i64.wrap (j+n)).toNat]?).bind fun u =>
  if 0<=IntKind.i64.wrap (j+n)/\IntKind.i64.wrap (j+n)<us1.length then(us1[0+(IntKind.i64.wrap (j+n)).toNat]?).bind fun _ =>
   (let t:=IntKind.u64.wrap (IntKind.u64.wrap (IntKind.u64.wrap u-E1)-E2)
    back168e go b vs qs s n j (us1.set (0+(IntKind.i64.wrap (j+n)).toNat) (IntKind.u32.wrap t)) q t)else none else none
def take168e(q:Int):Option ρ:=
 if(162=162/\162=162/\(0:Int)=0/\(0:Int)=0/\(0:Int)=0)/\(0<=n/\n<1000000000000/\n=List.length (α:=Int) vs)/\(0<=j/\j<1000000000000/\j.toNat+n.toNat<=List.length (α:=Int) us)/\okW vs/\okW us/\0<=q/\q<4294967296 then
  (let win:List Int:=List.take n.toNat (List.drop (α:=Int) j.toNat us)
   mid168e go b vs qs s n j (List.take (α:=Int) j.toNat us++(takeL q 0 0 win vs++List.drop (α:=Int) (j.toNat+n.toNat) us)) q (takeE q 0 0 win vs).1 (takeE q 0 0 win vs).2)else none
def guess168e(g r:Int):Option ρ:=
 if(162=162/\162=162/\(0:Int)=0)/\(2<=n/\n<1000000000000/\n=List.length (α:=Int) vs)/\(0<=j/\j<1000000000000/\j.toNat+n.toNat<List.length (α:=Int) us)/\okW vs/\okW us/\(0<=g/\g<8589934592)/\0<=r/\r<8589934592 then
  take168e go b us vs qs s n j (corr (List.getD (α:=Int) vs (n.toNat-1) 0) (List.getD (α:=Int) vs (n.toNat-2) 0) (List.getD (α:=Int) us (j.toNat+n.toNat-2) 0) 3 g r).1 else none
end
def A168m:Ann:={ A168 with sum:=fun i=>bif Nat.beq i 19 then some S168b else bif Nat.beq i 26 then some S168c else bif Nat.beq i 39 then some S168d else none }
def o168(us qs:List tW.den) (s n:Int):St:=⟨[(6,one (.int .u64 s)),(7,one (.int .i64 n)),(9,one (.wsl 0 1)),(10,one (.wsl 1 1))],[.arr 162 tW us false true,.arr 162 tW qs false true]⟩
theorem turn168e{ρ:Type} (K:Exit->St->Option ρ) (go:St->Option ρ) (b:Option Bool) (us vs qs:List tW.den) (s n j:Int) :
  turnF Vz3 A168m 301 0 0 (loopAt Tryz.f135 1) K go (σ168 b us vs qs s n j []) =
  bif decide (0<=j)then
   (if 0<=IntKind.i64.wrap (j+n)/\IntKind.i64.wrap (j+n)<us.length then(us[0+(IntKind.i64.wrap (j+n)).toNat]?).bind fun a =>
    if 0<=IntKind.i64.wrap (IntKind.i64.wrap (j+n)-1)/\IntKind.i64.wrap (IntKind.i64.wrap (j+n)-1)<us.length then(us[0+(IntKind.i64.wrap (IntKind.i64.wrap (j+n)-1)).toNat]?).bind fun a' =>
     (let num:=bits .or .u64 (IntKind.u64.wrap (IntKind.u64.wrap a*2 ^ min (Int.toNat 32) IntKind.u64.bits)) (IntKind.u64.wrap a')
      if 0<=IntKind.i64.wrap (n-1)then(vs[(IntKind.i64.wrap (n-1)).toNat]?).bind fun x=>if IntKind.u64.wrap x=0 then none else
      if 0<=IntKind.i64.wrap (n-1)then(vs[(IntKind.i64.wrap (n-1)).toNat]?).bind fun x'=>if IntKind.u64.wrap x'=0 then none else
       guess168e go b us vs qs s n j (IntKind.u64.wrap (num.tdiv (IntKind.u64.wrap x))) (num.tmod (IntKind.u64.wrap x'))else none else none)else none else none)
  else K (.exit 2) (o168 us qs s n):=by kernel_rfl
theorem stepU_eq{vs us:List Int} {j L:Nat} (hv:okW vs) (hn:2<=vs.length) (hT:2147483648<=vs.getD (vs.length-1) 0) (hu:okW us) (hL:us.length=L) (hj:j+vs.length<L) (hw:val (us.drop (j+1))<val vs)
  (g:Int) (hg:g=(guess vs us j).1) :
  let n:=vs.length
  let win:=(us.drop j).take n
  let us1:=us.take j++(takeL g 0 0 win vs++us.drop (j+n))
  let u:=us.getD (j+n) 0
  let E:=takeE g 0 0 win vs
  (0<=E.1/\E.1<4294967296)/\(0<=E.2/\E.2<=1)/\us1.length=L/\us1.getD (j+n) 0=u /\
  us1.set (j+n) ((u-E.1-E.2) % 4294967296)=tkZ g j (n+1) us vs/\tkE g j (n+1) us vs=(if u<E.1+E.2 then 1 else 0):=by
 obtain⟨_,_,_,_,_,_,_,_,g0,g1⟩:=step_ok hv hn hT hu hL hj hw;rw[<- hg]at g0 g1;have hju:j+vs.length<us.length:=by omega
 have hwl:((us.drop j).take vs.length).length=vs.length:=by rw[List.length_take,List.length_drop];omega
 have hwin:(us.drop j).take (vs.length+1)=(us.drop j).take vs.length ++ [us.getD (j+vs.length) 0]:=by
  rw[List.take_add_one,List.getElem?_drop,getD_some hju];rfl
 obtain⟨t1,⟨t2,t3⟩,t4,t5⟩:=takeL_val g 0 0 ((us.drop j).take vs.length) vs ⟨g0,g1⟩ (okW_take (okW_drop hu _) _) hv (by omega) (by omega) (by omega) (by omega) (by omega);obtain⟨s1,s2⟩:=take_snoc g 0 0 ((us.drop j).take vs.length) vs (us.getD (j+vs.length) 0) hwl.symm;have hem:(takeE g 0 0 ((us.drop j).take vs.length) vs).1 % 4294967296=(takeE g 0 0 ((us.drop j).take vs.length) vs).1:=by omega
 rw[hem]at s1 s2;have htl:=takeL_length g 0 0 ((us.drop j).take vs.length) vs;have hdr:us.drop (j+vs.length)=us.getD (j+vs.length) 0 :: us.drop (j+vs.length+1):=by
  rw[List.drop_eq_getElem_cons hju];congr 1;rw[List.getD_eq_getElem?_getD,List.getElem?_eq_getElem hju];rfl
 have htj:(us.take j).length=j:=by rw[List.length_take];omega
 refine⟨⟨t2,t3⟩,⟨t4,t5⟩,?_,?_,?_,?_⟩
 ·simp only [List.length_append,List.length_drop,htl,hwl,htj];omega
 ·rw[List.getD_eq_getElem?_getD,List.getElem?_append_right (by omega),htj,List.getElem?_append_right (by omega),htl,hwl,hdr];have:j+vs.length-j-vs.length=0:=by omega
  rw[this];rfl
 ·unfold tkZ;rw[hwin,s1,List.set_append_right _ _ (by omega),htj,List.set_append_right _ _ (by omega),htl,hwl,hdr];have:j+vs.length-j-vs.length=0:=by omega
  rw[this,List.set_cons_zero,List.append_assoc];rfl
 ·unfold tkE;rw[hwin,s2]
theorem give_eq{vs us:List Int} {j L:Nat} (hL:us.length=L) (hj:j+vs.length<L) :
  let n:=vs.length
  let win:=(us.drop j).take n
  let us2:=us.take j++(giveL 0 win vs++us.drop (j+n))
  us2.length=L/\us2.getD (j+n) 0=us.getD (j+n) 0/\us2.set (j+n) ((us.getD (j+n) 0+giveC 0 win vs) % 4294967296)=gvZ j (n+1) us vs:=by
 have hju:j+vs.length<us.length:=by omega
 have hwl:((us.drop j).take vs.length).length=vs.length:=by rw[List.length_take,List.length_drop];omega
 have hwin:(us.drop j).take (vs.length+1)=(us.drop j).take vs.length ++ [us.getD (j+vs.length) 0]:=by
  rw[List.take_add_one,List.getElem?_drop,getD_some hju];rfl
 have s1:=give_snoc 0 ((us.drop j).take vs.length) vs (us.getD (j+vs.length) 0) hwl.symm;have htl:=giveL_length 0 ((us.drop j).take vs.length) vs;have hdr:us.drop (j+vs.length)=us.getD (j+vs.length) 0 :: us.drop (j+vs.length+1):=by
  rw[List.drop_eq_getElem_cons hju];congr 1;rw[List.getD_eq_getElem?_getD,List.getElem?_eq_getElem hju];rfl
 have htj:(us.take j).length=j:=by rw[List.length_take];omega
 refine⟨?_,?_,?_⟩
 ·simp only [List.length_append,List.length_drop,htl,hwl,htj];omega
 ·rw[List.getD_eq_getElem?_getD,List.getElem?_append_right (by omega),htj,List.getElem?_append_right (by omega),htl,hwl,hdr];have:j+vs.length-j-vs.length=0:=by omega
  rw[this];rfl
 ·unfold gvZ;rw[hwin,s1,List.set_append_right _ _ (by omega),htj,List.set_append_right _ _ (by omega),htl,hwl,hdr];have:j+vs.length-j-vs.length=0:=by omega
  rw[this,List.set_cons_zero,List.append_assoc];rfl
end Go.Abs
namespace Go.Abs
open Go.Proofs
set_option maxRecDepth 100000
section
variable {ρ:Type} (go:St->Option ρ) (b:Option Bool) (vs qs:List tW.den) (s:Int) (n j:Nat)
theorem fin168e_eq(us2:List tW.den) (q:Int) (hj:j<qs.length) (hj':j<1000000000000) (hq:0<=q/\q<4294967296) :
  fin168e go b vs qs s n j us2 q=go (σ168 b us2 vs (qs.set j q) s n ((j:Int)-1) []):=by
 unfold fin168e;have e1:IntKind.i64.wrap ((j:Int)-1)=(j:Int)-1:=by rw[IntKind.wrap_i64];omega
 have e2:IntKind.u32.wrap q=q:=by rw[IntKind.wrap_u32];omega
 rw[if_pos ⟨by omega,by omega⟩,Int.toNat_natCast,Nat.zero_add,List.getElem?_eq_getElem hj,Option.bind_some,e1,e2]
theorem giv168e_eq(us2:List tW.den) (q C:Int) (hj:j<qs.length) (hj':j<1000000000000) (hn:n<1000000000000) (hq:1<=q/\q<4294967296) (hL:j+n<us2.length) (hC:0<=C/\C<=1) (u:Int) (hu:us2[j+n]? = some u) :
  giv168e go b vs qs s n j us2 q C=go (σ168 b (us2.set (j+n) ((u+C) % 4294967296)) vs (qs.set j (q-1)) s n ((j:Int)-1) []):=by
 unfold giv168e;have w1:IntKind.i64.wrap ((j:Int)+n)=((j+n:Nat):Int):=by rw[i64_nat] <;> omega
 have e2:IntKind.u32.wrap C=C:=by rw[IntKind.wrap_u32];omega
 have e3:IntKind.u64.wrap (q-1)=q-1:=u64_id _ (by omega) (by omega);rw[w1,if_pos ⟨by omega,by omega⟩,Int.toNat_natCast,Nat.zero_add,hu,Option.bind_some,if_pos ⟨by omega,by omega⟩,Option.bind_some,e2,e3,IntKind.wrap_u32,
  fin168e_eq go b vs qs s n j _ _ hj hj' ⟨by omega,by omega⟩]
theorem mid168e_eq(us1:List tW.den) (q E1 E2:Int) (hj':j<1000000000000) (hn:n<1000000000000) (hL:j+n<us1.length) (h1:0<=E1/\E1<4294967296) (h2:0<=E2/\E2<=1) (u:Int) (hu:us1[j+n]? = some u) (hub:0<=u/\u<4294967296) :
  mid168e go b vs qs s n j us1 q E1 E2=back168e go b vs qs s n j (us1.set (j+n) ((u-E1-E2) % 4294967296)) q ((u-E2-E1) % 18446744073709551616):=by
 unfold mid168e;have w1:IntKind.i64.wrap ((j:Int)+n)=((j+n:Nat):Int):=by rw[i64_nat] <;> omega
 have e2:IntKind.u64.wrap (IntKind.u64.wrap (IntKind.u64.wrap u-E1)-E2)=(u-E2-E1) % 18446744073709551616:=by
  rw[u64_id u hub.1 (by omega),IntKind.wrap_u64,IntKind.wrap_u64];omega
 have e3:IntKind.u32.wrap ((u-E2-E1) % 18446744073709551616)=(u-E1-E2) % 4294967296:=by rw[IntKind.wrap_u32];omega
 rw[w1,if_pos ⟨by omega,by omega⟩,Int.toNat_natCast,Nat.zero_add,hu,Option.bind_some,if_pos ⟨by omega,by omega⟩,Option.bind_some];simp only [];rw[e2,e3]
end
theorem turn168e_ok{ρ:Type} (K:Exit->St->Option ρ) (go:St->Option ρ) (b:Option Bool) (us vs qs:List Int) (s:Int) (j L:Nat) (hv:okW vs) (hn:2<=vs.length) (hT:2147483648<=vs.getD (vs.length-1) 0) (hu:okW us) (hL:us.length=L) (hj:j+vs.length<L)
  (hw:val (us.drop (j+1))<val vs) (hL':L<1000000000000) (hq:j<qs.length) :
  turnF Vz3 A168m 301 0 0 (loopAt Tryz.f135 1) K go (σ168 b us vs qs s vs.length j [])=go (σ168 b (stepU vs us j).2 vs (qs.set j (stepU vs us j).1) s vs.length ((j:Int)-1) []):=by
 obtain⟨o1,o2,o3,o4,o5,o6,o7,o8,o9,o10⟩:=step_ok hv hn hT hu hL hj hw;obtain⟨p1,p2,p3,p4,p5,p6⟩:=stepU_eq hv hn hT hu hL hj hw (guess vs us j).1 rfl;have w1:IntKind.i64.wrap ((j:Int)+vs.length)=((j+vs.length:Nat):Int):=by rw[i64_nat] <;> omega
 have w2:IntKind.i64.wrap (((j+vs.length:Nat):Int)-1)=((j+vs.length-1:Nat):Int):=by rw[i64_nat] <;> omega
 have w3:IntKind.i64.wrap ((vs.length:Int)-1)=((vs.length-1:Nat):Int):=by rw[i64_nat] <;> omega
 have hlu:(us:List tW.den).length=L:=hL;have hqq:j<(qs:List tW.den).length:=hq;have g1:(us:List tW.den)[j+vs.length]? = some (us.getD (j+vs.length) 0):=getD_some (xs:=us) (by omega);have g2:(us:List tW.den)[j+vs.length-1]? = some (us.getD (j+vs.length-1) 0):=getD_some (xs:=us) (by omega);have g3:(vs:List tW.den)[vs.length-1]? = some (vs.getD (vs.length-1) 0):=getD_some (xs:=vs) (by omega);have b1:=okW_getD hu (j+vs.length);have b2:=okW_getD hu (j+vs.length-1);have b3:=okW_getD hv (vs.length-1);rw[turn168e,decide_eq_true (by omega),cond_true,w1,w2,w3,if_pos ⟨by omega,by omega⟩,Int.toNat_natCast,Nat.zero_add,g1,Option.bind_some,if_pos ⟨by omega,by omega⟩,Int.toNat_natCast,Nat.zero_add,g2,Option.bind_some];simp only [];rw[if_pos (by omega),Int.toNat_natCast,g3,Option.bind_some];have hp:(2:Int) ^ min (Int.toNat 32) IntKind.u64.bits=4294967296:=by decide
 rw[hp,u64_id (us.getD (j+vs.length) 0) b1.1 (by omega),u64_id (us.getD (j+vs.length-1) 0) b2.1 (by omega),u64_id (vs.getD (vs.length-1) 0) b3.1 (by omega),u64_id (us.getD (j+vs.length) 0*4294967296) (by omega) (by omega),or_u64 _ _ b1 b2];have hh0:0<=us.getD (j+vs.length) 0*4294967296+us.getD (j+vs.length-1) 0:=by omega
 have hq1:0<=(us.getD (j+vs.length) 0*4294967296+us.getD (j+vs.length-1) 0) / vs.getD (vs.length-1) 0:=Int.ediv_nonneg hh0 b3.1;have hq2:(us.getD (j+vs.length) 0*4294967296+us.getD (j+vs.length-1) 0) / vs.getD (vs.length-1) 0<8589934592:=by
  rw[Int.ediv_lt_iff_lt_mul (by omega)];omega
 have hr1:=Int.emod_nonneg (us.getD (j+vs.length) 0*4294967296+us.getD (j+vs.length-1) 0) (b:=vs.getD (vs.length-1) 0) (by omega);have hr2:=Int.emod_lt_of_pos (us.getD (j+vs.length) 0*4294967296+us.getD (j+vs.length-1) 0) (b:=vs.getD (vs.length-1) 0) (by omega);rw[if_neg (by omega),if_pos (by omega),Option.bind_some,u64_id (vs.getD (vs.length-1) 0) b3.1 (by omega),if_neg (by omega),Int.tdiv_eq_ediv_of_nonneg hh0,Int.tmod_eq_emod_of_nonneg hh0,u64_id _ hq1 (by omega)];unfold guess168e;rw[Int.toNat_natCast,Int.toNat_natCast,if_pos ⟨⟨rfl,rfl,rfl⟩,⟨by omega,by omega,rfl⟩,⟨by omega,by omega,by omega⟩,hv,hu,⟨hq1,hq2⟩,hr1,by omega⟩];have hge:(corr (List.getD (α:=Int) vs (vs.length-1) 0) (List.getD (α:=Int) vs (vs.length-2) 0) (List.getD (α:=Int) us (j+vs.length-2) 0) 3 ((us.getD (j+vs.length) 0*4294967296+us.getD (j+vs.length-1) 0) / vs.getD (vs.length-1) 0) ((us.getD (j+vs.length) 0*4294967296+us.getD (j+vs.length-1) 0) % vs.getD (vs.length-1) 0)).1=(guess vs us j).1:=rfl;rw[hge];have hstep:stepU vs us j=if 0<tkE (guess vs us j).1 j (vs.length+1) us vs then((guess vs us j).1-1,gvZ j (vs.length+1) (tkZ (guess vs us j).1 j (vs.length+1) us vs) vs)else((guess vs us j).1,tkZ (guess vs us j).1 j (vs.length+1) us vs):=rfl
 generalize hg:(guess vs us j).1=g at *;unfold take168e;rw[Int.toNat_natCast,Int.toNat_natCast,if_pos ⟨⟨rfl,rfl,rfl,rfl,rfl⟩,⟨by omega,by omega,rfl⟩,⟨by omega,by omega,by show j+vs.length<=us.length;omega⟩,hv,hu,o9,o10⟩];have hmid:=mid168e_eq go b vs qs s vs.length j (List.take j us++(takeL g 0 0 (List.take vs.length (List.drop j us)) vs++List.drop (j+vs.length) us)) g (takeE g 0 0 (List.take vs.length (List.drop j us)) vs).1 (takeE g 0 0 (List.take vs.length (List.drop j us)) vs).2 (by omega) (by omega)
  (by show j+vs.length<(List.take j us++(takeL g 0 0 (List.take vs.length (List.drop j us)) vs++List.drop (j+vs.length) us)).length;omega) p1 p2 (us.getD (j+vs.length) 0) (by rw[<- p4];exact getD_some (xs:=(List.take j us++(takeL g 0 0 (List.take vs.length (List.drop j us)) vs++List.drop (j+vs.length) us))) (by omega)) b1
 refine hmid.trans ?_;have hset:((List.take j us++(takeL g 0 0 (List.take vs.length (List.drop j us)) vs++List.drop (j+vs.length) us):List tW.den).set (j+vs.length) ((us.getD (j+vs.length) 0-(takeE g 0 0 (List.take vs.length (List.drop j us)) vs).1-(takeE g 0 0 (List.take vs.length (List.drop j us)) vs).2) % 4294967296):List tW.den)=tkZ g j (vs.length+1) us vs:=p5;rw[hset];have htl:(tkZ g j (vs.length+1) us vs).length=L:=by rw[tkZ_length g (by omega)];exact hL
 have hto:okW (tkZ g j (vs.length+1) us vs):=tkZ_ok g hu;generalize hE1:(takeE g 0 0 (List.take vs.length (List.drop j us)) vs).1=E1 at *;generalize hE2:(takeE g 0 0 (List.take vs.length (List.drop j us)) vs).2=E2 at *;unfold back168e;rw[shr63,bor64 _ E1 E2 b1 p1 p2.1 p2.2]
 by_cases hb:us.getD (j+vs.length) 0<E1+E2
 ·rw[if_pos hb]at p6;rw[p6,if_pos (by omega)]at hstep;rw[if_pos hb,show ((1:Int)==1)=true from rfl,cond_true,Int.toNat_natCast,Int.toNat_natCast,if_pos ⟨⟨rfl,rfl,rfl,rfl⟩,⟨by omega,by omega,rfl⟩,⟨by omega,by omega,by show j+vs.length<=(tkZ g j (vs.length+1) us vs).length;omega⟩,hv,hto⟩];rw[hstep]at o6 o7 ⊢;simp only []at o6 o7 ⊢;obtain⟨e1,e2,e3⟩:=give_eq (vs:=vs) (us:=tkZ g j (vs.length+1) us vs) htl hj;obtain⟨c1,c2,c3⟩:=giveL_val 0 (List.take vs.length (List.drop j (tkZ g j (vs.length+1) us vs))) vs (okW_take (okW_drop hto _) _) hv (by omega) (by omega) (by rw[List.length_take,List.length_drop];omega);have hgiv:=giv168e_eq go b vs qs s vs.length j (List.take j (tkZ g j (vs.length+1) us vs)++(giveL 0 (List.take vs.length (List.drop j (tkZ g j (vs.length+1) us vs))) vs++List.drop (j+vs.length) (tkZ g j (vs.length+1) us vs))) g
   (giveC 0 (List.take vs.length (List.drop j (tkZ g j (vs.length+1) us vs))) vs) hqq (by omega) (by omega) (by omega)
   (by show j+vs.length<(List.take j (tkZ g j (vs.length+1) us vs)++(giveL 0 (List.take vs.length (List.drop j (tkZ g j (vs.length+1) us vs))) vs++List.drop (j+vs.length) (tkZ g j (vs.length+1) us vs))).length;omega) ⟨c2,c3⟩
   ((tkZ g j (vs.length+1) us vs).getD (j+vs.length) 0) (by rw[<- e2];exact getD_some (xs:=(List.take j (tkZ g j (vs.length+1) us vs)++(giveL 0 (List.take vs.length (List.drop j (tkZ g j (vs.length+1) us vs))) vs++List.drop (j+vs.length) (tkZ g j (vs.length+1) us vs)))) (by omega))
  refine hgiv.trans ?_;have hs3:((List.take j (tkZ g j (vs.length+1) us vs)++(giveL 0 (List.take vs.length (List.drop j (tkZ g j (vs.length+1) us vs))) vs++List.drop (j+vs.length) (tkZ g j (vs.length+1) us vs)):List tW.den).set (j+vs.length)
   (((tkZ g j (vs.length+1) us vs).getD (j+vs.length) 0+giveC 0 (List.take vs.length (List.drop j (tkZ g j (vs.length+1) us vs))) vs) % 4294967296):List tW.den)=gvZ j (vs.length+1) (tkZ g j (vs.length+1) us vs) vs:=e3
  rw[hs3]
 ·rw[if_neg hb]at p6;rw[p6,if_neg (by omega)]at hstep;rw[if_neg hb,show ((0:Int)==1)=false from rfl,cond_false,fin168e_eq go b vs qs s vs.length j _ _ hqq (by omega) ⟨o9,o10⟩,hstep]
theorem loop168e{ρ:Type} (K:Exit->St->Option ρ) (b:Option Bool) (vs:List Int) (s:Int) (L:Nat) (hv:okW vs) (hn:2<=vs.length) (hT:2147483648<=vs.getD (vs.length-1) 0) (hL':L<1000000000000) :
  ∀ (m:Nat) (us qs:List Int),okW us->us.length=L->m+vs.length<=L->val (us.drop m)<val vs->m<=qs.length ->
  itF (turnF Vz3 A168m 301 0 0 (loopAt Tryz.f135 1) K) (fun _=>none) (m+1) (σ168 b us vs qs s vs.length ((m:Int)-1) [])=K (.exit 2) (o168 (divGo vs m us qs).1 (divGo vs m us qs).2 s vs.length):=by
 intro m
 induction m with
 | zero =>
  intro us qs hu hL hm hw hq;rw[itF_succ,turn168e,decide_eq_false (by omega),cond_false];rfl
 | succ m ih =>
  intro us qs hu hL hm hw hq;have e0:((m+1:Nat):Int)-1=m:=by omega
  obtain⟨o1,o2,o3,o4,o5,o6,o7,_⟩:=step_ok hv hn hT hu hL (j:=m) (by omega) hw;rw[itF_succ,e0,turn168e_ok K _ b us vs qs s m L hv hn hT hu hL (by omega) hw hL' (by omega)];have hvp:0<val vs:=by
   have:=val_nonneg (okW_drop hu (m+1));omega
  rw[ih _ _ o2 o3 (by omega) (by rw[o5];exact Int.emod_lt_of_pos _ hvp) (by rw[List.length_set];omega)];rfl
def S168e:Sum:=fun n0 ρ σ K=>match n0,σ with
 | 0,⟨[(6,.v false [.int .u64 s]),(7,.v false [.int .i64 n]),(8,.v false [.sl b (.int .u32) vs]),(9,.v false [.wsl 0 1]),(10,.v false [.wsl 1 1]),(11,.v false [.int .i64 j])],
   [.arr el (.int .u32) us false true,.arr el' (.int .u32) qs false true]⟩ =>
  if(el=162/\el'=162)/\(n=List.length (α:=Int) vs/\2<=List.length (α:=Int) vs/\okW vs/\2147483648<=List.getD (α:=Int) vs (List.length (α:=Int) vs-1) 0)/\(-1<=j/\(j+1).toNat+List.length (α:=Int) vs<=List.length (α:=Int) us/\List.length (α:=Int) us<1000000000000) /\
   okW us/\val (List.drop (α:=Int) (j+1).toNat us)<val vs/\(j+1).toNat<=List.length (α:=Int) qs then
   K (.exit 2) (o168 (divGo vs (j+1).toNat us qs).1 (divGo vs (j+1).toNat us qs).2 s n)else none
 | _,_=>none
theorem loops168:loopsOf (loopAt Tryz.f135 1)=[loopAt Tryz.f135 2,loopAt Tryz.f135 3,loopAt Tryz.f135 4]:=by kernel_rfl
theorem sum168e(N:NumSem):SumOK N Tryz.prog 301 (loopAt Tryz.f135 1) S168e:=
 SumOK.of_turns (Vz3_ok N) mixT (A:=A168m) (SumsOK.ofL loops168 ⟨sumL1 (by kernel_rfl) (sum168b N),sumL1 (by kernel_rfl) (sum168c N),sumL1 (by kernel_rfl) (sum168d N),trivial⟩) fun n0 ρ σ K r h=>by
  unfold S168e at h;split at h
  ·rename_i s n b vs j el us el' qs;split at h
   ·rename_i hc;obtain⟨⟨rfl,rfl⟩,⟨rfl,hn,hv,hT⟩,⟨hj,hj2,hL⟩,hu,hw,hq⟩:=hc;obtain⟨m,hm⟩:=Int.eq_ofNat_of_zero_le (by omega:0<=j+1);have hj3:j=(m:Int)-1:=by omega
    rw[hm]at h hj2 hw hq;rw[Int.toNat_natCast]at h hj2 hw hq;subst hj3;exact⟨_,(loop168e K b vs s _ hv hn hT hL m us qs hu rfl hj2 hw hq).trans h⟩
   ·contradiction
  ·contradiction
end Go.Abs

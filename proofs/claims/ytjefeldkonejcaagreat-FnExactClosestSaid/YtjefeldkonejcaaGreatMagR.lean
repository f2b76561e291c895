/-
 A PART OF THE PROOF of ClI (texts MagR MagS MagT): the claim itself stands in the last text. No conditions beside those of the given row.
-/
import Derived.Test.YtjefeldkonejcaaGreatMagL
set_option linter.unusedVariables false
set_option linter.unnecessarySimpa false
set_option linter.unusedSimpArgs false
namespace Go.Abs
theorem okW_get{xs:List Int} (h:okW xs) {i:Nat} {x:Int} (hx:xs[i]? = some x):0<=x/\x<4294967296:=h x (List.mem_of_getElem? hx)
theorem okW_getD{xs:List Int} (h:okW xs) (i:Nat):0<=xs.getD i 0/\xs.getD i 0<4294967296:=by
 rw[List.getD_eq_getElem?_getD];cases hx:xs[i]? with
 | none=>simp
 | some x=>simpa using okW_get h hx
theorem val_split(xs:List Int) {n:Nat} (h:n<=xs.length):val xs=val (xs.take n)+4294967296 ^ n*val (xs.drop n):=by
 have:=val_append (xs.take n) (xs.drop n);rw[List.take_append_drop,List.length_take,Nat.min_eq_left h]at this;exact this
theorem val_drop(xs:List Int) {n:Nat} (h:n<xs.length):val (xs.drop n)=xs.getD n 0+4294967296*val (xs.drop (n+1)):=by
 rw[List.drop_eq_getElem_cons h];simp only [val];rw[List.getD_eq_getElem?_getD,List.getElem?_eq_getElem h];rfl
theorem val_set(xs:List Int) {j:Nat} (h:j<xs.length) (g:Int):val (xs.set j g)=val xs+(g-xs.getD j 0)*4294967296 ^ j:=by
 have h1:=val_split (xs.set j g) (n:=j) (by simp;omega);have h2:=val_split xs (n:=j) (by omega);have h3:=val_drop (xs.set j g) (n:=j) (by simpa using h);have h4:=val_drop xs h;rw[List.take_set_of_le (Nat.le_refl _)]at h1;rw[List.drop_set_of_lt (show j<j+1 by omega)]at h3;have h5:(xs.set j g).getD j 0=g:=by rw[List.getD_eq_getElem?_getD,List.getElem?_set_self h];rfl
 rw[h5]at h3;rw[h1,h2,h3,h4,Int.sub_mul,Int.mul_comm g,Int.mul_comm (xs.getD j 0),Int.mul_add,Int.mul_add];omega
theorem takeE_one:∀ (d c w:Int) (us ys:List Int),(0<=d/\d<4294967296)->okW ys->0<=c->c<4294967296->ys.length<us.length->(takeE d c w us ys).1=0
 | d,c,w,[],ys,hd,hy,h0,h1,hl=>by simp at hl
 | d,c,w,u :: r,ys,hd,hy,h0,h1,hl=>by
  simp only [takeE];have b1:=okW_head hy;have hm:=word_mul hd b1;cases ys with
  | nil =>
   simp only [List.headD_nil,Int.mul_zero,Int.add_zero,List.tail_nil];have e0:c / 4294967296=0:=by omega
   rw[e0];cases r with
   | nil=>rfl
   | cons u' r'=>exact takeE_one d 0 _ (u' :: r') [] hd (by simp [okW]) (by omega) (by omega) (by simp)
  | cons y s =>
   refine takeE_one d _ _ r s hd (okW_cons.1 hy).2 ?_ ?_ (by simp at hl;omega)
   all_goals simp only [List.headD_cons]at *;omega
theorem tkZ_length(d:Int) {off len:Nat} {zs ys:List Int} (h:off+len<=zs.length):(tkZ d off len zs ys).length=zs.length:=by
 unfold tkZ;rw[List.length_append,List.length_append,takeL_length,List.length_take,List.length_drop,List.length_take,List.length_drop];omega
theorem tkZ_ok(d:Int) {off len:Nat} {zs ys:List Int} (h:okW zs):okW (tkZ d off len zs ys):=
 okW_append (okW_take h _) (okW_append (takeL_ok _ _ _ _ _) (okW_drop h _))
theorem gvZ_length{off len:Nat} {zs ys:List Int} (h:off+len<=zs.length):(gvZ off len zs ys).length=zs.length:=by
 unfold gvZ;rw[List.length_append,List.length_append,giveL_length,List.length_take,List.length_drop,List.length_take,List.length_drop];omega
theorem gvZ_ok{off len:Nat} {zs ys:List Int} (h:okW zs):okW (gvZ off len zs ys):=
 okW_append (okW_take h _) (okW_append (giveL_ok _ _ _) (okW_drop h _))
def guess(vs us:List Int) (j:Nat):Int × Int:=
 let n:=vs.length
 let head:=us.getD (j+n) 0*4294967296+us.getD (j+n-1) 0
 corr (vs.getD (n-1) 0) (vs.getD (n-2) 0) (us.getD (j+n-2) 0) 3 (head / vs.getD (n-1) 0) (head % vs.getD (n-1) 0)
def stepU(vs us:List Int) (j:Nat):Int × List Int:=
 let g:=(guess vs us j).1
 if 0<tkE g j (vs.length+1) us vs then(g-1,gvZ j (vs.length+1) (tkZ g j (vs.length+1) us vs) vs)else(g,tkZ g j (vs.length+1) us vs)
def divGo(vs:List Int):Nat->List Int->List Int->List Int × List Int
 | 0,us,qs=>(us,qs)
 | j+1,us,qs=>divGo vs j (stepU vs us j).2 (qs.set j (stepU vs us j).1)
theorem getD_take_drop(xs:List Int) (j m i:Nat) (h:i<m):((xs.drop j).take m).getD i 0=xs.getD (j+i) 0:=by
 rw[List.getD_eq_getElem?_getD,List.getD_eq_getElem?_getD,List.getElem?_take_of_lt h,List.getElem?_drop]
theorem val_top3(ws:List Int) (n:Nat) (hn:2<=n) (hl:ws.length=n+1):val ws=val (ws.take (n-2))+4294967296 ^ (n-2)*((ws.getD n 0*4294967296+ws.getD (n-1) 0)*4294967296+ws.getD (n-2) 0):=by
 rw[val_split ws (n:=n-2) (by omega),val_drop ws (n:=n-2) (by omega),val_drop ws (n:=n-2+1) (by omega),val_drop ws (n:=n-2+1+1) (by omega)];rw[List.drop_eq_nil_of_le (by omega),show n-2+1=n-1 by omega,show n-1+1=n by omega];simp only [val];congr 2;omega
theorem val_top2(ws:List Int) (n:Nat) (hn:2<=n) (hl:ws.length=n):val ws=val (ws.take (n-2))+4294967296 ^ (n-2)*(ws.getD (n-1) 0*4294967296+ws.getD (n-2) 0):=by
 rw[val_split ws (n:=n-2) (by omega),val_drop ws (n:=n-2) (by omega),val_drop ws (n:=n-2+1) (by omega)];rw[List.drop_eq_nil_of_le (by omega),show n-2+1=n-1 by omega];simp only [val];congr 2;omega
theorem okW_val_take{ws:List Int} (h:okW ws) {k:Nat} (hk:k<=ws.length):0<=val (ws.take k)/\val (ws.take k)<4294967296 ^ k:=by
 have h1:=val_nonneg (okW_take h k);have h2:=val_lt (okW_take h k);rw[List.length_take,Nat.min_eq_left hk]at h2;exact⟨h1,h2⟩
theorem step_ok{vs us:List Int} {j L:Nat} (hv:okW vs) (hn:2<=vs.length) (hT:2147483648<=vs.getD (vs.length-1) 0) (hu:okW us) (hL:us.length=L) (hj:j+vs.length<L) (hw:val (us.drop (j+1))<val vs) :
  (stepU vs us j).1=val (us.drop j) / val vs/\okW (stepU vs us j).2/\(stepU vs us j).2.length=L/\(stepU vs us j).2.take j=us.take j/\val ((stepU vs us j).2.drop j)=val (us.drop j) % val vs /\
  0<=(stepU vs us j).1/\(stepU vs us j).1<4294967296/\tooBig (vs.getD (vs.length-2) 0) (us.getD (j+vs.length-2) 0) (guess vs us j).1 (guess vs us j).2=false/\0<=(guess vs us j).1/\(guess vs us j).1<4294967296:=by
 generalize hn':vs.length=n at *;have hwl:((us.drop j).take (n+1)).length=n+1:=by rw[List.length_take,List.length_drop];omega
 have hwo:okW ((us.drop j).take (n+1)):=okW_take (okW_drop hu _) _;have hsp:=val_split (us.drop j) (n:=n+1) (by rw[List.length_drop];omega);have hV:=val_lt hv;rw[hn']at hV;have hV0:=val_nonneg hv;have hr0:=val_nonneg (okW_drop hu (j+1));have hd:=val_drop us (n:=j) (by omega);have hd':=okW_getD hu j;have hab:val ((us.drop j).drop (n+1))=0:=by
  have h1:val (us.drop (j+1))=val ((us.drop (j+1)).take n)+4294967296 ^ n*val ((us.drop (j+1)).drop n):=val_split _ (by rw[List.length_drop];omega);have h2:=val_nonneg (okW_take (okW_drop hu (j+1)) n);have h3:=val_nonneg (okW_drop (okW_drop hu (j+1)) n);have e:(us.drop j).drop (n+1)=(us.drop (j+1)).drop n:=by rw[List.drop_drop,List.drop_drop];congr 1;omega
  rw[e];rcases Int.lt_or_le 0 (val ((us.drop (j+1)).drop n))with hp | hp
  ·exfalso;have:4294967296 ^ n*1<=4294967296 ^ n*val ((us.drop (j+1)).drop n):=Int.mul_le_mul_of_nonneg_left hp (Int.le_of_lt (Int.pow_pos (by omega)));omega
  ·omega
 rw[hab,Int.mul_zero,Int.add_zero]at hsp;generalize hws:(us.drop j).take (n+1)=ws at *;have hW:val (us.drop j)=val ws:=hsp;generalize hWv:val ws=W at *;generalize hVv:val vs=V at *;have hWlt:W<V*4294967296:=by omega
 have g2:ws.getD n 0=us.getD (j+n) 0:=by rw[<- hws];exact getD_take_drop us j (n+1) n (by omega)
 have g1:ws.getD (n-1) 0=us.getD (j+n-1) 0:=by rw[<- hws,getD_take_drop us j (n+1) (n-1) (by omega)];congr 1;omega
 have g0:ws.getD (n-2) 0=us.getD (j+n-2) 0:=by rw[<- hws,getD_take_drop us j (n+1) (n-2) (by omega)];congr 1;omega
 have t3:=val_top3 ws n hn hwl;have t2:=val_top2 vs n hn hn';rw[hWv,g2,g1,g0]at t3;rw[hVv]at t2;have lo3:=okW_val_take hwo (k:=n-2) (by omega);have lo2:=okW_val_take hv (k:=n-2) (by omega);have b2:=okW_getD hu (j+n);have b1:=okW_getD hu (j+n-1);have b0:=okW_getD hu (j+n-2);have c1:=okW_getD hv (n-1);have c2:=okW_getD hv (n-2);have hP:(1:Int)<=4294967296 ^ (n-2):=Int.pow_pos (by omega);generalize val (ws.take (n-2))=wl at *;generalize val (vs.take (n-2))=vl at *;have hVpos:0<V:=by
  have:0<4294967296 ^ (n-2)*(vs.getD (n-1) 0*4294967296+vs.getD (n-2) 0):=Int.mul_pos (by omega) (by omega);omega
 have hQ0:W / V*V<=W:=Int.ediv_mul_le W (by omega);have hQ1:W<(W / V+1)*V:=Int.lt_ediv_add_one_mul_self W hVpos;have hW0:0<=W:=by rw[<- hWv];exact val_nonneg hwo
 have hQ2:0<=W / V:=Int.ediv_nonneg hW0 (by omega);have top:Top (vs.getD (n-1) 0) (vs.getD (n-2) 0) (us.getD (j+n) 0) (us.getD (j+n-1) 0) (us.getD (j+n-2) 0) (4294967296 ^ (n-2)) V W (W / V):=
  {T0:=hT,T1:=c1.2,v20:=c2.1,v21:=c2.2,u20:=b2.1,u21:=b2.2,u10:=b1.1,u11:=b1.2,u00:=b0.1,u01:=b0.2,P0:=hP
   V0:=by rw[Int.mul_comm]at t2;omega
   V1:=by rw[Int.add_mul _ 1,Int.one_mul];rw[Int.mul_comm]at t2;omega
   W0:=by rw[Int.mul_comm]at t3;omega
   W1:=by rw[Int.add_mul _ 1,Int.one_mul];rw[Int.mul_comm]at t3;omega
   Q0:=hQ0,Q1:=hQ1,Q2:=hQ2,WV:=hWlt }
 have hTpos:0<vs.getD (n-1) 0:=by omega
 have hem:=Int.emod_add_mul_ediv (us.getD (j+n) 0*4294967296+us.getD (j+n-1) 0) (vs.getD (n-1) 0);have hr1:=Int.emod_nonneg (us.getD (j+n) 0*4294967296+us.getD (j+n-1) 0) (b:=vs.getD (n-1) 0) (by omega);have hr2:=Int.emod_lt_of_pos (us.getD (j+n) 0*4294967296+us.getD (j+n-1) 0) hTpos;have hgr:(us.getD (j+n) 0*4294967296+us.getD (j+n-1) 0) / vs.getD (n-1) 0*vs.getD (n-1) 0+(us.getD (j+n) 0*4294967296+us.getD (j+n-1) 0) % vs.getD (n-1) 0=us.getD (j+n) 0*4294967296+us.getD (j+n-1) 0:=by
  rw[Int.mul_comm];omega
 have hgs:guess vs us j=corr (vs.getD (n-1) 0) (vs.getD (n-2) 0) (us.getD (j+n-2) 0) 3 ((us.getD (j+n) 0*4294967296+us.getD (j+n-1) 0) / vs.getD (n-1) 0) ((us.getD (j+n) 0*4294967296+us.getD (j+n-1) 0) % vs.getD (n-1) 0):=by
  unfold guess;rw[hn']
 have hcorr:=top.corr_ok 3 hgr hr1 (top.first hgr hr2) (by have:=top.first_near hgr hr1;omega);rw[<- hgs]at hcorr;obtain⟨k1,k2,k3,k4⟩:=hcorr;have hbl:∀ zs:List Int,okW zs->zs.length=n+1->0<=val zs/\val zs<4294967296 ^ (n+1):=fun zs h1 h2=>⟨val_nonneg h1,by rw[<- h2];exact val_lt h1⟩
 have hVn:V<4294967296 ^ (n+1):=by
  rw[Int.pow_succ];have:(0:Int)<4294967296 ^ n:=Int.pow_pos (by omega);omega
 generalize hg:(guess vs us j).1=g at *;have hlen:j+(n+1)<=us.length:=by omega
 obtain⟨tv,te1,te2,te3⟩:=takeL_val g 0 0 ws vs ⟨by omega,k4⟩ hwo hv (by omega) (by omega) (by omega) (by omega) (by omega);have te0:=takeE_one g 0 0 ws vs ⟨by omega,k4⟩ hv (by omega) (by omega) (by omega);rw[hwl,te0,hWv,hVv]at tv;have hE:tkE g j (n+1) us vs=(takeE g 0 0 ws vs).2:=by unfold tkE;rw[hws]
 have hZ:tkZ g j (n+1) us vs=us.take j++(takeL g 0 0 ws vs++us.drop (j+(n+1))):=by unfold tkZ;rw[hws]
 have tb:=hbl (takeL g 0 0 ws vs) (takeL_ok _ _ _ _ _) (by rw[takeL_length];exact hwl);have tl:(takeL g 0 0 ws vs).length=n+1:=by rw[takeL_length];exact hwl
 have hR:=Int.emod_add_mul_ediv W V;have hR0:=Int.emod_nonneg W (b:=V) (by omega);have hR1:=Int.emod_lt_of_pos W hVpos;have hab':val (us.drop (j+(n+1)))=0:=by rw[<- List.drop_drop];exact hab
 have hjl:(us.take j).length=j:=by rw[List.length_take];omega
 unfold stepU;simp only [hn',hg];rw[hE];refine⟨?_,?_,?_,?_,?_,?_,?_,k1,by omega,k4⟩ <;> (try rw[hW])
 all_goals
  rcases (show g=W / V\/g=W / V+1 by omega)with hgq | hgq
  ·have e1:g*V=V*(W / V):=by rw[hgq,Int.mul_comm]
   have hE0:(takeE g 0 0 ws vs).2=0:=by
    rcases Int.lt_or_le 0 (takeE g 0 0 ws vs).2 with hp | hp
    ·have h1:(takeE g 0 0 ws vs).2=1:=by omega
     rw[h1]at tv;omega
    ·omega
   rw[hE0]at tv ⊢;rw[if_neg (by omega)];have hval:val (takeL g 0 0 ws vs)=W % V:=by omega
   first
    | exact hgq
    | exact tkZ_ok g hu
    | (show (tkZ g j (n+1) us vs).length=L;rw[tkZ_length g hlen];exact hL)
    | (show (tkZ g j (n+1) us vs).take j=us.take j;rw[hZ,List.take_append_of_le_length (by omega),List.take_of_length_le (by omega)])
    | (show val ((tkZ g j (n+1) us vs).drop j)=W % V;rw[hZ,List.drop_append_of_le_length (by omega),List.drop_eq_nil_of_le (by omega),List.nil_append,val_append,hab',hval];omega)
    | (show 0<=g;omega)
    | (show g<4294967296;exact k4)
  ·have e1:g*V=V*(W / V)+V:=by rw[hgq,Int.add_mul,Int.one_mul,Int.mul_comm]
   have hE1:(takeE g 0 0 ws vs).2=1:=by
    rcases Int.lt_or_le 0 (takeE g 0 0 ws vs).2 with hp | hp
    ·omega
    ·have h1:(takeE g 0 0 ws vs).2=0:=by omega
     rw[h1]at tv;omega
   rw[hE1]at tv ⊢;rw[if_pos (by omega)];have hzl:(tkZ g j (n+1) us vs).length=L:=by rw[tkZ_length g hlen];exact hL
   have hwin:((tkZ g j (n+1) us vs).drop j).take (n+1)=takeL g 0 0 ws vs:=by
    rw[hZ,List.drop_append_of_le_length (by omega),List.drop_eq_nil_of_le (by omega),List.nil_append,List.take_append_of_le_length (by omega),List.take_of_length_le (by omega)]
   have hlow:(tkZ g j (n+1) us vs).take j=us.take j:=by rw[hZ,List.take_append_of_le_length (by omega),List.take_of_length_le (by omega)]
   have hup:(tkZ g j (n+1) us vs).drop (j+(n+1))=us.drop (j+(n+1)):=by
    rw[hZ,<- List.append_assoc,List.drop_append_of_le_length (by rw[List.length_append];omega),List.drop_eq_nil_of_le (by rw[List.length_append];omega),List.nil_append]
   have hG:gvZ j (n+1) (tkZ g j (n+1) us vs) vs=us.take j++(giveL 0 (takeL g 0 0 ws vs) vs++us.drop (j+(n+1))):=by unfold gvZ;rw[hwin,hlow,hup]
   obtain⟨gv,gc1,gc2⟩:=giveL_val 0 (takeL g 0 0 ws vs) vs (takeL_ok _ _ _ _ _) hv (by omega) (by omega) (by omega);rw[tl,hVv]at gv;have gb:=hbl (giveL 0 (takeL g 0 0 ws vs) vs) (giveL_ok _ _ _) (by rw[giveL_length];exact tl);have gl:(giveL 0 (takeL g 0 0 ws vs) vs).length=n+1:=by rw[giveL_length];exact tl
   have hval:val (giveL 0 (takeL g 0 0 ws vs) vs)=W % V:=by
    rcases (show giveC 0 (takeL g 0 0 ws vs) vs=0\/giveC 0 (takeL g 0 0 ws vs) vs=1 by omega)with hc | hc
    ·rw[hc]at gv;omega
    ·rw[hc]at gv;omega
   first
    | (show g-1=W / V;omega)
    | (show okW (gvZ j (n+1) (tkZ g j (n+1) us vs) vs);exact gvZ_ok (tkZ_ok g hu))
    | (show (gvZ j (n+1) (tkZ g j (n+1) us vs) vs).length=L;rw[gvZ_length (by omega)];exact hzl)
    | (show (gvZ j (n+1) (tkZ g j (n+1) us vs) vs).take j=us.take j;rw[hG,List.take_append_of_le_length (by omega),List.take_of_length_le (by omega)])
    | (show val ((gvZ j (n+1) (tkZ g j (n+1) us vs) vs).drop j)=W % V;rw[hG,List.drop_append_of_le_length (by omega),List.drop_eq_nil_of_le (by omega),List.nil_append,val_append,hab',hval];omega)
    | (show 0<=g-1;omega)
    | (show g-1<4294967296;omega)
theorem divGo_ok{vs:List Int} {L:Nat} (hv:okW vs) (hn:2<=vs.length) (hT:2147483648<=vs.getD (vs.length-1) 0):∀ (j:Nat) {us qs:List Int},okW us->us.length=L->j+vs.length<=L->val (us.drop j)<val vs ->
  okW qs->j<=qs.length->(∀ i,i<j->qs.getD i 0=0) ->
  okW (divGo vs j us qs).1/\(divGo vs j us qs).1.length=L/\okW (divGo vs j us qs).2/\(divGo vs j us qs).2.length=qs.length/\val (divGo vs j us qs).1<val vs /\
   val (divGo vs j us qs).1+val vs*val (divGo vs j us qs).2=val us+val vs*val qs
 | 0,us,qs,hu,hL,hj,hw,hq,hql,hqz=>⟨hu,hL,hq,rfl,hw,rfl⟩
 | j+1,us,qs,hu,hL,hj,hw,hq,hql,hqz=>by
  obtain⟨s1,s2,s3,s4,s5,s6,s7,_⟩:=step_ok hv hn hT hu hL (by omega) hw;have hVpos:0<val vs:=by
   have:=val_nonneg (okW_drop hu (j+1));omega
  have hm1:=Int.emod_lt_of_pos (val (us.drop j)) hVpos;obtain⟨i1,i2,i3,i4,i5,i6⟩:=divGo_ok hv hn hT j (us:=(stepU vs us j).2) (qs:=qs.set j (stepU vs us j).1) s2 s3 (by omega) (by rw[s5];exact hm1) (okW_set hq ⟨s6,s7⟩) (by simp;omega) (fun i hi=>by
   rw[List.getD_eq_getElem?_getD,List.getElem?_set_ne (by omega),<- List.getD_eq_getElem?_getD];exact hqz i (by omega))
  refine⟨i1,i2,i3,by simpa [divGo] using i4,i5,?_⟩;show val (divGo vs j _ _).1+val vs*val (divGo vs j _ _).2=_;rw[i6,val_set qs (by omega),hqz j (by omega),s1];have e1:=val_split (stepU vs us j).2 (n:=j) (by omega);have e2:=val_split us (n:=j) (by omega);rw[s4,s5]at e1;have hR:=Int.emod_add_mul_ediv (val (us.drop j)) (val vs);rw[e1,e2,Int.sub_zero,Int.mul_add];generalize val (us.drop j) % val vs=R at *;generalize val (us.drop j) / val vs=Q at *;generalize val (us.take j)=lo at *;have e3:val vs*(Q*4294967296 ^ j)=4294967296 ^ j*(val vs*Q):=by rw[<- Int.mul_assoc,Int.mul_comm]
  rw[e3,<- hR,Int.mul_add];omega
def shrL(p:Int):List Int->List Int
 | []=>[]
 | x :: r=>((r.headD 0*4294967296+x) / p % 4294967296) :: shrL p r
theorem shrL_length(p:Int):∀ (xs:List Int),(shrL p xs).length=xs.length
 | []=>rfl
 | x :: r=>by simp [shrL,shrL_length p r]
theorem shrL_ok(p:Int):∀ (xs:List Int),okW (shrL p xs)
 | []=>by intro x hx;cases hx
 | x :: r=>by
  simp only [shrL];rw[okW_cons];exact⟨by omega,shrL_ok p r⟩
theorem shrL_val(p c:Int) (hp:0<p) (hpc:p*c=4294967296):∀ (xs:List Int),okW xs->val (shrL p xs)=val xs / p
 | [],_=>by simp [shrL,val]
 | x :: r,h=>by
  obtain⟨h1,h2⟩:=okW_cons.1 h;have hc:0<c:=by
   rcases Int.lt_or_le 0 c with h | h
   ·exact h
   ·exfalso;have:=Int.mul_nonpos_of_nonneg_of_nonpos (Int.le_of_lt hp) h;omega
  have hv:=val_nonneg h2;have hh:=okW_head h2;have hht:=val_head_tail r;have hv2:=val_nonneg (okW_tail h2);simp only [shrL,val];rw[shrL_val p c hp hpc r h2];generalize r.headD 0=hd at *;generalize val r.tail=t at *;generalize val r=v at *;have em:v % p=hd % p:=by
   rw[hht,show 4294967296*t=p*(c*t)by rw[<- hpc,Int.mul_assoc],Int.add_mul_emod_self_left]
  have d1:=Int.emod_add_mul_ediv v p;have d2:=Int.emod_add_mul_ediv hd p;have r1:=Int.emod_nonneg hd (b:=p) (by omega);have r2:=Int.emod_lt_of_pos hd hp;rw[em]at d1;generalize hd % p=m at *;generalize v / p=qv at *;generalize hd / p=qh at *;have e1:hd*4294967296+x=(4294967296*m+x)+p*(4294967296*qh):=by
   rw[<- d2,Int.add_mul,Int.mul_comm m,Int.mul_assoc p qh,Int.mul_comm qh];omega
  have e2:x+4294967296*v=(4294967296*m+x)+p*(4294967296*qv):=by
   rw[<- d1,Int.mul_add,<- Int.mul_assoc 4294967296 p,Int.mul_comm 4294967296 p,Int.mul_assoc p];omega
  rw[e1,e2,Int.add_mul_ediv_left _ _ (by omega),Int.add_mul_ediv_left _ _ (by omega)];have b0:0<=(4294967296*m+x) / p:=Int.ediv_nonneg (by omega) (by omega);have b1:(4294967296*m+x) / p<4294967296:=by
   rw[Int.ediv_lt_iff_lt_mul hp];have:4294967296*m<=4294967296*(p-1):=by omega
   omega
  generalize (4294967296*m+x) / p=y at *;omega
end Go.Abs
namespace Go.Abs
open Go.Proofs
set_option maxRecDepth 100000
theorem itF_succ{α β:Type} (F:(α->β)->α->β) (z:α->β) (n:Nat) (x:α):itF F z (n+1) x=F (itF F z n) x:=rfl
def V6:Env:={ T:=tryT,E:=[],Γ:=gamL [(150,cmpMagO),(205,shortMagO),(182,trimmedU),(206,lz32O),(207,shiftMagO),(208,takeTimesO),(209,giveBackO)] }
theorem V6_ok(N:NumSem):EnvOK N Tryz.prog V6:=
 {T:=TabOk.of tryT_ok,E:=fun p hp=>(by cases hp),Γ:=gamC (orc209 N) Tryz.call150 (gamC (orc244 N) Tryz.call205 (gamC (orc226u N) Tryz.call182 (gamC (orc245 N) Tryz.call206 (gamC (orc246 N) Tryz.call207 (gamC (orc247 N) Tryz.call208 (gamC (orc248 N) Tryz.call209 (gamN N _))))))) }
def A233:Ann:={ head:=ptOf [(8,[0,1,8,9,10,11],[11]),(12,[8,9,10,11,12,13,14],[]),(16,[8,9,10,11,12,13,14,16,17],[]),(24,[8,13,18,173,174],[])],out:=ptOf [(8,[8,9,10,11],[]),(12,[8,10,13],[]),(16,[8,9,10,11,12,13,14,16,17],[]),(24,[13,18],[])],shut:=true }
theorem turn233a{ρ:Type} (K:Exit->St->Option ρ) (go:St->Option ρ) (b b' bv:Option Bool) (xs ys zs vs:List tW.den) (s n:Int) (k:Nat) :
 turnF V6 A233 207 0 0 (loopAt Tryz.f193 0) K go ⟨[(0,one (.sl b tW xs)),(1,one (.sl b' tW ys)),(8,one (.int .u64 s)),(9,one (.int .i64 n)),(10,one (.osl 0 1 0 k)),(11,one (.sl bv tW vs))],[.arr 162 tW zs false true]⟩ =
 bif decide ((k:Int)<=xs.length)then
  let e:List tW.den:=List.take [(0:Int)].length (List.drop 0 [(0:Int)])
  if k<=zs.length/\k+e.length<=70368744177664/\(k+e.length)*4<=70368744177664 then
   go ⟨[(0,one (.sl b tW xs)),(1,one (.sl b' tW ys)),(8,one (.int .u64 s)),(9,one (.int .i64 n)),(10,one (.wsl 0 1)),(11,one (.sl bv tW vs))],[.arr 162 tW (List.take k zs++e) false true]⟩
  else none
 else K (.exit 0) ⟨[(8,one (.int .u64 s)),(9,one (.int .i64 n)),(10,one (.osl 0 1 0 k)),(11,one (.sl bv tW vs))],[.arr 162 tW zs false true]⟩:=by kernel_rfl
theorem turn233a'{ρ:Type} (K:Exit->St->Option ρ) (go:St->Option ρ) (b b' bv:Option Bool) (xs ys zs vs:List tW.den) (s n:Int) (h:xs.length<zs.length) :
 turnF V6 A233 207 0 0 (loopAt Tryz.f193 0) K go ⟨[(0,one (.sl b tW xs)),(1,one (.sl b' tW ys)),(8,one (.int .u64 s)),(9,one (.int .i64 n)),(10,one (.wsl 0 1)),(11,one (.sl bv tW vs))],[.arr 162 tW zs false true]⟩ =
 K (.exit 0) ⟨[(8,one (.int .u64 s)),(9,one (.int .i64 n)),(10,one (.wsl 0 1)),(11,one (.sl bv tW vs))],[.arr 162 tW zs false true]⟩:=by
 have e:turnF V6 A233 207 0 0 (loopAt Tryz.f193 0) K go ⟨[(0,one (.sl b tW xs)),(1,one (.sl b' tW ys)),(8,one (.int .u64 s)),(9,one (.int .i64 n)),(10,one (.wsl 0 1)),(11,one (.sl bv tW vs))],[.arr 162 tW zs false true]⟩ =
  bif decide ((zs.length:Int)<=xs.length)then(let e:List tW.den:=List.take [(0:Int)].length (List.drop 0 [(0:Int)])
   if zs.length+e.length<=70368744177664/\(zs.length+e.length)*4<=70368744177664 then
   go ⟨[(0,one (.sl b tW xs)),(1,one (.sl b' tW ys)),(8,one (.int .u64 s)),(9,one (.int .i64 n)),(10,one (.wsl 0 1)),(11,one (.sl bv tW vs))],[.arr 162 tW (zs++e) false true]⟩
   else none)else K (.exit 0) ⟨[(8,one (.int .u64 s)),(9,one (.int .i64 n)),(10,one (.wsl 0 1)),(11,one (.sl bv tW vs))],[.arr 162 tW zs false true]⟩:=by kernel_rfl
 rw[e,decide_eq_false (by omega),cond_false]
def upZ(xs zs:List Int) (k:Nat):List Int:=if k=xs.length then zs.take k ++ [0]else zs
def S233a:Sum:=fun n0 ρ σ K=>match n0,σ with
 | 0,⟨[(0,.v false [.sl b (.int .u32) xs]),(1,.v false [.sl b' (.int .u32) ys]),(8,.v false [.int .u64 s]),(9,.v false [.int .i64 n]),(10,.v false [.osl 0 1 0 k]),(11,.v false [.sl bv (.int .u32) vs])],[.arr el (.int .u32) zs false true]⟩ =>
  if el=162/\k<=zs.length/\zs.length=xs.length+1/\xs.length<1000000000000/\(k=xs.length\/k=xs.length+1)then
   K (.exit 0) ⟨[(8,one (.int .u64 s)),(9,one (.int .i64 n)),(10,one (.osl 0 1 0 (xs.length+1))),(11,one (.sl bv tW vs))],[.arr 162 tW (upZ xs zs k) false true]⟩else none
 | _,_=>none
theorem sum233a(N:NumSem):SumOK N Tryz.prog 207 (loopAt Tryz.f193 0) S233a:=by
 let S0:Sum:=fun n0 ρ σ K=>match n0,σ with
  | 0,⟨[(0,.v false [.sl b (.int .u32) xs]),(1,.v false [.sl b' (.int .u32) ys]),(8,.v false [.int .u64 s]),(9,.v false [.int .i64 n]),(10,.v false [.osl 0 1 0 k]),(11,.v false [.sl bv (.int .u32) vs])],[.arr el (.int .u32) zs false true]⟩ =>
   if el=162/\k<=zs.length/\zs.length=xs.length+1/\xs.length<1000000000000/\(k=xs.length\/k=xs.length+1)then
    (if k=xs.length then K (.exit 0) ⟨[(8,one (.int .u64 s)),(9,one (.int .i64 n)),(10,one (.wsl 0 1)),(11,one (.sl bv tW vs))],[.arr 162 tW (zs.take k ++ [0]) false true]⟩
     else K (.exit 0) ⟨[(8,one (.int .u64 s)),(9,one (.int .i64 n)),(10,one (.osl 0 1 0 k)),(11,one (.sl bv tW vs))],[.arr 162 tW zs false true]⟩)else none
  | _,_=>none
 have h0:SumOK N Tryz.prog 207 (loopAt Tryz.f193 0) S0:=
  SumOK.of_turns (V6_ok N) mixT (A:=A233) (SumsOK.none fun _=>rfl) fun n0 ρ σ K r h=>by
   simp only [S0]at h;split at h
   ·rename_i b xs b' ys s n k bv vs el zs;split at h
    ·rename_i hc;obtain⟨rfl,h1,h2,h3,h4⟩:=hc;split at h
     ·rename_i hk;refine⟨2,?_⟩;rw[itF_succ];refine(turn233a K _ b b' bv xs ys zs vs s n k).trans ?_;have e1:(List.take 1 (List.drop 0 [(0:Int)]):List tW.den)=[(0:Int)]:=rfl;have e2:([(0:Int)]:List tW.den).length=1:=rfl;simp only [e2,e1];rw[decide_eq_true (by omega),cond_true,if_pos (by omega),itF_succ,turn233a' _ _ _ _ _ _ _ _ _ _ _ (by
       show xs.length<(List.take k zs ++ [(0:Int)]).length;rw[List.length_append,List.length_take,Nat.min_eq_left h1,<- hk];exact Nat.lt_succ_self _)]
      exact h
     ·rename_i hk;refine⟨1,?_⟩;rw[itF_succ];refine(turn233a K _ b b' bv xs ys zs vs s n k).trans ?_;rw[decide_eq_false (by omega),cond_false];exact h
    ·contradiction
   ·contradiction
 refine SumOK.of_sum h0.wk fun n0 ρ σ K r h=>?_
 unfold S233a at h;split at h
 ·rename_i b xs b' ys s n k bv vs el zs;split at h
  ·rename_i hc;show (if el=162/\k<=zs.length/\zs.length=xs.length+1/\xs.length<1000000000000/\(k=xs.length\/k=xs.length+1)then
    (if k=xs.length then K (.exit 0) ⟨[(8,one (.int .u64 s)),(9,one (.int .i64 n)),(10,one (.osl 0 1 0 (List.length (α:=tW.den) (zs.take k ++ [0])))),(11,one (.sl bv tW vs))],[.arr 162 tW (zs.take k ++ [0]) false true]⟩
     else K (.exit 0) ⟨[(8,one (.int .u64 s)),(9,one (.int .i64 n)),(10,one (.osl 0 1 0 k)),(11,one (.sl bv tW vs))],[.arr 162 tW zs false true]⟩)else none)=some r
   rw[if_pos hc];unfold upZ at h
   by_cases hk:k=xs.length
   ·rw[if_pos hk]at h ⊢;have:List.length (α:=tW.den) (zs.take k ++ [0])=xs.length+1:=by
     show (List.take k zs ++ [(0:Int)]).length=_;rw[List.length_append,List.length_take,Nat.min_eq_left hc.2.1,hk];rfl
    rw[this];exact h
   ·rw[if_neg hk]at h ⊢;have:k=xs.length+1:=by omega
    rw[this];exact h
  ·contradiction
 ·contradiction
def σ233b(bv:Option Bool) (zs vs qs:List tW.den) (s n top j g r:Int) (k:Nat):St:=
 ⟨[(8,one (.int .u64 s)),(9,one (.int .i64 n)),(10,one (.osl 0 1 0 k)),(11,one (.sl bv tW vs)),(12,one (.int .u64 top)),(13,one (.wsl 1 1)),(14,one (.int .i64 j)),(16,one (.int .u64 g)),(17,one (.int .u64 r))],[.arr 162 tW zs false true,.arr 162 tW qs false true]⟩
theorem turn233b{ρ:Type} (K:Exit->St->Option ρ) (go:St->Option ρ) (bv:Option Bool) (zs vs qs:List tW.den) (s n top j g r:Int) (k:Nat) :
 turnF V6 A233 207 0 0 (loopAt Tryz.f193 2) K go (σ233b bv zs vs qs s n top j g r k) =
 bif decide (r<4294967296)then
  bif decide (4294967296<=g)then go (σ233b bv zs vs qs s n top j (IntKind.u64.wrap (g-1)) (IntKind.u64.wrap (r+top)) k)
  else
   if 0<=IntKind.i64.wrap (n-2)then
    (vs[(IntKind.i64.wrap (n-2)).toNat]?).bind fun x =>
     if 0<=IntKind.i64.wrap (IntKind.i64.wrap (j+n)-2)/\IntKind.i64.wrap (IntKind.i64.wrap (j+n)-2)<k then
      (zs[0+(IntKind.i64.wrap (IntKind.i64.wrap (j+n)-2)).toNat]?).bind fun y =>
       bif bif true then bif false then true else decide (bits .or .u64 (IntKind.u64.wrap (r*2 ^ min (Int.toNat 32) IntKind.u64.bits)) (IntKind.u64.wrap y)<IntKind.u64.wrap (g*IntKind.u64.wrap x))else false then
        go (σ233b bv zs vs qs s n top j (IntKind.u64.wrap (g-1)) (IntKind.u64.wrap (r+top)) k)
       else K (.exit 4) (σ233b bv zs vs qs s n top j g r k)
     else none
   else none
 else K (.exit 4) (σ233b bv zs vs qs s n top j g r k):=by kernel_rfl
theorem loop233b{ρ:Type} (K:Exit->St->Option ρ) (bv:Option Bool) (zs vs qs:List tW.den) (s top:Int) (n j k:Nat) (hn:vs.length=n) (hn2:2<=n) (hn3:n<1000000000000) (hj:j+n<k) (hk:k<=zs.length) (hj3:j<1000000000000)
  (hv:okW vs) (hz:okW zs) (htop:0<=top/\top<4294967296):∀ (m:Nat) (g r:Int),0<=g->g<1099511627776->0<=r->r+4294967296*m<1099511627776 ->
  tooBig (List.getD (α:=Int) vs (n-2) 0) (List.getD (α:=Int) zs (j+n-2) 0) (corr top (List.getD (α:=Int) vs (n-2) 0) (List.getD (α:=Int) zs (j+n-2) 0) m g r).1 (corr top (List.getD (α:=Int) vs (n-2) 0) (List.getD (α:=Int) zs (j+n-2) 0) m g r).2=false ->
  itF (turnF V6 A233 207 0 0 (loopAt Tryz.f193 2) K) (fun _=>none) (m+1) (σ233b bv zs vs qs s n top j g r k) =
   K (.exit 4) (σ233b bv zs vs qs s n top j (corr top (List.getD (α:=Int) vs (n-2) 0) (List.getD (α:=Int) zs (j+n-2) 0) m g r).1 (corr top (List.getD (α:=Int) vs (n-2) 0) (List.getD (α:=Int) zs (j+n-2) 0) m g r).2 k):=by
 obtain⟨x,hx⟩:∃ x:Int,vs[n-2]? = some x:=⟨_,List.getElem?_eq_getElem (by omega)⟩;obtain⟨y,hy⟩:∃ y:Int,zs[j+n-2]? = some y:=⟨_,List.getElem?_eq_getElem (by omega)⟩;have ex:List.getD (α:=Int) vs (n-2) 0=x:=by rw[List.getD_eq_getElem?_getD];exact congrArg (Option.getD · 0) hx
 have ey:List.getD (α:=Int) zs (j+n-2) 0=y:=by rw[List.getD_eq_getElem?_getD];exact congrArg (Option.getD · 0) hy
 have bx:0<=x/\x<4294967296:=okW_get hv hx;have by':0<=y/\y<4294967296:=okW_get hz hy
 rw[ex,ey];have turn:∀ (go:St->Option ρ) (g r:Int),0<=g->g<1099511627776->0<=r->r<1099511627776->turnF V6 A233 207 0 0 (loopAt Tryz.f193 2) K go (σ233b bv zs vs qs s n top j g r k) =
   bif tooBig x y g r then go (σ233b bv zs vs qs s n top j (IntKind.u64.wrap (g-1)) (IntKind.u64.wrap (r+top)) k)else K (.exit 4) (σ233b bv zs vs qs s n top j g r k):=by
  intro go g r g0 g1 r0 r1;rw[turn233b];unfold tooBig
  by_cases hr:r<4294967296
  ·rw[decide_eq_true hr,cond_true,Bool.true_and]
   by_cases hg:4294967296<=g
   ·rw[decide_eq_true hg,cond_true,Bool.true_or,cond_true]
   ·rw[decide_eq_false hg,cond_false,Bool.false_or];have e1:IntKind.i64.wrap ((n:Int)-2)=((n-2:Nat):Int):=by rw[i64_nat] <;> omega
    have e2:IntKind.i64.wrap (IntKind.i64.wrap ((j:Int)+n)-2)=((j+n-2:Nat):Int):=by rw[i64_nat ((j:Int)+n) (by omega) (by omega),i64_nat] <;> omega
    rw[e1,e2,if_pos (by omega),Int.toNat_natCast,hx,Option.bind_some,if_pos (by omega),Int.toNat_natCast,Nat.zero_add,hy,Option.bind_some];have e3:bits .or .u64 (IntKind.u64.wrap (r*2 ^ min (Int.toNat 32) IntKind.u64.bits)) (IntKind.u64.wrap y)=r*4294967296+y:=by
     rw[show (2:Int) ^ min (Int.toNat 32) IntKind.u64.bits=4294967296 by decide,u64_id _ (by omega) (by omega),u64_id _ (by omega) (by omega)];exact or_u64 r y ⟨r0,hr⟩ by'
    have hm:=word_mul (x:=g) (y:=x) ⟨g0,by omega⟩ bx;have e4:IntKind.u64.wrap (g*IntKind.u64.wrap x)=g*x:=by rw[u64_id x (by omega) (by omega),u64_id _ (by omega) (by omega)]
    rw[e3,e4];rfl
  ·rw[decide_eq_false hr,cond_false,Bool.false_and,cond_false]
 intro m
 induction m with
 | zero =>
  intro g r g0 g1 r0 r1 hb;rw[itF_succ,turn _ g r g0 g1 r0 (by omega)];simp only [corr]at hb ⊢;rw[hb,cond_false]
 | succ m ih =>
  intro g r g0 g1 r0 r1 hb;rw[itF_succ,turn _ g r g0 g1 r0 (by omega)];simp only [corr]at hb ⊢;cases hbb:tooBig x y g r with
  | false=>rw[cond_false,if_neg (by simp)]
  | true =>
   rw[hbb,if_pos rfl]at hb;have hg1:1<=g:=by
    rcases Int.lt_or_le g 1 with h | h
    ·exfalso;have e0:g=0:=by omega
     rw[e0]at hbb;simp only [tooBig,Bool.and_eq_true,Bool.or_eq_true,decide_eq_true_eq,Int.zero_mul]at hbb;omega
    ·exact h
   rw[cond_true,if_pos rfl,u64_id (g-1) (by omega) (by omega),u64_id (r+top) (by omega) (by omega)];exact ih (g-1) (r+top) (by omega) (by omega) (by omega) (by omega) hb
def S233b:Sum:=fun n0 ρ σ K=>match n0,σ with
 | 0,⟨[(8,.v false [.int .u64 s]),(9,.v false [.int .i64 n]),(10,.v false [.osl 0 1 0 k]),(11,.v false [.sl bv (.int .u32) vs]),(12,.v false [.int .u64 top]),(13,.v false [.wsl 1 1]),(14,.v false [.int .i64 j]),(16,.v false [.int .u64 g]),(17,.v false [.int .u64 r])],[.arr el (.int .u32) zs false true,.arr el' (.int .u32) qs false true]⟩ =>
  if(el=162/\el'=162/\n=vs.length/\2<=vs.length/\vs.length<1000000000000/\0<=j/\j<1000000000000/\j+vs.length<k/\k<=zs.length/\okW vs/\okW zs)/\(0<=top/\top<4294967296)/\0<=g/\g<1099511627776/\0<=r/\r<1000000000000 /\
   tooBig (List.getD (α:=Int) vs (vs.length-2) 0) (List.getD (α:=Int) zs (j.toNat+vs.length-2) 0) (corr top (List.getD (α:=Int) vs (vs.length-2) 0) (List.getD (α:=Int) zs (j.toNat+vs.length-2) 0) 3 g r).1 (corr top (List.getD (α:=Int) vs (vs.length-2) 0) (List.getD (α:=Int) zs (j.toNat+vs.length-2) 0) 3 g r).2=false then
   K (.exit 4) (σ233b bv zs vs qs s n top j (corr top (List.getD (α:=Int) vs (vs.length-2) 0) (List.getD (α:=Int) zs (j.toNat+vs.length-2) 0) 3 g r).1 (corr top (List.getD (α:=Int) vs (vs.length-2) 0) (List.getD (α:=Int) zs (j.toNat+vs.length-2) 0) 3 g r).2 k)else none
 | _,_=>none
theorem sum233b(N:NumSem):SumOK N Tryz.prog 207 (loopAt Tryz.f193 2) S233b:=
 SumOK.of_turns (V6_ok N) mixT (A:=A233) (SumsOK.none fun _=>rfl) fun n0 ρ σ K r' h=>by
  unfold S233b at h;split at h
  ·rename_i s n k bv vs top j g r el zs el' qs;split at h
   ·rename_i hc;obtain⟨⟨rfl,rfl,rfl,h1,h2,h3,h4,h5,h6,hv,hz⟩,ht,g0,g1,r0,r1,hb⟩:=hc;obtain⟨j,rfl⟩:=Int.eq_ofNat_of_zero_le h3;simp only [Int.toNat_natCast]at hb h;exact⟨4,(loop233b K bv zs vs qs s top vs.length j k rfl h1 h2 (by omega) h6 (by omega) hv hz ht 3 g r g0 g1 r0 (by omega) hb).trans h⟩
   ·contradiction
  ·contradiction
def A233m:Ann:={ A233 with sum:=fun i=>bif Nat.beq i 16 then some S233b else none }
def σ233c(bv:Option Bool) (zs vs qs:List tW.den) (s n top j:Int) (k:Nat):St:=
 ⟨[(8,one (.int .u64 s)),(9,one (.int .i64 n)),(10,one (.osl 0 1 0 k)),(11,one (.sl bv tW vs)),(12,one (.int .u64 top)),(13,one (.wsl 1 1)),(14,one (.int .i64 j))],[.arr 162 tW zs false true,.arr 162 tW qs false true]⟩
section
variable {ρ:Type} (K:Exit->St->Option ρ) (go:St->Option ρ) (bv:Option Bool) (zs vs qs:List tW.den) (s n top j:Int) (k:Nat)
def fin233(c:Int) (zs':List tW.den):Option ρ:=
 if 0<=j/\j<qs.length then(qs[0+j.toNat]?).bind fun _=>go (σ233c bv zs' vs (qs.set (0+j.toNat) (IntKind.u32.wrap c)) s n top (IntKind.i64.wrap (j-1)) k)else none
def mid233(c:Int):Option ρ:=
 let e:=IntKind.i64.wrap (IntKind.i64.wrap (j+n)+1)
 if 0<=j/\j<=e/\e<=k then
  if okW vs/\(0<=IntKind.u32.wrap c/\IntKind.u32.wrap c<4294967296)/\0+j.toNat+(e.toNat-j.toNat)<=zs.length/\zs.length<4611686018427387904/\okW zs then
   let zs1:=tkZ (IntKind.u32.wrap c) (0+j.toNat) (e.toNat-j.toNat) zs vs
   bif decide (0<tkE (IntKind.u32.wrap c) (0+j.toNat) (e.toNat-j.toNat) zs vs)then
    if 0<=j/\j<=e/\e<=k then
     if okW vs/\0+j.toNat+(e.toNat-j.toNat)<=zs1.length/\zs1.length<4611686018427387904/\okW zs1 then
      fin233 go bv vs qs s n top j k (IntKind.u64.wrap (c-1)) (gvZ (0+j.toNat) (e.toNat-j.toNat) zs1 vs)
     else none
    else none
   else fin233 go bv vs qs s n top j k c zs1
  else none
 else none
theorem turn233c :
 turnF V6 A233m 207 0 0 (loopAt Tryz.f193 1) K go (σ233c bv zs vs qs s n top j k) =
 bif decide (0<=j)then
  if 0<=IntKind.i64.wrap (j+n)/\IntKind.i64.wrap (j+n)<k then
   (zs[0+(IntKind.i64.wrap (j+n)).toNat]?).bind fun x =>
    if 0<=IntKind.i64.wrap (IntKind.i64.wrap (j+n)-1)/\IntKind.i64.wrap (IntKind.i64.wrap (j+n)-1)<k then
     (zs[0+(IntKind.i64.wrap (IntKind.i64.wrap (j+n)-1)).toNat]?).bind fun y =>
      if top=0 then none
      else
       if top=0 then none
       else
        let h:=bits .or .u64 (IntKind.u64.wrap (IntKind.u64.wrap x*2 ^ min (Int.toNat 32) IntKind.u64.bits)) (IntKind.u64.wrap y)
        let g:=IntKind.u64.wrap (h.tdiv top)
        let r:=h.tmod top
        let c:=corr top (List.getD (α:=Int) vs (vs.length-2) 0) (List.getD (α:=Int) zs (j.toNat+vs.length-2) 0) 3 g r
        if(162=162/\162=162/\n=vs.length/\2<=vs.length/\vs.length<1000000000000/\0<=j/\j<1000000000000/\j+vs.length<k/\k<=zs.length/\okW vs/\okW zs)/\(0<=top/\top<4294967296)/\0<=g/\g<1099511627776/\0<=r/\r<1000000000000 /\
          tooBig (List.getD (α:=Int) vs (vs.length-2) 0) (List.getD (α:=Int) zs (j.toNat+vs.length-2) 0) c.1 c.2=false then
         mid233 go bv zs vs qs s n top j k c.1
        else none
    else none
  else none
 else K (.exit 2) ⟨[(8,one (.int .u64 s)),(10,one (.osl 0 1 0 k)),(13,one (.wsl 1 1))],[.arr 162 tW zs false true,.arr 162 tW qs false true]⟩:=by kernel_rfl
end
theorem loop233c{ρ:Type} (K:Exit->St->Option ρ) (bv:Option Bool) (vs:List tW.den) (s:Int) (n k:Nat) (hn:vs.length=n) (hn2:2<=n) (hn3:n<100000000000) (hk3:k<100000000000)
  (hv:okW vs) (hT:2147483648<=List.getD (α:=Int) vs (n-1) 0):∀ (m:Nat) (zs qs:List tW.den),okW zs->zs.length=k->m+n<=k->val (List.drop m zs)<val vs->m<=qs.length ->
  itF (turnF V6 A233m 207 0 0 (loopAt Tryz.f193 1) K) (fun _=>none) (m+1) (σ233c bv zs vs qs s n (List.getD (α:=Int) vs (n-1) 0) ((m:Int)-1) k) =
   K (.exit 2) ⟨[(8,one (.int .u64 s)),(10,one (.osl 0 1 0 k)),(13,one (.wsl 1 1))],[.arr 162 tW (divGo vs m zs qs).1 false true,.arr 162 tW (divGo vs m zs qs).2 false true]⟩:=by
 have hTb:=okW_getD hv (n-1);generalize htop:List.getD (α:=Int) vs (n-1) 0=top at *;intro m
 induction m with
 | zero =>
  intro zs qs hz hzl hm hw hq;rw[itF_succ,turn233c,decide_eq_false (by omega),cond_false];rfl
 | succ m ih =>
  intro zs qs hz hzl hm hw hq;have hst:=step_ok (vs:=vs) (us:=zs) (j:=m) (L:=k) hv (by omega) (by rw[hn,htop];exact hT) hz hzl (by omega) hw;obtain⟨s1,s2,s3,s4,s5,s6,s7,s8,s9,s10⟩:=hst;have hVpos:0<val vs:=by
   have:=val_nonneg (okW_drop hz (m+1));omega
  rw[itF_succ,turn233c];have ej:((m+1:Nat):Int)-1=m:=by omega
  rw[ej];obtain⟨x,hx⟩:∃ x:Int,zs[m+n]? = some x:=⟨_,List.getElem?_eq_getElem (by omega)⟩;obtain⟨y,hy⟩:∃ y:Int,zs[m+n-1]? = some y:=⟨_,List.getElem?_eq_getElem (by omega)⟩;obtain⟨q0,hq0⟩:∃ q0:Int,qs[m]? = some q0:=⟨_,List.getElem?_eq_getElem (by omega)⟩;have ex:List.getD (α:=Int) zs (m+n) 0=x:=by rw[List.getD_eq_getElem?_getD];exact congrArg (Option.getD · 0) hx
  have ey:List.getD (α:=Int) zs (m+n-1) 0=y:=by rw[List.getD_eq_getElem?_getD];exact congrArg (Option.getD · 0) hy
  have bx:0<=x/\x<4294967296:=okW_get hz hx;have by':0<=y/\y<4294967296:=okW_get hz hy
  have i1:IntKind.i64.wrap ((m:Int)+n)=((m+n:Nat):Int):=by rw[i64_nat] <;> omega
  have i2:IntKind.i64.wrap (((m+n:Nat):Int)-1)=((m+n-1:Nat):Int):=by rw[i64_nat] <;> omega
  have eh:bits .or .u64 (IntKind.u64.wrap (IntKind.u64.wrap x*2 ^ min (Int.toNat 32) IntKind.u64.bits)) (IntKind.u64.wrap y)=x*4294967296+y:=by
   rw[show (2:Int) ^ min (Int.toNat 32) IntKind.u64.bits=4294967296 by decide,u64_id x (by omega) (by omega),u64_id (x*4294967296) (by omega) (by omega),u64_id y (by omega) (by omega)];exact or_u64 x y bx by'
  have hTpos:0<top:=by omega
  have hd1:(x*4294967296+y).tdiv top=(x*4294967296+y) / top:=Int.tdiv_eq_ediv_of_nonneg (by omega);have hd2:(x*4294967296+y).tmod top=(x*4294967296+y) % top:=Int.tmod_eq_emod_of_nonneg (by omega);have hg0:0<=(x*4294967296+y) / top:=Int.ediv_nonneg (by omega) (by omega);have hg1:(x*4294967296+y) / top<8589934592:=by
   rw[Int.ediv_lt_iff_lt_mul hTpos];have:8589934592*2147483648<=8589934592*top:=Int.mul_le_mul_of_nonneg_left hT (by omega);omega
  have hr0:0<=(x*4294967296+y) % top:=Int.emod_nonneg _ (by omega);have hr1:(x*4294967296+y) % top<top:=Int.emod_lt_of_pos _ hTpos;have hgs:guess vs zs m=corr top (List.getD (α:=Int) vs (n-2) 0) (List.getD (α:=Int) zs (m+n-2) 0) 3 ((x*4294967296+y) / top) ((x*4294967296+y) % top):=by
   unfold guess;simp only [hn,ex,ey,htop]
  rw[decide_eq_true (by omega),cond_true,i1,if_pos (by omega),Int.toNat_natCast,Nat.zero_add,hx,Option.bind_some,i2,if_pos (by omega),Int.toNat_natCast,Nat.zero_add,hy,Option.bind_some,if_neg (by omega),if_neg (by omega)];simp only [eh,hd1,hd2,hn,Int.toNat_natCast];rw[u64_id ((x*4294967296+y) / top) (by omega) (by omega),<- hgs];rw[hn]at s8;rw[if_pos ⟨⟨trivial,trivial,trivial,hn2,by omega,by omega,by omega,by omega,by omega,hv,hz⟩,⟨by omega,hTb.2⟩,by omega,by omega,by omega,by omega,s8⟩];have hstep:stepU vs zs m=if 0<tkE (guess vs zs m).1 m (n+1) zs vs then((guess vs zs m).1-1,gvZ m (n+1) (tkZ (guess vs zs m).1 m (n+1) zs vs) vs)else((guess vs zs m).1,tkZ (guess vs zs m).1 m (n+1) zs vs):=by
   unfold stepU;simp only [hn]
  generalize (guess vs zs m).1=g at *;unfold mid233;have i3:IntKind.i64.wrap (IntKind.i64.wrap ((m:Int)+n)+1)=((m+n+1:Nat):Int):=by rw[i1,i64_nat] <;> omega
  have i4:m+n+1-m=n+1:=by omega
  have e32:IntKind.u32.wrap g=g:=by rw[IntKind.wrap_u32];omega
  have fin:∀ (c:Int) (zs':List tW.den),0<=c->c<4294967296->stepU vs zs m=(c,zs')->fin233 (itF (turnF V6 A233m 207 0 0 (loopAt Tryz.f193 1) K) (fun _=>none) (m+1)) bv vs qs s n top m k c zs' =
    K (.exit 2) ⟨[(8,one (.int .u64 s)),(10,one (.osl 0 1 0 k)),(13,one (.wsl 1 1))],[.arr 162 tW (divGo vs (m+1) zs qs).1 false true,.arr 162 tW (divGo vs (m+1) zs qs).2 false true]⟩:=by
   intro c zs' c0 c1 hc;rw[hc]at s1 s2 s3 s4 s5 s6 s7;unfold fin233;have e32':IntKind.u32.wrap c=c:=by rw[IntKind.wrap_u32];omega
   have i5:IntKind.i64.wrap ((m:Int)-1)=(m:Int)-1:=by
    rcases Nat.eq_zero_or_pos m with h | h
    ·subst h;decide
    ·rw[i64_nat] <;> omega
   rw[if_pos (by omega),Int.toNat_natCast,Nat.zero_add,hq0,Option.bind_some,e32',i5,ih zs' (qs.set m c) s2 s3 (by omega) (by rw[s5];exact Int.emod_lt_of_pos _ hVpos) (by simp;omega)];simp only [divGo,hc]
  rw[i3];simp only [Int.toNat_natCast,Nat.zero_add,i4,e32];rw[if_pos (by omega),if_pos ⟨hv,⟨s9,s10⟩,by omega,by omega,hz⟩]
  by_cases ht:0<tkE g m (n+1) zs vs
  ·rw[if_pos ht]at hstep;rw[hstep]at s6 s7;have hl1:(tkZ g m (n+1) zs vs).length=zs.length:=tkZ_length g (by omega);have hl2:List.length (α:=tW.den) (tkZ g m (n+1) zs vs)=zs.length:=hl1;rw[decide_eq_true ht,cond_true,if_pos (by omega),if_pos ⟨hv,by rw[hl2];omega,by rw[hl2];omega,tkZ_ok g hz⟩,u64_id (g-1) s6 (Int.lt_trans s7 (by omega))];exact fin _ _ s6 s7 hstep
  ·rw[if_neg ht]at hstep;rw[decide_eq_false ht,cond_false];exact fin _ _ s9 s10 hstep
end Go.Abs
namespace Go.Abs
open Go.Proofs
set_option maxRecDepth 100000
def S233c:Sum:=fun n0 ρ σ K=>match n0,σ with
 | 0,⟨[(8,.v false [.int .u64 s]),(9,.v false [.int .i64 n]),(10,.v false [.osl 0 1 0 k]),(11,.v false [.sl bv (.int .u32) vs]),(12,.v false [.int .u64 top]),(13,.v false [.wsl 1 1]),(14,.v false [.int .i64 j])],[.arr el (.int .u32) zs false true,.arr el' (.int .u32) qs false true]⟩ =>
  if el=162/\el'=162/\n=vs.length/\2<=vs.length/\vs.length<100000000000/\k<100000000000/\k=zs.length/\okW vs/\okW zs/\2147483648<=List.getD (α:=Int) vs (vs.length-1) 0/\top=List.getD (α:=Int) vs (vs.length-1) 0/\0<=j+1 /\
    (j+1).toNat+vs.length<=k/\val (List.drop (j+1).toNat zs)<val vs/\(j+1).toNat<=qs.length then
   K (.exit 2) ⟨[(8,one (.int .u64 s)),(10,one (.osl 0 1 0 k)),(13,one (.wsl 1 1))],[.arr 162 tW (divGo vs (j+1).toNat zs qs).1 false true,.arr 162 tW (divGo vs (j+1).toNat zs qs).2 false true]⟩else none
 | _,_=>none
theorem sum233c(N:NumSem):SumOK N Tryz.prog 207 (loopAt Tryz.f193 1) S233c:=
 SumOK.of_turns (V6_ok N) mixT (A:=A233m) (SumsOK.ofL (ls:=[loopAt Tryz.f193 2]) (by kernel_rfl) ⟨sumL1 (by kernel_rfl) (sum233b N),trivial⟩) fun n0 ρ σ K r' h=>by
  unfold S233c at h;split at h
  ·rename_i s n k bv vs top j el zs el' qs;split at h
   ·rename_i hc;obtain⟨rfl,rfl,rfl,h1,h2,h3,h4,hv,hz,hT,rfl,hj,h5,h6,h7⟩:=hc;obtain⟨m,hm⟩:=Int.eq_ofNat_of_zero_le hj;rw[hm,Int.toNat_natCast]at h h5 h6 h7;have ej:j=(m:Int)-1:=by omega
    refine⟨m+1,Eq.trans ?_ h⟩;rw[ej];exact loop233c K bv vs s vs.length k rfl h1 h2 h3 hv hT m zs qs hz h4.symm h5 h6 h7
   ·contradiction
  ·contradiction
def σ233d(zs qs:List tW.den) (s n i:Int) (k:Nat):St:=
 ⟨[(8,one (.int .u64 s)),(13,one (.wsl 0 1)),(18,one (.osl 1 1 0 k)),(173,one (.int .i64 n)),(174,one (.int .i64 i))],[.arr 162 tW qs false true,.arr 162 tW zs false true]⟩
section
variable {ρ:Type} (K:Exit->St->Option ρ) (go:St->Option ρ) (zs qs:List tW.den) (s n i:Int) (k:Nat)
def fin233d(hi:Int):Option ρ:=
 if 0<=i/\i<k then(zs[0+i.toNat]?).bind fun y =>
  if s<0 then none else
   if 0<=i/\i<k then(zs[0+i.toNat]?).bind fun _ =>
    go (σ233d (zs.set (0+i.toNat) (IntKind.u32.wrap ((bits .or .u64 (IntKind.u64.wrap (hi*2 ^ min (Int.toNat 32) IntKind.u64.bits)) (IntKind.u64.wrap y)).fdiv (2 ^ min s.toNat IntKind.u64.bits)))) qs s n (IntKind.i64.wrap (i+1)) k)
   else none
 else none
theorem turn233d:turnF V6 A233 207 0 0 (loopAt Tryz.f193 3) K go (σ233d zs qs s n i k) =
 bif decide (i<n)then
  bif decide (IntKind.i64.wrap (i+1)<k)then
   if 0<=IntKind.i64.wrap (i+1)/\IntKind.i64.wrap (i+1)<k then(zs[0+(IntKind.i64.wrap (i+1)).toNat]?).bind fun x=>fin233d go zs qs s n i k (IntKind.u64.wrap x)else none
  else fin233d go zs qs s n i k 0
 else K (.exit 6) ⟨[(13,one (.wsl 0 1)),(18,one (.osl 1 1 0 k))],[.arr 162 tW qs false true,.arr 162 tW zs false true]⟩:=by kernel_rfl
end
theorem loop233d{ρ:Type} (K:Exit->St->Option ρ) (qs:List tW.den) (s k:Nat) (hs:s<=31) (hk3:k<100000000000):∀ (m i:Nat) (zs:List tW.den),i+m=k->okW zs->k<=zs.length ->
  itF (turnF V6 A233 207 0 0 (loopAt Tryz.f193 3) K) (fun _=>none) (m+1) (σ233d zs qs s k i k) =
   K (.exit 6) ⟨[(13,one (.wsl 0 1)),(18,one (.osl 1 1 0 k))],[.arr 162 tW qs false true,.arr 162 tW (List.take i zs++(shrL (2 ^ s) ((List.take k zs).drop i)++List.drop k zs)) false true]⟩:=by
 intro m
 induction m with
 | zero =>
  intro i zs hi hz hkl;rw[itF_succ,turn233d,decide_eq_false (by omega),cond_false];have e:(List.take k zs).drop i=[]:=List.drop_eq_nil_of_le (by rw[List.length_take];omega);rw[e];have e2:i=k:=by omega
  simp only [shrL,List.nil_append,e2,List.take_append_drop]
 | succ m ih =>
  intro i zs hi hz hkl;rw[itF_succ,turn233d,decide_eq_true (by omega),cond_true];obtain⟨y,hy⟩:∃ y:Int,zs[i]? = some y:=⟨_,List.getElem?_eq_getElem (by omega)⟩;have by':0<=y/\y<4294967296:=okW_get hz hy
  have i1:IntKind.i64.wrap ((i:Int)+1)=((i+1:Nat):Int):=by rw[i64_nat] <;> omega
  have ed:(List.take k zs).drop i=y :: (List.take k zs).drop (i+1):=by
   rw[List.drop_eq_getElem_cons (by rw[List.length_take];omega)];congr 1;rw[List.getElem_take];exact Option.some.inj ((List.getElem?_eq_getElem (by omega)).symm.trans hy)
  have fin:∀ hi:Int,0<=hi->hi<4294967296->hi=((List.take k zs).drop (i+1)).headD 0->fin233d (itF (turnF V6 A233 207 0 0 (loopAt Tryz.f193 3) K) (fun _=>none) (m+1)) zs qs s k i k hi =
    K (.exit 6) ⟨[(13,one (.wsl 0 1)),(18,one (.osl 1 1 0 k))],[.arr 162 tW qs false true,.arr 162 tW (List.take i zs++(shrL (2 ^ s) ((List.take k zs).drop i)++List.drop k zs)) false true]⟩:=by
   intro hi h0 h1 he;unfold fin233d;have e1:bits .or .u64 (IntKind.u64.wrap (hi*2 ^ min (Int.toNat 32) IntKind.u64.bits)) (IntKind.u64.wrap y)=hi*4294967296+y:=by
    rw[show (2:Int) ^ min (Int.toNat 32) IntKind.u64.bits=4294967296 by decide,u64_id (hi*4294967296) (by omega) (by omega),u64_id y (by omega) (by omega)];exact or_u64 hi y ⟨h0,h1⟩ by'
   have e2:(hi*4294967296+y).fdiv (2 ^ min (s:Int).toNat IntKind.u64.bits)=(hi*4294967296+y) / 2 ^ s:=by
    rw[Int.toNat_natCast,show min s IntKind.u64.bits=s by show min s 64=s;omega];rw[Int.fdiv_eq_ediv_of_nonneg _ (Int.le_of_lt (Int.pow_pos (by omega)))]
   rw[if_pos (by omega),Int.toNat_natCast,Nat.zero_add,hy,Option.bind_some,if_neg (by omega),if_pos (by omega),Option.bind_some,e1,e2,i1];have e3:IntKind.u32.wrap ((hi*4294967296+y) / 2 ^ s)=(hi*4294967296+y) / 2 ^ s % 4294967296:=IntKind.wrap_u32 _;rw[e3,ih (i+1) _ (by omega) (okW_set hz (by omega)) (by simpa using hkl)];have t1:List.take (i+1) (zs.set i ((hi*4294967296+y) / 2 ^ s % 4294967296))=List.take i zs ++ [(hi*4294967296+y) / 2 ^ s % 4294967296]:=by
    rw[List.take_add_one,List.take_set_of_le (Nat.le_refl _),List.getElem?_set_self (by omega)];rfl
   have t2:(List.take k (zs.set i ((hi*4294967296+y) / 2 ^ s % 4294967296))).drop (i+1)=(List.take k zs).drop (i+1):=by
    rw[List.take_set];exact List.drop_set_of_lt (by omega)
   have t3:List.drop k (zs.set i ((hi*4294967296+y) / 2 ^ s % 4294967296))=List.drop k zs:=List.drop_set_of_lt (by omega);have t4:∀ (A B:List tW.den),A=B->K (.exit 6) ⟨[(13,one (.wsl 0 1)),(18,one (.osl 1 1 0 k))],[.arr 162 tW qs false true,.arr 162 tW A false true]⟩=K (.exit 6) ⟨[(13,one (.wsl 0 1)),(18,one (.osl 1 1 0 k))],[.arr 162 tW qs false true,.arr 162 tW B false true]⟩:=fun A B e=>by rw[e]
   refine t4 _ _ ?_;show List.take (i+1) (zs.set i ((hi*4294967296+y) / 2 ^ s % 4294967296))++(shrL (2 ^ s) ((List.take k (zs.set i ((hi*4294967296+y) / 2 ^ s % 4294967296))).drop (i+1))++List.drop k (zs.set i ((hi*4294967296+y) / 2 ^ s % 4294967296)))=_;rw[t1,t2,t3,ed];simp only [shrL,<- he,List.append_assoc,List.cons_append,List.nil_append]
  rw[i1]
  by_cases hk:i+1<k
  ·obtain⟨x,hx⟩:∃ x:Int,zs[i+1]? = some x:=⟨_,List.getElem?_eq_getElem (by omega)⟩;have bx:0<=x/\x<4294967296:=okW_get hz hx;rw[decide_eq_true (by omega),cond_true,if_pos (by omega),Int.toNat_natCast,Nat.zero_add,hx,Option.bind_some,u64_id x (by omega) (by omega)];refine fin x bx.1 bx.2 ?_;rw[List.drop_eq_getElem_cons (by rw[List.length_take];omega),List.headD_cons,List.getElem_take];exact(Option.some.inj ((List.getElem?_eq_getElem (by omega)).symm.trans hx)).symm
  ·rw[decide_eq_false (by omega),cond_false];refine fin 0 (by omega) (by omega) ?_;rw[List.drop_eq_nil_of_le (by rw[List.length_take];omega)];rfl
def S233d:Sum:=fun n0 ρ σ K=>match n0,σ with
 | 0,⟨[(8,.v false [.int .u64 s]),(13,.v false [.wsl 0 1]),(18,.v false [.osl 1 1 0 k]),(173,.v false [.int .i64 n]),(174,.v false [.int .i64 i])],[.arr el' (.int .u32) qs false true,.arr el (.int .u32) zs false true]⟩ =>
  if el=162/\el'=162/\i=0/\n=k/\0<=s/\s<=31/\k<100000000000/\k<=zs.length/\okW zs then
   K (.exit 6) ⟨[(13,one (.wsl 0 1)),(18,one (.osl 1 1 0 k))],[.arr 162 tW qs false true,.arr 162 tW (shrL (2 ^ s.toNat) (List.take k zs)++List.drop k zs) false true]⟩else none
 | _,_=>none
theorem sum233d(N:NumSem):SumOK N Tryz.prog 207 (loopAt Tryz.f193 3) S233d:=
 SumOK.of_turns (V6_ok N) mixT (A:=A233) (SumsOK.none fun _=>rfl) fun n0 ρ σ K r' h=>by
  unfold S233d at h;split at h
  ·rename_i s k n i el' qs el zs;split at h
   ·rename_i hc;obtain⟨rfl,rfl,rfl,rfl,s0,s1,h1,h2,hz⟩:=hc;obtain⟨s,rfl⟩:=Int.eq_ofNat_of_zero_le s0;rw[Int.toNat_natCast]at h;have hl:=loop233d K qs s k (by omega) h1 k 0 zs (by omega) hz h2;simp only [List.take_zero,List.nil_append,List.drop_zero]at hl;exact⟨_,hl.trans h⟩
   ·contradiction
  ·contradiction
def A233s:Ann:={ A233 with sum:=fun i=>bif Nat.beq i 8 then some S233a else bif Nat.beq i 12 then some S233c else bif Nat.beq i 16 then some S233b else bif Nat.beq i 24 then some S233d else none }
theorem run233(ρ:Type) (cont:SV->HL->Option ρ) (b b':Option Bool) (xs ys:List tW.den) :
 runF V6 A233s 0 Tryz.f193 (bodyOf Tryz.f193) ρ [one (.sl b tW xs),one (.sl b' tW ys)] [] cont =
 if xs.length<1000000000000/\ys.length<1000000000000/\okW xs/\okW ys then
  bif decide (cmpR xs ys<0)then
   (let z:List tW.den:=[]
    if z.length+xs.length<=70368744177664/\(z.length+xs.length)*4<=70368744177664 then cont (.tup [(false,[.nils]),(false,[.sl (some false) tW (z++xs)])]) []else none)
  else bif (ys.length:Int)==1 then
   (ys[Int.toNat 0]?).bind fun x=>if xs.length<1000000000000/\okW xs/\0<x/\(x:Int)<4294967296 then
    (let z:List tW.den:=[val xs % (x:Int)]
    cont (.tup [(false,[.sl (some false) tW (words (val xs / (x:Int)).toNat)]),(false,[.sl (some false) tW (List.take (trimTo z z.length) (List.drop 0 z))])]) [])else none
  else
   let i0:=IntKind.i64.wrap (ys.length-1)
   if 0<=i0 then(ys[i0.toNat]?).bind fun x =>
    if 0<(x:Int)/\(x:Int)<4294967296 then
     let s:=IntKind.u64.wrap (lz x)
     if okW xs/\xs.length<100000000000/\0<=s/\s<100000000000 then
      if okW ys/\ys.length<100000000000/\0<=s/\s<100000000000 then
       let U:List tW.den:=shZ s xs
       let k0:=trimTo U U.length
       let vs:List tW.den:=List.take (trimTo (shZ s ys) (shZ s ys).length) (List.drop 0 (shZ s ys))
       if 162=162/\k0<=U.length/\U.length=xs.length+1/\xs.length<1000000000000/\(k0=xs.length\/k0=xs.length+1)then
        if 0<=i0 then(vs[i0.toNat]?).bind fun t =>
         let l:=IntKind.i64.wrap (((xs.length+1:Nat):Int)-ys.length)
         if 0<=l/\l<=l/\l<=70368744177664/\l*(4:Nat)<=70368744177664 then
          let u1:List tW.den:=upZ xs U k0
          let q0:List tW.den:=List.replicate l.toNat 0
          let j:=IntKind.i64.wrap (l-1)
          if 162=162/\162=162/\(ys.length:Int)=vs.length/\2<=vs.length/\vs.length<100000000000/\xs.length+1<100000000000/\xs.length+1=u1.length/\okW vs/\okW u1/\2147483648<=List.getD (α:=Int) vs (vs.length-1) 0/\IntKind.u64.wrap t=List.getD (α:=Int) vs (vs.length-1) 0/\0<=j+1 /\
            (j+1).toNat+vs.length<=xs.length+1/\val (List.drop (j+1).toNat u1)<val vs/\(j+1).toNat<=q0.length then
           let d:=divGo vs (j+1).toNat u1 q0
           bif Nat.blt d.1.length 4611686018427387904&&Nat.ble (xs.length+1) d.1.length then
            let k1:=trimTo d.1 (xs.length+1)
            if 162=162/\162=162/\(0:Int)=0/\(k1:Int)=k1/\0<=s/\s<=31/\k1<100000000000/\k1<=d.1.length/\okW d.1 then
             bif Nat.blt d.2.length 4611686018427387904 then
              let z3:List tW.den:=shrL (2 ^ s.toNat) (List.take k1 d.1)++List.drop k1 d.1
              bif Nat.blt z3.length 4611686018427387904&&Nat.ble k1 z3.length then
               cont (.tup [(false,[.sl (some false) tW (List.take (trimTo d.2 d.2.length) (List.drop 0 d.2))]),(false,[.sl (some false) tW (List.take (trimTo z3 k1) (List.drop 0 z3))])]) []
              else none
             else none
            else none
           else none
          else none
         else none
        else none
       else none
      else none
     else none
    else none
   else none
 else none:=by kernel_rfl
end Go.Abs

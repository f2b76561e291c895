/-
 A PART OF THE PROOF of ClI (texts SpcH SpcI SpcJ): the claim itself stands in the last text. No conditions beside those of the given row.
-/
import Derived.Test.YtjefeldkonejcaaGreatSpcE
set_option linter.unusedVariables false
set_option linter.unnecessarySimpa false
set_option linter.unusedSimpArgs false
namespace Go.Abs
open Go.Proofs
set_option maxRecDepth 100000
theorem okW_ext{A B:List Int} (hA:okW A) (hB:okW B) (hl:A.length=B.length) (hv:val A=val B):A=B:=by
 rw[digitsN_val hA,digitsN_val hB,hl,hv]
theorem or_rot(x y:Int) (s:Nat) (hs:1<=s) (hs':s<=31) (hx:0<=x/\x<4294967296) (hy:0<=y/\y<4294967296) :
  bits .or .u32 (x / 2 ^ s) (IntKind.u32.wrap (y*2 ^ (32-s)))=(y*4294967296+x) / 2 ^ s % 4294967296:=by
 obtain⟨x,rfl⟩:=Int.eq_ofNat_of_zero_le hx.1;obtain⟨y,rfl⟩:=Int.eq_ofNat_of_zero_le hy.1;have hsp:2 ^ s*2 ^ (32-s)=4294967296:=by rw[<- Nat.pow_add,show s+(32-s)=32 by omega]
 have hp:0<2 ^ s:=Nat.pow_pos (by omega);have hq:0<2 ^ (32-s):=Nat.pow_pos (by omega);have e1:(x:Int) / 2 ^ s=((x / 2 ^ s:Nat):Int):=by simp
 have e2:IntKind.u32.wrap ((y:Int)*2 ^ (32-s))=(((y % 2 ^ s)*2 ^ (32-s):Nat):Int):=by
  rw[IntKind.wrap_u32];have:(y:Int)*2 ^ (32-s) % 4294967296=((y*2 ^ (32-s) % 4294967296:Nat):Int):=by simp
  rw[this];have e:y*2 ^ (32-s) % 4294967296=y % 2 ^ s*2 ^ (32-s):=by
   conv=>lhs;rw[<- hsp]
   rw[Nat.mul_mod_mul_right]
  rw[e]
 have e3:((y:Int)*4294967296+x) / 2 ^ s % 4294967296=(((y*4294967296+x) / 2 ^ s % 4294967296:Nat):Int):=by simp
 have hxl:x / 2 ^ s<2 ^ (32-s):=by
  rw[Nat.div_lt_iff_lt_mul hp,Nat.mul_comm];omega
 have hyl:y % 2 ^ s<2 ^ s:=Nat.mod_lt _ hp;have hyl2:y % 2 ^ s*2 ^ (32-s)+2 ^ (32-s)<=4294967296:=by
  rw[<- hsp,<- Nat.succ_mul];exact Nat.mul_le_mul_right _ hyl
 rw[e1,e2,e3,(bits_u32 (x / 2 ^ s) (y % 2 ^ s*2 ^ (32-s)) (by omega) (by omega)).2.1];congr 1;have h:=Nat.shiftLeft_add_eq_or_of_lt (i:=32-s) (b:=x / 2 ^ s) hxl (y % 2 ^ s);rw[Nat.shiftLeft_eq]at h;rw[Nat.or_comm,<- h];have e4:(y*4294967296+x) / 2 ^ s=y*2 ^ (32-s)+x / 2 ^ s:=by
  have:y*4294967296+x=x+2 ^ s*(y*2 ^ (32-s)):=by
   rw[<- hsp,<- Nat.mul_assoc,<- Nat.mul_assoc,Nat.mul_comm (2 ^ s) y];omega
  rw[this,Nat.add_mul_div_left _ _ hp];omega
 rw[e4];have e5:y*2 ^ (32-s)=y % 2 ^ s*2 ^ (32-s)+4294967296*(y / 2 ^ s):=by
  conv=>lhs;rw[<- Nat.mod_add_div y (2 ^ s)]
  rw[Nat.add_mul,<- hsp,Nat.mul_assoc (2 ^ s) (2 ^ (32-s)),Nat.mul_comm (2 ^ (32-s)) (y / 2 ^ s),Nat.mul_assoc]
 rw[e5];omega
section
variable {ρ:Type} (K:Exit->St->Option ρ) (go:St->Option ρ) (us qs rs:List tW.den) (s n i:Int)
def σ168f:St:=⟨[(6,one (.int .u64 s)),(7,one (.int .i64 n)),(9,one (.wsl 0 1)),(10,one (.wsl 1 1)),(25,one (.wsl 2 1)),(26,one (.int .i64 i))],[.arr 162 tW us false true,.arr 162 tW qs false true,.arr 162 tW rs false true]⟩
def o168f:St:=⟨[(10,one (.wsl 0 1)),(25,one (.wsl 1 1))],[.arr 162 tW qs false true,.arr 162 tW rs false true]⟩
def fin168f(rs1:List tW.den):Option ρ:=
 bif decide (0<s)then(if 0<=i/\i<rs1.length then(rs1[0+i.toNat]?).bind fun y=>if 0<=IntKind.i64.wrap (i+1)/\IntKind.i64.wrap (i+1)<us.length then(us[0+(IntKind.i64.wrap (i+1)).toNat]?).bind fun z =>
  if IntKind.u64.wrap (32-s)<0 then none else if 0<=i/\i<rs1.length then(rs1[0+i.toNat]?).bind fun _ =>
   go (σ168f us qs (rs1.set (0+i.toNat) (bits .or .u32 y (IntKind.u32.wrap (z*2 ^ min (IntKind.u64.wrap (32-s)).toNat IntKind.u32.bits)))) s n (IntKind.i64.wrap (i+1)))else none else none else none)
 else go (σ168f us qs rs1 s n (IntKind.i64.wrap (i+1)))
theorem turn168f:turnF Vz3 A168 301 0 0 (loopAt Tryz.f135 5) K go (σ168f us qs rs s n i) =
  bif decide (i<n)then(if 0<=i/\i<us.length then(us[0+i.toNat]?).bind fun x=>if s<0 then none else if 0<=i/\i<rs.length then(rs[0+i.toNat]?).bind fun _ =>
   fin168f go us qs s n i (rs.set (0+i.toNat) (Int.fdiv x (2 ^ min s.toNat IntKind.u32.bits)))else none else none)
  else K (.exit 10) (o168f qs rs):=by kernel_rfl
end
theorem rot0(x y:Int) (hx:0<=x/\x<4294967296):x / 2 ^ 0=(y*4294967296+x) / 2 ^ 0 % 4294967296:=by
 rw[Int.pow_zero,Int.ediv_one,Int.ediv_one];omega
theorem loop168f{ρ:Type} (K:Exit->St->Option ρ) (us qs:List tW.den) (s n:Nat) (hs:s<=31) (hu:okW us) (hn:n<us.length) (hn':n<1000000000000):∀ (m i:Nat) (rs:List tW.den),i+m=n->rs.length=n ->
  itF (turnF Vz3 A168 301 0 0 (loopAt Tryz.f135 5) K) (fun _=>none) (m+1) (σ168f us qs rs s n i)=K (.exit 10) (o168f qs (rs.take i++(shrL (2 ^ s) (us.drop i)).take m)):=by
 intro m
 induction m with
 | zero =>
  intro i rs hi hr;rw[itF_succ,turn168f,decide_eq_false (by omega),cond_false,List.take_of_length_le (by omega)];simp only [List.take_zero,List.append_nil]
 | succ m ih =>
  intro i rs hi hr;have hiu:i<us.length:=by omega
  have hiu1:i+1<us.length:=by omega
  have hir:i<rs.length:=by omega
  have hxb:=hu _ (List.getElem_mem hiu);have hyb:=hu _ (List.getElem_mem hiu1);have w1:IntKind.i64.wrap ((i:Int)+1)=((i+1:Nat):Int):=by rw[i64_nat] <;> omega
  have hps:(0:Int)<2 ^ s:=Int.pow_pos (by omega);have e1:min (Int.toNat (s:Int)) IntKind.u32.bits=s:=by rw[Int.toNat_natCast];exact Nat.min_eq_left (show s<=32 by omega)
  have du:us.drop i=us[i] :: us.drop (i+1):=List.drop_eq_getElem_cons hiu;have dh:(us.drop (i+1)).headD 0=us[i+1]:=by rw[getD_drop,List.getElem?_eq_getElem hiu1];rfl
  have ed:(shrL (2 ^ s) (us.drop i)).take (m+1)=(((us[i+1]:Int)*4294967296+us[i]) / 2 ^ s % 4294967296) :: (shrL (2 ^ s) (us.drop (i+1))).take m:=by
   rw[du,shrL,List.take_succ_cons,dh]
  rw[itF_succ,turn168f,decide_eq_true (by omega),cond_true,if_pos ⟨by omega,by omega⟩,Int.toNat_natCast,Nat.zero_add,List.getElem?_eq_getElem hiu,Option.bind_some,if_neg (by omega),if_pos ⟨by omega,by omega⟩,List.getElem?_eq_getElem hir,Option.bind_some,e1,
   Int.fdiv_eq_ediv_of_nonneg _ (Int.le_of_lt hps),ed]
  have huy:us[i+1]? = some us[i+1]:=List.getElem?_eq_getElem hiu1;generalize (us[i]:Int)=x at *;generalize (us[i+1]:Int)=y at *;unfold fin168f;have hx0:0<=x / 2 ^ s:=Int.ediv_nonneg hxb.1 (by omega);have hx1:x / 2 ^ s<=x:=Int.ediv_le_self _ hxb.1;rcases Nat.eq_zero_or_pos s with h0 | h0
  ·subst h0;rw[decide_eq_false (by omega),cond_false,w1,ih (i+1) _ (by omega) (by simpa using hr)];have t1:(rs.set i (x / 2 ^ 0)).take (i+1)=rs.take i ++ [x / 2 ^ 0]:=take_set_one rs _ _ hir;have e:x / 2 ^ 0=(y*4294967296+x) / 2 ^ 0 % 4294967296:=rot0 x y hxb;rw[t1,<- e];simp only [List.append_assoc,List.cons_append,List.nil_append]
  ·have w2:IntKind.u64.wrap (32-(s:Int))=((32-s:Nat):Int):=by rw[u64_id] <;> omega
   have e2:min (Int.toNat ((32-s:Nat):Int)) IntKind.u32.bits=32-s:=by rw[Int.toNat_natCast];exact Nat.min_eq_left (show 32-s<=32 by omega)
   have hl1:(rs.set i (x / 2 ^ s)).length=n:=by rw[List.length_set];exact hr
   have hg:(rs.set i (x / 2 ^ s))[i]? = some (x / 2 ^ s):=List.getElem?_set_self hir;rw[decide_eq_true (by omega),cond_true,hl1,if_pos ⟨by omega,by omega⟩,Int.toNat_natCast,Nat.zero_add,hg,Option.bind_some,w1,if_pos ⟨by omega,by omega⟩,Int.toNat_natCast,Nat.zero_add,huy,Option.bind_some,w2,if_neg (by omega),if_pos ⟨by omega,by omega⟩,Option.bind_some,e2,
    or_rot x y s h0 hs hxb hyb,List.set_set,ih (i+1) _ (by omega) (by simpa using hr)]
   have t1:(rs.set i ((y*4294967296+x) / 2 ^ s % 4294967296)).take (i+1)=rs.take i ++ [(y*4294967296+x) / 2 ^ s % 4294967296]:=take_set_one rs _ _ hir;rw[t1];simp only [List.append_assoc,List.cons_append,List.nil_append]
def S168f:Sum:=fun n0 ρ σ K=>match n0,σ with
 | 0,⟨[(6,.v false [.int .u64 s]),(7,.v false [.int .i64 n]),(9,.v false [.wsl 0 1]),(10,.v false [.wsl 1 1]),(25,.v false [.wsl 2 1]),(26,.v false [.int .i64 i])],
   [.arr el (.int .u32) us false true,.arr el' (.int .u32) qs false true,.arr el'' (.int .u32) rs false true]⟩ =>
  if(el=162/\el'=162/\el''=162/\i=0)/\(0<=s/\s<=31)/\(0<=n/\n<1000000000000/\n.toNat<List.length (α:=Int) us/\List.length (α:=Int) rs=n.toNat)/\okW us then
   K (.exit 10) (o168f qs ((shrL (2 ^ s.toNat) us).take n.toNat))else none
 | _,_=>none
theorem sum168f(N:NumSem):SumOK N Tryz.prog 301 (loopAt Tryz.f135 5) S168f:=
 SumOK.of_turns (Vz3_ok N) mixT (A:=A168) (SumsOK.none fun _=>rfl) fun n0 ρ σ K r h=>by
  unfold S168f at h;split at h
  ·rename_i s n i el us el' qs el'' rs;split at h
   ·rename_i hc;obtain⟨⟨rfl,rfl,rfl,rfl⟩,⟨s0,s1⟩,⟨n0,n1,n2,n3⟩,hu⟩:=hc;obtain⟨s,rfl⟩:=Int.eq_ofNat_of_zero_le s0;obtain⟨n,rfl⟩:=Int.eq_ofNat_of_zero_le n0;rw[Int.toNat_natCast,Int.toNat_natCast]at h;rw[Int.toNat_natCast]at n2 n3;have hl:=loop168f K us qs s n (by omega) hu n2 (by omega) n 0 rs (Nat.zero_add _) n3;exact⟨_,hl.trans h⟩
   ·contradiction
  ·contradiction
def A168s:Ann:={ A168 with sum:=fun i=>bif Nat.beq i 6 then some S168a else bif Nat.beq i 13 then some S168e else bif Nat.beq i 19 then some S168b else bif Nat.beq i 26 then some S168c else bif Nat.beq i 39 then some S168d else bif Nat.beq i 48 then some S168f else none }
def tup2(x y:List tW.den):SV:=.tup [(false,[.sl none tW x]),(false,[.sl none tW y])]
theorem run168{ρ:Type} (cont:SV->HL->Option ρ) (b b':Option Bool) (xs ys:List tW.den) :
 runF Vz3 A168s 0 Tryz.f135 (bodyOf Tryz.f135) ρ [one (.sl b tW xs),one (.sl b' tW ys)] [] (fun s H=>cont (plSV tW s) H) =
 if List.length (α:=Int) xs<1000000000000/\List.length (α:=Int) ys<1000000000000/\canon xs/\canon ys then
  bif decide (cmpV (val xs) (val ys)<0)then
   (let z:List tW.den:=[]
    if z.length+xs.length<=70368744177664/\(z.length+xs.length)*4<=70368744177664 then cont (tup2 [] (z++xs)) []else none)
  else bif (ys.length:Int)==1 then
   (ys[Int.toNat 0]?).bind fun x=>if List.length (α:=Int) xs<1000000000000/\okW xs/\0<x/\(x:Int)<4294967296 then cont (sW2 (val xs / (x:Int)).toNat (val xs % (x:Int)).toNat) []else none
  else
   let t:Int:=List.getD (α:=Int) ys (List.length (α:=Int) ys-1) 0
   if(0:Int)=0/\0<List.length (α:=Int) ys/\List.length (α:=Int) ys<4611686018427387904/\0<t/\t<4294967296 then
    let s:=lz t
    if List.length (α:=Int) ys<100000000000/\okW ys/\0<=s/\s<=31 then
     if List.length (α:=Int) xs<100000000000/\okW xs/\0<=s/\s<=31 then
      let l:=IntKind.i64.wrap (IntKind.i64.wrap ((xs.length:Int)-ys.length)+1)
      if 0<=l/\l<=l/\l<=70368744177664/\l*(4:Nat)<=70368744177664 then
       let vs:List tW.den:=shWs (2 ^ s.toNat) 0 ys
       let us:List tW.den:=shL (2 ^ s.toNat) 0 xs
       let q0:List tW.den:=List.replicate l.toNat 0
       let j:=IntKind.i64.wrap ((xs.length:Int)-ys.length)
       if(162=162/\162=162)/\((ys.length:Int)=List.length (α:=Int) vs/\2<=List.length (α:=Int) vs/\okW vs/\2147483648<=List.getD (α:=Int) vs (List.length (α:=Int) vs-1) 0)/\(-1<=j/\(j+1).toNat+List.length (α:=Int) vs<=List.length (α:=Int) us/\List.length (α:=Int) us<1000000000000) /\
        okW us/\val (List.drop (α:=Int) (j+1).toNat us)<val vs/\(j+1).toNat<=List.length (α:=Int) q0 then
        let d:=divGo vs (j+1).toNat us q0
        if(0:Int)<=ys.length/\(ys.length:Int)<=ys.length/\(ys.length:Int)<=70368744177664/\(ys.length:Int)*(4:Nat)<=70368744177664 then
         let r0:List tW.den:=List.replicate (ys.length:Int).toNat 0
         if(162=162/\162=162/\162=162/\(0:Int)=0)/\(0<=s/\s<=31)/\((0:Int)<=ys.length/\(ys.length:Int)<1000000000000/\(ys.length:Int).toNat<List.length (α:=Int) d.1/\List.length (α:=Int) r0=(ys.length:Int).toNat)/\okW d.1 then
          let rs:List Int:=(shrL (2 ^ s.toNat) d.1).take (ys.length:Int).toNat
          if List.length (α:=Int) d.2<4000000000000/\okW d.2 then
           if List.length (α:=Int) rs<4000000000000/\okW rs then cont (sW2 (val d.2).toNat (val rs).toNat) []else none
          else none
         else none
        else none
       else none
      else none
     else none
    else none
   else none
 else none:=by kernel_rfl
section
variable {a b:Nat} {x:Int} {s:Nat}
theorem Long.vs(h:Long a b x s):shWs (2 ^ s) 0 (words b)=words (2 ^ s*b):=by
 have hp:(0:Int)<2 ^ s:=Int.pow_pos (by omega);have hp2:(2:Int) ^ s<=2147483648:=by
  rw[show (2:Int) ^ s=((2 ^ s:Nat):Int)by simp];have:(2:Nat) ^ s<=2 ^ 31:=Nat.pow_le_pow_right (by omega) h.s31;omega
 have e:=shL_eq (2 ^ s) 0 (words b);have hok:=h.ok b;have hval:=h.pa b;rw[shZ_small h.s31,e]at hok hval;have hl:=shWs_length (2 ^ s) 0 (words b);have ho1:okW (shWs (2 ^ s) 0 (words b)):=fun y hy=>hok y (List.mem_append_left _ hy)
 have hc:=shC_lt (2 ^ s) hp hp2 0 (words b) (words_ok b) (by omega) hp;rw[val_append,hl]at hval;simp only [val,Int.mul_zero,Int.add_zero]at hval;have hlt:=words_lt (2 ^ s*b);rw[h.vlen]at hlt;have hlt':((2 ^ s*b:Nat):Int)<4294967296 ^ (words b).length:=by
  have:((4294967296 ^ (words b).length:Nat):Int)=4294967296 ^ (words b).length:=by simp
  omega
 have h0:=val_nonneg ho1;have hc0:shC (2 ^ s) 0 (words b)=0:=by
  rcases Int.lt_or_le 0 (shC (2 ^ s) 0 (words b))with hh | hh
  ·exfalso;have:4294967296 ^ (words b).length*1<=4294967296 ^ (words b).length*shC (2 ^ s) 0 (words b):=Int.mul_le_mul_of_nonneg_left hh (Int.le_of_lt (pow_pos32 _));omega
  ·omega
 rw[hc0,Int.mul_zero,Int.add_zero]at hval;exact okW_ext ho1 (words_ok _) (by rw[hl,h.vlen]) (by rw[hval,val_words])
theorem Long.us(h:Long a b x s):shL (2 ^ s) 0 (words a)=upZ (words a) (shZ s (words a)) (words (2 ^ s*a)).length:=by
 obtain⟨u1,u2,u3⟩:=h.up;have e1:=h.ok a;have e2:=h.len a;have e3:=h.pa a;rw[shZ_small h.s31]at e1 e2 e3;exact okW_ext e1 u1 (e2.trans u2.symm) (e3.trans u3.symm)
end
def magDivO:Orc:=fun ρ args H cont=>match args,H with
 | [.v false [.sl b (.int .u32) xs],.v false [.sl b' (.int .u32) ys]],[] =>
  if canon xs/\canon ys/\List.length (α:=Int) xs<10000000000/\List.length (α:=Int) ys<10000000000/\0<val ys then cont (sW2 ((val xs).toNat / (val ys).toNat) ((val xs).toNat % (val ys).toNat)) []else none
 | _,_=>none
theorem orc168(N:NumSem):OrcOK N Tryz.prog 135 magDivO:=
 OrcOK.of_tale (OrcOK.pl (runF_ok (Vz3_ok N) mixT (A:=A168s) (fuel:=0) Tryz.func135 (c:=bodyOf Tryz.f135) (by kernel_rfl)
  (SumsOK.ofL (ls:=[loopAt Tryz.f135 0,loopAt Tryz.f135 1,loopAt Tryz.f135 2,loopAt Tryz.f135 3,loopAt Tryz.f135 4,loopAt Tryz.f135 5]) (by kernel_rfl)
   ⟨sumL1 (by kernel_rfl) (sum168a N),sumL1 (by kernel_rfl) (sum168e N),sumL1 (by kernel_rfl) (sum168b N),sumL1 (by kernel_rfl) (sum168c N),sumL1 (by kernel_rfl) (sum168d N),sumL1 (by kernel_rfl) (sum168f N),trivial⟩)) tW) fun ρ args H cont r h=>by
  unfold magDivO at h;split at h
  ·rename_i b0 xs b1 ys;split at h
   ·rename_i hc;obtain⟨cx,cy,lx,ly,hb⟩:=hc;generalize ha':(val xs).toNat=a at *;generalize hb':(val ys).toNat=b at *;unfold canon at cx cy;rw[ha']at cx;rw[hb']at cy;have hxs:(xs:List tW.den)=words a:=cx;have hys:(ys:List tW.den)=words b:=cy;subst hxs hys;rw[val_words]at ha' hb' hb;clear ha' hb' cx cy;have hb0:0<b:=by omega
    refine(run168 cont b0 b1 (words a) (words b)).trans ?_;have lx':(words a).length<10000000000:=lx;have ly':(words b).length<10000000000:=ly;have ll:∀ c,List.length (α:=tW.den) (words c)=(words c).length:=fun _=>rfl
    rw[if_pos ⟨by omega,by omega,canon_words a,canon_words b⟩,val_words,val_words];have hcm:decide (cmpV (a:Int) b<0)=decide (a<b):=by
     unfold cmpV
     by_cases h1:a<b
     ·rw[if_pos (by omega),decide_eq_true h1];rfl
     ·rw[if_neg (by omega),decide_eq_false h1];split <;> rfl
    rw[hcm]
    by_cases hlt:a<b
    ·rw[decide_eq_true hlt,cond_true];have el:(([]:List tW.den)).length=0:=rfl;simp only [el,ll];rw[if_pos (by omega),<- h,Nat.div_eq_of_lt hlt,Nat.mod_eq_of_lt hlt];rfl
    ·rw[decide_eq_false hlt,cond_false];have hle:b<=a:=by omega
     have hba:(words b).length<=(words a).length:=words_mono hle
     by_cases h1:(words b).length=1
     ·have h1':List.length (α:=tW.den) (words b)=1:=h1;rw[h1',show (((1:Nat):Int)==1)=true from rfl,cond_true];obtain⟨y,hy⟩:∃ y,words b=[y]:=List.length_eq_one_iff.1 h1;have hyv:(y:Int)=b:=by
       have:=val_words b;rw[hy]at this
       simpa [val] using this
      have hyb:y<4294967296:=(words_ok b y (by rw[hy];simp)).2;have e1:(words b:List tW.den)[Int.toNat 0]? = some y:=by
       show (words b)[0]? = some y;rw[hy];rfl
      rw[e1,Option.bind_some];rw[if_pos ⟨by omega,words_ok a,by rw[hyv];omega,hyb⟩,hyv,<- Int.natCast_ediv,<- Int.natCast_emod,Int.toNat_natCast,Int.toNat_natCast];exact h
     ·have h1':((List.length (α:=tW.den) (words b):Int)==1)=false:=by
       have:((words b).length:Int)≠1:=by omega
       exact beq_eq_false_iff_ne.2 this
      have hn0:0<(words b).length:=by
       rw[words_eq,if_neg (by omega)];simp
      rw[h1',cond_false];obtain⟨x,hx⟩:∃ x:Int,(words b)[(words b).length-1]? = some x:=⟨_,List.getElem?_eq_getElem (by omega)⟩;have hgx:List.getD (α:=Int) (words b) (List.length (α:=Int) (words b)-1) 0=x:=by rw[List.getD_eq_getElem?_getD,hx];rfl
      have hxb:=okW_get (words_ok b) hx;have hxp:0<x:=by
       have ht:=val_split (words b) (n:=(words b).length-1) (by omega);have hd:=val_drop (words b) (n:=(words b).length-1) (by omega);rw[show (words b).drop ((words b).length-1+1)=[]from List.drop_eq_nil_of_le (by omega),hgx]at hd;rcases Int.lt_or_le 0 x with h | h
       ·exact h
       ·exfalso;have hx0:x=0:=by omega
        rw[hd,hx0]at ht;simp only [val,Int.mul_zero,Int.add_zero]at ht;have h3:=words_len_ge (a:=b) (n:=(words b).length-1) (by omega);have h4:=okW_val_take (words_ok b) (k:=(words b).length-1) (by omega);rw[<- ht,val_words]at h4;have e:((4294967296 ^ ((words b).length-1):Nat):Int)=4294967296 ^ ((words b).length-1):=by simp
        omega
      obtain⟨s,hs1,hs2,hs3,hs4⟩:=lz_ok x hxp hxb.2;have L:Long a b x s:=⟨hs2,hs3,hs4,hx,by omega,hle⟩;simp only [hgx,hs1,Int.toNat_natCast];rw[if_pos ⟨trivial,hn0,by omega,hxp,hxb.2⟩,if_pos ⟨by omega,words_ok b,by omega,by omega⟩,if_pos ⟨by omega,words_ok a,by omega,by omega⟩];have w1:IntKind.i64.wrap ((List.length (α:=tW.den) (words a):Int)-List.length (α:=tW.den) (words b))=(((words a).length-(words b).length:Nat):Int):=by
       rw[ll,ll,i64_nat] <;> omega
      have w2:IntKind.i64.wrap ((((words a).length-(words b).length:Nat):Int)+1)=(((words a).length+1-(words b).length:Nat):Int):=by rw[i64_nat] <;> omega
      have w3:((((words a).length-(words b).length:Nat):Int)+1).toNat=(words a).length+1-(words b).length:=by omega
      have hvs:=L.vs;have hus:=L.us;have hvl:=L.vlen;obtain⟨u1,u2,u3⟩:=L.up;have hT:=L.T;have l2:=L.two;rw[w1,w2,w3,Int.toNat_natCast];rw[show (shWs (2 ^ s) 0 (words b):List tW.den)=words (2 ^ s*b)from hvs,show (shL (2 ^ s) 0 (words a):List tW.den)=upZ (words a) (shZ s (words a)) (words (2 ^ s*a)).length from hus];generalize hd:divGo (words (2 ^ s*b)) ((words a).length+1-(words b).length) (upZ (words a) (shZ s (words a)) (words (2 ^ s*a)).length) (List.replicate ((words a).length+1-(words b).length) 0)=d;obtain⟨o1,o2,o3,o4,o5,o6,o7⟩:=L.out hd.symm;have lyw:List.length (α:=tW.den) (words b)<10000000000:=ly;have hd':divGo (words (2 ^ s*b)) ((words a).length+1-(words b).length) (upZ (words a) (shZ s (words a)) (words (2 ^ s*a)).length) (List.replicate (α:=tW.den) ((words a).length+1-(words b).length) (0:Int))=d:=hd;have hq0:(List.replicate (α:=tW.den) ((words a).length+1-(words b).length) (0:Int)).length=(words a).length+1-(words b).length:=List.length_replicate;rw[if_pos (by omega),if_pos ⟨⟨trivial,trivial⟩,⟨by rw[ll];omega,by omega,words_ok _,by rw[hvl];exact hT⟩,⟨by omega,by omega,by omega⟩,u1,o1,by
       show _<=(List.replicate (α:=tW.den) ((words a).length+1-(words b).length) (0:Int)).length;rw[hq0];exact Nat.le_refl _⟩,if_pos (by omega)]
      have hr0:List.length (α:=Int) (List.replicate (α:=tW.den) (words b).length (0:Int))=(words b).length:=List.length_replicate;rw[if_pos ⟨⟨trivial,trivial,trivial,trivial⟩,⟨by omega,by omega⟩,⟨by omega,by omega,by omega,hr0⟩,o2⟩,if_pos ⟨by omega,o4⟩];have hso:=shrL_ok (2 ^ s) d.1;have hsl:=shrL_length (2 ^ s) d.1;have hto:=okW_take hso (words b).length;rw[if_pos ⟨by rw[List.length_take];omega,hto⟩,o6,Int.toNat_natCast];have hc:(2:Int) ^ s*2 ^ (32-s)=4294967296:=by rw[<- Int.pow_add,show s+(32-s)=32 by omega];rfl
      have hsv:=shrL_val (2 ^ s) (2 ^ (32-s)) (Int.pow_pos (by omega)) hc d.1 o2;have e:((2 ^ s*(a % b):Nat):Int)=2 ^ s*((a % b:Nat):Int):=by simp
      rw[o7,e,Int.mul_ediv_cancel_left _ (Int.ne_of_gt (Int.pow_pos (by omega)))]at hsv;have hsp:=val_split (shrL (2 ^ s) d.1) (n:=(words b).length) (by omega);have hd0:=val_nonneg (okW_drop hso (words b).length);have ht0:=val_nonneg hto;have hmod:=Nat.mod_lt a hb0;have hbl:=words_lt b;have hbl':(b:Int)<4294967296 ^ (words b).length:=by
       have:((4294967296 ^ (words b).length:Nat):Int)=4294967296 ^ (words b).length:=by simp
       omega
      have hdz:val (List.drop (words b).length (shrL (2 ^ s) d.1))=0:=by
       rcases Int.lt_or_le 0 (val (List.drop (words b).length (shrL (2 ^ s) d.1)))with hh | hh
       ·exfalso;have:4294967296 ^ (words b).length*1<=4294967296 ^ (words b).length*val (List.drop (words b).length (shrL (2 ^ s) d.1)):=Int.mul_le_mul_of_nonneg_left hh (Int.le_of_lt (pow_pos32 _));omega
       ·omega
      rw[hdz,Int.mul_zero,Int.add_zero]at hsp;rw[<- hsp,hsv,Int.toNat_natCast];exact h
   ·contradiction
  ·contradiction
end Go.Abs
namespace Go.Abs
open Go.Proofs
set_option maxRecDepth 100000
def zN(b:Option Bool) (s:Bool) (xs:List tW.den):SV:=.v true [.bool s,.sl b tW xs]
def zz1(g:Int->Bool) (f:Int->SV):Orc:=fun ρ args H cont=>match args,H with
 | [.v true [.bool s,.sl b (.int .u32) xs]],[]=>if zOk (s,xs)/\g (zV (s,xs))=true then cont (f (zV (s,xs))) []else none
 | _,_=>none
def zz2(g:Int->Int->Bool) (f:Int->Int->SV):Orc:=fun ρ args H cont=>match args,H with
 | [.v true [.bool s,.sl b (.int .u32) xs],.v true [.bool t,.sl b' (.int .u32) ys]],[]=>if zOk (s,xs)/\zOk (t,ys)/\g (zV (s,xs)) (zV (t,ys))=true then cont (f (zV (s,xs)) (zV (t,ys))) []else none
 | _,_=>none
theorem zz1_ok{N:NumSem} {P:Program} {k:Nat} {g:Int->Bool} {f:Int->SV} {F:Orc} (hF:OrcOK N P k F)
  (h:∀ ρ (cont:SV->HL->Option ρ) (b:Option Bool) (n:Int),(words n.natAbs).length<1000000000->g n=true->F ρ [zN b (decide (n<0)) (words n.natAbs)] [] cont=cont (f n) []):OrcOK N P k (zz1 g f):=
 OrcOK.of_tale hF fun ρ args H cont r hr=>by
  unfold zz1 at hr;split at hr
  ·rename_i s b xs;split at hr
   ·rename_i hd;obtain⟨hd,hg⟩:=hd;obtain⟨n,hn,hl⟩:=zOk_ex hd;have hn':((s,xs):tZ.den)=(decide (n<0),words n.natAbs):=hn;obtain⟨rfl,rfl⟩:=Prod.mk.inj hn';have hz:zV ((decide (n<0),words n.natAbs):tZ.den)=n:=zV_zD n;rw[hz]at hr hg;exact(h ρ cont b n hl hg).trans hr
   ·contradiction
  ·contradiction
theorem zz2_ok{N:NumSem} {P:Program} {k:Nat} {g:Int->Int->Bool} {f:Int->Int->SV} {F:Orc} (hF:OrcOK N P k F)
  (h:∀ ρ (cont:SV->HL->Option ρ) (b b':Option Bool) (n m:Int),(words n.natAbs).length<1000000000->(words m.natAbs).length<1000000000->g n m=true ->
   F ρ [zN b (decide (n<0)) (words n.natAbs),zN b' (decide (m<0)) (words m.natAbs)] [] cont=cont (f n m) []):OrcOK N P k (zz2 g f):=
 OrcOK.of_tale hF fun ρ args H cont r hr=>by
  unfold zz2 at hr;split at hr
  ·rename_i s b xs t b' ys;split at hr
   ·rename_i hd;obtain⟨hd,hd2,hg⟩:=hd;obtain⟨n,hn,hl⟩:=zOk_ex hd;obtain⟨m,hm,hl2⟩:=zOk_ex hd2;have hn':((s,xs):tZ.den)=(decide (n<0),words n.natAbs):=hn;have hm':((t,ys):tZ.den)=(decide (m<0),words m.natAbs):=hm;obtain⟨rfl,rfl⟩:=Prod.mk.inj hn';obtain⟨rfl,rfl⟩:=Prod.mk.inj hm';have hz:zV ((decide (n<0),words n.natAbs):tZ.den)=n:=zV_zD n;have hz2:zV ((decide (m<0),words m.natAbs):tZ.den)=m:=zV_zD m;rw[hz,hz2]at hr hg;exact(h ρ cont b b' n m hl hl2 hg).trans hr
   ·contradiction
  ·contradiction
def Vz4:Env:={ T:=tranT,E:=[],Γ:=gamL [(139,trimO),(131,magO),(68,absO),(67,gcdO),(103,zOfO),(137,magCmpO),(136,magAddO),(138,magSubO),(106,magMulO),(135,magDivO)],M:=Mz }
theorem Vz4_ok(N:NumSem):EnvOK N Tryz.prog Vz4:={ T:=TT_ok,E:=fun p hp=>(by cases hp),Γ:=gamC (orc201 N) Tryz.call139 (gamC (orc165 N) Tryz.call131 (gamC (orc78 N) Tryz.call68 (gamC (orc77 N) Tryz.call67 (gamC (orc132 N) Tryz.call103 (gamC (orc170 N) Tryz.call137 (gamC (orc169 N) Tryz.call136 (gamC (orc171 N) Tryz.call138 (gamC (orc153 N) Tryz.call106 (gamC (orc168 N) Tryz.call135 (gamN N _)))))))))) }
theorem wlen(n:Nat):(decide ((0:Int)<(List.length (α:=tW.den) (words n):Int)))=decide (0<n):=by
 have h:List.length (α:=tW.den) (words n)=(words n).length:=rfl;rw[h,words_eq];split
 ·rename_i h0;subst h0;rfl
 ·rename_i h0;have h1:0<n:=by omega
  rw[decide_eq_true h1];exact decide_eq_true (by rw[List.length_cons];omega)
theorem run124{ρ:Type} (cont:SV->HL->Option ρ) (b:Option Bool) (s:Bool) (xs:List tW.den):runF Vz4 Ash 0 Tryz.f133 (bodyOf Tryz.f133) ρ [zN b s xs] [] (fun s H=>cont (plSV tW s) H) =
  bif !s then cont (zN none (bif true then decide ((0:Int)<(xs.length:Int))else false) xs) []else cont (zN none false xs) []:=by kernel_rfl
theorem orc124(N:NumSem):OrcOK N Tryz.prog 133 (zz1 (fun _=>true) fun n=>zS (-n)):=
 zz1_ok (OrcOK.pl (runF_ok (Vz4_ok N) mixT (A:=Ash) (fuel:=0) Tryz.func133 (c:=bodyOf Tryz.f133) (by kernel_rfl) (wp_loops (by kernel_rfl))) tW) fun ρ cont b n hn _=>by
  refine(run124 cont b _ _).trans ?_;rw[wlen,cond_true];unfold zS;rw[Int.natAbs_neg]
  by_cases h:n<0
  ·rw[decide_eq_true h,Bool.not_true,cond_false,decide_eq_false (by omega)];rfl
  ·rw[decide_eq_false h,Bool.not_false,cond_true];have:decide (0<n.natAbs)=decide (-n<0):=by
    by_cases h0:0<n.natAbs
    ·rw[decide_eq_true h0,decide_eq_true (by omega)]
    ·rw[decide_eq_false h0,decide_eq_false (by omega)]
   rw[this];rfl
theorem run126{ρ:Type} (cont:SV->HL->Option ρ) (b b':Option Bool) (s t:Bool) (xs ys:List tW.den):runF Vz4 Ash 0 Tryz.f102 (bodyOf Tryz.f102) ρ [zN b s xs,zN b' t ys] [] (fun s H=>cont (plSV tW s) H) =
  bif s==t then
   (if List.length (α:=Int) xs<1000000000000/\List.length (α:=Int) ys<1000000000000/\okW xs/\okW ys then
    (let w:List tW.den:=words (val xs+val ys).toNat
     bif s then cont (zN none (bif true then decide ((0:Int)<(w.length:Int))else false) w) []else cont (zN none false w) [])else none)
  else(if List.length (α:=Int) xs<1000000000000/\List.length (α:=Int) ys<1000000000000/\canon xs/\canon ys then
   bif cmpV (val xs) (val ys)==0 then cont (zN none false []) []else
   bif decide (0<cmpV (val xs) (val ys))then
    (if List.length (α:=Int) xs<1000000000000/\List.length (α:=Int) ys<=List.length (α:=Int) xs/\okW xs/\okW ys/\val ys<=val xs then cont (zN none s (words (val xs-val ys).toNat)) []else none)
   else(if List.length (α:=Int) ys<1000000000000/\List.length (α:=Int) xs<=List.length (α:=Int) ys/\okW ys/\okW xs/\val xs<=val ys then cont (zN none t (words (val ys-val xs).toNat)) []else none)else none):=by kernel_rfl
theorem orc126(N:NumSem):OrcOK N Tryz.prog 102 (zz2 (fun _ _=>true) fun n m=>zS (n+m)):=
 zz2_ok (OrcOK.pl (runF_ok (Vz4_ok N) mixT (A:=Ash) (fuel:=0) Tryz.func102 (c:=bodyOf Tryz.f102) (by kernel_rfl) (wp_loops (by kernel_rfl))) tW) fun ρ cont b b' n m hn hm _=>by
  refine(run126 cont b b' _ _ _ _).trans ?_;simp only [];rw[val_words,val_words];have fin:∀ (s:Bool) (k:Nat),s=decide (n+m<0)->k=(n+m).natAbs->cont (zN none s (words k)) []=cont (zS (n+m)) []:=fun s k h1 h2=>by rw[h1,h2];rfl
  by_cases hst:decide (n<0)=decide (m<0)
  ·rw[hst,beq_self_eq_true,cond_true,if_pos ⟨by omega,by omega,words_ok _,words_ok _⟩];have e:((n.natAbs:Int)+m.natAbs).toNat=n.natAbs+m.natAbs:=by omega
   rw[e,wlen,cond_true]
   by_cases h1:m<0
   ·have h2:n<0:=by rw[decide_eq_true h1]at hst;exact of_decide_eq_true hst
    rw[decide_eq_true h1,cond_true];refine fin _ _ ?_ (by omega);rw[decide_eq_true (by omega),decide_eq_true (by omega)]
   ·have h2:¬ n<0:=by rw[decide_eq_false h1]at hst;exact of_decide_eq_false hst
    rw[decide_eq_false h1,cond_false];refine fin _ _ ?_ (by omega);rw[decide_eq_false (by omega)]
  ·have hb:(decide (n<0)==decide (m<0))=false:=beq_eq_false_iff_ne.2 hst;rw[hb,cond_false,if_pos ⟨by omega,by omega,canon_words _,canon_words _⟩];have hmix:n<0/\¬ m<0\/¬ n<0/\m<0:=by
    by_cases h1:n<0 <;> by_cases h2:m<0
    ·exact absurd (by rw[decide_eq_true h1,decide_eq_true h2]) hst
    ·exact .inl ⟨h1,h2⟩
    ·exact .inr ⟨h1,h2⟩
    ·exact absurd (by rw[decide_eq_false h1,decide_eq_false h2]) hst
   rcases Nat.lt_trichotomy n.natAbs m.natAbs with h | h | h
   ·have e1:cmpV (n.natAbs:Int) m.natAbs = -1:=if_pos (by omega);have hw:=words_mono (Nat.le_of_lt h);rw[e1,show ((-1:Int)==0)=false from rfl,cond_false,show decide ((0:Int) < -1)=false from rfl,cond_false,if_pos ⟨by omega,hw,words_ok _,words_ok _,by omega⟩];refine fin _ _ ?_ (by omega);rcases hmix with ⟨h1,h2⟩ | ⟨h1,h2⟩
    ·rw[decide_eq_false h2,decide_eq_false (by omega)]
    ·rw[decide_eq_true h2,decide_eq_true (by omega)]
   ·have e1:cmpV (n.natAbs:Int) m.natAbs=0:=by unfold cmpV;rw[if_neg (by omega),if_neg (by omega)]
    rw[e1,show ((0:Int)==0)=true from rfl,cond_true];have:n+m=0:=by omega
    rw[this];rfl
   ·have e1:cmpV (n.natAbs:Int) m.natAbs=1:=by unfold cmpV;rw[if_neg (by omega),if_pos (by omega)]
    have hw:=words_mono (Nat.le_of_lt h);rw[e1,show ((1:Int)==0)=false from rfl,cond_false,show decide ((0:Int)<1)=true from rfl,cond_true,if_pos ⟨by omega,hw,words_ok _,words_ok _,by omega⟩];refine fin _ _ ?_ (by omega);rcases hmix with ⟨h1,h2⟩ | ⟨h1,h2⟩
    ·rw[decide_eq_true h1,decide_eq_true (by omega)]
    ·rw[decide_eq_false h1,decide_eq_false (by omega)]
theorem run109{ρ:Type} (cont:SV->HL->Option ρ) (b b':Option Bool) (s t:Bool) (xs ys:List tW.den):runF Vz4 Ash 0 Tryz.f66 (bodyOf Tryz.f66) ρ [zN b s xs,zN b' t ys] [] (fun s H=>cont (plSV tW s) H) =
  if List.length (α:=Int) xs<1000000000000/\List.length (α:=Int) ys<1000000000000/\okW xs/\okW ys then
   (let w:List tW.den:=words (val xs*val ys).toNat
    bif s != t then cont (zN none (bif true then decide ((0:Int)<(w.length:Int))else false) w) []else cont (zN none false w) [])else none:=by kernel_rfl
theorem orc109(N:NumSem):OrcOK N Tryz.prog 66 (zz2 (fun _ _=>true) fun n m=>zS (n*m)):=
 zz2_ok (OrcOK.pl (runF_ok (Vz4_ok N) mixT (A:=Ash) (fuel:=0) Tryz.func66 (c:=bodyOf Tryz.f66) (by kernel_rfl) (wp_loops (by kernel_rfl))) tW) fun ρ cont b b' n m hn hm _=>by
  refine(run109 cont b b' _ _ _ _).trans ?_;simp only [];rw[val_words,val_words,if_pos ⟨by omega,by omega,words_ok _,words_ok _⟩];have e:((n.natAbs:Int)*m.natAbs).toNat=(n*m).natAbs:=by rw[Int.natAbs_mul,<- Int.natCast_mul,Int.toNat_natCast]
  rw[e,wlen,cond_true];unfold zS;have key:∀ P:Int,(P<0->decide (0<P.natAbs)=true)/\(0<P->decide (0<P.natAbs)=true)/\(P=0->decide (0<P.natAbs)=false):=fun P=>⟨fun h=>decide_eq_true (by omega),fun h=>decide_eq_true (by omega),fun h=>decide_eq_false (by omega)⟩
  by_cases h1:n<0 <;> by_cases h2:m<0
  ·have:=Int.mul_nonneg_of_nonpos_of_nonpos (Int.le_of_lt h1) (Int.le_of_lt h2);rw[decide_eq_true h1,decide_eq_true h2,bne_self_eq_false,cond_false,decide_eq_false (Int.not_lt.2 this)];rfl
  ·have hle:=Int.mul_nonpos_of_nonpos_of_nonneg (Int.le_of_lt h1) (Int.not_lt.1 h2);rw[decide_eq_true h1,decide_eq_false h2,show (true != false)=true from rfl,cond_true];have:decide (0<(n*m).natAbs)=decide (n*m<0):=by
    generalize n*m=P at *
    by_cases hp:P<0
    ·rw[(key P).1 hp,decide_eq_true hp]
    ·rw[(key P).2.2 (by omega),decide_eq_false hp]
   rw[this];rfl
  ·have hle:=Int.mul_nonpos_of_nonneg_of_nonpos (Int.not_lt.1 h1) (Int.le_of_lt h2);rw[decide_eq_false h1,decide_eq_true h2,show (false != true)=true from rfl,cond_true];have:decide (0<(n*m).natAbs)=decide (n*m<0):=by
    generalize n*m=P at *
    by_cases hp:P<0
    ·rw[(key P).1 hp,decide_eq_true hp]
    ·rw[(key P).2.2 (by omega),decide_eq_false hp]
   rw[this];rfl
  ·have:=Int.mul_nonneg (Int.not_lt.1 h1) (Int.not_lt.1 h2);rw[decide_eq_false h1,decide_eq_false h2,bne_self_eq_false,cond_false,decide_eq_false (Int.not_lt.2 this)];rfl
theorem run127{ρ:Type} (cont:SV->HL->Option ρ) (b:Option Bool) (s:Bool) (xs:List tW.den):runF Vz4 Ash 0 Tryz.f104 (bodyOf Tryz.f104) ρ [zN b s xs] [] cont =
  bif (xs.length:Int)==0 then cont (one (.int .i64 0)) []else bif s then cont (one (.int .i64 (-1))) []else cont (one (.int .i64 1)) []:=by kernel_rfl
theorem orc127(N:NumSem):OrcOK N Tryz.prog 104 (zz1 (fun _=>true) fun n=>one (.int .i64 (Int.sign n))):=
 zz1_ok (runF_ok (Vz4_ok N) mixT (A:=Ash) (fuel:=0) Tryz.func104 (c:=bodyOf Tryz.f104) (by kernel_rfl) (wp_loops (by kernel_rfl))) fun ρ cont b n hn _=>by
  refine(run127 cont b _ _).trans ?_;have hl:=words_eq n.natAbs;have h0:List.length (α:=tW.den) (words n.natAbs)=(words n.natAbs).length:=rfl;rw[h0];rcases Int.lt_trichotomy n 0 with h | h | h
  ·rw[hl,if_neg (by omega),List.length_cons,beq_eq_false_iff_ne.2 (by omega),cond_false,decide_eq_true h,cond_true,Int.sign_eq_neg_one_of_neg h]
  ·subst h;rfl
  ·rw[hl,if_neg (by omega),List.length_cons,beq_eq_false_iff_ne.2 (by omega),cond_false,decide_eq_false (by omega),cond_false,Int.sign_eq_one_of_pos h]
end Go.Abs
namespace Go.Abs
open Go.Proofs
set_option maxRecDepth 100000
theorem zOk_nw{n:Int} (h:(words n.natAbs).length<1000000000):zOk ((decide (n<0),words n.natAbs):tZ.den):=zOk_zD h
def Vz5:Env:={ T:=tranT,E:=[],Γ:=gamL [(133,zz1 (fun _=>true) fun n=>zS (-n)),(102,zz2 (fun _ _=>true) fun n m=>zS (n+m)),(104,zz1 (fun _=>true) fun n=>one (.int .i64 (Int.sign n)))],M:=Mz }
theorem Vz5_ok(N:NumSem):EnvOK N Tryz.prog Vz5:={ T:=TT_ok,E:=fun p hp=>(by cases hp),Γ:=gamC (orc124 N) Tryz.call133 (gamC (orc126 N) Tryz.call102 (gamC (orc127 N) Tryz.call104 (gamN N _))) }
theorem run152{ρ:Type} (cont:SV->HL->Option ρ) (b b':Option Bool) (s t:Bool) (xs ys:List tW.den):runF Vz5 Ash 0 Tryz.f105 (bodyOf Tryz.f105) ρ [zN b s xs,zN b' t ys] [] cont =
  (let m:Int:=-zV (t,ys)
   if zOk (t,ys)/\true=true then(if zOk (s,xs)/\zOk (decide (m<0),words m.natAbs)/\true=true then cont (zS (zV (s,xs)+zV (decide (m<0),words m.natAbs))) []else none)else none):=by kernel_rfl
theorem orc152(N:NumSem):OrcOK N Tryz.prog 105 (zz2 (fun _ _=>true) fun n m=>zS (n-m)):=
 zz2_ok (runF_ok (Vz5_ok N) mixT (A:=Ash) (fuel:=0) Tryz.func105 (c:=bodyOf Tryz.f105) (by kernel_rfl) (wp_loops (by kernel_rfl))) fun ρ cont b b' n m hn hm _=>by
  refine(run152 cont b b' _ _ _ _).trans ?_;show (if zOk (zD m)/\true=true then(if zOk (zD n)/\zOk (zD (-zV (zD m)))/\true=true then cont (zS (zV (zD n)+zV (zD (-zV (zD m))))) []else none)else none)=_;rw[zV_zD,zV_zD,zV_zD,if_pos ⟨zOk_nw hm,rfl⟩,if_pos ⟨zOk_nw hn,zOk_nw (by rw[Int.natAbs_neg];exact hm),rfl⟩,Int.sub_eq_add_neg]
def Vz6:Env:={ T:=tranT,E:=[],Γ:=gamL [(105,zz2 (fun _ _=>true) fun n m=>zS (n-m)),(104,zz1 (fun _=>true) fun n=>one (.int .i64 (Int.sign n)))],M:=Mz }
theorem Vz6_ok(N:NumSem):EnvOK N Tryz.prog Vz6:={ T:=TT_ok,E:=fun p hp=>(by cases hp),Γ:=gamC (orc152 N) Tryz.call105 (gamC (orc127 N) Tryz.call104 (gamN N _)) }
theorem run108{ρ:Type} (cont:SV->HL->Option ρ) (b b':Option Bool) (s t:Bool) (xs ys:List tW.den):runF Vz6 Ash 0 Tryz.f65 (bodyOf Tryz.f65) ρ [zN b s xs,zN b' t ys] [] cont =
  (let d:Int:=zV (s,xs)-zV (t,ys)
   if zOk (s,xs)/\zOk (t,ys)/\true=true then(if zOk (decide (d<0),words d.natAbs)/\true=true then cont (one (.int .i64 (Int.sign (zV (decide (d<0),words d.natAbs))))) []else none)else none):=by kernel_rfl
def szZ(n:Int):Bool:=decide ((words n.natAbs).length<900000000)
theorem szZ_ok{n:Int} (h:szZ n=true):(words n.natAbs).length<900000000:=of_decide_eq_true h
theorem orc108(N:NumSem):OrcOK N Tryz.prog 65 (zz2 (fun n m=>szZ n&&szZ m) fun n m=>one (.int .i64 (Int.sign (n-m)))):=
 zz2_ok (runF_ok (Vz6_ok N) mixT (A:=Ash) (fuel:=0) Tryz.func65 (c:=bodyOf Tryz.f65) (by kernel_rfl) (wp_loops (by kernel_rfl))) fun ρ cont b b' n m hn hm hg=>by
  refine(run108 cont b b' _ _ _ _).trans ?_;simp only [Bool.and_eq_true]at hg;have g1:=szZ_ok hg.1;have g2:=szZ_ok hg.2;have g3:=words_isub n m;show (if zOk (zD n)/\zOk (zD m)/\true=true then(if zOk (zD (zV (zD n)-zV (zD m)))/\true=true then cont (one (.int .i64 (Int.sign (zV (zD (zV (zD n)-zV (zD m))))))) []else none)else none)=_;rw[zV_zD,zV_zD,zV_zD,if_pos ⟨zOk_nw hn,zOk_nw hm,rfl⟩,if_pos ⟨zOk_nw (by omega),rfl⟩]
def A167:Ann:={ head:=ptOf [(3,[4,5,6],[])],out:=ptOf [(3,[4,5],[])],shut:=true }
def σ167(b b':Option Bool) (xs ys:List tW.den):St:=⟨[(4,one (.ptr 0 0)),(5,one (.sl b tW xs)),(6,one (.sl b' tW ys))],[.var [.bool false,.nils]]⟩
def o167(b:Option Bool) (xs:List tW.den):St:=⟨[(4,one (.ptr 0 0)),(5,one (.sl b tW xs))],[.var [.bool false,.nils]]⟩
theorem turn167{ρ:Type} (K:Exit->St->Option ρ) (go:St->Option ρ) (b b':Option Bool) (xs ys:List tW.den):turnF Vz4 A167 26 0 0 (loopAt Tryz.f134 0) K go (σ167 b b' xs ys) =
  bif decide ((0:Int)<(ys.length:Int))then
   (if canon xs/\canon ys/\List.length (α:=Int) xs<10000000000/\List.length (α:=Int) ys<10000000000/\0<val ys then go (σ167 b' none ys (words ((val xs).toNat % (val ys).toNat)))else none)
  else K (.exit 0) (o167 b xs):=by kernel_rfl
theorem loop167{ρ:Type} (K:Exit->St->Option ρ):∀ (y x:Nat),(words x).length<10000000000->(words y).length<10000000000->∃ n,
  itF (turnF Vz4 A167 26 0 0 (loopAt Tryz.f134 0) K) (fun _=>none) n (σ167 none none (words x) (words y))=K (.exit 0) (o167 none (words (Nat.gcd x y))):=by
 intro y
 induction y using Nat.strongRecOn with
 | _ y ih =>
  intro x hx hy;rcases Nat.eq_zero_or_pos y with h0 | h0
  ·refine⟨1,?_⟩;subst h0;rw[itF_succ,turn167,wlen,decide_eq_false (by omega),cond_false,Nat.gcd_zero_right]
  ·have hm:=Nat.mod_lt x h0;have hml:=words_mono (Nat.le_of_lt hm);obtain⟨n,hn⟩:=ih (x % y) hm y hy (by omega);refine⟨n+1,?_⟩;rw[itF_succ,turn167,wlen,decide_eq_true h0,cond_true,val_words,val_words,Int.toNat_natCast,Int.toNat_natCast,if_pos ⟨canon_words x,canon_words y,hx,hy,by omega⟩,hn,Nat.gcd_comm y,<- Nat.gcd_rec,Nat.gcd_comm]
def S167:Sum:=fun n0 ρ σ K=>match n0,σ with
 | 0,⟨[(4,.v false [.ptr 0 0]),(5,.v false [.sl none (.int .u32) xs]),(6,.v false [.sl none (.int .u32) ys])],[.var [.bool false,.nils]]⟩ =>
  if canon xs/\canon ys/\List.length (α:=Int) xs<10000000000/\List.length (α:=Int) ys<10000000000 then K (.exit 0) (o167 none (words (Nat.gcd (val xs).toNat (val ys).toNat)))else none
 | _,_=>none
theorem sum167(N:NumSem):SumOK N Tryz.prog 26 (loopAt Tryz.f134 0) S167:=
 SumOK.of_turns (Vz4_ok N) mixT (A:=A167) (SumsOK.none fun _=>rfl) fun n0 ρ σ K r h=>by
  unfold S167 at h;split at h
  ·rename_i xs ys;split at h
   ·rename_i hc;obtain⟨cx,cy,lx,ly⟩:=hc;generalize ha':(val xs).toNat=a at *;generalize hb':(val ys).toNat=b at *;unfold canon at cx cy;rw[ha']at cx;rw[hb']at cy;have hxs:(xs:List tW.den)=words a:=cx;have hys:(ys:List tW.den)=words b:=cy;subst hxs hys;obtain⟨n,hn⟩:=loop167 K b a lx ly;exact⟨n,hn.trans h⟩
   ·contradiction
  ·contradiction
def A167s:Ann:={ A167 with sum:=fun i=>bif Nat.beq i 3 then some S167 else none }
theorem run167{ρ:Type} (cont:SV->HL->Option ρ) (s t:Bool) (xs ys:List tW.den):runF Vz4 A167s 0 Tryz.f134 (bodyOf Tryz.f134) ρ [zN none s xs,zN none t ys] [] cont =
  if canon xs/\canon ys/\List.length (α:=Int) xs<10000000000/\List.length (α:=Int) ys<10000000000 then cont (zN none false (words (Nat.gcd (val xs).toNat (val ys).toNat))) []else none:=by kernel_rfl
def zGcdO:Orc:=fun ρ args H cont=>match args,H with
 | [.v true [.bool s,.sl none (.int .u32) xs],.v true [.bool t,.sl none (.int .u32) ys]],[]=>if canon xs/\canon ys/\List.length (α:=Int) xs<10000000000/\List.length (α:=Int) ys<10000000000 then cont (zN none false (words (Nat.gcd (val xs).toNat (val ys).toNat))) []else none
 | _,_=>none
theorem orc167(N:NumSem):OrcOK N Tryz.prog 134 zGcdO:=
 OrcOK.of_tale (runF_ok (Vz4_ok N) mixT (A:=A167s) (fuel:=0) Tryz.func134 (c:=bodyOf Tryz.f134) (by kernel_rfl) (SumsOK.ofL (ls:=[loopAt Tryz.f134 0]) (by kernel_rfl) ⟨sumL1 (by kernel_rfl) (sum167 N),trivial⟩)) fun ρ args H cont r h=>by
  unfold zGcdO at h;split at h
  ·exact(run167 cont _ _ _ _).trans h
  ·contradiction
def A80:Ann:={ head:=ptOf [(5,[2,1,6,7],[])],out:=ptOf [(5,[2,1,6],[])],shut:=true }
def σ80(b:Option Bool) (s:Bool) (xs:List tW.den) (m x i:Int):St:=⟨[(2,one (.ptr 0 0)),(1,one (.int .u64 m)),(6,one (.int .u64 x)),(7,one (.int .i64 i))],[.var [.bool s,.sl b tW xs]]⟩
def o80(b:Option Bool) (s:Bool) (xs:List tW.den) (m x:Int):St:=⟨[(2,one (.ptr 0 0)),(1,one (.int .u64 m)),(6,one (.int .u64 x))],[.var [.bool s,.sl b tW xs]]⟩
theorem turn80{ρ:Type} (K:Exit->St->Option ρ) (go:St->Option ρ) (b:Option Bool) (s:Bool) (xs:List tW.den) (m x i:Int):turnF Vz4 A80 39 0 0 (loopAt Tryz.f69 0) K go (σ80 b s xs m x i) =
  bif decide (0<=i)then(if 0<=i then(xs[i.toNat]?).bind fun w=>go (σ80 b s xs m (bits .or .u64 (IntKind.u64.wrap (x*2 ^ min (Int.toNat 32) IntKind.u64.bits)) (IntKind.u64.wrap w)) (IntKind.i64.wrap (i-1)))else none)
  else K (.exit 0) (o80 b s xs m x):=by kernel_rfl
theorem step80{ρ:Type} (K:Exit->St->Option ρ) (go:St->Option ρ) (b:Option Bool) (s:Bool) (xs:List tW.den) (m x:Int) (i:Nat) (w:Int) (hi:i<1000) (hx:0<=x/\x<4294967296) (hw:0<=w/\w<4294967296) (h:xs[i]? = some w) :
  turnF Vz4 A80 39 0 0 (loopAt Tryz.f69 0) K go (σ80 b s xs m x i)=go (σ80 b s xs m (x*4294967296+w) ((i:Int)-1)):=by
 have e1:IntKind.u64.wrap (x*2 ^ min (Int.toNat 32) IntKind.u64.bits)=x*4294967296:=by
  rw[show (2:Int) ^ min (Int.toNat 32) IntKind.u64.bits=4294967296 by decide,u64_id _ (by omega) (by omega)]
 have e2:IntKind.i64.wrap ((i:Int)-1)=(i:Int)-1:=by rw[IntKind.wrap_i64];omega
 rw[turn80,decide_eq_true (by omega),cond_true,if_pos (by omega),Int.toNat_natCast,h,Option.bind_some,e1,u64_id w hw.1 (by omega),or_u64 x w hx hw,e2]
theorem end80{ρ:Type} (K:Exit->St->Option ρ) (go:St->Option ρ) (b:Option Bool) (s:Bool) (xs:List tW.den) (m x i:Int) (hi:i<0):turnF Vz4 A80 39 0 0 (loopAt Tryz.f69 0) K go (σ80 b s xs m x i)=K (.exit 0) (o80 b s xs m x):=by
 rw[turn80,decide_eq_false (by omega),cond_false]
theorem loop80{ρ:Type} (K:Exit->St->Option ρ) (b:Option Bool) (s:Bool) (m:Int):∀ (xs:List Int),okW xs->xs.length<=2 ->
  itF (turnF Vz4 A80 39 0 0 (loopAt Tryz.f69 0) K) (fun _=>none) (xs.length+1) (σ80 b s xs m 0 ((xs.length:Int)-1))=K (.exit 0) (o80 b s xs m (val xs))
 | [],_,_=>by rw[List.length_nil,itF_succ,end80 _ _ _ _ _ _ _ _ (by omega)];rfl
 | [w],hx,_=>by
  have hw:=hx w (by simp);have e:(([w]:List Int).length:Int)-1=((0:Nat):Int):=rfl;rw[e,itF_succ,step80 K _ b s [w] m 0 0 w (by omega) (by omega) hw rfl,List.length_cons,List.length_nil,itF_succ,end80 _ _ _ _ _ _ _ _ (by omega)];simp [val]
 | [w,v],hx,_=>by
  have hw:=hx w (by simp);have hv:=hx v (by simp);have e:(([w,v]:List Int).length:Int)-1=((1:Nat):Int):=rfl;have e1:((1:Nat):Int)-1=((0:Nat):Int):=rfl;have ex:(0:Int)*4294967296+v=v:=by omega
  rw[e,itF_succ,step80 K _ b s [w,v] m 0 1 v (by omega) (by omega) hv rfl,ex,e1,List.length_cons,List.length_cons,List.length_nil,itF_succ,step80 K _ b s [w,v] m v 0 w (by omega) hv hw rfl,itF_succ,end80 _ _ _ _ _ _ _ _ (by omega)];have:v*4294967296+w=val [w,v]:=by simp only [val];omega
  rw[this]
 | _ :: _ :: _ :: _,_,h=>by simp at h
def S80:Sum:=fun n0 ρ σ K=>match n0,σ with
 | 0,⟨[(2,.v false [.ptr 0 0]),(1,.v false [.int .u64 m]),(6,.v false [.int .u64 x]),(7,.v false [.int .i64 i])],[.var [.bool s,.sl b (.int .u32) xs]]⟩ =>
  if x=0/\i=(List.length (α:=Int) xs:Int)-1/\okW xs/\List.length (α:=Int) xs<=2 then K (.exit 0) (o80 b s xs m (val xs))else none
 | _,_=>none
theorem sum80(N:NumSem):SumOK N Tryz.prog 39 (loopAt Tryz.f69 0) S80:=
 SumOK.of_turns (Vz4_ok N) mixT (A:=A80) (SumsOK.none fun _=>rfl) fun n0 ρ σ K r h=>by
  unfold S80 at h;split at h
  ·rename_i m x i s b xs;split at h
   ·rename_i hc;obtain⟨rfl,rfl,hx,hl⟩:=hc;exact⟨_,(loop80 K b s m xs hx hl).trans h⟩
   ·contradiction
  ·contradiction
def A80s:Ann:={ A80 with sum:=fun i=>bif Nat.beq i 5 then some S80 else none }
def tupI(n:Int) (o:Bool):SV:=.tup [(false,[.int .i64 n]),(false,[.bool o])]
theorem run80{ρ:Type} (cont:SV->HL->Option ρ) (b:Option Bool) (s:Bool) (xs:List tW.den) (m:Int):runF Vz4 A80s 0 Tryz.f69 (bodyOf Tryz.f69) ρ [zN b s xs,one (.int .u64 m)] [] cont =
  bif decide ((2:Int)<(xs.length:Int))then cont (tupI 0 false) []else
  (if(0:Int)=0/\IntKind.i64.wrap ((xs.length:Int)-1)=(List.length (α:=Int) xs:Int)-1/\okW xs/\List.length (α:=Int) xs<=2 then
   bif decide (m<val xs)then cont (tupI 0 false) []else bif s then cont (tupI (IntKind.i64.wrap (0-IntKind.i64.wrap (val xs))) true) []else cont (tupI (IntKind.i64.wrap (val xs)) true) []else none):=by kernel_rfl
def iOk(n m:Int):Bool:=decide ((n.natAbs:Int)<=m)
def iVal(n m:Int):Int:=if(n.natAbs:Int)<=m then n else 0
def zIntO:Orc:=fun ρ args H cont=>match args,H with
 | [.v true [.bool s,.sl b (.int .u32) xs],.v false [.int .u64 m]],[]=>if zOk (s,xs)/\0<=m/\m<9223372036854775808 then cont (tupI (iVal (zV (s,xs)) m) (iOk (zV (s,xs)) m)) []else none
 | _,_=>none
theorem orc80(N:NumSem):OrcOK N Tryz.prog 69 zIntO:=
 OrcOK.of_tale (runF_ok (Vz4_ok N) mixT (A:=A80s) (fuel:=0) Tryz.func69 (c:=bodyOf Tryz.f69) (by kernel_rfl) (SumsOK.ofL (ls:=[loopAt Tryz.f69 0]) (by kernel_rfl) ⟨sumL1 (by kernel_rfl) (sum80 N),trivial⟩)) fun ρ args H cont r h=>by
  unfold zIntO at h;split at h
  ·rename_i s b xs m;split at h
   ·rename_i hc;obtain⟨hd,m0,m1⟩:=hc;obtain⟨n,hn,hl⟩:=zOk_ex hd;have hn':((s,xs):tZ.den)=(decide (n<0),words n.natAbs):=hn;obtain⟨rfl,rfl⟩:=Prod.mk.inj hn';have hz:zV ((decide (n<0),words n.natAbs):tZ.den)=n:=zV_zD n;rw[hz]at h;refine(run80 cont b _ _ m).trans ?_;have ll:List.length (α:=tW.den) (words n.natAbs)=(words n.natAbs).length:=rfl;rw[ll];unfold iVal iOk at h
    by_cases h2:2<(words n.natAbs).length
    ·have hge:18446744073709551616<=n.natAbs:=by
      rcases Nat.lt_or_ge n.natAbs 18446744073709551616 with hh | hh
      ·have:=words_small hh;omega
      ·exact hh
     rw[if_neg (by omega),decide_eq_false (by omega)]at h;rw[decide_eq_true (by omega),cond_true];exact h
    ·rw[decide_eq_false (by omega),cond_false,if_pos ⟨rfl,by rw[IntKind.wrap_i64];omega,words_ok _,by omega⟩,val_words]
     by_cases h3:(n.natAbs:Int)<=m
     ·rw[if_pos h3,decide_eq_true h3]at h;rw[decide_eq_false (by omega),cond_false,i64_in (n.natAbs:Int) (by omega) (by omega)]
      by_cases h4:n<0
      ·have:(0:Int)-n.natAbs=n:=by omega
       rw[decide_eq_true h4,cond_true,this,i64_in n (by omega) (by omega)];exact h
      ·have:(n.natAbs:Int)=n:=by omega
       rw[decide_eq_false h4,cond_false,this];exact h
     ·rw[if_neg h3,decide_eq_false h3]at h;rw[decide_eq_true (by omega),cond_true];exact h
   ·contradiction
  ·contradiction
end Go.Abs

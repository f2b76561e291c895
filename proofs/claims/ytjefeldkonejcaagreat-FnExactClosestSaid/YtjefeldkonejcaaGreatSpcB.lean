/-
 A PART OF THE PROOF of ClI (texts SpcB SpcC SpcD): the claim itself stands in the last text. No conditions beside those of the given row.
-/
import Derived.Test.YtjefeldkonejcaaGreatRatC
set_option linter.unusedVariables false
set_option linter.unnecessarySimpa false
set_option linter.unusedSimpArgs false
namespace Go.Abs
open Go.Proofs
set_option maxRecDepth 100000
theorem shr32(s:Int):s.fdiv (2 ^ min (Int.toNat 32) IntKind.u64.bits)=s / 4294967296:=by
 rw[show (2:Int) ^ min (Int.toNat 32) IntKind.u64.bits=4294967296 by decide];rw[Int.fdiv_eq_ediv_of_nonneg _ (by decide)]
theorem take_set_one(zs:List Int) (i:Nat) (d:Int) (h:i<zs.length):(zs.set i d).take (i+1)=zs.take i ++ [d]:=by
 rw[List.take_add_one,List.take_set_of_le (Nat.le_refl _),List.getElem?_set_self h];rfl
def addW:Int->List Int->List Int->List Int
 | _,[],_=>[]
 | c,x :: r,ys=>((c+x+ys.headD 0) % 4294967296) :: addW ((c+x+ys.headD 0) / 4294967296) r ys.tail
def addK:Int->List Int->List Int->Int
 | c,[],_=>c
 | c,x :: r,ys=>addK ((c+x+ys.headD 0) / 4294967296) r ys.tail
theorem addW_length:∀ (c:Int) (xs ys:List Int),(addW c xs ys).length=xs.length
 | _,[],_=>rfl
 | c,x :: r,ys=>by simp [addW,addW_length]
theorem addW_ok:∀ (c:Int) (xs ys:List Int),okW (addW c xs ys)
 | _,[],_=>by intro x hx;cases hx
 | c,x :: r,ys=>by
  simp only [addW];rw[okW_cons];exact⟨by omega,addW_ok _ _ _⟩
theorem addW_val:∀ (c:Int) (xs ys:List Int),okW xs->okW ys->0<=c->c<=1->ys.length<=xs.length ->
  val (addW c xs ys)+4294967296 ^ xs.length*addK c xs ys=c+val xs+val ys/\0<=addK c xs ys/\addK c xs ys<=1
 | c,[],ys,_,_,h0,h1,hl=>by
  have:ys=[]:=List.length_eq_zero_iff.1 (Nat.le_zero.1 hl);subst this;simp [addW,addK,val];omega
 | c,x :: r,ys,hx,hy,h0,h1,hl=>by
  obtain⟨a1,a2⟩:=okW_cons.1 hx;have b1:=okW_head hy;obtain⟨i1,i2,i3⟩:=addW_val ((c+x+ys.headD 0) / 4294967296) r ys.tail a2 (okW_tail hy) (by omega) (by omega) (by simp at hl ⊢;omega);refine⟨?_,i2,i3⟩;have e:=val_head_tail ys;simp only [addW,addK,val,List.length_cons,Int.pow_succ];generalize addK ((c+x+ys.headD 0) / 4294967296) r ys.tail=C at *;generalize val (addW ((c+x+ys.headD 0) / 4294967296) r ys.tail)=V at *;rw[Int.mul_comm (4294967296 ^ r.length) 4294967296,Int.mul_assoc];generalize 4294967296 ^ r.length*C=M at *;omega
def A169:Ann:={ head:=ptOf [(6,[0,1,5,6,7],[])],out:=ptOf [(6,[0,5,6],[])] }
def σ169(b b':Option Bool) (xs ys zs:List tW.den) (c i:Int):St:=
 ⟨[(0,one (.sl b tW xs)),(1,one (.sl b' tW ys)),(5,one (.wsl 0 1)),(6,one (.int .u64 c)),(7,one (.int .i64 i))],[.arr 162 tW zs false true]⟩
def o169(b:Option Bool) (xs zs:List tW.den) (c:Int):St:=⟨[(0,one (.sl b tW xs)),(5,one (.wsl 0 1)),(6,one (.int .u64 c))],[.arr 162 tW zs false true]⟩
section
variable {ρ:Type} (K:Exit->St->Option ρ) (go:St->Option ρ) (b b':Option Bool) (xs ys zs:List tW.den) (c i:Int)
def fin169(s:Int):Option ρ:=
 if 0<=i/\i<zs.length then(zs[0+i.toNat]?).bind fun _=>go (σ169 b b' xs ys (zs.set (0+i.toNat) (IntKind.u32.wrap s)) (s.fdiv (2 ^ min (Int.toNat 32) IntKind.u64.bits)) (IntKind.i64.wrap (i+1)))else none
theorem turn169:turnF Vz0 A169 58 0 0 (loopAt Tryz.f136 0) K go (σ169 b b' xs ys zs c i) =
  bif decide (i<xs.length)then(if 0<=i then(xs[i.toNat]?).bind fun x =>
   bif decide (i<ys.length)then(if 0<=i then(ys[i.toNat]?).bind fun y=>fin169 go b b' xs ys zs i (IntKind.u64.wrap (IntKind.u64.wrap (c+IntKind.u64.wrap x)+IntKind.u64.wrap y))else none)else fin169 go b b' xs ys zs i (IntKind.u64.wrap (c+IntKind.u64.wrap x))else none)
  else K (.exit 0) (o169 b xs zs c):=by kernel_rfl
end
theorem loop169{ρ:Type} (K:Exit->St->Option ρ) (b b':Option Bool) (xs ys:List tW.den) (hx:okW xs) (hy:okW ys) (N:Nat) (hN:N<4611686018427387904) (hz':xs.length=N):∀ (m i:Nat) (zs:List tW.den) (c:Int),i+m=N->zs.length=N+1->0<=c->c<=1 ->
  itF (turnF Vz0 A169 58 0 0 (loopAt Tryz.f136 0) K) (fun _=>none) (m+1) (σ169 b b' xs ys zs c i)=K (.exit 0) (o169 b xs (zs.take i++(addW c (xs.drop i) (ys.drop i)++zs.drop N)) (addK c (xs.drop i) (ys.drop i))):=by
 intro m
 induction m with
 | zero =>
  intro i zs c hi hz h0 h1;have e:i=N:=by omega
  rw[itF_succ,turn169,decide_eq_false (by omega),cond_false];rw[show xs.drop i=[]from List.drop_of_length_le (by omega),e];simp only [addW,addK,List.nil_append,List.take_append_drop]
 | succ m ih =>
  intro i zs c hi hz h0 h1;have hil:i<xs.length:=by omega
  have hizl:i<zs.length:=by omega
  have hp:(0:Int)<=i:=by omega
  rw[itF_succ,turn169,decide_eq_true (by omega),cond_true,if_pos hp,Int.toNat_natCast,List.getElem?_eq_getElem hil,Option.bind_some];have hbx:=hx _ (List.getElem_mem hil);have hfin:∀ s:Int,0<=s->s<8589934592->s=c+xs[i]+(ys.drop i).headD 0->fin169 (itF (turnF Vz0 A169 58 0 0 (loopAt Tryz.f136 0) K) (fun _=>none) (m+1)) b b' xs ys zs i s =
    K (.exit 0) (o169 b xs (zs.take i++(addW c (xs.drop i) (ys.drop i)++zs.drop N)) (addK c (xs.drop i) (ys.drop i))):=by
   intro s hs0 hs1 hs;unfold fin169;rw[if_pos (by omega),Int.toNat_natCast,Nat.zero_add,List.getElem?_eq_getElem hizl,Option.bind_some];have e1:IntKind.i64.wrap ((i:Int)+1)=((i+1:Nat):Int):=by rw[i64_nat] <;> omega
   rw[e1,IntKind.wrap_u32,shr32];rw[ih (i+1) _ _ (by omega) (by simpa using hz) (by omega) (by omega)];have t1:(zs.set i (s % 4294967296)).take (i+1)=zs.take i ++ [s % 4294967296]:=take_set_one zs i _ hizl;have t2:(zs.set i (s % 4294967296)).drop N=zs.drop N:=List.drop_set_of_lt (by omega);rw[t1,t2,List.drop_eq_getElem_cons hil];simp only [addW,addK,List.append_assoc,List.cons_append,List.nil_append,List.tail_drop,hs]
  by_cases hy':i<ys.length
  ·rw[decide_eq_true (by omega),cond_true,if_pos hp,List.getElem?_eq_getElem hy',Option.bind_some];have hb:=hy _ (List.getElem_mem hy');have hg:(ys.drop i).headD 0=ys[i]:=by rw[getD_drop,List.getElem?_eq_getElem hy'];rfl
   rw[u64_id _ hbx.1 (by omega),u64_id _ hb.1 (by omega),u64_id (c+_) (by omega) (by omega),u64_id _ (by omega) (by omega),hfin _ (by omega) (by omega) (by rw[hg])]
  ·have hg:(ys.drop i).headD 0=0:=by rw[getD_drop,List.getElem?_eq_none (by omega)];rfl
   rw[decide_eq_false (by omega),cond_false,u64_id _ hbx.1 (by omega),u64_id _ (by omega) (by omega),hfin _ (by omega) (by omega) (by rw[hg,Int.add_zero])]
def S169:Sum:=fun n0 ρ σ K=>match n0,σ with
 | 0,⟨[(0,.v false [.sl b (.int .u32) xs]),(1,.v false [.sl b' (.int .u32) ys]),(5,.v false [.wsl 0 1]),(6,.v false [.int .u64 c]),(7,.v false [.int .i64 i])],[.arr el (.int .u32) zs false true]⟩ =>
  if el=162/\c=0/\i=0/\List.length (α:=Int) zs=List.length (α:=Int) xs+1/\List.length (α:=Int) xs<4611686018427387904/\okW xs/\okW ys then
   K (.exit 0) (o169 b xs (addW 0 xs ys++List.drop (α:=Int) (List.length (α:=Int) xs) zs) (addK 0 xs ys))else none
 | _,_=>none
theorem sum169(N:NumSem):SumOK N Tryz.prog 58 (loopAt Tryz.f136 0) S169:=
 SumOK.of_turns (Vz0_ok N) mixT (A:=A169) (SumsOK.none fun _=>rfl) fun n0 ρ σ K r h=>by
  unfold S169 at h;split at h
  ·rename_i b xs b' ys c i el zs;split at h
   ·rename_i hc;obtain⟨rfl,rfl,rfl,hz,hN,hx,hy⟩:=hc;have hl:=loop169 K b b' xs ys hx hy (List.length (α:=Int) xs) hN rfl (List.length (α:=Int) xs) 0 zs 0 (by omega) hz (by omega) (by omega);exact⟨_,hl.trans h⟩
   ·contradiction
  ·contradiction
def A169s:Ann:={ A169 with sum:=fun i=>bif Nat.beq i 6 then some S169 else none }
def magAddO:Orc:=fun ρ args H cont=>match args,H with
 | [.v false [.sl b (.int .u32) xs],.v false [.sl b' (.int .u32) ys]],[] =>
  if List.length (α:=Int) xs<1000000000000/\List.length (α:=Int) ys<1000000000000/\okW xs/\okW ys then cont (sW (val xs+val ys).toNat) []else none
 | _,_=>none
def addE{ρ:Type} (cont:SV->HL->Option ρ) (xs ys:List tW.den):Option ρ:=
 let l:Int:=IntKind.i64.wrap ((xs.length:Int)+1)
 let zs:List tW.den:=List.replicate l.toNat 0
 if 0<=l/\l<=l/\l<=70368744177664/\l*(4:Nat)<=70368744177664 then
  (if 162=162/\(0:Int)=0/\(0:Int)=0/\List.length (α:=Int) zs=List.length (α:=Int) xs+1/\List.length (α:=Int) xs<4611686018427387904/\okW xs/\okW ys then
   (let rs:List tW.den:=addW 0 xs ys++List.drop (α:=Int) (List.length (α:=Int) xs) zs
    if(0:Int)<=xs.length/\(xs.length:Int)<rs.length then(rs[0+xs.length]?).bind fun _ =>
    (let ws:List tW.den:=rs.set (0+xs.length) (IntKind.u32.wrap (addK 0 xs ys))
     if List.length (α:=Int) ws<4000000000000/\okW ws then cont (sW (val ws).toNat) []else none)else none)else none)else none
theorem run169{ρ:Type} (b b':Option Bool) (xs ys:List tW.den) (cont:SV->HL->Option ρ):runF Vz1 A169s 0 Tryz.f136 (bodyOf Tryz.f136) ρ [one (.sl b tW xs),one (.sl b' tW ys)] [] cont =
  bif decide ((xs.length:Int)<ys.length)then addE cont ys xs else addE cont xs ys:=by kernel_rfl
theorem addE_eq{ρ:Type} (cont:SV->HL->Option ρ) (xs ys:List Int) (h1:xs.length<1000000000000) (h2:ys.length<=xs.length) (hx:okW xs) (hy:okW ys) :
  addE cont xs ys=cont (sW (val xs+val ys).toNat) []:=by
 unfold addE;have hl:IntKind.i64.wrap ((xs.length:Int)+1)=((xs.length+1:Nat):Int):=by rw[i64_nat] <;> omega
 have hl':IntKind.i64.wrap (((xs:List tW.den).length:Int)+1)=((xs.length+1:Nat):Int):=hl;simp only [];rw[hl',if_pos (by omega),Int.toNat_natCast];have hz:List.length (α:=Int) (List.replicate (xs.length+1) (0:Int))=xs.length+1:=List.length_replicate;have hz':List.length (α:=Int) (List.replicate (α:=tW.den) (xs.length+1) (0:Int))=xs.length+1:=List.length_replicate;rw[if_pos ⟨trivial,trivial,trivial,hz',by omega,hx,hy⟩];have hd:List.drop (α:=Int) xs.length (List.replicate (α:=tW.den) (xs.length+1) (0:Int))=[0]:=by
  show List.drop xs.length (List.replicate (xs.length+1) (0:Int))=[0];rw[List.drop_replicate,Nat.add_sub_cancel_left];rfl
 rw[hd];have hwl:=addW_length 0 xs ys;have hrl:(addW 0 xs ys ++ [0]:List tW.den).length=xs.length+1:=by
  show (addW 0 xs ys ++ [0]).length=_;rw[List.length_append,hwl];rfl
 obtain⟨v1,v2,v3⟩:=addW_val 0 xs ys hx hy (by omega) (by omega) h2;rw[hrl,if_pos (show (0:Int)<=(xs:List tW.den).length/\((xs:List tW.den).length:Int)<((xs.length+1:Nat):Int)from ⟨by omega,by
  have:(xs:List tW.den).length=xs.length:=rfl;omega⟩),Nat.zero_add]
 have hg:(addW 0 xs ys ++ [0]:List tW.den)[(xs:List tW.den).length]? = some (0:Int):=by
  show (addW 0 xs ys ++ [0])[xs.length]? = some 0;rw[<- hwl,List.getElem?_append_right (Nat.le_refl _),Nat.sub_self];rfl
 rw[hg,Option.bind_some];have hset:((addW 0 xs ys ++ [0]:List tW.den).set (xs:List tW.den).length (IntKind.u32.wrap (addK 0 xs ys)):List tW.den)=addW 0 xs ys ++ [addK 0 xs ys]:=by
  show (addW 0 xs ys ++ [0]).set xs.length (IntKind.u32.wrap (addK 0 xs ys))=_;rw[List.set_append_right _ _ (by omega),hwl,Nat.sub_self,IntKind.wrap_u32];have:addK 0 xs ys % 4294967296=addK 0 xs ys:=by omega
  rw[this];rfl
 rw[hset];have hok:okW (addW 0 xs ys ++ [addK 0 xs ys]):=okW_append (addW_ok _ _ _) (okW_cons.2 ⟨by omega,fun x hx=>by cases hx⟩);have hval:val (addW 0 xs ys ++ [addK 0 xs ys])=val xs+val ys:=by
  rw[val_append,hwl];simp only [val,Int.mul_zero,Int.add_zero];omega
 rw[if_pos ⟨by rw[List.length_append,hwl];simp only [List.length_cons,List.length_nil];omega,hok⟩,hval]
theorem orc169(N:NumSem):OrcOK N Tryz.prog 136 magAddO:=
 OrcOK.of_tale (runF_ok (Vz1_ok N) mixT (A:=A169s) (fuel:=0) Tryz.func136 (c:=bodyOf Tryz.f136) (by kernel_rfl)
  (SumsOK.ofL (ls:=[loopAt Tryz.f136 0]) (by kernel_rfl) ⟨sumL1 (by kernel_rfl) (sum169 N),trivial⟩)) fun ρ args H cont r h=>by
  unfold magAddO at h;split at h
  ·rename_i b xs b' ys;split at h
   ·rename_i hc;obtain⟨h1,h2,hx,hy⟩:=hc;refine(run169 b b' xs ys cont).trans ?_;have h1':(xs:List tW.den).length<1000000000000:=h1;have h2':(ys:List tW.den).length<1000000000000:=h2
    by_cases hl:((xs:List tW.den).length:Int)<(ys:List tW.den).length
    ·rw[decide_eq_true hl,cond_true,addE_eq cont ys xs h2 (by have:=Int.ofNat_lt.1 hl;exact Nat.le_of_lt this) hy hx,Int.add_comm];exact h
    ·rw[decide_eq_false hl,cond_false,addE_eq cont xs ys h1 (by have:=Int.ofNat_le.1 (Int.not_lt.1 hl);exact this) hx hy];exact h
   ·contradiction
  ·contradiction
def A171:Ann:={ head:=ptOf [(4,[0,1,5,6,7],[])],out:=ptOf [(4,[5],[5])] }
def σ171(b b':Option Bool) (xs ys zs:List tW.den) (c i:Int):St:=
 ⟨[(0,one (.sl b tW xs)),(1,one (.sl b' tW ys)),(5,one (.wsl 0 1)),(6,one (.int .u64 c)),(7,one (.int .i64 i))],[.arr 162 tW zs false true]⟩
section
variable {ρ:Type} (K:Exit->St->Option ρ) (go:St->Option ρ) (b b':Option Bool) (xs ys zs:List tW.den) (c i:Int)
def fin171(t:Int):Option ρ:=
 if 0<=i/\i<zs.length then(zs[0+i.toNat]?).bind fun _=>go (σ171 b b' xs ys (zs.set (0+i.toNat) (IntKind.u32.wrap t)) (t.fdiv (2 ^ min (Int.toNat 63) IntKind.u64.bits)) (IntKind.i64.wrap (i+1)))else none
theorem turn171:turnF Vz0 A171 45 0 0 (loopAt Tryz.f138 0) K go (σ171 b b' xs ys zs c i) =
  bif decide (i<xs.length)then(if 0<=i then(xs[i.toNat]?).bind fun x =>
   bif decide (i<ys.length)then(if 0<=i then(ys[i.toNat]?).bind fun y=>fin171 go b b' xs ys zs i (IntKind.u64.wrap (IntKind.u64.wrap (IntKind.u64.wrap x-c)-IntKind.u64.wrap y))else none)else fin171 go b b' xs ys zs i (IntKind.u64.wrap (IntKind.u64.wrap x-c))else none)
  else K (.exit 0) ⟨[(5,one (.sl (some false) tW zs))],[]⟩:=by kernel_rfl
end
theorem shr63(s:Int):s.fdiv (2 ^ min (Int.toNat 63) IntKind.u64.bits)=s / 9223372036854775808:=by
 rw[show (2:Int) ^ min (Int.toNat 63) IntKind.u64.bits=9223372036854775808 by decide];rw[Int.fdiv_eq_ediv_of_nonneg _ (by decide)]
theorem bor64(x y c:Int) (hx:0<=x/\x<4294967296) (hy:0<=y/\y<4294967296) (h0:0<=c) (h1:c<=1):(x-c-y) % 18446744073709551616 / 9223372036854775808=if x<y+c then 1 else 0:=by
 split <;> omega
theorem loop171{ρ:Type} (K:Exit->St->Option ρ) (b b':Option Bool) (xs ys:List tW.den) (hx:okW xs) (hy:okW ys) (hN:xs.length<4611686018427387904):∀ (m i:Nat) (zs:List tW.den) (c:Int),i+m=xs.length->zs.length=xs.length->0<=c->c<=1 ->
  itF (turnF Vz0 A171 45 0 0 (loopAt Tryz.f138 0) K) (fun _=>none) (m+1) (σ171 b b' xs ys zs c i)=K (.exit 0) ⟨[(5,one (.sl (some false) tW (zs.take i++subN c (xs.drop i) (ys.drop i))))],[]⟩:=by
 intro m
 induction m with
 | zero =>
  intro i zs c hi hz h0 h1;rw[itF_succ,turn171,decide_eq_false (by omega),cond_false,List.drop_of_length_le (by omega)];simp only [subN,List.append_nil];rw[List.take_of_length_le (by omega)]
 | succ m ih =>
  intro i zs c hi hz h0 h1;have hil:i<xs.length:=by omega
  have hizl:i<zs.length:=by omega
  have hp:(0:Int)<=i:=by omega
  rw[itF_succ,turn171,decide_eq_true (by omega),cond_true,if_pos hp,Int.toNat_natCast,List.getElem?_eq_getElem hil,Option.bind_some];have hbx:=hx _ (List.getElem_mem hil);have hfin:∀ y t:Int,(0<=y/\y<4294967296)->y=(ys.drop i).headD 0->t=(xs[i]-c-y) % 18446744073709551616->fin171 (itF (turnF Vz0 A171 45 0 0 (loopAt Tryz.f138 0) K) (fun _=>none) (m+1)) b b' xs ys zs i t =
    K (.exit 0) ⟨[(5,one (.sl (some false) tW (zs.take i++subN c (xs.drop i) (ys.drop i))))],[]⟩:=by
   intro y t hy1 hy2 ht;unfold fin171;rw[if_pos (by omega),Int.toNat_natCast,Nat.zero_add,List.getElem?_eq_getElem hizl,Option.bind_some];have e1:IntKind.i64.wrap ((i:Int)+1)=((i+1:Nat):Int):=by rw[i64_nat] <;> omega
   have e2:t % 4294967296=(xs[i]-y-c) % 4294967296:=by rw[ht];omega
   have e3:t / 9223372036854775808=if xs[i]<y+c then 1 else 0:=by
    rw[ht];exact bor64 _ _ _ hbx hy1 h0 h1
   rw[e1,IntKind.wrap_u32,shr63,e2,e3,ih (i+1) _ _ (by omega) (by simpa using hz) (by split <;> omega) (by split <;> omega)];have t1:(zs.set i ((xs[i]-y-c) % 4294967296)).take (i+1)=zs.take i ++ [(xs[i]-y-c) % 4294967296]:=take_set_one zs i _ hizl;rw[t1,List.drop_eq_getElem_cons hil];simp only [subN,List.append_assoc,List.cons_append,List.nil_append,List.tail_drop];rw[<- hy2]
  by_cases hy':i<ys.length
  ·rw[decide_eq_true (by omega),cond_true,if_pos hp,List.getElem?_eq_getElem hy',Option.bind_some];have hb:=hy _ (List.getElem_mem hy');have hg:(ys.drop i).headD 0=ys[i]:=by rw[getD_drop,List.getElem?_eq_getElem hy'];rfl
   rw[u64_id _ hbx.1 (by omega),u64_id _ hb.1 (by omega)];exact hfin _ _ hb hg.symm (by rw[IntKind.wrap_u64,IntKind.wrap_u64];omega)
  ·have hg:(ys.drop i).headD 0=0:=by rw[getD_drop,List.getElem?_eq_none (by omega)];rfl
   rw[decide_eq_false (by omega),cond_false,u64_id _ hbx.1 (by omega)];exact hfin 0 _ (by omega) hg.symm (by rw[IntKind.wrap_u64];omega)
def S171:Sum:=fun n0 ρ σ K=>match n0,σ with
 | 0,⟨[(0,.v false [.sl b (.int .u32) xs]),(1,.v false [.sl b' (.int .u32) ys]),(5,.v false [.wsl 0 1]),(6,.v false [.int .u64 c]),(7,.v false [.int .i64 i])],[.arr el (.int .u32) zs false true]⟩ =>
  if el=162/\c=0/\i=0/\List.length (α:=Int) zs=List.length (α:=Int) xs/\List.length (α:=Int) xs<4611686018427387904/\okW xs/\okW ys then
   K (.exit 0) ⟨[(5,one (.sl (some false) tW (subN 0 xs ys)))],[]⟩else none
 | _,_=>none
theorem sum171(N:NumSem):SumOK N Tryz.prog 45 (loopAt Tryz.f138 0) S171:=
 SumOK.of_turns (Vz0_ok N) mixT (A:=A171) (SumsOK.none fun _=>rfl) fun n0 ρ σ K r h=>by
  unfold S171 at h;split at h
  ·rename_i b xs b' ys c i el zs;split at h
   ·rename_i hc;obtain⟨rfl,rfl,rfl,hz,hN,hx,hy⟩:=hc;have hl:=loop171 K b b' xs ys hx hy hN (List.length (α:=Int) xs) 0 zs 0 (Nat.zero_add _) hz (by omega) (by omega);exact⟨_,hl.trans h⟩
   ·contradiction
  ·contradiction
def A171s:Ann:={ A171 with sum:=fun i=>bif Nat.beq i 4 then some S171 else none }
def magSubO:Orc:=fun ρ args H cont=>match args,H with
 | [.v false [.sl b (.int .u32) xs],.v false [.sl b' (.int .u32) ys]],[] =>
  if List.length (α:=Int) xs<1000000000000/\List.length (α:=Int) ys<=List.length (α:=Int) xs/\okW xs/\okW ys/\val ys<=val xs then cont (sW (val xs-val ys).toNat) []else none
 | _,_=>none
theorem run171{ρ:Type} (b b':Option Bool) (xs ys:List tW.den) (cont:SV->HL->Option ρ):runF Vz1 A171s 0 Tryz.f138 (bodyOf Tryz.f138) ρ [one (.sl b tW xs),one (.sl b' tW ys)] [] cont =
  (let l:Int:=xs.length
   let zs:List tW.den:=List.replicate l.toNat 0
   if 0<=l/\l<=l/\l<=70368744177664/\l*(4:Nat)<=70368744177664 then
   (if 162=162/\(0:Int)=0/\(0:Int)=0/\List.length (α:=Int) zs=List.length (α:=Int) xs/\List.length (α:=Int) xs<4611686018427387904/\okW xs/\okW ys then
    (let ws:List tW.den:=subN 0 xs ys
     if List.length (α:=Int) ws<4000000000000/\okW ws then cont (sW (val ws).toNat) []else none)else none)
   else none):=by kernel_rfl
theorem subN_eq{xs ys:List Int} (hx:okW xs) (hy:okW ys) (h2:ys.length<=xs.length) (hv:val ys<=val xs):val (subN 0 xs ys)=val xs-val ys:=by
 have hok:=subN_ok 0 xs ys;obtain⟨e1,e2,e3⟩:=subN_val 0 xs ys hx hy (by omega) (by omega) h2;have hlt:=val_lt hok;rw[subN_length]at hlt;have hc:subC 0 xs ys=0:=by
  by_cases hz:subC 0 xs ys=0
  ·exact hz
  ·exfalso;have:subC 0 xs ys=1:=by omega
   rw[this]at e1;omega
 rw[hc]at e1;omega
theorem orc171(N:NumSem):OrcOK N Tryz.prog 138 magSubO:=
 OrcOK.of_tale (runF_ok (Vz1_ok N) mixT (A:=A171s) (fuel:=0) Tryz.func138 (c:=bodyOf Tryz.f138) (by kernel_rfl)
  (SumsOK.ofL (ls:=[loopAt Tryz.f138 0]) (by kernel_rfl) ⟨sumL1 (by kernel_rfl) (sum171 N),trivial⟩)) fun ρ args H cont r h=>by
  unfold magSubO at h;split at h
  ·rename_i b xs b' ys;split at h
   ·rename_i hc;obtain⟨h1,h2,hx,hy,hv⟩:=hc;refine(run171 b b' xs ys cont).trans ?_;have h1':(xs:List tW.den).length<1000000000000:=h1;simp only [];rw[if_pos (by omega),Int.toNat_natCast];have hz:List.length (α:=Int) (List.replicate (α:=tW.den) (xs:List tW.den).length (0:Int))=List.length (α:=Int) xs:=List.length_replicate;rw[if_pos ⟨trivial,trivial,trivial,hz,by omega,hx,hy⟩,if_pos ⟨by rw[subN_length];omega,subN_ok _ _ _⟩,subN_eq hx hy h2 hv];exact h
   ·contradiction
  ·contradiction
end Go.Abs
namespace Go.Abs
open Go.Proofs
set_option maxRecDepth 100000
def A153:Ann:={ head:=ptOf [(3,[0,1,5,6],[]),(7,[0,1,5,6,7,8],[])],out:=ptOf [(3,[5],[5]),(7,[0,1,5,6,7],[])] }
def σ153a(b b':Option Bool) (xs ys zs:List tW.den) (i c k:Int):St:=
 ⟨[(0,one (.sl b tW xs)),(1,one (.sl b' tW ys)),(5,one (.wsl 0 1)),(6,one (.int .i64 i)),(7,one (.int .u64 c)),(8,one (.int .i64 k))],[.arr 162 tW zs false true]⟩
def σ153o(b b':Option Bool) (xs ys zs:List tW.den) (i c:Int):St:=
 ⟨[(0,one (.sl b tW xs)),(1,one (.sl b' tW ys)),(5,one (.wsl 0 1)),(6,one (.int .i64 i)),(7,one (.int .u64 c))],[.arr 162 tW zs false true]⟩
theorem turn153a{ρ:Type} (K:Exit->St->Option ρ) (go:St->Option ρ) (b b':Option Bool) (xs ys zs:List tW.den) (i c k:Int) :
  turnF Vz1 A153 68 0 0 (loopAt Tryz.f106 1) K go (σ153a b b' xs ys zs i c k) =
  bif decide (k<ys.length)then(if 0<=i then(xs[i.toNat]?).bind fun x=>if 0<=k then(ys[k.toNat]?).bind fun y =>
   if 0<=IntKind.i64.wrap (i+k)/\IntKind.i64.wrap (i+k)<zs.length then(zs[0+(IntKind.i64.wrap (i+k)).toNat]?).bind fun z =>
    if 0<=IntKind.i64.wrap (i+k)/\IntKind.i64.wrap (i+k)<zs.length then(zs[0+(IntKind.i64.wrap (i+k)).toNat]?).bind fun _ =>
     go (σ153a b b' xs ys (zs.set (0+(IntKind.i64.wrap (i+k)).toNat) (IntKind.u32.wrap (IntKind.u64.wrap (IntKind.u64.wrap (IntKind.u64.wrap (IntKind.u64.wrap x*IntKind.u64.wrap y)+IntKind.u64.wrap z)+c))))
      i ((IntKind.u64.wrap (IntKind.u64.wrap (IntKind.u64.wrap (IntKind.u64.wrap x*IntKind.u64.wrap y)+IntKind.u64.wrap z)+c)).fdiv (2 ^ min (Int.toNat 32) IntKind.u64.bits)) (IntKind.i64.wrap (k+1)))else none else none else none else none)
  else K (.exit 2) (σ153o b b' xs ys zs i c):=by kernel_rfl
theorem loop153a{ρ:Type} (K:Exit->St->Option ρ) (b b':Option Bool) (xs ys:List tW.den) (x:Int) (hy:okW ys) (hx:0<=x/\x<4294967296) (i Z:Nat) (hxi:xs[i]? = some x) (hZ:i+ys.length<Z) (hZ':Z<4611686018427387904) :
  ∀ (m j:Nat) (zs:List tW.den) (c:Int),j+m=ys.length->zs.length=Z->okW zs->0<=c->c<4294967296 ->
  itF (turnF Vz1 A153 68 0 0 (loopAt Tryz.f106 1) K) (fun _=>none) (m+1) (σ153a b b' xs ys zs i c j) =
   K (.exit 2) (σ153o b b' xs ys (zs.take (i+j)++(rowL x c (ys.drop j) (zs.drop (i+j))++zs.drop (i+ys.length))) i (rowC x c (ys.drop j) (zs.drop (i+j)))):=by
 intro m
 induction m with
 | zero =>
  intro j zs c hj hz hzo h0 h1;rw[itF_succ,turn153a,decide_eq_false (by omega),cond_false];have e:ys.drop j=[]:=List.drop_of_length_le (by omega);have e':ys.length=j:=by omega
  rw[e,e'];simp only [rowL,rowC,List.nil_append,List.take_append_drop]
 | succ m ih =>
  intro j zs c hj hz hzo h0 h1;have hjl:j<ys.length:=by omega
  have hij:i+j<zs.length:=by omega
  have w1:IntKind.i64.wrap ((i:Int)+j)=((i+j:Nat):Int):=by rw[i64_nat] <;> omega
  have w2:IntKind.i64.wrap ((j:Int)+1)=((j+1:Nat):Int):=by rw[i64_nat] <;> omega
  have hp:(0:Int)<=j:=by omega
  have hpi:(0:Int)<=i:=by omega
  have hq:(0:Int)<=((i+j:Nat):Int)/\((i+j:Nat):Int)<zs.length:=by omega
  have hyb:=hy _ (List.getElem_mem hjl);have hzb:=hzo _ (List.getElem_mem hij);have dz:zs.drop (i+j)=zs[i+j] :: zs.drop (i+j+1):=List.drop_eq_getElem_cons hij;have dy:ys.drop j=ys[j] :: ys.drop (j+1):=List.drop_eq_getElem_cons hjl;rw[itF_succ,turn153a,decide_eq_true (by omega),cond_true,if_pos hpi,Int.toNat_natCast,hxi,Option.bind_some,if_pos hp,Int.toNat_natCast,List.getElem?_eq_getElem hjl,Option.bind_some,w1,w2,if_pos hq,Int.toNat_natCast,Nat.zero_add,
   List.getElem?_eq_getElem hij,Option.bind_some,if_pos hq,Option.bind_some,dz,dy]
  have hm:=word_mul hx hyb;generalize hyv:(ys[j]:Int)=y at *;generalize hzv:(zs[i+j]:Int)=z at *;have e1:IntKind.u64.wrap (IntKind.u64.wrap (IntKind.u64.wrap (IntKind.u64.wrap x*IntKind.u64.wrap y)+IntKind.u64.wrap z)+c)=c+(x*y+z):=by
   rw[u64_id x hx.1 (by omega),u64_id y hyb.1 (by omega),u64_id z hzb.1 (by omega)];generalize x*y=Q at *;simp only [IntKind.wrap_u64];omega
  rw[e1,shr32,IntKind.wrap_u32];generalize hQ:x*y=Q at *;have hdb:0<=(c+(Q+z)) % 4294967296/\(c+(Q+z)) % 4294967296<4294967296:=by omega
  rw[ih (j+1) _ _ (by omega) (by simpa using hz) (okW_set hzo hdb) (by omega) (by omega)];have t1:(zs.set (i+j) ((c+(Q+z)) % 4294967296)).take (i+(j+1))=zs.take (i+j) ++ [(c+(Q+z)) % 4294967296]:=by
   rw[<- Nat.add_assoc];exact take_set_one zs _ _ hij
  have t2:∀ k,i+j<k->(zs.set (i+j) ((c+(Q+z)) % 4294967296)).drop k=zs.drop k:=fun k hk=>List.drop_set_of_lt hk
  rw[t1,t2 _ (by omega),t2 _ (by omega)];simp only [rowL,rowC,List.headD_cons,List.tail_cons,List.append_assoc,List.cons_append,List.nil_append,hQ,Nat.add_assoc]
def S153a:Sum:=fun n0 ρ σ K=>match n0,σ with
 | 0,⟨[(0,.v false [.sl b (.int .u32) xs]),(1,.v false [.sl b' (.int .u32) ys]),(5,.v false [.wsl 0 1]),(6,.v false [.int .i64 i]),(7,.v false [.int .u64 c]),(8,.v false [.int .i64 k])],[.arr el (.int .u32) zs false true]⟩ =>
  if(el=162/\c=0/\k=0)/\okW ys/\okW xs/\0<=i/\i.toNat<List.length (α:=Int) xs/\i.toNat+List.length (α:=Int) ys<List.length (α:=Int) zs/\List.length (α:=Int) zs<4611686018427387904/\okW zs then
   K (.exit 2) (σ153o b b' xs ys (List.take (α:=Int) i.toNat zs++(rowL (List.getD (α:=Int) xs i.toNat 0) 0 ys (List.drop (α:=Int) i.toNat zs)++List.drop (α:=Int) (i.toNat+List.length (α:=Int) ys) zs)) i (rowC (List.getD (α:=Int) xs i.toNat 0) 0 ys (List.drop (α:=Int) i.toNat zs)))else none
 | _,_=>none
theorem sum153a(N:NumSem):SumOK N Tryz.prog 68 (loopAt Tryz.f106 1) S153a:=
 SumOK.of_turns (Vz1_ok N) mixT (A:=A153) (SumsOK.none fun _=>rfl) fun n0 ρ σ K r h=>by
  unfold S153a at h;split at h
  ·rename_i b xs b' ys i c k el zs;split at h
   ·rename_i hc;obtain⟨⟨rfl,rfl,rfl⟩,hy,hx,hi,hil,hZ,hZ',hz⟩:=hc;obtain⟨n,rfl⟩:=Int.eq_ofNat_of_zero_le hi;rw[Int.toNat_natCast]at hil hZ h;have hxi:(xs:List Int)[n]? = some (List.getD (α:=Int) xs n 0):=by
     rw[List.getD_eq_getElem?_getD,List.getElem?_eq_getElem hil];rfl
    have hl:=loop153a K b b' xs ys (List.getD (α:=Int) xs n 0) hy (okW_getD hx n) n (List.length (α:=Int) zs) hxi hZ hZ' (List.length (α:=Int) ys) 0 zs 0 (Nat.zero_add _) rfl hz (by omega) (by omega);exact⟨_,hl.trans h⟩
   ·contradiction
  ·contradiction
def A153t:Ann:={ A153 with sum:=fun i=>bif Nat.beq i 7 then some S153a else none }
def σ153(b b':Option Bool) (xs ys zs:List tW.den) (i:Int):St:=
 ⟨[(0,one (.sl b tW xs)),(1,one (.sl b' tW ys)),(5,one (.wsl 0 1)),(6,one (.int .i64 i))],[.arr 162 tW zs false true]⟩
theorem turn153{ρ:Type} (K:Exit->St->Option ρ) (go:St->Option ρ) (b b':Option Bool) (xs ys zs:List tW.den) (i:Int) :
  turnF Vz1 A153t 68 0 0 (loopAt Tryz.f106 0) K go (σ153 b b' xs ys zs i) =
  bif decide (i<xs.length)then
   (if(162=162/\(0:Int)=0/\(0:Int)=0)/\okW ys/\okW xs/\0<=i/\i.toNat<List.length (α:=Int) xs/\i.toNat+List.length (α:=Int) ys<List.length (α:=Int) zs/\List.length (α:=Int) zs<4611686018427387904/\okW zs then
    (let zs':List tW.den:=List.take (α:=Int) i.toNat zs++(rowL (List.getD (α:=Int) xs i.toNat 0) 0 ys (List.drop (α:=Int) i.toNat zs)++List.drop (α:=Int) (i.toNat+List.length (α:=Int) ys) zs)
     if 0<=IntKind.i64.wrap (i+ys.length)/\IntKind.i64.wrap (i+ys.length)<zs'.length then(zs'[0+(IntKind.i64.wrap (i+ys.length)).toNat]?).bind fun _ =>
     go (σ153 b b' xs ys (zs'.set (0+(IntKind.i64.wrap (i+ys.length)).toNat) (IntKind.u32.wrap (rowC (List.getD (α:=Int) xs i.toNat 0) 0 ys (List.drop (α:=Int) i.toNat zs)))) (IntKind.i64.wrap (i+1)))else none)else none)
  else K (.exit 0) ⟨[(5,one (.sl (some false) tW zs))],[]⟩:=by kernel_rfl
theorem loop153{ρ:Type} (K:Exit->St->Option ρ) (b b':Option Bool) (xs ys:List Int) (hx:okW xs) (hy:okW ys) (Z:Nat) (hZ:Z=xs.length+ys.length) (hZ':Z<4611686018427387904) :
  ∀ (m i:Nat) (zs:List Int),i+m=xs.length->zs.length=Z->okW zs ->
  itF (turnF Vz1 A153t 68 0 0 (loopAt Tryz.f106 0) K) (fun _=>none) (m+1) (σ153 b b' xs ys zs i)=K (.exit 0) ⟨[(5,one (.sl (some false) tW (mulG ys (xs.drop i) i zs)))],[]⟩:=by
 intro m
 induction m with
 | zero =>
  intro i zs hi hz hzo;have hd:decide ((i:Int)<(xs:List tW.den).length)=false:=decide_eq_false (by show ¬ ((i:Int)<xs.length);omega);rw[itF_succ,turn153,hd,cond_false,List.drop_of_length_le (by omega)];rfl
 | succ m ih =>
  intro i zs hi hz hzo;have hil:i<xs.length:=by omega
  have hp:(0:Int)<=i:=by omega
  have hd:decide ((i:Int)<(xs:List tW.den).length)=true:=decide_eq_true (by show (i:Int)<xs.length;omega);have w1:IntKind.i64.wrap ((i:Int)+(ys:List tW.den).length)=((i+ys.length:Nat):Int):=by
   show IntKind.i64.wrap ((i:Int)+ys.length)=_;rw[i64_nat] <;> omega
  have w2:IntKind.i64.wrap ((i:Int)+1)=((i+1:Nat):Int):=by rw[i64_nat] <;> omega
  rw[itF_succ,turn153,hd,cond_true,Int.toNat_natCast,if_pos ⟨⟨rfl,rfl,rfl⟩,hy,hx,hp,hil,by omega,by omega,hzo⟩,w1,w2];have hg:xs.getD i 0=xs[i]:=by rw[List.getD_eq_getElem?_getD,List.getElem?_eq_getElem hil];rfl
  have hxb:=hx _ (List.getElem_mem hil);rw[hg];have hlen:(zs.take i++(rowL (xs[i]) 0 ys (zs.drop i)++zs.drop (i+ys.length))).length=zs.length:=by
   simp only [List.length_append,List.length_take,List.length_drop,rowL_length];omega
  have hlen':(zs.take i++(rowL (xs[i]) 0 ys (zs.drop i)++zs.drop (i+ys.length)):List tW.den).length=zs.length:=hlen;simp only [];rw[hlen',if_pos (by omega),Int.toNat_natCast,Nat.zero_add];have hg2:∃ v,(zs.take i++(rowL (xs[i]) 0 ys (zs.drop i)++zs.drop (i+ys.length)):List tW.den)[i+ys.length]? = some v:=⟨_,List.getElem?_eq_getElem (by rw[hlen'];omega)⟩;obtain⟨v,hv⟩:=hg2;rw[hv,Option.bind_some];have hrc:=row_val (xs[i]) 0 ys (zs.drop i) hxb hy (okW_drop hzo i) (by omega) (by omega) (by simp;omega);have e1:IntKind.u32.wrap (rowC (xs[i]) 0 ys (zs.drop i))=rowC (xs[i]) 0 ys (zs.drop i):=by rw[IntKind.wrap_u32];omega
  rw[e1];have hzl:i+ys.length<=zs.length:=by omega
  have:=ih (i+1) (stepZ i (xs[i]) ys zs) (by omega) (by rw[<- hz];exact stepZ_length hzl) (stepZ_ok hxb hy hzo hzl);rw[List.drop_eq_getElem_cons hil];exact this
def S153:Sum:=fun n0 ρ σ K=>match n0,σ with
 | 0,⟨[(0,.v false [.sl b (.int .u32) xs]),(1,.v false [.sl b' (.int .u32) ys]),(5,.v false [.wsl 0 1]),(6,.v false [.int .i64 i])],[.arr el (.int .u32) zs false true]⟩ =>
  if(el=162/\i=0/\(zs:List Int)=List.replicate (List.length (α:=Int) xs+List.length (α:=Int) ys) 0)/\List.length (α:=Int) xs+List.length (α:=Int) ys<4611686018427387904/\okW xs/\okW ys then K (.exit 0) ⟨[(5,one (.sl (some false) tW (mulG ys xs 0 zs)))],[]⟩else none
 | _,_=>none
theorem loops153:loopsOf (loopAt Tryz.f106 0)=[loopAt Tryz.f106 1]:=by kernel_rfl
theorem sum153(N:NumSem):SumOK N Tryz.prog 68 (loopAt Tryz.f106 0) S153:=
 SumOK.of_turns (Vz1_ok N) mixT (A:=A153t) (SumsOK.ofL loops153 ⟨sumL1 (by kernel_rfl) (sum153a N),trivial⟩) fun n0 ρ σ K r h=>by
  unfold S153 at h;split at h
  ·rename_i b xs b' ys i el zs;split at h
   ·rename_i hc;obtain⟨⟨rfl,rfl,hzs⟩,hZ,hx,hy⟩:=hc;have hzs':(zs:List tW.den)=List.replicate (List.length (α:=Int) xs+List.length (α:=Int) ys) 0:=hzs;subst hzs';have hl:=loop153 K b b' xs ys hx hy _ rfl hZ (List.length (α:=Int) xs) 0 _ (Nat.zero_add _) List.length_replicate (okW_zero _);exact⟨_,hl.trans h⟩
   ·contradiction
  ·contradiction
def A153s:Ann:={ A153 with sum:=fun i=>bif Nat.beq i 3 then some S153 else bif Nat.beq i 7 then some S153a else none }
def magMulO:Orc:=fun ρ args H cont=>match args,H with
 | [.v false [.sl b (.int .u32) xs],.v false [.sl b' (.int .u32) ys]],[] =>
  if List.length (α:=Int) xs<1000000000000/\List.length (α:=Int) ys<1000000000000/\okW xs/\okW ys then cont (sW (val xs*val ys).toNat) []else none
 | _,_=>none
theorem run153{ρ:Type} (b b':Option Bool) (xs ys:List tW.den) (cont:SV->HL->Option ρ):runF Vz1 A153s 0 Tryz.f106 (bodyOf Tryz.f106) ρ [one (.sl b tW xs),one (.sl b' tW ys)] [] cont =
  (let l:Int:=IntKind.i64.wrap ((xs.length:Int)+ys.length)
   let zs:List tW.den:=List.replicate l.toNat 0
   if 0<=l/\l<=l/\l<=70368744177664/\l*(4:Nat)<=70368744177664 then
   (if(162=162/\(0:Int)=0/\(zs:List Int)=List.replicate (List.length (α:=Int) xs+List.length (α:=Int) ys) 0)/\List.length (α:=Int) xs+List.length (α:=Int) ys<4611686018427387904/\okW xs/\okW ys then
    (let ws:List tW.den:=mulG ys xs 0 zs
     if List.length (α:=Int) ws<4000000000000/\okW ws then cont (sW (val ws).toNat) []else none)else none)
   else none):=by kernel_rfl
theorem orc153(N:NumSem):OrcOK N Tryz.prog 106 magMulO:=
 OrcOK.of_tale (runF_ok (Vz1_ok N) mixT (A:=A153s) (fuel:=0) Tryz.func106 (c:=bodyOf Tryz.f106) (by kernel_rfl)
  (SumsOK.ofL (ls:=[loopAt Tryz.f106 0,loopAt Tryz.f106 1]) (by kernel_rfl) ⟨sumL1 (by kernel_rfl) (sum153 N),sumL1 (by kernel_rfl) (sum153a N),trivial⟩)) fun ρ args H cont r h=>by
  unfold magMulO at h;split at h
  ·rename_i b xs b' ys;split at h
   ·rename_i hc;obtain⟨h1,h2,hx,hy⟩:=hc;refine(run153 b b' xs ys cont).trans ?_;have hl:IntKind.i64.wrap (((xs:List tW.den).length:Int)+(ys:List tW.den).length)=((List.length (α:=Int) xs+List.length (α:=Int) ys:Nat):Int):=by
     show IntKind.i64.wrap ((List.length (α:=Int) xs:Int)+List.length (α:=Int) ys)=_;rw[i64_nat] <;> omega
    simp only [];rw[hl,if_pos (by omega),Int.toNat_natCast,if_pos ⟨⟨trivial,trivial,rfl⟩,by omega,hx,hy⟩];obtain⟨m1,m2,m3⟩:=mulG_ok xs ys 0 (List.replicate (List.length (α:=Int) xs+List.length (α:=Int) ys) 0) hx hy (okW_zero _) (by simp) (fun k _ hk=>by
     rw[List.getElem?_eq_getElem hk];simp)
    rw[val_zero,Int.pow_zero,Int.one_mul,Int.zero_add]at m3;rw[List.length_replicate]at m2;have m2':List.length (α:=Int) (mulG ys xs 0 (List.replicate (α:=tW.den) (List.length (α:=Int) xs+List.length (α:=Int) ys) (0:Int)))<4000000000000:=by
     show (mulG ys xs 0 (List.replicate (List.length (α:=Int) xs+List.length (α:=Int) ys) 0)).length<_;rw[m2];omega
    have m3':val (mulG ys xs 0 (List.replicate (α:=tW.den) (List.length (α:=Int) xs+List.length (α:=Int) ys) (0:Int)))=val xs*val ys:=m3;rw[if_pos ⟨m2',m1⟩,m3'];exact h
   ·contradiction
  ·contradiction
def A214:Ann:={ head:=ptOf [(4,[0,1,6,7,8],[])],out:=ptOf [(4,[6,7],[6])] }
def σ214(b:Option Bool) (xs zs:List tW.den) (d i r:Int):St:=
 ⟨[(0,one (.sl b tW xs)),(1,one (.int .u32 d)),(6,one (.wsl 0 1)),(7,one (.int .u64 r)),(8,one (.int .i64 i))],[.arr 162 tW zs false true]⟩
theorem turn214{ρ:Type} (K:Exit->St->Option ρ) (go:St->Option ρ) (b:Option Bool) (xs zs:List tW.den) (d i r:Int) :
  turnF Vz1 A214 44 0 0 (loopAt Tryz.f177 0) K go (σ214 b xs zs d i r) =
  bif decide (0<=i)then(if 0<=i then(xs[i.toNat]?).bind fun x=>if IntKind.u64.wrap d=0 then none else
   if 0<=i/\i<zs.length then(zs[0+i.toNat]?).bind fun _=>if IntKind.u64.wrap d=0 then none else
    go (σ214 b xs (zs.set (0+i.toNat) (IntKind.u32.wrap (IntKind.u64.wrap ((bits .or .u64 (IntKind.u64.wrap (r*2 ^ min (Int.toNat 32) IntKind.u64.bits)) (IntKind.u64.wrap x)).tdiv (IntKind.u64.wrap d))))) d (IntKind.i64.wrap (i-1))
     ((bits .or .u64 (IntKind.u64.wrap (r*2 ^ min (Int.toNat 32) IntKind.u64.bits)) (IntKind.u64.wrap x)).tmod (IntKind.u64.wrap d)))else none else none)
  else K (.exit 0) ⟨[(6,one (.sl (some false) tW zs)),(7,one (.int .u64 r))],[]⟩:=by kernel_rfl
theorem loop214{ρ:Type} (K:Exit->St->Option ρ) (b:Option Bool) (xs:List tW.den) (hx:okW xs) (d:Int) (hd0:0<d) (hd1:d<4294967296) (hN:xs.length<4611686018427387904):∀ (m:Nat) (r:Int),m<=xs.length->0<=r->r<d ->
  ∃ (qs:List Int) (rem:Int),okW qs/\qs.length=m/\val qs*d+rem=4294967296 ^ m*r+val (xs.take m)/\0<=rem/\rem<d /\ ∀ zs:List tW.den,zs.length=xs.length ->
   itF (turnF Vz1 A214 44 0 0 (loopAt Tryz.f177 0) K) (fun _=>none) (m+1) (σ214 b xs zs d ((m:Int)-1) r)=K (.exit 0) ⟨[(6,one (.sl (some false) tW (qs++zs.drop m))),(7,one (.int .u64 rem))],[]⟩:=by
 intro m
 induction m with
 | zero =>
  intro r _ h0 h1;refine⟨[],r,by simp [okW],rfl,by simp [val],h0,h1,fun zs _=>?_⟩;rw[itF_succ,turn214,show decide (0<=(((0:Nat):Int)-1))=false from rfl];rfl
 | succ m ih =>
  intro r hm h0 h1;have hml:m<xs.length:=hm;have hxb:=hx _ (List.getElem_mem hml);have vx:=val_take_succ (List.getElem?_eq_getElem hml);generalize hxv:(xs[m]:Int)=x at *;have ht0:0<=r*4294967296+x:=by omega
  have hq:(r*4294967296+x) / d<4294967296:=by
   rw[Int.ediv_lt_iff_lt_mul hd0];omega
  have hq0:0<=(r*4294967296+x) / d:=Int.ediv_nonneg ht0 (by omega);have hr0:0<=(r*4294967296+x) % d:=Int.emod_nonneg _ (by omega);have hr1:(r*4294967296+x) % d<d:=Int.emod_lt_of_pos _ hd0;have hdm:=Int.mul_ediv_add_emod (r*4294967296+x) d;obtain⟨qs,rem,k1,k2,k3,k4,k5,k6⟩:=ih ((r*4294967296+x) % d) (by omega) hr0 hr1;refine⟨qs ++ [(r*4294967296+x) / d],rem,okW_append k1 (by rw[okW_cons];exact⟨⟨hq0,hq⟩,by simp [okW]⟩),by simp [k2],?_,k4,k5,fun zs hz=>?_⟩
  ·rw[val_append,k2,vx,Int.pow_succ];simp only [val,Int.mul_zero,Int.add_zero];generalize (4294967296:Int) ^ m=P at *;generalize (r*4294967296+x) / d=q at *;generalize (r*4294967296+x) % d=s at *;have e1:(val qs+P*q)*d=val qs*d+P*(d*q):=by
    rw[Int.add_mul,Int.mul_assoc,Int.mul_comm q d]
   have e2:P*4294967296*r+(val (xs.take m)+P*x)=P*(r*4294967296+x)+val (xs.take m):=by
    rw[Int.mul_add,Int.mul_assoc,Int.mul_comm 4294967296 r];omega
   rw[e1,e2,<- hdm,Int.mul_add];omega
  ·have e0:((m+1:Nat):Int)-1=m:=by omega
   have hp:0<=(m:Int):=by omega
   have hmz:m<zs.length:=by omega
   have hwd:IntKind.u64.wrap d=d:=u64_id d (by omega) (by omega);have hnz:¬ d=0:=by omega
   have hpz:0<=(m:Int)/\(m:Int)<zs.length:=by omega
   have e1:IntKind.u64.wrap (r*2 ^ min (Int.toNat 32) IntKind.u64.bits)=r*4294967296:=by
    rw[show (2:Int) ^ min (Int.toNat 32) IntKind.u64.bits=4294967296 by decide,u64_id _ (by omega) (by omega)]
   have e2:IntKind.u64.wrap x=x:=u64_id x hxb.1 (by omega);have e3:bits .or .u64 (r*4294967296) x=r*4294967296+x:=or_u64 r x ⟨h0,by omega⟩ hxb;have e4:(r*4294967296+x).tdiv d=(r*4294967296+x) / d:=Int.tdiv_eq_ediv_of_nonneg ht0;have e5:(r*4294967296+x).tmod d=(r*4294967296+x) % d:=Int.tmod_eq_emod_of_nonneg ht0;have e6:IntKind.u32.wrap (IntKind.u64.wrap ((r*4294967296+x) / d))=(r*4294967296+x) / d:=by
    rw[u64_id _ hq0 (by omega),IntKind.wrap_u32];omega
   have e7:IntKind.i64.wrap ((m:Int)-1)=(m:Int)-1:=by rw[IntKind.wrap_i64];omega
   rw[itF_succ,turn214,e0,decide_eq_true hp,cond_true,if_pos hp,Int.toNat_natCast,List.getElem?_eq_getElem hml,Option.bind_some,hwd,if_neg hnz,if_pos hpz,Nat.zero_add,List.getElem?_eq_getElem hmz,Option.bind_some,if_neg hnz];rw[hxv,e1,e2,e3,e4,e5,e6,e7,k6 _ (by simpa using hz)];congr 5;rw[List.append_assoc];congr 1;rw[List.drop_eq_getElem_cons (by simpa using hmz)];simp [List.drop_set_of_lt]
def S214:Sum:=fun n0 ρ σ K=>match n0,σ with
 | 0,⟨[(0,.v false [.sl b (.int .u32) xs]),(1,.v false [.int .u32 d]),(6,.v false [.wsl 0 1]),(7,.v false [.int .u64 r]),(8,.v false [.int .i64 i])],[.arr el (.int .u32) zs false true]⟩ =>
  if(el=162/\r=0/\i=(List.length (α:=Int) xs:Int)-1/\List.length (α:=Int) zs=List.length (α:=Int) xs)/\List.length (α:=Int) xs<4611686018427387904/\okW xs/\0<d/\d<4294967296 then
   K (.exit 0) ⟨[(6,one (.sl (some false) tW (digitsN (List.length (α:=Int) xs) (val xs / d)))),(7,one (.int .u64 (val xs % d)))],[]⟩else none
 | _,_=>none
theorem sum214(N:NumSem):SumOK N Tryz.prog 44 (loopAt Tryz.f177 0) S214:=
 SumOK.of_turns (Vz1_ok N) mixT (A:=A214) (SumsOK.none fun _=>rfl) fun n0 ρ σ K r h=>by
  unfold S214 at h;split at h
  ·rename_i b xs d r i el zs;split at h
   ·rename_i hc;obtain⟨⟨rfl,rfl,rfl,hz⟩,hN,hx,hd0,hd1⟩:=hc;obtain⟨qs,rem,k1,k2,k3,k4,k5,k6⟩:=loop214 K b xs hx d hd0 hd1 hN (List.length (α:=Int) xs) 0 (Nat.le_refl _) (by omega) hd0;have hl:=k6 zs hz;have hdz:(zs:List tW.den).drop (List.length (α:=Int) xs)=[]:=List.drop_of_length_le (by show List.length (α:=Int) zs<=_;omega);rw[hdz]at hl;have hqa:(qs++([]:List Int):List tW.den)=qs:=List.append_nil _;rw[hqa]at hl;have htl:(xs:List tW.den).take (List.length (α:=Int) xs)=xs:=List.take_length;rw[htl,Int.mul_zero,Int.zero_add]at k3;have e1:val xs / d=val qs:=by
     rw[<- k3,Int.add_comm,Int.add_mul_ediv_right _ _ (by omega),Int.ediv_eq_zero_of_lt k4 k5];omega
    have e2:val xs % d=rem:=by
     rw[<- k3,Int.add_comm,Int.add_mul_emod_self_right,Int.emod_eq_of_lt k4 k5]
    rw[e1,e2,<- k2,<- digitsN_val k1]at h;exact⟨_,hl.trans h⟩
   ·contradiction
  ·contradiction
def A214s:Ann:={ A214 with sum:=fun i=>bif Nat.beq i 4 then some S214 else none }
def sW2(a b:Nat):SV:=.tup [(false,[.sl none tW (words a)]),(false,[.sl none tW (words b)])]
def magDiv1O:Orc:=fun ρ args H cont=>match args,H with
 | [.v false [.sl b (.int .u32) xs],.v false [.int .u32 d]],[] =>
  if List.length (α:=Int) xs<1000000000000/\okW xs/\0<d/\d<4294967296 then cont (sW2 (val xs / d).toNat (val xs % d).toNat) []else none
 | _,_=>none
theorem run214{ρ:Type} (b:Option Bool) (xs:List tW.den) (d:Int) (cont:SV->HL->Option ρ):runF Vz2 A214s 0 Tryz.f177 (bodyOf Tryz.f177) ρ [one (.sl b tW xs),one (.int .u32 d)] [] cont =
  (let l:Int:=xs.length
   let zs:List tW.den:=List.replicate l.toNat 0
   if 0<=l/\l<=l/\l<=70368744177664/\l*(4:Nat)<=70368744177664 then
   (if(162=162/\(0:Int)=0/\IntKind.i64.wrap (l-1)=(List.length (α:=Int) xs:Int)-1/\List.length (α:=Int) zs=List.length (α:=Int) xs)/\List.length (α:=Int) xs<4611686018427387904/\okW xs/\0<d/\d<4294967296 then
    (let ws:List tW.den:=digitsN (List.length (α:=Int) xs) (val xs / d)
     if List.length (α:=Int) ws<4000000000000/\okW ws then(if 0<=val xs % d/\val xs % d<18446744073709551616 then cont (sW2 (val ws).toNat (val xs % d).toNat) []else none)else none)else none)
   else none):=by kernel_rfl
theorem orc214(N:NumSem):OrcOK N Tryz.prog 177 magDiv1O:=
 OrcOK.of_tale (runF_ok (Vz2_ok N) mixT (A:=A214s) (fuel:=0) Tryz.func177 (c:=bodyOf Tryz.f177) (by kernel_rfl)
  (SumsOK.ofL (ls:=[loopAt Tryz.f177 0]) (by kernel_rfl) ⟨sumL1 (by kernel_rfl) (sum214 N),trivial⟩)) fun ρ args H cont r h=>by
  unfold magDiv1O at h;split at h
  ·rename_i b xs d;split at h
   ·rename_i hc;obtain⟨h1,hx,d0,d1⟩:=hc;refine(run214 b xs d cont).trans ?_;have h1':(xs:List tW.den).length<1000000000000:=h1;simp only [];rw[if_pos (by omega),Int.toNat_natCast];have hz:List.length (α:=Int) (List.replicate (α:=tW.den) (xs:List tW.den).length (0:Int))=List.length (α:=Int) xs:=List.length_replicate;have hv0:=val_nonneg hx;have hvl:=val_lt hx;have hr0:=Int.emod_nonneg (val xs) (b:=d) (by omega);have hr1:=Int.emod_lt_of_pos (val xs) d0;have hq0:0<=val xs / d:=Int.ediv_nonneg hv0 (by omega);have hq1:val xs / d<=val xs:=Int.ediv_le_self _ hv0;rw[if_pos ⟨⟨trivial,trivial,by rw[IntKind.wrap_i64];show _=((xs:List tW.den).length:Int)-1;omega,hz⟩,by omega,hx,d0,d1⟩,
     if_pos ⟨by rw[digitsN_length];omega,digitsN_ok _ _⟩,if_pos ⟨hr0,by omega⟩,val_digitsN _ _ hq0 (by omega)]
    exact h
   ·contradiction
  ·contradiction
end Go.Abs
namespace Go.Abs
open Go.Proofs
set_option maxRecDepth 100000
theorem or_shift'(c x:Int) (k:Nat) (hk:k<=31) (hc:0<=c/\c<2 ^ k) (hx:0<=x/\x<4294967296):bits .or .u64 (x*2 ^ k) c=c+x*2 ^ k:=by
 have h:=or_shift c x k hk hc hx;obtain⟨c,rfl⟩:=Int.eq_ofNat_of_zero_le hc.1;obtain⟨x,rfl⟩:=Int.eq_ofNat_of_zero_le hx.1;have hw:∀ n:Int,0<=n->n<2 ^ 64->IntKind.u64.wrap n=n:=fun n h0 h1=>by rw[IntKind.wrap_u64];omega
 have e:((x:Int)*2 ^ k)=((x*2 ^ k:Nat):Int):=by simp
 have hp:(2:Nat) ^ k<=2 ^ 31:=Nat.pow_le_pow_right (by omega) hk;have hb1:x*2 ^ k<=4294967295*2 ^ 31:=Nat.mul_le_mul (by omega) hp;have hcn:c<2 ^ k:=by have:=hc.2;rw[show (2:Int) ^ k=((2 ^ k:Nat):Int)by simp]at this;omega
 rw[<- h,e,(bits_nat .u64 64 (by decide) hw c (x*2 ^ k) (by omega) (by omega)).2,(bits_nat .u64 64 (by decide) hw (x*2 ^ k) c (by omega) (by omega)).2,Nat.or_comm]
def A215:Ann:={ head:=ptOf [(4,[0,1,2,7,8,9],[])],out:=ptOf [(4,[0,2,7,8],[])] }
def σ215(b:Option Bool) (xs zs:List tW.den) (s e c i:Int):St:=
 ⟨[(0,one (.sl b tW xs)),(1,one (.int .u64 s)),(2,one (.int .i64 e)),(7,one (.wsl 0 1)),(8,one (.int .u64 c)),(9,one (.int .i64 i))],[.arr 162 tW zs false true]⟩
def o215(b:Option Bool) (xs zs:List tW.den) (e c:Int):St:=
 ⟨[(0,one (.sl b tW xs)),(2,one (.int .i64 e)),(7,one (.wsl 0 1)),(8,one (.int .u64 c))],[.arr 162 tW zs false true]⟩
theorem turn215{ρ:Type} (K:Exit->St->Option ρ) (go:St->Option ρ) (b:Option Bool) (xs zs:List tW.den) (s e c i:Int) :
  turnF Vz1 A215 47 0 0 (loopAt Tryz.f178 0) K go (σ215 b xs zs s e c i) =
  bif decide (i<xs.length)then(if 0<=i then(xs[i.toNat]?).bind fun x=>if s<0 then none else
   if 0<=i/\i<zs.length then(zs[0+i.toNat]?).bind fun _ =>
    go (σ215 b xs (zs.set (0+i.toNat) (IntKind.u32.wrap (bits .or .u64 (IntKind.u64.wrap (IntKind.u64.wrap x*2 ^ min s.toNat IntKind.u64.bits)) c))) s e
     ((bits .or .u64 (IntKind.u64.wrap (IntKind.u64.wrap x*2 ^ min s.toNat IntKind.u64.bits)) c).fdiv (2 ^ min (Int.toNat 32) IntKind.u64.bits)) (IntKind.i64.wrap (i+1)))else none else none)
  else K (.exit 0) (o215 b xs zs e c):=by kernel_rfl
theorem loop215{ρ:Type} (K:Exit->St->Option ρ) (b:Option Bool) (xs:List Int) (hx:okW xs) (s:Nat) (hs:s<=31) (e:Int) (N Z:Nat) (hN:xs.length=N) (hN':N<1000000000000) (hZ:N<=Z):∀ (m i:Nat) (zs:List Int) (c:Int),i+m=N->zs.length=Z->0<=c->c<2 ^ s ->
  itF (turnF Vz1 A215 47 0 0 (loopAt Tryz.f178 0) K) (fun _=>none) (m+1) (σ215 b xs zs s e c i) =
   K (.exit 0) (o215 b xs (zs.take i++(shWs (2 ^ s) c (xs.drop i)++zs.drop N)) e (shC (2 ^ s) c (xs.drop i))):=by
 have hp1:(1:Int)<=2 ^ s:=Int.pow_pos (by omega);have hp2:(2:Int) ^ s<=2147483648:=by
  rw[show (2:Int) ^ s=((2 ^ s:Nat):Int)by simp];have:(2:Nat) ^ s<=2 ^ 31:=Nat.pow_le_pow_right (by omega) hs;omega
 intro m
 induction m with
 | zero =>
  intro i zs c hi hz h0 h1;have hd:decide ((i:Int)<(xs:List tW.den).length)=false:=decide_eq_false (by show ¬ ((i:Int)<xs.length);omega);rw[itF_succ,turn215,hd,cond_false,show xs.drop i=[]from List.drop_of_length_le (by omega)];have e1:i=N:=by omega
  rw[e1];simp only [shWs,shC,List.nil_append,List.take_append_drop]
 | succ m ih =>
  intro i zs c hi hz h0 h1;have hil:i<xs.length:=by omega
  have hiz:i<zs.length:=by omega
  have hp:(0:Int)<=i:=by omega
  have hd:decide ((i:Int)<(xs:List tW.den).length)=true:=decide_eq_true (by show (i:Int)<xs.length;omega);have hxb:=hx _ (List.getElem_mem hil);have hxi:(xs:List tW.den)[i]? = some xs[i]:=List.getElem?_eq_getElem hil;have hzi:(zs:List tW.den)[i]? = some zs[i]:=List.getElem?_eq_getElem hiz;have hpz:(0:Int)<=i/\(i:Int)<(zs:List tW.den).length:=⟨hp,by show (i:Int)<zs.length;omega⟩;have e4:IntKind.i64.wrap ((i:Int)+1)=((i+1:Nat):Int):=by rw[i64_nat] <;> omega
  rw[itF_succ,turn215,hd,cond_true,if_pos hp,Int.toNat_natCast,hxi,Option.bind_some,if_neg (by omega),if_pos hpz,Nat.zero_add,hzi,Option.bind_some,e4];have dx:xs.drop i=xs[i] :: xs.drop (i+1):=List.drop_eq_getElem_cons hil;rw[dx];generalize (xs[i]:Int)=x at *;have m0:0<=x*2 ^ s:=Int.mul_nonneg hxb.1 (by omega);have m1:x*2 ^ s<=4294967295*2 ^ s:=Int.mul_le_mul_of_nonneg_right (by omega) (by omega);have e1:min (Int.toNat (s:Int)) IntKind.u64.bits=s:=by
   rw[Int.toNat_natCast];exact Nat.min_eq_left (show s<=64 by omega)
  have e2:IntKind.u64.wrap (IntKind.u64.wrap x*2 ^ s)=x*2 ^ s:=by
   rw[u64_id x hxb.1 (by omega),u64_id _ m0 (by omega)]
  have e3:bits .or .u64 (x*2 ^ s) c=c+x*2 ^ s:=or_shift' c x s hs ⟨h0,h1⟩ hxb;have e5:(s:Int).toNat=s:=Int.toNat_natCast s;rw[e1,e2,e3,shr32,IntKind.wrap_u32];have hsl:(zs.set i ((c+x*2 ^ s) % 4294967296)).length=Z:=by simpa using hz
  have hcl:(c+x*2 ^ s) / 4294967296<2 ^ s:=by omega
  have key:=ih (i+1) (zs.set i ((c+x*2 ^ s) % 4294967296)) ((c+x*2 ^ s) / 4294967296) (by omega) hsl (by omega) hcl;have t1:(zs.set i ((c+x*2 ^ s) % 4294967296)).take (i+1)=zs.take i ++ [(c+x*2 ^ s) % 4294967296]:=take_set_one zs _ _ hiz;have t2:(zs.set i ((c+x*2 ^ s) % 4294967296)).drop N=zs.drop N:=List.drop_set_of_lt (by omega);rw[t1,t2]at key;refine key.trans ?_;simp only [shWs,shC,List.append_assoc,List.cons_append,List.nil_append]
def S215:Sum:=fun n0 ρ σ K=>match n0,σ with
 | 0,⟨[(0,.v false [.sl b (.int .u32) xs]),(1,.v false [.int .u64 s]),(2,.v false [.int .i64 e]),(7,.v false [.wsl 0 1]),(8,.v false [.int .u64 c]),(9,.v false [.int .i64 i])],[.arr el (.int .u32) zs false true]⟩ =>
  if(el=162/\c=0/\i=0)/\okW xs/\(0<=s/\s<=31)/\List.length (α:=Int) xs<1000000000000/\List.length (α:=Int) xs<=List.length (α:=Int) zs then
   K (.exit 0) (o215 b xs (shWs (2 ^ s.toNat) 0 xs++List.drop (α:=Int) (List.length (α:=Int) xs) zs) e (shC (2 ^ s.toNat) 0 xs))else none
 | _,_=>none
theorem sum215(N:NumSem):SumOK N Tryz.prog 47 (loopAt Tryz.f178 0) S215:=
 SumOK.of_turns (Vz1_ok N) mixT (A:=A215) (SumsOK.none fun _=>rfl) fun n0 ρ σ K r h=>by
  unfold S215 at h;split at h
  ·rename_i b xs s e c i el zs;split at h
   ·rename_i hc;obtain⟨⟨rfl,rfl,rfl⟩,hx,⟨hs0,hs⟩,hN,hZ⟩:=hc;obtain⟨s,rfl⟩:=Int.eq_ofNat_of_zero_le hs0;rw[Int.toNat_natCast]at h;have hl:=loop215 K b xs hx s (by omega) e (List.length (α:=Int) xs) (List.length (α:=Int) zs) rfl hN hZ (List.length (α:=Int) xs) 0 zs 0 (Nat.zero_add _) rfl (by omega) (Int.pow_pos (by omega));exact⟨_,hl.trans h⟩
   ·contradiction
  ·contradiction
def A215s:Ann:={ A215 with sum:=fun i=>bif Nat.beq i 4 then some S215 else none }
def shlO:Orc:=fun ρ args H cont=>match args,H with
 | [.v false [.sl b (.int .u32) xs],.v false [.int .u64 s],.v false [.int .i64 e]],[] =>
  if List.length (α:=Int) xs<100000000000/\okW xs/\0<=s/\s<=31 then
   (if e=0 then cont (one (.wsl 0 1)) [.arr 162 tW (shWs (2 ^ s.toNat) 0 xs) false true]else if e=1 then cont (one (.wsl 0 1)) [.arr 162 tW (shL (2 ^ s.toNat) 0 xs) false true]else none)else none
 | _,_=>none
theorem run215{ρ:Type} (b:Option Bool) (xs:List tW.den) (s e:Int) (cont:SV->HL->Option ρ):runF Vz1 A215s 0 Tryz.f178 (bodyOf Tryz.f178) ρ [one (.sl b tW xs),one (.int .u64 s),one (.int .i64 e)] [] cont =
  (let l:Int:=IntKind.i64.wrap ((xs.length:Int)+e)
   let zs:List tW.den:=List.replicate l.toNat 0
   if 0<=l/\l<=l/\l<=70368744177664/\l*(4:Nat)<=70368744177664 then
   (if(162=162/\(0:Int)=0/\(0:Int)=0)/\okW xs/\(0<=s/\s<=31)/\List.length (α:=Int) xs<1000000000000/\List.length (α:=Int) xs<=List.length (α:=Int) zs then
    (let ws:List tW.den:=shWs (2 ^ s.toNat) 0 xs++List.drop (α:=Int) (List.length (α:=Int) xs) zs
     bif decide (0<e)then
     (if(0:Int)<=xs.length/\(xs.length:Int)<ws.length then(ws[0+xs.length]?).bind fun _=>cont (one (.wsl 0 1)) [.arr 162 tW (ws.set (0+xs.length) (IntKind.u32.wrap (shC (2 ^ s.toNat) 0 xs))) false true]else none)
     else cont (one (.wsl 0 1)) [.arr 162 tW ws false true])else none)
   else none):=by kernel_rfl
theorem orc215(N:NumSem):OrcOK N Tryz.prog 178 shlO:=
 OrcOK.of_tale (runF_ok (Vz1_ok N) mixT (A:=A215s) (fuel:=0) Tryz.func178 (c:=bodyOf Tryz.f178) (by kernel_rfl)
  (SumsOK.ofL (ls:=[loopAt Tryz.f178 0]) (by kernel_rfl) ⟨sumL1 (by kernel_rfl) (sum215 N),trivial⟩)) fun ρ args H cont r h=>by
  unfold shlO at h;split at h
  ·rename_i b xs s e;split at h
   ·rename_i hc;obtain⟨h1,hx,hs0,hs⟩:=hc;refine(run215 b xs s e cont).trans ?_;obtain⟨s,rfl⟩:=Int.eq_ofNat_of_zero_le hs0;rw[Int.toNat_natCast]at h ⊢;have hp1:(1:Int)<=2 ^ s:=Int.pow_pos (by omega);have hp2:(2:Int) ^ s<=2147483648:=by
     rw[show (2:Int) ^ s=((2 ^ s:Nat):Int)by simp];have:(2:Nat) ^ s<=2 ^ 31:=Nat.pow_le_pow_right (by omega) (by omega);omega
    have h1':(xs:List tW.den).length<100000000000:=h1;have hwl:(shWs (2 ^ s) 0 xs).length=List.length (α:=Int) xs:=shWs_length _ _ _;simp only [];split at h
    ·rename_i he;subst he;have hl:IntKind.i64.wrap (((xs:List tW.den).length:Int)+0)=((List.length (α:=Int) xs:Nat):Int):=by
      show IntKind.i64.wrap ((List.length (α:=Int) xs:Int)+0)=_;rw[i64_nat] <;> omega
     have hz:List.length (α:=Int) (List.replicate (α:=tW.den) (List.length (α:=Int) xs) (0:Int))=List.length (α:=Int) xs:=List.length_replicate;rw[hl,if_pos (by omega),Int.toNat_natCast,if_pos ⟨⟨trivial,trivial,trivial⟩,hx,⟨by omega,by omega⟩,by omega,by omega⟩,decide_eq_false (by omega),cond_false];have e1:(shWs (2 ^ s) 0 xs++List.drop (α:=Int) (List.length (α:=Int) xs) (List.replicate (α:=tW.den) (List.length (α:=Int) xs) (0:Int)):List tW.den)=shWs (2 ^ s) 0 xs:=by
      have:List.drop (α:=Int) (List.length (α:=Int) xs) (List.replicate (α:=tW.den) (List.length (α:=Int) xs) (0:Int))=[]:=List.drop_of_length_le (by omega);rw[this];exact List.append_nil _
     rw[e1];exact h
    ·split at h
     ·rename_i he;subst he;have hl:IntKind.i64.wrap (((xs:List tW.den).length:Int)+1)=((List.length (α:=Int) xs+1:Nat):Int):=by
       show IntKind.i64.wrap ((List.length (α:=Int) xs:Int)+1)=_;rw[i64_nat] <;> omega
      have hz:List.length (α:=Int) (List.replicate (α:=tW.den) (List.length (α:=Int) xs+1) (0:Int))=List.length (α:=Int) xs+1:=List.length_replicate;rw[hl,if_pos (by omega),Int.toNat_natCast,if_pos ⟨⟨trivial,trivial,trivial⟩,hx,⟨by omega,by omega⟩,by omega,by omega⟩,decide_eq_true (by omega),cond_true];have e0:List.drop (α:=Int) (List.length (α:=Int) xs) (List.replicate (α:=tW.den) (List.length (α:=Int) xs+1) (0:Int))=[0]:=by
       show List.drop (List.length (α:=Int) xs) (List.replicate (List.length (α:=Int) xs+1) (0:Int))=[0];rw[List.drop_replicate,Nat.add_sub_cancel_left];rfl
      rw[e0];have hlen:(shWs (2 ^ s) 0 xs ++ [0]:List tW.den).length=List.length (α:=Int) xs+1:=by
       show (shWs (2 ^ s) 0 xs ++ [0]).length=_;rw[List.length_append,hwl];rfl
      have hg:(shWs (2 ^ s) 0 xs ++ [0]:List tW.den)[(xs:List tW.den).length]? = some (0:Int):=by
       show (shWs (2 ^ s) 0 xs ++ [0])[List.length (α:=Int) xs]? = some 0;rw[<- hwl,List.getElem?_append_right (Nat.le_refl _),Nat.sub_self];rfl
      rw[hlen,if_pos ⟨by omega,by show ((List.length (α:=Int) xs:Nat):Int)<_;omega⟩,Nat.zero_add,hg,Option.bind_some];have hc:=shC_lt (2 ^ s) (by omega) hp2 0 xs hx (by omega) (by omega);have hset:((shWs (2 ^ s) 0 xs ++ [0]:List tW.den).set (xs:List tW.den).length (IntKind.u32.wrap (shC (2 ^ s) 0 xs)):List tW.den)=shL (2 ^ s) 0 xs:=by
       show (shWs (2 ^ s) 0 xs ++ [0]).set (List.length (α:=Int) xs) (IntKind.u32.wrap (shC (2 ^ s) 0 xs))=_;rw[List.set_append_right _ _ (by omega),hwl,Nat.sub_self,IntKind.wrap_u32,shL_eq];have:shC (2 ^ s) 0 xs % 4294967296=shC (2 ^ s) 0 xs:=by omega
       rw[this];rfl
      rw[hset];exact h
     ·contradiction
   ·contradiction
  ·contradiction
end Go.Abs

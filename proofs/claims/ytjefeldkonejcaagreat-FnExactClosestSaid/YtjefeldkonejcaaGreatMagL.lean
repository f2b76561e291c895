/-
 A PART OF THE PROOF of ClI (texts MagL MagM MagN MagO MagP MagQ): the claim itself stands in the last text. No conditions beside those of the given row.
-/
import Derived.Test.YtjefeldkonejcaaGreatMagF
set_option linter.unusedVariables false
set_option linter.unnecessarySimpa false
set_option linter.unusedSimpArgs false
namespace Go.Abs
open Go.Proofs
set_option maxRecDepth 100000
def A247:Ann:={ head:=ptOf [(3,[0,1,2,7,8,10,11,12],[])],out:=ptOf [(3,[8],[])] }
def σ247(b:Option Bool) (zs ys:List tW.den) (d c w i n:Int) (el off len:Nat):St:=
 ⟨[(0,one (.osl 0 1 off len)),(1,one (.sl b tW ys)),(2,one (.int .u32 d)),(7,one (.int .u64 c)),(8,one (.int .u32 w)),(10,one (.osl 0 1 off len)),(11,one (.int .i64 n)),(12,one (.int .i64 i))],ownA el zs⟩
section
variable {ρ:Type} (K:Exit->St->Option ρ) (go:St->Option ρ) (b:Option Bool) (zs ys:List tW.den) (d c w i n:Int) (el off len:Nat)
def fin247(t:Int):Option ρ:=
 if 0<=i/\i<len then(zs[off+i.toNat]?).bind fun u=>if(0<=(u:Int)/\(u:Int)<4294967296)/\(0<=IntKind.u32.wrap t/\IntKind.u32.wrap t<4294967296)/\0<=w/\w<=1 then
  if 0<=i/\i<len then(zs[off+i.toNat]?).bind fun _ =>
   go (σ247 b (zs.set (off+i.toNat) (((u:Int)-IntKind.u32.wrap t-w) % 4294967296)) ys d (t.fdiv (2 ^ min (Int.toNat 32) IntKind.u64.bits)) (if(u:Int)<IntKind.u32.wrap t+w then 1 else 0) (IntKind.i64.wrap (i+1)) n el off len)else none else none else none
theorem turn247:turnF V2 A247 48 1 0 (loopAt Tryz.f208 0) K go (σ247 b zs ys d c w i n el off len) =
  bif decide (i<n)then(bif decide (i<ys.length)then(if 0<=i then(ys[i.toNat]?).bind fun y=>fin247 go b zs ys d w i n el off len (IntKind.u64.wrap (c+IntKind.u64.wrap (IntKind.u64.wrap d*IntKind.u64.wrap y)))else none)
   else fin247 go b zs ys d w i n el off len c)
  else K (.exit 0) ⟨[(8,one (.int .u32 w))],ownA el zs⟩:=by kernel_rfl
end
theorem loop247{ρ:Type} (K:Exit->St->Option ρ) (b:Option Bool) (ys:List tW.den) (hy:okW ys) (d:Int) (hd:0<=d/\d<4294967296) (el off len Z:Nat) (hlen:off+len<=Z) (hZ:Z<4611686018427387904) :
  ∀ (m i:Nat) (zs:List tW.den) (c w:Int),i+m=len->zs.length=Z->okW zs->0<=c->c<4294967296->0<=w->w<=1 ->
  itF (turnF V2 A247 48 1 0 (loopAt Tryz.f208 0) K) (fun _=>none) (m+1) (σ247 b zs ys d c w i len el off len) =
   K (.exit 0) ⟨[(8,one (.int .u32 (takeE d c w ((zs.drop (off+i)).take m) (ys.drop i)).2))],ownA el (zs.take (off+i)++(takeL d c w ((zs.drop (off+i)).take m) (ys.drop i)++zs.drop (off+len)))⟩:=by
 intro m
 induction m with
 | zero =>
  intro i zs c w hi hz hzo h0 h1 w0 w1;simp only [itF];rw[turn247];have:decide ((i:Int)<(len:Int))=false:=decide_eq_false (by omega);rw[this,cond_false];have e:i=len:=by omega
  subst e;simp only [List.take_zero,takeE,takeL,List.nil_append,List.take_append_drop]
 | succ m ih =>
  intro i zs c w hi hz hzo h0 h1 w0 w1;rw[show itF (turnF V2 A247 48 1 0 (loopAt Tryz.f208 0) K) (fun _=>none) (m+1+1)=turnF V2 A247 48 1 0 (loopAt Tryz.f208 0) K (itF (turnF V2 A247 48 1 0 (loopAt Tryz.f208 0) K) (fun _=>none) (m+1))from rfl,turn247];have hdi:decide ((i:Int)<(len:Int))=true:=decide_eq_true (by omega);rw[hdi,cond_true];have hoi:off+i<zs.length:=by omega
  have hub:=hzo _ (List.getElem_mem hoi);have dz:(zs.drop (off+i)).take (m+1)=zs[off+i] :: (zs.drop (off+i+1)).take m:=by
   rw[List.drop_eq_getElem_cons hoi,List.take_succ_cons]
  have hfin:∀ t:Int,0<=t->t<18446744073709551616->t=c+d*(ys.drop i).headD 0->fin247 (itF (turnF V2 A247 48 1 0 (loopAt Tryz.f208 0) K) (fun _=>none) (m+1)) b zs ys d w i len el off len t =
    K (.exit 0) ⟨[(8,one (.int .u32 (takeE d c w ((zs.drop (off+i)).take (m+1)) (ys.drop i)).2))],ownA el (zs.take (off+i)++(takeL d c w ((zs.drop (off+i)).take (m+1)) (ys.drop i)++zs.drop (off+len)))⟩:=by
   intro t ht0 ht1 ht;unfold fin247;have hp:(0:Int)<=i/\(i:Int)<len:=by omega
   have e1:IntKind.u32.wrap t=t % 4294967296:=IntKind.wrap_u32 t;have e3:t.fdiv (2 ^ min (Int.toNat 32) IntKind.u64.bits)=t / 4294967296:=by
    rw[show (2:Int) ^ min (Int.toNat 32) IntKind.u64.bits=4294967296 by decide];rw[Int.fdiv_eq_ediv_of_nonneg _ (by decide)]
   have e4:IntKind.i64.wrap ((i:Int)+1)=((i+1:Nat):Int):=by rw[i64_nat] <;> omega
   rw[if_pos hp,Int.toNat_natCast,List.getElem?_eq_getElem hoi,Option.bind_some,e1,if_pos ⟨hub,by omega,w0,w1⟩,if_pos hp,Option.bind_some,e3,e4];have hb:(0:Int)<=(if(zs[off+i]:Int)<t % 4294967296+w then 1 else 0)/\(if(zs[off+i]:Int)<t % 4294967296+w then(1:Int)else 0)<=1:=by split <;> omega
   rw[ih (i+1) _ _ _ (by omega) (by simpa using hz) (okW_set hzo (by omega)) (by omega) (by omega) hb.1 hb.2];have t1:(zs.set (off+i) (((zs[off+i]:Int)-t % 4294967296-w) % 4294967296)).take (off+(i+1))=zs.take (off+i) ++ [((zs[off+i]:Int)-t % 4294967296-w) % 4294967296]:=by
    rw[<- Nat.add_assoc,List.take_add_one,List.take_set_of_le (Nat.le_refl _),List.getElem?_set_self hoi];rfl
   have t2:∀ k,off+i<k->(zs.set (off+i) (((zs[off+i]:Int)-t % 4294967296-w) % 4294967296)).drop k=zs.drop k:=fun k hk=>List.drop_set_of_lt hk
   rw[t1,t2 _ (by omega),t2 _ (by omega),dz];simp only [takeE,takeL,List.append_assoc,List.nil_append,List.cons_append,List.tail_drop,<- ht,Nat.add_assoc]
  by_cases hy':i<ys.length
  ·have hd2:decide ((i:Int)<(ys.length:Int))=true:=decide_eq_true (by omega);have hyb:=hy _ (List.getElem_mem hy');have hm:=word_mul hd hyb;rw[hd2,cond_true,if_pos (by omega),Int.toNat_natCast,List.getElem?_eq_getElem hy',Option.bind_some];have e1:IntKind.u64.wrap (c+IntKind.u64.wrap (IntKind.u64.wrap d*IntKind.u64.wrap (ys[i])))=c+d*ys[i]:=by
    rw[u64_id d hd.1 (by omega),u64_id _ hyb.1 (by omega),u64_id (d*ys[i]) hm.1 (by omega),u64_id _ (by omega) (by omega)]
   rw[e1];exact hfin _ (by omega) (by omega) (by rw[getD_drop,List.getElem?_eq_getElem hy'];rfl)
  ·have hd2:decide ((i:Int)<(ys.length:Int))=false:=decide_eq_false (by omega);rw[hd2,cond_false];exact hfin c h0 (by omega) (by rw[getD_drop,List.getElem?_eq_none (by omega)];simp)
def tkZ(d:Int) (off len:Nat) (zs ys:List Int):List Int:=zs.take off++(takeL d 0 0 ((zs.drop off).take len) ys++zs.drop (off+len))
def tkE(d:Int) (off len:Nat) (zs ys:List Int):Int:=(takeE d 0 0 ((zs.drop off).take len) ys).2
def S247:Sum:=fun n0 ρ σ K=>match n0,σ with
 | 1,⟨[(0,.v false [.osl 0 1 off len]),(1,.v false [.sl b (.int .u32) ys]),(2,.v false [.int .u32 d]),(7,.v false [.int .u64 c]),(8,.v false [.int .u32 w]),(10,.v false [.osl 0 1 off2 len2]),(11,.v false [.int .i64 n]),(12,.v false [.int .i64 i])],[.arr el (.int .u32) zs false false]⟩ =>
  if(off2=off/\len2=len/\c=0/\w=0/\n=len/\i=0)/\okW ys/\(0<=d/\d<4294967296)/\off+len<=zs.length/\zs.length<4611686018427387904/\okW zs then
   K (.exit 0) ⟨[(8,one (.int .u32 (tkE d off len zs ys)))],ownA el (tkZ d off len zs ys)⟩else none
 | _,_=>none
theorem sum247(N:NumSem):SumOK N Tryz.prog 48 (loopAt Tryz.f208 0) S247:=
 SumOK.of_turns (V2_ok N) mixT (A:=A247) (SumsOK.none fun _=>rfl) fun n0 ρ σ K r h=>by
  unfold S247 at h;split at h
  ·rename_i off len b ys d c w off2 len2 n i el zs;split at h
   ·rename_i hc;obtain⟨⟨rfl,rfl,rfl,rfl,rfl,rfl⟩,hy,hd,hlen,hZ,hz⟩:=hc;have hl:=loop247 K b ys hy d hd el off2 len2 zs.length hlen hZ len2 0 zs 0 0 (by omega) rfl hz (by omega) (by omega) (by omega) (by omega);simp only [Nat.add_zero,List.drop_zero]at hl;exact⟨_,hl.trans h⟩
   ·contradiction
  ·contradiction
def A247s:Ann:={ A247 with sum:=fun i=>bif Nat.beq i 3 then some S247 else none }
def takeTimesO:Orc:=fun ρ args H cont=>match args,H with
 | [.v false [.osl 0 1 off len],.v false [.sl b (.int .u32) ys],.v false [.int .u32 d]],[.arr el (.int .u32) zs false false] =>
  if okW ys/\(0<=d/\d<4294967296)/\off+len<=zs.length/\zs.length<4611686018427387904/\okW zs then cont (one (.bool (decide (0<tkE d off len zs ys)))) (ownA el (tkZ d off len zs ys))else none
 | _,_=>none
theorem run247(ρ:Type) (off len el:Nat) (b:Option Bool) (zs ys:List tW.den) (d:Int) (cont:SV->HL->Option ρ):runF V2 A247s 0 Tryz.f208 (bodyOf Tryz.f208) ρ [one (.osl 0 1 off len),one (.sl b tW ys),one (.int .u32 d)] (ownA el zs) cont =
  if(off=off/\len=len/\(0:Int)=0/\(0:Int)=0/\(len:Int)=len/\(0:Int)=0)/\okW ys/\(0<=d/\d<4294967296)/\off+len<=zs.length/\zs.length<4611686018427387904/\okW zs then
   cont (one (.bool (decide (0<tkE d off len zs ys)))) (ownA el (tkZ d off len zs ys))else none:=by kernel_rfl
theorem orc247(N:NumSem):OrcOK N Tryz.prog 208 takeTimesO:=
 OrcOK.of_tale (runF_ok (V2_ok N) mixT (A:=A247s) (fuel:=0) Tryz.func208 (c:=bodyOf Tryz.f208) (by kernel_rfl)
  (sums1 (l:=loopAt Tryz.f208 0) (S:=S247) (by kernel_rfl) (by kernel_rfl) (sum247 N))) fun ρ args H cont r h=>by
  unfold takeTimesO at h;split at h
  ·rename_i off len b ys d el zs;split at h
   ·rename_i hc;refine(run247 ρ off len el b zs ys d cont).trans ?_;rw[if_pos ⟨⟨rfl,rfl,rfl,rfl,rfl,rfl⟩,hc⟩];exact h
   ·contradiction
  ·contradiction
end Go.Abs
namespace Go.Abs
open Go.Proofs
set_option maxRecDepth 100000
def giveL:Int->List Int->List Int->List Int
 | _,[],_=>[]
 | c,u :: r,ys=>((u+ys.headD 0+c) % 4294967296) :: giveL ((u+ys.headD 0+c) / 4294967296) r ys.tail
def giveC:Int->List Int->List Int->Int
 | c,[],_=>c
 | c,u :: r,ys=>giveC ((u+ys.headD 0+c) / 4294967296) r ys.tail
theorem giveL_length:∀ (c:Int) (us ys:List Int),(giveL c us ys).length=us.length
 | _,[],_=>rfl
 | c,u :: r,ys=>by simp [giveL,giveL_length]
theorem giveL_ok:∀ (c:Int) (us ys:List Int),okW (giveL c us ys)
 | _,[],_=>by intro x hx;cases hx
 | c,u :: r,ys=>by
  simp only [giveL];rw[okW_cons];exact⟨by omega,giveL_ok _ _ _⟩
theorem giveL_val:∀ (c:Int) (us ys:List Int),okW us->okW ys->0<=c->c<=1->ys.length<=us.length ->
  val (giveL c us ys)+4294967296 ^ us.length*giveC c us ys=val us+val ys+c/\0<=giveC c us ys/\giveC c us ys<=1
 | c,[],ys,_,_,h0,h1,hl=>by
  have:ys=[]:=List.length_eq_zero_iff.1 (Nat.le_zero.1 hl);subst this;simp [giveL,giveC,val];omega
 | c,u :: r,ys,hu,hy,h0,h1,hl=>by
  obtain⟨a1,a2⟩:=okW_cons.1 hu;have b1:=okW_head hy;obtain⟨i1,i2,i3⟩:=giveL_val ((u+ys.headD 0+c) / 4294967296) r ys.tail a2 (okW_tail hy) (by omega) (by omega) (by simp at hl ⊢;omega);refine⟨?_,i2,i3⟩;have e:=val_head_tail ys;simp only [giveL,giveC,val,List.length_cons,Int.pow_succ];generalize giveC ((u+ys.headD 0+c) / 4294967296) r ys.tail=C at *;generalize val (giveL ((u+ys.headD 0+c) / 4294967296) r ys.tail)=V at *;rw[Int.mul_comm (4294967296 ^ r.length) 4294967296,Int.mul_assoc];generalize 4294967296 ^ r.length*C=M at *;omega
def V3:Env:={ T:=tryT,E:=[],Γ:=fun f=>bif Nat.beq f 217 then some add32O else none }
theorem V3_ok(N:NumSem):EnvOK N Tryz.prog V3:=
 {T:=TabOk.of tryT_ok,E:=fun p hp=>(by cases hp),Γ:=gam2 (orc256 N) Tryz.call217 (gam0 N _) }
def A248:Ann:={ head:=ptOf [(2,[0,1,4,7,8,9],[])],out:=ptOf [(2,[],[])] }
def σ248(b:Option Bool) (zs ys:List tW.den) (c i n:Int) (el off len:Nat):St:=
 ⟨[(0,one (.osl 0 1 off len)),(1,one (.sl b tW ys)),(4,one (.int .u32 c)),(7,one (.osl 0 1 off len)),(8,one (.int .i64 n)),(9,one (.int .i64 i))],ownA el zs⟩
section
variable {ρ:Type} (K:Exit->St->Option ρ) (go:St->Option ρ) (b:Option Bool) (zs ys:List tW.den) (c i n:Int) (el off len:Nat)
def fin248(y:Int):Option ρ:=
 if 0<=i/\i<len then(zs[off+i.toNat]?).bind fun u=>if(0<=(u:Int)/\(u:Int)<4294967296)/\(0<=y/\y<4294967296)/\0<=c/\c<=1 then
  if 0<=i/\i<len then(zs[off+i.toNat]?).bind fun _ =>
   go (σ248 b (zs.set (off+i.toNat) (((u:Int)+y+c) % 4294967296)) ys (((u:Int)+y+c) / 4294967296) (IntKind.i64.wrap (i+1)) n el off len)else none else none else none
theorem turn248:turnF V3 A248 34 1 0 (loopAt Tryz.f209 0) K go (σ248 b zs ys c i n el off len) =
  bif decide (i<n)then(bif decide (i<ys.length)then(if 0<=i then(ys[i.toNat]?).bind fun y=>fin248 go b zs ys c i n el off len y else none)else fin248 go b zs ys c i n el off len 0)
  else K (.exit 0) ⟨[],ownA el zs⟩:=by kernel_rfl
end
theorem loop248{ρ:Type} (K:Exit->St->Option ρ) (b:Option Bool) (ys:List tW.den) (hy:okW ys) (el off len Z:Nat) (hlen:off+len<=Z) (hZ:Z<4611686018427387904) :
  ∀ (m i:Nat) (zs:List tW.den) (c:Int),i+m=len->zs.length=Z->okW zs->0<=c->c<=1 ->
  itF (turnF V3 A248 34 1 0 (loopAt Tryz.f209 0) K) (fun _=>none) (m+1) (σ248 b zs ys c i len el off len) =
   K (.exit 0) ⟨[],ownA el (zs.take (off+i)++(giveL c ((zs.drop (off+i)).take m) (ys.drop i)++zs.drop (off+len)))⟩:=by
 intro m
 induction m with
 | zero =>
  intro i zs c hi hz hzo h0 h1;simp only [itF];rw[turn248];have:decide ((i:Int)<(len:Int))=false:=decide_eq_false (by omega);rw[this,cond_false];have e:i=len:=by omega
  subst e;simp only [List.take_zero,giveL,List.nil_append,List.take_append_drop]
 | succ m ih =>
  intro i zs c hi hz hzo h0 h1;rw[show itF (turnF V3 A248 34 1 0 (loopAt Tryz.f209 0) K) (fun _=>none) (m+1+1)=turnF V3 A248 34 1 0 (loopAt Tryz.f209 0) K (itF (turnF V3 A248 34 1 0 (loopAt Tryz.f209 0) K) (fun _=>none) (m+1))from rfl,turn248];have hdi:decide ((i:Int)<(len:Int))=true:=decide_eq_true (by omega);rw[hdi,cond_true];have hoi:off+i<zs.length:=by omega
  have hub:=hzo _ (List.getElem_mem hoi);have dz:(zs.drop (off+i)).take (m+1)=zs[off+i] :: (zs.drop (off+i+1)).take m:=by
   rw[List.drop_eq_getElem_cons hoi,List.take_succ_cons]
  have hfin:∀ y:Int,(0<=y/\y<4294967296)->y=(ys.drop i).headD 0->fin248 (itF (turnF V3 A248 34 1 0 (loopAt Tryz.f209 0) K) (fun _=>none) (m+1)) b zs ys c i len el off len y =
    K (.exit 0) ⟨[],ownA el (zs.take (off+i)++(giveL c ((zs.drop (off+i)).take (m+1)) (ys.drop i)++zs.drop (off+len)))⟩:=by
   intro y hyb ht;unfold fin248;have hp:(0:Int)<=i/\(i:Int)<len:=by omega
   have e4:IntKind.i64.wrap ((i:Int)+1)=((i+1:Nat):Int):=by rw[i64_nat] <;> omega
   rw[if_pos hp,Int.toNat_natCast,List.getElem?_eq_getElem hoi,Option.bind_some,if_pos ⟨hub,hyb,h0,h1⟩,if_pos hp,Option.bind_some,e4];rw[ih (i+1) _ _ (by omega) (by simpa using hz) (okW_set hzo (by omega)) (by omega) (by omega)];have t1:(zs.set (off+i) (((zs[off+i]:Int)+y+c) % 4294967296)).take (off+(i+1))=zs.take (off+i) ++ [((zs[off+i]:Int)+y+c) % 4294967296]:=by
    rw[<- Nat.add_assoc,List.take_add_one,List.take_set_of_le (Nat.le_refl _),List.getElem?_set_self hoi];rfl
   have t2:∀ k,off+i<k->(zs.set (off+i) (((zs[off+i]:Int)+y+c) % 4294967296)).drop k=zs.drop k:=fun k hk=>List.drop_set_of_lt hk
   rw[t1,t2 _ (by omega),t2 _ (by omega),dz];simp only [giveL,List.append_assoc,List.nil_append,List.cons_append,List.tail_drop,<- ht,Nat.add_assoc]
  by_cases hy':i<ys.length
  ·have hd2:decide ((i:Int)<(ys.length:Int))=true:=decide_eq_true (by omega);rw[hd2,cond_true,if_pos (by omega),Int.toNat_natCast,List.getElem?_eq_getElem hy',Option.bind_some];exact hfin _ (hy _ (List.getElem_mem hy')) (by rw[getD_drop,List.getElem?_eq_getElem hy'];rfl)
  ·have hd2:decide ((i:Int)<(ys.length:Int))=false:=decide_eq_false (by omega);rw[hd2,cond_false];exact hfin 0 (by omega) (by rw[getD_drop,List.getElem?_eq_none (by omega)];simp)
def gvZ(off len:Nat) (zs ys:List Int):List Int:=zs.take off++(giveL 0 ((zs.drop off).take len) ys++zs.drop (off+len))
def S248:Sum:=fun n0 ρ σ K=>match n0,σ with
 | 1,⟨[(0,.v false [.osl 0 1 off len]),(1,.v false [.sl b (.int .u32) ys]),(4,.v false [.int .u32 c]),(7,.v false [.osl 0 1 off2 len2]),(8,.v false [.int .i64 n]),(9,.v false [.int .i64 i])],[.arr el (.int .u32) zs false false]⟩ =>
  if(off2=off/\len2=len/\c=0/\n=len/\i=0)/\okW ys/\off+len<=zs.length/\zs.length<4611686018427387904/\okW zs then
   K (.exit 0) ⟨[],ownA el (gvZ off len zs ys)⟩else none
 | _,_=>none
theorem sum248(N:NumSem):SumOK N Tryz.prog 34 (loopAt Tryz.f209 0) S248:=
 SumOK.of_turns (V3_ok N) mixT (A:=A248) (SumsOK.none fun _=>rfl) fun n0 ρ σ K r h=>by
  unfold S248 at h;split at h
  ·rename_i off len b ys c off2 len2 n i el zs;split at h
   ·rename_i hc;obtain⟨⟨rfl,rfl,rfl,rfl,rfl⟩,hy,hlen,hZ,hz⟩:=hc;have hl:=loop248 K b ys hy el off2 len2 zs.length hlen hZ len2 0 zs 0 (by omega) rfl hz (by omega) (by omega);simp only [Nat.add_zero,List.drop_zero]at hl;exact⟨_,hl.trans h⟩
   ·contradiction
  ·contradiction
def A248s:Ann:={ A248 with sum:=fun i=>bif Nat.beq i 2 then some S248 else none }
def giveBackO:Orc:=fun ρ args H cont=>match args,H with
 | [.v false [.osl 0 1 off len],.v false [.sl b (.int .u32) ys]],[.arr el (.int .u32) zs false false] =>
  if okW ys/\off+len<=zs.length/\zs.length<4611686018427387904/\okW zs then cont (.tup []) (ownA el (gvZ off len zs ys))else none
 | _,_=>none
theorem run248(ρ:Type) (off len el:Nat) (b:Option Bool) (zs ys:List tW.den) (cont:SV->HL->Option ρ):runF V3 A248s 0 Tryz.f209 (bodyOf Tryz.f209) ρ [one (.osl 0 1 off len),one (.sl b tW ys)] (ownA el zs) cont =
  if(off=off/\len=len/\(0:Int)=0/\(len:Int)=len/\(0:Int)=0)/\okW ys/\off+len<=zs.length/\zs.length<4611686018427387904/\okW zs then
   cont (.tup []) (ownA el (gvZ off len zs ys))else none:=by kernel_rfl
theorem orc248(N:NumSem):OrcOK N Tryz.prog 209 giveBackO:=
 OrcOK.of_tale (runF_ok (V3_ok N) mixT (A:=A248s) (fuel:=0) Tryz.func209 (c:=bodyOf Tryz.f209) (by kernel_rfl)
  (sums1 (l:=loopAt Tryz.f209 0) (S:=S248) (by kernel_rfl) (by kernel_rfl) (sum248 N))) fun ρ args H cont r h=>by
  unfold giveBackO at h;split at h
  ·rename_i off len b ys el zs;split at h
   ·rename_i hc;refine(run248 ρ off len el b zs ys cont).trans ?_;rw[if_pos ⟨⟨rfl,rfl,rfl,rfl,rfl⟩,hc⟩];exact h
   ·contradiction
  ·contradiction
end Go.Abs
namespace Go.Abs
def shL(p:Int):Int->List Int->List Int
 | c,[]=>[c]
 | c,x :: r=>((c+x*p) % 4294967296) :: shL p ((c+x*p) / 4294967296) r
theorem shL_val(p:Int):∀ (c:Int) (xs:List Int),val (shL p c xs)=c+p*val xs
 | c,[]=>by simp [shL,val]
 | c,x :: r=>by
  simp only [shL,val];have e:p*(x+4294967296*val r)=x*p+4294967296*(p*val r):=by
   rw[Int.mul_add,<- Int.mul_assoc p 4294967296,Int.mul_comm p 4294967296,Int.mul_assoc 4294967296 p,Int.mul_comm p x]
  rw[shL_val p _ r,e];generalize p*val r=W;generalize x*p=Q;omega
theorem shL_length(p:Int):∀ (c:Int) (xs:List Int),(shL p c xs).length=xs.length+1
 | _,[]=>rfl
 | c,x :: r=>by simp [shL,shL_length p]
theorem shL_ok(p:Int) (hp:0<p) (hp':p<=4294967296):∀ (c:Int) (xs:List Int),okW xs->0<=c->c<p->okW (shL p c xs)
 | c,[],_,h0,h1=>by
  simp only [shL];rw[okW_cons];exact⟨by omega,by simp [okW]⟩
 | c,x :: r,hx,h0,h1=>by
  obtain⟨a1,a2⟩:=okW_cons.1 hx;simp only [shL];rw[okW_cons];have m0:0<=x*p:=Int.mul_nonneg a1.1 (by omega);have m1:x*p<=4294967295*p:=Int.mul_le_mul_of_nonneg_right (by omega) (by omega);refine⟨by omega,shL_ok p hp hp' _ r a2 (by omega) ?_⟩;omega
end Go.Abs
namespace Go.Abs
open Go.Proofs
set_option maxRecDepth 100000
def tab8:List UInt8:=0 :: 1 :: (List.replicate 2 2++(List.replicate 4 3++(List.replicate 8 4++(List.replicate 16 5++(List.replicate 32 6++(List.replicate 64 7++List.replicate 128 8))))))
def bl8(k:Int):Int:=if k<1 then 0 else if k<2 then 1 else if k<4 then 2 else if k<8 then 3 else if k<16 then 4 else if k<32 then 5 else if k<64 then 6 else if k<128 then 7 else 8
def bl32(x:Int):Int:=if 65536<=x then(if 256<=x / 65536 then 24+bl8 (x / 65536 / 256)else 16+bl8 (x / 65536))else(if 256<=x then 8+bl8 (x / 256)else bl8 x)
theorem tab8_all:∀ k:Fin 256,tab8[k.val]? = some (UInt8.ofNat (bl8 k.val).toNat)/\(UInt8.ofNat (bl8 k.val).toNat).toNat=(bl8 k.val).toNat:=by decide
theorem bl8_nonneg(k:Int):0<=bl8 k/\bl8 k<=8:=by unfold bl8;repeat' split <;> omega
theorem tab8_at(k:Int) (h0:0<=k) (h1:k<256):∃ b,tab8[k.toNat]? = some b/\((b.toNat:Nat):Int)=bl8 k:=by
 obtain⟨h2,h3⟩:=tab8_all ⟨k.toNat,by omega⟩;have e:((k.toNat:Nat):Int)=k:=by omega
 simp only [e]at h2 h3;refine⟨_,h2,?_⟩;rw[h3];have:=bl8_nonneg k;omega
section
variable {ρ:Type} (cont:SV->HL->Option ρ)
def at8(k s:Int):Option ρ:=if 0<=k then(tab8[k.toNat]?).bind fun b=>cont (one (.int .i64 (IntKind.i64.wrap (s+IntKind.i64.wrap b.toNat)))) []else none
theorem run188(x:Int):runF V0 {} 0 Tryz.f167 (bodyOf Tryz.f167) ρ [one (.int .u32 x)] [] cont =
  bif decide (65536<=x)then
   bif decide (256<=x.fdiv (2 ^ min (Int.toNat 16) IntKind.u32.bits))then at8 cont (IntKind.u8.wrap ((x.fdiv (2 ^ min (Int.toNat 16) IntKind.u32.bits)).fdiv (2 ^ min (Int.toNat 8) IntKind.u32.bits))) (IntKind.i64.wrap (16+8))
   else at8 cont (IntKind.u8.wrap (x.fdiv (2 ^ min (Int.toNat 16) IntKind.u32.bits))) 16
  else bif decide (256<=x)then at8 cont (IntKind.u8.wrap (x.fdiv (2 ^ min (Int.toNat 8) IntKind.u32.bits))) (IntKind.i64.wrap (0+8))
   else at8 cont (IntKind.u8.wrap x) 0:=by kernel_rfl
end
def len32O:Orc:=fun ρ args H cont=>match args,H with
 | [.v false [.int .u32 x]],[]=>if 0<=x/\x<4294967296 then cont (one (.int .i64 (bl32 x))) []else none
 | _,_=>none
theorem at8_eq{ρ:Type} (cont:SV->HL->Option ρ) (k s:Int) (h0:0<=k) (h1:k<256) (s0:0<=s) (s1:s<=24):at8 cont (IntKind.u8.wrap k) s=cont (one (.int .i64 (s+bl8 k))) []:=by
 unfold at8;have e:IntKind.u8.wrap k=k:=by rw[IntKind.wrap_u8];omega
 obtain⟨b,hb,hv⟩:=tab8_at k h0 h1;have hb8:=bl8_nonneg k;rw[e,if_pos h0,hb,Option.bind_some,hv,i64_nat (bl8 k) (by omega) (by omega),i64_nat (s+bl8 k) (by omega) (by omega)]
theorem orc188(N:NumSem):OrcOK N Tryz.prog 167 len32O:=
 OrcOK.of_tale (runF_ok (V0_ok N) mixT (A:={}) (fuel:=0) Tryz.func167 (c:=bodyOf Tryz.f167) (by kernel_rfl) (SumsOK.none fun _=>rfl)) fun ρ args H cont r h=>by
  unfold len32O at h;split at h
  ·rename_i x;split at h
   ·rename_i hc;refine(run188 cont x).trans ?_;have e16:x.fdiv (2 ^ min (Int.toNat 16) IntKind.u32.bits)=x / 65536:=by
     rw[show (2:Int) ^ min (Int.toNat 16) IntKind.u32.bits=65536 by decide];rw[Int.fdiv_eq_ediv_of_nonneg _ (by decide)]
    have e8:∀ y:Int,y.fdiv (2 ^ min (Int.toNat 8) IntKind.u32.bits)=y / 256:=fun y=>by
     rw[show (2:Int) ^ min (Int.toNat 8) IntKind.u32.bits=256 by decide];rw[Int.fdiv_eq_ediv_of_nonneg _ (by decide)]
    have w24:IntKind.i64.wrap (16+8)=24:=by decide
    have w8:IntKind.i64.wrap (0+8)=8:=by decide
    rw[e16,e8,e8,w24,w8];unfold bl32 at h
    by_cases h1:65536<=x
    ·rw[if_pos h1]at h;rw[decide_eq_true h1,cond_true]
     by_cases h2:256<=x / 65536
     ·rw[if_pos h2]at h;rw[decide_eq_true h2,cond_true,at8_eq _ _ _ (by omega) (by omega) (by omega) (by omega)];exact h
     ·rw[if_neg h2]at h;rw[decide_eq_false h2,cond_false,at8_eq _ _ _ (by omega) (by omega) (by omega) (by omega)];exact h
    ·rw[if_neg h1]at h;rw[decide_eq_false h1,cond_false]
     by_cases h2:256<=x
     ·rw[if_pos h2]at h;rw[decide_eq_true h2,cond_true,at8_eq _ _ _ (by omega) (by omega) (by omega) (by omega)];exact h
     ·rw[if_neg h2]at h;rw[decide_eq_false h2,cond_false,at8_eq _ _ _ (by omega) (by omega) (by omega) (by omega),Int.zero_add];exact h
   ·contradiction
  ·contradiction
def lz(x:Int):Int:=32-bl32 x
theorem bl8_two(k:Int) (h0:0<k) (h1:k<256):∃ n:Nat,n<=7/\bl8 k=n+1/\2 ^ n<=k/\k<2 ^ (n+1):=by
 unfold bl8;rw[if_neg (by omega)];split;· exact⟨0,by omega,by omega,by omega,by omega⟩
 split;· exact⟨1,by omega,by omega,by omega,by omega⟩
 split;· exact⟨2,by omega,by omega,by omega,by omega⟩
 split;· exact⟨3,by omega,by omega,by omega,by omega⟩
 split;· exact⟨4,by omega,by omega,by omega,by omega⟩
 split;· exact⟨5,by omega,by omega,by omega,by omega⟩
 split;· exact⟨6,by omega,by omega,by omega,by omega⟩
 exact⟨7,by omega,by omega,by omega,by omega⟩
theorem lz_ok(x:Int) (h0:0<x) (h1:x<4294967296):∃ s:Nat,lz x=s/\s<=31/\2147483648<=x*2 ^ s/\x*2 ^ s<4294967296:=by
 have fin:∀ (k c:Int) (d:Nat),0<k->k<256->(d<=24)->c=d->bl32 x=c+bl8 k->k*2 ^ d<=x->x<(k+1)*2 ^ d->∃ s:Nat,lz x=s/\s<=31/\2147483648<=x*2 ^ s/\x*2 ^ s<4294967296:=by
  intro k c d k0 k1 hd hc hb hlo hhi;obtain⟨n,n1,n2,n3,n4⟩:=bl8_two k k0 k1;refine⟨31-d-n,by unfold lz;omega,by omega,?_,?_⟩
  ·have e:(2147483648:Int)=2 ^ n*2 ^ d*2 ^ (31-d-n):=by
    rw[<- Int.pow_add,<- Int.pow_add,show n+d+(31-d-n)=31 by omega];rfl
   rw[e];refine Int.mul_le_mul_of_nonneg_right (Int.le_trans (Int.mul_le_mul_of_nonneg_right n3 ?_) hlo) ?_ <;> exact Int.le_of_lt (Int.pow_pos (by omega))
  ·have e:(4294967296:Int)=2 ^ (n+1)*2 ^ d*2 ^ (31-d-n):=by
    rw[<- Int.pow_add,<- Int.pow_add,show n+1+d+(31-d-n)=32 by omega];rfl
   rw[e];refine Int.mul_lt_mul_of_pos_right (Int.lt_of_lt_of_le hhi (Int.mul_le_mul_of_nonneg_right (by omega) ?_)) (Int.pow_pos (by omega));exact Int.le_of_lt (Int.pow_pos (by omega))
 by_cases h2:65536<=x
 ·by_cases h3:256<=x / 65536
  ·exact fin (x / 65536 / 256) 24 24 (by omega) (by omega) (by omega) rfl (by unfold bl32;rw[if_pos h2,if_pos h3]) (by omega) (by omega)
  ·exact fin (x / 65536) 16 16 (by omega) (by omega) (by omega) rfl (by unfold bl32;rw[if_pos h2,if_neg h3]) (by omega) (by omega)
 ·by_cases h3:256<=x
  ·exact fin (x / 256) 8 8 (by omega) (by omega) (by omega) rfl (by unfold bl32;rw[if_neg h2,if_pos h3]) (by omega) (by omega)
  ·exact fin x 0 0 (by omega) (by omega) (by omega) rfl (by unfold bl32;rw[if_neg h2,if_neg h3,Int.zero_add]) (by omega) (by omega)
def V5:Env:={ T:=tryT,E:=[],Γ:=fun f=>bif Nat.beq f 167 then some len32O else none }
theorem V5_ok(N:NumSem):EnvOK N Tryz.prog V5:=
 {T:=TabOk.of tryT_ok,E:=fun p hp=>(by cases hp),Γ:=gam2 (orc188 N) Tryz.call167 (gam0 N _) }
def lz32O:Orc:=fun ρ args H cont=>match args,H with
 | [.v false [.int .u32 x]],[]=>if 0<x/\x<4294967296 then cont (one (.int .i64 (lz x))) []else none
 | _,_=>none
theorem run245(ρ:Type) (cont:SV->HL->Option ρ) (x:Int):runF V5 {} 0 Tryz.f206 (bodyOf Tryz.f206) ρ [one (.int .u32 x)] [] cont =
  if 0<=x/\x<4294967296 then cont (one (.int .i64 (IntKind.i64.wrap (32-bl32 x)))) []else none:=by kernel_rfl
theorem orc245(N:NumSem):OrcOK N Tryz.prog 206 lz32O:=
 OrcOK.of_tale (runF_ok (V5_ok N) mixT (A:={}) (fuel:=0) Tryz.func206 (c:=bodyOf Tryz.f206) (by kernel_rfl) (SumsOK.none fun _=>rfl)) fun ρ args H cont r h=>by
  unfold lz32O at h;split at h
  ·rename_i x;split at h
   ·rename_i hc;refine(run245 ρ cont x).trans ?_;obtain⟨s,h1,h2,_⟩:=lz_ok x hc.1 hc.2;rw[if_pos ⟨by omega,hc.2⟩];rw[show (32:Int)-bl32 x=lz x from rfl,i64_nat (lz x) (by omega) (by omega)];exact h
   ·contradiction
  ·contradiction
end Go.Abs
namespace Go.Abs
open Go.Proofs
set_option maxRecDepth 100000
def trimmedU:Orc:=fun ρ args H cont=>match args,H with
 | [.v false [.sl b (.int .u32) xs]],[]=>bif Nat.blt xs.length 4611686018427387904 then cont (one (.sl b tW (xs.take (trimTo xs xs.length)))) []else none
 | [.v false [.wsl 0 1]],[.arr el (.int .u32) zs false false]=>bif Nat.blt zs.length 4611686018427387904 then cont (one (.osl 0 1 0 (trimTo zs zs.length))) (ownA el zs)else none
 | [.v false [.osl 0 1 0 n]],[.arr el (.int .u32) zs false false]=>bif Nat.blt zs.length 4611686018427387904&&Nat.ble n zs.length then
   cont (one (.osl 0 1 0 (trimTo zs n))) (ownA el zs)else none
 | _,_=>none
theorem orc226u(N:NumSem):OrcOK N Tryz.prog 182 trimmedU:=
 OrcOK.of_tale (OrcOK.wk (orc226w N)) fun ρ args H cont r h=>by
  unfold trimmedU at h;split at h
  ·exact h
  ·rename_i el zs;show (bif Nat.blt zs.length 4611686018427387904 then
    (bif Nat.beq (trimTo zs zs.length) zs.length then cont (one (.osl 0 1 0 zs.length)) (ownA el zs)else cont (one (.osl 0 1 0 (trimTo zs zs.length))) (ownA el zs))else none)=some r
   cases hb:Nat.blt zs.length 4611686018427387904 with
   | false=>rw[hb]at h;exact h
   | true =>
    rw[hb,cond_true]at h;rw[cond_true];cases he:Nat.beq (trimTo zs zs.length) zs.length with
    | false=>exact h
    | true =>
     rw[Nat.eq_of_beq_eq_true he]at h;exact h
  ·exact h
  ·contradiction
def shWs(p:Int):Int->List Int->List Int
 | _,[]=>[]
 | c,x :: r=>((c+x*p) % 4294967296) :: shWs p ((c+x*p) / 4294967296) r
def shC(p:Int):Int->List Int->Int
 | c,[]=>c
 | c,x :: r=>shC p ((c+x*p) / 4294967296) r
theorem shL_eq(p:Int):∀ (c:Int) (xs:List Int),shL p c xs=shWs p c xs ++ [shC p c xs]
 | c,[]=>rfl
 | c,x :: r=>by simp [shL,shWs,shC,shL_eq p]
theorem shC_lt(p:Int) (hp:0<p) (hp':p<=2147483648):∀ (c:Int) (xs:List Int),okW xs->0<=c->c<p->0<=shC p c xs/\shC p c xs<p
 | c,[],_,h0,h1=>⟨h0,h1⟩
 | c,x :: r,hx,h0,h1=>by
  obtain⟨a1,a2⟩:=okW_cons.1 hx;have m0:0<=x*p:=Int.mul_nonneg a1.1 (by omega);have m1:x*p<=4294967295*p:=Int.mul_le_mul_of_nonneg_right (by omega) (by omega);exact shC_lt p hp hp' _ r a2 (by omega) (by omega)
theorem or_shift(c x:Int) (k:Nat) (hk:k<=31) (hc:0<=c/\c<2 ^ k) (hx:0<=x/\x<4294967296):bits .or .u64 c (x*2 ^ k)=c+x*2 ^ k:=by
 obtain⟨c,rfl⟩:=Int.eq_ofNat_of_zero_le hc.1;obtain⟨x,rfl⟩:=Int.eq_ofNat_of_zero_le hx.1;have hw:∀ n:Int,0<=n->n<2 ^ 64->IntKind.u64.wrap n=n:=fun n h0 h1=>by rw[IntKind.wrap_u64];omega
 have e:((x:Int)*2 ^ k)=((x*2 ^ k:Nat):Int):=by simp
 have hp:(2:Nat) ^ k<=2 ^ 31:=Nat.pow_le_pow_right (by omega) hk;have hb1:x*2 ^ k<=4294967295*2 ^ 31:=Nat.mul_le_mul (by omega) hp;have hcn:c<2 ^ k:=by have:=hc.2;rw[show (2:Int) ^ k=((2 ^ k:Nat):Int)by simp]at this;omega
 rw[e,(bits_nat .u64 64 (by decide) hw c (x*2 ^ k) (by omega) (by omega)).2];have h:=Nat.shiftLeft_add_eq_or_of_lt (i:=k) (b:=c) hcn x;rw[Nat.shiftLeft_eq]at h;rw[Nat.or_comm c,<- h];omega
def V4:Env:={ T:=tryT,E:=[],Γ:=gamL [(182,trimmedU)] }
theorem V4_ok(N:NumSem):EnvOK N Tryz.prog V4:=
 {T:=TabOk.of tryT_ok,E:=fun p hp=>(by cases hp),Γ:=gamC (orc226u N) Tryz.call182 (gamN N _) }
def A246:Ann:={ head:=ptOf [(4,[1,5,6,20,21,22],[])],out:=ptOf [(4,[5,6],[])] }
def σ246(b:Option Bool) (xs zs:List tW.den) (s c i n:Int):St:=
 ⟨[(1,one (.int .u64 s)),(5,one (.wsl 0 1)),(6,one (.int .u64 c)),(20,one (.sl b tW xs)),(21,one (.int .i64 n)),(22,one (.int .i64 i))],[.arr 162 tW zs false true]⟩
theorem turn246{ρ:Type} (K:Exit->St->Option ρ) (go:St->Option ρ) (b:Option Bool) (xs zs:List tW.den) (s c i n:Int) :
  turnF V4 A246 47 0 0 (loopAt Tryz.f207 0) K go (σ246 b xs zs s c i n) =
 bif decide (i<n)then
  if 0<=i then
   (xs[i.toNat]?).bind fun x =>
    if s.tmod 32<0 then none
    else
     let t:=bits .or .u64 c (IntKind.u64.wrap (IntKind.u64.wrap x*2 ^ min (s.tmod 32).toNat IntKind.u64.bits))
     if zs.length+List.length (List.take [IntKind.u32.wrap t].length (List.drop 0 [IntKind.u32.wrap t]))<=70368744177664 /\
       (zs.length+List.length (List.take [IntKind.u32.wrap t].length (List.drop 0 [IntKind.u32.wrap t])))*4<=70368744177664 then
      go (σ246 b xs (zs++List.take [IntKind.u32.wrap t].length (List.drop 0 [IntKind.u32.wrap t])) s (t.fdiv (2 ^ min (Int.toNat 32) IntKind.u64.bits)) (IntKind.i64.wrap (i+1)) n)
     else none
  else none
 else K (.exit 0) ⟨[(5,one (.wsl 0 1)),(6,one (.int .u64 c))],[.arr 162 tW zs false true]⟩:=by kernel_rfl
theorem loop246{ρ:Type} (K:Exit->St->Option ρ) (b:Option Bool) (xs:List tW.den) (hx:okW xs) (s:Int) (hs:0<=s) (k:Nat) (hk:s % 32=k) (N:Nat) (hN:xs.length=N) (hN':N<1000000000000):∀ (m i:Nat) (zs:List tW.den) (c:Int),
  i+m=N->zs.length+m<10000000000000->0<=c->c<2 ^ k ->
  itF (turnF V4 A246 47 0 0 (loopAt Tryz.f207 0) K) (fun _=>none) (m+1) (σ246 b xs zs s c i N) =
   K (.exit 0) ⟨[(5,one (.wsl 0 1)),(6,one (.int .u64 (shC (2 ^ k) c (xs.drop i))))],[.arr 162 tW (zs++shWs (2 ^ k) c (xs.drop i)) false true]⟩:=by
 have hk31:k<=31:=by omega
 intro m
 induction m with
 | zero =>
  intro i zs c hi hz h0 h1;simp only [itF];rw[turn246];have:decide ((i:Int)<(N:Int))=false:=decide_eq_false (by omega);rw[this,cond_false];have e:xs.drop i=[]:=List.drop_eq_nil_of_le (by omega);rw[e];simp only [shC,shWs,List.append_nil]
 | succ m ih =>
  intro i zs c hi hz h0 h1;rw[show itF (turnF V4 A246 47 0 0 (loopAt Tryz.f207 0) K) (fun _=>none) (m+1+1)=turnF V4 A246 47 0 0 (loopAt Tryz.f207 0) K (itF (turnF V4 A246 47 0 0 (loopAt Tryz.f207 0) K) (fun _=>none) (m+1))from rfl,turn246];have hdi:decide ((i:Int)<(N:Int))=true:=decide_eq_true (by omega);have hxl:i<xs.length:=by omega
  obtain⟨x,hxe⟩:∃ x:Int,(xs:List Int)[i]=x:=⟨_,rfl⟩;have hxb:0<=x/\x<4294967296:=hxe ▸ hx _ (List.getElem_mem hxl);have hxg:(xs:List tW.den)[i]? = some x:=by rw[List.getElem?_eq_getElem hxl];exact congrArg some hxe
  have hmod:s.tmod 32=k:=by rw[Int.tmod_eq_emod_of_nonneg hs];exact hk
  have hp:(2:Int) ^ k<=2147483648:=by
   have:(2:Nat) ^ k<=2 ^ 31:=Nat.pow_le_pow_right (by omega) hk31;rw[show (2:Int) ^ k=((2 ^ k:Nat):Int)by simp];omega
  have hp0:(0:Int)<2 ^ k:=Int.pow_pos (by omega);have m0:0<=x*(2:Int) ^ k:=Int.mul_nonneg hxb.1 (by omega);have m1:x*(2:Int) ^ k<=4294967295*2 ^ k:=Int.mul_le_mul_of_nonneg_right (by omega) (by omega);have et:bits .or .u64 c (IntKind.u64.wrap (IntKind.u64.wrap x*2 ^ min (s.tmod 32).toNat IntKind.u64.bits))=c+x*2 ^ k:=by
   rw[hmod,Int.toNat_natCast,show min k IntKind.u64.bits=k by show min k 64=k;omega,u64_id x hxb.1 (by omega),u64_id _ (by omega) (by omega)];exact or_shift c x k hk31 ⟨h0,h1⟩ hxb
  rw[hdi,cond_true,if_pos (by omega),Int.toNat_natCast,hxg,Option.bind_some,if_neg (by rw[hmod];omega)];simp only [et];have ed:xs.drop i=x :: xs.drop (i+1):=by rw[List.drop_eq_getElem_cons hxl];exact congrArg (· :: _) hxe
  generalize hy:x*(2:Int) ^ k=y at *;have e1:IntKind.u32.wrap (c+y)=(c+y) % 4294967296:=IntKind.wrap_u32 _;have e3:(c+y).fdiv (2 ^ min (Int.toNat 32) IntKind.u64.bits)=(c+y) / 4294967296:=by
   rw[show (2:Int) ^ min (Int.toNat 32) IntKind.u64.bits=4294967296 by decide];rw[Int.fdiv_eq_ediv_of_nonneg _ (by decide)]
  have e4:IntKind.i64.wrap ((i:Int)+1)=((i+1:Nat):Int):=by rw[i64_nat] <;> omega
  rw[e1,e3,e4];have e5:List.take [(c+y) % 4294967296].length (List.drop 0 [(c+y) % 4294967296])=[(c+y) % 4294967296]:=rfl;rw[e5];have e6:([(c+y) % 4294967296]:List Int).length=1:=rfl;rw[e6,if_pos (by omega),ih (i+1) _ _ (by omega) (by rw[List.length_append,e6];omega) (by omega) (by omega)];rw[ed];simp only [shC,shWs,List.append_assoc,List.cons_append,List.nil_append,hy]
def S246:Sum:=fun n0 ρ σ K=>match n0,σ with
 | 0,⟨[(1,.v false [.int .u64 s]),(5,.v false [.wsl 0 1]),(6,.v false [.int .u64 c]),(20,.v false [.sl b (.int .u32) xs]),(21,.v false [.int .i64 n]),(22,.v false [.int .i64 i])],[.arr el (.int .u32) zs false true]⟩ =>
  if el=162/\c=0/\i=0/\n=xs.length/\xs.length<1000000000000/\zs.length<1000000000000/\okW xs/\0<=s then
   K (.exit 0) ⟨[(5,one (.wsl 0 1)),(6,one (.int .u64 (shC (2 ^ (s % 32).toNat) 0 xs)))],[.arr 162 tW (zs++shWs (2 ^ (s % 32).toNat) 0 xs) false true]⟩else none
 | _,_=>none
theorem sum246(N:NumSem):SumOK N Tryz.prog 47 (loopAt Tryz.f207 0) S246:=
 SumOK.of_turns (V4_ok N) mixT (A:=A246) (SumsOK.none fun _=>rfl) fun n0 ρ σ K r h=>by
  unfold S246 at h;split at h
  ·rename_i s c b xs n i el zs;split at h
   ·rename_i hc;obtain⟨rfl,rfl,rfl,rfl,hxl,hzl,hx,hs⟩:=hc;have hl:=loop246 K b xs hx s hs (s % 32).toNat (by omega) xs.length rfl hxl xs.length 0 zs 0 (by omega) (by omega) (by omega) (Int.pow_pos (by omega));simp only [List.drop_zero]at hl;exact⟨_,hl.trans h⟩
   ·contradiction
  ·contradiction
def A246s:Ann:={ A246 with sum:=fun i=>bif Nat.beq i 4 then some S246 else none }
def shZ(s:Int) (xs:List Int):List Int:=List.replicate (s / 32).toNat 0++shL (2 ^ (s % 32).toNat) 0 xs
def shiftMagO:Orc:=fun ρ args H cont=>match args,H with
 | [.v false [.sl b (.int .u32) xs],.v false [.int .u64 s]],[] =>
  if okW xs/\xs.length<100000000000/\0<=s/\s<100000000000 then cont (one (.osl 0 1 0 (trimTo (shZ s xs) (shZ s xs).length))) [.arr 162 tW (shZ s xs) false true]else none
 | _,_=>none
theorem run246(ρ:Type) (cont:SV->HL->Option ρ) (b:Option Bool) (xs:List tW.den) (s:Int) :
 runF V4 A246s 0 Tryz.f207 (bodyOf Tryz.f207) ρ [one (.sl b tW xs),one (.int .u64 s)] [] cont =
 let q:=IntKind.i64.wrap (IntKind.u64.wrap (s.tdiv 32))
 let c:=IntKind.i64.wrap (IntKind.i64.wrap (xs.length+q)+1)
 if 0<=q/\q<=c/\c<=70368744177664/\c*(4:Nat)<=70368744177664 then
  let z0:List tW.den:=List.replicate q.toNat 0
  if 162=162/\(0:Int)=0/\(0:Int)=0/\(xs.length:Int)=xs.length/\xs.length<1000000000000/\z0.length<1000000000000/\okW xs/\0<=s then
   let z1:List tW.den:=z0++shWs (2 ^ (s % 32).toNat) 0 xs
   let e:List tW.den:=[IntKind.u32.wrap (shC (2 ^ (s % 32).toNat) 0 xs)]
   let e':List tW.den:=List.take e.length (List.drop 0 e)
   if z1.length+e'.length<=70368744177664/\(z1.length+e'.length)*4<=70368744177664 then
    bif Nat.blt (z1++e').length 4611686018427387904 then
     cont (one (.osl 0 1 0 (trimTo (z1++e') (z1++e').length))) [.arr 162 tW (z1++e') false true]
    else none
   else none
  else none
 else none:=by kernel_rfl
theorem shWs_length(p:Int):∀ (c:Int) (xs:List Int),(shWs p c xs).length=xs.length
 | _,[]=>rfl
 | c,x :: r=>by simp [shWs,shWs_length p]
theorem orc246(N:NumSem):OrcOK N Tryz.prog 207 shiftMagO:=
 OrcOK.of_tale (runF_ok (V4_ok N) mixT (A:=A246s) (fuel:=0) Tryz.func207 (c:=bodyOf Tryz.f207) (by kernel_rfl)
  (sums1 (l:=loopAt Tryz.f207 0) (S:=S246) (by kernel_rfl) (by kernel_rfl) (sum246 N))) fun ρ args H cont r h=>by
  unfold shiftMagO at h;split at h
  ·rename_i b xs s;split at h
   ·rename_i hc;obtain⟨hx,hl,s0,s1⟩:=hc;refine(run246 ρ cont b xs s).trans ?_;have hq:IntKind.i64.wrap (IntKind.u64.wrap (s.tdiv 32))=s / 32:=by
     rw[Int.tdiv_eq_ediv_of_nonneg s0,u64_id _ (by omega) (by omega),i64_nat _ (by omega) (by omega)]
    have hcc:IntKind.i64.wrap (IntKind.i64.wrap (xs.length+s / 32)+1)=xs.length+s / 32+1:=by
     rw[i64_nat (xs.length+s / 32) (by omega) (by omega),i64_nat _ (by omega) (by omega)]
    have hz:shZ s xs=List.replicate (s / 32).toNat 0++shWs (2 ^ (s % 32).toNat) 0 xs ++ [shC (2 ^ (s % 32).toNat) 0 xs]:=by
     unfold shZ;rw[shL_eq,List.append_assoc]
    have hp:(2:Int) ^ (s % 32).toNat<=2147483648:=by
     have:(2:Nat) ^ (s % 32).toNat<=2 ^ 31:=Nat.pow_le_pow_right (by omega) (by omega);rw[show (2:Int) ^ (s % 32).toNat=((2 ^ (s % 32).toNat:Nat):Int)by simp];omega
    have hw:=shC_lt (2 ^ (s % 32).toNat) (Int.pow_pos (by omega)) hp 0 xs hx (by omega) (Int.pow_pos (by omega));have e32:IntKind.u32.wrap (shC (2 ^ (s % 32).toNat) 0 xs)=shC (2 ^ (s % 32).toNat) 0 xs:=by rw[IntKind.wrap_u32];omega
    simp only [hq,hcc,e32];rw[if_pos (by omega)];have hzl:(List.replicate (s / 32).toNat (0:Int):List tW.den).length=(s / 32).toNat:=List.length_replicate;rw[hzl,if_pos ⟨trivial,trivial,trivial,trivial,by omega,by omega,hx,s0⟩];have hz1:(List.replicate (s / 32).toNat (0:Int)++shWs (2 ^ (s % 32).toNat) 0 xs:List tW.den).length=(s / 32).toNat+xs.length:=by
     show (List.replicate (s / 32).toNat (0:Int)++shWs (2 ^ (s % 32).toNat) 0 xs).length=_;rw[List.length_append,List.length_replicate,shWs_length]
    have he:(List.take ([shC (2 ^ (s % 32).toNat) 0 xs]:List tW.den).length (List.drop 0 [shC (2 ^ (s % 32).toNat) 0 xs]):List tW.den)=[shC (2 ^ (s % 32).toNat) 0 xs]:=rfl;have he1:([shC (2 ^ (s % 32).toNat) 0 xs]:List tW.den).length=1:=rfl;rw[he,he1,hz1,if_pos (by omega)];have hz':(List.replicate (s / 32).toNat (0:Int)++shWs (2 ^ (s % 32).toNat) 0 xs ++ [shC (2 ^ (s % 32).toNat) 0 xs]:List tW.den)=shZ s xs:=hz.symm;rw[hz'];have hzll:(shZ s xs).length=(s / 32).toNat+xs.length+1:=by rw[hz,List.length_append,List.length_append,List.length_replicate,shWs_length];rfl
    have hb:Nat.blt (shZ s xs).length 4611686018427387904=true:=Nat.ble_eq_true_of_le (by show (shZ s xs).length+1<=_;omega);have hb':Nat.blt (List.length (α:=tW.den) (shZ s xs)) 4611686018427387904=true:=hb;rw[hb',cond_true];exact h
   ·contradiction
  ·contradiction
end Go.Abs
namespace Go.Abs
def tooBig(v2 u0 g r:Int):Bool:=decide (r<4294967296)&&(decide (4294967296<=g) || decide (r*4294967296+u0<g*v2))
def corr(T v2 u0:Int):Nat->Int->Int->Int × Int
 | 0,g,r=>(g,r)
 | k+1,g,r=>if tooBig v2 u0 g r=true then corr T v2 u0 k (g-1) (r+T)else(g,r)
structure Top (T v2 u2 u1 u0 P V W Q:Int):Prop where
 T0:2147483648<=T
 T1:T<4294967296
 v20:0<=v2
 v21:v2<4294967296
 u20:0<=u2
 u21:u2<4294967296
 u10:0<=u1
 u11:u1<4294967296
 u00:0<=u0
 u01:u0<4294967296
 P0:1<=P
 V0:(T*4294967296+v2)*P<=V
 V1:V<(T*4294967296+v2+1)*P
 W0:((u2*4294967296+u1)*4294967296+u0)*P<=W
 W1:W<((u2*4294967296+u1)*4294967296+u0+1)*P
 Q0:Q*V<=W
 Q1:W<(Q+1)*V
 Q2:0<=Q
 WV:W<V*4294967296
section
variable {T v2 u2 u1 u0 P V W Q:Int}
theorem Top.head_lt(h:Top T v2 u2 u1 u0 P V W Q):u2*4294967296+u1<=T*4294967296+4294967295:=by
 have h1:=h.W0;have h2:=h.WV;have h3:=h.V1;have:=h.P0;have:=h.u10;have:=h.u11;have:=h.u00;have:=h.v21;have:=h.T1;rcases Int.lt_or_le (T) u2 with hlt | hle
 ·exfalso;have a1:((T+1)*4294967296*4294967296)*P<=((u2*4294967296+u1)*4294967296+u0)*P:=Int.mul_le_mul_of_nonneg_right (by omega) (by omega);have a2:V*4294967296<=((T*4294967296+v2+1)*P)*4294967296:=Int.mul_le_mul_of_nonneg_right (by omega) (by omega);have a3:((T*4294967296+v2+1)*P)*4294967296=((T*4294967296+v2+1)*4294967296)*P:=by
   rw[Int.mul_assoc,Int.mul_comm P,<- Int.mul_assoc]
  have a4:((T*4294967296+v2+1)*4294967296)*P<=((T+1)*4294967296*4294967296)*P:=Int.mul_le_mul_of_nonneg_right (by omega) (by omega);omega
 ·omega
theorem Top.Q_lt(h:Top T v2 u2 u1 u0 P V W Q):Q<4294967296:=by
 have h1:=h.Q0;have h2:=h.WV;have h3:=h.V0;have:=h.P0;have:=h.T0;have:=h.v20;have hV:0<V:=Int.lt_of_lt_of_le (Int.mul_pos (by omega) (by omega)) h3;rcases Int.lt_or_le Q 4294967296 with hl | hl
 ·exact hl
 ·exfalso;have a1:4294967296*V<=Q*V:=Int.mul_le_mul_of_nonneg_right hl (by omega);have a2:V*4294967296=4294967296*V:=Int.mul_comm _ _;omega
theorem Top.down(h:Top T v2 u2 u1 u0 P V W Q) {g r:Int} (hg:g*T+r=u2*4294967296+u1) (hg0:0<=g) (hb:tooBig v2 u0 g r=true):Q<g:=by
 simp only [tooBig,Bool.and_eq_true,Bool.or_eq_true,decide_eq_true_eq]at hb;obtain⟨hr,hb⟩:=hb;have hQ:=h.Q_lt;rcases hb with hb | hb
 ·omega
 ·have h1:=h.Q0;have h2:=h.W1;have h3:=h.V0;have:=h.P0;have hV:0<=V:=Int.le_trans (Int.mul_nonneg (by have:=h.T0;have:=h.v20;omega) (by omega)) h3;have a1:g*((T*4294967296+v2)*P)<=g*V:=Int.mul_le_mul_of_nonneg_left h3 hg0;have a2:g*((T*4294967296+v2)*P)=(g*T*4294967296+g*v2)*P:=by
   rw[<- Int.mul_assoc,Int.mul_add,<- Int.mul_assoc]
  have a3:((u2*4294967296+u1)*4294967296+u0+1)*P<=(g*T*4294967296+g*v2)*P:=Int.mul_le_mul_of_nonneg_right (by generalize g*T=A at *;generalize g*v2=B at *;omega) (by omega);have a4:W<g*V:=by omega
  rcases Int.lt_or_le Q g with hl | hl
  ·exact hl
  ·exfalso;have:g*V<=Q*V:=Int.mul_le_mul_of_nonneg_right hl hV;omega
theorem Top.near(h:Top T v2 u2 u1 u0 P V W Q) {g r:Int} (hg:g*T+r=u2*4294967296+u1) (hr0:0<=r) (hgQ:Q<=g) (hb:tooBig v2 u0 g r=false):g<=Q+1/\g<4294967296:=by
 have hhead:=h.head_lt;have hT0:=h.T0;have hT1:=h.T1;have hP:=h.P0;have hu00:=h.u00;have hv2:=h.v20;have hv21:=h.v21;have hQ2:=h.Q2;have hgb:g<4294967296:=by
  rcases Int.lt_or_le g 4294967296 with hl | hl
  ·exact hl
  ·exfalso;have hrb:¬ (r<4294967296):=fun hr=>by
    have:tooBig v2 u0 g r=true:=by simp [tooBig,hr,hl]
    rw[hb]at this;cases this
   have:4294967296*T<=g*T:=Int.mul_le_mul_of_nonneg_right hl (by omega);omega
 refine⟨?_,hgb⟩;have hV:0<V:=Int.lt_of_lt_of_le (Int.mul_pos (by omega) (by omega)) h.V0
 suffices hs:(g-1)*V<=W by
  rcases Int.lt_or_le (Q+1) g with hl | hl
  ·exfalso;have:(Q+1)*V<=(g-1)*V:=Int.mul_le_mul_of_nonneg_right (by omega) (by omega);have:=h.Q1;omega
  ·exact hl
 rcases Int.lt_or_le g 1 with hg1 | hg1
 ·
  have:(g-1)*V<=0:=Int.mul_nonpos_of_nonpos_of_nonneg (by omega) (by omega);have:=h.W0;have:0<=((u2*4294967296+u1)*4294967296+u0)*P:=Int.mul_nonneg (by have:=h.u20;have:=h.u10;omega) (by omega);omega
 ·have hW0:=h.W0;rcases Int.lt_or_le r 4294967296 with hr | hr
  ·have hc:g*v2<=r*4294967296+u0:=by
    rcases Int.lt_or_le (r*4294967296+u0) (g*v2)with hl | hl
    ·have:tooBig v2 u0 g r=true:=by simp [tooBig,hr,hl]
     rw[hb]at this;cases this
    ·exact hl
   have a1:g*V<=g*((T*4294967296+v2+1)*P):=Int.mul_le_mul_of_nonneg_left (by have:=h.V1;omega) (by omega);have a2:g*((T*4294967296+v2+1)*P)=(g*T*4294967296+g*v2+g)*P:=by
    rw[<- Int.mul_assoc,Int.mul_add,Int.mul_add,<- Int.mul_assoc,Int.mul_one]
   have a3:(g*T*4294967296+g*v2+g)*P<=((u2*4294967296+u1)*4294967296+u0+g)*P:=Int.mul_le_mul_of_nonneg_right (by generalize g*T=A at *;generalize g*v2=B at *;omega) (by omega);have a4:((u2*4294967296+u1)*4294967296+u0+g)*P=((u2*4294967296+u1)*4294967296+u0)*P+g*P:=by rw[Int.add_mul]
   have a5:g*P<=(T*4294967296+v2)*P:=Int.mul_le_mul_of_nonneg_right (by omega) (by omega);have a6:=h.V0;have a7:(g-1)*V=g*V-V:=by rw[Int.sub_mul,Int.one_mul]
   omega
  ·
   have a1:(g-1)*V<=(g-1)*((T+1)*4294967296*P):=by
    refine Int.mul_le_mul_of_nonneg_left ?_ (by omega);have:(T*4294967296+v2+1)*P<=((T+1)*4294967296)*P:=Int.mul_le_mul_of_nonneg_right (by omega) (by omega);have:=h.V1;omega
   have a2:(g-1)*((T+1)*4294967296*P)=((g*T+g-T-1)*4294967296)*P:=by
    rw[<- Int.mul_assoc,<- Int.mul_assoc];congr 2;rw[Int.sub_mul,Int.mul_add,Int.mul_one,Int.one_mul];omega
   have a3:((g*T+g-T-1)*4294967296)*P<=((u2*4294967296+u1)*4294967296+u0)*P:=Int.mul_le_mul_of_nonneg_right (by generalize g*T=A at *;omega) (by omega);omega
theorem Top.first(h:Top T v2 u2 u1 u0 P V W Q) {g r:Int} (hg:g*T+r=u2*4294967296+u1) (hr:r<T):Q<=g:=by
 have hT0:=h.T0;have hP:=h.P0;have hv2:=h.v20;have hV:0<V:=Int.lt_of_lt_of_le (Int.mul_pos (by omega) (by omega)) h.V0;rcases Int.lt_or_le g Q with hl | hl
 ·exfalso;have hg0:0<=g:=by
   rcases Int.lt_or_le g 0 with hn | hn
   ·exfalso;have:g*T<=(-1)*T:=Int.mul_le_mul_of_nonneg_right (by omega) (by omega);have:=h.u20;have:=h.u10;omega
   ·exact hn
  have a1:(g+1)*V<=Q*V:=Int.mul_le_mul_of_nonneg_right (by omega) (by omega);have a2:(g+1)*((T*4294967296+v2)*P)<=(g+1)*V:=Int.mul_le_mul_of_nonneg_left h.V0 (by omega);have a3:(g+1)*((T*4294967296+v2)*P)=((g*T+T)*4294967296+(g+1)*v2)*P:=by
   rw[<- Int.mul_assoc,Int.mul_add,<- Int.mul_assoc,Int.add_mul g 1 T,Int.one_mul]
  have a4:0<=(g+1)*v2:=Int.mul_nonneg (by omega) hv2;have a5:((u2*4294967296+u1)*4294967296+u0+1)*P<=((g*T+T)*4294967296+(g+1)*v2)*P:=Int.mul_le_mul_of_nonneg_right (by have:=h.u01;generalize g*T=A at *;generalize (g+1)*v2=B at *;omega) (by omega);have:=h.W1;have:=h.Q0;omega
 ·exact hl
theorem Top.first_near(h:Top T v2 u2 u1 u0 P V W Q) {g r:Int} (hg:g*T+r=u2*4294967296+u1) (hr0:0<=r):g<=Q+2:=by
 have hT0:=h.T0;have hP:=h.P0;have hv2:=h.v20;have hT1:=h.T1;have hv21:=h.v21;have hhead:=h.head_lt;have hQ2:=h.Q2;rcases Int.lt_or_le (Q+2) g with hl | hl
 ·exfalso;have a0:(Q+1)*V<=(g-2)*V:=Int.mul_le_mul_of_nonneg_right (by omega) (by
   have hV:0<V:=Int.lt_of_lt_of_le (Int.mul_pos (by omega) (by omega)) h.V0;omega)
  have a1:(g-2)*V<=(g-2)*((T+1)*4294967296*P):=by
   refine Int.mul_le_mul_of_nonneg_left ?_ (by omega);have:(T*4294967296+v2+1)*P<=((T+1)*4294967296)*P:=Int.mul_le_mul_of_nonneg_right (by omega) (by omega);have:=h.V1;omega
  have a2:(g-2)*((T+1)*4294967296*P)=((g*T+g-2*T-2)*4294967296)*P:=by
   rw[<- Int.mul_assoc,<- Int.mul_assoc];congr 2;rw[Int.sub_mul,Int.mul_add,Int.mul_one];omega
  have hgs:g<=4294967297:=by
   rcases Int.lt_or_le 4294967297 g with hh | hh
   ·exfalso;have:4294967298*T<=g*T:=Int.mul_le_mul_of_nonneg_right (by omega) (by omega);omega
   ·exact hh
  have a3:((g*T+g-2*T-2)*4294967296)*P<=((u2*4294967296+u1)*4294967296+u0)*P:=Int.mul_le_mul_of_nonneg_right (by have:=h.u00;generalize g*T=A at *;omega) (by omega);have:=h.W0;have:=h.Q1;omega
 ·exact hl
theorem Top.corr_ok(h:Top T v2 u2 u1 u0 P V W Q):∀ (k:Nat) {g r:Int},g*T+r=u2*4294967296+u1->0<=r->Q<=g->g<=Q+k ->
  tooBig v2 u0 (corr T v2 u0 k g r).1 (corr T v2 u0 k g r).2=false/\Q<=(corr T v2 u0 k g r).1/\(corr T v2 u0 k g r).1<=Q+1/\(corr T v2 u0 k g r).1<4294967296:=by
 have hQ2:=h.Q2;have stop:∀ {g r:Int},g*T+r=u2*4294967296+u1->0<=r->Q<=g->tooBig v2 u0 g r=false->tooBig v2 u0 g r=false/\Q<=g/\g<=Q+1/\g<4294967296:=fun hg hr hQ hb=>by
  obtain⟨h1,h2⟩:=h.near hg hr hQ hb;exact⟨hb,hQ,h1,h2⟩
 intro k
 induction k with
 | zero =>
  intro g r hg hr hQ hk;simp only [corr];refine stop hg hr hQ ?_;cases hb:tooBig v2 u0 g r with
  | false=>rfl
  | true=>have:=h.down hg (by omega) hb;omega
 | succ k ih =>
  intro g r hg hr hQ hk;simp only [corr];cases hb:tooBig v2 u0 g r with
  | false =>
   rw[if_neg (by simp)];exact stop hg hr hQ hb
  | true =>
   rw[if_pos rfl];have:=h.down hg (by omega) hb;refine ih ?_ (by have:=h.T0;omega) (by omega) (by omega);rw[Int.sub_mul,Int.one_mul];omega
end
end Go.Abs

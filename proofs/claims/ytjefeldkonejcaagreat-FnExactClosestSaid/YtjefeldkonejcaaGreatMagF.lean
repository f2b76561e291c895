/-
 A PART OF THE PROOF of ClI (texts MagF MagG MagH MagI MagJ MagK): the claim itself stands in the last text. No conditions beside those of the given row.
-/
import Derived.Test.YtjefeldkonejcaaGreatTryA
set_option linter.unusedVariables false
set_option linter.unnecessarySimpa false
set_option linter.unusedSimpArgs false
namespace Go.Abs
open Go.Proofs
set_option maxRecDepth 100000
def subN:Int->List Int->List Int->List Int
 | _,[],_=>[]
 | c,x :: r,ys=>((x-ys.headD 0-c) % 4294967296) :: subN (if x<ys.headD 0+c then 1 else 0) r ys.tail
def subC:Int->List Int->List Int->Int
 | c,[],_=>c
 | c,x :: r,ys=>subC (if x<ys.headD 0+c then 1 else 0) r ys.tail
theorem subN_length:∀ (c:Int) (xs ys:List Int),(subN c xs ys).length=xs.length
 | _,[],_=>rfl
 | c,x :: r,ys=>by simp [subN,subN_length]
theorem subN_ok:∀ (c:Int) (xs ys:List Int),okW (subN c xs ys)
 | _,[],_=>by intro x hx;cases hx
 | c,x :: r,ys=>by
  simp only [subN];rw[okW_cons];exact⟨by omega,subN_ok _ _ _⟩
theorem okW_tail{ys:List Int} (h:okW ys):okW ys.tail:=fun x hx=>h x (List.mem_of_mem_tail hx)
theorem okW_head{ys:List Int} (h:okW ys):0<=ys.headD 0/\ys.headD 0<4294967296:=by
 cases ys with
 | nil=>simp
 | cons y r=>exact(okW_cons.1 h).1
theorem val_head_tail(ys:List Int):val ys=ys.headD 0+4294967296*val ys.tail:=by cases ys <;> simp [val]
theorem subN_val:∀ (c:Int) (xs ys:List Int),okW xs->okW ys->0<=c->c<=1->ys.length<=xs.length ->
  val (subN c xs ys)-4294967296 ^ xs.length*subC c xs ys=val xs-val ys-c/\0<=subC c xs ys/\subC c xs ys<=1
 | c,[],ys,_,_,h0,h1,hl=>by
  have:ys=[]:=List.length_eq_zero_iff.1 (Nat.le_zero.1 hl);subst this;simp [subN,subC,val];omega
 | c,x :: r,ys,hx,hy,h0,h1,hl=>by
  obtain⟨a1,a2⟩:=okW_cons.1 hx;have b1:=okW_head hy;have hb:(0:Int)<=(if x<ys.headD 0+c then 1 else 0)/\(if x<ys.headD 0+c then(1:Int)else 0)<=1:=by split <;> omega
  obtain⟨i1,i2,i3⟩:=subN_val (if x<ys.headD 0+c then 1 else 0) r ys.tail a2 (okW_tail hy) hb.1 hb.2 (by simp at hl ⊢;omega);refine⟨?_,i2,i3⟩;have e:=val_head_tail ys;simp only [subN,subC,val,List.length_cons,Int.pow_succ];generalize subC (if x<ys.headD 0+c then 1 else 0) r ys.tail=C at *;generalize val (subN (if x<ys.headD 0+c then 1 else 0) r ys.tail)=V at *;rw[Int.mul_comm (4294967296 ^ r.length) 4294967296,Int.mul_assoc];generalize 4294967296 ^ r.length*C=M at *;split at i1 <;> omega
def V2:Env:={ T:=tryT,E:=[],Γ:=fun f=>bif Nat.beq f 182 then some trimmedO else bif Nat.beq f 185 then some sub32O else none }
theorem gam2{N:NumSem} {P:Program} {k:Nat} {F:Orc} {Γ:Nat->Option Orc} (h1:OrcOK N P k F) (h2:FnOK P k) (h:GamOK N P Γ):GamOK N P fun f=>bif Nat.beq f k then some F else Γ f:=fun f F' hF=>by
 cases hb:Nat.beq f k with
 | false=>simp only [hb,cond_false]at hF;exact h f F' hF
 | true =>
  simp only [hb,cond_true]at hF;cases hF;rw[Nat.eq_of_beq_eq_true hb];exact⟨h1,h2⟩
theorem gam0(N:NumSem) (P:Program):GamOK N P fun _=>none:=fun f F h=>by cases h
theorem V2_ok(N:NumSem):EnvOK N Tryz.prog V2:=
 {T:=TabOk.of tryT_ok,E:=fun p hp=>(by cases hp),Γ:=gam2 (orc226 N) Tryz.call182 (gam2 (orc229 N) Tryz.call185 (gam0 N _)) }
def A213:Ann:={ head:=ptOf [(3,[1,5,6,13,14,15],[])],out:=ptOf [(3,[5],[5])] }
def σ213(b b':Option Bool) (xs ys zs:List tW.den) (c n i:Int):St:=
 ⟨[(1,one (.sl b' tW ys)),(5,one (.wsl 0 1)),(6,one (.int .u32 c)),(13,one (.sl b tW xs)),(14,one (.int .i64 n)),(15,one (.int .i64 i))],[.arr 162 tW zs false true]⟩
section
variable {ρ:Type} (K:Exit->St->Option ρ) (go:St->Option ρ) (b b':Option Bool) (xs ys zs:List tW.den) (c n i:Int)
def fin213(x y:Int):Option ρ:=
 if(0<=x/\x<4294967296)/\(0<=y/\y<4294967296)/\0<=c/\c<=1 then
  if 0<=i/\i<zs.length then(zs[0+i.toNat]?).bind fun _=>go (σ213 b b' xs ys (zs.set (0+i.toNat) ((x-y-c) % 4294967296)) (if x<y+c then 1 else 0) n (IntKind.i64.wrap (i+1)))else none else none
theorem turn213:turnF V2 A213 41 0 0 (loopAt Tryz.f156 0) K go (σ213 b b' xs ys zs c n i) =
  bif decide (i<n)then(if 0<=i then(xs[i.toNat]?).bind fun x=>bif decide (i<ys.length)then(if 0<=i then(ys[i.toNat]?).bind fun y=>fin213 go b b' xs ys zs c n i x y else none)else fin213 go b b' xs ys zs c n i x 0 else none)
  else K (.exit 0) ⟨[(5,one (.sl (some false) tW zs))],[]⟩:=by kernel_rfl
end
theorem loop213{ρ:Type} (K:Exit->St->Option ρ) (b b':Option Bool) (xs ys:List tW.den) (hx:okW xs) (hy:okW ys) (hN:xs.length<4611686018427387904):∀ (m i:Nat) (zs:List tW.den) (c:Int),i+m=xs.length->zs.length=xs.length->0<=c->c<=1 ->
  itF (turnF V2 A213 41 0 0 (loopAt Tryz.f156 0) K) (fun _=>none) (m+1) (σ213 b b' xs ys zs c xs.length i)=K (.exit 0) ⟨[(5,one (.sl (some false) tW (zs.take i++subN c (xs.drop i) (ys.drop i))))],[]⟩:=by
 intro m
 induction m with
 | zero =>
  intro i zs c hi hz h0 h1;simp only [itF];rw[turn213];have:decide ((i:Int)<(xs.length:Int))=false:=decide_eq_false (by omega);rw[this];simp only [cond_false];rw[List.drop_of_length_le (by omega)];simp only [subN,List.append_nil];rw[List.take_of_length_le (by omega)]
 | succ m ih =>
  intro i zs c hi hz h0 h1;rw[show itF (turnF V2 A213 41 0 0 (loopAt Tryz.f156 0) K) (fun _=>none) (m+1+1)=turnF V2 A213 41 0 0 (loopAt Tryz.f156 0) K (itF (turnF V2 A213 41 0 0 (loopAt Tryz.f156 0) K) (fun _=>none) (m+1))from rfl,turn213];have:decide ((i:Int)<(xs.length:Int))=true:=decide_eq_true (by omega);rw[this];simp only [cond_true];have hil:i<xs.length:=by omega
  have hp:0<=(i:Int):=by omega
  have hbx:=hx _ (List.getElem_mem hil);have hfin:∀ y:Int,(0<=y/\y<4294967296)->y=(ys.drop i).headD 0->fin213 (itF (turnF V2 A213 41 0 0 (loopAt Tryz.f156 0) K) (fun _=>none) (m+1)) b b' xs ys zs c xs.length i (xs[i]) y =
    K (.exit 0) ⟨[(5,one (.sl (some false) tW (zs.take i++subN c (xs.drop i) (ys.drop i))))],[]⟩:=by
   intro y hy1 hy2;unfold fin213;rw[if_pos ⟨hbx,hy1,h0,h1⟩,if_pos (by omega),Int.toNat_natCast,Nat.zero_add,List.getElem?_eq_getElem (by omega)];simp only [Option.bind_some];have e1:IntKind.i64.wrap ((i:Int)+1)=((i+1:Nat):Int):=by rw[i64_nat] <;> omega
   rw[e1,ih (i+1) _ _ (by omega) (by simpa using hz) (by split <;> omega) (by split <;> omega)];congr 5;have e2:List.take (i+1) (zs.set i ((xs[i]-y-c) % 4294967296))=zs.take i ++ [(xs[i]-y-c) % 4294967296]:=by
    rw[List.take_add_one,List.take_set_of_le (Nat.le_refl _),List.getElem?_set_self (by omega)];rfl
   rw[e2,List.drop_eq_getElem_cons hil];simp only [subN,List.append_assoc,List.singleton_append,List.tail_drop];rw[<- hy2]
  simp only [if_pos hp,Int.toNat_natCast,List.getElem?_eq_getElem hil,Option.bind_some]
  by_cases hy':i<ys.length
  ·have hd:decide ((i:Int)<(ys.length:Int))=true:=decide_eq_true (by omega);rw[hd];simp only [cond_true,List.getElem?_eq_getElem hy',Option.bind_some];exact hfin _ (hy _ (List.getElem_mem hy')) (by rw[getD_drop,List.getElem?_eq_getElem hy'];rfl)
  ·have hd:decide ((i:Int)<(ys.length:Int))=false:=decide_eq_false (by omega);rw[hd];simp only [cond_false];exact hfin 0 (by omega) (by rw[getD_drop,List.getElem?_eq_none (by omega)];rfl)
def S213:Sum:=fun n0 ρ σ K=>match n0,σ with
 | 0,⟨[(1,.v false [.sl b' (.int .u32) ys]),(5,.v false [.wsl 0 1]),(6,.v false [.int .u32 c]),(13,.v false [.sl b (.int .u32) xs]),(14,.v false [.int .i64 n]),(15,.v false [.int .i64 i])],[.arr el (.int .u32) zs false true]⟩ =>
  if el=162/\c=0/\i=0/\n=xs.length/\zs.length=xs.length/\xs.length<4611686018427387904/\okW xs/\okW ys then K (.exit 0) ⟨[(5,one (.sl (some false) tW (subN 0 xs ys)))],[]⟩else none
 | _,_=>none
theorem sum213(N:NumSem):SumOK N Tryz.prog 41 (loopAt Tryz.f156 0) S213:=
 SumOK.of_turns (V2_ok N) mixT (A:=A213) (SumsOK.none fun _=>rfl) fun n0 ρ σ K r h=>by
  unfold S213 at h;split at h
  ·rename_i b' ys c b xs n i el zs;split at h
   ·rename_i hc;obtain⟨rfl,rfl,rfl,rfl,hz,hN,hx,hy⟩:=hc;have hl:=loop213 K b b' xs ys hx hy hN xs.length 0 zs 0 (by omega) hz (by omega) (by omega);simp only [List.take_zero,List.nil_append,List.drop_zero]at hl;exact⟨_,hl.trans h⟩
   ·contradiction
  ·contradiction
def A213s:Ann:={ A213 with sum:=fun i=>bif Nat.beq i 3 then some S213 else none }
def subMagO:Orc:=fun ρ args H cont=>match args,H with
 | [.v false [.sl b (.int .u32) xs],.v false [.sl b' (.int .u32) ys]],[] =>
  if xs.length<1000000000000/\ys.length<=xs.length/\okW xs/\okW ys/\val ys<=val xs then cont (one (.sl (some false) tW (words (val xs-val ys).toNat))) []else none
 | _,_=>none
theorem run213(ρ:Type) (b b':Option Bool) (xs ys:List tW.den) (cont:SV->HL->Option ρ):runF V2 A213s 0 Tryz.f156 (bodyOf Tryz.f156) ρ [one (.sl b tW xs),one (.sl b' tW ys)] [] cont =
  (let l:Int:=xs.length
   let zs:List tW.den:=List.replicate l.toNat 0
   if 0<=l/\l<=l/\l<=70368744177664/\l*(4:Nat)<=70368744177664 then
   (if 162=162/\(0:Int)=0/\(0:Int)=0/\l=xs.length/\zs.length=xs.length/\xs.length<4611686018427387904/\okW xs/\okW ys then
    (let rs:List tW.den:=subN 0 xs ys
     bif Nat.blt rs.length 4611686018427387904 then cont (one (.sl (some false) tW (rs.take (trimTo rs rs.length)))) []else none)else none)
   else none):=by kernel_rfl
theorem orc213(N:NumSem):OrcOK N Tryz.prog 156 subMagO:=
 OrcOK.of_tale (runF_ok (V2_ok N) mixT (A:=A213s) (fuel:=0) Tryz.func156 (c:=bodyOf Tryz.f156) (by kernel_rfl)
  (sums1 (l:=loopAt Tryz.f156 0) (S:=S213) (by kernel_rfl) (by kernel_rfl) (sum213 N))) fun ρ args H cont r h=>by
  unfold subMagO at h;split at h
  ·rename_i b xs b' ys;split at h
   ·rename_i hc;obtain⟨h1,h2,hx,hy,hv⟩:=hc;refine(run213 ρ b b' xs ys cont).trans ?_;simp only;rw[if_pos (by omega),Int.toNat_natCast];have hzl':(List.replicate xs.length (0:Int):List tW.den).length=xs.length:=List.length_replicate;rw[hzl',if_pos ⟨trivial,trivial,trivial,trivial,rfl,by omega,hx,hy⟩];have hl:(subN 0 xs ys:List tW.den).length=xs.length:=subN_length 0 xs ys;rw[hl];have hb:Nat.blt xs.length 4611686018427387904=true:=Nat.ble_eq_true_of_le (show xs.length+1<=4611686018427387904 by omega);rw[hb];simp only [cond_true];have hok:=subN_ok 0 xs ys;have hw:=trim_words hok;rw[subN_length]at hw;obtain⟨e1,e2,e3⟩:=subN_val 0 xs ys hx hy (by omega) (by omega) h2;have hlt:=val_lt hok;rw[subN_length]at hlt;have hc:subC 0 xs ys=0:=by
     by_cases hz:subC 0 xs ys=0
     ·exact hz
     ·exfalso;have:subC 0 xs ys=1:=by omega
      rw[this]at e1;omega
    rw[hc]at e1;have hval:val (subN 0 xs ys)=val xs-val ys:=by omega
    rw[hval]at hw;have hw':(subN 0 xs ys:List tW.den).take (trimTo (subN 0 xs ys) xs.length)=words (val xs-val ys).toNat:=hw;rw[hw'];exact h
   ·contradiction
  ·contradiction
end Go.Abs
namespace Go.Abs
open Go.Proofs
set_option maxRecDepth 100000
def rowL:Int->Int->List Int->List Int->List Int
 | _,_,[],_=>[]
 | x,c,y :: s,zs=>((c+(x*y+zs.headD 0)) % 4294967296) :: rowL x ((c+(x*y+zs.headD 0)) / 4294967296) s zs.tail
def rowC:Int->Int->List Int->List Int->Int
 | _,c,[],_=>c
 | x,c,y :: s,zs=>rowC x ((c+(x*y+zs.headD 0)) / 4294967296) s zs.tail
theorem rowL_length:∀ (x c:Int) (ys zs:List Int),(rowL x c ys zs).length=ys.length
 | _,_,[],_=>rfl
 | x,c,y :: s,zs=>by simp [rowL,rowL_length]
theorem rowL_ok:∀ (x c:Int) (ys zs:List Int),okW (rowL x c ys zs)
 | _,_,[],_=>by intro v hv;cases hv
 | x,c,y :: s,zs=>by
  simp only [rowL];rw[okW_cons];exact⟨by omega,rowL_ok _ _ _ _⟩
theorem word_mul{x y:Int} (hx:0<=x/\x<4294967296) (hy:0<=y/\y<4294967296):0<=x*y/\x*y<=18446744065119617025:=by
 refine⟨Int.mul_nonneg hx.1 hy.1,?_⟩;have h1:x*y<=4294967295*y:=Int.mul_le_mul_of_nonneg_right (by omega) hy.1;have h2:(4294967295:Int)*y<=4294967295*4294967295:=Int.mul_le_mul_of_nonneg_left (by omega) (by omega);omega
theorem row_val:∀ (x c:Int) (ys zs:List Int),(0<=x/\x<4294967296)->okW ys->okW zs->0<=c->c<4294967296->ys.length<=zs.length ->
  val (rowL x c ys zs)+4294967296 ^ ys.length*rowC x c ys zs=c+x*val ys+val (zs.take ys.length)/\0<=rowC x c ys zs/\rowC x c ys zs<4294967296
 | x,c,[],zs,_,_,_,h0,h1,_=>by simp [rowL,rowC,val];omega
 | x,c,y :: s,zs,hx,hy,hz,h0,h1,hl=>by
  obtain⟨a1,a2⟩:=okW_cons.1 hy;cases zs with
  | nil=>simp at hl
  | cons z t =>
   obtain⟨b1,b2⟩:=okW_cons.1 hz;have hm:=word_mul hx a1;simp only [List.length_cons]at hl;obtain⟨i1,i2,i3⟩:=row_val x ((c+(x*y+z)) / 4294967296) s t hx a2 b2 (by omega) (by omega) (by omega);simp only [rowL,rowC,val,List.headD_cons,List.tail_cons,List.length_cons,List.take_succ_cons,Int.pow_succ];refine⟨?_,i2,i3⟩;rw[Int.mul_comm (4294967296 ^ s.length) 4294967296,Int.mul_assoc,Int.mul_add,<- Int.mul_assoc x 4294967296,Int.mul_comm x 4294967296,Int.mul_assoc 4294967296 x];generalize 4294967296 ^ s.length*rowC x ((c+(x*y+z)) / 4294967296) s t=M at *;generalize val (rowL x ((c+(x*y+z)) / 4294967296) s t)=V at *;generalize x*val s=W at *;generalize x*y=Q at *;omega
theorem okW_set{zs:List Int} (h:okW zs) {k:Nat} {d:Int} (hd:0<=d/\d<4294967296):okW (zs.set k d):=fun x hx=>by
 rcases List.mem_or_eq_of_mem_set hx with h' | h'
 ·exact h x h'
 ·rw[h'];exact hd
theorem okW_drop{zs:List Int} (h:okW zs) (k:Nat):okW (zs.drop k):=fun x hx=>h x (List.mem_of_mem_drop hx)
theorem okW_append{a b:List Int} (h:okW a) (h':okW b):okW (a++b):=fun x hx=>by
 rcases List.mem_append.1 hx with e | e
 ·exact h x e
 ·exact h' x e
def A208:Ann:={ head:=ptOf [(3,[1,5,17,18,19],[]),(7,[1,5,6,7,8,17,18,19,24,25,26],[])],out:=ptOf [(3,[5],[5]),(7,[1,5,6,8,17,18,19],[])] }
def σ208a(b b':Option Bool) (xs ys zs:List tW.den) (i n x c m j:Int):St:=
 ⟨[(1,one (.sl b' tW ys)),(5,one (.wsl 0 1)),(6,one (.int .i64 i)),(7,one (.int .u32 x)),(8,one (.int .u64 c)),(17,one (.sl b tW xs)),(18,one (.int .i64 n)),(19,one (.int .i64 i)),
   (24,one (.sl b' tW ys)),(25,one (.int .i64 m)),(26,one (.int .i64 j))],[.arr 162 tW zs false true]⟩
def σ208o(b b':Option Bool) (xs ys zs:List tW.den) (i n c:Int):St:=
 ⟨[(1,one (.sl b' tW ys)),(5,one (.wsl 0 1)),(6,one (.int .i64 i)),(8,one (.int .u64 c)),(17,one (.sl b tW xs)),(18,one (.int .i64 n)),(19,one (.int .i64 i))],[.arr 162 tW zs false true]⟩
theorem turn208a{ρ:Type} (K:Exit->St->Option ρ) (go:St->Option ρ) (b b':Option Bool) (xs ys zs:List tW.den) (i n x c m j:Int) :
  turnF V1 A208 67 0 0 (loopAt Tryz.f148 1) K go (σ208a b b' xs ys zs i n x c m j) =
  bif decide (j<m)then(if 0<=j then(ys[j.toNat]?).bind fun y =>
   if 0<=IntKind.i64.wrap (i+j)/\IntKind.i64.wrap (i+j)<zs.length then(zs[0+(IntKind.i64.wrap (i+j)).toNat]?).bind fun z =>
    if 0<=IntKind.i64.wrap (i+j)/\IntKind.i64.wrap (i+j)<zs.length then(zs[0+(IntKind.i64.wrap (i+j)).toNat]?).bind fun _ =>
     go (σ208a b b' xs ys (zs.set (0+(IntKind.i64.wrap (i+j)).toNat) (IntKind.u32.wrap (IntKind.u64.wrap (c+IntKind.u64.wrap (IntKind.u64.wrap (IntKind.u64.wrap x*IntKind.u64.wrap y)+IntKind.u64.wrap z)))))
      i n x ((IntKind.u64.wrap (c+IntKind.u64.wrap (IntKind.u64.wrap (IntKind.u64.wrap x*IntKind.u64.wrap y)+IntKind.u64.wrap z))).fdiv (2 ^ min (Int.toNat 32) IntKind.u64.bits)) m (IntKind.i64.wrap (j+1)))else none else none else none)
  else K (.exit 2) (σ208o b b' xs ys zs i n c):=by kernel_rfl
theorem loop208a{ρ:Type} (K:Exit->St->Option ρ) (b b':Option Bool) (xs ys:List tW.den) (n x:Int) (hy:okW ys) (hx:0<=x/\x<4294967296) (i Z:Nat) (hZ:i+ys.length<Z) (hZ':Z<4611686018427387904) :
  ∀ (m j:Nat) (zs:List tW.den) (c:Int),j+m=ys.length->zs.length=Z->okW zs->0<=c->c<4294967296 ->
  itF (turnF V1 A208 67 0 0 (loopAt Tryz.f148 1) K) (fun _=>none) (m+1) (σ208a b b' xs ys zs i n x c ys.length j) =
   K (.exit 2) (σ208o b b' xs ys (zs.take (i+j)++(rowL x c (ys.drop j) (zs.drop (i+j))++zs.drop (i+ys.length))) i n (rowC x c (ys.drop j) (zs.drop (i+j)))):=by
 intro m
 induction m with
 | zero =>
  intro j zs c hj hz hzo h0 h1;simp only [itF];rw[turn208a];have:decide ((j:Int)<(ys.length:Int))=false:=decide_eq_false (by omega);rw[this];simp only [cond_false];have e:ys.drop j=[]:=List.drop_of_length_le (by omega);have e':ys.length=j:=by omega
  rw[e,e'];simp only [rowL,rowC,List.nil_append,List.take_append_drop]
 | succ m ih =>
  intro j zs c hj hz hzo h0 h1;rw[show itF (turnF V1 A208 67 0 0 (loopAt Tryz.f148 1) K) (fun _=>none) (m+1+1)=turnF V1 A208 67 0 0 (loopAt Tryz.f148 1) K (itF (turnF V1 A208 67 0 0 (loopAt Tryz.f148 1) K) (fun _=>none) (m+1))from rfl,turn208a];have hd:decide ((j:Int)<(ys.length:Int))=true:=decide_eq_true (by omega);have hjl:j<ys.length:=by omega
  have hij:i+j<zs.length:=by omega
  have w1:IntKind.i64.wrap ((i:Int)+j)=((i+j:Nat):Int):=by rw[i64_nat] <;> omega
  have w2:IntKind.i64.wrap ((j:Int)+1)=((j+1:Nat):Int):=by rw[i64_nat] <;> omega
  have hp:(0:Int)<=j:=by omega
  have hq:(0:Int)<=((i+j:Nat):Int)/\((i+j:Nat):Int)<zs.length:=by omega
  rw[hd,w1,w2];simp only [cond_true,if_pos hp,if_pos hq,Int.toNat_natCast,Nat.zero_add,List.getElem?_eq_getElem hjl,List.getElem?_eq_getElem hij,Option.bind_some];have hyb:=hy _ (List.getElem_mem hjl);have hzb:=hzo _ (List.getElem_mem hij);have hm:=word_mul hx hyb;have dz:zs.drop (i+j)=zs[i+j] :: zs.drop (i+j+1):=List.drop_eq_getElem_cons hij;have dy:ys.drop j=ys[j] :: ys.drop (j+1):=List.drop_eq_getElem_cons hjl;rw[dz,dy];generalize hyv:(ys[j]:Int)=y at *;generalize hzv:(zs[i+j]:Int)=z at *;have e1:IntKind.u64.wrap (c+IntKind.u64.wrap (IntKind.u64.wrap (IntKind.u64.wrap x*IntKind.u64.wrap y)+IntKind.u64.wrap z))=c+(x*y+z):=by
   rw[u64_id x hx.1 (by omega),u64_id y hyb.1 (by omega),u64_id z hzb.1 (by omega)];generalize x*y=Q at *;simp only [IntKind.wrap_u64];omega
  have e3:(c+(x*y+z)).fdiv (2 ^ min (Int.toNat 32) IntKind.u64.bits)=(c+(x*y+z)) / 4294967296:=by
   rw[show (2:Int) ^ min (Int.toNat 32) IntKind.u64.bits=4294967296 by decide];rw[Int.fdiv_eq_ediv_of_nonneg _ (by decide)]
  rw[e1,e3,IntKind.wrap_u32];generalize hQ:x*y=Q at *;have hdb:0<=(c+(Q+z)) % 4294967296/\(c+(Q+z)) % 4294967296<4294967296:=by omega
  rw[ih (j+1) _ _ (by omega) (by simpa using hz) (okW_set hzo hdb) (by omega) (by omega)];have t1:(zs.set (i+j) ((c+(Q+z)) % 4294967296)).take (i+(j+1))=zs.take (i+j) ++ [(c+(Q+z)) % 4294967296]:=by
   rw[<- Nat.add_assoc,List.take_add_one,List.take_set_of_le (Nat.le_refl _),List.getElem?_set_self hij];rfl
  have t2:∀ k,i+j<k->(zs.set (i+j) ((c+(Q+z)) % 4294967296)).drop k=zs.drop k:=fun k hk=>List.drop_set_of_lt hk
  rw[t1,t2 _ (by omega),t2 _ (by omega)];simp only [rowL,rowC,List.headD_cons,List.tail_cons,List.append_assoc,List.cons_append,List.nil_append,hQ,Nat.add_assoc]
def S208a:Sum:=fun n0 ρ σ K=>match n0,σ with
 | 0,⟨[(1,.v false [.sl b' (.int .u32) ys]),(5,.v false [.wsl 0 1]),(6,.v false [.int .i64 i]),(7,.v false [.int .u32 x]),(8,.v false [.int .u64 c]),(17,.v false [.sl b (.int .u32) xs]),(18,.v false [.int .i64 n]),(19,.v false [.int .i64 i2]),
   (24,.v false [.sl b2 (.int .u32) ys2]),(25,.v false [.int .i64 m]),(26,.v false [.int .i64 j])],[.arr el (.int .u32) zs false true]⟩ =>
  if(el=162/\i2=i/\b2=b'/\ys2=ys/\c=0/\j=0/\m=ys.length)/\okW ys/\(0<=x/\x<4294967296)/\0<=i/\i.toNat+ys.length<zs.length/\zs.length<4611686018427387904/\okW zs then
   K (.exit 2) (σ208o b b' xs ys (zs.take i.toNat++(rowL x 0 ys (zs.drop i.toNat)++zs.drop (i.toNat+ys.length))) i n (rowC x 0 ys (zs.drop i.toNat)))else none
 | _,_=>none
theorem sum208a(N:NumSem):SumOK N Tryz.prog 67 (loopAt Tryz.f148 1) S208a:=
 SumOK.of_turns (V1_ok N) mixT (A:=A208) (SumsOK.none fun _=>rfl) fun n0 ρ σ K r h=>by
  unfold S208a at h;split at h
  ·rename_i b' ys i x c b xs n i2 b2 ys2 m j el zs;split at h
   ·rename_i hc;obtain⟨⟨rfl,rfl,rfl,rfl,rfl,rfl,rfl⟩,hy,hx,hi,hZ,hZ',hz⟩:=hc;obtain⟨k,rfl⟩:=Int.eq_ofNat_of_zero_le hi;have hl:=loop208a K b b2 xs ys2 n x hy hx k zs.length (by simpa using hZ) hZ' ys2.length 0 zs 0 (by omega) rfl hz (by omega) (by omega);simp only [Nat.add_zero,List.drop_zero]at hl;exact⟨_,hl.trans h⟩
   ·contradiction
  ·contradiction
def A208t:Ann:={ A208 with sum:=fun i=>bif Nat.beq i 7 then some S208a else none }
def σ208(b b':Option Bool) (xs ys zs:List tW.den) (n i:Int):St:=
 ⟨[(1,one (.sl b' tW ys)),(5,one (.wsl 0 1)),(17,one (.sl b tW xs)),(18,one (.int .i64 n)),(19,one (.int .i64 i))],[.arr 162 tW zs false true]⟩
theorem turn208{ρ:Type} (K:Exit->St->Option ρ) (go:St->Option ρ) (b b':Option Bool) (xs ys zs:List tW.den) (n i:Int) :
  turnF V1 A208t 67 0 0 (loopAt Tryz.f148 0) K go (σ208 b b' xs ys zs n i) =
  bif decide (i<n)then(if 0<=i then(xs[i.toNat]?).bind fun x =>
   if(162=162/\i=i/\b'=b'/\ys=ys/\(0:Int)=0/\(0:Int)=0/\(ys.length:Int)=ys.length)/\okW ys/\((0:Int)<=x/\(x:Int)<4294967296)/\0<=i/\i.toNat+ys.length<zs.length/\zs.length<4611686018427387904/\okW zs then
    (let zs':List tW.den:=zs.take i.toNat++(rowL x 0 ys (zs.drop i.toNat)++zs.drop (i.toNat+ys.length))
     if 0<=IntKind.i64.wrap (i+ys.length)/\IntKind.i64.wrap (i+ys.length)<zs'.length then(zs'[0+(IntKind.i64.wrap (i+ys.length)).toNat]?).bind fun _ =>
     go (σ208 b b' xs ys (zs'.set (0+(IntKind.i64.wrap (i+ys.length)).toNat) (IntKind.u32.wrap (rowC x 0 ys (zs.drop i.toNat)))) n (IntKind.i64.wrap (i+1)))else none)else none else none)
  else K (.exit 0) ⟨[(5,one (.sl (some false) tW zs))],[]⟩:=by kernel_rfl
def stepZ(i:Nat) (x:Int) (ys zs:List Int):List Int:=(zs.take i++(rowL x 0 ys (zs.drop i)++zs.drop (i+ys.length))).set (i+ys.length) (rowC x 0 ys (zs.drop i))
def mulG(ys:List Int):List Int->Nat->List Int->List Int
 | [],_,zs=>zs
 | x :: r,i,zs=>mulG ys r (i+1) (stepZ i x ys zs)
theorem stepZ_length{i:Nat} {x:Int} {ys zs:List Int} (h:i+ys.length<=zs.length):(stepZ i x ys zs).length=zs.length:=by
 simp only [stepZ,List.length_set,List.length_append,List.length_take,List.length_drop,rowL_length];omega
theorem stepZ_ok{i:Nat} {x:Int} {ys zs:List Int} (hx:0<=x/\x<4294967296) (hy:okW ys) (hz:okW zs) (h:i+ys.length<=zs.length):okW (stepZ i x ys zs):=by
 have:=row_val x 0 ys (zs.drop i) hx hy (okW_drop hz i) (by omega) (by omega) (by simp;omega);exact okW_set (okW_append (okW_take hz i) (okW_append (rowL_ok _ _ _ _) (okW_drop hz _))) this.2
theorem loop208{ρ:Type} (K:Exit->St->Option ρ) (b b':Option Bool) (xs ys:List tW.den) (hx:okW xs) (hy:okW ys) (Z:Nat) (hZ:Z=xs.length+ys.length) (hZ':Z<4611686018427387904) :
  ∀ (m i:Nat) (zs:List tW.den),i+m=xs.length->zs.length=Z->okW zs ->
  itF (turnF V1 A208t 67 0 0 (loopAt Tryz.f148 0) K) (fun _=>none) (m+1) (σ208 b b' xs ys zs xs.length i)=K (.exit 0) ⟨[(5,one (.sl (some false) tW (mulG ys (xs.drop i) i zs)))],[]⟩:=by
 intro m
 induction m with
 | zero =>
  intro i zs hi hz hzo;simp only [itF];rw[turn208];have:decide ((i:Int)<(xs.length:Int))=false:=decide_eq_false (by omega);rw[this];simp only [cond_false];rw[List.drop_of_length_le (by omega)];rfl
 | succ m ih =>
  intro i zs hi hz hzo;rw[show itF (turnF V1 A208t 67 0 0 (loopAt Tryz.f148 0) K) (fun _=>none) (m+1+1)=turnF V1 A208t 67 0 0 (loopAt Tryz.f148 0) K (itF (turnF V1 A208t 67 0 0 (loopAt Tryz.f148 0) K) (fun _=>none) (m+1))from rfl,turn208];have hd:decide ((i:Int)<(xs.length:Int))=true:=decide_eq_true (by omega);have hil:i<xs.length:=by omega
  have hp:(0:Int)<=i:=by omega
  have hxb:=hx _ (List.getElem_mem hil);have w1:IntKind.i64.wrap ((i:Int)+ys.length)=((i+ys.length:Nat):Int):=by rw[i64_nat] <;> omega
  have w2:IntKind.i64.wrap ((i:Int)+1)=((i+1:Nat):Int):=by rw[i64_nat] <;> omega
  rw[hd,w1,w2];simp only [cond_true,if_pos hp,Int.toNat_natCast,Nat.zero_add,List.getElem?_eq_getElem hil,Option.bind_some];rw[if_pos ⟨⟨trivial,trivial,trivial,trivial,trivial,trivial,trivial⟩,hy,hxb,hp,by omega,by omega,hzo⟩];have hlen:(zs.take i++(rowL (xs[i]) 0 ys (zs.drop i)++zs.drop (i+ys.length)):List tW.den).length=zs.length:=by
   have:((rowL (xs[i]) 0 ys (zs.drop i):List Int)).length=ys.length:=rowL_length _ _ _ _;simp only [List.length_append,List.length_take,List.length_drop];rw[show ((rowL (xs[i]) 0 ys (zs.drop i):List tW.den)).length=ys.length from this];omega
  rw[hlen,if_pos (by omega),List.getElem?_eq_getElem (by rw[hlen];omega)];simp only [Option.bind_some];have hrc:=row_val (xs[i]) 0 ys (zs.drop i) hxb hy (okW_drop hzo i) (by omega) (by omega) (by simp;omega);have e1:IntKind.u32.wrap (rowC (xs[i]) 0 ys (zs.drop i))=rowC (xs[i]) 0 ys (zs.drop i):=by rw[IntKind.wrap_u32];omega
  rw[e1];have hzl:i+ys.length<=zs.length:=by omega
  have:=ih (i+1) (stepZ i (xs[i]) ys zs) (by omega) (by rw[<- hz];exact stepZ_length hzl) (stepZ_ok hxb hy hzo hzl);rw[List.drop_eq_getElem_cons hil];exact this
end Go.Abs
namespace Go.Abs
open Go.Proofs
set_option maxRecDepth 100000
theorem stepZ_eq{i:Nat} {x:Int} {ys zs:List Int} (h:i+ys.length<zs.length) :
  stepZ i x ys zs=zs.take i++(rowL x 0 ys (zs.drop i)++(rowC x 0 ys (zs.drop i) :: zs.drop (i+ys.length+1))):=by
 unfold stepZ;have l1:(zs.take i).length=i:=by simp;omega
 have l2:(rowL x 0 ys (zs.drop i)).length=ys.length:=rowL_length _ _ _ _;rw[List.set_append_right _ _ (by omega),l1,List.set_append_right _ _ (by omega),l2];have:i+ys.length-i-ys.length=0:=by omega
 rw[this,List.drop_eq_getElem_cons h];rfl
theorem stepZ_get{i:Nat} {x:Int} {ys zs:List Int} (h:i+ys.length<zs.length) {k:Nat} (hk:i+ys.length+1<=k):(stepZ i x ys zs)[k]? = zs[k]?:=by
 rw[stepZ_eq h];have l1:(zs.take i).length=i:=by simp;omega
 have l2:(rowL x 0 ys (zs.drop i)).length=ys.length:=rowL_length _ _ _ _;rw[List.getElem?_append_right (by omega),l1,List.getElem?_append_right (by omega),l2];obtain⟨d,rfl⟩:∃ d,k=i+ys.length+1+d:=⟨k-(i+ys.length+1),by omega⟩;have:i+ys.length+1+d-i-ys.length=d+1:=by omega
 rw[this,List.getElem?_cons_succ,List.getElem?_drop]
theorem stepZ_val{i:Nat} {x:Int} {ys zs:List Int} (hx:0<=x/\x<4294967296) (hy:okW ys) (hz:okW zs) (h:i+ys.length<zs.length) (h0:zs[i+ys.length]? = some 0) :
  val (stepZ i x ys zs)=val zs+4294967296 ^ i*(x*val ys):=by
 obtain⟨e,_,_⟩:=row_val x 0 ys (zs.drop i) hx hy (okW_drop hz i) (by omega) (by omega) (by simp;omega);have l1:(zs.take i).length=i:=by simp;omega
 have l2:(rowL x 0 ys (zs.drop i)).length=ys.length:=rowL_length _ _ _ _;have l3:((zs.drop i).take ys.length).length=ys.length:=by simp;omega
 have ez:zs=zs.take i++((zs.drop i).take ys.length++(0 :: zs.drop (i+ys.length+1))):=by
  have h1:zs=zs.take i++zs.drop i:=(List.take_append_drop i zs).symm;have h2:zs.drop i=(zs.drop i).take ys.length++(zs.drop i).drop ys.length:=(List.take_append_drop _ _).symm;have h3:(zs.drop i).drop ys.length=0 :: zs.drop (i+ys.length+1):=by
   rw[List.drop_drop,List.drop_eq_getElem_cons h];have:zs[i+ys.length]=0:=by
    have:=h0;rw[List.getElem?_eq_getElem h]at this
    simpa using this
   rw[this]
  rw[<- h3,<- h2,<- h1]
 rw[stepZ_eq h];have ev:val zs=val (zs.take i)+4294967296 ^ i*(val ((zs.drop i).take ys.length)+4294967296 ^ ys.length*(0+4294967296*val (zs.drop (i+ys.length+1)))):=by
  conv=>lhs;rw[ez]
  rw[val_append,val_append,l1,l3];rfl
 rw[ev,val_append,val_append,l1,l2];simp only [val];generalize val (zs.take i)=A;generalize (4294967296:Int) ^ i=P;generalize (4294967296:Int) ^ ys.length=Q at *;generalize val (rowL x 0 ys (zs.drop i))=V at *;generalize rowC x 0 ys (zs.drop i)=C at *;generalize val ((zs.drop i).take ys.length)=M at *;generalize val (zs.drop (i+ys.length+1))=R;generalize x*val ys=W at *;have:V+Q*(C+4294967296*R)=M+Q*(0+4294967296*R)+W:=by
  rw[Int.mul_add,Int.zero_add];generalize Q*(4294967296*R)=S;omega
 rw[this,Int.mul_add P _ W,Int.add_assoc]
theorem mulG_ok:∀ (r ys:List Int) (i:Nat) (zs:List Int),okW r->okW ys->okW zs->zs.length=i+r.length+ys.length->(∀ k,i+ys.length<=k->k<zs.length->zs[k]? = some 0) ->
  okW (mulG ys r i zs)/\(mulG ys r i zs).length=zs.length/\val (mulG ys r i zs)=val zs+4294967296 ^ i*(val r*val ys)
 | [],ys,i,zs,_,_,hz,_,_=>by simp [mulG,val,hz]
 | x :: r,ys,i,zs,hr,hy,hz,hl,h0=>by
  obtain⟨a1,a2⟩:=okW_cons.1 hr;simp only [List.length_cons]at hl;have hlt:i+ys.length<zs.length:=by omega
  have e1:=stepZ_length (x:=x) (Nat.le_of_lt hlt);obtain⟨i1,i2,i3⟩:=mulG_ok r ys (i+1) (stepZ i x ys zs) a2 hy (stepZ_ok a1 hy hz (Nat.le_of_lt hlt)) (by omega) (fun k hk1 hk2=>by
   rw[stepZ_get hlt (by omega)];exact h0 k (by omega) (by omega))
  refine⟨i1,i2.trans e1,?_⟩;simp only [mulG];rw[i3,stepZ_val a1 hy hz hlt (h0 _ (Nat.le_refl _) hlt)];simp only [val,Int.pow_succ];rw[Int.add_assoc,Int.mul_assoc,<- Int.mul_add,Int.add_mul,Int.mul_assoc]
def S208:Sum:=fun n0 ρ σ K=>match n0,σ with
 | 0,⟨[(1,.v false [.sl b' (.int .u32) ys]),(5,.v false [.wsl 0 1]),(17,.v false [.sl b (.int .u32) xs]),(18,.v false [.int .i64 n]),(19,.v false [.int .i64 i])],[.arr el (.int .u32) zs false true]⟩ =>
  if(el=162/\i=0/\n=xs.length/\zs=List.replicate (xs.length+ys.length) 0)/\xs.length+ys.length<4611686018427387904/\okW xs/\okW ys then K (.exit 0) ⟨[(5,one (.sl (some false) tW (mulG ys xs 0 zs)))],[]⟩else none
 | _,_=>none
theorem okW_zero(n:Nat):okW (List.replicate n 0):=fun x hx=>by rw[List.eq_of_mem_replicate hx];omega
theorem val_zero:∀ (n:Nat),val (List.replicate n 0)=0
 | 0=>rfl
 | n+1=>by rw[List.replicate_succ,val,val_zero n];rfl
theorem loops208:loopsOf (loopAt Tryz.f148 0)=[loopAt Tryz.f148 1]:=by kernel_rfl
theorem sum208(N:NumSem):SumOK N Tryz.prog 67 (loopAt Tryz.f148 0) S208:=
 SumOK.of_turns (V1_ok N) mixT (A:=A208t) (sums1 loops208 (by kernel_rfl) (sum208a N)) fun n0 ρ σ K r h=>by
  unfold S208 at h;split at h
  ·rename_i b' ys b xs n i el zs;split at h
   ·rename_i hc;obtain⟨⟨rfl,rfl,rfl,rfl⟩,hZ,hx,hy⟩:=hc;have hl:=loop208 K b b' xs ys hx hy _ rfl hZ xs.length 0 _ (by omega) List.length_replicate (okW_zero _);simp only [List.drop_zero]at hl;exact⟨_,hl.trans h⟩
   ·contradiction
  ·contradiction
def A208s:Ann:={ A208 with sum:=fun i=>bif Nat.beq i 3 then some S208 else bif Nat.beq i 7 then some S208a else none }
def mulMagO:Orc:=fun ρ args H cont=>match args,H with
 | [.v false [.sl b (.int .u32) xs],.v false [.sl b' (.int .u32) ys]],[] =>
  if xs.length<1000000000000/\ys.length<1000000000000/\okW xs/\okW ys then cont (one (.sl (some false) tW (words (val xs*val ys).toNat))) []else none
 | _,_=>none
theorem run208(ρ:Type) (b b':Option Bool) (xs ys:List tW.den) (cont:SV->HL->Option ρ):runF V1 A208s 0 Tryz.f148 (bodyOf Tryz.f148) ρ [one (.sl b tW xs),one (.sl b' tW ys)] [] cont =
  (let l:Int:=IntKind.i64.wrap ((xs.length:Int)+ys.length)
   let zs:List tW.den:=List.replicate l.toNat 0
   if 0<=l/\l<=l/\l<=70368744177664/\l*(4:Nat)<=70368744177664 then
   (if(162=162/\(0:Int)=0/\(xs.length:Int)=xs.length/\(zs:List Int)=List.replicate (xs.length+ys.length) 0)/\xs.length+ys.length<4611686018427387904/\okW xs/\okW ys then
    (let rs:List tW.den:=mulG ys xs 0 zs
     bif Nat.blt rs.length 4611686018427387904 then cont (one (.sl (some false) tW (rs.take (trimTo rs rs.length)))) []else none)else none)
   else none):=by kernel_rfl
theorem orc208(N:NumSem):OrcOK N Tryz.prog 148 mulMagO:=
 OrcOK.of_tale (runF_ok (V1_ok N) mixT (A:=A208s) (fuel:=0) Tryz.func148 (c:=bodyOf Tryz.f148) (by kernel_rfl) (fun l hl S hS=>by
  rw[show loopsOf (bodyOf Tryz.f148)=[loopAt Tryz.f148 0,loopAt Tryz.f148 1]by kernel_rfl]at hl;rcases List.mem_cons.1 hl with e | e
  ·subst e;rw[show A208s.sum (fid (loopAt Tryz.f148 0))=some S208 by kernel_rfl]at hS;cases hS;exact sum208 N
  ·have:=List.mem_singleton.1 e;subst this;rw[show A208s.sum (fid (loopAt Tryz.f148 1))=some S208a by kernel_rfl]at hS;cases hS;exact sum208a N)) fun ρ args H cont r h=>by
  unfold mulMagO at h;split at h
  ·rename_i b xs b' ys;split at h
   ·rename_i hc;obtain⟨h1,h2,hx,hy⟩:=hc;refine(run208 ρ b b' xs ys cont).trans ?_;simp only;have hl:IntKind.i64.wrap ((xs.length:Int)+ys.length)=((xs.length+ys.length:Nat):Int):=by rw[i64_nat] <;> omega
    rw[hl,if_pos (by omega),Int.toNat_natCast,if_pos ⟨⟨trivial,trivial,trivial,rfl⟩,by omega,hx,hy⟩];obtain⟨m1,m2,m3⟩:=mulG_ok xs ys 0 (List.replicate (xs.length+ys.length) 0) hx hy (okW_zero _) (by simp) (fun k _ hk=>by
     rw[List.getElem?_eq_getElem hk];simp)
    rw[val_zero,Int.pow_zero,Int.one_mul,Int.zero_add]at m3;rw[List.length_replicate]at m2;have hw:=trim_words m1;rw[m2,m3]at hw;have m2':(mulG ys xs 0 (List.replicate (xs.length+ys.length) 0):List tW.den).length=xs.length+ys.length:=m2;rw[m2'];have hb:Nat.blt (xs.length+ys.length) 4611686018427387904=true:=Nat.ble_eq_true_of_le (show xs.length+ys.length+1<=4611686018427387904 by omega);rw[hb];simp only [cond_true];have hw':(mulG ys xs 0 (List.replicate (xs.length+ys.length) 0):List tW.den).take (trimTo (mulG ys xs 0 (List.replicate (xs.length+ys.length) 0)) (xs.length+ys.length))=words (val xs*val ys).toNat:=hw;rw[hw'];exact h
   ·contradiction
  ·contradiction
end Go.Abs
namespace Go.Abs
open Go.Proofs
set_option maxRecDepth 100000
def digitsN:Nat->Int->List Int
 | 0,_=>[]
 | n+1,v=>(v % 4294967296) :: digitsN n (v / 4294967296)
theorem digitsN_val:∀ {qs:List Int},okW qs->qs=digitsN qs.length (val qs)
 | [],_=>rfl
 | x :: r,h=>by
  obtain⟨h1,h2⟩:=okW_cons.1 h;simp only [List.length_cons,digitsN,val];have e1:(x+4294967296*val r) % 4294967296=x:=by omega
  have e2:(x+4294967296*val r) / 4294967296=val r:=by omega
  rw[e1,e2,<- digitsN_val h2]
theorem or_u64(a b:Int) (ha:0<=a/\a<4294967296) (hb:0<=b/\b<4294967296):bits .or .u64 (a*4294967296) b=a*4294967296+b:=by
 obtain⟨a,rfl⟩:=Int.eq_ofNat_of_zero_le ha.1;obtain⟨b,rfl⟩:=Int.eq_ofNat_of_zero_le hb.1;have hw:∀ n:Int,0<=n->n<2 ^ 64->IntKind.u64.wrap n=n:=fun n h0 h1=>by rw[IntKind.wrap_u64];omega
 have e:((a:Int)*4294967296)=((a*4294967296:Nat):Int):=by omega
 rw[e,(bits_nat .u64 64 (by decide) hw (a*4294967296) b (by omega) (by omega)).2];have h:=Nat.shiftLeft_add_eq_or_of_lt (i:=32) (b:=b) (by omega) a;rw[Nat.shiftLeft_eq]at h;have h':a*4294967296+b=a*4294967296 ||| b:=h;rw[<- h'];omega
def A244:Ann:={ head:=ptOf [(3,[0,1,6,7,8],[])],out:=ptOf [(3,[6,7],[6])] }
def σ244(b:Option Bool) (xs zs:List tW.den) (d i r:Int):St:=
 ⟨[(0,one (.sl b tW xs)),(1,one (.int .u32 d)),(6,one (.wsl 0 1)),(7,one (.int .u64 r)),(8,one (.int .i64 i))],[.arr 162 tW zs false true]⟩
theorem turn244{ρ:Type} (K:Exit->St->Option ρ) (go:St->Option ρ) (b:Option Bool) (xs zs:List tW.den) (d i r:Int) :
  turnF V1 A244 43 0 0 (loopAt Tryz.f205 0) K go (σ244 b xs zs d i r) =
  bif decide (0<=i)then(if 0<=i then(xs[i.toNat]?).bind fun x=>if IntKind.u64.wrap d=0 then none else if IntKind.u64.wrap d=0 then none else
   if 0<=i/\i<zs.length then(zs[0+i.toNat]?).bind fun _ =>
    go (σ244 b xs (zs.set (0+i.toNat) (IntKind.u32.wrap (IntKind.u64.wrap ((bits .or .u64 (IntKind.u64.wrap (r*2 ^ min (Int.toNat 32) IntKind.u64.bits)) (IntKind.u64.wrap x)).tdiv (IntKind.u64.wrap d))))) d (IntKind.i64.wrap (i-1))
     ((bits .or .u64 (IntKind.u64.wrap (r*2 ^ min (Int.toNat 32) IntKind.u64.bits)) (IntKind.u64.wrap x)).tmod (IntKind.u64.wrap d)))else none else none)
  else K (.exit 0) ⟨[(6,one (.sl (some false) tW zs)),(7,one (.int .u64 r))],[]⟩:=by kernel_rfl
theorem loop244{ρ:Type} (K:Exit->St->Option ρ) (b:Option Bool) (xs:List tW.den) (hx:okW xs) (d:Int) (hd0:0<d) (hd1:d<4294967296) (hN:xs.length<4611686018427387904):∀ (m:Nat) (r:Int),m<=xs.length->0<=r->r<d ->
  ∃ (qs:List Int) (rem:Int),okW qs/\qs.length=m/\val qs*d+rem=4294967296 ^ m*r+val (xs.take m)/\0<=rem/\rem<d /\ ∀ zs:List tW.den,zs.length=xs.length ->
   itF (turnF V1 A244 43 0 0 (loopAt Tryz.f205 0) K) (fun _=>none) (m+1) (σ244 b xs zs d ((m:Int)-1) r)=K (.exit 0) ⟨[(6,one (.sl (some false) tW (qs++zs.drop m))),(7,one (.int .u64 rem))],[]⟩:=by
 intro m
 induction m with
 | zero =>
  intro r _ h0 h1;refine⟨[],r,by simp [okW],rfl,by simp [val],h0,h1,fun zs _=>?_⟩;simp only [itF];rw[turn244,show decide (0<=(((0:Nat):Int)-1))=false from rfl];rfl
 | succ m ih =>
  intro r hm h0 h1;have hml:m<xs.length:=hm;have hxb:=hx _ (List.getElem_mem hml);have vx:=val_take_succ (List.getElem?_eq_getElem hml);generalize hxv:(xs[m]:Int)=x at *;have ht0:0<=r*4294967296+x:=by omega
  have hq:(r*4294967296+x) / d<4294967296:=by
   rw[Int.ediv_lt_iff_lt_mul hd0];omega
  have hq0:0<=(r*4294967296+x) / d:=Int.ediv_nonneg ht0 (by omega);have hr0:0<=(r*4294967296+x) % d:=Int.emod_nonneg _ (by omega);have hr1:(r*4294967296+x) % d<d:=Int.emod_lt_of_pos _ hd0;have hdm:=Int.mul_ediv_add_emod (r*4294967296+x) d;obtain⟨qs,rem,k1,k2,k3,k4,k5,k6⟩:=ih ((r*4294967296+x) % d) (by omega) hr0 hr1;refine⟨qs ++ [(r*4294967296+x) / d],rem,okW_append k1 (by rw[okW_cons];exact⟨⟨hq0,hq⟩,by simp [okW]⟩),by simp [k2],?_,k4,k5,fun zs hz=>?_⟩
  ·rw[val_append,k2,vx,Int.pow_succ];simp only [val,Int.mul_zero,Int.add_zero];generalize (4294967296:Int) ^ m=P at *;generalize (r*4294967296+x) / d=q at *;generalize (r*4294967296+x) % d=s at *;have e1:(val qs+P*q)*d=val qs*d+P*(d*q):=by
    rw[Int.add_mul,Int.mul_assoc,Int.mul_comm q d]
   have e2:P*4294967296*r+(val (xs.take m)+P*x)=P*(r*4294967296+x)+val (xs.take m):=by
    rw[Int.mul_add,Int.mul_assoc,Int.mul_comm 4294967296 r];omega
   rw[e1,e2,<- hdm,Int.mul_add];omega
  ·rw[show itF (turnF V1 A244 43 0 0 (loopAt Tryz.f205 0) K) (fun _=>none) (m+1+1)=turnF V1 A244 43 0 0 (loopAt Tryz.f205 0) K (itF (turnF V1 A244 43 0 0 (loopAt Tryz.f205 0) K) (fun _=>none) (m+1))from rfl,turn244];have e0:((m+1:Nat):Int)-1=m:=by omega
   rw[e0];have hd:decide (0<=(m:Int))=true:=decide_eq_true (by omega);have hp:0<=(m:Int):=by omega
   have hmz:m<zs.length:=by omega
   have hwd:IntKind.u64.wrap d=d:=u64_id d (by omega) (by omega);have hnz:¬ d=0:=by omega
   have hpz:0<=(m:Int)/\(m:Int)<zs.length:=by omega
   have e1:IntKind.u64.wrap (r*2 ^ min (Int.toNat 32) IntKind.u64.bits)=r*4294967296:=by
    rw[show (2:Int) ^ min (Int.toNat 32) IntKind.u64.bits=4294967296 by decide,u64_id _ (by omega) (by omega)]
   have e2:IntKind.u64.wrap x=x:=u64_id x hxb.1 (by omega);have e3:bits .or .u64 (r*4294967296) x=r*4294967296+x:=or_u64 r x ⟨h0,by omega⟩ hxb;have e4:(r*4294967296+x).tdiv d=(r*4294967296+x) / d:=Int.tdiv_eq_ediv_of_nonneg ht0;have e5:(r*4294967296+x).tmod d=(r*4294967296+x) % d:=Int.tmod_eq_emod_of_nonneg ht0;have e6:IntKind.u32.wrap (IntKind.u64.wrap ((r*4294967296+x) / d))=(r*4294967296+x) / d:=by
    rw[u64_id _ hq0 (by omega),IntKind.wrap_u32];omega
   have e7:IntKind.i64.wrap ((m:Int)-1)=(m:Int)-1:=by rw[IntKind.wrap_i64];omega
   simp only [hd,cond_true,if_pos hp,Int.toNat_natCast,List.getElem?_eq_getElem hml,Option.bind_some,hwd,if_neg hnz,if_pos hpz,Nat.zero_add,List.getElem?_eq_getElem hmz];rw[hxv,e1,e2,e3,e4,e5,e6,e7,k6 _ (by simpa using hz)];congr 5;rw[List.append_assoc];congr 1;rw[List.drop_eq_getElem_cons (by simpa using hmz)];simp [List.drop_set_of_lt]
def S244:Sum:=fun n0 ρ σ K=>match n0,σ with
 | 0,⟨[(0,.v false [.sl b (.int .u32) xs]),(1,.v false [.int .u32 d]),(6,.v false [.wsl 0 1]),(7,.v false [.int .u64 r]),(8,.v false [.int .i64 i])],[.arr el (.int .u32) zs false true]⟩ =>
  if(el=162/\r=0/\i=(xs.length:Int)-1/\zs.length=xs.length)/\xs.length<4611686018427387904/\okW xs/\0<d/\d<4294967296 then
   K (.exit 0) ⟨[(6,one (.sl (some false) tW (digitsN xs.length (val xs / d)))),(7,one (.int .u64 (val xs % d)))],[]⟩else none
 | _,_=>none
theorem sum244(N:NumSem):SumOK N Tryz.prog 43 (loopAt Tryz.f205 0) S244:=
 SumOK.of_turns (V1_ok N) mixT (A:=A244) (SumsOK.none fun _=>rfl) fun n0 ρ σ K r h=>by
  unfold S244 at h;split at h
  ·rename_i b xs d r i el zs;split at h
   ·rename_i hc;obtain⟨⟨rfl,rfl,rfl,hz⟩,hN,hx,hd0,hd1⟩:=hc;obtain⟨qs,rem,k1,k2,k3,k4,k5,k6⟩:=loop244 K b xs hx d hd0 hd1 hN xs.length 0 (Nat.le_refl _) (by omega) hd0;have hl:=k6 zs hz;rw[List.drop_of_length_le (by omega),List.append_nil]at hl;rw[List.take_length,Int.mul_zero,Int.zero_add]at k3;have e1:val xs / d=val qs:=by
     rw[<- k3,Int.add_comm,Int.add_mul_ediv_right _ _ (by omega),Int.ediv_eq_zero_of_lt k4 k5];omega
    have e2:val xs % d=rem:=by
     rw[<- k3,Int.add_comm,Int.add_mul_emod_self_right,Int.emod_eq_of_lt k4 k5]
    rw[e1,e2,<- k2,<- digitsN_val k1]at h;exact⟨_,hl.trans h⟩
   ·contradiction
  ·contradiction
theorem digitsN_length:∀ (n:Nat) (v:Int),(digitsN n v).length=n
 | 0,_=>rfl
 | n+1,v=>by simp [digitsN,digitsN_length n]
theorem digitsN_ok:∀ (n:Nat) (v:Int),okW (digitsN n v)
 | 0,_=>by intro x hx;cases hx
 | n+1,v=>by
  simp only [digitsN];rw[okW_cons];exact⟨by omega,digitsN_ok n _⟩
theorem val_digitsN:∀ (n:Nat) (v:Int),0<=v->v<4294967296 ^ n->val (digitsN n v)=v
 | 0,v,h0,h1=>by simp at h1;simp [digitsN,val];omega
 | n+1,v,h0,h1=>by
  simp only [digitsN,val];rw[Int.pow_succ]at h1;have:v / 4294967296<4294967296 ^ n:=by rw[Int.ediv_lt_iff_lt_mul (by omega)];exact h1
  rw[val_digitsN n (v / 4294967296) (by omega) this];omega
def A244s:Ann:={ A244 with sum:=fun i=>bif Nat.beq i 3 then some S244 else none }
def shortMagO:Orc:=fun ρ args H cont=>match args,H with
 | [.v false [.sl b (.int .u32) xs],.v false [.int .u32 d]],[] =>
  if xs.length<1000000000000/\okW xs/\0<d/\d<4294967296 then cont (.tup [(false,[.sl (some false) tW (words (val xs / d).toNat)]),(false,[.int .u32 (val xs % d)])]) []else none
 | _,_=>none
theorem run244(ρ:Type) (b:Option Bool) (xs:List tW.den) (d:Int) (cont:SV->HL->Option ρ):runF V1 A244s 0 Tryz.f205 (bodyOf Tryz.f205) ρ [one (.sl b tW xs),one (.int .u32 d)] [] cont =
  (let l:Int:=xs.length
   let zs:List tW.den:=List.replicate l.toNat 0
   if 0<=l/\l<=l/\l<=70368744177664/\l*(4:Nat)<=70368744177664 then
   (if(162=162/\(0:Int)=0/\IntKind.i64.wrap ((xs.length:Int)-1)=(xs.length:Int)-1/\zs.length=xs.length)/\xs.length<4611686018427387904/\okW xs/\0<d/\d<4294967296 then
    (let rs:List tW.den:=digitsN xs.length (val xs / d)
     bif Nat.blt rs.length 4611686018427387904 then cont (.tup [(false,[.sl (some false) tW (rs.take (trimTo rs rs.length))]),(false,[.int .u32 (IntKind.u32.wrap (val xs % d))])]) []else none)else none)
   else none):=by kernel_rfl
theorem orc244(N:NumSem):OrcOK N Tryz.prog 205 shortMagO:=
 OrcOK.of_tale (runF_ok (V1_ok N) mixT (A:=A244s) (fuel:=0) Tryz.func205 (c:=bodyOf Tryz.f205) (by kernel_rfl)
  (sums1 (l:=loopAt Tryz.f205 0) (S:=S244) (by kernel_rfl) (by kernel_rfl) (sum244 N))) fun ρ args H cont r h=>by
  unfold shortMagO at h;split at h
  ·rename_i b xs d;split at h
   ·rename_i hc;obtain⟨h1,hx,hd0,hd1⟩:=hc;refine(run244 ρ b xs d cont).trans ?_;simp only;rw[if_pos (by omega),Int.toNat_natCast];have hzl':(List.replicate xs.length (0:Int):List tW.den).length=xs.length:=List.length_replicate;rw[hzl',if_pos ⟨⟨trivial,trivial,by rw[IntKind.wrap_i64];omega,rfl⟩,by omega,hx,hd0,hd1⟩];have hl:(digitsN xs.length (val xs / d):List tW.den).length=xs.length:=digitsN_length _ _;rw[hl];have hb:Nat.blt xs.length 4611686018427387904=true:=Nat.ble_eq_true_of_le (show xs.length+1<=4611686018427387904 by omega);rw[hb];simp only [cond_true];have hv0:=val_nonneg hx;have hq0:0<=val xs / d:=Int.ediv_nonneg hv0 (by omega);have hq1:val xs / d<4294967296 ^ xs.length:=by
     have h2:=val_lt hx;have h3:val xs / d<=val xs:=Int.ediv_le_self _ hv0;omega
    have hw:=trim_words (digitsN_ok xs.length (val xs / d));rw[digitsN_length,val_digitsN _ _ hq0 hq1]at hw;have hw':(digitsN xs.length (val xs / d):List tW.den).take (trimTo (digitsN xs.length (val xs / d)) xs.length)=words (val xs / d).toNat:=hw;have hm0:0<=val xs % d:=Int.emod_nonneg _ (by omega);have hm1:val xs % d<d:=Int.emod_lt_of_pos _ hd0;have hr:IntKind.u32.wrap (val xs % d)=val xs % d:=by rw[IntKind.wrap_u32];omega
    rw[hw',hr];exact h
   ·contradiction
  ·contradiction
end Go.Abs
namespace Go.Abs
open Go.Proofs
set_option maxRecDepth 100000
def ownA(el:Nat) (zs:List tW.den):HL:=[.arr el tW zs false false]
theorem turn226o{ρ:Type} (K:Exit->St->Option ρ) (go:St->Option ρ) (el n:Nat) (zs:List tW.den) :
  turnF V0 A226 21 1 0 (loopAt Tryz.f182 0) K go ⟨[(0,one (.osl 0 1 0 n))],ownA el zs⟩ =
 bif decide ((0:Int)<n)then
  if 0<=IntKind.i64.wrap ((n:Int)-1)/\IntKind.i64.wrap ((n:Int)-1)<n then
   (zs[0+(IntKind.i64.wrap ((n:Int)-1)).toNat]?).bind fun x =>
    bif bif true then((x:Int)==0)else false then
     if(0:Int)<=0/\0<=IntKind.i64.wrap ((n:Int)-1)/\IntKind.i64.wrap ((n:Int)-1)<=n then
      go ⟨[(0,one (.osl 0 1 0 ((IntKind.i64.wrap ((n:Int)-1)).toNat-Int.toNat 0)))],ownA el zs⟩
     else none
    else K (.exit 0) ⟨[(0,one (.osl 0 1 0 n))],ownA el zs⟩
  else none
 else K (.exit 0) ⟨[(0,one (.osl 0 1 0 n))],ownA el zs⟩:=by kernel_rfl
theorem turn226w{ρ:Type} (K:Exit->St->Option ρ) (go:St->Option ρ) (el:Nat) (zs:List tW.den) :
  turnF V0 A226 21 1 0 (loopAt Tryz.f182 0) K go ⟨[(0,one (.wsl 0 1))],ownA el zs⟩ =
 bif decide ((0:Int)<zs.length)then
  if 0<=IntKind.i64.wrap ((zs.length:Int)-1)/\IntKind.i64.wrap ((zs.length:Int)-1)<zs.length then
   (zs[0+(IntKind.i64.wrap ((zs.length:Int)-1)).toNat]?).bind fun x =>
    bif bif true then((x:Int)==0)else false then
     if(0:Int)<=0/\0<=IntKind.i64.wrap ((zs.length:Int)-1)/\IntKind.i64.wrap ((zs.length:Int)-1)<=zs.length then
      go ⟨[(0,one (.osl 0 1 0 ((IntKind.i64.wrap ((zs.length:Int)-1)).toNat-Int.toNat 0)))],ownA el zs⟩
     else none
    else K (.exit 0) ⟨[(0,one (.wsl 0 1))],ownA el zs⟩
  else none
 else K (.exit 0) ⟨[(0,one (.wsl 0 1))],ownA el zs⟩:=by kernel_rfl
theorem loop226o{ρ:Type} (K:Exit->St->Option ρ) (el:Nat) (zs:List tW.den) (hN:zs.length<4611686018427387904):∀ (m:Nat),m<=zs.length ->
  itF (turnF V0 A226 21 1 0 (loopAt Tryz.f182 0) K) (fun _=>none) (m+1) ⟨[(0,one (.osl 0 1 0 m))],ownA el zs⟩=K (.exit 0) ⟨[(0,one (.osl 0 1 0 (trimTo zs m)))],ownA el zs⟩:=by
 intro m
 induction m with
 | zero =>
  intro _;simp only [itF];rw[turn226o];have h0:decide ((0:Int)<((0:Nat):Int))=false:=rfl;rw[h0];rfl
 | succ m ih =>
  intro hm;rw[show itF (turnF V0 A226 21 1 0 (loopAt Tryz.f182 0) K) (fun _=>none) (m+1+1)=turnF V0 A226 21 1 0 (loopAt Tryz.f182 0) K (itF (turnF V0 A226 21 1 0 (loopAt Tryz.f182 0) K) (fun _=>none) (m+1))from rfl,turn226o];have hw:IntKind.i64.wrap (((m+1:Nat):Int)-1)=m:=by rw[i64_nat] <;> omega
  have hml:m<zs.length:=hm;have h1:decide ((0:Int)<((m+1:Nat):Int))=true:=decide_eq_true (by omega);have h2:0<=(m:Int)/\(m:Int)<((m+1:Nat):Int):=by omega
  have h3:(0:Int)<=0/\0<=(m:Int)/\(m:Int)<=((m+1:Nat):Int):=by omega
  rw[hw,h1,cond_true,if_pos h2,Int.toNat_natCast,Nat.zero_add,List.getElem?_eq_getElem hml,Option.bind_some,if_pos h3];have e0:m-Int.toNat 0=m:=rfl;rw[e0,cond_true];cases hx0:((zs[m]:Int)==0)with
  | true =>
   rw[cond_true,ih (by omega)];have:(zs[m]:Int)=0:=by simpa using hx0
   have:zs[m]? = some (0:Int):=by rw[List.getElem?_eq_getElem hml];exact congrArg some this
   have e:trimTo zs (m+1)=trimTo zs m:=by
    rw[trimTo];exact if_pos this
   rw[e]
  | false =>
   rw[cond_false];have hne:(zs[m]:Int)≠0:=by simpa using hx0
   have e:trimTo zs (m+1)=m+1:=by
    rw[trimTo];exact if_neg (by rw[List.getElem?_eq_getElem hml];exact fun h=>hne (by simpa using h))
   rw[e]
theorem loop226w{ρ:Type} (K:Exit->St->Option ρ) (el:Nat) (zs:List tW.den) (hN:zs.length<4611686018427387904) :
  itF (turnF V0 A226 21 1 0 (loopAt Tryz.f182 0) K) (fun _=>none) (zs.length+1) ⟨[(0,one (.wsl 0 1))],ownA el zs⟩ =
   bif Nat.beq (trimTo zs zs.length) zs.length then K (.exit 0) ⟨[(0,one (.wsl 0 1))],ownA el zs⟩else K (.exit 0) ⟨[(0,one (.osl 0 1 0 (trimTo zs zs.length)))],ownA el zs⟩:=by
 rw[show itF (turnF V0 A226 21 1 0 (loopAt Tryz.f182 0) K) (fun _=>none) (zs.length+1)=turnF V0 A226 21 1 0 (loopAt Tryz.f182 0) K (itF (turnF V0 A226 21 1 0 (loopAt Tryz.f182 0) K) (fun _=>none) zs.length)from rfl,turn226w];cases hl:zs.length with
 | zero=>simp [trimTo]
 | succ m =>
  have hw:IntKind.i64.wrap (((m+1:Nat):Int)-1)=m:=by rw[i64_nat] <;> omega
  have hml:m<zs.length:=by omega
  have h1:decide ((0:Int)<((m+1:Nat):Int))=true:=decide_eq_true (by omega);have h2:0<=(m:Int)/\(m:Int)<((m+1:Nat):Int):=by omega
  have h3:(0:Int)<=0/\0<=(m:Int)/\(m:Int)<=((m+1:Nat):Int):=by omega
  rw[hw,h1,cond_true,if_pos h2,Int.toNat_natCast,Nat.zero_add,List.getElem?_eq_getElem hml,Option.bind_some,if_pos h3];have e0:m-Int.toNat 0=m:=rfl;rw[e0,cond_true];cases hx0:((zs[m]:Int)==0)with
  | true =>
   rw[cond_true,loop226o K el zs hN m (by omega)];have:(zs[m]:Int)=0:=by simpa using hx0
   have:zs[m]? = some (0:Int):=by rw[List.getElem?_eq_getElem hml];exact congrArg some this
   have e:trimTo zs (m+1)=trimTo zs m:=by
    rw[trimTo];exact if_pos this
   have hle:=trimTo_le zs m;have hb:Nat.beq (trimTo zs m) (m+1)=false:=by
    cases hb:Nat.beq (trimTo zs m) (m+1)with
    | false=>rfl
    | true=>have:=Nat.eq_of_beq_eq_true hb;omega
   rw[e,hb];rfl
  | false =>
   rw[cond_false];have hne:(zs[m]:Int)≠0:=by simpa using hx0
   have e:trimTo zs (m+1)=m+1:=by
    rw[trimTo];exact if_neg (by rw[List.getElem?_eq_getElem hml];exact fun h=>hne (by simpa using h))
   rw[e,Nat.beq_refl];rfl
def S226w:Sum:=fun n0 ρ σ K=>match n0,σ with
 | 0,⟨[(0,.v false [.sl b (.int .u32) xs])],[]⟩=>bif Nat.blt xs.length 4611686018427387904 then K (.exit 0) ⟨[(0,one (.sl b tW (xs.take (trimTo xs xs.length))))],[]⟩else none
 | 1,⟨[(0,.v false [.wsl 0 1])],[.arr el (.int .u32) zs false false]⟩=>bif Nat.blt zs.length 4611686018427387904 then
   (bif Nat.beq (trimTo zs zs.length) zs.length then K (.exit 0) ⟨[(0,one (.wsl 0 1))],ownA el zs⟩else K (.exit 0) ⟨[(0,one (.osl 0 1 0 (trimTo zs zs.length)))],ownA el zs⟩)else none
 | 1,⟨[(0,.v false [.osl 0 1 0 n])],[.arr el (.int .u32) zs false false]⟩=>bif Nat.blt zs.length 4611686018427387904&&Nat.ble n zs.length then
   K (.exit 0) ⟨[(0,one (.osl 0 1 0 (trimTo zs n)))],ownA el zs⟩else none
 | _,_=>none
theorem sum226w(N:NumSem):SumOK N Tryz.prog 21 (loopAt Tryz.f182 0) S226w:=by
 intro n0 ρ σ K r h;unfold S226w at h;split at h
 ·exact sum226 N 0 ρ _ K r h
 ·rename_i el zs;exact SumOK.of_turns (V0_ok N) mixT (A:=A226) (S:=fun n0 ρ σ K=>match n0,σ with
   | 1,⟨[(0,.v false [.wsl 0 1])],[.arr el (.int .u32) zs false false]⟩=>bif Nat.blt zs.length 4611686018427387904 then
    (bif Nat.beq (trimTo zs zs.length) zs.length then K (.exit 0) ⟨[(0,one (.wsl 0 1))],ownA el zs⟩else K (.exit 0) ⟨[(0,one (.osl 0 1 0 (trimTo zs zs.length)))],ownA el zs⟩)else none
   | _,_=>none) (SumsOK.none fun _=>rfl) (fun n0 ρ σ K r h=>by
    split at h
    ·rename_i el zs;cases hb:Nat.blt zs.length 4611686018427387904 with
     | false=>rw[hb]at h;contradiction
     | true =>
      rw[hb,cond_true]at h;exact⟨_,(loop226w K el zs (Nat.le_of_ble_eq_true hb)).trans h⟩
    ·contradiction) 1 ρ _ K r h
 ·rename_i n el zs;exact SumOK.of_turns (V0_ok N) mixT (A:=A226) (S:=fun n0 ρ σ K=>match n0,σ with
   | 1,⟨[(0,.v false [.osl 0 1 0 n])],[.arr el (.int .u32) zs false false]⟩=>bif Nat.blt zs.length 4611686018427387904&&Nat.ble n zs.length then
    K (.exit 0) ⟨[(0,one (.osl 0 1 0 (trimTo zs n)))],ownA el zs⟩else none
   | _,_=>none) (SumsOK.none fun _=>rfl) (fun n0 ρ σ K r h=>by
    split at h
    ·rename_i n el zs;cases hb:(Nat.blt zs.length 4611686018427387904&&Nat.ble n zs.length)with
     | false=>rw[hb]at h;contradiction
     | true =>
      rw[hb,cond_true]at h;simp only [Bool.and_eq_true]at hb;exact⟨_,(loop226o K el zs (Nat.le_of_ble_eq_true hb.1) n (Nat.le_of_ble_eq_true hb.2)).trans h⟩
    ·contradiction) 1 ρ _ K r h
 ·contradiction
def A226w:Ann:={ A226 with sum:=fun i=>bif Nat.beq i 1 then some S226w else none }
def trimmedW:Orc:=fun ρ args H cont=>match args,H with
 | [.v false [.sl b (.int .u32) xs]],[]=>bif Nat.blt xs.length 4611686018427387904 then cont (one (.sl b tW (xs.take (trimTo xs xs.length)))) []else none
 | [.v false [.wsl 0 1]],[.arr el (.int .u32) zs false false]=>bif Nat.blt zs.length 4611686018427387904 then
   (bif Nat.beq (trimTo zs zs.length) zs.length then cont (one (.wsl 0 1)) (ownA el zs)else cont (one (.osl 0 1 0 (trimTo zs zs.length))) (ownA el zs))else none
 | [.v false [.osl 0 1 0 n]],[.arr el (.int .u32) zs false false]=>bif Nat.blt zs.length 4611686018427387904&&Nat.ble n zs.length then
   cont (one (.osl 0 1 0 (trimTo zs n))) (ownA el zs)else none
 | _,_=>none
theorem run226d(ρ:Type) (b:Option Bool) (xs:List tW.den) (cont:SV->HL->Option ρ):runF V0 A226w 0 Tryz.f182 (bodyOf Tryz.f182) ρ [one (.sl b tW xs)] [] cont =
  bif Nat.blt xs.length 4611686018427387904 then cont (one (.sl b tW (xs.take (trimTo xs xs.length)))) []else none:=by kernel_rfl
theorem run226w(ρ:Type) (el:Nat) (zs:List tW.den) (cont:SV->HL->Option ρ):runF V0 A226w 0 Tryz.f182 (bodyOf Tryz.f182) ρ [one (.wsl 0 1)] (ownA el zs) cont =
  bif Nat.blt zs.length 4611686018427387904 then
   (bif Nat.beq (trimTo zs zs.length) zs.length then cont (one (.wsl 0 1)) (ownA el zs)else cont (one (.osl 0 1 0 (trimTo zs zs.length))) (ownA el zs))else none:=by kernel_rfl
theorem run226o(ρ:Type) (el n:Nat) (zs:List tW.den) (cont:SV->HL->Option ρ):runF V0 A226w 0 Tryz.f182 (bodyOf Tryz.f182) ρ [one (.osl 0 1 0 n)] (ownA el zs) cont =
  bif Nat.blt zs.length 4611686018427387904&&Nat.ble n zs.length then cont (one (.osl 0 1 0 (trimTo zs n))) (ownA el zs)else none:=by kernel_rfl
theorem orc226w(N:NumSem):OrcOK N Tryz.prog 182 trimmedW:=
 OrcOK.of_tale (runF_ok (V0_ok N) mixT (A:=A226w) (fuel:=0) Tryz.func182 (c:=bodyOf Tryz.f182) (by kernel_rfl)
  (sums1 (l:=loopAt Tryz.f182 0) (S:=S226w) (by kernel_rfl) (by kernel_rfl) (sum226w N))) fun ρ args H cont r h=>by
  unfold trimmedW at h;split at h
  ·rename_i b xs;exact(run226d ρ b xs cont).trans h
  ·rename_i el zs;exact(run226w ρ el zs cont).trans h
  ·rename_i n el zs;exact(run226o ρ el n zs cont).trans h
  ·contradiction
end Go.Abs
namespace Go.Abs
def takeL:Int->Int->Int->List Int->List Int->List Int
 | _,_,_,[],_=>[]
 | d,c,w,u :: r,ys =>
  let t:=c+d*ys.headD 0
  ((u-t % 4294967296-w) % 4294967296) :: takeL d (t / 4294967296) (if u<t % 4294967296+w then 1 else 0) r ys.tail
def takeE:Int->Int->Int->List Int->List Int->Int × Int
 | _,c,w,[],_=>(c,w)
 | d,c,w,u :: r,ys =>
  let t:=c+d*ys.headD 0
  takeE d (t / 4294967296) (if u<t % 4294967296+w then 1 else 0) r ys.tail
theorem takeL_length:∀ (d c w:Int) (us ys:List Int),(takeL d c w us ys).length=us.length
 | _,_,_,[],_=>rfl
 | d,c,w,u :: r,ys=>by simp [takeL,takeL_length]
theorem takeL_ok:∀ (d c w:Int) (us ys:List Int),okW (takeL d c w us ys)
 | _,_,_,[],_=>by intro x hx;cases hx
 | d,c,w,u :: r,ys=>by
  simp only [takeL];rw[okW_cons];exact⟨by omega,takeL_ok _ _ _ _ _⟩
theorem takeL_val:∀ (d c w:Int) (us ys:List Int),(0<=d/\d<4294967296)->okW us->okW ys->0<=c->c<4294967296->0<=w->w<=1->ys.length<=us.length ->
  val (takeL d c w us ys)-4294967296 ^ us.length*((takeE d c w us ys).1+(takeE d c w us ys).2)=val us-d*val ys-c-w /\
  (0<=(takeE d c w us ys).1/\(takeE d c w us ys).1<4294967296)/\0<=(takeE d c w us ys).2/\(takeE d c w us ys).2<=1
 | d,c,w,[],ys,hd,_,_,h0,h1,w0,w1,hl=>by
  have:ys=[]:=List.length_eq_zero_iff.1 (Nat.le_zero.1 hl);subst this;simp [takeL,takeE,val];omega
 | d,c,w,u :: r,ys,hd,hu,hy,h0,h1,w0,w1,hl=>by
  obtain⟨a1,a2⟩:=okW_cons.1 hu;have b1:=okW_head hy;have hm:=word_mul hd b1;have hb:(0:Int)<=(if u<(c+d*ys.headD 0) % 4294967296+w then 1 else 0)/\(if u<(c+d*ys.headD 0) % 4294967296+w then(1:Int)else 0)<=1:=by split <;> omega
  obtain⟨i1,i2,i3⟩:=takeL_val d ((c+d*ys.headD 0) / 4294967296) (if u<(c+d*ys.headD 0) % 4294967296+w then 1 else 0) r ys.tail hd a2 (okW_tail hy) (by omega) (by omega) hb.1 hb.2 (by simp at hl ⊢;omega);refine⟨?_,i2,i3⟩;have e:=val_head_tail ys;have e':d*val ys=d*ys.headD 0+4294967296*(d*val ys.tail):=by
   rw[e,Int.mul_add,<- Int.mul_assoc d 4294967296,Int.mul_comm d 4294967296,Int.mul_assoc]
  simp only [takeL,takeE,val,List.length_cons,Int.pow_succ];rw[e'];generalize (takeE d ((c+d*ys.headD 0) / 4294967296) (if u<(c+d*ys.headD 0) % 4294967296+w then 1 else 0) r ys.tail).1+(takeE d ((c+d*ys.headD 0) / 4294967296) (if u<(c+d*ys.headD 0) % 4294967296+w then 1 else 0) r ys.tail).2=C at *;generalize val (takeL d ((c+d*ys.headD 0) / 4294967296) (if u<(c+d*ys.headD 0) % 4294967296+w then 1 else 0) r ys.tail)=V at *;rw[Int.mul_comm (4294967296 ^ r.length) 4294967296,Int.mul_assoc];generalize 4294967296 ^ r.length*C=M at *;generalize d*val ys.tail=W at *;generalize d*ys.headD 0=Q at *;split at i1 <;> omega
end Go.Abs

/-
 A PART OF THE PROOF of ClI (texts AbsD AbsE AbsF): the claim itself stands in the last text. No conditions beside those of the given row.
-/
import Derived.Test.YtjefeldkonejcaaGreatAbsA
import Derived.Laws.Pointers
import Derived.WalkSpells
import Derived.Laws.StructEq
import Derived.Laws.Slices
set_option linter.unusedVariables false
set_option linter.unnecessarySimpa false
set_option linter.unusedSimpArgs false
namespace Go.Abs
abbrev HL:=List Blk
def hget:HL->Nat->Blk
 | [],_=>.dead
 | b :: _,0=>b
 | _ :: r,n+1=>hget r n
def hset:HL->Nat->Blk->HL
 | [],0,b=>[b]
 | [],n+1,b=>.dead :: hset [] n b
 | _ :: r,0,b=>b :: r
 | x :: r,n+1,b=>x :: hset r n b
def hmap(H:HL):Hp:=fun i=>(hget H i).opt
theorem hmap_hset:∀ (H:HL) (l:Nat) (b:Blk),hmap (hset H l b)=(hmap H).set l b:=by
 have key:∀ (H:HL) (l i:Nat) (b:Blk),hget (hset H l b) i=if i=l then b else hget H i:=by
  intro H
  induction H with
  | nil =>
   intro l
   induction l with
   | zero=>intro i b;cases i <;> simp [hset,hget]
   | succ l ih =>
    intro i b;cases i with
    | zero=>simp [hset,hget]
    | succ i=>simp [hset,hget,ih]
  | cons x r ih =>
   intro l i b;cases l with
   | zero=>cases i <;> simp [hset,hget]
   | succ l=>cases i <;> simp [hset,hget,ih]
 intro H l b;funext i;simp only [hmap,Hp.set,key];split <;> rfl
theorem hmap_some{H:HL} {l:Nat} {b:Blk} (h:hget H l=b) (hb:b ≠ .dead):hmap H l=some b:=by
 unfold hmap;rw[h];cases b <;> simp_all [Blk.opt]
section
variable {ρ:Type}
def one? : SV->(Atom->Option ρ)->Option ρ
 | .v false [a],f=>f a
 | _,_=>none
theorem one?_ok {s:SV} {f:Atom->Option ρ} {r:ρ} (h:one? s f=some r):∃ a,s=.v false [a]/\f a=some r:=by
 unfold one? at h;split at h
 ·exact⟨_,rfl,h⟩
 ·contradiction
theorem one_val{N:NumSem} {G:Ghost} {κ:Kap} {a:Atom} {x:Value} (h:svR N G κ (.v false [a]) x):AR N G κ a [x]:=AsR.one_inv h
def opPick(c a b:SV) (K:SV->Option ρ):Option ρ:=
 one? c fun
  | .bool t=>match a,b with
   | .v false [.bool p],.v false [.bool q]=>K (.v false [.bool (bif t then p else q)])
   | _,_=>bif t then K a else K b
  | _=>none
def intBin(op:BinOp) (k:IntKind) (a b:Int) (K:Atom->Option ρ):Option ρ:=
 match op with
 | .add=>K (.int k (k.wrap (a+b)))
 | .sub=>K (.int k (k.wrap (a-b)))
 | .mul=>K (.int k (k.wrap (a*b)))
 | .quo=>if b=0 then none else K (.int k (k.wrap (a.tdiv b)))
 | .rem=>if b=0 then none else K (.int k (a.tmod b))
 | .and=>K (.int k (bits .and k a b))
 | .or=>K (.int k (bits .or k a b))
 | .xor=>K (.int k (bits .xor k a b))
 | .eql=>K (.bool (a==b))
 | .neq=>K (.bool (a != b))
 | .lss=>K (.bool (decide (a<b)))
 | .leq=>K (.bool (decide (a<=b)))
 | .gtr=>K (.bool (decide (b<a)))
 | .geq=>K (.bool (decide (b<=a)))
 | _=>none
def intShift(op:BinOp) (k:IntKind) (a b:Int) (K:Atom->Option ρ):Option ρ:=
 match op with
 | .shl=>if b<0 then none else K (.int k (k.wrap (a*2 ^ (min b.toNat k.bits))))
 | .shr=>if b<0 then none else K (.int k (a.fdiv (2 ^ (min b.toNat k.bits))))
 | _=>none
def isShift:BinOp->Bool
 | .shl | .shr=>true
 | _=>false
def isNilPtr:Atom->Option Bool
 | .nilp=>some true
 | .ptr .. | .eptr .. | .ip ..=>some false
 | .big 0 .nil=>some true
 | .big 0 (.node ..)=>some false
 | _=>none
def isNilSl:Atom->Option Bool
 | .nils=>some true
 | .sl (some b) _ _=>some b
 | .osl ..=>some false
 | .wsl ..=>some false
 | .asl ..=>some false
 | _=>none
def nilTest(op:BinOp) (n:Option Bool) (K:Atom->Option ρ):Option ρ:=
 match op,n with
 | .eql,some b=>K (.bool b)
 | .neq,some b=>K (.bool (!b))
 | _,_=>none
def eqInts:List Atom->List Atom->(Bool->Option ρ)->Option ρ
 | [.int .i64 a],[.int .i64 b],f=>f (a==b)
 | .int .i64 a :: as,.int .i64 b :: bs,f=>eqInts as bs fun r=>f (a==b&&r)
 | _,_,_=>none
abbrev EqTab:=List (Nat × Nat)
def EqOK(P:Program) (p:Nat × Nat):Prop:=
 ∀ (w:World) (xs ys:List Int) (hx:xs.length=p.2) (hy:ys.length=p.2) (op:BinOp) (x y:Operand),
  (eqGuard op p.1 x y (.agg (xs.map (Value.int .i64)).toArray) (.agg (ys.map (Value.int .i64)).toArray)).run P w=.ok () w /\
  (binOp .eql p.1 (.agg (xs.map (Value.int .i64)).toArray) (.agg (ys.map (Value.int .i64)).toArray)).run P w=.ok (.bool (xs==ys)) w /\
  (binOp .neq p.1 (.agg (xs.map (Value.int .i64)).toArray) (.agg (ys.map (Value.int .i64)).toArray)).run P w=.ok (.bool (!(xs==ys))) w
def efind:EqTab->Nat->(Nat->Option ρ)->Option ρ
 | [],_,_=>none
 | (k,n) :: r,t,f=>bif Nat.beq k t then f n else efind r t f
theorem efind_ok{P:Program}:∀ {E:EqTab} {t:Nat} {f:Nat->Option ρ} {r:ρ},(∀ p∈E,EqOK P p)->efind E t f=some r->∃ n,EqOK P (t,n)/\f n=some r
 | [],t,f,r,_,h=>by simp [efind]at h
 | (k,e) :: T,t,f,r,hT,h=>by
  simp only [efind]at h;cases hb:Nat.beq k t with
  | true =>
   rw[hb]at h;have hk:k=t:=Nat.eq_of_beq_eq_true hb;subst hk;exact⟨e,hT (k,e) (by simp),h⟩
  | false =>
   rw[hb]at h;exact efind_ok (fun p hp=>hT p (by simp [hp])) h
def opBin(T:Tab) (E:EqTab) (op:BinOp) (t:Nat) (x y:SV) (K:Atom->Option ρ):Option ρ:=
 match x,y with
 | .v false [.int k a],.v false [.int k' b]=>bif isShift op then intShift op k a b K else if k=k' then intBin op k a b K else none
 | .v false [.bool a],.v false [.bool b]=>tfind T t fun e=>match e.kind,op with
  | .bool,.eql=>K (.bool (a==b))
  | .bool,.neq=>K (.bool (a != b))
  | _,_=>none
 | .v false [a],.v false [.nilp]=>tfind T t fun e=>match e.kind with
  | .ptr=>nilTest op (isNilPtr a) K
  | _=>none
 | .v false [a],.v false [.nils]=>tfind T t fun e=>match e.kind with
  | .slice ..=>nilTest op (isNilSl a) K
  | _=>none
 | .v true as,.v true bs=>efind E t fun n=>bif Nat.beq as.length n&&Nat.beq bs.length n then eqInts as bs fun b=>(match op with
  | .eql=>K (.bool b)
  | .neq=>K (.bool (!b))
  | _=>none)else none
 | _,_=>none
def opUn(op:UnOp) (x:SV) (K:Atom->Option ρ):Option ρ:=
 one? x fun
  | .bool b=>(match op with | .not=>K (.bool (!b)) | _=>none)
  | .int k n=>(match op with
   | .neg=>K (.int k (k.wrap (0-n)))
   | .xor=>K (.int k (bits .xor k (if k.signed then -1 else k.max) n))
   | _=>none)
  | _=>none
end
section
variable {N:NumSem} {P:Program} {G:Ghost} {κ:Kap} {w:World} {ρ:Type}
theorem intBin_ok{op:BinOp} {k:IntKind} {a b:Int} {K:Atom->Option ρ} {r:ρ} (h:intBin op k a b K=some r) (t:Nat) :
  ∃ at_,K at_=some r /\ ∀ {N:NumSem} {P:Program} {G:Ghost} {κ:Kap} {w:World},∃ v,(binOp op t (.int k a) (.int k b)).run P w=.ok v w/\AR N G κ at_ [v]:=by
 unfold intBin at h;split at h
 case h_4 =>
  split at h
  ·contradiction
  ·rename_i hb;exact⟨_,h,⟨_,by rw[binOp_quo];simp [Op.intDiv,hb],rfl⟩⟩
 case h_5 =>
  split at h
  ·contradiction
  ·rename_i hb;exact⟨_,h,⟨_,by rw[binOp_rem];simp [Op.intDiv,hb],rfl⟩⟩
 all_goals first
  | contradiction
  | exact⟨_,h,⟨_,by simp [binOp_add,binOp_sub,binOp_mul,Op.intArith],rfl⟩⟩
  | exact⟨_,h,⟨_,by simp [binOp_and,binOp_or,binOp_xor,intBits_and,intBits_or,intBits_xor],rfl⟩⟩
  | exact⟨_,h,⟨.bool _,by simp [binOp_eql,binOp_neq,binOp_lss,binOp_leq,binOp_gtr,binOp_geq];try rfl,rfl⟩⟩
theorem intShift_ok{op:BinOp} {k k':IntKind} {a b:Int} {K:Atom->Option ρ} {r:ρ} (h:intShift op k a b K=some r) (t:Nat) :
  ∃ at_,K at_=some r /\ ∀ {N:NumSem} {P:Program} {G:Ghost} {κ:Kap} {w:World},∃ v,(binOp op t (.int k a) (.int k' b)).run P w=.ok v w/\AR N G κ at_ [v]:=by
 unfold intShift at h;split at h
 ·split at h
  ·contradiction
  ·rename_i hb;exact⟨_,h,⟨_,by rw[binOp_shl];simp [Op.shift,hb],rfl⟩⟩
 ·split at h
  ·contradiction
  ·rename_i hb;exact⟨_,h,⟨_,by rw[binOp_shr];simp [Op.shift,hb],rfl⟩⟩
 ·contradiction
theorem isNilPtr_ok{a:Atom} {b:Bool} {v:Value} (h:isNilPtr a=some b) (hv:AR N G κ a [v]):∃ p,v=.pointer p/\p.isNone=b:=by
 unfold isNilPtr at h;split at h <;> simp only [Option.some.injEq,reduceCtorEq]at h <;> subst h
 ·simp only [AR,List.cons.injEq,and_true]at hv;exact⟨_,hv,rfl⟩
 ·simp only [AR,List.cons.injEq,and_true]at hv;exact⟨_,hv,rfl⟩
 ·simp only [AR,List.cons.injEq,and_true]at hv;exact⟨_,hv,rfl⟩
 ·obtain⟨b,o,vs,hv,_⟩:=hv;simp only [List.cons.injEq,and_true]at hv;exact⟨_,hv,rfl⟩
 ·have hv:=N.big_nil' hv;simp only [List.cons.injEq,and_true]at hv;exact⟨_,hv,rfl⟩
 ·obtain⟨p,hv⟩:=N.big_node hv;simp only [List.cons.injEq,and_true]at hv;exact⟨_,hv,rfl⟩
theorem isNilSl_ok{a:Atom} {b:Bool} {v:Value} (h:isNilSl a=some b) (hv:AR N G κ a [v]):∃ p n c,v=.slice p n c/\p.isNone=b:=by
 unfold isNilSl at h;split at h <;> simp only [Option.some.injEq,reduceCtorEq]at h
 ·subst h;simp only [AR,List.cons.injEq,and_true]at hv;exact⟨_,_,_,hv,rfl⟩
 ·rename_i b' t xs;subst h;obtain⟨v',hv,hs,h1,h2⟩:=hv;simp only [List.cons.injEq,and_true]at hv;subst hv;cases b' with
  | true=>have:=h1 rfl;subst this;exact⟨_,_,_,rfl,rfl⟩
  | false =>
   rcases hs with ⟨hs,_⟩ | ⟨b,o,c,hs,_⟩
   ·exact absurd hs (h2 rfl)
   ·exact⟨_,_,_,hs,rfl⟩
 ·subst h;obtain⟨o,hv,_⟩:=hv;simp only [List.cons.injEq,and_true]at hv;exact⟨_,_,_,hv,rfl⟩
 ·subst h;simp only [AR,List.cons.injEq,and_true]at hv;exact⟨_,_,_,hv,rfl⟩
 ·subst h;simp only [AR,List.cons.injEq,and_true]at hv;exact⟨_,_,_,hv,rfl⟩
theorem eqInts_ok:∀ {as bs:List Atom} {f:Bool->Option ρ} {r:ρ},eqInts as bs f=some r ->
  ∃ xs ys:List Int,as=xs.map (Atom.int .i64)/\bs=ys.map (Atom.int .i64)/\f (xs==ys)=some r:=by
 intro as bs f
 induction as,bs,f using eqInts.induct with
 | case1 a b f =>
  intro r h;simp only [eqInts]at h;refine⟨[a],[b],rfl,rfl,?_⟩;have:([a] == [b])=(a==b):=by simp
  rw[this];exact h
 | case2 a as b bs f hn ih =>
  intro r h;rw[eqInts]at h
  ·obtain⟨xs,ys,e1,e2,hf⟩:=ih h;refine⟨a :: xs,b :: ys,by simp [e1],by simp [e2],?_⟩;have:(a :: xs==b :: ys)=(a==b&&(xs==ys)):=by simp
   rw[this];exact hf
  ·exact hn
 | case3 as bs f h1 h2 =>
  intro r h;rw[eqInts]at h
  ·contradiction
  ·exact h1
  ·exact h2
theorem AsR.ints:∀ {xs:List Int} {cs:List Value},AsR N G κ (xs.map (Atom.int .i64)) cs->cs=xs.map (Value.int .i64)
 | [],cs,h=>by simpa [AsR] using h
 | x :: xs,cs,h=>by
  obtain⟨c1,c2,e,h1,h2⟩:=h;simp only [AR]at h1;subst h1;subst e;rw[AsR.ints h2];rfl
theorem nilTest_ok{op:BinOp} {n:Option Bool} {K:Atom->Option ρ} {r:ρ} (h:nilTest op n K=some r) :
  ∃ b,n=some b/\((op=.eql/\K (.bool b)=some r)\/(op=.neq/\K (.bool (!b))=some r)):=by
 unfold nilTest at h;split at h
 ·exact⟨_,rfl,.inl ⟨rfl,h⟩⟩
 ·exact⟨_,rfl,.inr ⟨rfl,h⟩⟩
 ·contradiction
theorem equalIn_bool(d:Nat) {t:Nat} (h:P.underlying t=some .bool) (a b:Bool):(Op.equalIn (d+1) t (.bool a) (.bool b)).run P w=.ok (a==b) w:=by
 simp [Op.equalIn,run_underlying h]
theorem equalIn_ptr(d:Nat) {t el:Nat} (h:P.underlying t=some (.pointer el)) (p:Option Addr):(Op.equalIn (d+1) t (.pointer p) (.pointer none)).run P w=.ok p.isNone w:=by
 cases p <;> simp [Op.equalIn,run_underlying h]
theorem equalIn_slice(d:Nat) {t el:Nat} (h:P.underlying t=some (.slice el)) (p:Option Addr) (n c:Nat):(Op.equalIn (d+1) t (.slice p n c) (.slice none 0 0)).run P w=.ok p.isNone w:=by
 cases p <;> simp [Op.equalIn,run_underlying h]
theorem run_eql_of{t:Nat} {x y:Value} {b:Bool} (h:(Op.equalIn (9999+1) t x y).run P w=.ok b w) (hb:binOp .eql t x y=(do pure (.bool (<- Op.equal t x y)))) :
  (binOp .eql t x y).run P w=.ok (.bool b) w:=by
 have h':(Op.equal t x y).run P w=.ok b w:=h;rw[hb];simp only [Sem.run_bind,h',Result.andThen_ok,Sem.run_pure]
theorem run_neq_of{t:Nat} {x y:Value} {b:Bool} (h:(Op.equalIn (9999+1) t x y).run P w=.ok b w) (hb:binOp .neq t x y=(do pure (.bool (!(<- Op.equal t x y))))) :
  (binOp .neq t x y).run P w=.ok (.bool (!b)) w:=by
 have h':(Op.equal t x y).run P w=.ok b w:=h;rw[hb];simp only [Sem.run_bind,h',Result.andThen_ok,Sem.run_pure]
theorem opBin_ok{T:Tab} {E:EqTab} (hT:TabOk P T) (hE:∀ p∈E,EqOK P p) {op:BinOp} {t:Nat} {x y:SV} {K:Atom->Option ρ} {r:ρ} (h:opBin T E op t x y K=some r) :
  ∃ at_,K at_=some r /\ ∀ {N:NumSem} {G:Ghost} {κ:Kap} {w:World} {ox oy:Operand} {vx vy:Value},svR N G κ x vx->svR N G κ y vy ->
   ∃ v,(do eqGuard op t ox oy vx vy;binOp op t vx vy:Sem Value).run P w=.ok v w/\AR N G κ at_ [v]:=by
 unfold opBin at h;split at h
 ·
  rename_i k a k' b;have fin:∀ {at_:Atom},(∀ {N:NumSem} {P:Program} {G:Ghost} {κ:Kap} {w:World},∃ v,(binOp op t (.int k a) (.int k' b)).run P w=.ok v w/\AR N G κ at_ [v]) ->
    ∀ {N:NumSem} {G:Ghost} {κ:Kap} {w:World} {ox oy:Operand} {vx vy:Value},svR N G κ (.v false [.int k a]) vx->svR N G κ (.v false [.int k' b]) vy ->
   ∃ v,(do eqGuard op t ox oy vx vy;binOp op t vx vy:Sem Value).run P w=.ok v w/\AR N G κ at_ [v]:=by
   intro at_ hh N G κ w ox oy vx vy hx hy;have h1:=one_val hx;have h2:=one_val hy;simp only [AR,List.cons.injEq,and_true]at h1 h2;subst h1;subst h2;simp only [eqGuard_at_int,Sem.run_bind,Sem.run_pure,Result.andThen_ok];exact hh
  cases hs:isShift op with
  | true =>
   rw[hs]at h;obtain⟨at_,hk,hh⟩:=intShift_ok (k':=k') h t;exact⟨at_,hk,fin hh⟩
  | false =>
   rw[hs]at h;simp only [cond_false]at h;split at h
   ·rename_i hk;subst hk;obtain⟨at_,hk,hh⟩:=intBin_ok h t;exact⟨at_,hk,fin hh⟩
   ·contradiction
 ·
  rename_i a b;obtain⟨e,he,h⟩:=tfind_ok hT h;split at h
  ·rename_i hk _;have hkk:=te_kind he;rw[hk]at hkk;simp only [kindOk]at hkk;split at hkk
   ·rename_i hu;refine⟨_,h,fun{N G κ w ox oy vx vy} hx hy=>?_⟩;have h1:=one_val hx;have h2:=one_val hy;simp only [AR,List.cons.injEq,and_true]at h1 h2;subst h1;subst h2;simp only [eqGuard_at_bool,Sem.run_bind,Sem.run_pure,Result.andThen_ok];exact⟨.bool _,run_eql_of (equalIn_bool 9999 hu a b) rfl,rfl⟩
   ·contradiction
  ·rename_i hk _;have hkk:=te_kind he;rw[hk]at hkk;simp only [kindOk]at hkk;split at hkk
   ·rename_i hu;refine⟨_,h,fun{N G κ w ox oy vx vy} hx hy=>?_⟩;have h1:=one_val hx;have h2:=one_val hy;simp only [AR,List.cons.injEq,and_true]at h1 h2;subst h1;subst h2;simp only [eqGuard_at_bool,Sem.run_bind,Sem.run_pure,Result.andThen_ok];exact⟨.bool (a != b),run_neq_of (equalIn_bool 9999 hu a b) rfl,rfl⟩
   ·contradiction
  ·contradiction
 ·
  rename_i pa;obtain⟨e,he,h⟩:=tfind_ok hT h;split at h
  ·rename_i hk;have hkk:=te_kind he;rw[hk]at hkk;simp only [kindOk]at hkk;split at hkk
   ·rename_i el hu;obtain⟨b,hn,hh⟩:=nilTest_ok h;have fin:∀ {N:NumSem} {G:Ghost} {κ:Kap} {vx vy:Value},svR N G κ (.v false [pa]) vx->svR N G κ (.v false [.nilp]) vy->∃ p:Option Addr,vx=.pointer p/\vy=.pointer none/\p.isNone=b:=fun{N G κ vx vy} hx hy=>by
     have h1:=one_val hx;have h2:=one_val hy;obtain⟨p,hp,hpb⟩:=isNilPtr_ok hn h1;simp only [AR,List.cons.injEq,and_true]at h2;exact⟨p,hp,h2,hpb⟩
    rcases hh with ⟨rfl,hh⟩ | ⟨rfl,hh⟩
    ·refine⟨_,hh,fun{N G κ w ox oy vx vy} hx hy=>?_⟩;obtain⟨p,rfl,rfl,rfl⟩:=fin hx hy;simp only [eqGuard_at_pointer,Sem.run_bind,Sem.run_pure,Result.andThen_ok];exact⟨_,run_eql_of (equalIn_ptr 9999 hu p) rfl,rfl⟩
    ·refine⟨_,hh,fun{N G κ w ox oy vx vy} hx hy=>?_⟩;obtain⟨p,rfl,rfl,rfl⟩:=fin hx hy;simp only [eqGuard_at_pointer,Sem.run_bind,Sem.run_pure,Result.andThen_ok];exact⟨_,run_neq_of (equalIn_ptr 9999 hu p) rfl,rfl⟩
   ·contradiction
  ·contradiction
 ·
  rename_i pa;obtain⟨e,he,h⟩:=tfind_ok hT h;split at h
  ·rename_i hk;have hkk:=te_kind he;rw[hk]at hkk;simp only [kindOk]at hkk;split at hkk
   ·rename_i el hu;obtain⟨b,hn,hh⟩:=nilTest_ok h;have fin:∀ {N:NumSem} {G:Ghost} {κ:Kap} {vx vy:Value},svR N G κ (.v false [pa]) vx->svR N G κ (.v false [.nils]) vy->∃ (p:Option Addr) (n c:Nat),vx=.slice p n c/\vy=.slice none 0 0/\p.isNone=b:=fun{N G κ vx vy} hx hy=>by
     have h1:=one_val hx;have h2:=one_val hy;obtain⟨p,n,c,hp,hpb⟩:=isNilSl_ok hn h1;simp only [AR,List.cons.injEq,and_true]at h2;exact⟨p,n,c,hp,h2,hpb⟩
    rcases hh with ⟨rfl,hh⟩ | ⟨rfl,hh⟩
    ·refine⟨_,hh,fun{N G κ w ox oy vx vy} hx hy=>?_⟩;obtain⟨p,n,c,rfl,rfl,rfl⟩:=fin hx hy;simp only [eqGuard_at_slice,Sem.run_bind,Sem.run_pure,Result.andThen_ok];exact⟨_,run_eql_of (equalIn_slice 9999 hu p n c) rfl,rfl⟩
    ·refine⟨_,hh,fun{N G κ w ox oy vx vy} hx hy=>?_⟩;obtain⟨p,n,c,rfl,rfl,rfl⟩:=fin hx hy;simp only [eqGuard_at_slice,Sem.run_bind,Sem.run_pure,Result.andThen_ok];exact⟨_,run_neq_of (equalIn_slice 9999 hu p n c) rfl,rfl⟩
   ·contradiction
  ·contradiction
 ·
  rename_i as bs;obtain⟨n,hn,h⟩:=efind_ok hE h;cases hl:(Nat.beq as.length n&&Nat.beq bs.length n)with
  | false=>rw[hl]at h;contradiction
  | true =>
   rw[hl]at h;simp only [cond_true]at h;simp only [Bool.and_eq_true]at hl;obtain⟨xs,ys,rfl,rfl,hf⟩:=eqInts_ok h;have hxs:xs.length=n:=by simpa using Nat.eq_of_beq_eq_true hl.1
   have hys:ys.length=n:=by simpa using Nat.eq_of_beq_eq_true hl.2
   have fin:∀ {N:NumSem} {G:Ghost} {κ:Kap} {vx vy:Value},svR N G κ (.v true (xs.map (Atom.int .i64))) vx->svR N G κ (.v true (ys.map (Atom.int .i64))) vy ->
     vx=.agg (xs.map (Value.int .i64)).toArray/\vy=.agg (ys.map (Value.int .i64)).toArray:=fun{N G κ vx vy} hx hy=>by
    obtain⟨cs,hcs,hc⟩:=hx;obtain⟨ds,hds,hd⟩:=hy;have e1:=AsR.ints hc;have e2:=AsR.ints hd;exact⟨by rw[hcs,<- e1],by rw[hds,<- e2]⟩
   cases op <;> simp only [reduceCtorEq]at hf
   ·refine⟨_,hf,fun{N G κ w ox oy vx vy} hx hy=>?_⟩;obtain⟨rfl,rfl⟩:=fin hx hy;obtain⟨g1,g2,g3⟩:=hn w xs ys hxs hys .eql ox oy;refine⟨_,?_,rfl⟩;simp only at g1 g2 g3;simp only [Sem.run_bind,g1,Result.andThen_ok,g2]
   ·refine⟨_,hf,fun{N G κ w ox oy vx vy} hx hy=>?_⟩;obtain⟨rfl,rfl⟩:=fin hx hy;obtain⟨g1,g2,g3⟩:=hn w xs ys hxs hys .neq ox oy;refine⟨_,?_,rfl⟩;simp only at g1 g2 g3;simp only [Sem.run_bind,g1,Result.andThen_ok,g3]
 ·contradiction
end
end Go.Abs
namespace Go.Abs
section
variable {ρ:Type}
def one(a:Atom):SV:=.v false [a]
def subA(as:List Atom) (off n:Nat) (f:List Atom->Option ρ):Option ρ:=
 match dropW as off with
 | some bs=>(match takeW bs n with | some cs=>f cs | none=>none)
 | none=>none
theorem subA_ok{as:List Atom} {off n:Nat} {f:List Atom->Option ρ} {r:ρ} (h:subA as off n f=some r) :
  ∃ bs,f bs=some r /\ ∀ {N:NumSem} {G:Ghost} {κ:Kap} {cs:List Value},AsR N G κ as cs->AsR N G κ bs ((cs.drop off).take n)/\((cs.drop off).take n).length=n:=by
 unfold subA at h;split at h
 ·rename_i bs hd;split at h
  ·rename_i ds ht;refine⟨ds,h,fun hc=>?_⟩;obtain⟨h1,h2⟩:=dropW_ok hd hc;obtain⟨h3,h4⟩:=takeW_ok ht h2;refine⟨h4,?_⟩;simp at h3 ⊢;omega
  ·contradiction
 ·contradiction
def nth{α:Type} (xs:List α) (i:Nat) (f:α->Option ρ):Option ρ:=
 match xs[i]? with
 | some x=>f x
 | none=>none
theorem nth_ok{α:Type} {xs:List α} {i:Nat} {f:α->Option ρ} {r:ρ} (h:nth xs i f=some r):∃ x,xs[i]? = some x/\f x=some r:=by
 unfold nth at h;split at h
 ·exact⟨_,by assumption,h⟩
 ·contradiction
def idx{α:Type} (xs:List α) (i:Int) (f:α->Option ρ):Option ρ:=if 0<=i then nth xs i.toNat f else none
theorem idx_ok{α:Type} {xs:List α} {i:Int} {f:α->Option ρ} {r:ρ} (h:idx xs i f=some r):0<=i /\ ∃ x,xs[i.toNat]? = some x/\f x=some r:=by
 unfold idx at h;split at h
 ·exact⟨by assumption,nth_ok h⟩
 ·contradiction
def openW(H:HL) (a:Atom):Atom:=
 match a with
 | .wsl l w=>(match hget H l with
  | .arr _ _ xs _ _=>.osl l w 0 xs.length
  | _=>a)
 | _=>a
theorem openW_ok{N:NumSem} {G:Ghost} {κ:Kap} {H:HL} {hf:Hp} {w:World} (hH:∀ l b,hmap H l=some b->hf l=some b) (hr:Rel N G κ hf w) {a:Atom} {cs:List Value} (h:AR N G κ a cs) :
  AR N G κ (openW H a) cs:=by
 unfold openW;split
 ·rename_i l wd;split
  ·rename_i el t xs frz mv hl;obtain⟨c,hw,hsz,hle,hel,hfz⟩:=hr.blk l _ (hH l _ (hmap_some hl (by simp)));simp only [AR]at h;refine⟨0,?_,by simp,by omega,by omega⟩;rw[h,hle.1];simp
  ·exact h
 ·exact h
def opLoad(T:Tab) (H:HL) (t:Nat) (x:SV) (K:SV->Option ρ):Option ρ:=
 tfind T t fun e=>one? x fun
  | .ptr l off=>(match hget H l with
   | .var as=>bif isMk as then none else subA as off e.size fun cs=>K (.v e.agg cs)
   | _=>none)
  | .eptr l w i off=>(match hget H l with
   | .arr _ ty xs _ _=>bif Nat.beq ty.w w&&Nat.ble (off+e.size) w then nth xs i fun x=>subA (enc ty x) off e.size fun cs=>K (.v e.agg cs)else none
   | _=>none)
  | .ip ty x off=>subA (enc ty x) off e.size fun cs=>K (.v e.agg cs)
  | _=>none
theorem At.sub{G:Ghost} {b o:Nat} {vs:List Value} (h:At G b o vs) (off n:Nat):At G b (o+off) ((vs.drop off).take n):=by
 intro j v hj;have:=h (off+j) v (getElem?_take_drop vs off n j v hj)
 rwa [<- Nat.add_assoc]at this
theorem ld_ok{P:Program} {T:Tab} (hT:TabOk P T) {H:HL} {t:Nat} {sv:SV} {K:SV->Option ρ} {r:ρ} (h:opLoad T H t sv K=some r):∃ s,K s=some r /\
  ∀ {N:NumSem} {G:Ghost} {κ:Kap} {hf:Hp} {w:World} {v:Value},(∀ l b,hmap H l=some b->hf l=some b)->Rel N G κ hf w->svR N G κ sv v ->
   ∃ b off x,v=.pointer (some ⟨b,off,none⟩)/\(Instr.loadAt t v).run P w=.ok x w/\svR N G κ s x:=by
 unfold opLoad at h;obtain⟨e,he,h⟩:=tfind_ok hT h;obtain⟨a,ha,h2⟩:=one?_ok h;subst ha;clear h;have h:=h2;clear h2;have fin:∀ (bs:List Atom),K (.v e.agg bs)=some r->(∀ {N:NumSem} {G:Ghost} {κ:Kap} {hf:Hp} {w:World} {v:Value},(∀ l b,hmap H l=some b->hf l=some b)->Rel N G κ hf w ->
   svR N G κ (.v false [a]) v->∃ b off vs,v=.pointer (some ⟨b,off,none⟩)/\vs.length=e.size/\(∀ j v,vs[j]? = some v->w.cell? ⟨b,off+j,none⟩=some v)/\AsR N G κ bs vs) ->
   ∃ s,K s=some r /\ ∀ {N:NumSem} {G:Ghost} {κ:Kap} {hf:Hp} {w:World} {v:Value},(∀ l b,hmap H l=some b->hf l=some b)->Rel N G κ hf w->svR N G κ (.v false [a]) v ->
   ∃ b off x,v=.pointer (some ⟨b,off,none⟩)/\(Instr.loadAt t v).run P w=.ok x w/\svR N G κ s x:=by
  intro bs hk hb;refine⟨_,hk,fun{N G κ hf w v} hH hr hv=>?_⟩;obtain⟨b,off,vs,hp,hl,hc,has⟩:=hb hH hr hv;obtain⟨x,hrun,hx⟩:=run_loadVar he hl hc;exact⟨b,off,x,hp,by rw[hp];exact hrun,hx has⟩
 split at h
 ·
  rename_i l off h0;split at h
  ·rename_i as hl;cases hmk:isMk as with
   | true=>rw[hmk]at h;contradiction
   | false =>
   rw[hmk]at h;obtain⟨bs,hk,hs⟩:=subA_ok h;refine fin bs hk fun{N G κ hf w v} hH hr hev=>?_
   have h1:=one_val hev;simp only [AR,List.cons.injEq,and_true]at h1;obtain⟨cs,ty,hw,hcs⟩:=(hr.blk l _ (hH l _ (hmap_some hl (by simp)))).cells hmk;obtain⟨h2,h3⟩:=hs hcs;refine⟨_,_,_,h1,h3,fun j v hj=>?_,h2⟩;rw[cell_of_heap hw];have:=getElem?_take_drop _ _ _ _ _ hj
   simpa using this
  ·contradiction
 ·
  rename_i l wd i off h0;split at h
  ·rename_i el ty xs fr mv hl;cases hwd:(Nat.beq ty.w wd&&Nat.ble (off+e.size) wd)with
   | false=>rw[hwd]at h;contradiction
   | true =>
    rw[hwd]at h;simp only [cond_true]at h;simp only [Bool.and_eq_true]at hwd;have hw1:=Nat.eq_of_beq_eq_true hwd.1;obtain⟨x,hx,h⟩:=nth_ok h;obtain⟨bs,hk,hs⟩:=subA_ok h;refine fin bs hk fun{N G κ hf w v} hH hr hev=>?_
    have h1:=one_val hev;simp only [AR,List.cons.injEq,and_true]at h1;obtain⟨cs,hw,hsz,hle,hel,hfz⟩:=hr.blk l _ (hH l _ (hmap_some hl (by simp)));obtain⟨vs,hd,hv⟩:=hel i x hx;obtain⟨h2,h3⟩:=hs (enc_ok hd);refine⟨_,_,_,h1,h3,fun j v hj=>?_,h2⟩;rw[cell_of_heap hw];have:=hv _ _ (getElem?_take_drop _ _ _ _ _ hj);rw[<- hw1,Nat.add_assoc]
    simpa using this
  ·contradiction
 ·
  rename_i ty x off h0;obtain⟨bs,hk,hs⟩:=subA_ok h;refine fin bs hk fun{N G κ hf w v} hH hr hev=>?_
  obtain⟨b,o',vs,h1,hd,hat⟩:=one_val hev;simp only [List.cons.injEq,and_true]at h1;obtain⟨h2,h3⟩:=hs (enc_ok hd);exact⟨_,_,_,h1,h3,fun j v hj=>hr.ghost _ _ _ (hat.sub off e.size j v hj),h2⟩
 ·contradiction
theorem opLoad_ok{N:NumSem} {P:Program} {T:Tab} (hT:TabOk P T) {H:HL} {nid:Nat} {ev:Operand->SV} {o:Oper} {t:Nat} {ax:Operand} (ho:o.op=.load t ax)
  {K:SV->Option ρ} {r:ρ} (h:opLoad T H t (ev ax) K=some r):∃ s,K s=some r/\OpOK N P (hmap H) nid ev o { val:=s }:=by
 obtain⟨s,hk,hs⟩:=ld_ok hT h;refine⟨s,hk,OpOK.pure fun{G κ hf w ac} hH hr hev=>?_⟩;obtain⟨b,off,x,_,hrun,hx⟩:=hs hH hr (hev ax);exact⟨x,by simp only [execOp,ho,Sem.run_bind,hrun,Result.andThen_ok,Sem.run_pure],hx⟩
def fieldOff:List (Nat × Nat)->Nat->(Nat->Option ρ)->Option ρ
 | [],_,_=>none
 | p :: _,0,f=>f p.1
 | _ :: ps,n+1,f=>fieldOff ps n f
theorem fieldOff_ok{P:Program}:∀ {ps:List (Nat × Nat)} {n:Nat} {f:Nat->Option ρ} {r:ρ},fieldOff ps n f=some r->∀ {fs:List Field},fieldsOk P ps fs=true ->
  ∃ fd,fs[n]? = some fd/\f fd.offset=some r /\ ∀ w,∃ s,(sizeOf fd.type).run P w=.ok s w/\s≠0
 | [],n,f,r,h,_,_=>by simp [fieldOff]at h
 | p :: ps,0,f,r,h,[],hf=>by simp [fieldsOk]at hf
 | p :: ps,0,f,r,h,fd :: fs,hf=>by
  simp only [fieldsOk,Bool.and_eq_true,Bool.not_eq_true',fieldOff]at hf h;obtain⟨⟨⟨h1,h2⟩,h3⟩,h4⟩:=hf;have e1:=Nat.eq_of_beq_eq_true h1;refine⟨fd,rfl,by rw[e1];exact h,fun w=>?_⟩;cases hi:P.info? fd.type with
  | none=>simp [hi]at h2
  | some i =>
   simp only [hi]at h2;have e2:=Nat.eq_of_beq_eq_true h2;refine⟨i.size,by simp [sizeOf,typeInfo,hi],?_⟩;intro hz;rw[<- e2,hz]at h3;simp at h3
 | p :: ps,n+1,f,r,h,[],hf=>by simp [fieldsOk]at hf
 | p :: ps,n+1,f,r,h,fd :: fs,hf=>by
  simp only [fieldsOk,Bool.and_eq_true,fieldOff]at hf h;exact fieldOff_ok h hf.2
def ptrAdd(n:Nat):Atom->Option Atom
 | .ptr l off=>some (.ptr l (off+n))
 | .eptr l w i off=>some (.eptr l w i (off+n))
 | .ip t x off=>some (.ip t x (off+n))
 | _=>none
theorem ptrAdd_ok{N:NumSem} {G:Ghost} {κ:Kap} {n:Nat} {a b:Atom} {v:Value} (h:ptrAdd n a=some b) (hv:AR N G κ a [v]) :
  ∃ bl off,v=.pointer (some ⟨bl,off,none⟩)/\AR N G κ b [.pointer (some ⟨bl,off+n,none⟩)]:=by
 unfold ptrAdd at h;split at h <;> simp only [Option.some.injEq,reduceCtorEq]at h <;> subst h
 ·simp only [AR,List.cons.injEq,and_true]at hv;exact⟨_,_,hv,rfl⟩
 ·simp only [AR,List.cons.injEq,and_true]at hv;exact⟨_,_,hv,by simp [AR,Nat.add_assoc]⟩
 ·obtain⟨b,o,vs,h1,h2,h3⟩:=hv;simp only [List.cons.injEq,and_true]at h1;exact⟨_,_,h1,b,o,vs,by simp [Nat.add_assoc],h2,h3⟩
def opField(T:Tab) (t:Nat) (x:SV) (f:Nat) (K:SV->Option ρ):Option ρ:=
 tfind T t fun e=>(match e.kind with
  | .struct fs=>one? x fun a=>fieldOff fs f fun n=>(match ptrAdd n a with | some b=>K (one b) | none=>none)
  | _=>none)
theorem opField_ok{N:NumSem} {P:Program} {T:Tab} (hT:TabOk P T) {H:Hp} {nid:Nat} {ev:Operand->SV} {o:Oper} {t f:Nat} {ax:Operand} (ho:o.op=.fieldAddr t ax f)
  {K:SV->Option ρ} {r:ρ} (h:opField T t (ev ax) f K=some r):∃ s,K s=some r/\OpOK N P H nid ev o { val:=s }:=by
 unfold opField at h;obtain⟨e,he,h⟩:=tfind_ok hT h;split at h
 ·rename_i fs hk;have hkk:=te_kind he;rw[hk]at hkk;simp only [kindOk]at hkk;split at hkk
  ·rename_i gs hu;obtain⟨a,ha,h⟩:=one?_ok h;obtain⟨fd,hfd,h,hsz⟩:=fieldOff_ok h hkk;split at h
   ·rename_i b hb;refine⟨_,h,OpOK.pure fun{G κ hf w ac} hH hr hev=>?_⟩;have h1:=hev ax;rw[ha]at h1;obtain⟨bl,off,hv,hab⟩:=ptrAdd_ok hb (one_val h1);obtain⟨s,hs,hs0⟩:=hsz w;refine⟨_,?_,AsR.one hab⟩;have hfd':gs[f]? = some fd:=by simpa using hfd
    have hadd:(⟨bl,off,none⟩:Addr).add fd.offset=⟨bl,off+fd.offset,none⟩:=Addr.add_lit _ _ _;simp [execOp,ho,hv,Instr.fieldAt,run_underlying hu,hfd',Instr.sureAddr,fieldPlace,hs,hs0,hadd]
   ·contradiction
  ·contradiction
 ·contradiction
def opNil(x:SV) (K:SV->Option ρ):Option ρ:=
 one? x fun a=>(match isNilPtr a with | some false=>K (one a) | _=>none)
theorem opNil_ok{N:NumSem} {P:Program} {H:Hp} {nid:Nat} {ev:Operand->SV} {o:Oper} {ax:Operand} (ho:o.op=.nilCheck ax)
  {K:SV->Option ρ} {r:ρ} (h:opNil (ev ax) K=some r):∃ s,K s=some r/\OpOK N P H nid ev o { val:=s }:=by
 unfold opNil at h;obtain⟨a,ha,h⟩:=one?_ok h;split at h
 ·rename_i hn;refine⟨_,h,OpOK.pure fun{G κ hf w ac} hH hr hev=>?_⟩;have h1:=hev ax;rw[ha]at h1;obtain⟨p,hp,hpn⟩:=isNilPtr_ok hn (one_val h1);cases p with
  | none=>simp at hpn
  | some p=>exact⟨_,by simp [execOp,ho,hp],hp ▸ h1⟩
 ·contradiction
def opIndex(T:Tab) (H:HL) (t:Nat) (x i:SV) (K:SV->Option ρ):Option ρ:=
 tfind T t fun e=>one? i fun
  | .int k n=>(match e.kind with
   | .slice _ _ ty=>one? x fun a=>(match openW H a with
    | .sl _ t' xs=>bif Nat.beq ty.w t'.w then idx xs n fun x=>K (one (.ip t' x 0))else none
    | .osl l w off len=>bif Nat.beq ty.w w then if 0<=n/\n<len then K (one (.eptr l w (off+n.toNat) 0))else none else none
    | _=>none)
   | .array len es=>one? x fun a=>if 0<=n/\n<len then(match ptrAdd (n.toNat*es) a with | some b=>K (one b) | none=>none)else none
   | _=>none)
  | _=>none
theorem opIndex_ok{N:NumSem} {P:Program} {T:Tab} (hT:TabOk P T) {H:HL} {nid:Nat} {ev:Operand->SV} {o:Oper} {t:Nat} {ax ai:Operand} (ho:o.op=.indexAddr t ax ai)
  {K:SV->Option ρ} {r:ρ} (h:opIndex T H t (ev ax) (ev ai) K=some r):∃ s,K s=some r/\OpOK N P (hmap H) nid ev o { val:=s }:=by
 unfold opIndex at h;obtain⟨e,he,h⟩:=tfind_ok hT h;obtain⟨ia,hia,h⟩:=one?_ok h;have hkk:=te_kind he;split at h
 ·rename_i k n;split at h
  ·rename_i el by' ty hk
   rw[hk]at hkk;simp only [kindOk]at hkk;split at hkk
   ·rename_i el' hu;simp only [Bool.and_eq_true]at hkk;obtain⟨hel,hinfo⟩:=hkk;have hel:=Nat.eq_of_beq_eq_true hel;subst hel;have hsz:∀ w,(sizeOf el').run P w=.ok ty.w w:=fun w=>by
     cases hi:P.info? el' with
     | none=>simp [hi]at hinfo
     | some i =>
      simp only [hi,Bool.and_eq_true]at hinfo;simp [sizeOf,typeInfo,hi,Nat.eq_of_beq_eq_true hinfo.1.1.1.1]
    obtain⟨a,ha,h⟩:=one?_ok h;split at h
    ·rename_i nil t' xs hop;cases hb:Nat.beq ty.w t'.w with
     | false=>rw[hb]at h;contradiction
     | true =>
      rw[hb]at h;have hb:=Nat.eq_of_beq_eq_true hb;obtain⟨h0,x,hx,h⟩:=idx_ok h;refine⟨_,h,OpOK.pure fun{G κ hf w ac} hH hr hev=>?_⟩;have h1:=hev ax;rw[ha]at h1;have h2:=hev ai;rw[hia]at h2;have h2:=one_val h2;simp only [AR,List.cons.injEq,and_true]at h2;have h1:=openW_ok hH hr (one_val h1);rw[hop]at h1;obtain⟨v,hv,hs,_⟩:=h1;simp only [List.cons.injEq,and_true]at hv;rcases hs with ⟨_,hs⟩ | ⟨b,o',c,hs,hle,hel⟩
      ·subst hs;simp at hx
      ·obtain⟨vs,hd,hl,hat⟩:=hel _ _ hx;have hlt:n.toNat<xs.length:=(List.getElem?_eq_some_iff.1 hx).1;refine⟨.pointer (some ⟨b,o'+n.toNat*t'.w,none⟩),?_,AsR.one ⟨b,o'+n.toNat*t'.w,vs,by simp,hd,hat⟩⟩;have hadd:(⟨b,o',none⟩:Addr).add (n.toNat*t'.w)=⟨b,o'+n.toNat*t'.w,none⟩:=Addr.add_lit _ _ _;have hc:0<=n/\n<(xs.length:Int):=by omega
       have hty:(match TypeDesc.slice el' with | .array ..=>true | _=>false)=false:=rfl;simp only [execOp,ho,hv,hs,h2,Instr.indexAt,asIntOf,Sem.run_bind,Sem.run_pure,Result.andThen_ok,run_underlying hu,if_pos hc,hsz,hb,hadd]
    ·rename_i l wd off len hop;cases hb:Nat.beq ty.w wd with
     | false=>rw[hb]at h;contradiction
     | true =>
      rw[hb]at h;have hb:=Nat.eq_of_beq_eq_true hb;simp only [cond_true]at h;split at h
      ·rename_i hc;refine⟨_,h,OpOK.pure fun{G κ hf w ac} hH hr hev=>?_⟩;have h1:=hev ax;rw[ha]at h1;have h2:=hev ai;rw[hia]at h2;have h2:=one_val h2;simp only [AR,List.cons.injEq,and_true]at h2;have h1:=openW_ok hH hr (one_val h1);rw[hop]at h1;obtain⟨o',hv,hoff,hle⟩:=h1;simp only [List.cons.injEq,and_true]at hv;have ho':=hoff (by omega);subst ho';refine⟨.pointer (some ⟨(κ l).1,off*wd+n.toNat*wd,none⟩),?_,AsR.one (by simp [AR,Nat.add_mul])⟩;have hadd:(⟨(κ l).1,off*wd,none⟩:Addr).add (n.toNat*wd)=⟨(κ l).1,off*wd+n.toNat*wd,none⟩:=Addr.add_lit _ _ _;simp only [execOp,ho,hv,h2,Instr.indexAt,asIntOf,Sem.run_bind,Sem.run_pure,Result.andThen_ok,run_underlying hu,if_pos hc,hsz,hb,hadd]
      ·contradiction
    ·contradiction
   ·contradiction
  ·rename_i len es hk;rw[hk]at hkk;simp only [kindOk]at hkk;split at hkk
   ·rename_i len' el hu;simp only [Bool.and_eq_true]at hkk;obtain⟨hlen,hinfo⟩:=hkk;have hlen:=Nat.eq_of_beq_eq_true hlen;subst hlen;have hsz:∀ w,(sizeOf el).run P w=.ok es w:=fun w=>by
     cases hi:P.info? el with
     | none=>simp [hi]at hinfo
     | some i =>
      simp only [hi]at hinfo;simp [sizeOf,typeInfo,hi,Nat.eq_of_beq_eq_true hinfo]
    obtain⟨a,ha,h⟩:=one?_ok h;split at h
    ·rename_i hc;split at h
     ·rename_i b hb;refine⟨_,h,OpOK.pure fun{G κ hf w ac} hH hr hev=>?_⟩;have h1:=hev ax;rw[ha]at h1;have h2:=hev ai;rw[hia]at h2;have h2:=one_val h2;simp only [AR,List.cons.injEq,and_true]at h2;obtain⟨bl,off,hv,hab⟩:=ptrAdd_ok hb (one_val h1);refine⟨_,?_,AsR.one hab⟩;have hadd:(⟨bl,off,none⟩:Addr).add (n.toNat*es)=⟨bl,off+n.toNat*es,none⟩:=Addr.add_lit _ _ _;simp only [execOp,ho,hv,h2,Instr.indexAt,Instr.sureAddr,asIntOf,Sem.run_bind,Sem.run_pure,Result.andThen_ok,run_underlying hu,if_pos hc,hsz,hadd]
     ·contradiction
    ·contradiction
   ·contradiction
  ·contradiction
 ·contradiction
end
end Go.Abs
namespace Go.Abs
section
variable {ρ:Type}
def bound(d:Int):Option SV->(Int->Option ρ)->Option ρ
 | none,f=>f d
 | some s,f=>one? s fun | .int _ n=>f n | _=>none
theorem bound_ok{N:NumSem} {G:Ghost} {κ:Kap} {d:Int} {s:Option SV} {f:Int->Option ρ} {r:ρ} (h:bound d s f=some r) :
  ∃ n,f n=some r/\((s=none/\n=d) \/ ∃ s' k,s=some s'/\s'=.v false [.int k n]):=by
 cases s with
 | none=>exact⟨d,h,.inl ⟨rfl,rfl⟩⟩
 | some s =>
  simp only [bound]at h;obtain⟨a,ha,h⟩:=one?_ok h;split at h
  ·exact⟨_,h,.inr ⟨s,_,rfl,ha⟩⟩
  ·contradiction
def cut{α:Type} (xs:List α) (l h:Int):List α:=(xs.take h.toNat).drop l.toNat
def opSlice(T:Tab) (H:HL) (t:Nat) (x:SV) (lo hi:Option SV) (K:SV->Option ρ):Option ρ:=
 tfind T t fun e=>(match e.kind with
  | .slice _ _ ty=>one? x fun a=>(match openW H a with
   | .sl nil t' xs=>bif Nat.beq ty.w t'.w then bound 0 lo fun l=>bound xs.length hi fun h =>
     if 0<=l/\l<=h/\h<=xs.length then K (one (.sl nil t' (cut xs l h)))else none else none
   | .osl b w off len=>bif Nat.beq ty.w w then bound 0 lo fun l=>bound len hi fun h =>
     if 0<=l/\l<=h/\h<=len then K (one (.osl b w (off+l.toNat) (h.toNat-l.toNat)))else none else none
   | _=>none)
  | _=>none)
theorem sliceBounds_ok{P:Program} {w:World} {N:NumSem} {G:Ghost} {κ:Kap} {len cap:Nat} {lo hi:Option SV} {vlo vhi:Option Value} {l h:Int}
  (hlo:(lo=none/\vlo=none/\l=0) \/ ∃ k,vlo=some (.int k l)) (hhi:(hi=none/\vhi=none/\h=len) \/ ∃ k,vhi=some (.int k h))
  (h0:0<=l) (h1:l<=h) (h2:h<=len) (hc:len<=cap) :
  (Instr.sliceBounds true len cap vlo vhi none).run P w=.ok (l.toNat,h.toNat,cap) w:=by
 have eh:(h.toNat:Int)=h:=Int.toNat_of_nonneg (by omega);rcases hlo with ⟨_,rfl,rfl⟩ | ⟨k,rfl⟩ <;> rcases hhi with ⟨_,rfl,rfl⟩ | ⟨k',rfl⟩
 ·simp [Instr.sliceBounds]
 ·simp [Instr.sliceBounds,run_sliceBound,(by omega:0<=h),(by omega:h<=cap)]
 ·simp [Instr.sliceBounds,run_sliceBound,h0,(by omega:l<=(len:Int))]
 ·simp [Instr.sliceBounds,run_sliceBound,h0,(by omega:0<=h),(by omega:h<=cap),eh,h1]
theorem opSlice_ok{N:NumSem} {P:Program} {T:Tab} (hT:TabOk P T) {H:HL} {nid:Nat} {ev:Operand->SV} {o:Oper} {t:Nat} {ax:Operand} {lo hi:Option Operand} (ho:o.op=.slice t ax lo hi none)
  {K:SV->Option ρ} {r:ρ} (h:opSlice T H t (ev ax) (lo.map ev) (hi.map ev) K=some r):∃ s,K s=some r/\OpOK N P (hmap H) nid ev o { val:=s }:=by
 unfold opSlice at h;obtain⟨e,he,h⟩:=tfind_ok hT h;have hkk:=te_kind he;split at h
 ·rename_i el by' ty hk
  rw[hk]at hkk;simp only [kindOk]at hkk;split at hkk
  ·rename_i el' hu;simp only [Bool.and_eq_true]at hkk;obtain⟨hel,hinfo⟩:=hkk;have hel:=Nat.eq_of_beq_eq_true hel;subst hel;have hsz:∀ w,(sizeOf el').run P w=.ok ty.w w:=fun w=>by
    cases hi:P.info? el' with
    | none=>simp [hi]at hinfo
    | some i =>
     simp only [hi,Bool.and_eq_true]at hinfo;simp [sizeOf,typeInfo,hi,Nat.eq_of_beq_eq_true hinfo.1.1.1.1]
   obtain⟨a,ha,h⟩:=one?_ok h;have opnd:∀ {N:NumSem} {G:Ghost} {κ:Kap} {ac:Act} (hev:∀ x,svR N G κ (ev x) (ac.eval x)) (q:Option Operand) (d n:Int),
     ((q.map ev=none/\n=d) \/ ∃ s' k,q.map ev=some s'/\s'=.v false [.int k n])->(q.map ev=none/\q.map ac.eval=none/\n=d) \/ ∃ k,q.map ac.eval=some (.int k n):=by
    intro N G κ ac hev q d n hq;cases q with
    | none =>
     rcases hq with ⟨_,hq⟩ | ⟨s',k,hq,_⟩
     ·exact .inl ⟨rfl,rfl,hq⟩
     ·cases hq
    | some q =>
     rcases hq with ⟨hq,_⟩ | ⟨s',k,hq,hs⟩
     ·cases hq
     ·simp only [Option.map_some,Option.some.injEq]at hq;have h1:=hev q;rw[hq,hs]at h1;have h1:=one_val h1;simp only [AR,List.cons.injEq,and_true]at h1;exact .inr ⟨k,by simp [h1]⟩
   split at h
   ·rename_i nil t' xs hop;cases hb:Nat.beq ty.w t'.w with
    | false=>rw[hb]at h;contradiction
    | true =>
     rw[hb]at h;have hb:=Nat.eq_of_beq_eq_true hb;simp only [cond_true]at h;obtain⟨l,h,hl⟩:=bound_ok (N:=N) (G:=fun _ _=>none) (κ:=fun _=>(0,0,0)) h;obtain⟨hh,h,hhh⟩:=bound_ok (N:=N) (G:=fun _ _=>none) (κ:=fun _=>(0,0,0)) h;split at h
     ·rename_i hc;refine⟨_,h,OpOK.pure fun{G κ hf w ac} hH hr hev=>?_⟩;have h1:=hev ax;rw[ha]at h1;have h1:=openW_ok hH hr (one_val h1);rw[hop]at h1;obtain⟨v,hv,hs,hn1,hn2⟩:=h1;simp only [List.cons.injEq,and_true]at hv;have hlo:=opnd hev lo 0 l hl;have hhi:=opnd hev hi _ hh hhh;rcases hs with ⟨hs,hx⟩ | ⟨b,o',c,hs,hle,hel⟩
      ·subst hx;simp only [List.length_nil,Int.ofNat_eq_natCast]at hc hhi;have e1:l=0:=by omega
       have e2:hh=0:=by omega
       have hsb:=sliceBounds_ok (P:=P) (w:=w) (N:=N) (G:=G) (κ:=κ) (len:=0) (cap:=0) hlo hhi hc.1 hc.2.1 (by omega) (Nat.le_refl _);subst e1;subst e2;refine⟨.slice none 0 0,?_,AsR.one ⟨_,rfl,.inl ⟨rfl,by simp [cut]⟩,fun e=>rfl,fun e=>?_⟩⟩
       ·simp only [execOp,ho,hv,hs,Option.map_none,Instr.sliceAt,Instr.slice,Sem.run_bind,Sem.run_pure,Result.andThen_ok,run_underlying hu,hsb,hsz];simp
       ·exact absurd hs (hn2 e)
      ·have hsb:=sliceBounds_ok (P:=P) (w:=w) (N:=N) (G:=G) (κ:=κ) (len:=xs.length) (cap:=c) hlo hhi hc.1 hc.2.1 (by omega) hle;have hlen:(cut xs l hh).length=hh.toNat-l.toNat:=by simp [cut];omega
       refine⟨.slice (if c=l.toNat then some ⟨b,o',none⟩else some ⟨b,o'+l.toNat*t'.w,none⟩) (hh.toNat-l.toNat) (c-l.toNat),?_,AsR.one ⟨_,rfl,.inr ?_,fun e=>?_,fun e=>?_⟩⟩
       ·have hadd:(⟨b,o',none⟩:Addr).add (l.toNat*t'.w)=⟨b,o'+l.toNat*t'.w,none⟩:=Addr.add_lit _ _ _;simp only [execOp,ho,hv,hs,Option.map_none,Instr.sliceAt,Instr.slice,Sem.run_bind,Sem.run_pure,Result.andThen_ok,run_underlying hu,hsb,hsz,hb];simp only [Option.map_some,hadd]
       ·by_cases hcl:c=l.toNat
        ·refine⟨b,o',c-l.toNat,by rw[if_pos hcl,hlen],by omega,fun i x hi=>?_⟩;have:=(List.getElem?_eq_some_iff.1 hi).1;omega
        ·refine⟨b,o'+l.toNat*t'.w,c-l.toNat,by rw[if_neg hcl,hlen],by omega,fun i x hi=>?_⟩;have hi':xs[l.toNat+i]? = some x:=by
          simp only [cut,List.getElem?_drop,List.getElem?_take]at hi;split at hi
          ·exact hi
          ·contradiction
         obtain⟨vs,h3,h4,h5⟩:=hel _ _ hi';refine⟨vs,h3,h4,?_⟩;rw[Nat.add_mul,<- Nat.add_assoc]at h5;exact h5
       ·have:=hn1 e;rw[hs]at this;cases this
       ·intro e';split at e' <;> cases e'
     ·contradiction
   ·rename_i bl wd off len hop;cases hb:Nat.beq ty.w wd with
    | false=>rw[hb]at h;contradiction
    | true =>
     rw[hb]at h;have hb:=Nat.eq_of_beq_eq_true hb;simp only [cond_true]at h;obtain⟨l,h,hl⟩:=bound_ok (N:=N) (G:=fun _ _=>none) (κ:=fun _=>(0,0,0)) h;obtain⟨hh,h,hhh⟩:=bound_ok (N:=N) (G:=fun _ _=>none) (κ:=fun _=>(0,0,0)) h;split at h
     ·rename_i hc;refine⟨_,h,OpOK.pure fun{G κ hf w ac} hH hr hev=>?_⟩;have h1:=hev ax;rw[ha]at h1;have h1:=openW_ok hH hr (one_val h1);rw[hop]at h1;obtain⟨o',hv,hoff,hle⟩:=h1;simp only [List.cons.injEq,and_true]at hv;have hlo:=opnd hev lo 0 l hl;have hhi:=opnd hev hi _ hh hhh;have hsb:=sliceBounds_ok (P:=P) (w:=w) (N:=N) (G:=G) (κ:=κ) (len:=len) (cap:=(κ bl).2.1-off) hlo hhi hc.1 hc.2.1 (by omega) (by omega);refine⟨.slice (if(κ bl).2.1-off=l.toNat then some ⟨(κ bl).1,o',none⟩else some ⟨(κ bl).1,o'+l.toNat*wd,none⟩) (hh.toNat-l.toNat) ((κ bl).2.1-off-l.toNat),?_,AsR.one ?_⟩
      ·have hadd:(⟨(κ bl).1,o',none⟩:Addr).add (l.toNat*wd)=⟨(κ bl).1,o'+l.toNat*wd,none⟩:=Addr.add_lit _ _ _;simp only [execOp,ho,hv,Option.map_none,Instr.sliceAt,Instr.slice,Sem.run_bind,Sem.run_pure,Result.andThen_ok,run_underlying hu,hsb,hsz,hb];simp only [Option.map_some,hadd]
      ·by_cases hcl:(κ bl).2.1-off=l.toNat
       ·refine⟨o',by rw[if_pos hcl,Nat.sub_sub],fun hlt=>?_,by omega⟩;have e1:off=0:=by omega
        have e2:l.toNat=0:=by omega
        have e3:=hoff (by omega);rw[e3,e1,e2]
       ·refine⟨o'+l.toNat*wd,by rw[if_neg hcl,Nat.sub_sub],fun hlt=>by rw[hoff (by omega),Nat.add_mul],by omega⟩
     ·contradiction
   ·contradiction
  ·contradiction
 ·contradiction
def opConv(T:Tab) (src dst:Nat) (x:SV) (K:SV->Option ρ):Option ρ:=
 tfind T src fun _=>tfind T dst fun e=>one? x fun
  | .int _ n=>(match e.kind with | .int k=>K (one (.int k (k.wrap n))) | _=>none)
  | _=>none
theorem te_some{P:Program} {t:Nat} {e:TE} (h:teOk P t e=true):∃ d,P.underlying t=some d:=by
 simp only [teOk,Bool.and_eq_true]at h;obtain⟨⟨⟨_,h⟩,_⟩,_⟩:=h;unfold aggOk at h;cases hu:P.underlying t with
 | none=>simp [hu]at h
 | some d=>exact⟨d,rfl⟩
theorem opConv_ok{N:NumSem} {P:Program} {T:Tab} (hT:TabOk P T) {H:Hp} {nid:Nat} {ev:Operand->SV} {o:Oper} {src dst:Nat} {ax:Operand} (ho:o.op=.convert src dst ax)
  {K:SV->Option ρ} {r:ρ} (h:opConv T src dst (ev ax) K=some r):∃ s,K s=some r/\OpOK N P H nid ev o { val:=s }:=by
 unfold opConv at h;obtain⟨e0,he0,h⟩:=tfind_ok hT h;obtain⟨e,he,h⟩:=tfind_ok hT h;obtain⟨a,ha,h⟩:=one?_ok h;obtain⟨d0,hd0⟩:=te_some he0;split at h
 ·rename_i k0 n;have hkk:=te_kind he;split at h
  ·rename_i k hk;rw[hk]at hkk;simp only [kindOk]at hkk;split at hkk
   ·rename_i k' hu;have hkk:=of_decide_eq_true hkk;subst hkk;refine⟨_,h,OpOK.pure fun{G κ hf w ac} hH hr hev=>?_⟩;have h1:=hev ax;rw[ha]at h1;have h1:=one_val h1;simp only [AR,List.cons.injEq,and_true]at h1;exact⟨.int k' (k'.wrap n),by simp [execOp,ho,h1,convert,run_underlying hd0,run_underlying hu,Conv.intToInt],AsR.one rfl⟩
   ·contradiction
  ·contradiction
 ·contradiction
theorem opUn_ok{N:NumSem} {P:Program} {H:Hp} {nid:Nat} {ev:Operand->SV} {o:Oper} {op:UnOp} {t:Nat} {ax:Operand} (ho:o.op=.unOp op t ax)
  {K:Atom->Option ρ} {r:ρ} (h:opUn op (ev ax) K=some r):∃ a,K a=some r/\OpOK N P H nid ev o { val:=one a }:=by
 unfold opUn at h;obtain⟨a,ha,h⟩:=one?_ok h;split at h
 ·split at h
  ·refine⟨_,h,OpOK.pure fun{G κ hf w ac} hH hr hev=>?_⟩;have h1:=hev ax;rw[ha]at h1;have h1:=one_val h1;simp only [AR,List.cons.injEq,and_true]at h1;exact⟨.bool _,by simp [execOp,ho,h1,Op.unary];try rfl,AsR.one rfl⟩
  ·contradiction
 ·split at h
  ·refine⟨_,h,OpOK.pure fun{G κ hf w ac} hH hr hev=>?_⟩;have h1:=hev ax;rw[ha]at h1;have h1:=one_val h1;simp only [AR,List.cons.injEq,and_true]at h1;exact⟨.int _ _,by simp [execOp,ho,h1,Op.unary,Op.intArith];try exact⟨rfl,rfl⟩,AsR.one rfl⟩
  ·rename_i k n _ _;refine⟨_,h,OpOK.pure fun{G κ hf w ac} hH hr hev=>?_⟩;have h1:=hev ax;rw[ha]at h1;have h1:=one_val h1;simp only [AR,List.cons.injEq,and_true]at h1;exact⟨.int k (bits .xor k (if k.signed then -1 else k.max) n),by simp [execOp,ho,h1,Op.unary,intBits_xor],AsR.one rfl⟩
  ·contradiction
 ·contradiction
def opExtract(x:SV) (i:Nat) (K:SV->Option ρ):Option ρ:=
 match x with
 | .tup vs=>nth vs i fun p=>K (.v p.1 p.2)
 | _=>none
theorem TupR.get{N:NumSem} {G:Ghost} {κ:Kap}:∀ {vs:List (Bool × List Atom)} {xs:List Value} {i:Nat} {p:Bool × List Atom},TupR N G κ vs xs->vs[i]? = some p ->
  ∃ x,xs[i]? = some x/\SR N G κ p.1 p.2 x
 | [],xs,i,p,h,e=>by simp at e
 | q :: vs,xs,0,p,h,e=>by
  obtain⟨x,ys,h1,h2,h3⟩:=h;simp only [List.getElem?_cons_zero,Option.some.injEq]at e;subst e;subst h1;exact⟨x,rfl,h2⟩
 | q :: vs,xs,i+1,p,h,e=>by
  obtain⟨x,ys,h1,h2,h3⟩:=h;subst h1;obtain⟨y,hy,hs⟩:=TupR.get (i:=i) h3 (by simpa using e);exact⟨y,by simpa using hy,hs⟩
theorem opExtract_ok{N:NumSem} {P:Program} {H:Hp} {nid:Nat} {ev:Operand->SV} {o:Oper} {i:Nat} {ax:Operand} (ho:o.op=.extract ax i)
  {K:SV->Option ρ} {r:ρ} (h:opExtract (ev ax) i K=some r):∃ s,K s=some r/\OpOK N P H nid ev o { val:=s }:=by
 unfold opExtract at h;split at h
 ·rename_i vs ha;obtain⟨p,hp,h⟩:=nth_ok h;refine⟨_,h,OpOK.pure fun{G κ hf w ac} hH hr hev=>?_⟩;have h1:=hev ax;rw[ha]at h1;obtain⟨xs,hx,h2⟩:=h1;obtain⟨x,h3,h4⟩:=h2.get hp;have h3':xs[i]? = some x:=by simpa using h3
  exact⟨x,by simp [execOp,ho,hx,Instr.extract,h3'],h4⟩
 ·contradiction
theorem opPick_ok{N:NumSem} {P:Program} {H:Hp} {nid:Nat} {ev:Operand->SV} {o:Oper} {ac_ aa ab:Operand} (ho:o.op=.pick ac_ aa ab)
  {K:SV->Option ρ} {r:ρ} (h:opPick (ev ac_) (ev aa) (ev ab) K=some r):∃ s,K s=some r/\OpOK N P H nid ev o { val:=s }:=by
 unfold opPick at h;obtain⟨a,ha,h⟩:=one?_ok h;split at h
 ·rename_i t;have main:∀ (s:SV),(∀ {G:Ghost} {κ:Kap} {a:Act},svR N G κ (ev aa) (a.eval aa)->svR N G κ (ev ab) (a.eval ab)->svR N G κ s (if t then a.eval aa else a.eval ab)) ->
    OpOK N P H nid ev o { val:=s }:=by
   intro s hs;refine OpOK.pure fun{G κ hf w ac} hH hr hev=>?_
   have h1:=hev ac_;rw[ha]at h1;have h1:=one_val h1;simp only [AR,List.cons.injEq,and_true]at h1;exact⟨_,by simp [execOp,ho,h1,asBool],hs (hev aa) (hev ab)⟩
  split at h
  ·rename_i p q hp hq;refine⟨_,h,main _ fun{G κ a} h1 h2=>?_⟩;rw[hp]at h1;rw[hq]at h2;have h1:=one_val h1;have h2:=one_val h2;simp only [AR,List.cons.injEq,and_true]at h1 h2;rw[h1,h2];cases t <;> exact AsR.one rfl
  ·cases t with
   | true=>exact⟨_,h,main _ fun h1 _=>h1⟩
   | false=>exact⟨_,h,main _ fun _ h2=>h2⟩
 ·contradiction
theorem opMove_ok{N:NumSem} {P:Program} {H:Hp} {nid:Nat} {ev:Operand->SV} {o:Oper} {ax:Operand} (ho:o.op=.move ax\/o.op=.assign ax) :
  OpOK N P H nid ev o { val:=ev ax }:=
 OpOK.pure fun{G κ hf w ac} hH hr hev=>⟨_,by rcases ho with ho | ho <;> simp [execOp,ho],hev ax⟩
def capsOf:List SV->(List (Nat × Nat)->Option ρ)->Option ρ
 | [],f=>f []
 | .v false [.ptr l off] :: r,f=>capsOf r fun cs=>f ((l,off) :: cs)
 | _,_=>none
end
end Go.Abs

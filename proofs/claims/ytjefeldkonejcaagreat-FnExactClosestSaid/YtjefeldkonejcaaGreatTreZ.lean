/-
 A PART OF THE PROOF of ClI (texts TreZ TrvA TrvB TrvC TrvD TrvE): the claim itself stands in the last text. No conditions beside those of the given row.
-/
import Derived.Test.YtjefeldkonejcaaGreatSpcK
import Derived.Test.YtjefeldkonejcaaGreatTreM
set_option linter.unusedVariables false
set_option linter.unnecessarySimpa false
set_option linter.unusedSimpArgs false
namespace Go.Abs
open Go.Proofs Go.Extern Go.Extern.Rtype Go.Lib
set_option maxRecDepth 100000
theorem eqF_last(d:Nat) (xs ys:Array Value) (f:Field) (w:World) {a b:Value} {r:Bool} (hn:(f.name == "_")=false) (h1:(part f.type xs f.offset).run Tryz.prog w=.ok a w) (h2:(part f.type ys f.offset).run Tryz.prog w=.ok b w)
  (h3:(Op.equalIn d f.type a b).run Tryz.prog w=.ok r w):(Op.eqFields d xs ys [f]).run Tryz.prog w=.ok r w:=by
 rw[eqF_cons d xs ys f [] w hn h1 h2 h3];cases r <;> simp [Op.eqFields]
theorem eqF_more(d:Nat) (xs ys:Array Value) (f:Field) (fs:List Field) (w:World) {a b:Value} {r r2:Bool} (hn:(f.name == "_")=false) (h1:(part f.type xs f.offset).run Tryz.prog w=.ok a w) (h2:(part f.type ys f.offset).run Tryz.prog w=.ok b w)
  (h3:(Op.equalIn d f.type a b).run Tryz.prog w=.ok r w) (h4:(Op.eqFields d xs ys fs).run Tryz.prog w=.ok r2 w):(Op.eqFields d xs ys (f :: fs)).run Tryz.prog w=.ok (r&&r2) w:=by
 rw[eqF_cons d xs ys f fs w hn h1 h2 h3,h4];cases r <;> simp
theorem eqV3_run(d:Nat) (w:World) (a1 a2 a3 a4 a5 a6 b1 b2 b3 b4 b5 b6:Int):(Op.equalIn (d+3) 34 (.agg #[.int .i64 a1,.int .i64 a2,.int .i64 a3,.int .i64 a4,.int .i64 a5,.int .i64 a6]) (.agg #[.int .i64 b1,.int .i64 b2,.int .i64 b3,.int .i64 b4,.int .i64 b5,.int .i64 b6])).run Tryz.prog w =
  .ok ((a1==b1&&a2==b2)&&((a3==b3&&a4==b4)&&(a5==b5&&a6==b6))) w:=by
 have ha:(isAgg 28).run Tryz.prog w=.ok true w:=by kernel_rfl
 have hs:(sizeOf 28).run Tryz.prog w=.ok 2 w:=by kernel_rfl
 rw[show d+3=(d+2)+1 from rfl,run_equalIn_agg w (d+2) 34 _ _ (by kernel_rfl) (by kernel_rfl)];have hf:(Tryz.prog.fieldsOf 34).toList=[{ name:="X",type:=28,offset:=0,embedded:=false,tag:="",pkgPath:="",byteOffset:=0 },{ name:="Y",type:=28,offset:=2,embedded:=false,tag:="",pkgPath:="",byteOffset:=16 },{ name:="Z",type:=28,offset:=4,embedded:=false,tag:="",pkgPath:="",byteOffset:=32 }]:=by kernel_rfl
 rw[hf];exact eqF_more (d+2) _ _ _ _ w rfl (part_agg 28 0 2 _ w ha hs) (part_agg 28 0 2 _ w ha hs) (eqQ_run d w a1 a2 b1 b2)
  (eqF_more (d+2) _ _ _ _ w rfl (part_agg 28 2 2 _ w ha hs) (part_agg 28 2 2 _ w ha hs) (eqQ_run d w a3 a4 b3 b4)
   (eqF_last (d+2) _ _ _ w rfl (part_agg 28 4 2 _ w ha hs) (part_agg 28 4 2 _ w ha hs) (eqQ_run d w a5 a6 b5 b6)))
theorem eqBx_run(d:Nat) (w:World) (a1 a2 a3 a4 a5 a6 a7 a8 a9 a10 a11 a12 b1 b2 b3 b4 b5 b6 b7 b8 b9 b10 b11 b12:Int) :
  (Op.equalIn (d+4) 46 (.agg #[.int .i64 a1,.int .i64 a2,.int .i64 a3,.int .i64 a4,.int .i64 a5,.int .i64 a6,.int .i64 a7,.int .i64 a8,.int .i64 a9,.int .i64 a10,.int .i64 a11,.int .i64 a12]) (.agg #[.int .i64 b1,.int .i64 b2,.int .i64 b3,.int .i64 b4,.int .i64 b5,.int .i64 b6,.int .i64 b7,.int .i64 b8,.int .i64 b9,.int .i64 b10,.int .i64 b11,.int .i64 b12])).run Tryz.prog w =
  .ok (((a1==b1&&a2==b2)&&((a3==b3&&a4==b4)&&(a5==b5&&a6==b6)))&&((a7==b7&&a8==b8)&&((a9==b9&&a10==b10)&&(a11==b11&&a12==b12)))) w:=by
 have ha:(isAgg 34).run Tryz.prog w=.ok true w:=by kernel_rfl
 have hs:(sizeOf 34).run Tryz.prog w=.ok 6 w:=by kernel_rfl
 rw[show d+4=(d+3)+1 from rfl,run_equalIn_agg w (d+3) 46 _ _ (by kernel_rfl) (by kernel_rfl)];have hf:(Tryz.prog.fieldsOf 46).toList=[{ name:="Lo",type:=34,offset:=0,embedded:=false,tag:="",pkgPath:="",byteOffset:=0 },{ name:="Hi",type:=34,offset:=6,embedded:=false,tag:="",pkgPath:="",byteOffset:=48 }]:=by kernel_rfl
 rw[hf];exact eqF_more (d+3) _ _ _ _ w rfl (part_agg 34 0 6 _ w ha hs) (part_agg 34 0 6 _ w ha hs) (eqV3_run d w a1 a2 a3 a4 a5 a6 b1 b2 b3 b4 b5 b6)
  (eqF_last (d+3) _ _ _ w rfl (part_agg 34 6 6 _ w ha hs) (part_agg 34 6 6 _ w ha hs) (eqV3_run d w a7 a8 a9 a10 a11 a12 b7 b8 b9 b10 b11 b12))
theorem eqNd_run(d:Nat) (w:World) (a1 a2 a3 a4 a5 a6 a7 a8 a9 a10 a11 a12 a13 a14 a15 b1 b2 b3 b4 b5 b6 b7 b8 b9 b10 b11 b12 b13 b14 b15:Int) :
  (Op.equalIn (d+5) 72 (.agg #[.int .i64 a1,.int .i64 a2,.int .i64 a3,.int .i64 a4,.int .i64 a5,.int .i64 a6,.int .i64 a7,.int .i64 a8,.int .i64 a9,.int .i64 a10,.int .i64 a11,.int .i64 a12,.int .i64 a13,.int .i64 a14,.int .i64 a15])
   (.agg #[.int .i64 b1,.int .i64 b2,.int .i64 b3,.int .i64 b4,.int .i64 b5,.int .i64 b6,.int .i64 b7,.int .i64 b8,.int .i64 b9,.int .i64 b10,.int .i64 b11,.int .i64 b12,.int .i64 b13,.int .i64 b14,.int .i64 b15])).run Tryz.prog w =
  .ok ((((a1==b1&&a2==b2)&&((a3==b3&&a4==b4)&&(a5==b5&&a6==b6)))&&((a7==b7&&a8==b8)&&((a9==b9&&a10==b10)&&(a11==b11&&a12==b12))))&&(a13==b13&&(a14==b14&&a15==b15))) w:=by
 have h2:Tryz.prog.underlying 2=some (.int .i64):=by kernel_rfl
 have hi:(isAgg 2).run Tryz.prog w=.ok false w:=by kernel_rfl
 have ha:(isAgg 46).run Tryz.prog w=.ok true w:=by kernel_rfl
 have hs:(sizeOf 46).run Tryz.prog w=.ok 12 w:=by kernel_rfl
 rw[show d+5=(d+4)+1 from rfl,run_equalIn_agg w (d+4) 72 _ _ (by kernel_rfl) (by kernel_rfl)];have hf:(Tryz.prog.fieldsOf 72).toList=[{ name:="Box",type:=46,offset:=0,embedded:=false,tag:="",pkgPath:="",byteOffset:=0 },{ name:="Left",type:=2,offset:=12,embedded:=false,tag:="",pkgPath:="",byteOffset:=96 },{ name:="Right",type:=2,offset:=13,embedded:=false,tag:="",pkgPath:="",byteOffset:=104 },{ name:="Item",type:=2,offset:=14,embedded:=false,tag:="",pkgPath:="",byteOffset:=112 }]:=by kernel_rfl
 rw[hf];exact eqF_more (d+4) _ _ _ _ w rfl (part_agg 46 0 12 _ w ha hs) (part_agg 46 0 12 _ w ha hs) (eqBx_run d w a1 a2 a3 a4 a5 a6 a7 a8 a9 a10 a11 a12 b1 b2 b3 b4 b5 b6 b7 b8 b9 b10 b11 b12)
  (eqF_more (d+4) _ _ _ _ w rfl (part_int 2 12 _ (.int .i64 a13) w hi rfl) (part_int 2 12 _ (.int .i64 b13) w hi rfl) (run_equalIn_int w (d+3) 2 .i64 .i64 a13 b13 h2)
   (eqF_more (d+4) _ _ _ _ w rfl (part_int 2 13 _ (.int .i64 a14) w hi rfl) (part_int 2 13 _ (.int .i64 b14) w hi rfl) (run_equalIn_int w (d+3) 2 .i64 .i64 a14 b14 h2)
    (eqF_last (d+4) _ _ _ w rfl (part_int 2 14 _ (.int .i64 a15) w hi rfl) (part_int 2 14 _ (.int .i64 b15) w hi rfl) (run_equalIn_int w (d+3) 2 .i64 .i64 a15 b15 h2))))
theorem ints15{xs:List Int} (h:xs.length=15):∃ a1 a2 a3 a4 a5 a6 a7 a8 a9 a10 a11 a12 a13 a14 a15,xs=[a1,a2,a3,a4,a5,a6,a7,a8,a9,a10,a11,a12,a13,a14,a15]:=by
 match xs,h with
 | [a1,a2,a3,a4,a5,a6,a7,a8,a9,a10,a11,a12,a13,a14,a15],_=>exact⟨a1,a2,a3,a4,a5,a6,a7,a8,a9,a10,a11,a12,a13,a14,a15,rfl⟩
theorem eqNd_ok:EqOK Tryz.prog (72,15):=by
 intro w xs ys hx hy op x y;obtain⟨a1,a2,a3,a4,a5,a6,a7,a8,a9,a10,a11,a12,a13,a14,a15,rfl⟩:=ints15 hx;obtain⟨b1,b2,b3,b4,b5,b6,b7,b8,b9,b10,b11,b12,b13,b14,b15,rfl⟩:=ints15 hy;have key:=eqNd_run 9995 w a1 a2 a3 a4 a5 a6 a7 a8 a9 a10 a11 a12 a13 a14 a15 b1 b2 b3 b4 b5 b6 b7 b8 b9 b10 b11 b12 b13 b14 b15;have e:((((a1==b1&&a2==b2)&&((a3==b3&&a4==b4)&&(a5==b5&&a6==b6)))&&((a7==b7&&a8==b8)&&((a9==b9&&a10==b10)&&(a11==b11&&a12==b12))))&&(a13==b13&&(a14==b14&&a15==b15))) =
   ([a1,a2,a3,a4,a5,a6,a7,a8,a9,a10,a11,a12,a13,a14,a15] == [b1,b2,b3,b4,b5,b6,b7,b8,b9,b10,b11,b12,b13,b14,b15]):=by
  simp [List.cons_beq_cons,Bool.and_assoc]
 rw[e]at key;have key:(Op.equalIn 10000 72 (.agg ([a1,a2,a3,a4,a5,a6,a7,a8,a9,a10,a11,a12,a13,a14,a15].map (Value.int .i64)).toArray) (.agg ([b1,b2,b3,b4,b5,b6,b7,b8,b9,b10,b11,b12,b13,b14,b15].map (Value.int .i64)).toArray)).run Tryz.prog w=_:=key;exact⟨run_eqGuard_agg w op 72 x y _ _ (by kernel_rfl),(run_eql_struct w 72 _ _).trans (by rw[key];rfl),(run_neq_struct w 72 _ _).trans (by rw[key];rfl)⟩
end Go.Abs
namespace Go.Abs
open Go.Proofs
set_option maxRecDepth 100000
def lfBad(n:Int) (d:Nd) (s:List Bd × List Bool):Prop:=d.2.2.2<0\/n<=d.2.2.2\/s.2[d.2.2.2.toNat]?.getD true=true
instance (n:Int) (d:Nd) (s:List Bd × List Bool):Decidable (lfBad n d s):=by unfold lfBad;infer_instance
def lfUpd(d:Nd) (s:List Bd × List Bool):List Bd × List Bool:=(s.1.set d.2.2.2.toNat d.1,s.2.set d.2.2.2.toNat true)
def lfX(n:Int) (sk:Nd->Bool):List Nd->List Bd × List Bool->Bool × (List Bd × List Bool)
 | [],s=>(true,s)
 | d :: r,s=>if sk d=true then lfX n sk r s else if lfBad n d s then(false,s)else lfX n sk r (lfUpd d s)
theorem lfX_G(n:Int) (sk:Nd->Bool):∀ (t:List Nd) (s:List Bd × List Bool),lfG n sk t s=if(lfX n sk t s).1=true then some (lfX n sk t s).2 else none
 | [],s=>rfl
 | d :: r,s=>by
  unfold lfG lfX
  by_cases h:sk d=true
  ·rw[if_pos h,if_pos h];exact lfX_G n sk r s
  ·rw[if_neg h,if_neg h]
   by_cases hb:lfBad n d s
   ·rw[if_pos hb,if_pos (show d.2.2.2<0\/n<=d.2.2.2\/s.2[d.2.2.2.toNat]?.getD true=true from hb)];rfl
   ·rw[if_neg hb,if_neg (show ¬ (d.2.2.2<0\/n<=d.2.2.2\/s.2[d.2.2.2.toNat]?.getD true=true)from hb)];exact lfX_G n sk r _
def lfI(n:Int) (s:List Bd × List Bool):Prop:=(s.1.length:Int)=n/\(s.2.length:Int)=n
theorem lfUpd_I{n:Int} {d:Nd} {s:List Bd × List Bool} (h:lfI n s):lfI n (lfUpd d s):=by unfold lfI lfUpd at *;simpa using h
theorem lfX_I{n:Int} {sk:Nd->Bool}:∀ (t:List Nd) {s:List Bd × List Bool},lfI n s->lfI n (lfX n sk t s).2
 | [],s,h=>h
 | d :: r,s,h=>by
  unfold lfX;split
  ·exact lfX_I r h
  ·split
   ·exact h
   ·exact lfX_I r (lfUpd_I h)
theorem runL_lf{ρ:Type} {n:Int} {sk:Nd->Bool} {body:Int->Nd->List Bd × List Bool->(List Bd × List Bool->Option ρ)->Option ρ} {fin ret:List Bd × List Bool->Option ρ}
  (hb:∀ i d st k,lfI n st->body i d st k=if sk d=true then k st else if lfBad n d st then ret st else k (lfUpd d st)):∀ (t:List Nd) (i:Int) (st:List Bd × List Bool),lfI n st ->
  runL body fin t i st=if(lfX n sk t st).1=true then fin (lfX n sk t st).2 else ret (lfX n sk t st).2
 | [],i,st,h=>rfl
 | d :: r,i,st,h=>by
  unfold runL lfX;rw[hb i d st _ h]
  by_cases hs:sk d=true
  ·rw[if_pos hs,if_pos hs];exact runL_lf hb r _ _ h
  ·rw[if_neg hs,if_neg hs]
   by_cases hd:lfBad n d st
   ·rw[if_pos hd,if_pos hd];rfl
   ·rw[if_neg hd,if_neg hd];exact runL_lf hb r _ _ (lfUpd_I h)
noncomputable def lvE:Env:=VZ []
theorem lvE_ok:EnvOK NN Tryz.prog lvE:=VZ_ok (gamN _ _)
def A455:Ann:={ head:=ptOf [(7,[4,5,6,27,28,29],[]),(16,[5,63,64,65],[])],out:=ptOf [(7,[2,3,5,6],[]),(16,[2,3,5],[])],res:=[(0,.list tBx)] }
def hp455(o:List Bd) (s:List Bool):HL:=[.arr 46 tBx o false true,.arr 4 .bool s false true]
def σ455(t:List Nd) (n:Int) (i:Int) (st:List Bd × List Bool):St:=⟨[(4,one (.int .i64 n)),(5,one (.wsl 0 12)),(6,one (.wsl 1 1)),(27,one (.sl none tNd t)),(28,one (.int .i64 (t.length:Int))),(29,one (.int .i64 i))],hp455 st.1 st.2⟩
def σ455o(st:List Bd × List Bool):St:=⟨[(2,.undef),(3,.undef),(5,one (.wsl 0 12)),(6,one (.wsl 1 1))],hp455 st.1 st.2⟩
def σ455r(st:List Bd × List Bool):St:=⟨[(2,one .nils),(3,one (.bool false)),(5,one (.wsl 0 12)),(6,one (.wsl 1 1))],hp455 st.1 st.2⟩
section
variable {ρ:Type} (K:Exit->St->Option ρ) (go:St->Option ρ) (t:List Nd) (n i:Int)
def bd455(ret:List Bd × List Bool->Option ρ) (d:Nd) (st:List Bd × List Bool) (k:List Bd × List Bool->Option ρ):Option ρ:=
 bif d.2.2.2 == -1 then k st else bif decide (d.2.2.2<0)then ret st else bif bif false then true else decide (n<=d.2.2.2)then ret st else
  (if 0<=d.2.2.2/\d.2.2.2<(st.2.length:Int)then st.2[0+Int.toNat d.2.2.2]?.bind (fun q=>bif bif false then true else q then ret st else
   (if 0<=d.2.2.2/\d.2.2.2<(st.2.length:Int)then st.2[0+Int.toNat d.2.2.2]?.bind (fun _=>if 0<=d.2.2.2/\d.2.2.2<(st.1.length:Int)then st.1[0+Int.toNat d.2.2.2]?.bind (fun _ =>
    k (st.1.set (0+Int.toNat d.2.2.2) d.1,st.2.set (0+Int.toNat d.2.2.2) true))else none)else none))else none)
theorem turn455a(st:List Bd × List Bool):turnF lvE A455 73 0 0 (loopAt Tryz.f70 0) K go (σ455 t n i st) =
  bif decide (i<(t.length:Int))then(if 0<=i then t[i.toNat]?.bind (fun d=>bd455 n (fun st=>K .ret (σ455r st)) d st fun st=>go (σ455 t n (IntKind.i64.wrap (i+1)) st))else none)
  else K (.exit 0) (σ455o st):=by kernel_rfl
def σ455b(o:List Bd) (s:List Bool) (i:Int) (_:Unit):St:=⟨[(5,one (.wsl 0 12)),(63,one (.wsl 1 1)),(64,one (.int .i64 (s.length:Int))),(65,one (.int .i64 i))],hp455 o s⟩
def σ455c(o:List Bd) (s:List Bool):St:=⟨[(2,.undef),(3,.undef),(5,one (.wsl 0 12))],[.arr 46 tBx o false true]⟩
def σ455d(o:List Bd) (s:List Bool):St:=⟨[(2,one .nils),(3,one (.bool false)),(5,one (.wsl 0 12))],[.arr 46 tBx o false true]⟩
theorem turn455b(o:List Bd) (s:List Bool):turnF lvE A455 73 0 0 (loopAt Tryz.f70 1) K go (σ455b o s i ()) =
  bif decide (i<(s.length:Int))then(if 0<=i/\i<(s.length:Int)then s[0+i.toNat]?.bind (fun q=>bif !q then K .ret (σ455d o s)else go (σ455b o s (IntKind.i64.wrap (i+1)) ()))else none)
  else K (.exit 2) (σ455c o s):=by kernel_rfl
end
theorem bd455_eq{ρ:Type} {n:Int} {ret:List Bd × List Bool->Option ρ} {d:Nd} {st:List Bd × List Bool} {k:List Bd × List Bool->Option ρ} (h:lfI n st) :
  bd455 n ret d st k=if skI d=true then k st else if lfBad n d st then ret st else k (lfUpd d st):=by
 have hf:¬ (false=true):=by decide
 unfold bd455;obtain⟨h1,h2⟩:=h
 by_cases c:d.2.2.2 = -1
 ·rw[show skI d=true from decide_eq_true c,if_pos rfl,beq_iff_eq.2 c,cond_true]
 ·rw[show skI d=false from decide_eq_false c,if_neg hf,beq_eq_false_iff_ne.2 c,cond_false]
  by_cases c1:d.2.2.2<0
  ·rw[decide_eq_true c1,cond_true,if_pos (show lfBad n d st from .inl c1)]
  ·rw[decide_eq_false c1,cond_false]
   by_cases c2:n<=d.2.2.2
   ·rw[decide_eq_true c2,cond_false,cond_true,if_pos (show lfBad n d st from .inr (.inl c2))]
   ·have hs:d.2.2.2.toNat<st.2.length:=by omega
    have ho:d.2.2.2.toNat<st.1.length:=by omega
    have g1:0<=d.2.2.2/\d.2.2.2<(st.2.length:Int):=⟨by omega,by omega⟩;have g2:0<=d.2.2.2/\d.2.2.2<(st.1.length:Int):=⟨by omega,by omega⟩;rw[decide_eq_false c2,cond_false,cond_false,if_pos g1,Nat.zero_add,List.getElem?_eq_getElem hs,Option.bind_some,cond_false,if_pos g1,Option.bind_some,if_pos g2,List.getElem?_eq_getElem ho,Option.bind_some];cases hq:st.2[d.2.2.2.toNat]
    ·rw[cond_false,if_neg (show ¬ lfBad n d st from by
      rintro (e | e | e)
      ·exact c1 e
      ·exact c2 e
      ·rw[List.getElem?_eq_getElem hs,Option.getD_some,hq]at e;cases e)]
     rfl
    ·rw[cond_true,if_pos (show lfBad n d st from .inr (.inr (by rw[List.getElem?_eq_getElem hs,Option.getD_some,hq])))]
theorem loop455a{ρ:Type} (K:Exit->St->Option ρ) {t:List Nd} {n:Int} {st:List Bd × List Bool} (hl:t.length<4611686018427387904) (h:lfI n st) :
  itF (turnF lvE A455 73 0 0 (loopAt Tryz.f70 0) K) (fun _=>none) (t.length+1) (σ455 t n 0 st)=if(lfX n skI t st).1=true then K (.exit 0) (σ455o (lfX n skI t st).2)else K .ret (σ455r (lfX n skI t st).2):=by
 have key:=itF_list0 (T:=turnF lvE A455 73 0 0 (loopAt Tryz.f70 0) K) (xs:=t) (s:=fun i st=>σ455 t n i st) (body:=fun _ d st k=>bd455 n (fun st=>K .ret (σ455r st)) d st k) (fin:=fun st=>K (.exit 0) (σ455o st))
  (fun go st=>by rw[turn455a,lst_out])
  (fun go i hi st=>by rw[turn455a,lst_in hi,lst_wrap hl hi]) st
 rw[key];exact runL_lf (sk:=skI) (fin:=fun st=>K (.exit 0) (σ455o st)) (ret:=fun st=>K .ret (σ455r st)) (fun i d st k h=>bd455_eq h) t 0 st h
theorem loop455b{ρ:Type} (K:Exit->St->Option ρ) {o:List Bd} {s:List Bool} (hl:s.length<4611686018427387904) :
  itF (turnF lvE A455 73 0 0 (loopAt Tryz.f70 1) K) (fun _=>none) (s.length+1) (σ455b o s 0 ())=bif s.all id then K (.exit 2) (σ455c o s)else K .ret (σ455d o s):=by
 have key:=itF_list0 (T:=turnF lvE A455 73 0 0 (loopAt Tryz.f70 1) K) (xs:=s) (s:=fun i st=>σ455b o s i st) (body:=fun _ q st k=>bif !q then K .ret (σ455d o s)else k st) (fin:=fun st=>K (.exit 2) (σ455c o s))
  (fun go st=>by rw[turn455b,lst_out])
  (fun go i hi st=>by rw[turn455b,decide_eq_true (by omega),cond_true,if_pos ⟨by omega,by omega⟩,Nat.zero_add,Int.toNat_natCast,List.getElem?_eq_getElem hi,Option.bind_some,lst_wrap hl hi]) ()
 rw[key];have run:∀ (xs:List Bool) (i:Int),runL (fun(_:Int) q (st:Unit) k=>bif !q then K .ret (σ455d o s)else k st) (fun _=>K (.exit 2) (σ455c o s)) xs i ()=bif xs.all id then K (.exit 2) (σ455c o s)else K .ret (σ455d o s):=by
  intro xs
  induction xs with
  | nil=>intro i;rfl
  | cons b r ih =>
   intro i;unfold runL;rw[List.all_cons];cases b
   ·rfl
   ·exact ih (i+1)
 exact run s 0
end Go.Abs
namespace Go.Abs
open Go.Proofs
set_option maxRecDepth 100000
theorem lx_ex:∃ f,f=lfX:=⟨_,rfl⟩
noncomputable def lxI:=lx_ex.choose
theorem lxI_eq:lxI=lfX:=lx_ex.choose_spec
noncomputable def S455a:Sum:=fun n0 ρ σ K=>match n0,σ with
 | 0,⟨[(4,.v false [.int .i64 n]),(5,.v false [.wsl 0 12]),(6,.v false [.wsl 1 1]),(27,.v false [.sl none (.pair (.pair (.pair (.pair (.int .i64) (.int .i64)) (.pair (.pair (.int .i64) (.int .i64)) (.pair (.int .i64) (.int .i64)))) (.pair (.pair (.int .i64) (.int .i64)) (.pair (.pair (.int .i64) (.int .i64)) (.pair (.int .i64) (.int .i64))))) (.pair (.int .i64) (.pair (.int .i64) (.int .i64)))) t]),(28,.v false [.int .i64 l]),(29,.v false [.int .i64 i])],
   [.arr 46 (.pair (.pair (.pair (.int .i64) (.int .i64)) (.pair (.pair (.int .i64) (.int .i64)) (.pair (.int .i64) (.int .i64)))) (.pair (.pair (.int .i64) (.int .i64)) (.pair (.pair (.int .i64) (.int .i64)) (.pair (.int .i64) (.int .i64))))) o false true,.arr 4 .bool s false true]⟩ =>
  if l=(List.length (α:=Nd) t:Int)/\i=0/\(List.length (α:=Bd) o:Int)=n/\(List.length (α:=Bool) s:Int)=n/\(List.length (α:=Nd) t:Int)<=1000 then bif (lxI n skI t (o,s)).1 then K (.exit 0) (σ455o (lxI n skI t (o,s)).2)else K .ret (σ455r (lxI n skI t (o,s)).2)else none
 | _,_=>none
noncomputable def S455b:Sum:=fun n0 ρ σ K=>match n0,σ with
 | 0,⟨[(5,.v false [.wsl 0 12]),(63,.v false [.wsl 1 1]),(64,.v false [.int .i64 l]),(65,.v false [.int .i64 i])],
   [.arr 46 (.pair (.pair (.pair (.int .i64) (.int .i64)) (.pair (.pair (.int .i64) (.int .i64)) (.pair (.int .i64) (.int .i64)))) (.pair (.pair (.int .i64) (.int .i64)) (.pair (.pair (.int .i64) (.int .i64)) (.pair (.int .i64) (.int .i64))))) o false true,.arr 4 .bool s false true]⟩ =>
  if l=(List.length (α:=Bool) s:Int)/\i=0/\(List.length (α:=Bool) s:Int)<=1000 then bif List.all (α:=Bool) s id then K (.exit 2) (σ455c o s)else K .ret (σ455d o s)else none
 | _,_=>none
theorem sum455a:SumOK NN Tryz.prog 73 (loopAt Tryz.f70 0) S455a:=
 SumOK.of_turns lvE_ok mixT (A:=A455) (SumsOK.none fun _=>rfl) fun n0 ρ σ K r hr=>by
  unfold S455a at hr;split at hr
  ·rename_i n t l i o s;split at hr
   ·rename_i hc;obtain⟨rfl,rfl,h3,h4,h5⟩:=hc;refine⟨_,(loop455a K (t:=t) (n:=n) (st:=(o,s)) (by omega) ⟨h3,h4⟩).trans ?_⟩;rw[lxI_eq]at hr;rw[<- hr];cases (lfX n skI t (o,s)).1 <;> rfl
   ·contradiction
  ·contradiction
theorem sum455b:SumOK NN Tryz.prog 73 (loopAt Tryz.f70 1) S455b:=
 SumOK.of_turns lvE_ok mixT (A:=A455) (SumsOK.none fun _=>rfl) fun n0 ρ σ K r hr=>by
  unfold S455b at hr;split at hr
  ·rename_i l i o s;split at hr
   ·rename_i hc;obtain⟨rfl,rfl,h3⟩:=hc;exact⟨_,(loop455b K (o:=o) (s:=s) (by omega)).trans hr⟩
   ·contradiction
  ·contradiction
noncomputable def A455s:Ann:={ A455 with sum:=fun i=>bif Nat.beq i 7 then some S455a else bif Nat.beq i 16 then some S455b else none }
def tupX(L:List Bd) (o:Bool):SV:=.tup [(false,[.sl none tBx L]),(false,[.bool o])]
def nT(t:List Nd):Int:=IntKind.i64.wrap ((IntKind.i64.wrap ((t.length:Int)+1)).tdiv 2)
section
variable {ρ:Type} (cont:SV->HL->Option ρ) (t:List Nd) (n:Int)
noncomputable def lvD(p:Bool × (List Bd × List Bool)):Option ρ:=bif p.1 then(if(p.2.2.length:Int)=(p.2.2.length:Int)/\(0:Int)=0/\(p.2.2.length:Int)<=1000 then bif p.2.2.all id then cont (.tup [(false,[.sl (some false) tBx p.2.1]),(false,[.bool true])]) []else cont (tupX [] false) []else none)else cont (tupX [] false) []
noncomputable def lvC:Option ρ:=if 0<=n/\n<=n/\n<=70368744177664/\n*((96:Nat):Int)<=70368744177664 then(if 0<=n/\n<=n/\n<=70368744177664/\n*((1:Nat):Int)<=70368744177664 then
 (if(t.length:Int)=(t.length:Int)/\(0:Int)=0/\((List.replicate n.toNat bd0).length:Int)=n/\((List.replicate n.toNat false).length:Int)=n/\(t.length:Int)<=1000 then lvD cont (lxI n skI t (List.replicate n.toNat bd0,List.replicate n.toNat false))else none)else none)else none
theorem gq455:runF lvE A455s 0 Tryz.f70 (bodyOf Tryz.f70) ρ [one (.sl none tNd t)] [] cont =
  bif Int.tmod (t.length:Int) 2==0 then cont (tupX [] false) []else bif bif false then true else decide (60<nT t)then cont (tupX [] false) []else lvC cont t (nT t):=by kernel_rfl
end
def lvP(sk:Nd->Bool) (t:List Nd):Option (List Bd):=if t.length % 2=1/\t.length<120 then lvG sk t else none
theorem lv_ex:∃ f:(Nd->Bool)->List Nd->List Bd × Bool,f=fun sk t=>((lvP sk t).getD [],(lvP sk t).isSome):=⟨_,rfl⟩
noncomputable def lvI:=lv_ex.choose
theorem lvI_eq:lvI=fun sk t=>((lvP sk t).getD [],(lvP sk t).isSome):=lv_ex.choose_spec
theorem nT_eq{t:List Nd} (h:t.length<4611686018427387904):nT t=(((t.length+1) / 2:Nat):Int):=by
 unfold nT;have e1:IntKind.i64.wrap ((t.length:Int)+1)=((t.length+1:Nat):Int):=by rw[IntKind.wrap_i64];omega
 rw[e1,Int.tdiv_eq_ediv_of_nonneg (by omega),IntKind.wrap_i64];omega
theorem tmod2(n:Nat):(Int.tmod (n:Int) 2==0)=decide (n % 2=0):=by
 rw[Int.tmod_eq_emod_of_nonneg (by omega)]
 by_cases h:n % 2=0
 ·rw[decide_eq_true h,beq_iff_eq];omega
 ·rw[decide_eq_false h,beq_eq_false_iff_ne];omega
theorem lv_run{ρ:Type} (cont:SV->HL->Option ρ) {t:List Nd} (hl:t.length<4611686018427387904):runF lvE A455s 0 Tryz.f70 (bodyOf Tryz.f70) ρ [one (.sl none tNd t)] [] (fun s H=>cont (plSV tBx s) H)=cont (tupX (lvI skI t).1 (lvI skI t).2) []:=by
 rw[gq455,tmod2,nT_eq hl,lvI_eq];dsimp only;unfold lvP
 by_cases h0:t.length % 2=0
 ·rw[decide_eq_true h0,cond_true,if_neg (by omega)];rfl
 ·rw[decide_eq_false h0,cond_false,cond_false]
  by_cases h1:60<(t.length+1) / 2
  ·rw[decide_eq_true (by omega),cond_true,if_neg (by omega)];rfl
  ·rw[decide_eq_false (by omega),cond_false,if_pos ⟨by omega,by omega⟩];unfold lvC lvG;rw[if_pos ⟨by omega,by omega,by omega,by omega⟩,if_pos ⟨by omega,by omega,by omega,by omega⟩,if_pos ⟨rfl,rfl,by rw[List.length_replicate,Int.toNat_natCast],by rw[List.length_replicate,Int.toNat_natCast],by omega⟩,Int.toNat_natCast,lxI_eq,lfX_G];have hI:lfI (((t.length+1) / 2:Nat):Int) (List.replicate ((t.length+1) / 2) bd0,List.replicate ((t.length+1) / 2) false):=⟨by rw[List.length_replicate],by rw[List.length_replicate]⟩;have hJ:=(lfX_I (sk:=skI) t hI).2;revert hJ;generalize lfX (((t.length+1) / 2:Nat):Int) skI t (List.replicate ((t.length+1) / 2) bd0,List.replicate ((t.length+1) / 2) false)=p;intro hJ;obtain⟨q,o,s⟩:=p;have hJ':(s.length:Int)=(((t.length+1) / 2:Nat):Int):=hJ;unfold lvD;cases q
   ·rfl
   ·dsimp only;rw[cond_true,if_pos ⟨rfl,rfl,by omega⟩,if_pos rfl];show _=cont (tupX ((if s.all id=true then some o else none).getD []) (if s.all id=true then some o else none).isSome) [];cases hs:s.all id
    ·rfl
    ·rfl
noncomputable def lvO:Orc:=fun ρ args H cont=>match args,H with
 | [.v false [.sl _ (.pair (.pair (.pair (.pair (.int .i64) (.int .i64)) (.pair (.pair (.int .i64) (.int .i64)) (.pair (.int .i64) (.int .i64)))) (.pair (.pair (.int .i64) (.int .i64)) (.pair (.pair (.int .i64) (.int .i64)) (.pair (.int .i64) (.int .i64))))) (.pair (.int .i64) (.pair (.int .i64) (.int .i64)))) t]],[]=>if List.length (α:=Nd) t<=2000000 then cont (tupX (lvI skI t).1 (lvI skI t).2) []else none
 | _,_=>none
noncomputable def lvO1:Orc:=fun ρ args H cont=>match args,H with
 | [.v false [.sl none (.pair (.pair (.pair (.pair (.int .i64) (.int .i64)) (.pair (.pair (.int .i64) (.int .i64)) (.pair (.int .i64) (.int .i64)))) (.pair (.pair (.int .i64) (.int .i64)) (.pair (.pair (.int .i64) (.int .i64)) (.pair (.int .i64) (.int .i64))))) (.pair (.int .i64) (.pair (.int .i64) (.int .i64)))) t]],[]=>if List.length (α:=Nd) t<=2000000 then cont (tupX (lvI skI t).1 (lvI skI t).2) []else none
 | _,_=>none
theorem orc_lv1:OrcOK NN Tryz.prog 70 lvO1:=
 OrcOK.of_tale (OrcOK.pl (runF_ok lvE_ok mixT (A:=A455s) (fuel:=0) Tryz.func70 (c:=bodyOf Tryz.f70) (by kernel_rfl) (SumsOK.ofL (ls:=[loopAt Tryz.f70 0,loopAt Tryz.f70 1]) (by kernel_rfl) ⟨sumL1 (by kernel_rfl) sum455a,sumL1 (by kernel_rfl) sum455b,trivial⟩)) tBx) fun ρ args H cont r hr=>by
  unfold lvO1 at hr;split at hr
  ·rename_i t;split at hr
   ·rename_i hc;exact(lv_run cont (t:=t) (by omega)).trans hr
   ·contradiction
  ·contradiction
theorem orc_lv:OrcOK NN Tryz.prog 70 lvO:=OrcOK.argc orc_lv1 fun args H cont r hr=>by
  unfold lvO at hr;split at hr
  ·rename_i nb t;refine⟨[one (.sl none tNd t)],hr,fun s hs i hi=>?_,fun G κ vs hv=>?_⟩
   ·rw[List.mem_singleton]at hs;subst hs;cases hi
   ·obtain⟨v1,r1,e1,h1,h3⟩:=hv;exact⟨v1,r1,e1,sl_plain h1,h3⟩
  ·contradiction
end Go.Abs
namespace Go.Abs
open Go.Proofs
set_option maxRecDepth 100000
noncomputable def tokE:Env:={ VZ [(70,lvO),(71,btO)]with E:=[(72,15)] }
theorem tokE_ok:EnvOK NN Tryz.prog tokE:=
 have h:EnvOK NN Tryz.prog (VZ [(70,lvO),(71,btO)]):=VZ_ok (gamC orc_lv Tryz.call70 (gamC orc_bt Tryz.call71 (gamN _ _)))
 {T:=h.T,E:=fun p hp=>by
   have hp:p∈([(72,15)]:EqTab):=hp;rw[List.mem_singleton]at hp;subst hp;exact eqNd_ok
  Γ:=h.Γ,X:=h.X,Y:=h.Y }
def A429:Ann:={ head:=ptOf [(8,[0,5,29,30],[])],out:=ptOf [(8,[2],[])] }
def σ429(t u:List Nd) (i:Int) (_:Unit):St:=⟨[(0,one (.sl none tNd t)),(5,one (.sl none tNd u)),(29,one (.int .i64 (t.length:Int))),(30,one (.int .i64 i))],[]⟩
def ndQ(x y:Nd):Bool:=x.1.1.1.1==y.1.1.1.1&&(x.1.1.1.2==y.1.1.1.2&&(x.1.1.2.1.1==y.1.1.2.1.1&&(x.1.1.2.1.2==y.1.1.2.1.2&&(x.1.1.2.2.1==y.1.1.2.2.1&&(x.1.1.2.2.2==y.1.1.2.2.2 &&
 (x.1.2.1.1==y.1.2.1.1&&(x.1.2.1.2==y.1.2.1.2&&(x.1.2.2.1.1==y.1.2.2.1.1&&(x.1.2.2.1.2==y.1.2.2.1.2&&(x.1.2.2.2.1==y.1.2.2.2.1&&(x.1.2.2.2.2==y.1.2.2.2.2&&(x.2.1==y.2.1&&(x.2.2.1==y.2.2.1&&x.2.2.2==y.2.2.2)))))))))))))
theorem ndQ_iff{x y:Nd}:ndQ x y=true ↔ x=y:=by
 obtain⟨⟨⟨⟨a1,a2⟩,⟨a3,a4⟩,a5,a6⟩,⟨a7,a8⟩,⟨a9,a10⟩,a11,a12⟩,a13,a14,a15⟩:=x;obtain⟨⟨⟨⟨b1,b2⟩,⟨b3,b4⟩,b5,b6⟩,⟨b7,b8⟩,⟨b9,b10⟩,b11,b12⟩,b13,b14,b15⟩:=y;unfold ndQ;simp only [Bool.and_eq_true,beq_iff_eq,Prod.mk.injEq];constructor
 ·rintro⟨h1,h2,h3,h4,h5,h6,h7,h8,h9,h10,h11,h12,h13,h14,h15⟩
  exact⟨⟨⟨⟨h1,h2⟩,⟨h3,h4⟩,h5,h6⟩,⟨h7,h8⟩,⟨h9,h10⟩,h11,h12⟩,h13,h14,h15⟩
 ·rintro⟨⟨⟨⟨h1,h2⟩,⟨h3,h4⟩,h5,h6⟩,⟨h7,h8⟩,⟨h9,h10⟩,h11,h12⟩,h13,h14,h15⟩
  exact⟨h1,h2,h3,h4,h5,h6,h7,h8,h9,h10,h11,h12,h13,h14,h15⟩
theorem turn429{ρ:Type} (K:Exit->St->Option ρ) (go:St->Option ρ) (t u:List Nd) (i:Int):turnF tokE A429 43 0 0 (loopAt Tryz.f34 0) K go (σ429 t u i ()) =
  bif decide (i<(t.length:Int))then(if 0<=i then t[i.toNat]?.bind (fun x=>if 0<=i then u[i.toNat]?.bind (fun y=>bif !ndQ x y then K .ret ⟨[(2,one (.bool false))],[]⟩else go (σ429 t u (IntKind.i64.wrap (i+1)) ()))else none)else none)
  else K (.exit 0) ⟨[(2,.undef)],[]⟩:=by kernel_rfl
def eqNs:List Nd->List Nd->Bool
 | [],[]=>true
 | x :: a,y :: b=>ndQ x y&&eqNs a b
 | _,_=>false
theorem eqNs_iff:∀ {a b:List Nd},eqNs a b=true ↔ a=b
 | [],[]=>by simp [eqNs]
 | [],y :: b=>by simp [eqNs]
 | x :: a,[]=>by simp [eqNs]
 | x :: a,y :: b=>by
  unfold eqNs;rw[Bool.and_eq_true,ndQ_iff,eqNs_iff,List.cons.injEq]
theorem runL_eq{ρ:Type} {u:List Nd} {fin ret:Option ρ} (a:List Nd):∀ (b:List Nd) (i:Nat),(∀ j,u[i+j]? = b[j]?)->a.length=b.length ->
  runL (fun i x (st:Unit) k=>u[i.toNat]?.bind fun y=>bif !ndQ x y then ret else k st) (fun _=>fin) a (i:Int) ()=bif eqNs a b then fin else ret:=by
 induction a with
 | nil =>
  intro b i h hl;cases b with
  | nil=>rfl
  | cons y b=>simp at hl
 | cons x a ih =>
  intro b i h hl;cases b with
  | nil=>simp at hl
  | cons y b =>
   have h0:=h 0;rw[Nat.add_zero,List.getElem?_cons_zero]at h0;have ih:=ih b (i+1) (fun j=>by
    have:=h (j+1);rw[List.getElem?_cons_succ]at this;rw[<- this];congr 1;omega) (by simpa using hl)
   have e:runL (fun i x (st:Unit) k=>u[i.toNat]?.bind fun y=>bif !ndQ x y then ret else k st) (fun _=>fin) (x :: a) (i:Int) () =
    u[Int.toNat (i:Int)]?.bind fun y=>bif !ndQ x y then ret else runL (fun i x (st:Unit) k=>u[i.toNat]?.bind fun y=>bif !ndQ x y then ret else k st) (fun _=>fin) a ((i:Int)+1) ():=rfl
   have e2:eqNs (x :: a) (y :: b)=(ndQ x y&&eqNs a b):=rfl;rw[e,Int.toNat_natCast,h0,Option.bind_some,e2];cases ndQ x y
   ·rfl
   ·exact ih
theorem loop429{ρ:Type} (K:Exit->St->Option ρ) {t u:List Nd} (hl:t.length<4611686018427387904) (hu:t.length=u.length) :
  itF (turnF tokE A429 43 0 0 (loopAt Tryz.f34 0) K) (fun _=>none) (t.length+1) (σ429 t u 0 ())=bif eqNs t u then K (.exit 0) ⟨[(2,.undef)],[]⟩else K .ret ⟨[(2,one (.bool false))],[]⟩:=by
 have key:=itF_list0 (T:=turnF tokE A429 43 0 0 (loopAt Tryz.f34 0) K) (xs:=t) (s:=fun i st=>σ429 t u i st) (body:=fun i x (st:Unit) k=>u[i.toNat]?.bind fun y=>bif !ndQ x y then K .ret ⟨[(2,one (.bool false))],[]⟩else k st) (fin:=fun _=>K (.exit 0) ⟨[(2,.undef)],[]⟩)
  (fun go st=>by rw[turn429,lst_out])
  (fun go i hi st=>by rw[turn429,lst_in hi,if_pos (by omega),lst_wrap hl hi]) ()
 rw[key];exact runL_eq t u 0 (fun j=>by rw[Nat.zero_add]) hu
noncomputable def S429:Sum:=fun n0 ρ σ K=>match n0,σ with
 | 0,⟨[(0,.v false [.sl none (.pair (.pair (.pair (.pair (.int .i64) (.int .i64)) (.pair (.pair (.int .i64) (.int .i64)) (.pair (.int .i64) (.int .i64)))) (.pair (.pair (.int .i64) (.int .i64)) (.pair (.pair (.int .i64) (.int .i64)) (.pair (.int .i64) (.int .i64))))) (.pair (.int .i64) (.pair (.int .i64) (.int .i64)))) t]),
   (5,.v false [.sl none (.pair (.pair (.pair (.pair (.int .i64) (.int .i64)) (.pair (.pair (.int .i64) (.int .i64)) (.pair (.int .i64) (.int .i64)))) (.pair (.pair (.int .i64) (.int .i64)) (.pair (.pair (.int .i64) (.int .i64)) (.pair (.int .i64) (.int .i64))))) (.pair (.int .i64) (.pair (.int .i64) (.int .i64)))) u]),(29,.v false [.int .i64 l]),(30,.v false [.int .i64 i])],[]⟩ =>
  if l=(List.length (α:=Nd) t:Int)/\i=0/\(List.length (α:=Nd) t:Int)=(List.length (α:=Nd) u:Int)/\(List.length (α:=Nd) t:Int)<=2000000 then(bif eqNs t u then K (.exit 0) ⟨[(2,.undef)],[]⟩else K .ret ⟨[(2,one (.bool false))],[]⟩)else none
 | _,_=>none
theorem sum429:SumOK NN Tryz.prog 43 (loopAt Tryz.f34 0) S429:=
 SumOK.of_turns tokE_ok mixT (A:=A429) (SumsOK.none fun _=>rfl) fun n0 ρ σ K r hr=>by
  unfold S429 at hr;split at hr
  ·rename_i t u l i;split at hr
   ·rename_i hc;obtain⟨rfl,rfl,h3,h4⟩:=hc;exact⟨_,(loop429 K (t:=t) (u:=u) (by omega) (by omega)).trans hr⟩
   ·contradiction
  ·contradiction
noncomputable def A429s:Ann:={ A429 with sum:=fun i=>bif Nat.beq i 8 then some S429 else none }
theorem gq429{ρ:Type} (cont:SV->HL->Option ρ) (t:List Nd):runF tokE A429s 0 Tryz.f34 (bodyOf Tryz.f34) ρ [one (.sl none tNd t)] [] cont =
  if t.length<=2000000 then(bif !(lvI skI t).2 then cont (one (.bool false)) []else bif !btB (lvI skI t).1 then cont (one (.bool false)) []else bif bif false then true else((btI (lvI skI t).1).length:Int) != (t.length:Int)then cont (one (.bool false)) []else
   if(t.length:Int)=(t.length:Int)/\(0:Int)=0/\(t.length:Int)=((btI (lvI skI t).1).length:Int)/\(t.length:Int)<=2000000 then(bif eqNs t (btI (lvI skI t).1)then cont (one (.bool true)) []else cont (one (.bool false)) [])else none)else none:=by kernel_rfl
theorem tk_ex:∃ f,f=tokG skS:=⟨_,rfl⟩
noncomputable def tkI:=tk_ex.choose
theorem tkI_eq:tkI=tokG skS:=tk_ex.choose_spec
noncomputable def tkO:Orc:=fun ρ args H cont=>match args,H with
 | [.v false [.sl _ (.pair (.pair (.pair (.pair (.int .i64) (.int .i64)) (.pair (.pair (.int .i64) (.int .i64)) (.pair (.int .i64) (.int .i64)))) (.pair (.pair (.int .i64) (.int .i64)) (.pair (.pair (.int .i64) (.int .i64)) (.pair (.int .i64) (.int .i64))))) (.pair (.int .i64) (.pair (.int .i64) (.int .i64)))) t]],[]=>if List.length (α:=Nd) t<=2000000 then cont (one (.bool (tkI t))) []else none
 | _,_=>none
noncomputable def tkO1:Orc:=fun ρ args H cont=>match args,H with
 | [.v false [.sl none (.pair (.pair (.pair (.pair (.int .i64) (.int .i64)) (.pair (.pair (.int .i64) (.int .i64)) (.pair (.int .i64) (.int .i64)))) (.pair (.pair (.int .i64) (.int .i64)) (.pair (.pair (.int .i64) (.int .i64)) (.pair (.int .i64) (.int .i64))))) (.pair (.int .i64) (.pair (.int .i64) (.int .i64)))) t]],[]=>if List.length (α:=Nd) t<=2000000 then cont (one (.bool (tkI t))) []else none
 | _,_=>none
theorem tok_parts(sk:Nd->Bool) (t:List Nd):tokG sk t=match lvP sk t with
  | some L=>btB L&&eqNs t (btV L)
  | none=>false:=by
 unfold tokG lvP
 by_cases h:t.length % 2=1/\t.length<120
 ·rw[if_pos h,decide_eq_true h.1,decide_eq_true h.2,Bool.true_and,Bool.true_and];cases hL:lvG sk t with
  | none=>rfl
  | some L =>
   have hl:=lvG_len hL;dsimp only;have e:btB L=L.all okBd:=by unfold btB;rw[decide_eq_true (by omega),decide_eq_true (by omega),Bool.true_and,Bool.true_and]
   unfold btV;rw[e];cases L.all okBd
   ·rfl
   ·rw[if_pos rfl,Bool.true_and,Bool.true_and]
    by_cases e:bldT L=t
    ·rw[decide_eq_true e,eqNs_iff.2 e.symm]
    ·rw[decide_eq_false e];cases hq:eqNs t (bldT L)
     ·rfl
     ·exact absurd (eqNs_iff.1 hq).symm e
 ·rw[if_neg h]
  by_cases h1:t.length % 2=1
  ·rw[decide_eq_true h1,decide_eq_false (p:=t.length<120) (fun e=>h ⟨h1,e⟩)];rfl
  ·rw[decide_eq_false h1];rfl
theorem tk_run{ρ:Type} (cont:SV->HL->Option ρ) {t:List Nd} (hl:t.length<=2000000):runF tokE A429s 0 Tryz.f34 (bodyOf Tryz.f34) ρ [one (.sl none tNd t)] [] cont=cont (one (.bool (tkI t))) []:=by
 rw[gq429,if_pos hl,tkI_eq,<- tok_eq,tok_parts,btI_eq];have hp:lvI skI t=((lvP skI t).getD [],(lvP skI t).isSome):=by rw[lvI_eq]
 revert hp;generalize lvI skI t=p;cases lvP skI t with
 | none=>intro hp;subst hp;rfl
 | some L =>
  intro hp;subst hp;have e0:(match some L with | some L=>btB L&&eqNs t (btV L) | none=>false)=(btB L&&eqNs t (btV L)):=rfl;rw[Option.getD_some,Option.isSome_some,e0];have q1:(L,true).1=L:=rfl;cases hb:btB L
  ·rfl
  ·rw[Bool.true_and];show (bif bif false then true else((btV L).length:Int) != (t.length:Int)then cont (one (.bool false)) []else _)=_
   by_cases e:(btV L).length=t.length
   ·have e1:(((btV L).length:Int) != (t.length:Int))=false:=by rw[bne_eq_false_iff_eq];omega
    rw[e1,cond_false,cond_false,if_pos ⟨rfl,rfl,by rw[q1];omega,by omega⟩];show (bif eqNs t (btV L)then _ else _)=_;cases eqNs t (btV L) <;> rfl
   ·have e1:(((btV L).length:Int) != (t.length:Int))=true:=by rw[bne_iff_ne];omega
    rw[e1,cond_false,cond_true];cases hq:eqNs t (btV L)
    ·rfl
    ·exact absurd (by rw[<- eqNs_iff.1 hq]) e
theorem orc_tk1:OrcOK NN Tryz.prog 34 tkO1:=
 OrcOK.of_tale (runF_ok tokE_ok mixT (A:=A429s) (fuel:=0) Tryz.func34 (c:=bodyOf Tryz.f34) (by kernel_rfl) (SumsOK.ofL (ls:=[loopAt Tryz.f34 0]) (by kernel_rfl) ⟨sumL1 (by kernel_rfl) sum429,trivial⟩)) fun ρ args H cont r hr=>by
  unfold tkO1 at hr;split at hr
  ·rename_i t;split at hr
   ·rename_i hc;exact(tk_run cont (t:=t) hc).trans hr
   ·contradiction
  ·contradiction
theorem orc_tk:OrcOK NN Tryz.prog 34 tkO:=OrcOK.argc orc_tk1 fun args H cont r hr=>by
  unfold tkO at hr;split at hr
  ·rename_i nb t;refine⟨[one (.sl none tNd t)],hr,fun s hs i hi=>?_,fun G κ vs hv=>?_⟩
   ·rw[List.mem_singleton]at hs;subst hs;cases hi
   ·obtain⟨v1,r1,e1,h1,h3⟩:=hv;exact⟨v1,r1,e1,sl_plain h1,h3⟩
  ·contradiction
end Go.Abs
namespace Go.Abs
open Go.Proofs
set_option maxRecDepth 100000
def bdA(b:Bd):SV:=i12 b.1.1.1 b.1.1.2 b.1.2.1.1 b.1.2.1.2 b.1.2.2.1 b.1.2.2.2 b.2.1.1 b.2.1.2 b.2.2.1.1 b.2.2.1.2 b.2.2.2.1 b.2.2.2.2
def bdB(b:Bd):Blk:=.var [.int .i64 b.1.1.1,.int .i64 b.1.1.2,.int .i64 b.1.2.1.1,.int .i64 b.1.2.1.2,.int .i64 b.1.2.2.1,.int .i64 b.1.2.2.2,.int .i64 b.2.1.1,.int .i64 b.2.1.2,.int .i64 b.2.2.1.1,.int .i64 b.2.2.1.2,.int .i64 b.2.2.2.1,.int .i64 b.2.2.2.2]
noncomputable def aroE:Env:=VZ [(92,qcmO)]
theorem aroE_ok:EnvOK NN Tryz.prog aroE:=VZ_ok (gamC orc_qcmS Tryz.call92 (gamN _ _))
def A470:Ann:={ head:=ptOf [(3,[0,1,4,5,6],[])],out:=ptOf [(3,[4,5],[])],shut:=true }
def σ470(bs:List Bd) (xs:List Int) (i:Int) (b:Bd):St:=⟨[(0,one (.sl none tBx bs)),(1,one (.sl none (.int .i64) xs)),(4,one (.ptr 0 0)),(5,one (.ptr 1 0)),(6,one (.int .i64 i))],[bdB bd0,bdB b]⟩
def σ470o(b:Bd):St:=⟨[(4,one (.ptr 0 0)),(5,one (.ptr 1 0))],[bdB bd0,bdB b]⟩
section
variable {ρ:Type}
def qlsK(a c:Qd) (k:Qd->Option ρ):Option ρ:=bif decide (qcmV c.1 c.2 a.1 a.2<0)then k c else k a
def qgrK(a c:Qd) (k:Qd->Option ρ):Option ρ:=bif decide (0<qcmV c.1 c.2 a.1 a.2)then k c else k a
def qwiK(b c:Bd) (k:Bd->Option ρ):Option ρ:=qlsK b.1.1 c.1.1 fun a1=>qlsK b.1.2.1 c.1.2.1 fun a2=>qlsK b.1.2.2 c.1.2.2 fun a3=>qgrK b.2.1 c.2.1 fun a4=>qgrK b.2.2.1 c.2.2.1 fun a5=>qgrK b.2.2.2 c.2.2.2 fun a6=>k ((a1,a2,a3),(a4,a5,a6))
theorem turn470(K:Exit->St->Option ρ) (go:St->Option ρ) (bs:List Bd) (xs:List Int) (i:Int) (b:Bd):turnF aroE A470 106 0 0 (loopAt Tryz.f128 0) K go (σ470 bs xs i b) =
  bif decide (i<(xs.length:Int))then(if 0<=i then xs[i.toNat]?.bind (fun x=>if(0:Int)<=x then bs[Int.toNat x]?.bind (fun c=>qwiK b c fun b'=>go (σ470 bs xs (IntKind.i64.wrap (i+1)) b'))else none)else none)
  else K (.exit 0) (σ470o b):=by kernel_rfl
end
theorem qlsK_eq{ρ:Type} {a c:Qd} (ha:okQd a=true) (hc:okQd c=true) (k:Qd->Option ρ):qlsK a c k=k (lsS a c):=by
 unfold qlsK lsS;have e:qcmV c.1 c.2 a.1 a.2=cmpQ (vQ c) (vQ a):=by
  unfold qcmV ok2;rw[show qOkB c.1 c.2=true from hc,show qOkB a.1 a.2=true from ha];rfl
 rw[e]
 by_cases h:vQ c<vQ a
 ·rw[if_pos h,decide_eq_true (cmpQ_lt.2 h)];rfl
 ·rw[if_neg h,decide_eq_false (fun q=>h (cmpQ_lt.1 q))];rfl
theorem qgrK_eq{ρ:Type} {a c:Qd} (ha:okQd a=true) (hc:okQd c=true) (k:Qd->Option ρ):qgrK a c k=k (grS a c):=by
 unfold qgrK grS;have e:qcmV c.1 c.2 a.1 a.2=cmpQ (vQ c) (vQ a):=by
  unfold qcmV ok2;rw[show qOkB c.1 c.2=true from hc,show qOkB a.1 a.2=true from ha];rfl
 rw[e]
 by_cases h:vQ a<vQ c
 ·rw[if_pos h,decide_eq_true (cmpQ_gt.2 h)];rfl
 ·rw[if_neg h,decide_eq_false (fun q=>h (cmpQ_gt.1 q))];rfl
theorem qwiK_eq{ρ:Type} {b c:Bd} (hb:okBd b=true) (hc:okBd c=true) (k:Bd->Option ρ):qwiK b c k=k (wiS b c):=by
 obtain⟨⟨⟨a1,a2,a3⟩,a4,a5,a6⟩,_⟩:=okBd_iff.1 hb;obtain⟨⟨⟨b1,b2,b3⟩,b4,b5,b6⟩,_⟩:=okBd_iff.1 hc;unfold qwiK;rw[qlsK_eq a1 b1,qlsK_eq a2 b2,qlsK_eq a3 b3,qgrK_eq a4 b4,qgrK_eq a5 b5,qgrK_eq a6 b6];rfl
def arS2(bs:List Bd) (i:Nat) (x:Int) (b:Bd):Bd:=match bs[x.toNat]? with
 | some c=>wiS b c
 | none=>b
theorem arS2_fold(bs:List Bd):∀ (xs:List Int) (i:Nat) (b:Bd),foldI (arS2 bs) xs i b=arS bs b xs
 | [],i,b=>rfl
 | x :: r,i,b=>by
  unfold foldI;rw[arS2_fold bs r];rfl
def okL(bs:List Bd) (xs:List Int):Bool:=bs.all okBd&&xs.all fun x=>decide (0<=x)&&decide (x<(bs.length:Int))
theorem okL_iff{bs:List Bd} {xs:List Int}:okL bs xs=true ↔ (∀ b∈bs,okBd b=true) /\ ∀ x∈xs,0<=x/\x<(bs.length:Int):=by
 unfold okL;rw[Bool.and_eq_true,List.all_eq_true,List.all_eq_true];simp only [Bool.and_eq_true,decide_eq_true_eq]
theorem okL_at{bs:List Bd} {xs:List Int} (h:okL bs xs=true) {x:Int} (hx:x∈xs):0<=x /\ ∃ b,bs[x.toNat]? = some b/\okBd b=true:=by
 obtain⟨h1,h2⟩:=okL_iff.1 h;obtain⟨x0,x1⟩:=h2 x hx;exact⟨x0,_,List.getElem?_eq_getElem (show x.toNat<bs.length by omega),h1 _ (List.getElem_mem _)⟩
theorem loop470{ρ:Type} (K:Exit->St->Option ρ) {bs:List Bd} {x:Int} {r:List Int} (h:okL bs (x :: r)=true) (hl:r.length<=1000) {b:Bd} (hb:okBd b=true) :
  itF (turnF aroE A470 106 0 0 (loopAt Tryz.f128 0) K) (fun _=>none) (r.length+1) (σ470 bs (x :: r) 1 b)=K (.exit 0) (σ470o (arS bs b r)):=by
 have key:=itF_fold (T:=turnF aroE A470 106 0 0 (loopAt Tryz.f128 0) K) (xs:=x :: r) (s:=fun i b=>σ470 bs (x :: r) i b) (stp:=arS2 bs) (fin:=fun b=>K (.exit 0) (σ470o b)) (I:=fun b=>okBd b=true)
  (fun go st hI=>by rw[turn470,lst_out])
  (fun go i hi st hI=>by
   obtain⟨x0,c,hc,oc⟩:=okL_at h (List.getElem_mem hi);have e:arS2 bs i (x :: r)[i] st=wiS st c:=by unfold arS2;rw[hc]
   refine⟨?_,by rw[e];exact(wiS_ok hI oc).1⟩;have hl':(x :: r).length<=1001:=by rw[List.length_cons];omega
   rw[turn470,lst_in hi,if_pos x0,hc,Option.bind_some,qwiK_eq hI oc,lst_wrap (by omega) hi,e])
  r.length 1 b (by rw[List.length_cons];omega) hb
 have e1:(x :: r).drop 1=r:=rfl;rw[e1,arS2_fold]at key;exact key.1
theorem arj_ex:∃ f:List Bd->List Int->Bd,f=fun bs xs=>arS bs (bs[(xs.headD 0).toNat]?.getD bd0) xs.tail:=⟨_,rfl⟩
noncomputable def arJ:=arj_ex.choose
theorem arJ_eq:arJ=fun bs xs=>arS bs (bs[(xs.headD 0).toNat]?.getD bd0) xs.tail:=arj_ex.choose_spec
noncomputable def S470:Sum:=fun n0 ρ σ K=>match n0,σ with
 | 0,⟨[(0,.v false [.sl none (.pair (.pair (.pair (.int .i64) (.int .i64)) (.pair (.pair (.int .i64) (.int .i64)) (.pair (.int .i64) (.int .i64)))) (.pair (.pair (.int .i64) (.int .i64)) (.pair (.pair (.int .i64) (.int .i64)) (.pair (.int .i64) (.int .i64))))) bs]),(1,.v false [.sl none (.int .i64) xs]),(4,.v false [.ptr 0 0]),(5,.v false [.ptr 1 0]),(6,.v false [.int .i64 i])],
   [.var [.int .i64 0,.int .i64 0,.int .i64 0,.int .i64 0,.int .i64 0,.int .i64 0,.int .i64 0,.int .i64 0,.int .i64 0,.int .i64 0,.int .i64 0,.int .i64 0],.var [.int .i64 b1,.int .i64 b2,.int .i64 b3,.int .i64 b4,.int .i64 b5,.int .i64 b6,.int .i64 b7,.int .i64 b8,.int .i64 b9,.int .i64 b10,.int .i64 b11,.int .i64 b12]]⟩ =>
  if okL bs xs=true/\i=1/\1<=List.length (α:=Int) xs/\List.length (α:=Int) xs<=1000/\bs[(List.headD (α:=Int) xs 0).toNat]? = some (((b1,b2),(b3,b4),(b5,b6)),((b7,b8),(b9,b10),(b11,b12)))then K (.exit 0) (σ470o (arJ bs xs))else none
 | _,_=>none
theorem sum470:SumOK NN Tryz.prog 106 (loopAt Tryz.f128 0) S470:=
 SumOK.of_turns aroE_ok mixT (A:=A470) (SumsOK.none fun _=>rfl) fun n0 ρ σ K r hr=>by
  unfold S470 at hr;split at hr
  ·rename_i bs xs i b1 b2 b3 b4 b5 b6 b7 b8 b9 b10 b11 b12;split at hr
   ·rename_i hc;obtain⟨h1,rfl,h3,h4,h5⟩:=hc;cases xs with
    | nil=>simp at h3
    | cons x r' =>
     obtain⟨x0,b,hb,ob⟩:=okL_at h1 (x:=x) List.mem_cons_self;have h5':bs[x.toNat]? = some (((b1,b2),(b3,b4),(b5,b6)),((b7,b8),(b9,b10),(b11,b12))):=h5;have hbe:=Option.some.inj (hb.symm.trans h5');have h4':r'.length<=1000:=by rw[List.length_cons]at h4;omega
     refine⟨_,(loop470 K h1 h4' (b:=(((b1,b2),(b3,b4),(b5,b6)),((b7,b8),(b9,b10),(b11,b12)))) (hbe ▸ ob)).trans ?_⟩;rw[arJ_eq]at hr;dsimp only [List.headD_cons,List.tail_cons]at hr;rw[h5']at hr;exact hr
   ·contradiction
  ·contradiction
noncomputable def A470s:Ann:={ A470 with sum:=fun i=>bif Nat.beq i 3 then some S470 else none }
theorem gq470{ρ:Type} (cont:SV->HL->Option ρ) (bs:List Bd) (x:Int) (r:List Int):runF aroE A470s 0 Tryz.f128 (bodyOf Tryz.f128) ρ [one (.sl none tBx bs),one (.sl none (.int .i64) (x :: r))] [] cont =
  if(0:Int)<=x then bs[Int.toNat x]?.bind (fun b=>if okL bs (x :: r)=true/\(1:Int)=1/\1<=(x :: r).length/\(x :: r).length<=1000/\bs[(List.headD (x :: r) 0).toNat]? = some b then cont (bdA (arJ bs (x :: r))) []else none)else none:=by kernel_rfl
noncomputable def arO:Orc:=fun ρ args H cont=>match args,H with
 | [.v false [.sl _ (.pair (.pair (.pair (.int .i64) (.int .i64)) (.pair (.pair (.int .i64) (.int .i64)) (.pair (.int .i64) (.int .i64)))) (.pair (.pair (.int .i64) (.int .i64)) (.pair (.pair (.int .i64) (.int .i64)) (.pair (.int .i64) (.int .i64))))) bs],.v false [.sl _ (.int .i64) xs]],[] =>
  if okL bs xs=true/\1<=List.length (α:=Int) xs/\List.length (α:=Int) xs<=1000 then cont (bdA (arJ bs xs)) []else none
 | _,_=>none
noncomputable def arO1:Orc:=fun ρ args H cont=>match args,H with
 | [.v false [.sl none (.pair (.pair (.pair (.int .i64) (.int .i64)) (.pair (.pair (.int .i64) (.int .i64)) (.pair (.int .i64) (.int .i64)))) (.pair (.pair (.int .i64) (.int .i64)) (.pair (.pair (.int .i64) (.int .i64)) (.pair (.int .i64) (.int .i64))))) bs],.v false [.sl none (.int .i64) xs]],[] =>
  if okL bs xs=true/\1<=List.length (α:=Int) xs/\List.length (α:=Int) xs<=1000 then cont (bdA (arJ bs xs)) []else none
 | _,_=>none
theorem orc_ar1:OrcOK NN Tryz.prog 128 arO1:=
 OrcOK.of_tale (runF_ok aroE_ok mixT (A:=A470s) (fuel:=0) Tryz.func128 (c:=bodyOf Tryz.f128) (by kernel_rfl) (SumsOK.ofL (ls:=[loopAt Tryz.f128 0]) (by kernel_rfl) ⟨sumL1 (by kernel_rfl) sum470,trivial⟩)) fun ρ args H cont r hr=>by
  unfold arO1 at hr;split at hr
  ·rename_i bs xs;split at hr
   ·rename_i hc;obtain⟨h1,h2,h3⟩:=hc;cases xs with
    | nil=>simp at h2
    | cons x r' =>
     obtain⟨x0,b,hb,ob⟩:=okL_at h1 (x:=x) List.mem_cons_self;refine(gq470 cont bs x r').trans ?_;rw[if_pos x0,hb,Option.bind_some,if_pos ⟨h1,rfl,h2,h3,hb⟩];exact hr
   ·contradiction
  ·contradiction
theorem sl_plain2{G:Ghost} {κ:Kap} {a b:Option Bool} {t u:Ty} {xs:List t.den} {ys:List u.den} {s:List SV} {vs:List Value} (h:SvsR NN G κ (.v false [.sl a t xs] :: .v false [.sl b u ys] :: s) vs):SvsR NN G κ (.v false [.sl none t xs] :: .v false [.sl none u ys] :: s) vs:=by
 obtain⟨v1,r1,e1,h1,v2,r2,e2,h2,h3⟩:=h;exact⟨v1,r1,e1,sl_plain h1,v2,r2,e2,sl_plain h2,h3⟩
theorem orc_ar:OrcOK NN Tryz.prog 128 arO:=OrcOK.argc orc_ar1 fun args H cont r hr=>by
  unfold arO at hr;split at hr
  ·rename_i nb bs mb xs;refine⟨[one (.sl none tBx bs),one (.sl none (.int .i64) xs)],hr,fun s hs i hi=>?_,fun G κ vs hv=>sl_plain2 hv⟩;rcases List.mem_cons.1 hs with rfl | hs
   ·cases hi
   ·rw[List.mem_singleton]at hs;subst hs;cases hi
  ·contradiction
end Go.Abs
namespace Go.Abs
open Go.Proofs
set_option maxRecDepth 100000
noncomputable def coE:Env:=VZ [(60,lat2 (fun p q=>szQ p&&szQ q) fun p q=>nm 1 (p-q))]
theorem coE_ok:EnvOK NN Tryz.prog coE:=VZ_ok (gamC orc27 Tryz.call60 (gamN _ _))
def n3T(k:Nat) (a b c:Rat):SV:=.v true [.num k (some a),.num k (some b),.num k (some c)]
def sb3O:Orc:=fun ρ args H cont=>match args,H with
 | [.v true [.num 1 (some a),.num 1 (some b),.num 1 (some c)],.v true [.num 1 (some d),.num 1 (some e),.num 1 (some f)]],[]=>if(s8 a=true/\s8 b=true/\s8 c=true)/\s8 d=true/\s8 e=true/\s8 f=true then cont (n3T 1 (a-d) (b-e) (c-f)) []else none
 | _,_=>none
def cd3T(k:Int) (a b c:Rat):Rat:=bif k==0 then a else bif k==1 then b else c
theorem cd_ex:∃ f,f=cd3T:=⟨_,rfl⟩
noncomputable def cdI:=cd_ex.choose
theorem cdI_eq:cdI=cd3T:=cd_ex.choose_spec
noncomputable def cdTO:Orc:=fun ρ args H cont=>match args,H with
 | [.v true [.num 1 (some a),.num 1 (some b),.num 1 (some c)],.v false [.int .i64 k]],[]=>cont (nm 1 (cdI k a b c)) []
 | _,_=>none
theorem gq471{ρ:Type} (cont:SV->HL->Option ρ) (a b c d e f:Rat):runF coE Ash 0 Tryz.f129 (bodyOf Tryz.f129) ρ [n3T 1 a b c,n3T 1 d e f] [] cont =
  if(szQ a&&szQ d)=true then(if(szQ b&&szQ e)=true then(if(szQ c&&szQ f)=true then cont (n3T 1 (a-d) (b-e) (c-f)) []else none)else none)else none:=by kernel_rfl
theorem gq454{ρ:Type} (cont:SV->HL->Option ρ) (a b c:Rat) (k:Int):runF coE Ash 0 Tryz.f59 (bodyOf Tryz.f59) ρ [n3T 1 a b c,one (.int .i64 k)] [] cont =
  bif k==0 then cont (nm 1 a) []else bif k==1 then cont (nm 1 b) []else cont (nm 1 c) []:=by kernel_rfl
theorem orc_sb3:OrcOK NN Tryz.prog 129 sb3O:=
 OrcOK.of_tale (cR_ok (A:=Ash) (fuel:=0) coE_ok rfl Tryz.func129 (by kernel_rfl)) fun ρ args H cont r hr=>by
  unfold sb3O at hr;split at hr
  ·rename_i a b c d e f;split at hr
   ·rename_i hc;obtain⟨⟨h1,h2,h3⟩,h4,h5,h6⟩:=hc;refine(gq471 cont a b c d e f).trans ?_;rw[if_pos (s8_both h1 h4),if_pos (s8_both h2 h5),if_pos (s8_both h3 h6)];exact hr
   ·contradiction
  ·contradiction
theorem orc_cdT:OrcOK NN Tryz.prog 59 cdTO:=
 OrcOK.of_tale (cR_ok (A:=Ash) (fuel:=0) coE_ok rfl Tryz.func59 (by kernel_rfl)) fun ρ args H cont r hr=>by
  unfold cdTO at hr;split at hr
  ·rename_i a b c k;refine(gq454 cont a b c k).trans (Eq.trans ?_ hr);rw[cdI_eq];unfold cd3T;cases k==0 <;> cases k==1 <;> rfl
  ·contradiction
theorem bd_ex:∃ f,f=bldS:=⟨_,rfl⟩
noncomputable def bldJ:=bd_ex.choose
theorem bldJ_eq:bldJ=bldS:=bd_ex.choose_spec
noncomputable def bluO(n:Nat):Orc:=fun ρ args H cont=>match args,H with
 | [.v false [.sl _ (.pair (.pair (.pair (.int .i64) (.int .i64)) (.pair (.pair (.int .i64) (.int .i64)) (.pair (.int .i64) (.int .i64)))) (.pair (.pair (.int .i64) (.int .i64)) (.pair (.pair (.int .i64) (.int .i64)) (.pair (.int .i64) (.int .i64))))) bs],.v false [.sl _ (.int .i64) xs],.v false [.wsl 0 15]],
   [.arr 72 (.pair (.pair (.pair (.pair (.int .i64) (.int .i64)) (.pair (.pair (.int .i64) (.int .i64)) (.pair (.int .i64) (.int .i64)))) (.pair (.pair (.int .i64) (.int .i64)) (.pair (.pair (.int .i64) (.int .i64)) (.pair (.int .i64) (.int .i64))))) (.pair (.int .i64) (.pair (.int .i64) (.int .i64)))) ns false false] =>
  if(okL bs xs=true/\okIt (List.length bs) xs)/\1<=List.length (α:=Int) xs/\List.length (α:=Int) xs<=n/\List.length (α:=Int) xs<=100/\List.length (α:=Nd) ns+2*List.length (α:=Int) xs<=1000 then cont (one (.wsl 1 15)) [.dead,.arr 72 tNd ((show List Nd from ns)++bldJ bs n xs (List.length (α:=Nd) ns:Int)) false true]else none
 | _,_=>none
def Mbl:Nat->List (Nat × Ty):=fun f=>bif Nat.beq f 98 then [(1,.list (.int .i64))]else []
noncomputable def bluE(n:Nat):Env:={ VZ [(128,arO),(51,boO 1),(129,sb3O),(30,lat2 (fun p q=>szQ p&&szQ q) fun p q=>one (.int .i64 (cmpQ p q))),(59,cdTO),(61,lat2 (fun p q=>szQ p&&szQ q) fun p q=>nm 1 (p+q)),(98,bluO n)]with M:=Mbl }
theorem bluE_ok{n:Nat} (h:OrcOK NN Tryz.prog 98 (bluO n)):EnvOK NN Tryz.prog (bluE n):=
 have h:EnvOK NN Tryz.prog (VZ [(128,arO),(51,boO 1),(129,sb3O),(30,lat2 (fun p q=>szQ p&&szQ q) fun p q=>one (.int .i64 (cmpQ p q))),(59,cdTO),(61,lat2 (fun p q=>szQ p&&szQ q) fun p q=>nm 1 (p+q)),(98,bluO n)]):=
  VZ_ok (gamC orc_ar Tryz.call128 (gamC orc_boS Tryz.call51 (gamC orc_sb3 Tryz.call129 (gamC orc51 Tryz.call30 (gamC orc_cdT Tryz.call59 (gamC orc70 Tryz.call61 (gamC h Tryz.call98 (gamN _ _))))))))
 {T:=h.T,E:=h.E,Γ:=h.Γ,X:=h.X,Y:=h.Y }
def A466:Ann:={ head:=ptOf [(17,[0,1,2,8,11,12,13,14],[]),(22,[0,1,2,8,11,12,13,14,16,17],[]),(29,[0,1,2,8,11,12,13,14,16,17,19],[])],out:=ptOf [(17,[0,1,2,8,11,12,13],[]),(22,[0,1,2,8,11,12,13,14,16,17],[]),(29,[0,1,2,8,11,12,13,14,16,17],[])] }
def hp466(ns:List Nd) (s:List Int) (ks:List Rat):HL:=[.dead,.arr 72 tNd ns false true,.arr 2 (.int .i64) s false true,.arr 61 (.num 1) ks false true]
def σ466i(bs:List Bd) (xs:List Int) (ns:List Nd) (a k i:Int) (s:List Int) (ks:List Rat) (q:Rat) (p:Int):St:=⟨[(0,one (.sl none tBx bs)),(1,one (.sl none (.int .i64) xs)),(2,one (.wsl 1 15)),(8,one (.int .i64 a)),(11,one (.int .i64 k)),(12,one (.wsl 2 1)),(13,one (.wsl 3 3)),(14,one (.int .i64 i)),(16,one (.ptr 4 0)),(17,one (.int .i64 p))],hp466 ns s ks ++ [.var [.num 1 (some q)]]⟩
def σ466j(bs:List Bd) (xs:List Int) (ns:List Nd) (a k i:Int) (s:List Int) (ks:List Rat) (q:Rat) (p j:Int):St:=⟨[(0,one (.sl none tBx bs)),(1,one (.sl none (.int .i64) xs)),(2,one (.wsl 1 15)),(8,one (.int .i64 a)),(11,one (.int .i64 k)),(12,one (.wsl 2 1)),(13,one (.wsl 3 3)),(14,one (.int .i64 i)),(16,one (.ptr 4 0)),(17,one (.int .i64 p)),(19,one (.int .i64 j))],hp466 ns s ks ++ [.var [.num 1 (some q)]]⟩
def σ466o(bs:List Bd) (xs:List Int) (ns:List Nd) (a k:Int) (s:List Int) (ks:List Rat) (i:Int):St:=⟨[(0,one (.sl none tBx bs)),(1,one (.sl none (.int .i64) xs)),(2,one (.wsl 1 15)),(8,one (.int .i64 a)),(11,one (.int .i64 k)),(12,one (.wsl 2 1)),(13,one (.wsl 3 3)),(14,one (.int .i64 i))],hp466 ns s ks⟩
def σ466c(bs:List Bd) (xs:List Int) (ns:List Nd) (a k:Int) (s:List Int) (ks:List Rat):St:=⟨[(0,one (.sl none tBx bs)),(1,one (.sl none (.int .i64) xs)),(2,one (.wsl 1 15)),(8,one (.int .i64 a)),(11,one (.int .i64 k)),(12,one (.wsl 2 1)),(13,one (.wsl 3 3))],hp466 ns s ks⟩
end Go.Abs

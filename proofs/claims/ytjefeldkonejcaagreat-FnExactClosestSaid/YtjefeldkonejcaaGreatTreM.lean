/-
 A PART OF THE PROOF of ClI (texts TreM TreN TreO TreU TreV TreW TreX TreY): the claim itself stands in the last text. No conditions beside those of the given row.
-/
import Derived.Test.YtjefeldkonejcaaGreatTreI
import Derived.Test.YtjefeldkonejcaaGreatTreQ
import Derived.Test.YtjefeldkonejcaaGreatSpcK
import Derived.Test.YtjefeldkonejcaaGreatLivC
set_option linter.unusedVariables false
set_option linter.unnecessarySimpa false
set_option linter.unusedSimpArgs false
namespace Go.Abs
open Go.Proofs
set_option maxRecDepth 100000
instance (n:Nat) (xs:List Int):Decidable (okIt n xs):=by unfold okIt;infer_instance
theorem tw_ex:∃ f,f=twV:=⟨_,rfl⟩
noncomputable def twI:=tw_ex.choose
theorem twI_eq:twI=twV:=tw_ex.choose_spec
noncomputable def gwO(n:Nat):Orc:=fun ρ args H cont=>match args,H with
 | [.v false [.sl _ (.pair (.pair (.num 0) (.pair (.num 0) (.num 0))) (.pair (.num 0) (.pair (.num 0) (.num 0)))) bs],.v false [.sl _ (.int .i64) xs]],[] =>
  if(okI bs xs=true/\okIt (List.length bs) xs)/\1<=List.length (α:=Int) xs/\List.length (α:=Int) xs<=n/\List.length (α:=Int) xs<=100 then cont (one (.big 0 (twI bs n xs))) []else none
 | _,_=>none
noncomputable def gwE(n:Nat):Env:=VZ [(140,wiO),(40,rat2 (fun p q=>szQ p&&szQ q) fun p q=>nm 0 (p-q)),(39,rat2 (fun p q=>szQ p&&szQ q) fun p q=>one (.int .i64 (cmpQ p q))),(141,sinO),(142,stsO),(107,gwO n)]
def twB(b:Br) (it:Int):Blk:=.var [.num 0 (some b.1.1),.num 0 (some b.1.2.1),.num 0 (some b.1.2.2),.num 0 (some b.2.1),.num 0 (some b.2.2.1),.num 0 (some b.2.2.2),.nilp,.nilp,.int .i64 it]
def σ467(bs:List bxT.den) (xs:List Int) (it:Int) (i:Int) (b:Br):St:=⟨[(1,one (.sl none (.int .i64) xs)),(2,one (.ptr 0 0)),(5,one (.ptr 1 0)),(23,one (.sl none (.int .i64) xs)),(24,one (.int .i64 (xs.length:Int))),(25,one (.int .i64 i))],[.var [.sl none bxT bs],twB b it]⟩
def σ467o(bs:List bxT.den) (xs:List Int) (it:Int) (b:Br):St:=⟨[(1,one (.sl none (.int .i64) xs)),(2,one (.ptr 0 0)),(5,one (.ptr 1 0))],[.var [.sl none bxT bs],twB b it]⟩
def σ467b(bs:List bxT.den) (xs:List Int) (b:Br) (k m:Int):St:=⟨[(1,one (.sl none (.int .i64) xs)),(2,one (.ptr 0 0)),(5,one (.ptr 1 0)),(8,one (.ptr 2 0)),(9,one (.int .i64 m))],[.var [.sl none bxT bs],twB b (-1),.var [.int .i64 k]]⟩
def σ467c(bs:List bxT.den) (xs:List Int) (b:Br) (k:Int):St:=⟨[(1,one (.sl none (.int .i64) xs)),(2,one (.ptr 0 0)),(5,one (.ptr 1 0)),(8,one (.ptr 2 0))],[.var [.sl none bxT bs],twB b (-1),.var [.int .i64 k]]⟩
def A467:Ann:={ head:=ptOf [(3,[1,2,5,23,24,25],[]),(12,[1,2,5,8,9],[])],out:=ptOf [(3,[1,2,5],[]),(12,[1,2,5,8],[])],reg:=ptOf [(20,[2,5,10,11],[10])] }
section
variable {ρ:Type} (n:Nat) (K:Exit->St->Option ρ) (go:St->Option ρ) (bs:List bxT.den) (xs:List Int) (it i:Int) (b:Br)
theorem turn467a:turnF (gwE n) A467 116 0 0 (loopAt Tryz.f107 0) K go (σ467 bs xs it i b) =
  bif decide (i<(xs.length:Int))then(if 0<=i then xs[i.toNat]?.bind (fun x=>if(0:Int)<=x then bs[Int.toNat x]?.bind (fun c =>
   if(szQ b.1.1&&szQ c.1.1)=true/\(szQ b.1.2.1&&szQ c.1.2.1)=true/\(szQ b.1.2.2&&szQ c.1.2.2)=true/\(szQ b.2.1&&szQ c.2.1)=true/\(szQ b.2.2.1&&szQ c.2.2.1)=true/\(szQ b.2.2.2&&szQ c.2.2.2)=true then
    go (σ467 bs xs it (IntKind.i64.wrap (i+1)) (wiV b c))else none)else none)else none)
  else K (.exit 0) (σ467o bs xs it b):=by kernel_rfl
theorem turn467b:turnF (gwE n) A467 116 0 0 (loopAt Tryz.f107 1) K go (σ467b bs xs b 0 1) =
  if(szQ b.2.2.1&&szQ b.1.2.1)=true then(if(szQ b.2.1&&szQ b.1.1)=true then(if(szQ (b.2.2.1-b.1.2.1)&&szQ (b.2.1-b.1.1))=true then
   bif decide (0<cmpQ (b.2.2.1-b.1.2.1) (b.2.1-b.1.1))then go (σ467b bs xs b 1 2)else go (σ467b bs xs b 0 2)else none)else none)else none:=by kernel_rfl
theorem turn467c:turnF (gwE n) A467 116 0 0 (loopAt Tryz.f107 1) K go (σ467b bs xs b 0 2) =
  if(szQ b.2.2.2&&szQ b.1.2.2)=true then(if(szQ b.2.1&&szQ b.1.1)=true then(if(szQ (b.2.2.2-b.1.2.2)&&szQ (b.2.1-b.1.1))=true then
   bif decide (0<cmpQ (b.2.2.2-b.1.2.2) (b.2.1-b.1.1))then go (σ467b bs xs b 2 3)else go (σ467b bs xs b 0 3)else none)else none)else none:=by kernel_rfl
theorem turn467d:turnF (gwE n) A467 116 0 0 (loopAt Tryz.f107 1) K go (σ467b bs xs b 1 2) =
  if(szQ b.2.2.2&&szQ b.1.2.2)=true then(if(szQ b.2.2.1&&szQ b.1.2.1)=true then(if(szQ (b.2.2.2-b.1.2.2)&&szQ (b.2.2.1-b.1.2.1))=true then
   bif decide (0<cmpQ (b.2.2.2-b.1.2.2) (b.2.2.1-b.1.2.1))then go (σ467b bs xs b 2 3)else go (σ467b bs xs b 1 3)else none)else none)else none:=by kernel_rfl
theorem turn467e(k:Int):turnF (gwE n) A467 116 0 0 (loopAt Tryz.f107 1) K go (σ467b bs xs b k 3)=K (.exit 2) (σ467c bs xs b k):=by kernel_rfl
end
theorem s8_min{p q:Rat} (h1:s8 p=true) (h2:s8 q=true):s8 (mnQ p q)=true/\s8 (mxQ p q)=true:=by
 unfold mnQ mxQ;cases decide (0<cmpQ p q)
 ·exact⟨h1,h2⟩
 ·exact⟨h2,h1⟩
theorem szB_iff{b:Br}:szB b=true ↔ s8 b.1.1=true/\s8 b.1.2.1=true/\s8 b.1.2.2=true/\s8 b.2.1=true/\s8 b.2.2.1=true/\s8 b.2.2.2=true:=by
 unfold szB;simp only [Bool.and_eq_true]
theorem szB_wi{a b:Br} (ha:szB a=true) (hb:szB b=true):szB (wiV a b)=true:=by
 obtain⟨a1,a2,a3,a4,a5,a6⟩:=szB_iff.1 ha;obtain⟨b1,b2,b3,b4,b5,b6⟩:=szB_iff.1 hb;exact szB_iff.2 ⟨(s8_min a1 b1).1,(s8_min a2 b2).1,(s8_min a3 b3).1,(s8_min a4 b4).2,(s8_min a5 b5).2,(s8_min a6 b6).2⟩
theorem s8_both{p q:Rat} (h1:s8 p=true) (h2:s8 q=true):(szQ p&&szQ q)=true:=both ((s8_ok h1).qq (by omega)) ((s8_ok h2).qq (by omega))
def arS1(bs:List Br) (i:Nat) (x:Int) (b:Br):Br:=match bs[x.toNat]? with
 | some c=>wiV b c
 | none=>b
theorem arS1_fold(bs:List Br):∀ (xs:List Int) (i:Nat) (b:Br),foldI (arS1 bs) xs i b=arV bs b xs
 | [],i,b=>rfl
 | x :: r,i,b=>by
  unfold foldI;rw[arS1_fold bs r];rfl
theorem loop467a{ρ:Type} (n:Nat) (K:Exit->St->Option ρ) {bs:List bxT.den} {xs:List Int} (it:Int) (h:okI bs xs=true) (hl:xs.length<=100) {b:Br} (hb:szB b=true) :
  itF (turnF (gwE n) A467 116 0 0 (loopAt Tryz.f107 0) K) (fun _=>none) (xs.length+1) (σ467 bs xs it 0 b)=K (.exit 0) (σ467o bs xs it (arV bs b xs))/\szB (arV bs b xs)=true:=by
 have key:=itF_fold (T:=turnF (gwE n) A467 116 0 0 (loopAt Tryz.f107 0) K) (xs:=xs) (s:=fun i b=>σ467 bs xs it i b) (stp:=arS1 bs) (fin:=fun b=>K (.exit 0) (σ467o bs xs it b)) (I:=fun b=>szB b=true)
  (fun go st hI=>by rw[turn467a,lst_out])
  (fun go i hi st hI=>by
   obtain⟨x0,c,hc,sc⟩:=okI_box h (List.getElem_mem hi);have e:arS1 bs i xs[i] st=wiV st c:=by unfold arS1;rw[hc]
   obtain⟨a1,a2,a3,a4,a5,a6⟩:=szB_iff.1 hI;obtain⟨b1,b2,b3,b4,b5,b6⟩:=szB_iff.1 sc;refine⟨?_,by rw[e];exact szB_wi hI sc⟩;rw[turn467a,lst_in hi,if_pos x0,hc,Option.bind_some,if_pos ⟨s8_both a1 b1,s8_both a2 b2,s8_both a3 b3,s8_both a4 b4,s8_both a5 b5,s8_both a6 b6⟩,lst_wrap (by omega) hi,e])
  xs.length 0 b (by omega) hb
 rw[List.drop_zero,arS1_fold]at key;exact key
theorem ar_ex:∃ f,f=arV:=⟨_,rfl⟩
noncomputable def arI:=ar_ex.choose
theorem arI_eq:arI=arV:=ar_ex.choose_spec
theorem ax_ex:∃ f,f=axV:=⟨_,rfl⟩
noncomputable def axI:=ax_ex.choose
theorem axI_eq:axI=axV:=ax_ex.choose_spec
noncomputable def S467a:Sum:=fun n0 ρ σ K=>match n0,σ with
 | 0,⟨[(1,.v false [.sl none (.int .i64) xs]),(2,.v false [.ptr 0 0]),(5,.v false [.ptr 1 0]),(23,.v false [.sl none (.int .i64) ys]),(24,.v false [.int .i64 l]),(25,.v false [.int .i64 i])],
   [.var [.sl none (.pair (.pair (.num 0) (.pair (.num 0) (.num 0))) (.pair (.num 0) (.pair (.num 0) (.num 0)))) bs],.var [.num 0 (some b0),.num 0 (some b1),.num 0 (some b2),.num 0 (some b3),.num 0 (some b4),.num 0 (some b5),.nilp,.nilp,.int .i64 it]]⟩ =>
  if okI bs xs=true/\ys=xs/\l=(List.length (α:=Int) xs:Int)/\i=0/\szB ((b0,b1,b2),(b3,b4,b5))=true/\List.length (α:=Int) xs<=100 then K (.exit 0) (σ467o bs xs it (arI bs ((b0,b1,b2),(b3,b4,b5)) xs))else none
 | _,_=>none
noncomputable def S467b:Sum:=fun n0 ρ σ K=>match n0,σ with
 | 0,⟨[(1,.v false [.sl none (.int .i64) xs]),(2,.v false [.ptr 0 0]),(5,.v false [.ptr 1 0]),(8,.v false [.ptr 2 0]),(9,.v false [.int .i64 m])],
   [.var [.sl none (.pair (.pair (.num 0) (.pair (.num 0) (.num 0))) (.pair (.num 0) (.pair (.num 0) (.num 0)))) bs],.var [.num 0 (some b0),.num 0 (some b1),.num 0 (some b2),.num 0 (some b3),.num 0 (some b4),.num 0 (some b5),.nilp,.nilp,.int .i64 it],.var [.int .i64 k]]⟩ =>
  if it = -1/\k=0/\m=1/\szB ((b0,b1,b2),(b3,b4,b5))=true then K (.exit 2) (σ467c bs xs ((b0,b1,b2),(b3,b4,b5)) (axI ((b0,b1,b2),(b3,b4,b5))))else none
 | _,_=>none
end Go.Abs
namespace Go.Abs
open Go.Proofs
set_option maxRecDepth 100000
theorem gwE_ok{n:Nat} (h:OrcOK NN Tryz.prog 107 (gwO n)):EnvOK NN Tryz.prog (gwE n):=
 VZ_ok (gamC orc_wi Tryz.call140 (gamC orc37 Tryz.call40 (gamC orc58 Tryz.call39 (gamC orc_sin Tryz.call141 (gamC orc_sts Tryz.call142 (gamC h Tryz.call107 (gamN _ _)))))))
theorem sum467a{n:Nat} (h:OrcOK NN Tryz.prog 107 (gwO n)):SumOK NN Tryz.prog 116 (loopAt Tryz.f107 0) S467a:=
 SumOK.of_turns (gwE_ok h) mixT (A:=A467) (SumsOK.none fun _=>rfl) fun n0 ρ σ K r hr=>by
  unfold S467a at hr;split at hr
  ·rename_i xs ys l i bs b0 b1 b2 b3 b4 b5 it;split at hr
   ·rename_i hc;obtain⟨h1,rfl,rfl,rfl,h5,h6⟩:=hc;obtain⟨e,_⟩:=loop467a n K it h1 h6 h5;rw[arI_eq]at hr;exact⟨_,e.trans hr⟩
   ·contradiction
  ·contradiction
theorem s8_subq{p q:Rat} (h1:s8 p=true) (h2:s8 q=true):szN 16 (p-q):=(s8_ok h1).sub (s8_ok h2)
theorem loop467b{ρ:Type} (n:Nat) (K:Exit->St->Option ρ) (bs:List bxT.den) (xs:List Int) {b:Br} (hb:szB b=true) :
  itF (turnF (gwE n) A467 116 0 0 (loopAt Tryz.f107 1) K) (fun _=>none) 3 (σ467b bs xs b 0 1)=K (.exit 2) (σ467c bs xs b (axV b)):=by
 obtain⟨a1,a2,a3,a4,a5,a6⟩:=szB_iff.1 hb;have q0:=(s8_subq a4 a1).qq (B:=16) (by omega);have q1:=(s8_subq a5 a2).qq (B:=16) (by omega);have q2:=(s8_subq a6 a3).qq (B:=16) (by omega);show turnF _ _ _ _ _ _ _ _ _=_;rw[turn467b,if_pos (s8_both a5 a2),if_pos (s8_both a4 a1),if_pos (both q1 q0)];have last:∀ k,itF (turnF (gwE n) A467 116 0 0 (loopAt Tryz.f107 1) K) (fun _=>none) 1 (σ467b bs xs b k 3)=K (.exit 2) (σ467c bs xs b k):=fun k=>turn467e n K _ bs xs b k
 have hc:∀ p q:Rat,decide (0<cmpQ p q)=decide (q<p):=fun p q=>decide_eq_decide.2 cmpQ_gt
 have e1:hi3 1 b-lo3 1 b=b.2.2.1-b.1.2.1:=rfl;have e0:hi3 0 b-lo3 0 b=b.2.1-b.1.1:=rfl;have e2:hi3 2 b-lo3 2 b=b.2.2.2-b.1.2.2:=rfl;unfold axV;dsimp only;rw[hc,e1,e0,e2]
 by_cases c:b.2.1-b.1.1<b.2.2.1-b.1.2.1
 ·rw[decide_eq_true c,cond_true,if_pos c,e1];show turnF _ _ _ _ _ _ _ _ _=_;rw[turn467d,if_pos (s8_both a6 a3),if_pos (s8_both a5 a2),if_pos (both q2 q1),hc]
  by_cases d:b.2.2.1-b.1.2.1<b.2.2.2-b.1.2.2
  ·rw[decide_eq_true d,cond_true,if_pos d];exact last 2
  ·rw[decide_eq_false d,cond_false,if_neg d];exact last 1
 ·rw[decide_eq_false c,cond_false,if_neg c,e0];show turnF _ _ _ _ _ _ _ _ _=_;rw[turn467c,if_pos (s8_both a6 a3),if_pos (s8_both a4 a1),if_pos (both q2 q0),hc]
  by_cases d:b.2.1-b.1.1<b.2.2.2-b.1.2.2
  ·rw[decide_eq_true d,cond_true,if_pos d];exact last 2
  ·rw[decide_eq_false d,cond_false,if_neg d];exact last 0
theorem sum467b{n:Nat} (h:OrcOK NN Tryz.prog 107 (gwO n)):SumOK NN Tryz.prog 116 (loopAt Tryz.f107 1) S467b:=
 SumOK.of_turns (gwE_ok h) mixT (A:=A467) (SumsOK.none fun _=>rfl) fun n0 ρ σ K r hr=>by
  unfold S467b at hr;split at hr
  ·rename_i xs m bs b0 b1 b2 b3 b4 b5 it k;split at hr
   ·rename_i hc;obtain⟨rfl,rfl,rfl,h4⟩:=hc;have e:=loop467b n K bs xs h4;rw[axI_eq]at hr;exact⟨_,e.trans hr⟩
   ·contradiction
  ·contradiction
abbrev twT:Ty:=.pair bxT (.pair (.big 0) (.pair (.big 0) (.int .i64)))
noncomputable def A467s:Ann:={ A467 with sum:=fun i=>bif Nat.beq i 3 then some S467a else bif Nat.beq i 12 then some S467b else none,res:=[(0,twT)] }
section
variable {ρ:Type} (n:Nat) (cont:SV->HL->Option ρ) (bs:List bxT.den) (xs:List Int)
def gwC(zs:List Int) (f:Option ρ):Option ρ:=if(okI bs zs=true/\okIt bs.length zs)/\1<=zs.length/\zs.length<=n/\zs.length<=100 then f else none
def gwH(ys:List Int):Int:=IntKind.i64.wrap ((IntKind.i64.wrap ((ys.length:Int)+1)).tdiv 2)
noncomputable def gwF(b:Br) (ys:List Int):Option ρ:=if 0<=(0:Int)/\0<=gwH ys/\gwH ys<=(ys.length:Int)then gwC n bs (cut ys 0 (gwH ys)) (if 0<=gwH ys/\gwH ys<=(ys.length:Int)/\(ys.length:Int)<=(ys.length:Int)then gwC n bs (cut ys (gwH ys) (ys.length:Int))
 (cont (one (.ip twT (b,twI bs n (cut ys 0 (gwH ys)),twI bs n (cut ys (gwH ys) (ys.length:Int)),-1) 0)) [])else none)else none
noncomputable def gwM(x1:Int) (b:Br):Option ρ:=bif (xs.length:Int)==1 then cont (one (.ip twT (b,.nil,.nil,x1) 0)) []else
 if(-1:Int) = -1/\(0:Int)=0/\(1:Int)=1/\szB b=true then(if([]:List Int).length+xs.length<=70368744177664/\(([]:List Int).length+xs.length)*8<=70368744177664 then(if xs.length<=1000 then
  (if(okI bs (msI xs)=true/\isAx (axI b))/\2<=(msI xs).length/\((msI xs).length:Int)<=1000 then gwF n cont bs b (stbI bs (axI b) (msI xs) (msI xs).length)else none)else none)else none)else none
theorem gq467:runF (gwE n) A467s 0 Tryz.f107 (bodyOf Tryz.f107) ρ [one (.sl none bxT bs),one (.sl none (.int .i64) xs)] [] cont =
  xs[Int.toNat 0]?.bind fun x=>if(0:Int)<=x then bs[Int.toNat x]?.bind (fun c=>xs[Int.toNat 0]?.bind fun x1 =>
   if okI bs xs=true/\xs=xs/\(xs.length:Int)=(xs.length:Int)/\(0:Int)=0/\szB c=true/\xs.length<=100 then gwM n cont bs xs x1 (arI bs c xs)else none)else none:=by kernel_rfl
end
end Go.Abs
namespace Go.Abs
open Go.Proofs
set_option maxRecDepth 100000
theorem OrcOK.argc{P:Program} {k:Nat} {F G:Orc} (hF:OrcOK NN P k F)
  (h:∀ {ρ} args H (cont:SV->HL->Option ρ) r,G ρ args H cont=some r->∃ args',F ρ args' H cont=some r/\(∀ s∈args',∀ i∈s.ids,i<H.length) /\ ∀ (G:Ghost) (κ:Kap) (vs:List Value),SvsR NN G κ args vs->SvsR NN G κ args' vs):OrcOK NN P k G:=by
 intro ρ args H cont r hr hwf hids;obtain⟨args',h1,h2,h3⟩:=h args H cont r hr;obtain⟨res,H',e1,e2,e3⟩:=hF h1 hwf h2;exact⟨res,H',e1,e2,fun{G κ w cargs} hrel hargs=>e3 hrel (h3 _ _ _ hargs)⟩
theorem sl_plain{G:Ghost} {κ:Kap} {b:Option Bool} {t:Ty} {xs:List t.den} {v:Value} (h:svR NN G κ (.v false [.sl b t xs]) v):svR NN G κ (.v false [.sl none t xs]) v:=by
 obtain⟨c,d,e,h1,h2⟩:=h;exact⟨c,d,e,plA_ok (T:=t) h1,h2⟩
theorem tw_fold{G:Ghost} {κ:Kap} {b:Br} {l r:Tw} {it:Int} {v:Value} (h:svR NN G κ (one (.ip twT (b,l,r,it) 0)) v):svR NN G κ (one (.big 0 (.node b l r it))) v:=by
 have h:=one_val h;obtain⟨bk,o,vs,h1,h2,h3⟩:=h;exact AsR.one ⟨bk,o,vs,h1,h2,h3⟩
theorem tw_open{G:Ghost} {κ:Kap} {b:Br} {l r:Tw} {it:Int} {v:Value} (h:svR NN G κ (one (.big 0 (.node b l r it))) v):svR NN G κ (one (.ip twT (b,l,r,it) 0)) v:=by
 have h:=one_val h;obtain⟨bk,o,vs,h1,h2,h3⟩:=h;exact AsR.one ⟨bk,o,vs,h1,h2,h3⟩
theorem ltI_mid{bs:List bxT.den} {k x y:Int} (hx:x.toNat<bs.length) (hy:y.toNat<bs.length):ltI bs k x y=true ↔ midV bs k x<midV bs k y:=by
 rw[ltI_eq];unfold ltV midV;rw[List.getElem?_eq_getElem hx,List.getElem?_eq_getElem hy,decide_eq_true_eq]
theorem okI_sub{bs:List bxT.den} {xs ys:List Int} (h:okI bs xs=true) (hs:∀ y∈ys,y∈xs):okI bs ys=true:=by
 unfold okI at *;rw[Bool.and_eq_true]at *;refine⟨?_,h.2⟩;rw[List.all_eq_true]at *;exact fun x hx=>h.1 x (hs x hx)
theorem gwF_eq{ρ:Type} {n:Nat} {cont:SV->HL->Option ρ} {bs:List bxT.den} {b:Br} {ys:List Int} (h:okI bs ys=true) (ho:okIt bs.length ys) (h2:2<=ys.length) (hn:ys.length<=n+1) (hl:ys.length<=100) :
  gwF n cont bs b ys=cont (one (.ip twT (b,twV bs n (ys.take ((ys.length+1) / 2)),twV bs n (ys.drop ((ys.length+1) / 2)),-1) 0)) []:=by
 have e:gwH ys=(((ys.length+1) / 2:Nat):Int):=by
  unfold gwH;have e1:IntKind.i64.wrap ((ys.length:Int)+1)=((ys.length+1:Nat):Int):=by rw[IntKind.wrap_i64];omega
  rw[e1,Int.tdiv_eq_ediv_of_nonneg (by omega),IntKind.wrap_i64];omega
 have c1:cut ys 0 (((ys.length+1) / 2:Nat):Int)=ys.take ((ys.length+1) / 2):=by unfold cut;rw[Int.toNat_natCast];rfl
 have c2:cut ys (((ys.length+1) / 2:Nat):Int) (ys.length:Int)=ys.drop ((ys.length+1) / 2):=by unfold cut;rw[Int.toNat_natCast,Int.toNat_natCast,List.take_length]
 obtain⟨t1,t2,t3,t4⟩:=half_len h2;unfold gwF gwC;rw[e,c1,c2,if_pos ⟨by omega,by omega,by omega⟩,if_pos ⟨⟨okI_sub h fun y hy=>List.mem_of_mem_take hy,ho.sub (List.take_sublist _ _)⟩,t1,by omega,by omega⟩,if_pos ⟨by omega,by omega,by omega⟩,
  if_pos ⟨⟨okI_sub h fun y hy=>List.mem_of_mem_drop hy,ho.sub (List.drop_sublist _ _)⟩,t3,by omega,by omega⟩,twI_eq]
theorem szB_ar{bs:List bxT.den} {xs:List Int} (h:okI bs xs=true):∀ (ys:List Int) {b:Br},(∀ y∈ys,y∈xs)->szB b=true->szB (arV bs b ys)=true
 | [],b,hy,hb=>hb
 | y :: r,b,hy,hb=>by
  unfold arV;rw[List.foldl_cons];obtain⟨_,c,hc,sc⟩:=okI_box h (hy y List.mem_cons_self);rw[hc];exact szB_ar h r (fun z hz=>hy z (List.mem_cons_of_mem _ hz)) (szB_wi hb sc)
theorem gw_run{n:Nat} {bs:List bxT.den} {xs:List Int} (h:okI bs xs=true) (ho:okIt bs.length xs) (h1:1<=xs.length) (hn:xs.length<=n+1) (hl:xs.length<=100) :
  ∃ b l r it,twV bs (n+1) xs=.node b l r it /\ ∀ (ρ:Type) (cont:SV->HL->Option ρ),runF (gwE n) A467s 0 Tryz.f107 (bodyOf Tryz.f107) ρ [one (.sl none bxT bs),one (.sl none (.int .i64) xs)] [] cont=cont (one (.ip twT (b,l,r,it) 0)) []:=by
 match xs,h,ho,h1,hn,hl with
 | x :: r,h,ho,h1,hn,hl =>
  obtain⟨x0,c,hc,sc⟩:=okI_box h List.mem_cons_self;have e0:(x :: r)[Int.toNat 0]? = some x:=rfl;have eg:bs[x.toNat]?.getD br0=c:=by rw[hc];rfl
  have key:∀ (ρ:Type) (cont:SV->HL->Option ρ),runF (gwE n) A467s 0 Tryz.f107 (bodyOf Tryz.f107) ρ [one (.sl none bxT bs),one (.sl none (.int .i64) (x :: r))] [] cont=gwM n cont bs (x :: r) x (arV bs c (x :: r)):=fun ρ cont=>by
   rw[gq467,e0,Option.bind_some,if_pos x0,hc,Option.bind_some,Option.bind_some,if_pos ⟨h,rfl,rfl,rfl,sc,hl⟩,arI_eq]
  have sb:szB (arV bs c (x :: r))=true:=szB_ar h (x :: r) (fun y hy=>hy) sc;unfold twV;rw[eg]
  by_cases hr:r=[]
  ·rw[if_pos hr];refine⟨_,_,_,_,rfl,fun ρ cont=>?_⟩;rw[key];unfold gwM;subst hr;rfl
  ·rw[if_neg hr];have h2:2<=(x :: r).length:=by
    cases r with
    | nil=>exact absurd rfl hr
    | cons y r=>simp
   obtain⟨p,_⟩:=srtP_ok (f:=midV bs (axV (arV bs c (x :: r)))) ho.1;have hml:=(msI_perm (x :: r)).length_eq;have es:stbI bs (axV (arV bs c (x :: r))) (msI (x :: r)) ((msI (x :: r)).length:Int)=srtP (midV bs (axV (arV bs c (x :: r)))) (x :: r):=by
    unfold stbI;rw[Int.toNat_natCast];refine stb_srt ho.1 (by omega) fun a ha b hb=>ltI_mid ?_ ?_
    ·have:=ho.2 a ha;omega
    ·have:=ho.2 b hb;omega
   refine⟨_,_,_,_,rfl,fun ρ cont=>?_⟩;rw[key];unfold gwM;have e1:((((x :: r).length:Nat):Int)==1)=false:=by
    rw[beq_eq_false_iff_ne];omega
   rw[e1,cond_false,if_pos ⟨rfl,rfl,rfl,sb⟩,if_pos ⟨by simp only [List.length_nil];omega,by simp only [List.length_nil];omega⟩,if_pos (by omega),
    if_pos ⟨⟨okI_perm h (msI_perm _),by rw[axI_eq];exact axV_is _⟩,by omega,by omega⟩,axI_eq,es]
   rw[gwF_eq (okI_perm h p) (ho.perm p) (by rw[p.length_eq];exact h2) (by rw[p.length_eq];exact hn) (by rw[p.length_eq];exact hl)]
noncomputable def gwO1(n:Nat):Orc:=fun ρ args H cont=>match args,H with
 | [.v false [.sl none (.pair (.pair (.num 0) (.pair (.num 0) (.num 0))) (.pair (.num 0) (.pair (.num 0) (.num 0)))) bs],.v false [.sl none (.int .i64) xs]],[] =>
  if(okI bs xs=true/\okIt (List.length bs) xs)/\1<=List.length (α:=Int) xs/\List.length (α:=Int) xs<=n/\List.length (α:=Int) xs<=100 then cont (one (.big 0 (twI bs n xs))) []else none
 | _,_=>none
theorem orc_gw1{n:Nat} (h:OrcOK NN Tryz.prog 107 (gwO n)):OrcOK NN Tryz.prog 107 (gwO1 (n+1)):=
 OrcOK.cv (runF_ok (gwE_ok h) mixT (A:=A467s) (fuel:=0) Tryz.func107 (c:=bodyOf Tryz.f107) (by kernel_rfl) (SumsOK.ofL (ls:=[loopAt Tryz.f107 0,loopAt Tryz.f107 1]) (by kernel_rfl) ⟨sumL1 (by kernel_rfl) (sum467a h),sumL1 (by kernel_rfl) (sum467b h),trivial⟩)) fun args H cont r hr=>by
  unfold gwO1 at hr;split at hr
  ·rename_i bs xs;split at hr
   ·rename_i hc;obtain⟨⟨h1,h2⟩,h3,h4,h5⟩:=hc;obtain⟨b,l,rr,it,e1,e2⟩:=gw_run (n:=n) h1 h2 h3 h4 h5;rw[twI_eq,e1]at hr;exact⟨_,_,fun G κ v hv=>tw_fold hv,rfl,hr,fun ρ' cont'=>e2 ρ' cont'⟩
   ·contradiction
  ·contradiction
theorem orc_gw:∀ n,OrcOK NN Tryz.prog 107 (gwO n)
 | 0=>by
  intro hr;exfalso;unfold gwO at hr;split at hr
  ·split at hr
   ·rename_i hc;omega
   ·contradiction
  ·contradiction
 | n+1=>OrcOK.argc (orc_gw1 (orc_gw n)) fun args H cont r hr=>by
  unfold gwO at hr;split at hr
  ·rename_i nb bs mb xs;refine⟨[one (.sl none bxT bs),one (.sl none (.int .i64) xs)],hr,fun s hs i hi=>?_,fun G κ vs hv=>?_⟩
   ·rcases List.mem_cons.1 hs with rfl | hs
    ·cases hi
    ·rw[List.mem_singleton]at hs;subst hs;cases hi
   ·obtain⟨v1,r1,e1,h1,v2,r2,e2,h2,h3⟩:=hv;exact⟨v1,r1,e1,sl_plain h1,v2,r2,e2,sl_plain h2,h3⟩
  ·contradiction
end Go.Abs
namespace Go.Abs
open Go.Proofs
set_option maxRecDepth 100000
noncomputable def e61Z:Env:=VZ [(109,qOkO)]
theorem e61Z_ok:EnvOK NN Tryz.prog e61Z:=VZ_ok (gamC (orc83 NN) Tryz.call109 (gamN _ _))
noncomputable def q61Z:Orc:=cR e61Z a61 20 Tryz.f72
theorem q61Z_ok:OrcOK NN Tryz.prog 72 q61Z:=cR_ok e61Z_ok rfl Tryz.func72 (by kernel_rfl)
def i6Z(a b c d e f:Int):SV:=.v true [.int .i64 a,.int .i64 b,.int .i64 c,.int .i64 d,.int .i64 e,.int .i64 f]
def n6(k:Nat) (a b c d e f:Rat):SV:=.v true [.num k (some a),.num k (some b),.num k (some c),.num k (some d),.num k (some e),.num k (some f)]
def i12(a b c d e f g h i j k l:Int):SV:=.v true [.int .i64 a,.int .i64 b,.int .i64 c,.int .i64 d,.int .i64 e,.int .i64 f,.int .i64 g,.int .i64 h,.int .i64 i,.int .i64 j,.int .i64 k,.int .i64 l]
def vokO:Orc:=fun ρ args H cont=>match args,H with
 | [.v true [.int .i64 a,.int .i64 b,.int .i64 c,.int .i64 d,.int .i64 e,.int .i64 f]],[]=>cont (one (.bool (okV3 ((a,b),(c,d),(e,f))))) []
 | _,_=>none
def pvO(k:Nat):Orc:=fun ρ args H cont=>match args,H with
 | [.v true [.int .i64 a,.int .i64 b,.int .i64 c,.int .i64 d,.int .i64 e,.int .i64 f]],[]=>if okV3 ((a,b),(c,d),(e,f))=true then cont (.v true [.num k (some (vQ (a,b))),.num k (some (vQ (c,d))),.num k (some (vQ (e,f)))]) []else none
 | _,_=>none
def boO(k:Nat):Orc:=fun ρ args H cont=>match args,H with
 | [.v true [.int .i64 a,.int .i64 b,.int .i64 c,.int .i64 d,.int .i64 e,.int .i64 f,.int .i64 g,.int .i64 h,.int .i64 i,.int .i64 j,.int .i64 l,.int .i64 m]],[]=>if okV3 ((a,b),(c,d),(e,f))=true/\okV3 ((g,h),(i,j),(l,m))=true then cont (n6 k (vQ (a,b)) (vQ (c,d)) (vQ (e,f)) (vQ (g,h)) (vQ (i,j)) (vQ (l,m))) []else none
 | _,_=>none
def bokO:Orc:=fun ρ args H cont=>match args,H with
 | [.v true [.int .i64 a,.int .i64 b,.int .i64 c,.int .i64 d,.int .i64 e,.int .i64 f,.int .i64 g,.int .i64 h,.int .i64 i,.int .i64 j,.int .i64 l,.int .i64 m]],[]=>cont (one (.bool (okBd (((a,b),(c,d),(e,f)),((g,h),(i,j),(l,m)))))) []
 | _,_=>none
theorem okV3_iff{v:V3q}:okV3 v=true ↔ okQd v.1=true/\okQd v.2.1=true/\okQd v.2.2=true:=by
 unfold okV3;rw[Bool.and_eq_true,Bool.and_eq_true]
theorem okQd_s8{q:Qd} (h:okQd q=true):s8 (vQ q)=true:=s8_q h
noncomputable def v3E:Env:=VZ [(72,q61Z),(73,qO 0)]
theorem v3E_ok:EnvOK NN Tryz.prog v3E:=VZ_ok (gamC q61Z_ok Tryz.call72 (gamC orc86 Tryz.call73 (gamN _ _)))
section
variable {ρ:Type} (cont:SV->HL->Option ρ) (a b c d e f g h i j k l:Int)
theorem gq430:runF v3E Ash 20 Tryz.f35 (bodyOf Tryz.f35) ρ [i6Z a b c d e f] [] cont =
  bif !qOkB a b then cont (one (.bool false)) []else bif !qOkB c d then cont (one (.bool false)) []else bif !qOkB e f then cont (one (.bool false)) []else cont (one (.bool true)) []:=by kernel_rfl
theorem gq431:runF v3E Ash 20 Tryz.f36 (bodyOf Tryz.f36) ρ [i6Z a b c d e f] [] cont =
  if qOkB a b=true then(if qOkB c d=true then(if qOkB e f=true then cont (.v true [.num 0 (some (Rat.divInt a b)),.num 0 (some (Rat.divInt c d)),.num 0 (some (Rat.divInt e f))]) []else none)else none)else none:=by kernel_rfl
end
theorem orc_v3I:OrcOK NN Tryz.prog 35 vokO:=
 OrcOK.of_tale (cR_ok (A:=Ash) (fuel:=20) v3E_ok rfl Tryz.func35 (by kernel_rfl)) fun ρ args H cont r hr=>by
  unfold vokO at hr;split at hr
  ·rename_i a b c d e f;refine(gq430 cont a b c d e f).trans (Eq.trans ?_ hr);unfold okV3 okQd;dsimp only;cases qOkB a b <;> cases qOkB c d <;> cases qOkB e f <;> rfl
  ·contradiction
theorem orc_pvI:OrcOK NN Tryz.prog 36 (pvO 0):=
 OrcOK.of_tale (cR_ok (A:=Ash) (fuel:=20) v3E_ok rfl Tryz.func36 (by kernel_rfl)) fun ρ args H cont r hr=>by
  unfold pvO at hr;split at hr
  ·rename_i a b c d e f;split at hr
   ·rename_i hc;obtain⟨h1,h2,h3⟩:=okV3_iff.1 hc;refine(gq431 cont a b c d e f).trans ?_;rw[if_pos (show qOkB a b=true from h1),if_pos (show qOkB c d=true from h2),if_pos (show qOkB e f=true from h3)];exact hr
   ·contradiction
  ·contradiction
noncomputable def bxE:Env:=VZ [(35,vokO),(36,pvO 0),(37,boO 0),(39,rat2 (fun p q=>szQ p&&szQ q) fun p q=>one (.int .i64 (cmpQ p q)))]
noncomputable def boE:Env:=VZ [(36,pvO 0)]
theorem boE_ok:EnvOK NN Tryz.prog boE:=VZ_ok (gamC orc_pvI Tryz.call36 (gamN _ _))
def A441:Ann:={ head:=ptOf [(5,[2,3,17],[])],out:=ptOf [(5,[2],[])],shut:=true }
section
variable {ρ:Type} (cont:SV->HL->Option ρ) (a b c d e f g h i j k l:Int)
theorem gq432:runF boE Ash 20 Tryz.f37 (bodyOf Tryz.f37) ρ [i12 a b c d e f g h i j k l] [] cont =
  if okV3 ((a,b),(c,d),(e,f))=true then(if okV3 ((g,h),(i,j),(k,l))=true then cont (n6 0 (vQ (a,b)) (vQ (c,d)) (vQ (e,f)) (vQ (g,h)) (vQ (i,j)) (vQ (k,l))) []else none)else none:=by kernel_rfl
theorem gq441:runF bxE A441 20 Tryz.f52 (bodyOf Tryz.f52) ρ [i12 a b c d e f g h i j k l] [] cont =
  bif !okV3 ((a,b),(c,d),(e,f))then cont (one (.bool false)) []else bif bif false then true else !okV3 ((g,h),(i,j),(k,l))then cont (one (.bool false)) []else
  if okV3 ((a,b),(c,d),(e,f))=true/\okV3 ((g,h),(i,j),(k,l))=true then(if(szQ (vQ (a,b))&&szQ (vQ (g,h)))=true then bif decide (0<cmpQ (vQ (a,b)) (vQ (g,h)))then cont (one (.bool false)) []else
   (if(szQ (vQ (c,d))&&szQ (vQ (i,j)))=true then bif decide (0<cmpQ (vQ (c,d)) (vQ (i,j)))then cont (one (.bool false)) []else
    (if(szQ (vQ (e,f))&&szQ (vQ (k,l)))=true then bif decide (0<cmpQ (vQ (e,f)) (vQ (k,l)))then cont (one (.bool false)) []else cont (one (.bool true)) []else none)else none)else none)else none:=by kernel_rfl
end
theorem orc_boI:OrcOK NN Tryz.prog 37 (boO 0):=
 OrcOK.of_tale (cR_ok (A:=Ash) (fuel:=20) boE_ok rfl Tryz.func37 (by kernel_rfl)) fun ρ args H cont r hr=>by
  unfold boO at hr;split at hr
  ·rename_i a b c d e f g h i j k l;split at hr
   ·rename_i hc;refine(gq432 cont a b c d e f g h i j k l).trans ?_;rw[if_pos hc.1,if_pos hc.2];exact hr
   ·contradiction
  ·contradiction
theorem bxE_ok:EnvOK NN Tryz.prog bxE:=VZ_ok (gamC orc_v3I Tryz.call35 (gamC orc_pvI Tryz.call36 (gamC orc_boI Tryz.call37 (gamC orc58 Tryz.call39 (gamN _ _)))))
theorem cmp_le{p q:Rat}:decide (0<cmpQ p q) = !decide (p<=q):=by
 by_cases h:p<=q
 ·rw[decide_eq_true h,decide_eq_false (fun e=>by have:=cmpQ_gt.1 e;grind)];rfl
 ·rw[decide_eq_false h,decide_eq_true (cmpQ_gt.2 (by grind))];rfl
theorem orc_bokI:OrcOK NN Tryz.prog 52 bokO:=
 OrcOK.of_tale (cR_ok (A:=A441) (fuel:=20) bxE_ok rfl Tryz.func52 (by kernel_rfl)) fun ρ args H cont r hr=>by
  unfold bokO at hr;split at hr
  ·rename_i a b c d e f g h i j k l;refine(gq441 cont a b c d e f g h i j k l).trans (Eq.trans ?_ hr);unfold okBd;dsimp only;cases h1:okV3 ((a,b),(c,d),(e,f))
   ·rfl
   ·cases h2:okV3 ((g,h),(i,j),(k,l))
    ·rfl
    ·obtain⟨a1,a2,a3⟩:=okV3_iff.1 h1;obtain⟨b1,b2,b3⟩:=okV3_iff.1 h2;rw[if_pos ⟨rfl,rfl⟩,if_pos (s8_both (okQd_s8 a1) (okQd_s8 b1)),if_pos (s8_both (okQd_s8 a2) (okQd_s8 b2)),if_pos (s8_both (okQd_s8 a3) (okQd_s8 b3)),cmp_le,cmp_le,cmp_le];cases decide (vQ (a,b)<=vQ (g,h)) <;> cases decide (vQ (c,d)<=vQ (i,j)) <;> cases decide (vQ (e,f)<=vQ (k,l)) <;> rfl
  ·contradiction
noncomputable def p3E:Env:=VZ [(44,rat1 (fun _=>true) tupQ)]
theorem p3E_ok:EnvOK NN Tryz.prog p3E:=VZ_ok (gamC orc41 Tryz.call44 (gamN _ _))
def i6t(a b c d e f:Int) (o:Bool):SV:=.tup [(true,[.int .i64 a,.int .i64 b,.int .i64 c,.int .i64 d,.int .i64 e,.int .i64 f]),(false,[.bool o])]
theorem gq475{ρ:Type} (cont:SV->HL->Option ρ) (a b c:Rat):runF p3E Ash 20 Tryz.f144 (bodyOf Tryz.f144) ρ [.v true [.num 0 (some a),.num 0 (some b),.num 0 (some c)]] [] cont =
  bif !qFit a then cont (i6t 0 0 0 0 0 0 false) []else bif bif false then true else !qFit b then cont (i6t 0 0 0 0 0 0 false) []else bif bif false then true else !qFit c then cont (i6t 0 0 0 0 0 0 false) []else
  cont (i6t (qNum a) (qDen a) (qNum b) (qDen b) (qNum c) (qDen c) true) []:=by kernel_rfl
def p3O:Orc:=fun ρ args H cont=>match args,H with
 | [.v true [.num 0 (some a),.num 0 (some b),.num 0 (some c)]],[]=>if qFit a=true/\qFit b=true/\qFit c=true then cont (i6t (qU a).1 (qU a).2 (qU b).1 (qU b).2 (qU c).1 (qU c).2 true) []else none
 | _,_=>none
theorem qFit_qU{q:Rat} (h:qFit q=true):qNum q=(qU q).1/\qDen q=(qU q).2:=by
 have h:=of_decide_eq_true h;unfold qNum qDen qU;rw[if_pos h,if_pos h];exact⟨rfl,rfl⟩
theorem orc_p3:OrcOK NN Tryz.prog 144 p3O:=
 OrcOK.of_tale (cR_ok (A:=Ash) (fuel:=20) p3E_ok rfl Tryz.func144 (by kernel_rfl)) fun ρ args H cont r hr=>by
  unfold p3O at hr;split at hr
  ·rename_i a b c;split at hr
   ·rename_i hc;obtain⟨h1,h2,h3⟩:=hc;refine(gq475 cont a b c).trans ?_;rw[h1,h2,h3,(qFit_qU h1).1,(qFit_qU h1).2,(qFit_qU h2).1,(qFit_qU h2).2,(qFit_qU h3).1,(qFit_qU h3).2];exact hr
   ·contradiction
  ·contradiction
noncomputable def sxE:Env:=VZ [(55,qOkO),(63,qO 1)]
theorem sxE_ok:EnvOK NN Tryz.prog sxE:=VZ_ok (gamC (orc64 NN) Tryz.call55 (gamC orc65 Tryz.call63 (gamN _ _)))
noncomputable def scE:Env:=VZ [(55,qOkO),(63,qO 1),(30,lat2 (fun p q=>szQ p&&szQ q) fun p q=>one (.int .i64 (cmpQ p q)))]
theorem scE_ok:EnvOK NN Tryz.prog scE:=VZ_ok (gamC (orc64 NN) Tryz.call55 (gamC orc65 Tryz.call63 (gamC orc51 Tryz.call30 (gamN _ _))))
section
variable {ρ:Type} (cont:SV->HL->Option ρ) (a b c d e f g h i j k l:Int)
theorem gq423:runF sxE Ash 20 Tryz.f25 (bodyOf Tryz.f25) ρ [i6Z a b c d e f] [] cont =
  bif qOkB a b then bif bif true then qOkB c d else false then cont (one (.bool (bif true then qOkB e f else false))) []else cont (one (.bool false)) []else cont (one (.bool false)) []:=by kernel_rfl
theorem gq427:runF sxE Ash 20 Tryz.f29 (bodyOf Tryz.f29) ρ [i6Z a b c d e f] [] cont =
  if qOkB a b=true then(if qOkB c d=true then(if qOkB e f=true then cont (.v true [.num 1 (some (Rat.divInt a b)),.num 1 (some (Rat.divInt c d)),.num 1 (some (Rat.divInt e f))]) []else none)else none)else none:=by kernel_rfl
theorem gq42z:runF scE Ash 20 Tryz.f92 (bodyOf Tryz.f92) ρ [sQ a b,sQ c d] [] cont =
  bif !qOkB a b then cont (one (.int .i64 2)) []else bif bif false then true else !qOkB c d then cont (one (.int .i64 2)) []else
  if qOkB a b=true then(if qOkB c d=true then(if(szQ (Rat.divInt a b)&&szQ (Rat.divInt c d))=true then cont (one (.int .i64 (cmpQ (Rat.divInt a b) (Rat.divInt c d)))) []else none)else none)else none:=by kernel_rfl
end
theorem orc_v3S:OrcOK NN Tryz.prog 25 vokO:=
 OrcOK.of_tale (cR_ok (A:=Ash) (fuel:=20) sxE_ok rfl Tryz.func25 (by kernel_rfl)) fun ρ args H cont r hr=>by
  unfold vokO at hr;split at hr
  ·rename_i a b c d e f;refine(gq423 cont a b c d e f).trans (Eq.trans ?_ hr);unfold okV3 okQd;dsimp only;cases qOkB a b <;> cases qOkB c d <;> cases qOkB e f <;> rfl
  ·contradiction
theorem orc_pvS:OrcOK NN Tryz.prog 29 (pvO 1):=
 OrcOK.of_tale (cR_ok (A:=Ash) (fuel:=20) sxE_ok rfl Tryz.func29 (by kernel_rfl)) fun ρ args H cont r hr=>by
  unfold pvO at hr;split at hr
  ·rename_i a b c d e f;split at hr
   ·rename_i hc;obtain⟨h1,h2,h3⟩:=okV3_iff.1 hc;refine(gq427 cont a b c d e f).trans ?_;rw[if_pos (show qOkB a b=true from h1),if_pos (show qOkB c d=true from h2),if_pos (show qOkB e f=true from h3)];exact hr
   ·contradiction
  ·contradiction
theorem orc_qcmS:OrcOK NN Tryz.prog 92 qcmO:=
 OrcOK.of_tale (cR_ok (A:=Ash) (fuel:=20) scE_ok rfl Tryz.func92 (by kernel_rfl)) fun ρ args H cont r hr=>by
  unfold qcmO at hr;split at hr
  ·rename_i a b c d;refine(gq42z cont a b c d).trans ?_;unfold qcmV ok2 at hr;cases h1:qOkB a b
   ·rw[h1]at hr;exact hr
   ·cases h2:qOkB c d
    ·rw[h1,h2]at hr;exact hr
    ·rw[h1,h2]at hr;rw[szQ_q h1,szQ_q h2];exact hr
  ·contradiction
noncomputable def sbE:Env:=VZ [(25,vokO),(29,pvO 1),(92,qcmO)]
theorem sbE_ok:EnvOK NN Tryz.prog sbE:=VZ_ok (gamC orc_v3S Tryz.call25 (gamC orc_pvS Tryz.call29 (gamC orc_qcmS Tryz.call92 (gamN _ _))))
section
variable {ρ:Type} (cont:SV->HL->Option ρ) (a b c d e f g h i j k l:Int)
theorem gq440:runF sbE Ash 20 Tryz.f51 (bodyOf Tryz.f51) ρ [i12 a b c d e f g h i j k l] [] cont =
  if okV3 ((a,b),(c,d),(e,f))=true then(if okV3 ((g,h),(i,j),(k,l))=true then cont (n6 1 (vQ (a,b)) (vQ (c,d)) (vQ (e,f)) (vQ (g,h)) (vQ (i,j)) (vQ (k,l))) []else none)else none:=by kernel_rfl
theorem gq438:runF sbE Ash 20 Tryz.f49 (bodyOf Tryz.f49) ρ [i12 a b c d e f g h i j k l] [] cont =
  bif okV3 ((a,b),(c,d),(e,f))then bif bif true then okV3 ((g,h),(i,j),(k,l))else false then bif bif true then decide (qcmV a b g h<=0)else false then bif bif true then decide (qcmV c d i j<=0)else false then
   cont (one (.bool (bif true then decide (qcmV e f k l<=0)else false))) []else cont (one (.bool false)) []else cont (one (.bool false)) []else cont (one (.bool false)) []else cont (one (.bool false)) []:=by kernel_rfl
end
theorem orc_boS:OrcOK NN Tryz.prog 51 (boO 1):=
 OrcOK.of_tale (cR_ok (A:=Ash) (fuel:=20) sbE_ok rfl Tryz.func51 (by kernel_rfl)) fun ρ args H cont r hr=>by
  unfold boO at hr;split at hr
  ·rename_i a b c d e f g h i j k l;split at hr
   ·rename_i hc;refine(gq440 cont a b c d e f g h i j k l).trans ?_;rw[if_pos hc.1,if_pos hc.2];exact hr
   ·contradiction
  ·contradiction
theorem qcm_le{a b c d:Int} (h1:qOkB a b=true) (h2:qOkB c d=true):decide (qcmV a b c d<=0)=decide (vQ (a,b)<=vQ (c,d)):=by
 unfold qcmV ok2;rw[h1,h2];show decide (cmpQ (vQ (a,b)) (vQ (c,d))<=0)=_;have:=@cmp_le (vQ (a,b)) (vQ (c,d))
 by_cases h:vQ (a,b)<=vQ (c,d)
 ·rw[decide_eq_true h]at *;exact decide_eq_true (by have:=of_decide_eq_false this;omega)
 ·rw[decide_eq_false h]at *;exact decide_eq_false (by have:=of_decide_eq_true this;omega)
theorem orc_bokS:OrcOK NN Tryz.prog 49 bokO:=
 OrcOK.of_tale (cR_ok (A:=Ash) (fuel:=20) sbE_ok rfl Tryz.func49 (by kernel_rfl)) fun ρ args H cont r hr=>by
  unfold bokO at hr;split at hr
  ·rename_i a b c d e f g h i j k l;refine(gq438 cont a b c d e f g h i j k l).trans (Eq.trans ?_ hr);unfold okBd;dsimp only;cases h1:okV3 ((a,b),(c,d),(e,f))
   ·rfl
   ·cases h2:okV3 ((g,h),(i,j),(k,l))
    ·rfl
    ·obtain⟨a1,a2,a3⟩:=okV3_iff.1 h1;obtain⟨b1,b2,b3⟩:=okV3_iff.1 h2;rw[qcm_le a1 b1,qcm_le a2 b2,qcm_le a3 b3];cases decide (vQ (a,b)<=vQ (g,h)) <;> cases decide (vQ (c,d)<=vQ (i,j)) <;> cases decide (vQ (e,f)<=vQ (k,l)) <;> rfl
  ·contradiction
end Go.Abs
namespace Go.Abs
open Go.Proofs
set_option maxRecDepth 100000
abbrev tQz:Ty:=.pair (.int .i64) (.int .i64)
abbrev tV3:Ty:=.pair tQz (.pair tQz tQz)
abbrev tBx:Ty:=.pair tV3 tV3
abbrev tNd:Ty:=.pair tBx (.pair (.int .i64) (.pair (.int .i64) (.int .i64)))
def szT:Tw->Nat
 | .nil=>0
 | .node _ l r _=>szT l+szT r+1
def fitR(b:Br):Bool:=(qFit b.1.1&&(qFit b.1.2.1&&qFit b.1.2.2))&&(qFit b.2.1&&(qFit b.2.2.1&&qFit b.2.2.2))
def fitT:Tw->Bool
 | .nil=>true
 | .node b l r _=>fitR b&&((isNilT l==isNilT r)&&(fitT l&&fitT r))
theorem li_ex:∃ f,f=liT:=⟨_,rfl⟩
noncomputable def liI:=li_ex.choose
theorem liI_eq:liI=liT:=li_ex.choose_spec
noncomputable def lkO(n:Nat):Orc:=fun ρ args H cont=>match args,H with
 | [.v false [.big 0 t],.v false [.wsl 0 15]],[.arr 72 (.pair (.pair (.pair (.pair (.int .i64) (.int .i64)) (.pair (.pair (.int .i64) (.int .i64)) (.pair (.int .i64) (.int .i64)))) (.pair (.pair (.int .i64) (.int .i64)) (.pair (.pair (.int .i64) (.int .i64)) (.pair (.int .i64) (.int .i64))))) (.pair (.int .i64) (.pair (.int .i64) (.int .i64)))) xs false false] =>
  if(1<=szT t/\szT t<=n)/\fitT t=true/\szT t+List.length (α:=Nd) xs<=1000 then cont (one (.wsl 1 15)) [.dead,.arr 72 tNd ((show List Nd from xs)++liI t (List.length (α:=Nd) xs:Int)) false true]else none
 | [.v false [.big 0 t],.v false [.nils]],[]=>if(1<=szT t/\szT t<=n)/\fitT t=true/\szT t<=1000 then cont (one (.wsl 0 15)) [.arr 72 tNd (liI t 0) false true]else none
 | _,_=>none
noncomputable def lkE(n:Nat):Env:=VZ [(144,p3O),(108,lkO n)]
theorem lkE_ok{n:Nat} (h:OrcOK NN Tryz.prog 108 (lkO n)):EnvOK NN Tryz.prog (lkE n):=VZ_ok (gamC orc_p3 Tryz.call144 (gamC h Tryz.call108 (gamN _ _)))
def A468:Ann:={}
def nd0(b:Br) (it:Int):Nd:=(bxU b,-1,-1,it)
section
variable {ρ:Type} (n:Nat) (cont:SV->HL->Option ρ) (b b1:Br) (l1 r1 r:Tw) (it i1:Int) (xs:List Nd)
def fitD(f:Option ρ):Option ρ:=if qFit b.1.1=true/\qFit b.1.2.1=true/\qFit b.1.2.2=true then(if qFit b.2.1=true/\qFit b.2.2.1=true/\qFit b.2.2.2=true then f else none)else none
def setC(i:Int) (f:Nd->Nd) (zs:List Nd) (g:List Nd->Option ρ):Option ρ:=if 0<=i/\i<(zs.length:Int)then zs[0+i.toNat]?.bind (fun x=>g (zs.set (0+i.toNat) (f x)))else none
noncomputable def lkC(t:Tw) (zs:List Nd) (g:List Nd->Option ρ):Option ρ:=if(1<=szT t/\szT t<=n)/\fitT t=true/\szT t+zs.length<=1000 then g (zs++liI t (zs.length:Int))else none
noncomputable def lkN(at_:Int) (l r:Tw) (zs:List Nd) (g:List Nd->Option ρ):Option ρ:=setC at_ (fun x=>(x.1,(zs.length:Int),x.2.2.1,x.2.2.2)) zs fun z1=>lkC n l z1 fun z2=>setC at_ (fun x=>(x.1,x.2.1,(z2.length:Int),x.2.2.2)) z2 fun z3=>lkC n r z3 g
theorem gq468a:runF (lkE n) A468 0 Tryz.f108 (bodyOf Tryz.f108) ρ [one (.ip twT (b,.nil,r,it) 0),one .nils] [] cont =
  fitD b (cont (one (.wsl 0 15)) [.arr 72 tNd [nd0 b it] false true]):=by kernel_rfl
theorem gq468b:runF (lkE n) A468 0 Tryz.f108 (bodyOf Tryz.f108) ρ [one (.ip twT (b,.nil,r,it) 0),one (.wsl 0 15)] [.arr 72 tNd xs false false] cont =
  fitD b (if xs.length + [nd0 b it].length<=70368744177664/\(xs.length + [nd0 b it].length)*120<=70368744177664 then cont (one (.wsl 1 15)) [.dead,.arr 72 tNd (xs ++ [nd0 b it]) false true]else none):=by kernel_rfl
theorem gq468c:runF (lkE n) A468 0 Tryz.f108 (bodyOf Tryz.f108) ρ [one (.ip twT (b,.node b1 l1 r1 i1,r,it) 0),one .nils] [] cont =
  fitD b (lkN n 0 (.node b1 l1 r1 i1) r [nd0 b it] fun zs=>cont (one (.wsl 0 15)) [.arr 72 tNd zs false true]):=by kernel_rfl
theorem gq468d:runF (lkE n) A468 0 Tryz.f108 (bodyOf Tryz.f108) ρ [one (.ip twT (b,.node b1 l1 r1 i1,r,it) 0),one (.wsl 0 15)] [.arr 72 tNd xs false false] cont =
  fitD b (if xs.length + [nd0 b it].length<=70368744177664/\(xs.length + [nd0 b it].length)*120<=70368744177664 then lkN n (xs.length:Int) (.node b1 l1 r1 i1) r (xs ++ [nd0 b it]) fun zs=>cont (one (.wsl 1 15)) [.dead,.arr 72 tNd zs false true]else none):=by kernel_rfl
end
end Go.Abs
namespace Go.Abs
open Go.Proofs
set_option maxRecDepth 100000
theorem szT_nil{t:Tw} (h:isNilT t=false):1<=szT t:=by
 cases t with
 | nil=>cases h
 | node=>unfold szT;omega
theorem liT_len:∀ (t:Tw) (at_:Int),fitT t=true->(liT t at_).length=szT t
 | .nil,at_,h=>rfl
 | .node b l r it,at_,h=>by
  unfold fitT at h;simp only [Bool.and_eq_true,beq_iff_eq]at h;obtain⟨h1,h2,h3,h4⟩:=h;unfold liT szT
  by_cases hl:isNilT l=true
  ·have hr:isNilT r=true:=by rw[<- h2];exact hl
   rw[if_pos hl];cases l with
   | nil=>cases r with
    | nil=>rfl
    | node=>cases hr
   | node=>cases hl
  ·rw[if_neg hl,List.length_cons,List.length_append,liT_len l _ h3,liT_len r _ h4]
section
variable {ρ:Type} {n:Nat}
theorem setC_at{i:Int} {f:Nd->Nd} {xs ys:List Nd} {x:Nd} {g:List Nd->Option ρ} (hi:i=(xs.length:Int)):setC i f (xs++x :: ys) g=g (xs++f x :: ys):=by
 subst hi;unfold setC;rw[if_pos ⟨by omega,by rw[List.length_append,List.length_cons];omega⟩,Int.toNat_natCast,Nat.zero_add,List.getElem?_append_right (Nat.le_refl _),Nat.sub_self,List.getElem?_cons_zero,Option.bind_some,List.set_append_right _ _ (Nat.le_refl _),Nat.sub_self,List.set_cons_zero]
theorem lkN_eq{b:Br} {l r:Tw} {it:Int} (hl:isNilT l=false) (h:fitT (.node b l r it)=true) (hs:szT (.node b l r it)<=n+1) {xs:List Nd} (hx:szT (.node b l r it)+xs.length<=1000) (g:List Nd->Option ρ) :
  lkN n (xs.length:Int) l r (xs ++ [nd0 b it]) g=g (xs++liT (.node b l r it) (xs.length:Int)):=by
 have hf:=h;unfold fitT at hf;simp only [Bool.and_eq_true,beq_iff_eq]at hf;obtain⟨h1,h2,h3,h4⟩:=hf;have hr:isNilT r=false:=by rw[<- h2];exact hl
 have s1:=szT_nil hl;have s2:=szT_nil hr;unfold szT at hs hx;have hL:=liT_len l ((xs.length:Int)+1) h3;have e1:(((xs ++ [nd0 b it]).length:Nat):Int)=(xs.length:Int)+1:=by rw[List.length_append];simp
 unfold lkN;rw[setC_at rfl];unfold lkC;have q1:(((xs ++ [((nd0 b it).1,(((xs ++ [nd0 b it]).length:Nat):Int),(nd0 b it).2.2.1,(nd0 b it).2.2.2)]).length:Nat):Int)=(xs.length:Int)+1:=by rw[List.length_append];simp
 rw[if_pos ⟨⟨s1,by omega⟩,h3,by rw[List.length_append,List.length_singleton];omega⟩,liI_eq,q1,List.append_assoc,List.singleton_append];refine(setC_at rfl).trans ?_;have q2:∀ y:Nd,(((xs++y :: liT l ((xs.length:Int)+1)).length:Nat):Int)=(xs.length:Int)+1+((liT l ((xs.length:Int)+1)).length:Int):=fun y=>by rw[List.length_append,List.length_cons];omega
 rw[if_pos ⟨⟨s2,by omega⟩,h4,by rw[List.length_append,List.length_cons,hL];omega⟩,q2,q2,List.append_assoc,List.cons_append];rw[e1]
 conv=>rhs;rw[liT,if_neg (by rw[hl];simp)]
 rfl
end
theorem fitR_ok{b:Br} (h:fitR b=true) {ρ:Type} (f:Option ρ):fitD b f=f:=by
 unfold fitR at h;simp only [Bool.and_eq_true]at h;unfold fitD;rw[if_pos h.1,if_pos h.2]
theorem fitT_R{b:Br} {l r:Tw} {it:Int} (h:fitT (.node b l r it)=true):fitR b=true:=by
 unfold fitT at h;simp only [Bool.and_eq_true]at h;exact h.1
theorem lk_runA{n:Nat} {b:Br} {l r:Tw} {it:Int} (h:fitT (.node b l r it)=true) (hs:szT (.node b l r it)<=n+1) (hx:szT (.node b l r it)<=1000) {ρ:Type} (cont:SV->HL->Option ρ) :
  runF (lkE n) A468 0 Tryz.f108 (bodyOf Tryz.f108) ρ [one (.ip twT (b,l,r,it) 0),one .nils] [] cont=cont (one (.wsl 0 15)) [.arr 72 tNd (liT (.node b l r it) 0) false true]:=by
 cases l with
 | nil =>
  rw[gq468a,fitR_ok (fitT_R h)];rfl
 | node b1 l1 r1 i1 =>
  have:=lkN_eq (n:=n) (b:=b) (l:=.node b1 l1 r1 i1) (r:=r) (it:=it) rfl h hs (xs:=[]) (by simpa using hx) fun zs=>cont (one (.wsl 0 15)) [.arr 72 tNd zs false true]
  rw[gq468c,fitR_ok (fitT_R h)];exact this
theorem lk_runB{n:Nat} {b:Br} {l r:Tw} {it:Int} {xs:List Nd} (h:fitT (.node b l r it)=true) (hs:szT (.node b l r it)<=n+1) (hx:szT (.node b l r it)+xs.length<=1000) {ρ:Type} (cont:SV->HL->Option ρ) :
  runF (lkE n) A468 0 Tryz.f108 (bodyOf Tryz.f108) ρ [one (.ip twT (b,l,r,it) 0),one (.wsl 0 15)] [.arr 72 tNd xs false false] cont=cont (one (.wsl 1 15)) [.dead,.arr 72 tNd (xs++liT (.node b l r it) (xs.length:Int)) false true]:=by
 cases l with
 | nil =>
  rw[gq468b,fitR_ok (fitT_R h),if_pos ⟨by rw[List.length_singleton];omega,by rw[List.length_singleton];omega⟩];rfl
 | node b1 l1 r1 i1 =>
  rw[gq468d,fitR_ok (fitT_R h),if_pos ⟨by rw[List.length_singleton];omega,by rw[List.length_singleton];omega⟩];exact lkN_eq (n:=n) (b:=b) (l:=.node b1 l1 r1 i1) (r:=r) (it:=it) rfl h hs hx fun zs=>cont (one (.wsl 1 15)) [.dead,.arr 72 tNd zs false true]
theorem tw_opens{G:Ghost} {κ:Kap} {b:Br} {l r:Tw} {it:Int} {s:List SV} {vs:List Value} (h:SvsR NN G κ (one (.big 0 (.node b l r it)) :: s) vs):SvsR NN G κ (one (.ip twT (b,l,r,it) 0) :: s) vs:=by
 obtain⟨v,r',e,h1,h2⟩:=h;exact⟨v,r',e,tw_open h1,h2⟩
theorem orc_lk:∀ n,OrcOK NN Tryz.prog 108 (lkO n)
 | 0=>by
  intro hr;exfalso;unfold lkO at hr;split at hr
  ·split at hr
   ·rename_i hc;omega
   ·contradiction
  ·split at hr
   ·rename_i hc;omega
   ·contradiction
  ·contradiction
 | n+1=>OrcOK.argc (runF_ok (lkE_ok (orc_lk n)) mixT (A:=A468) (fuel:=0) Tryz.func108 (c:=bodyOf Tryz.f108) (by kernel_rfl) (wp_loops (by kernel_rfl))) fun args H cont r hr=>by
  unfold lkO at hr;split at hr
  ·rename_i t xs;split at hr
   ·rename_i hc;obtain⟨⟨h1,h2⟩,h3,h4⟩:=hc;cases t with
    | nil=>unfold szT at h1;omega
    | node b l r' it =>
     refine⟨[one (.ip twT (b,l,r',it) 0),one (.wsl 0 15)],?_,fun s hs i hi=>?_,fun G κ vs hv=>tw_opens hv⟩
     ·rw[liI_eq]at hr;exact(lk_runB (n:=n) (xs:=xs) h3 h2 h4 cont).trans hr
     ·rcases List.mem_cons.1 hs with rfl | hs
      ·cases hi
      ·rw[List.mem_singleton]at hs;subst hs;simp only [one,SV.ids,aids,List.flatMap_cons,List.flatMap_nil,Atom.ids,List.append_nil,List.mem_singleton]at hi;subst hi;exact Nat.zero_lt_one
   ·contradiction
  ·rename_i t;split at hr
   ·rename_i hc;obtain⟨⟨h1,h2⟩,h3,h4⟩:=hc;cases t with
    | nil=>unfold szT at h1;omega
    | node b l r' it =>
     refine⟨[one (.ip twT (b,l,r',it) 0),one .nils],?_,fun s hs i hi=>?_,fun G κ vs hv=>tw_opens hv⟩
     ·rw[liI_eq]at hr;exact(lk_runA (n:=n) h3 h2 h4 cont).trans hr
     ·rcases List.mem_cons.1 hs with rfl | hs
      ·cases hi
      ·rw[List.mem_singleton]at hs;subst hs;cases hi
   ·contradiction
  ·contradiction
end Go.Abs
namespace Go.Abs
open Go.Proofs
set_option maxRecDepth 100000
def Mbt:Nat->List (Nat × Ty):=fun f=>bif Nat.beq f 107 then [(0,.list bxT),(1,.list (.int .i64))]else []
noncomputable def btE:Env:={ VZ [(52,bokO),(37,boO 0),(107,gwO 61),(108,lkO 200)]with M:=Mbt }
theorem btE_ok:EnvOK NN Tryz.prog btE:=
 have h:EnvOK NN Tryz.prog (VZ [(52,bokO),(37,boO 0),(107,gwO 61),(108,lkO 200)]):=VZ_ok (gamC orc_bokI Tryz.call52 (gamC orc_boI Tryz.call37 (gamC (orc_gw 61) Tryz.call107 (gamC (orc_lk 200) Tryz.call108 (gamN _ _)))))
 {T:=h.T,E:=h.E,Γ:=h.Γ,X:=h.X,Y:=h.Y }
def A456:Ann:={ head:=ptOf [(6,[4,5,18,19,20],[])],out:=ptOf [(6,[2,3,4,5],[])],res:=[(0,.list tNd)] }
def σ456(bs:List Bd) (ys:List Br) (xs:List Int) (i:Int):St:=⟨[(4,one (.wsl 0 18)),(5,one (.wsl 1 1)),(18,one (.sl none tBx bs)),(19,one (.int .i64 (bs.length:Int))),(20,one (.int .i64 i))],[.arr 84 bxT ys false true,.arr 3 (.int .i64) xs false true]⟩
def σ456r(ys:List Br) (xs:List Int):St:=⟨[(2,one .nils),(3,one (.bool false)),(4,one (.wsl 0 18)),(5,one (.wsl 1 1))],[.arr 84 bxT ys false true,.arr 3 (.int .i64) xs false true]⟩
def σ456o(ys:List Br) (xs:List Int):St:=⟨[(2,.undef),(3,.undef),(4,one (.wsl 0 18)),(5,one (.wsl 1 1))],[.arr 84 bxT ys false true,.arr 3 (.int .i64) xs false true]⟩
theorem turn456{ρ:Type} (K:Exit->St->Option ρ) (go:St->Option ρ) (bs:List Bd) (ys:List Br) (xs:List Int) (i:Int):turnF btE A456 42 0 0 (loopAt Tryz.f71 0) K go (σ456 bs ys xs i) =
  bif decide (i<(bs.length:Int))then(if 0<=i then bs[i.toNat]?.bind (fun x=>bif !okBd x then K .ret (σ456r ys xs)else
   if okV3 x.1=true/\okV3 x.2=true then(if ys.length + [bxV x].length<=70368744177664/\(ys.length + [bxV x].length)*144<=70368744177664 then(if xs.length + [i].length<=70368744177664/\(xs.length + [i].length)*8<=70368744177664 then
    go (σ456 bs (ys ++ [bxV x]) (xs ++ [i]) (IntKind.i64.wrap (i+1)))else none)else none)else none)else none)
  else K (.exit 0) (σ456o ys xs):=by kernel_rfl
def badN:List Bd->Nat->Nat
 | [],i=>i
 | b :: r,i=>if okBd b=true then badN r (i+1)else i
theorem okBd_v{b:Bd} (h:okBd b=true):okV3 b.1=true/\okV3 b.2=true:=by
 unfold okBd at h;simp only [Bool.and_eq_true]at h;exact h.1
theorem loop456{ρ:Type} (K:Exit->St->Option ρ) {bs:List Bd} (hl:bs.length<=1000) :
  itF (turnF btE A456 42 0 0 (loopAt Tryz.f71 0) K) (fun _=>none) (bs.length+1) (σ456 bs [] [] 0) =
   bif bs.all okBd then K (.exit 0) (σ456o (bs.map bxV) (rngL bs.length))else K .ret (σ456r ((bs.take (badN bs 0)).map bxV) (rngL (badN bs 0))):=by
 have key:=itF_list (T:=turnF btE A456 42 0 0 (loopAt Tryz.f71 0) K) (xs:=bs) (s:=fun i (_:Unit)=>σ456 bs ((bs.take i.toNat).map bxV) (rngL i.toNat) i)
  (body:=fun i x st k=>bif !okBd x then K .ret (σ456r ((bs.take i.toNat).map bxV) (rngL i.toNat))else k st) (fin:=fun _=>K (.exit 0) (σ456o (bs.map bxV) (rngL bs.length)))
  (fun go st=>by rw[turn456,lst_out,Int.toNat_natCast,List.take_length])
  (fun go i hi st=>by
   rw[turn456,lst_in hi];cases ho:okBd bs[i]
   ·rfl
   ·rw[if_pos (okBd_v ho),lst_wrap (by omega) hi,Int.toNat_natCast,Int.toNat_natCast];have h1:(bs.take i).length=i:=by rw[List.length_take];omega
    have h2:(rngL i).length=i:=rngL_len i;rw[if_pos ⟨by rw[List.length_map,h1,List.length_singleton];omega,by rw[List.length_map,h1,List.length_singleton];omega⟩,if_pos ⟨by rw[h2,List.length_singleton];omega,by rw[h2,List.length_singleton];omega⟩];have e1:(bs.take i).map bxV ++ [bxV bs[i]]=(bs.take (i+1)).map bxV:=by rw[List.take_succ_eq_append_getElem hi,List.map_append];rfl
    have e2:rngL i ++ [(i:Int)]=rngL (i+1):=by unfold rngL;rw[List.range_succ,List.map_append];rfl
    rw[e1,e2])
  bs.length 0 () (by omega)
 have e0:σ456 bs [] [] 0=σ456 bs ((bs.take (0:Int).toNat).map bxV) (rngL (0:Int).toNat) 0:=rfl;rw[e0];refine key.trans ?_;rw[List.drop_zero];have run:∀ (xs:List Bd) (i:Nat),runL (fun(i:Int) x (st:Unit) k=>bif !okBd x then K .ret (σ456r ((bs.take i.toNat).map bxV) (rngL i.toNat))else k st) (fun _=>K (.exit 0) (σ456o (bs.map bxV) (rngL bs.length))) xs (i:Int) () =
   bif xs.all okBd then K (.exit 0) (σ456o (bs.map bxV) (rngL bs.length))else K .ret (σ456r ((bs.take (badN xs i)).map bxV) (rngL (badN xs i))):=by
  intro xs
  induction xs with
  | nil=>intro i;rfl
  | cons b r ih =>
   intro i;unfold runL badN;rw[List.all_cons];cases ho:okBd b
   ·rfl
   ·rw[if_pos rfl,Bool.true_and];exact ih (i+1)
 exact run bs 0
theorem badT_ex:∃ f:List Bd->List Br × List Int,f=fun bs=>((bs.take (badN bs 0)).map bxV,rngL (badN bs 0)):=⟨_,rfl⟩
noncomputable def badT:=badT_ex.choose
theorem badT_eq:badT=fun bs=>((bs.take (badN bs 0)).map bxV,rngL (badN bs 0)):=badT_ex.choose_spec
noncomputable def S456:Sum:=fun n0 ρ σ K=>match n0,σ with
 | 0,⟨[(4,.v false [.wsl 0 18]),(5,.v false [.wsl 1 1]),(18,.v false [.sl none (.pair (.pair (.pair (.int .i64) (.int .i64)) (.pair (.pair (.int .i64) (.int .i64)) (.pair (.int .i64) (.int .i64)))) (.pair (.pair (.int .i64) (.int .i64)) (.pair (.pair (.int .i64) (.int .i64)) (.pair (.int .i64) (.int .i64))))) bs]),(19,.v false [.int .i64 l]),(20,.v false [.int .i64 i])],
   [.arr 84 (.pair (.pair (.num 0) (.pair (.num 0) (.num 0))) (.pair (.num 0) (.pair (.num 0) (.num 0)))) ys false true,.arr 3 (.int .i64) xs false true]⟩ =>
  if l=(List.length (α:=Bd) bs:Int)/\i=0/\List.length (α:=Br) ys=0/\List.length (α:=Int) xs=0/\(List.length (α:=Bd) bs:Int)<=1000 then bif List.all (α:=Bd) bs okBd then K (.exit 0) (σ456o (List.map (α:=Bd) bxV bs) (rngL (List.length (α:=Bd) bs)))else K .ret (σ456r (badT bs).1 (badT bs).2)else none
 | _,_=>none
theorem sum456:SumOK NN Tryz.prog 42 (loopAt Tryz.f71 0) S456:=
 SumOK.of_turns btE_ok mixT (A:=A456) (SumsOK.none fun _=>rfl) fun n0 ρ σ K r hr=>by
  unfold S456 at hr;split at hr
  ·rename_i bs l i ys xs;split at hr
   ·rename_i hc;obtain⟨rfl,rfl,h3,h4,h5⟩:=hc;obtain rfl:=List.length_eq_zero_iff.1 h3;obtain rfl:=List.length_eq_zero_iff.1 h4;rw[badT_eq]at hr;exact⟨_,(loop456 K (bs:=bs) (by omega)).trans hr⟩
   ·contradiction
  ·contradiction
noncomputable def A456s:Ann:={ A456 with sum:=fun i=>bif Nat.beq i 6 then some S456 else none }
def tupL(L:List Nd) (o:Bool):SV:=.tup [(false,[.sl none tNd L]),(false,[.bool o])]
section
variable {ρ:Type} (cont:SV->HL->Option ρ) (bs:List Bd)
noncomputable def btC(t:Tw):Option ρ:=if(1<=szT t/\szT t<=200)/\fitT t=true/\szT t<=1000 then cont (.tup [(false,[.sl (some false) tNd (liI t 0)]),(false,[.bool true])]) []else none
theorem gq456:runF btE A456s 0 Tryz.f71 (bodyOf Tryz.f71) ρ [one (.sl none tBx bs)] [] cont =
  bif (bs.length:Int)==0 then cont (tupL [] false) []else bif bif false then true else decide (60<(bs.length:Int))then cont (tupL [] false) []else
  if(bs.length:Int)=(bs.length:Int)/\(0:Int)=0/\([]:List Br).length=0/\([]:List Int).length=0/\(bs.length:Int)<=1000 then
   bif bs.all okBd then(if(okI (bs.map bxV) (rngL bs.length)=true/\okIt (bs.map bxV).length (rngL bs.length))/\1<=(rngL bs.length).length/\(rngL bs.length).length<=61/\(rngL bs.length).length<=100 then btC cont (twI (bs.map bxV) 61 (rngL bs.length))else none)
   else cont (tupL [] false) []else none:=by kernel_rfl
end
end Go.Abs
namespace Go.Abs
open Go.Proofs
set_option maxRecDepth 100000
theorem fitR_ok'{b:Bd} (h:okBd b=true):fitR (bxV b)=true:=by
 obtain⟨⟨⟨a1,a2,a3⟩,a4,a5,a6⟩,_⟩:=okBd_iff.1 h;have hq:∀ q:Qd,okQd q=true->qFit (vQ q)=true:=fun q hq=>by
  obtain⟨h1,h2,h3,h4,h5⟩:=qOkB_iff.1 hq;obtain⟨e1,e2⟩:=q_rt hq;unfold qFit vQ;rw[e1];exact decide_eq_true ⟨by omega,by omega⟩
 unfold fitR;simp only [Bool.and_eq_true];exact⟨⟨hq _ a1,hq _ a2,hq _ a3⟩,hq _ a4,hq _ a5,hq _ a6⟩
theorem szB_ok'{b:Bd} (h:okBd b=true):szB (bxV b)=true:=by
 obtain⟨⟨⟨a1,a2,a3⟩,a4,a5,a6⟩,_⟩:=okBd_iff.1 h;exact szB_iff.2 ⟨okQd_s8 a1,okQd_s8 a2,okQd_s8 a3,okQd_s8 a4,okQd_s8 a5,okQd_s8 a6⟩
theorem fit_tw{bs:List Bd} (hbs:∀ b∈bs,okBd b=true):∀ (n:Nat) (xs:List Int),okIt bs.length xs->xs.length<=n->fitT (twV (bs.map bxV) n xs)=true/\(1<=xs.length->szT (twV (bs.map bxV) n xs)+1<=2*xs.length)
 | 0,xs,h,hl=>⟨rfl,fun h1=>by omega⟩
 | n+1,[],h,hl=>⟨rfl,fun h1=>by simp at h1⟩
 | n+1,x :: r,h,hl=>by
  obtain⟨x0,x1⟩:=h.2 x List.mem_cons_self;have hx:bs[x.toNat]? = some bs[x.toNat]:=List.getElem?_eq_getElem (by omega);have hxm:(bs.map bxV)[x.toNat]? = some (bxV bs[x.toNat]):=by rw[List.getElem?_map,hx];rfl
  obtain⟨a1,a2⟩:=arS_ok hbs r (hbs _ (List.getElem_mem (show x.toNat<bs.length by omega)));have ea:arV (bs.map bxV) ((bs.map bxV)[x.toNat]?.getD br0) (x :: r)=bxV (arS bs bs[x.toNat] r):=by
   rw[hxm,Option.getD_some,arV_first hxm,a2]
  have hb:=fitR_ok' a1;unfold twV;rw[ea]
  by_cases hr:r=[]
  ·rw[if_pos hr];subst hr;refine⟨?_,fun _=>by simp [szT]⟩;unfold fitT;rw[hb];rfl
  ·rw[if_neg hr];dsimp only;obtain⟨p,_⟩:=srtP_ok (f:=midV (bs.map bxV) (axV (bxV (arS bs bs[x.toNat] r)))) h.1;revert p;generalize srtP (midV (bs.map bxV) (axV (bxV (arS bs bs[x.toNat] r)))) (x :: r)=ys;intro p;have hyl:=p.length_eq;have hy2:2<=ys.length:=by
    rw[hyl];cases r with
    | nil=>exact absurd rfl hr
    | cons y r=>simp
   obtain⟨t1,t2,t3,t4⟩:=half_len hy2;have hL:=fit_tw hbs n (ys.take ((ys.length+1) / 2)) ((h.perm p).sub (List.take_sublist _ _)) (by omega);have hR:=fit_tw hbs n (ys.drop ((ys.length+1) / 2)) ((h.perm p).sub (List.drop_sublist _ _)) (by omega);have nL:isNilT (twV (bs.map bxV) n (ys.take ((ys.length+1) / 2)))=false:=twV_nil (fun e=>by rw[e]at t1;simp at t1) (by omega);have nR:isNilT (twV (bs.map bxV) n (ys.drop ((ys.length+1) / 2)))=false:=twV_nil (fun e=>by rw[e]at t3;simp at t3) (by omega);refine⟨?_,fun _=>?_⟩
   ·unfold fitT;rw[hb,nL,nR,hL.1,hR.1];rfl
   ·unfold szT;have q1:=hL.2 t1;have q2:=hR.2 t3;have q3:(ys.take ((ys.length+1) / 2)).length+(ys.drop ((ys.length+1) / 2)).length=ys.length:=by rw[<- List.length_append,List.take_append_drop]
    omega
def btB(bs:List Bd):Bool:=decide (1<=bs.length)&&(decide (bs.length<=60)&&bs.all okBd)
def btV(bs:List Bd):List Nd:=if btB bs=true then bldT bs else []
theorem bt_ex:∃ f,f=btV:=⟨_,rfl⟩
noncomputable def btI:=bt_ex.choose
theorem btI_eq:btI=btV:=bt_ex.choose_spec
noncomputable def btO:Orc:=fun ρ args H cont=>match args,H with
 | [.v false [.sl _ (.pair (.pair (.pair (.int .i64) (.int .i64)) (.pair (.pair (.int .i64) (.int .i64)) (.pair (.int .i64) (.int .i64)))) (.pair (.pair (.int .i64) (.int .i64)) (.pair (.pair (.int .i64) (.int .i64)) (.pair (.int .i64) (.int .i64))))) bs]],[]=>cont (tupL (btI bs) (btB bs)) []
 | _,_=>none
theorem bt_run{ρ:Type} (cont:SV->HL->Option ρ) (bs:List Bd):runF btE A456s 0 Tryz.f71 (bodyOf Tryz.f71) ρ [one (.sl none tBx bs)] [] (fun s H=>cont (plSV tNd s) H)=cont (tupL (btV bs) (btB bs)) []:=by
 rw[gq456]
 by_cases h0:bs.length=0
 ·have e1:((bs.length:Int)==0)=true:=by rw[beq_iff_eq];omega
  have e2:btB bs=false:=by unfold btB;rw[decide_eq_false (by omega)];rfl
  rw[e1,cond_true];unfold btV;rw[e2];rfl
 ·have e1:((bs.length:Int)==0)=false:=by rw[beq_eq_false_iff_ne];omega
  rw[e1,cond_false,cond_false]
  by_cases h1:60<bs.length
  ·have e2:btB bs=false:=by unfold btB;rw[decide_eq_false (p:=bs.length<=60) (by omega),Bool.false_and,Bool.and_false]
   rw[decide_eq_true (by omega),cond_true];unfold btV;rw[e2];rfl
  ·rw[decide_eq_false (by omega),cond_false,if_pos ⟨rfl,rfl,rfl,rfl,by omega⟩];cases ha:bs.all okBd
   ·have e2:btB bs=false:=by unfold btB;rw[ha,Bool.and_false,Bool.and_false]
    unfold btV;rw[e2];rfl
   ·have e2:btB bs=true:=by unfold btB;rw[ha,decide_eq_true (by omega),decide_eq_true (by omega)];rfl
    have hbs:∀ b∈bs,okBd b=true:=List.all_eq_true.1 ha;have hr:=rngL_ok bs.length;have hrl:=rngL_len bs.length;have hok:okI (bs.map bxV) (rngL bs.length)=true:=by
     unfold okI;rw[Bool.and_eq_true,List.all_eq_true,List.all_eq_true];refine⟨fun x hx=>?_,fun b hb=>?_⟩
     ·have:=hr.2 x hx;rw[List.length_map,decide_eq_true this.1,decide_eq_true this.2];rfl
     ·obtain⟨c,hc,rfl⟩:=List.mem_map.1 hb;exact szB_ok' (hbs c hc)
    obtain⟨f1,f2⟩:=fit_tw hbs 61 (rngL bs.length) hr (by omega);have f3:=f2 (by omega);have f4:1<=szT (twV (bs.map bxV) 61 (rngL bs.length)):=szT_nil (twV_nil (fun e=>by rw[e]at hrl;simp at hrl;omega) (by omega));rw[cond_true,if_pos ⟨⟨hok,by rw[List.length_map];exact hr⟩,by omega,by omega,by omega⟩,twI_eq];unfold btC;rw[if_pos ⟨⟨f4,by omega⟩,f1,by omega⟩,liI_eq,bld_eq hbs 61 _ 0 hr (by omega)];unfold btV;rw[e2];rfl
noncomputable def btO1:Orc:=fun ρ args H cont=>match args,H with
 | [.v false [.sl none (.pair (.pair (.pair (.int .i64) (.int .i64)) (.pair (.pair (.int .i64) (.int .i64)) (.pair (.int .i64) (.int .i64)))) (.pair (.pair (.int .i64) (.int .i64)) (.pair (.pair (.int .i64) (.int .i64)) (.pair (.int .i64) (.int .i64))))) bs]],[]=>cont (tupL (btI bs) (btB bs)) []
 | _,_=>none
theorem orc_bt1:OrcOK NN Tryz.prog 71 btO1:=
 OrcOK.of_tale (OrcOK.pl (runF_ok btE_ok mixT (A:=A456s) (fuel:=0) Tryz.func71 (c:=bodyOf Tryz.f71) (by kernel_rfl) (SumsOK.ofL (ls:=[loopAt Tryz.f71 0]) (by kernel_rfl) ⟨sumL1 (by kernel_rfl) sum456,trivial⟩)) tNd) fun ρ args H cont r hr=>by
  unfold btO1 at hr;split at hr
  ·rename_i bs;rw[btI_eq]at hr;exact(bt_run cont bs).trans hr
  ·contradiction
theorem orc_bt:OrcOK NN Tryz.prog 71 btO:=OrcOK.argc orc_bt1 fun args H cont r hr=>by
  unfold btO at hr;split at hr
  ·rename_i nb bs;refine⟨[one (.sl none tBx bs)],hr,fun s hs i hi=>?_,fun G κ vs hv=>?_⟩
   ·rw[List.mem_singleton]at hs;subst hs;cases hi
   ·obtain⟨v1,r1,e1,h1,h3⟩:=hv;exact⟨v1,r1,e1,sl_plain h1,h3⟩
  ·contradiction
end Go.Abs

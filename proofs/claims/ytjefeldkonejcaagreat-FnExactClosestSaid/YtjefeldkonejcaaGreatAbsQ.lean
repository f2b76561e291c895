/-
 A PART OF THE PROOF of ClI (texts AbsQ AbsR AbsX): the claim itself stands in the last text. No conditions beside those of the given row.
-/
import Derived.Test.YtjefeldkonejcaaGreatAbsP
import Derived.MapKept
set_option linter.unusedVariables false
set_option linter.unnecessarySimpa false
set_option linter.unusedSimpArgs false
namespace Go.Abs
abbrev Pt:=Nat->Option (List Nat × List Nat)
abbrev Sum:=Nat->(ρ:Type)->St->(Exit->St->Option ρ)->Option ρ
structure Ann where
 reg:Pt:=fun _=>none
 head:Pt:=fun _=>none
 out:Pt:=fun _=>none
 shut:Bool:=false
 sum:Nat->Option Sum:=fun _=>none
 ips:Nat->List (Nat × Ty):=fun _=>[]
 res:List (Nat × Ty):=[]
def prep(A:Pt) (n0:Nat) (id:Nat) (σ:St):St:=
 match A id with
 | none=>σ
 | some p=>norm n0 p.1 (frz p.2 σ)
def sealSl:List (Nat × Ty)->St->St
 | [],σ=>σ
 | p :: r,σ=>sealSl r ⟨(p.1,(viewSV σ.hp p.2 [] (sget σ.sl p.1)).1) :: σ.sl,closeH σ.hp (viewSV σ.hp p.2 [] (sget σ.sl p.1)).2⟩
def fid:Code->Nat
 | .region id _ _=>id
 | .seq a _=>fid a
 | .cond _ a _=>fid a
 | .block _ c=>fid c
 | .loop c=>fid c
 | _=>0
def itF{α β:Type} (F:(α->β)->α->β) (z:α->β):Nat->α->β
 | 0=>z
 | n+1=>F (itF F z n)
section
variable {ρ:Type}
def loopsOf:Code->List Code
 | .seq a b=>loopsOf a++loopsOf b
 | .cond _ a b=>loopsOf a++loopsOf b
 | .block _ c=>loopsOf c
 | .loop c=>c :: loopsOf c
 | _=>[]
def loopF(S:Option Sum) (n0:Nat) (σ:St) (K:Exit->St->Option ρ) (go:Option ρ):Option ρ:=
 match S with
 | some S=>S n0 ρ σ K
 | none=>go
def aexec(V:Env) (A:Ann) (nt n0 fuel:Nat):Code->St->(Exit->St->Option ρ)->Option ρ
 | .skip,σ,K=>K .normal σ
 | .region id ops d,σ,K=>bif d then regAny V nt n0 ops.toList (prep A.reg n0 id (sealSl (A.ips id) σ)) (K .normal)else regSeq V nt n0 ops.toList ops.toList (prep A.reg n0 id (sealSl (A.ips id) σ)) (K .normal)
 | .seq a b,σ,K=>aexec V A nt n0 fuel a σ fun e σ'=>match e with
  | .normal=>aexec V A nt n0 fuel b σ' K
  | e=>K e σ'
 | .cond (.tmp t) a b,σ,K=>one? (sget σ.sl t) fun
  | .bool x=>bif x then aexec V A nt n0 fuel a ⟨(t,one (.bool true)) :: σ.sl,σ.hp⟩ K else aexec V A nt n0 fuel b ⟨(t,one (.bool false)) :: σ.sl,σ.hp⟩ K
  | _=>none
 | .cond (.const (.bool x)) a b,σ,K=>bif x then aexec V A nt n0 fuel a σ K else aexec V A nt n0 fuel b σ K
 | .block id c,σ,K=>aexec V A nt n0 fuel c σ fun e σ'=>match e with
  | .exit i=>bif Nat.beq i id then K .normal σ' else K (.exit i) σ'
  | e=>K e σ'
 | .loop c,σ,K=>loopF (A.sum (fid c)) n0 (prep A.head n0 (fid c) (sealSl (A.ips (fid c)) σ)) K (itF (fun go σ=>aexec V A nt n0 fuel c σ fun e σ'=>match e with
  | .normal=>go (prep A.head n0 (fid c) (sealSl (A.ips (fid c)) σ'))
  | e=>K e (prep A.out n0 (fid c) σ')) (fun _=>none) fuel (prep A.head n0 (fid c) (sealSl (A.ips (fid c)) σ)))
 | .exit id,σ,K=>K (.exit id) σ
 | .ret,σ,K=>K .ret σ
 | _,_,_=>none
def AP(N:NumSem) (P:Program) (nt n0:Nat) (c:Code) (σ:St) (e:Exit) (σ':St):Prop:=
 ∀ {C:Ctx},C.nt=nt->C.H.length=n0->∀ {a:Act} {w:World},Inv N C σ a w->c.wp P (fun e' a' w'=>e'=e/\Inv N C σ' a' w') a w
theorem Inv.prep{N:NumSem} {C:Ctx} {A:Pt} {id:Nat} {σ:St} {a:Act} {w:World} (h:Inv N C σ a w):Inv N C (prep A C.H.length id σ) a w:=by
 unfold Abs.prep;split
 ·exact h
 ·exact(h.frz _).norm _
theorem Inv.sealSl{N:NumSem} {C:Ctx} {a:Act} {w:World}:∀ (ps:List (Nat × Ty)) {σ:St},Inv N C σ a w->Inv N C (sealSl ps σ) a w
 | [],σ,h=>h
 | p :: r,σ,h=>by
  refine Inv.sealSl r ?_;obtain⟨G,κ,h1,h2,h3,h4⟩:=h.ex;have hids:=viewSV_ids (H:=σ.hp) (T:=p.2) (oth:=[]) (s:=sget σ.sl p.1);have hlive:∀ l∈(viewSV σ.hp p.2 [] (sget σ.sl p.1)).2,hmap σ.hp l=(hget σ.hp l).opt:=fun l hl=>rfl
  obtain⟨G1,t1,r1,hS⟩:=seal_all (H:=σ.hp) (viewSV σ.hp p.2 [] (sget σ.sl p.1)).2 h2 (fun l hl=>.inl rfl);rw[<- hmap_closeH]at t1 r1;have hl:σ.hp.length<=(closeH σ.hp (viewSV σ.hp p.2 [] (sget σ.sl p.1)).2).length:=setAll_len _ _;have hk:∀ l,hget (closeH σ.hp (viewSV σ.hp p.2 [] (sget σ.sl p.1)).2) l=hget σ.hp l\/hget (closeH σ.hp (viewSV σ.hp p.2 [] (sget σ.sl p.1)).2) l=closeB (hget σ.hp l):=fun l=>by
   rw[closeH_get];split
   ·exact .inr rfl
   ·exact .inl rfl
  have hc:∀ l as,hget (closeH σ.hp (viewSV σ.hp p.2 [] (sget σ.sl p.1)).2) l=.var as->hget σ.hp l=.var as:=fun l as hl=>by
   rcases hk l with e | e
   ·rw[e]at hl;exact hl
   ·rw[e]at hl;cases hb:hget σ.hp l <;> rw[hb]at hl <;> simp [closeB]at hl
  refine⟨fun l as hla i hi=>Nat.lt_of_lt_of_le (h.wf l as (hc l as hla) i hi) hl,fun t i hi=>?_,h.dfr,h.size,Nat.le_trans h.len hl,G1,κ,h1.trans t1,r1,fun t=>?_,fun j hj hm=>?_⟩
  ·simp only [sget]at hi;refine Nat.lt_of_lt_of_le ?_ hl;cases hb:Nat.beq p.1 t with
   | true=>rw[hb]at hi;exact h.wfs p.1 i (hids.1 i hi)
   | false=>rw[hb]at hi;exact h.wfs t i hi
  ·simp only [sget];cases hb:Nat.beq p.1 t with
   | true =>
    rw[<- Nat.eq_of_beq_eq_true hb];exact viewSV_ok (H:=σ.hp) (H1:=closeH σ.hp (viewSV σ.hp p.2 [] (sget σ.sl p.1)).2) (fun _ _ e=>e) h2 t1.gle (fun _ _ e=>e) r1 (fun l hl=>hS l hl rfl) (fun l hl=>by rw[closeH_get,if_pos hl]) (h3 p.1)
   | false=>exact(h3 t).mono t1.gle fun _ _=>rfl
  ·have hm':mvB (hget (closeH σ.hp (viewSV σ.hp p.2 [] (sget σ.sl p.1)).2) j)=false:=hm;rcases hk j with e | e
   ·rw[e]at hm';exact h4 j hj hm'
   ·rw[e]at hm';refine h4 j hj ?_;cases hb:hget σ.hp j <;> rw[hb]at hm' <;> simp_all [closeB,mvB]
def turnF(V:Env) (A:Ann) (nt n0 fuel:Nat) (c:Code) (K:Exit->St->Option ρ) (go:St->Option ρ) (σ:St):Option ρ:=
 aexec V A nt n0 fuel c σ fun e σ'=>match e with
  | .normal=>go (prep A.head n0 (fid c) (sealSl (A.ips (fid c)) σ'))
  | e=>K e (prep A.out n0 (fid c) σ')
theorem aexec_loop(V:Env) (A:Ann) (nt n0 fuel:Nat) (c:Code) (K:Exit->St->Option ρ) (σ:St) :
  aexec V A nt n0 fuel (.loop c) σ K=loopF (A.sum (fid c)) n0 (prep A.head n0 (fid c) (sealSl (A.ips (fid c)) σ)) K (itF (turnF V A nt n0 fuel c K) (fun _=>none) fuel (prep A.head n0 (fid c) (sealSl (A.ips (fid c)) σ))):=rfl
def SumOK(N:NumSem) (P:Program) (nt:Nat) (c:Code) (S:Sum):Prop:=
 ∀ n0 ρ σ (K:Exit->St->Option ρ) r,S n0 ρ σ K=some r->∃ e σ',K e σ'=some r/\AP N P nt n0 (.loop c) σ e σ'
def SumsOK(N:NumSem) (P:Program) (A:Ann) (nt:Nat) (c:Code):Prop:=∀ l∈loopsOf c,∀ S,A.sum (fid l)=some S->SumOK N P nt l S
theorem aexec_ok{N:NumSem} {P:Program} {V:Env} (hV:EnvOK N P V) (hmix:P.follows .mixedOrders=true) {A:Ann} {nt n0 fuel:Nat}:∀ (c:Code),SumsOK N P A nt c->∀ {σ:St} {K:Exit->St->Option ρ} {r:ρ},
  aexec V A nt n0 fuel c σ K=some r->∃ e σ',K e σ'=some r/\AP N P nt n0 c σ e σ'
 | .skip,hS,σ,K,r,h=>⟨.normal,σ,by simpa only [aexec] using h,fun _ _ _ _ hI=>wp_skip ⟨rfl,hI⟩⟩
 | .region id ops d,hS,σ,K,r,h=>by
  simp only [aexec]at h;cases d with
  | true =>
   simp only [cond_true]at h;obtain⟨σ',hk,hs⟩:=regAny_ok hV hmix h;refine⟨.normal,σ',hk,fun{C} c1 c2 {a w} hI=>?_⟩;have hI1:=(hI.sealSl (A.ips id)).prep (A:=A.reg) (id:=id);rw[c2]at hI1;exact hs c1 c2 hI1 fun a' w' hI'=>⟨rfl,hI'⟩
  | false =>
   simp only [cond_false]at h;obtain⟨σ',hk,hs⟩:=regSeq_ok hV h;refine⟨.normal,σ',hk,fun{C} c1 c2 {a w} hI=>?_⟩;have hI1:=(hI.sealSl (A.ips id)).prep (A:=A.reg) (id:=id);rw[c2]at hI1;exact wp_region_list (hs c1 c2 hI1 fun a' w' hI'=>⟨rfl,hI'⟩)
 | .seq x y,hS,σ,K,r,h=>by
  have HX:SumsOK N P A nt x:=fun l hl=>hS l (List.mem_append_left _ hl)
  have HY:SumsOK N P A nt y:=fun l hl=>hS l (List.mem_append_right _ hl)
  simp only [aexec]at h;obtain⟨e,σ1,h1,hx⟩:=aexec_ok hV hmix x HX h;cases e
  case normal =>
   obtain⟨e2,σ2,h2,hy⟩:=aexec_ok hV hmix y HY h1;refine⟨e2,σ2,h2,fun{C} c1 c2 {a w} hI=>wp_seq (wp_mono (hx c1 c2 hI) fun e' a' w' hq=>?_)⟩;obtain⟨rfl,hI'⟩:=hq;exact hy c1 c2 hI'
  all_goals
   refine⟨_,σ1,h1,fun{C} c1 c2 {a w} hI=>wp_seq (wp_mono (hx c1 c2 hI) fun e' a' w' hq=>?_)⟩;obtain⟨rfl,hI'⟩:=hq;exact⟨rfl,hI'⟩
 | .cond (.tmp t) x y,hS,σ,K,r,h=>by
  have HX:SumsOK N P A nt x:=fun l hl=>hS l (List.mem_append_left _ hl)
  have HY:SumsOK N P A nt y:=fun l hl=>hS l (List.mem_append_right _ hl)
  simp only [aexec]at h;obtain⟨at_,hat,h⟩:=one?_ok h;split at h
  ·rename_i b;have hev:∀ {C:Ctx} {a:Act} {w:World},Inv N C σ a w->a.eval (.tmp t)=.bool b:=fun{C a w} hI=>by
    obtain⟨G,κ,_,_,h3,_⟩:=hI.ex;have h4:=h3 t;rw[hat]at h4;have h4:=one_val h4
    simpa [AR,Act.eval] using h4
   cases b <;> simp only [cond_true,cond_false]at h
   ·obtain⟨e,σ',hk,hs⟩:=aexec_ok hV hmix y HY h;exact⟨e,σ',hk,fun c1 c2 _ _ hI=>wp_cond_false (hev hI) (hs c1 c2 (hI.again hat))⟩
   ·obtain⟨e,σ',hk,hs⟩:=aexec_ok hV hmix x HX h;exact⟨e,σ',hk,fun c1 c2 _ _ hI=>wp_cond_true (hev hI) (hs c1 c2 (hI.again hat))⟩
  ·contradiction
 | .cond (.const (.bool b)) x y,hS,σ,K,r,h=>by
  have HX:SumsOK N P A nt x:=fun l hl=>hS l (List.mem_append_left _ hl)
  have HY:SumsOK N P A nt y:=fun l hl=>hS l (List.mem_append_right _ hl)
  simp only [aexec]at h;cases b <;> simp only [cond_true,cond_false]at h
  ·obtain⟨e,σ',hk,hs⟩:=aexec_ok hV hmix y HY h;exact⟨e,σ',hk,fun c1 c2 _ _ hI=>wp_cond_false rfl (hs c1 c2 hI)⟩
  ·obtain⟨e,σ',hk,hs⟩:=aexec_ok hV hmix x HX h;exact⟨e,σ',hk,fun c1 c2 _ _ hI=>wp_cond_true rfl (hs c1 c2 hI)⟩
 | .block id x,hS,σ,K,r,h=>by
  have HX:SumsOK N P A nt x:=hS;simp only [aexec]at h;obtain⟨e,σ1,h1,hx⟩:=aexec_ok hV hmix x HX h;cases e
  case exit i =>
   cases hb:Nat.beq i id with
   | true =>
    simp only [hb,cond_true]at h1;have:=Nat.eq_of_beq_eq_true hb;subst this;refine⟨.normal,σ1,h1,fun{C} c1 c2 {a w} hI=>wp_block (wp_mono (hx c1 c2 hI) fun e' a' w' hq=>?_)⟩;obtain⟨rfl,hI'⟩:=hq;simp only [Exit.inBlock,if_true];exact⟨trivial,hI'⟩
   | false =>
    simp only [hb,cond_false]at h1;refine⟨.exit i,σ1,h1,fun{C} c1 c2 {a w} hI=>wp_block (wp_mono (hx c1 c2 hI) fun e' a' w' hq=>?_)⟩;obtain⟨rfl,hI'⟩:=hq;simp only [Exit.inBlock,if_neg (Nat.ne_of_beq_eq_false hb)];exact⟨trivial,hI'⟩
  all_goals
   refine⟨_,σ1,h1,fun{C} c1 c2 {a w} hI=>wp_block (wp_mono (hx c1 c2 hI) fun e' a' w' hq=>?_)⟩;obtain⟨rfl,hI'⟩:=hq;exact⟨rfl,hI'⟩
 | .loop x,hS,σ,K,r,h=>by
  have HX:SumsOK N P A nt x:=fun l hl=>hS l (List.mem_cons_of_mem _ hl)
  have pre:∀ {e σ'},AP N P nt n0 (.loop x) (prep A.head n0 (fid x) (sealSl (A.ips (fid x)) σ)) e σ'->AP N P nt n0 (.loop x) σ e σ':=by
   intro e σ' hs C c1 c2 a w hI;have hI2:=(hI.sealSl (A.ips (fid x))).prep (A:=A.head) (id:=fid x);rw[c2]at hI2;exact hs c1 c2 hI2
  rw[aexec_loop]at h;unfold loopF at h;split at h
  ·rename_i S hSx;obtain⟨e,σ',hk,hs⟩:=hS x List.mem_cons_self S hSx n0 ρ _ K r h;exact⟨e,σ',hk,pre hs⟩
  ·have key:∀ (n:Nat) {σ:St},itF (turnF V A nt n0 fuel x K) (fun _=>none) n σ=some r ->
    ∃ e σ',K e σ'=some r /\ ∀ {C:Ctx},C.nt=nt->C.H.length=n0->∀ {a:Act} {w:World},Inv N C σ a w->Code.rounds P x (fun e' a' w'=>e'=e/\Inv N C σ' a' w') n a w:=by
    intro n
    induction n with
    | zero=>intro σ h;simp [itF]at h
    | succ n ih =>
     intro σ h;simp only [itF,turnF]at h;obtain⟨e,σ1,h1,hx⟩:=aexec_ok hV hmix x HX h;cases e
     case normal =>
      obtain⟨e2,σ2,h2,hy⟩:=ih h1;refine⟨e2,σ2,h2,fun{C} c1 c2 {a w} hI=>?_⟩;rw[rounds_succ];refine wp_mono (hx c1 c2 hI) fun e' a' w' hq=>?_
      obtain⟨rfl,hI'⟩:=hq;have hI2:=(hI'.sealSl (A.ips (fid x))).prep (A:=A.head) (id:=fid x);rw[c2]at hI2;exact hy c1 c2 hI2
     all_goals
      refine⟨_,_,h1,fun{C} c1 c2 {a w} hI=>?_⟩;rw[rounds_succ];refine wp_mono (hx c1 c2 hI) fun e' a' w' hq=>?_
      obtain⟨rfl,hI'⟩:=hq;have hI2:=hI'.prep (A:=A.out) (id:=fid x);rw[c2]at hI2;exact⟨rfl,hI2⟩
   obtain⟨e,σ',hk,hs⟩:=key fuel h;exact⟨e,σ',hk,pre fun c1 c2 _ _ hI=>wp_loop_rounds fuel (hs c1 c2 hI)⟩
 | .exit id,hS,σ,K,r,h=>⟨.exit id,σ,by simpa only [aexec] using h,fun _ _ _ _ hI=>wp_exit ⟨rfl,hI⟩⟩
 | .ret,hS,σ,K,r,h=>⟨.ret,σ,by simpa only [aexec] using h,fun _ _ _ _ hI=>wp_ret ⟨rfl,hI⟩⟩
 | .rangeFunc ..,hS,σ,K,r,h=>by simp [aexec]at h
 | .scope ..,hS,σ,K,r,h=>by simp [aexec]at h
 | .label ..,hS,σ,K,r,h=>by simp [aexec]at h
 | .goto ..,hS,σ,K,r,h=>by simp [aexec]at h
 | .cond (.global _) _ _,hS,σ,K,r,h=>by simp [aexec]at h
 | .cond (.func _) _ _,hS,σ,K,r,h=>by simp [aexec]at h
 | .cond (.const v) x y,hS,σ,K,r,h=>by
  have HX:SumsOK N P A nt x:=fun l hl=>hS l (List.mem_append_left _ hl)
  have HY:SumsOK N P A nt y:=fun l hl=>hS l (List.mem_append_right _ hl)
  cases v
  case bool b =>
   simp only [aexec]at h;cases b <;> simp only [cond_true,cond_false]at h
   ·obtain⟨e,σ',hk,hs⟩:=aexec_ok hV hmix y HY h;exact⟨e,σ',hk,fun c1 c2 _ _ hI=>wp_cond_false rfl (hs c1 c2 hI)⟩
   ·obtain⟨e,σ',hk,hs⟩:=aexec_ok hV hmix x HX h;exact⟨e,σ',hk,fun c1 c2 _ _ hI=>wp_cond_true rfl (hs c1 c2 hI)⟩
  all_goals simp [aexec]at h
theorem SumOK.of_turns{N:NumSem} {P:Program} {V:Env} (hV:EnvOK N P V) (hmix:P.follows .mixedOrders=true) {A:Ann} {nt:Nat} {c:Code} {S:Sum} (hS:SumsOK N P A nt c)
  (h:∀ n0 ρ σ (K:Exit->St->Option ρ) r,S n0 ρ σ K=some r->∃ n,itF (turnF V A nt n0 0 c K) (fun _=>none) n σ=some r):SumOK N P nt c S:=by
 intro n0 ρ σ K r hr;obtain⟨n,hn⟩:=h n0 ρ σ K r hr;have key:∀ (n:Nat) {σ:St},itF (turnF V A nt n0 0 c K) (fun _=>none) n σ=some r ->
   ∃ e σ',K e σ'=some r /\ ∀ {C:Ctx},C.nt=nt->C.H.length=n0->∀ {a:Act} {w:World},Inv N C σ a w->Code.rounds P c (fun e' a' w'=>e'=e/\Inv N C σ' a' w') n a w:=by
  intro n
  induction n with
  | zero=>intro σ h;simp [itF]at h
  | succ n ih =>
   intro σ h;simp only [itF,turnF]at h;obtain⟨e,σ1,h1,hx⟩:=aexec_ok (N:=N) hV hmix c hS h;cases e
   case normal =>
    obtain⟨e2,σ2,h2,hy⟩:=ih h1;refine⟨e2,σ2,h2,fun{C} c1 c2 {a w} hI=>?_⟩;rw[rounds_succ];refine wp_mono (hx c1 c2 hI) fun e' a' w' hq=>?_
    obtain⟨rfl,hI'⟩:=hq;have hI2:=(hI'.sealSl (A.ips (fid c))).prep (A:=A.head) (id:=fid c);rw[c2]at hI2;exact hy c1 c2 hI2
   all_goals
    refine⟨_,_,h1,fun{C} c1 c2 {a w} hI=>?_⟩;rw[rounds_succ];refine wp_mono (hx c1 c2 hI) fun e' a' w' hq=>?_
    obtain⟨rfl,hI'⟩:=hq;have hI2:=hI'.prep (A:=A.out) (id:=fid c);rw[c2]at hI2;exact⟨rfl,hI2⟩
 obtain⟨e,σ',hk,hs⟩:=key n hn;exact⟨e,σ',hk,fun c1 c2 _ _ hI=>wp_loop_rounds n (hs c1 c2 hI)⟩
def resV(T:Tab) (σ:St):List ResultVar->(List SV->Option ρ)->Option ρ
 | [],f=>f []
 | .tmp t :: r,f=>resV T σ r fun vs=>f (sget σ.sl t :: vs)
 | .cell a t :: r,f=>opLoad T σ.hp t (sget σ.sl a) fun s=>resV T σ r fun vs=>f (s :: vs)
def tupOf:List SV->Option (List (Bool × List Atom))
 | []=>some []
 | .v g as :: r=>(match tupOf r with | some vs=>some ((g,as) :: vs) | none=>none)
 | _=>none
def packV:List SV->(SV->Option ρ)->Option ρ
 | [s],f=>f s
 | vs,f=>match tupOf vs with
  | some ts=>f (.tup ts)
  | none=>none
theorem resV_ok{N:NumSem} {P:Program} {T:Tab} (hT:TabOk P T) {σ:St}:∀ {rs:List ResultVar} {f:List SV->Option ρ} {r:ρ},resV T σ rs f=some r->∃ ss,f ss=some r/\ss.length=rs.length /\
  ∀ {G:Ghost} {κ:Kap} {w:World} {tmps:Array Value},Rel N G κ (hmap σ.hp) w->(∀ t,svR N G κ (sget σ.sl t) (tmps.getD t undef)) ->
   ∃ vs,(rs.mapM (m:=Sem) fun x=>(match x with
    | .tmp t=>pure (tmps.getD t undef)
    | .cell a t=>do loadVar t (<- asAddr (tmps.getD a undef)):Sem Value)).run P w=.ok vs w/\SvsR N G κ ss vs
 | [],f,r,h=>⟨[],h,rfl,fun _ _=>⟨[],by simp,rfl⟩⟩
 | .tmp t :: rs,f,r,h=>by
  simp only [resV]at h;obtain⟨ss,h1,h2,h3⟩:=resV_ok (N:=N) hT h;refine⟨_,h1,by simp [h2],fun{G κ w tmps} hr hs=>?_⟩;obtain⟨vs,h4,h5⟩:=h3 hr hs;refine⟨tmps.getD t undef :: vs,?_,⟨_,_,rfl,hs t,h5⟩⟩;rw[List.mapM_cons];simp only [Sem.run_bind,Sem.run_pure,Result.andThen_ok,h4]
 | .cell a t :: rs,f,r,h=>by
  simp only [resV]at h;obtain⟨s,hk,hs1⟩:=ld_ok hT h;obtain⟨ss,h1,h2,h3⟩:=resV_ok (N:=N) hT hk;refine⟨_,h1,by simp [h2],fun{G κ w tmps} hr hs=>?_⟩;obtain⟨vs,h4,h5⟩:=h3 hr hs;obtain⟨b,off,x,hv,hrun,hx⟩:=hs1 (fun _ _ e=>e) hr (hs a);refine⟨x :: vs,?_,⟨_,_,rfl,hx,h5⟩⟩;rw[List.mapM_cons];have hrun':(do loadVar t (<- asAddr (tmps.getD a undef)):Sem Value).run P w=.ok x w:=by
   rw[hv]at hrun ⊢;exact hrun
  simp only [Sem.run_bind,Sem.run_pure,Result.andThen_ok]at hrun' ⊢;rw[hrun'];simp only [Result.andThen_ok,h4]
theorem tupOf_ok{N:NumSem} {G:Ghost} {κ:Kap}:∀ {ss:List SV} {ts:List (Bool × List Atom)} {vs:List Value},tupOf ss=some ts->SvsR N G κ ss vs->TupR N G κ ts vs
 | [],ts,vs,h,hs=>by
  simp only [tupOf,Option.some.injEq]at h;subst h;simp only [SvsR]at hs;subst hs;simp [TupR]
 | s :: ss,ts,vs,h,hs=>by
  obtain⟨v,r,e,h1,h2⟩:=hs;cases s <;> simp only [tupOf]at h
  case v g as =>
   split at h
   ·rename_i ts' ht;simp only [Option.some.injEq]at h;subst h;subst e;exact⟨v,r,rfl,h1,tupOf_ok ht h2⟩
   ·contradiction
  all_goals contradiction
def initSl:Nat->List SV->Slots
 | _,[]=>[]
 | k,s :: r=>(k,s) :: initSl (k+1) r
def tidy(n0:Nat) (s:SV) (H:HL) (K:SV->HL->Option ρ):Option ρ:=
 let m:=gcIds n0 H s.ids
 K (renSV (posOf m) s) (gcH H m)
def shutSt(A:Ann) (n0:Nat) (σ:St):St:=bif A.shut then sealSt n0 σ else σ
def endF(V:Env) (A:Ann) (fn:Func) (n0:Nat) (σ:St) (cont:SV->HL->Option ρ):Option ρ:=
 let σ1:=shutSt A n0 σ
 resV V.T σ1 fn.results.toList fun vs=>packV (sealArgs σ1.hp A.res vs).1 fun s=>tidy n0 s (closeH σ1.hp (sealArgs σ1.hp A.res vs).2) cont
def runF(V:Env) (A:Ann) (fuel:Nat) (fn:Func) (c:Code):Orc:=fun _ args H cont =>
 bif Nat.ble args.length fn.ntmps then
  aexec V A fn.ntmps H.length fuel c ⟨initSl 0 args,H⟩ fun e σ=>match e with
   | .normal=>endF V A fn H.length σ cont
   | .ret=>endF V A fn H.length σ cont
   | _=>none
 else none
theorem sget_initSl(args:List SV) (t:Nat):∀ (k:Nat),sget (initSl k args) t=(if k<=t then(args[t-k]?).getD .undef else .undef):=by
 induction args with
 | nil=>intro k;simp [initSl,sget]
 | cons s r ih =>
  intro k;simp only [initSl,sget];cases hb:Nat.beq k t with
  | true =>
   have:=Nat.eq_of_beq_eq_true hb;subst this;simp
  | false =>
   have hne:=Nat.ne_of_beq_eq_false hb;simp only [cond_false];rw[ih (k+1)]
   by_cases h:k<=t
   ·rw[if_pos h,if_pos (by omega)];have:t-k=(t-(k+1))+1:=by omega
    rw[this];simp
   ·rw[if_neg h,if_neg (by omega)]
theorem SvsR.length{N:NumSem} {G:Ghost} {κ:Kap}:∀ {ss:List SV} {vs:List Value},SvsR N G κ ss vs->ss.length=vs.length
 | [],vs,h=>by simp only [SvsR]at h;subst h;rfl
 | s :: ss,vs,h=>by
  obtain⟨v,r,e,_,h2⟩:=h;subst e;simp [h2.length]
theorem SvsR.get{N:NumSem} {G:Ghost} {κ:Kap}:∀ {ss:List SV} {vs:List Value},SvsR N G κ ss vs->∀ (i:Nat),svR N G κ ((ss[i]?).getD .undef) ((vs[i]?).getD undef)
 | [],vs,h,i=>by simp;trivial
 | s :: ss,vs,h,0=>by
  obtain⟨v,r,e,h1,h2⟩:=h;subst e
  simpa using h1
 | s :: ss,vs,h,i+1=>by
  obtain⟨v,r,e,_,h2⟩:=h;subst e
  simpa using h2.get i
theorem init_inv{N:NumSem} {G:Ghost} {κ:Kap} {w:World} {H:HL} {args:List SV} {cargs:Array Value} {nt:Nat} (hwf:wfH H) (hids:∀ s∈args,∀ i∈s.ids,i<H.length) (hr:Rel N G κ (hmap H) w)
  (ha:SvsR N G κ args cargs.toList) (hn:args.length<=nt):Inv N ⟨G,κ,H,w,nt⟩ ⟨initSl 0 args,H⟩ { tmps:=cargs++Array.replicate (nt-cargs.size) undef,defers:=[] } w:=by
 have hl:=ha.length;have hl':cargs.size=args.length:=by rw[hl];simp
 refine⟨hwf,fun t i hi=>?_,rfl,by simp;omega,Nat.le_refl _,G,κ,Trans.refl ..,hr,fun t=>?_,fun _ _ _=>rfl⟩
 ·simp only at hi ⊢;rw[sget_initSl]at hi;simp only [Nat.zero_le,if_true,Nat.sub_zero]at hi;cases he:args[t]? with
  | none=>rw[he]at hi;simp [SV.ids]at hi
  | some s=>rw[he]at hi;exact hids s (List.mem_of_getElem? he) i hi
 ·simp only;rw[sget_initSl];simp only [Nat.zero_le,if_true,Nat.sub_zero]
  by_cases ht:t<args.length
  ·have:=ha.get t;have e:(cargs++Array.replicate (nt-cargs.size) undef).getD t undef=(cargs.toList[t]?).getD undef:=by
    rw[Array.getD_eq_getD_getElem?,Array.getElem?_append_left (by omega)];simp
   rw[e];exact this
  ·rw[List.getElem?_eq_none (by omega)]
   trivial
theorem packV_ok{N:NumSem} {ss:List SV} {f:SV->Option ρ} {r:ρ} (h:packV ss f=some r):∃ s,f s=some r /\ ∀ {G:Ghost} {κ:Kap} {vs:List Value},SvsR N G κ ss vs ->
  svR N G κ s (if h:vs.toArray.size=1 then vs.toArray[0]else .tuple vs.toArray):=by
 unfold packV at h;split at h
 ·refine⟨_,h,fun{G κ vs} hs=>?_⟩;obtain⟨v,r,e,h1,h2⟩:=hs;simp only [SvsR]at h2;subst h2;subst e
  simpa using h1
 ·rename_i hne;split at h
  ·rename_i ts hts;refine⟨_,h,fun{G κ vs} hs=>?_⟩;have hl:=hs.length;have hn1:¬ vs.toArray.size=1:=fun e=>by
    have:ss.length=1:=by rw[hl];simpa using e
    obtain⟨x,rfl⟩:=List.length_eq_one_iff.1 this;exact hne x rfl
   rw[dif_neg hn1];exact⟨_,rfl,by simpa using tupOf_ok hts hs⟩
  ·contradiction
theorem results_run{P:Program} {fn:Func} {tmps:Array Value} {vs:List Value} {w:World}
  (h:(fn.results.toList.mapM (m:=Sem) fun x=>(match x with
    | .tmp t=>pure (tmps.getD t undef)
    | .cell a t=>do loadVar t (<- asAddr (tmps.getD a undef)):Sem Value)).run P w=.ok vs w) :
  (results fn tmps).run P w=.ok (if h:vs.toArray.size=1 then vs.toArray[0]else .tuple vs.toArray) w:=by
 unfold results;rw[Array.mapM_eq_mapM_toList];simp only [map_eq_pure_bind,bind_assoc,pure_bind,Sem.run_bind,Sem.run_pure];exact(congrArg (fun(x:Result (List Value))=>x.andThen fun(a:List Value) w'=>Result.ok (if h:a.toArray.size=1 then a.toArray[0]else Value.tuple a.toArray) w') h).trans rfl
theorem tidy_ok{N:NumSem} {C:Ctx} {hp:HL} {w:World} {s:SV} {v:Value} {G:Ghost} {κ:Kap}
  (h1:Trans C.G C.κ (hmap C.H) C.w G κ (hmap hp) w) (h2:Rel N G κ (hmap hp) w) (h4:∀ j,j<C.H.length->mvB (hget hp j)=false->κ j=C.κ j) (hv:svR N G κ s v) :
  ∃ κ',Trans C.G C.κ (hmap C.H) C.w G κ' (hmap (gcH hp (gcIds C.H.length hp s.ids))) w/\Rel N G κ' (hmap (gcH hp (gcIds C.H.length hp s.ids))) w /\
   svR N G κ' (renSV (posOf (gcIds C.H.length hp s.ids)) s) v /\ ∀ j,j<C.H.length->mvB (hget (gcH hp (gcIds C.H.length hp s.ids)) j)=false->κ' j=C.κ j:=by
 generalize hm:gcIds C.H.length hp s.ids=m;have hnd:m.Nodup:=by rw[<- hm];exact gcIds_nodup _ _ _
 have hold:∀ j,j<C.H.length->m[j]? = some j:=fun j hj=>by rw[<- hm];exact gcIds_old hj
 refine⟨_,gcH_trans h1,gcH_rel h2 hnd,renSV_ok (fun l j h=>by
  have:=posOf_some h;show κ (m.getD j 0)=κ l;simp [List.getD,this]) hv,fun j hj hmv=>?_⟩
 rw[gcH_get,hold j hj]at hmv;simp only [mvB_renB]at hmv;have:m.getD j 0=j:=by simp [List.getD,hold j hj]
 show κ (m.getD j 0)=C.κ j;rw[this];exact h4 j hj hmv
theorem OrcOK.of_tale{N:NumSem} {P:Program} {f:Nat} {F F':Orc} (hF:OrcOK N P f F) (h:∀ ρ args H (cont:SV->HL->Option ρ) r,F' ρ args H cont=some r->F ρ args H cont=some r):OrcOK N P f F':=
 fun hr=>hF (h _ _ _ _ _ hr)
theorem runF_ok{N:NumSem} {P:Program} {V:Env} (hV:EnvOK N P V) (hmix:P.follows .mixedOrders=true) {A:Ann} {fuel f:Nat} {fn:Func} {c:Code} (hf:P.funcs[f]? = some fn) (hb:fn.body=some c) (hS:SumsOK N P A fn.ntmps c) :
  OrcOK N P f (runF V A fuel fn c):=by
 intro ρ args H cont r h hwf hids;unfold runF at h;cases hn:Nat.ble args.length fn.ntmps with
 | false=>rw[hn]at h;contradiction
 | true =>
  rw[hn]at h;simp only [cond_true]at h;have hn':=Nat.le_of_ble_eq_true hn;obtain⟨e,σ',hk,hap⟩:=aexec_ok (N:=N) hV hmix c hS h;have fin:∀ (hres:endF V A fn H.length σ' cont=some r) (he:e=.normal\/e=.ret),
    ∃ res H',cont res H'=some r/\H.length<=H'.length /\ ∀ {G:Ghost} {κ:Kap} {w:World} {cargs:Array Value},Rel N G κ (hmap H) w->SvsR N G κ args cargs.toList ->
     Calls P f cargs w fun e w'=>∃ G' κ' v,e=.returned v/\Trans G κ (hmap H) w G' κ' (hmap H') w'/\Rel N G' κ' (hmap H') w'/\svR N G' κ' res v /\
      ∀ j,j<H.length->mvB (hget H' j)=false->κ' j=κ j:=by
   intro hres he;unfold endF at hres;have hsh:∀ {C:Ctx} {a:Act} {w:World},Inv N C σ' a w->Inv N C (shutSt A H.length σ') a w:=fun hI=>by
    unfold shutSt;cases A.shut with
    | true=>exact hI.sealSt _
    | false=>exact hI
   generalize shutSt A H.length σ'=σ2 at hres hsh;simp only at hres;obtain⟨ss,h1,hlen,h2⟩:=resV_ok (N:=N) hV.T hres;obtain⟨s,h3,h4⟩:=packV_ok (N:=N) h1;have hsaok:∀ {G:Ghost} {κ:Kap} {w:World} (hr:Rel N G κ (hmap σ2.hp) w) {vs:List Value} (h:SvsR N G κ ss vs),
     ∃ G1,Trans G κ (hmap σ2.hp) w G1 κ (closeF σ2.hp (sealArgs σ2.hp A.res ss).2 (hmap σ2.hp)) w/\Rel N G1 κ (closeF σ2.hp (sealArgs σ2.hp A.res ss).2 (hmap σ2.hp)) w /\
      (∀ l b,hmap (closeH σ2.hp (sealArgs σ2.hp A.res ss).2) l=some b->(closeF σ2.hp (sealArgs σ2.hp A.res ss).2 (hmap σ2.hp)) l=some b)/\SvsR N G1 κ (sealArgs σ2.hp A.res ss).1 vs:=fun{G κ w} hr {vs} h=>sealArgs_ok (fun _ _ e=>e) hr h
   generalize sealArgs σ2.hp A.res ss=sa at h3 h4 hsaok;obtain⟨ss',S⟩:=sa;simp only at h3 h4 hsaok;unfold tidy at h3;refine⟨_,_,h3,by simp [gcH,gcIds],fun{G κ w cargs} hr ha=>?_⟩;have hI:=init_inv hwf hids hr ha hn';refine calls_of_wp hf hb (wp_mono (hap rfl rfl hI) fun e' a' w' hq=>?_);obtain⟨rfl,hI0⟩:=hq;have hI':=hsh hI0;obtain⟨G',κ',t1,t2,t3,t4⟩:=hI'.ex;obtain⟨vs,hrun,hvs⟩:=h2 t2 t3;obtain⟨G1,s1,s2,s3,hvs'⟩:=hsaok t2 hvs;have hv:=h4 hvs';rw[<- hmap_closeH]at s1 s2;obtain⟨κ2,u1,u2,u3,u4⟩:=tidy_ok (C:=⟨G,κ,H,w,fn.ntmps⟩) (t1.trans s1) s2 (fun j hj hm=>t4 j hj (by
    rw[closeH_get]at hm;split at hm
    ·cases hb:hget σ2.hp j <;> rw[hb]at hm <;> simp_all [closeB,mvB]
    ·exact hm)) hv
   have hpost:a'.defers=[] /\ ∃ v,(results fn a'.tmps).run P w'=.ok v w' /\ ∃ G' κ' v',Ending.returned v=.returned v'/\Trans G κ (hmap H) w G' κ' (hmap (gcH (closeH σ2.hp S) (gcIds H.length (closeH σ2.hp S) s.ids))) w' /\
     Rel N G' κ' (hmap (gcH (closeH σ2.hp S) (gcIds H.length (closeH σ2.hp S) s.ids))) w'/\svR N G' κ' (renSV (posOf (gcIds H.length (closeH σ2.hp S) s.ids)) s) v' /\ ∀ j,j<H.length->mvB (hget (gcH (closeH σ2.hp S) (gcIds H.length (closeH σ2.hp S) s.ids)) j)=false->κ' j=κ j:=
    ⟨hI'.dfr,_,results_run hrun,G1,κ2,_,rfl,u1,u2,u3,u4⟩
   rcases he with rfl | rfl
   ·exact hpost
   ·exact hpost
  cases e
  case normal=>exact fin hk (.inl rfl)
  case ret=>exact fin hk (.inr rfl)
  all_goals contradiction
end
end Go.Abs
namespace Go.Abs
def wkSV(H:HL) (s:SV):SV:=
 match s with
 | .v false [.wsl l w]=>(match hget H l with
  | .arr _ _ xs _ _=>.v false [.osl l w 0 xs.length]
  | _=>s)
 | s=>s
theorem wkSV_ok{N:NumSem} {G:Ghost} {κ:Kap} {H:HL} {w:World} (hr:Rel N G κ (hmap H) w) {s:SV} {v:Value} (h:svR N G κ s v):svR N G κ (wkSV H s) v:=by
 unfold wkSV;split
 ·rename_i l wd;split
  ·rename_i el t xs f mv hl;obtain⟨cs,h1,h2,h3,_⟩:=hr.blk l _ (hmap_mk hl (by simp));have h:=one_val h;simp only [AR,List.cons.injEq,and_true]at h;refine AsR.one ⟨0,?_,fun _=>by omega,by omega,by omega⟩;rw[h,h3.1,Nat.sub_zero]
  ·exact h
 ·exact h
theorem wkSV_ids(H:HL) (s:SV):∀ i∈(wkSV H s).ids,i∈s.ids:=by
 unfold wkSV;split
 ·split
  ·simp [SV.ids,aids,Atom.ids]
  ·simp
 ·simp
theorem OrcOK.wk{N:NumSem} {P:Program} {f:Nat} {F:Orc} (hF:OrcOK N P f F):OrcOK N P f (fun ρ args H cont=>F ρ args H fun s H'=>cont (wkSV H' s) H'):=by
 intro ρ args H cont r h hwf hids;obtain⟨res,H',h1,h2,h3⟩:=hF h hwf hids;refine⟨_,H',h1,h2,fun{G κ w cargs} hr ha=>(h3 hr ha).mono fun e w' hq=>?_⟩;obtain⟨G',κ',v,e1,e2,e3,e4,e5⟩:=hq;exact⟨G',κ',v,e1,e2,e3,wkSV_ok e3 e4,e5⟩
def wkSl(H:HL):Slots->Slots
 | []=>[]
 | p :: r=>(p.1,wkSV H p.2) :: wkSl H r
theorem sget_wkSl(H:HL) (t:Nat):∀ (s:Slots),sget (wkSl H s) t=wkSV H (sget s t)
 | []=>rfl
 | p :: r=>by
  simp only [wkSl,sget];cases Nat.beq p.1 t with
  | true=>rfl
  | false=>exact sget_wkSl H t r
def wkSt(σ:St):St:=⟨wkSl σ.hp σ.sl,σ.hp⟩
theorem Inv.wk{N:NumSem} {C:Ctx} {a:Act} {w:World} {σ:St} (h:Inv N C σ a w):Inv N C (wkSt σ) a w:=by
 refine⟨h.wf,fun u i hi=>?_,h.dfr,h.size,h.len,?_⟩
 ·have hi':i∈(sget (wkSl σ.hp σ.sl) u).ids:=hi;rw[sget_wkSl]at hi';exact h.wfs u i (wkSV_ids _ _ i hi')
 ·obtain⟨G,κ,h1,h2,h3,h4⟩:=h.ex;refine⟨G,κ,h1,h2,fun u=>?_,h4⟩;show svR N G κ (sget (wkSl σ.hp σ.sl) u) _;rw[sget_wkSl];exact wkSV_ok h2 (h3 u)
theorem SumOK.wk{N:NumSem} {P:Program} {nt:Nat} {c:Code} {S:Sum} (h:SumOK N P nt c S):SumOK N P nt c (fun n0 ρ σ K=>S n0 ρ σ fun e σ'=>K e (wkSt σ')):=by
 intro n0 ρ σ K r hr;obtain⟨e,σ',hk,hs⟩:=h n0 ρ σ _ r hr;exact⟨e,_,hk,fun{C} c1 c2 {a w} hI=>wp_mono (hs c1 c2 hI) fun e' a' w' hq=>⟨hq.1,hq.2.wk⟩⟩
theorem SumOK.of_sum{N:NumSem} {P:Program} {nt:Nat} {c:Code} {S S':Sum} (h:SumOK N P nt c S) (hS:∀ n0 ρ σ (K:Exit->St->Option ρ) r,S' n0 ρ σ K=some r->S n0 ρ σ K=some r):SumOK N P nt c S':=
 fun n0 ρ σ K r hr=>h n0 ρ σ K r (hS n0 ρ σ K r hr)
def plA(T:Ty):Atom->Atom
 | .nils=>.sl none T []
 | .sl _ t xs=>.sl none t xs
 | a=>a
def plAs(T:Ty):List Atom->List Atom
 | []=>[]
 | a :: r=>plA T a :: plAs T r
def plTup(T:Ty):List (Bool × List Atom)->List (Bool × List Atom)
 | []=>[]
 | p :: r=>(p.1,plAs T p.2) :: plTup T r
def plSV(T:Ty):SV->SV
 | .v g as=>.v g (plAs T as)
 | .tup vs=>.tup (plTup T vs)
 | s=>s
theorem plA_ok{N:NumSem} {G:Ghost} {κ:Kap} {T:Ty} {a:Atom} {cs:List Value} (h:AR N G κ a cs):AR N G κ (plA T a) cs:=by
 cases a with
 | nils=>exact⟨_,h,.inl ⟨rfl,rfl⟩,by simp,by simp⟩
 | sl b t xs =>
  obtain⟨v,h1,h2,_⟩:=h;exact⟨v,h1,h2,by simp,by simp⟩
 | num k o=>cases o <;> exact h
 | _=>exact h
theorem plAs_ok{N:NumSem} {G:Ghost} {κ:Kap} {T:Ty}:∀ {as:List Atom} {cs:List Value},AsR N G κ as cs->AsR N G κ (plAs T as) cs
 | [],cs,h=>h
 | a :: as,cs,h=>by
  obtain⟨c,d,e,h1,h2⟩:=h;exact⟨c,d,e,plA_ok h1,plAs_ok h2⟩
theorem plTup_ok{N:NumSem} {G:Ghost} {κ:Kap} {T:Ty}:∀ {vs:List (Bool × List Atom)} {xs:List Value},TupR N G κ vs xs->TupR N G κ (plTup T vs) xs
 | [],xs,h=>h
 | p :: ps,xs,h=>by
  obtain⟨x,ys,e,h1,h2⟩:=h;refine⟨x,ys,e,?_,plTup_ok h2⟩;obtain⟨g,as⟩:=p;cases g with
  | false=>exact plAs_ok h1
  | true=>obtain⟨cs,h1,h3⟩:=h1;exact⟨cs,h1,plAs_ok h3⟩
theorem plSV_ok{N:NumSem} {G:Ghost} {κ:Kap} {T:Ty} {s:SV} {v:Value} (h:svR N G κ s v):svR N G κ (plSV T s) v:=by
 cases s with
 | undef=>trivial
 | v g as =>
  cases g with
  | false=>exact plAs_ok h
  | true=>obtain⟨cs,h1,h3⟩:=h;exact⟨cs,h1,plAs_ok h3⟩
 | tup vs=>obtain⟨xs,h1,h2⟩:=h;exact⟨xs,h1,plTup_ok h2⟩
 | ifc t a=>exact h
theorem OrcOK.pl{N:NumSem} {P:Program} {f:Nat} {F:Orc} (hF:OrcOK N P f F) (T:Ty):OrcOK N P f (fun ρ args H cont=>F ρ args H fun s H'=>cont (plSV T s) H'):=by
 intro ρ args H cont r h hwf hids;obtain⟨res,H',h1,h2,h3⟩:=hF h hwf hids;refine⟨_,H',h1,h2,fun{G κ w cargs} hr ha=>(h3 hr ha).mono fun e w' hq=>?_⟩;obtain⟨G',κ',v,e1,e2,e3,e4,e5⟩:=hq;exact⟨G',κ',v,e1,e2,e3,plSV_ok e4,e5⟩
def plB(T:Ty):Blk->Blk
 | .var as=>.var (plAs T as)
 | b=>b
def plHp(T:Ty) (H:HL):HL:=H.map (plB T)
theorem isMk_pl(T:Ty) (as:List Atom):isMk (plAs T as)=isMk as:=by
 cases as with
 | nil=>rfl
 | cons a r =>
  cases a <;> simp only [plAs,plA] <;> first | rfl | (split <;> rfl)
theorem hget_plHp(T:Ty) (H:HL) (l:Nat):hget (plHp T H) l=plB T (hget H l):=hget_mapB _ rfl H l
theorem plHp_live{T:Ty} {H:HL} {l:Nat}:hmap (plHp T H) l≠none->hmap H l≠none:=fun hl=>by
 unfold hmap at hl ⊢;rw[hget_plHp]at hl;cases hb:hget H l <;> rw[hb]at hl <;> simp_all [plB,Blk.opt]
theorem plHp_rel{N:NumSem} {G:Ghost} {κ:Kap} {T:Ty} {H:HL} {w:World} (hr:Rel N G κ (hmap H) w):Rel N G κ (hmap (plHp T H)) w:=by
 have cs:∀ {l b},hmap (plHp T H) l=some b->∃ b0,hmap H l=some b0/\b=plB T b0:=fun{l b} e=>by
  obtain⟨e1,e2⟩:=hmap_eq e;rw[hget_plHp]at e1;refine⟨hget H l,hmap_mk rfl ?_,e1.symm⟩;intro h;rw[h]at e1;exact e2 e1.symm
 exact
 {ghost:=hr.ghost
  blk:=fun l b e=>by
   obtain⟨b0,e1,rfl⟩:=cs e;have h0:=hr.blk l b0 e1;cases b0 with
   | dead=>exact h0
   | var as =>
    obtain⟨c,ty,h1,hm,h2⟩:=h0;exact⟨c,ty,h1,by rw[isMk_pl];exact hm,plAs_ok h2⟩
   | arr _ _ _ _ _=>exact h0
  sep:=fun l l' hl hl'=>hr.sep l l' (plHp_live hl) (plHp_live hl')
  inv:=hr.inv
  off:=fun l hl=>hr.off l (plHp_live hl)
  own:=fun l b e o v eg=>by
   obtain⟨b0,e1,rfl⟩:=cs e;have h0:=hr.own l b0 e1 o v eg;cases b0 <;> exact h0 }
theorem OrcOK.plh{N:NumSem} {P:Program} {f:Nat} {F:Orc} (hF:OrcOK N P f F) (T:Ty):OrcOK N P f (fun ρ args H cont=>F ρ args H fun s H'=>cont (plSV T s) (plHp T H')):=by
 intro ρ args H cont r h hwf hids;obtain⟨res,H',h1,h2,h3⟩:=hF h hwf hids;refine⟨_,_,h1,by simpa [plHp] using h2,fun{G κ w cargs} hr ha=>(h3 hr ha).mono fun e w' hq=>?_⟩;obtain⟨G',κ',v,e1,e2,e3,e4,e5⟩:=hq;refine⟨G',κ',v,e1,e2.drop fun l hl=>plHp_live hl,plHp_rel e3,plSV_ok e4,fun j hj hm=>e5 j hj ?_⟩;rw[hget_plHp]at hm;cases hb:hget H' j <;> rw[hb]at hm <;> simpa [plB,mvB] using hm
def gamL:List (Nat × Orc)->Nat->Option Orc
 | [],_=>none
 | p :: r,f=>bif Nat.beq f p.1 then some p.2 else gamL r f
theorem gamN(N:NumSem) (P:Program):GamOK N P (gamL []):=fun f F h=>by cases h
theorem gamC{N:NumSem} {P:Program} {k:Nat} {F:Orc} {l:List (Nat × Orc)} (h1:OrcOK N P k F) (h2:FnOK P k) (h:GamOK N P (gamL l)):GamOK N P (gamL ((k,F) :: l)):=fun f F' hF=>by
 simp only [gamL]at hF;cases hb:Nat.beq f k with
 | true =>
  rw[hb]at hF;cases hF;rw[Nat.eq_of_beq_eq_true hb];exact⟨h1,h2⟩
 | false=>rw[hb]at hF;exact h f F' hF
theorem wp_loops{N:NumSem} {P:Program} {A:Ann} {nt:Nat} {c:Code} (h:loopsOf c=[]):SumsOK N P A nt c:=fun l hl=>by rw[h]at hl;cases hl
def SumsL(N:NumSem) (P:Program) (A:Ann) (nt:Nat):List Code->Prop
 | []=>True
 | l :: r=>(∀ S,A.sum (fid l)=some S->SumOK N P nt l S)/\SumsL N P A nt r
theorem SumsOK.ofL{N:NumSem} {P:Program} {A:Ann} {nt:Nat} {c:Code} {ls:List Code} (hl:loopsOf c=ls) (h:SumsL N P A nt ls):SumsOK N P A nt c:=by
 unfold SumsOK;rw[hl];clear hl
 induction ls with
 | nil=>intro l h;cases h
 | cons x r ih =>
  intro l hm;rcases List.mem_cons.1 hm with e | e
  ·subst e;exact h.1
  ·exact ih h.2 l e
theorem sumL1{N:NumSem} {P:Program} {A:Ann} {nt:Nat} {l:Code} {S:Sum} (hs:A.sum (fid l)=some S) (h:SumOK N P nt l S):∀ S',A.sum (fid l)=some S'->SumOK N P nt l S':=fun S' hS'=>by
 rw[hs]at hS';cases hS';exact h
end Go.Abs
namespace Go.Abs
open Go.MapKept
def eqB(a b:ByteArray):Bool:=a.data.toList==b.data.toList
theorem eqB_iff{a b:ByteArray}:eqB a b=true ↔ a=b:=by
 unfold eqB;rw[beq_iff_eq];constructor
 ·intro h;have h1:a.data=b.data:=by rw[<- Array.toArray_toList (xs:=a.data),h,Array.toArray_toList]
  cases a;cases b;simpa using h1
 ·intro h;rw[h]
theorem eqB_beq(a b:ByteArray):(b==a)=eqB a b:=by
 cases h:eqB a b with
 | true=>rw[eqB_iff]at h;subst h;exact(bytes_beq _ _).2 rfl
 | false =>
  cases h2:(b==a)with
  | false=>rfl
  | true=>have:=(bytes_beq _ _).1 h2;subst this;rw[eqB_iff.2 rfl]at h;contradiction
abbrev MapL:=List (ByteArray × Atom × Int)
def mapDec:List Atom->Option MapL
 | []=>some []
 | .str k :: v :: .int .i64 b :: r=>bif Nat.beq v.w 1 then(match mapDec r with | some l=>some ((k,v,b) :: l) | none=>none)else none
 | _=>none
def mapEnc:MapL->List Atom
 | []=>[]
 | p :: r=>.str p.1 :: p.2.1 :: .int .i64 p.2.2 :: mapEnc r
theorem mapDec_ok:∀ (n:Nat) {as:List Atom} {l:MapL},as.length<=n->mapDec as=some l->as=mapEnc l /\ ∀ p∈l,p.2.1.w=1
 | n,as,l,hn,h=>by
  unfold mapDec at h;split at h
  ·simp only [Option.some.injEq]at h;subst h;exact⟨rfl,by simp⟩
  ·rename_i k v b r;cases hb:Nat.beq v.w 1 with
   | false=>rw[hb]at h;contradiction
   | true =>
    rw[hb]at h;simp only [cond_true]at h;split at h
    ·rename_i l' hl;simp only [Option.some.injEq]at h;subst h;cases n with
     | zero=>simp at hn
     | succ n =>
      obtain⟨h1,h2⟩:=mapDec_ok n (as:=r) (by simp at hn;omega) hl;refine⟨by rw[h1];rfl,fun p hp=>?_⟩;rcases List.mem_cons.1 hp with hp | hp
      ·subst hp;exact Nat.eq_of_beq_eq_true hb
      ·exact h2 p hp
    ·contradiction
  ·contradiction
def MR(N:NumSem) (G:Ghost) (κ:Kap):MapL->List MapEntry->Prop
 | [],[]=>True
 | p :: l,e :: es=>e.key=.string p.1/\AR N G κ p.2.1 [e.val]/\(e.born:Int)=p.2.2/\MR N G κ l es
 | _,_=>False
section
variable {N:NumSem} {G:Ghost} {κ:Kap}
theorem MR.of:∀ {l:MapL} {es:List MapEntry},(∀ p∈l,p.2.1.w=1)->AsR N G κ (mapEnc l) (es.flatMap mapV)->MR N G κ l es
 | [],[],_,_=>trivial
 | [],e :: es,_,h=>by simp [mapEnc,AsR,mapV]at h
 | p :: l,[],_,h=>by
  obtain⟨c,d,e,h1,h2⟩:=h;simp only [AR]at h1;subst h1;simp at e
 | p :: l,e :: es,hw,h=>by
  obtain⟨c,d,e1,h1,h2⟩:=h;obtain⟨c2,d2,e2,h3,h4⟩:=h2;obtain⟨c3,d3,e3,h5,h6⟩:=h4;simp only [AR]at h1 h5;subst h1;subst h5;have hl:=h3.len;rw[hw p (by simp)]at hl;obtain⟨v,rfl⟩:=List.length_eq_one_iff.1 hl;subst e2;subst e3;simp only [List.flatMap_cons,mapV,List.cons_append,List.nil_append,List.cons.injEq]at e1;obtain⟨k1,k2,k3,k4⟩:=e1;subst k2;refine⟨k1,h3,?_,MR.of (fun q hq=>hw q (List.mem_cons_of_mem _ hq)) (k4 ▸ h6)⟩
  simpa using k3
theorem MR.to:∀ {l:MapL} {es:List MapEntry},MR N G κ l es->AsR N G κ (mapEnc l) (es.flatMap mapV)
 | [],[],_=>rfl
 | [],e :: es,h=>h.elim
 | p :: l,[],h=>h.elim
 | p :: l,e :: es,h=>by
  obtain⟨h1,h2,h3,h4⟩:=h;refine⟨[e.key],e.val :: .int .i64 e.born :: es.flatMap mapV,rfl,h1 ▸ rfl,[e.val],.int .i64 e.born :: es.flatMap mapV,rfl,h2,[.int .i64 e.born],_,rfl,?_,h4.to⟩;rw[h3];rfl
theorem MR.key:∀ {l:MapL} {es:List MapEntry},MR N G κ l es->∀ x∈es,IsKey .string x.key
 | [],[],_,x,hx=>by cases hx
 | [],e :: es,h,_,_=>h.elim
 | p :: l,[],h,_,_=>h.elim
 | p :: l,e :: es,h,x,hx=>by
  rcases List.mem_cons.1 hx with hx | hx
  ·subst hx;rw[h.1];trivial
  ·exact h.2.2.2.key x hx
def mfind(s:ByteArray):MapL->Nat->Option (Nat × Atom × Int)
 | [],_=>none
 | p :: r,i=>bif eqB p.1 s then some (i,p.2)else mfind s r (i+1)
theorem mfind_none{s:ByteArray}:∀ {l:MapL} {es:List MapEntry} {i:Nat},MR N G κ l es->mfind s l i=none->Instr.findNow .string (.string s) es i=some none
 | [],[],i,_,_=>rfl
 | [],e :: es,_,h,_=>h.elim
 | p :: l,[],_,h,_=>h.elim
 | p :: l,e :: es,i,h,hf=>by
  simp only [mfind]at hf;cases hb:eqB p.1 s with
  | true=>rw[hb]at hf;contradiction
  | false =>
   rw[hb]at hf;simp only [Instr.findNow,h.1,Instr.sameNow,eqB_beq,hb];exact mfind_none h.2.2.2 hf
theorem mfind_some{s:ByteArray}:∀ {l:MapL} {es:List MapEntry} {i j:Nat} {a:Atom} {b:Int},MR N G κ l es->mfind s l i=some (j,a,b) ->
  ∃ e,Instr.findNow .string (.string s) es i=some (some (j,e.val))/\i<=j/\es[j-i]? = some e/\e.key=.string s/\AR N G κ a [e.val]/\(e.born:Int)=b
 | [],[],i,_,_,_,_,hf=>by simp [mfind]at hf
 | [],e :: es,_,_,_,_,h,_=>h.elim
 | p :: l,[],_,_,_,_,h,_=>h.elim
 | p :: l,e :: es,i,j,a,b,h,hf=>by
  simp only [mfind]at hf;cases hb:eqB p.1 s with
  | true =>
   rw[hb]at hf;simp only [cond_true,Option.some.injEq,Prod.mk.injEq]at hf;obtain⟨rfl,h2⟩:=hf;have h3:p.2.1=a/\p.2.2=b:=by rw[h2];exact⟨rfl,rfl⟩
   refine⟨e,by simp only [Instr.findNow,h.1,Instr.sameNow,eqB_beq,hb],Nat.le_refl _,by simp,by rw[h.1,eqB_iff.1 hb],h3.1 ▸ h.2.1,h3.2 ▸ h.2.2.1⟩
  | false =>
   rw[hb]at hf;simp only [cond_false]at hf;obtain⟨e',h1,h2,h3,h4⟩:=mfind_some h.2.2.2 hf;refine⟨e',by simp only [Instr.findNow,h.1,Instr.sameNow,eqB_beq,hb];exact h1,by omega,?_,h4⟩;rw[show j-i=(j-(i+1))+1 by omega]
   simpa using h3
def mset:MapL->Nat->Atom->MapL
 | [],_,_=>[]
 | p :: r,0,a=>(p.1,a,p.2.2) :: r
 | p :: r,n+1,a=>p :: mset r n a
theorem MR.set{a:Atom} {v:Value} (ha:AR N G κ a [v]) (f:MapEntry->MapEntry):∀ {l:MapL} {es:List MapEntry} (i:Nat),MR N G κ l es ->
  (∀ e,es[i]? = some e->(f e).key=e.key/\(f e).val=v/\(f e).born=e.born)->MR N G κ (mset l i a) (es.modify i f)
 | [],[],i,_,_=>by simp [mset,MR]
 | [],e :: es,_,h,_=>h.elim
 | p :: l,[],_,h,_=>h.elim
 | p :: l,e :: es,0,h,hf=>by
  obtain⟨h1,h2,h3⟩:=hf e rfl;refine⟨?_,?_,?_,h.2.2.2⟩
  ·show (f e).key=_;rw[h1];exact h.1
  ·show AR N G κ a [(f e).val];rw[h2];exact ha
  ·show ((f e).born:Int)=_;rw[h3];exact h.2.2.1
 | p :: l,e :: es,i+1,h,hf=>⟨h.1,h.2.1,h.2.2.1,MR.set ha f i h.2.2.2 fun e' he=>hf e' (by simpa using he)⟩
theorem MR.push{a:Atom} {v:Value} {s:ByteArray} {c:Nat} (ha:AR N G κ a [v]):∀ {l:MapL} {es:List MapEntry},MR N G κ l es ->
  MR N G κ (l ++ [(s,a,(c:Int))]) (es ++ [{ key:=.string s,val:=v,born:=c }])
 | [],[],_=>⟨rfl,ha,rfl,trivial⟩
 | [],e :: es,h=>h.elim
 | p :: l,[],h=>h.elim
 | p :: l,e :: es,h=>⟨h.1,h.2.1,h.2.2.1,MR.push ha h.2.2.2⟩
theorem map_turn{hf:Hp} {w:World} {l:Nat} {as as':List Atom} {es:Array MapEntry} {c:Nat} {o':Obj} {cs':List Value} (hr:Rel N G κ hf w) (hl:hf l=some (.var as))
  (hb:w.heap[(κ l).1]? = some (.map es c)) (hm:isMk as'=true) (hv:objV true o'=some cs') (ha:AsR N G κ as' cs') :
  Trans G κ hf w G κ (hf.set l (.var as')) { w with heap:=w.heap.setIfInBounds (κ l).1 o' } /\ Rel N G κ (hf.set l (.var as')) { w with heap:=w.heap.setIfInBounds (κ l).1 o' }:=by
 obtain⟨s1,s2⟩:=heap_set (o':=o') hb;have hown:∀ o v,G (κ l).1 o=some v->False:=fun o v eg=>hr.own l _ hl o v eg
 refine⟨Trans.turn (N:=N) l _ _ hl G.le_refl (fun _ _ _ e=>.inl e) (fun x hx=>s2 x hx) (by simp) rfl rfl rfl,
  hr.turn l _ _ hl G.le_refl (fun _ _ _ e=>.inl e) (fun x hx=>s2 x hx) (fun o v eg=>(hown o v eg).elim) ⟨o',cs',s1,by rw[hm];exact hv,ha⟩ (fun o v eg=>(hown o v eg).elim) (by simp)⟩
def mapOf(H:HL) (x:SV):Option (Nat × Int × MapL):=
 match x with
 | .v false [.mp l]=>(match hget H l with
  | .var (.mk :: .int .i64 c :: r)=>(match mapDec r with | some m=>some (l,c,m) | none=>none)
  | _=>none)
 | _=>none
theorem mapOf_ok{H:HL} {x:SV} {l:Nat} {c:Int} {m:MapL} (h:mapOf H x=some (l,c,m)) {hf:Hp} {w:World} {v:Value} (hH:∀ l b,hmap H l=some b->hf l=some b) (hr:Rel N G κ hf w) (hx:svR N G κ x v) :
  v=.map (some (κ l).1)/\hf l=some (.var (.mk :: .int .i64 c :: mapEnc m)) /\ ∃ es k,w.heap[(κ l).1]? = some (.map es k)/\(k:Int)=c/\MR N G κ m es.toList:=by
 unfold mapOf at h;split at h
 ·rename_i l';split at h
  ·rename_i c' r hl;split at h
   ·rename_i m' hm;simp only [Option.some.injEq,Prod.mk.injEq]at h;obtain⟨rfl,rfl,rfl⟩:=h;obtain⟨rfl,hw⟩:=mapDec_ok _ (Nat.le_refl _) hm;have h1:=one_val hx;simp only [AR,List.cons.injEq,and_true]at h1;have hfl:=hH l' _ (hmap_some hl (by simp));refine⟨h1,hfl,?_⟩;obtain⟨o,cs,h2,h3,h4⟩:=hr.blk l' _ hfl;obtain⟨es,k,rfl,rfl⟩:=objV_map h3;obtain⟨c1,d1,e1,h5,h6⟩:=h4;simp only [AR]at h5;subst h5;simp only [List.cons_append,List.nil_append,List.cons.injEq,true_and]at e1;subst e1;obtain⟨c2,d2,e2,h7,h8⟩:=h6;simp only [AR]at h7;subst h7;simp only [List.cons_append,List.nil_append,List.cons.injEq,Value.int.injEq,true_and]at e2;obtain⟨e3,rfl⟩:=e2;exact⟨es,k,h2,e3,MR.of hw h8⟩
   ·contradiction
  ·contradiction
 ·contradiction
abbrev MapTab:=List (Nat × Nat)
def MapOK(P:Program) (p:Nat × Nat):Prop:=∃ k,P.underlying p.1=some (.map k p.2)/\P.underlying k=some .string
def mapOkB(P:Program):MapTab->Bool
 | []=>true
 | p :: r=>(match P.underlying p.1 with
  | some (.map k e)=>Nat.beq e p.2&&(match P.underlying k with | some .string=>true | _=>false)
  | _=>false)&&mapOkB P r
def mapEl:MapTab->Nat->Option Nat
 | [],_=>none
 | p :: r,t=>bif Nat.beq p.1 t then some p.2 else mapEl r t
theorem mapEl_ok:∀ {M:MapTab} {t e:Nat},mapEl M t=some e->(t,e)∈M
 | [],t,e,h=>by simp [mapEl]at h
 | p :: r,t,e,h=>by
  simp only [mapEl]at h;cases hb:Nat.beq p.1 t with
  | true =>
   rw[hb]at h;simp only [cond_true,Option.some.injEq]at h;have:=Nat.eq_of_beq_eq_true hb;subst h;subst this;exact List.mem_cons_self
  | false=>rw[hb]at h;exact List.mem_cons_of_mem _ (mapEl_ok h)
def xMakeMap(nid:Nat):Option Eff:=some { val:=one (.mp nid),sets:=[(nid,.var [.mk,.int .i64 0])],new:=1 }
theorem xMakeMap_ok{N:NumSem} {P:Program} {H:Hp} {nid:Nat} {ev:Operand->SV} {o:Oper} {t:Nat} {e:Eff} (ho:o.op=.makeMap t none) (h:xMakeMap nid=some e):OpOK N P H nid ev o e:=by
 simp only [xMakeMap,Option.some.injEq]at h;subst h;intro G κ hf w a next Q hH hfree hno _ hr hev hn;have hfree0:hf nid=none:=by simpa using hfree 0 (by simp)
 have hno0:∀ i as',hf i=some (.var as')->nid ∉ aids as':=fun i as' hi=>by simpa using hno 0 (by simp) i as' hi
 have hrun:(execOp a.eval o).run P w=.ok (.value (.map (some w.heap.size))) (w.alloc (.map #[] 0)):=by
  simp [execOp,ho,Instr.makeMap,newObj,Sem.run,alloc_eq]
 unfold Oper.wp;rw[hrun];refine hn _ G (kset κ nid (w.heap.size,0,0)) _ (Trans.alloc _ _ _ _ hfree0) (hr.alloc _ nid (0,0) (.var [.mk,.int .i64 0]) hfree0 hno0 ?_ (by simp)) ?_ ?_
 ·refine⟨.map #[] 0,_,?_,rfl,?_⟩
  ·rw[kset_same];exact heap_alloc_new _ _
  ·exact⟨[.map none],[.int .i64 0],rfl,rfl,[.int .i64 0],[],rfl,rfl,rfl⟩
 ·exact AsR.one (by simp [AR,kset_same])
 ·intro l hl _;exact kset_other _ _ (by simp at hl;omega)
def xLookup(T:Tab) (M:MapTab) (H:HL) (t:Nat) (x k:SV) (ok:Bool):Option Eff:=
 match mapEl M t,mapOf H x,k with
 | some el,some (_,_,m),.v false [.str s]=>(match mfind s m 0 with
  | some (_,a,_)=>bif Nat.beq a.w 1 then(bif ok then some { val:=.tup [(false,[a]),(false,[.bool true])] } else some { val:=one a })else none
  | none=>tfind T el fun z=>bif ok then some { val:=.tup [(z.agg,z.zero),(false,[.bool false])] } else some { val:=.v z.agg z.zero })
 | _,_,_=>none
theorem xLookup_ok{N:NumSem} {P:Program} {T:Tab} (hT:TabOk P T) {M:MapTab} (hM:∀ p∈M,MapOK P p) {H:HL} {nid:Nat} {ev:Operand->SV} {o:Oper} {t:Nat} {ax ak:Operand} {ok:Bool} {e:Eff}
  (ho:o.op=.lookup t ax ak ok) (h:xLookup T M H t (ev ax) (ev ak) ok=some e):OpOK N P (hmap H) nid ev o e:=by
 unfold xLookup at h;split at h
 ·rename_i el l c m s hel hmo hk;obtain⟨kt,hu,hku⟩:=hM _ (mapEl_ok hel);have key:∀ {G:Ghost} {κ:Kap} {hf:Hp} {w:World} {ac:Act},(∀ l b,hmap H l=some b->hf l=some b)->Rel N G κ hf w->(∀ x,svR N G κ (ev x) (ac.eval x)) ->
    ac.eval ak=.string s/\ac.eval ax=.map (some (κ l).1) /\ ∃ es k,w.heap[(κ l).1]? = some (.map es k)/\MR N G κ m es.toList:=fun hH hr hev=>by
   have h2:=hev ak;rw[hk]at h2;have h2:=one_val h2;simp only [AR,List.cons.injEq,and_true]at h2;obtain⟨h3,_,es,k,h4,_,h5⟩:=mapOf_ok hmo hH hr (hev ax);exact⟨h2,h3,es,k,h4,h5⟩
  split at h
  ·rename_i j a b hmf;cases hw:Nat.beq a.w 1 with
   | false=>rw[hw]at h;contradiction
   | true =>
    rw[hw]at h;have run:∀ {G:Ghost} {κ:Kap} {hf:Hp} {w:World} {ac:Act},(∀ l b,hmap H l=some b->hf l=some b)->Rel N G κ hf w->(∀ x,svR N G κ (ev x) (ac.eval x)) ->
      ∃ v,(execOp ac.eval o).run P w=.ok (.value (if ok then .tuple #[v,.bool true]else v)) w/\AR N G κ a [v]:=fun{G κ hf w ac} hH hr hev=>by
     obtain⟨h2,h3,es,k,h4,h5⟩:=key hH hr hev;obtain⟨e',f1,_,_,_,f2,_⟩:=mfind_some h5 hmf;refine⟨e'.val,?_,f2⟩;have hks:IsKey .string (.string s):=trivial;simp [execOp,ho,Instr.lookup,h2,h3,run_underlying hu,MapKept.run_getObj_map h4,MapKept.run_checkKey hku hks,MapKept.run_findKey hku f1,Result.andThen]
    cases ok with
    | true =>
     simp only [cond_true,Option.some.injEq]at h;subst h;refine @OpOK.pure _ _ _ _ _ _ _ fun{G κ hf' w ac} hH hr hev=>?_
     obtain⟨v,h1,h2⟩:=run hH hr hev;exact⟨_,h1,#[v,.bool true],rfl,v,[.bool true],rfl,AsR.one h2,.bool true,[],rfl,AsR.one rfl,rfl⟩
    | false =>
     simp only [cond_true,cond_false,Option.some.injEq]at h;subst h;refine @OpOK.pure _ _ _ _ _ _ _ fun{G κ hf' w ac} hH hr hev=>?_
     obtain⟨v,h1,h2⟩:=run hH hr hev;exact⟨_,h1,AsR.one h2⟩
  ·rename_i hmf;obtain⟨z,hz,h⟩:=tfind_ok hT h;have run:∀ {G:Ghost} {κ:Kap} {hf:Hp} {w:World} {ac:Act},(∀ l b,hmap H l=some b->hf l=some b)->Rel N G κ hf w->(∀ x,svR N G κ (ev x) (ac.eval x)) ->
     ∃ v,(execOp ac.eval o).run P w=.ok (.value (if ok then .tuple #[v,.bool false]else v)) w/\SR N G κ z.agg z.zero v:=fun{G κ hf w ac} hH hr hev=>by
    obtain⟨h2,h3,es,k,h4,h5⟩:=key hH hr hev;have f1:=mfind_none h5 hmf;obtain⟨v,hv,hv2,_⟩:=te_zero hz w;refine⟨v,?_,hv2 N G κ⟩;have hks:IsKey .string (.string s):=trivial;simp [execOp,ho,Instr.lookup,h2,h3,run_underlying hu,MapKept.run_getObj_map h4,MapKept.run_checkKey hku hks,MapKept.run_findKey hku f1,hv,Result.andThen]
   cases ok with
   | true =>
    simp only [cond_true,Option.some.injEq]at h;subst h;refine @OpOK.pure _ _ _ _ _ _ _ fun{G κ hf' w ac} hH hr hev=>?_
    obtain⟨v,h1,h2⟩:=run hH hr hev;exact⟨_,h1,#[v,.bool false],rfl,v,[.bool false],rfl,h2,.bool false,[],rfl,AsR.one rfl,rfl⟩
   | false =>
    simp only [cond_false,Option.some.injEq]at h;subst h;refine @OpOK.pure _ _ _ _ _ _ _ fun{G κ hf' w ac} hH hr hev=>?_
    obtain⟨v,h1,h2⟩:=run hH hr hev;exact⟨_,h1,h2⟩
 ·contradiction
def xUpdate(M:MapTab) (H:HL) (t:Nat) (x k v:SV):Option Eff:=
 match mapEl M t,mapOf H x,k,v with
 | some _,some (l,c,m),.v false [.str s],.v false [a]=>(match mfind s m 0 with
  | some (j,_,_)=>some { val:=.undef,sets:=[(l,.var (.mk :: .int .i64 c :: mapEnc (mset m j a)))] }
  | none=>bif decide (0<=c)then some { val:=.undef,sets:=[(l,.var (.mk :: .int .i64 (c+1) :: mapEnc (m ++ [(s,a,c)])))] } else none)
 | _,_,_,_=>none
theorem mapR{es:Array MapEntry} {N:NumSem} {G:Ghost} {κ:Kap} {m:MapL} {k:Nat} {c:Int} (hk:(k:Int)=c) (h:MR N G κ m es.toList) :
  ∃ cs,objV true (.map es k)=some cs/\AsR N G κ (.mk :: .int .i64 c :: mapEnc m) cs:=by
 refine⟨_,rfl,[.map none],_,rfl,rfl,[.int .i64 k],_,rfl,by rw[hk];rfl,h.to⟩
theorem xUpdate_ok{N:NumSem} {P:Program} {M:MapTab} (hM:∀ p∈M,MapOK P p) {H:HL} {nid:Nat} {ev:Operand->SV} {o:Oper} {t:Nat} {ax ak av:Operand} {e:Eff}
  (ho:o.op=.mapUpdate t ax ak av\/o.op=.insert t ax ak av) (h:xUpdate M H t (ev ax) (ev ak) (ev av)=some e):OpOK N P (hmap H) nid ev o e:=by
 unfold xUpdate at h;split at h
 ·rename_i el l c m s a hel hmo hk hv;obtain⟨kt,hu,hku⟩:=hM _ (mapEl_ok hel);have hex:∀ {ρ':Operand->Value} {w:World},(execOp ρ' o).run P w=((Instr.mapUpdate t (ρ' ax) (ρ' ak) (ρ' av)).run P w).andThen fun _ w'=>.ok .skip w':=fun{ρ' w}=>by
   rcases ho with ho | ho <;> simp [execOp,ho]
  have hks:IsKey .string (.string s):=trivial;split at h
  ·rename_i j a0 b0 hf;simp only [Option.some.injEq]at h;subst h;intro G κ hf' w ac next Q hH _ _ _ hr hev hn;have h2:=hev ak;rw[hk]at h2;have h2:=one_val h2;simp only [AR,List.cons.injEq,and_true]at h2;have h7:=hev av;rw[hv]at h7;have h7:=one_val h7;obtain⟨h3,hfl,es,k,h4,hkc,h5⟩:=mapOf_ok hmo hH hr (hev ax);obtain⟨e',f1,_,f3,f4,f2,_⟩:=mfind_some h5 hf;have hj:es[j]? = some e':=by simpa using f3
   unfold Oper.wp;rw[hex];have hrun:(Instr.mapUpdate t (ac.eval ax) (ac.eval ak) (ac.eval av)).run P w=.ok () { w with heap:=w.heap.setIfInBounds (κ l).1 (.map (es.modify j fun e=>{ e with key:=.string s,val:=ac.eval av }) k) }:=by
    rw[h2,h3];simp [Instr.mapUpdate,run_underlying hu,MapKept.run_getObj_map h4,MapKept.run_checkKey hku hks,MapKept.run_findKey hku f1,hj,f4,MapKept.run_keyThatStays hks,MapKept.run_setObj_map _ h4,Result.andThen]
   rw[hrun];have hm:=MR.set (v:=ac.eval av) h7 (fun e=>{ e with key:=.string s,val:=ac.eval av }) j h5 (fun e'' he=>by
    have:e''=e':=by rw[Array.getElem?_toList,hj]at he;exact(Option.some.inj he).symm
    subst this;exact⟨f4.symm,rfl,rfl⟩)
   obtain⟨cs,g1,g2⟩:=mapR (es:=es.modify j fun e=>{ e with key:=.string s,val:=ac.eval av }) hkc (by rw[Array.toList_modify];exact hm);obtain⟨t1,t2⟩:=map_turn hr hfl h4 rfl g1 g2;exact hn undef G κ _ t1 t2 trivial fun _ _ _=>rfl
  ·rename_i hf;cases hc:decide (0<=c)with
   | false=>rw[hc]at h;contradiction
   | true =>
   rw[hc]at h;simp only [cond_true,Option.some.injEq]at h;subst h;intro G κ hf' w ac next Q hH _ _ _ hr hev hn;have h2:=hev ak;rw[hk]at h2;have h2:=one_val h2;simp only [AR,List.cons.injEq,and_true]at h2;have h7:=hev av;rw[hv]at h7;have h7:=one_val h7;obtain⟨h3,hfl,es,k,h4,hkc,h5⟩:=mapOf_ok hmo hH hr (hev ax);have f1:=mfind_none h5 hf;unfold Oper.wp;rw[hex];have hrun:(Instr.mapUpdate t (ac.eval ax) (ac.eval ak) (ac.eval av)).run P w=.ok () { w with heap:=w.heap.setIfInBounds (κ l).1 (.map (es.push { key:=.string s,val:=ac.eval av,born:=k }) (k+1)) }:=by
    rw[h2,h3];simp [Instr.mapUpdate,run_underlying hu,MapKept.run_getObj_map h4,MapKept.run_checkKey hku hks,MapKept.run_findKey hku f1,MapKept.run_setObj_map _ h4,Result.andThen]
   rw[hrun];have hm:=MR.push (v:=ac.eval av) (s:=s) (c:=k) h7 h5;rw[hkc]at hm;obtain⟨cs,g1,g2⟩:=mapR (es:=es.push { key:=.string s,val:=ac.eval av,born:=k }) (k:=k+1) (c:=c+1) (by omega) (by rw[Array.toList_push];exact hm);obtain⟨t1,t2⟩:=map_turn hr hfl h4 rfl g1 g2;exact hn undef G κ _ t1 t2 trivial fun _ _ _=>rfl
 ·contradiction
end
end Go.Abs

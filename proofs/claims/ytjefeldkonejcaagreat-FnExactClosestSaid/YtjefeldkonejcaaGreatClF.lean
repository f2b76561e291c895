/-
 A PART OF THE PROOF of ClI (texts ClF): the claim itself stands in the last text. No conditions beside those of the given row.
-/
import Derived.Test.YtjefeldkonejcaaGreatRowE
import Derived.JoinedAt
import Derived.Test.YtjefeldkonejcaaGreatRows
import Derived.Test.YtjefeldkonejcaaGreatTrvV
set_option linter.unusedVariables false
set_option linter.unnecessarySimpa false
set_option linter.unusedSimpArgs false
namespace Go.Proofs.YtjefeldkonejcaaGreat
open Go.ChangeShapes Go.WideShapes Go.ChangeAt Go.RowKit
set_option maxRecDepth 100000
theorem cl_own:ownKnob Tryz.prog.godebug=none:=by kernel_rfl
theorem cl_laidOut:laidOutB Tryz.prog=true:=by kernel_rfl
noncomputable def cl_fs(t:Nat):Array Field:=match Tryz.prog.underlying t with | some (.struct fs)=>fs | _=>#[]
theorem cl_v3:Tryz.prog.underlying 26=some (.struct (cl_fs 26)):=by kernel_rfl
theorem cl_calls{n:Nat} {F:Go.Abs.Orc} {args:List Go.Abs.SV} {H':Go.Abs.HL} {w:World} (hF:Go.Abs.OrcOK Go.Abs.NN Tryz.prog n F) (hrun:F (Go.Abs.SV × Go.Abs.HL) args [] (fun s H=>some (s,H))=some (Go.Abs.one (.bool true),H')) (hids:Go.Abs.svsIds args=[]) {cargs:Array Value}
  (ha:Go.Abs.SvsR Go.Abs.NN (Go.Abs.heapG w) Go.Abs.kap0 args cargs.toList):Calls Tryz.prog n cargs w fun e w'=>e=.returned (.bool true)/\Below w.heap.size w w':=by
 have hi:∀ s∈args,∀ i∈s.ids,i<([]:Go.Abs.HL).length:=by
  intro s hs i hi;have:i∈Go.Abs.svsIds args:=by
   clear ha hrun hids
   induction args with
   | nil=>cases hs
   | cons a r ih =>
    simp only [Go.Abs.svsIds,List.mem_append];rcases List.mem_cons.1 hs with h | h
    ·subst h;exact .inl hi
    ·exact .inr (ih h)
  rw[hids]at this;cases this
 obtain⟨res,H2,e,_,hc⟩:=hF hrun (fun j bs h=>by simp [Go.Abs.hget]at h) hi;simp only [Option.some.injEq,Prod.mk.injEq]at e;obtain⟨rfl,rfl⟩:=e;refine(hc (Go.Abs.rel_start Go.Abs.NN w (fun b h=>by cases h)) ha).mono fun e w' hq=>?_
 obtain⟨G',κ',v,e1,t,_,hv,_⟩:=hq;have hv:=Go.Abs.one_val hv;simp only [Go.Abs.AR,List.cons.injEq,and_true]at hv;exact⟨by rw[e1,hv],Go.Abs.below_of (N:=Go.Abs.NN) t⟩
set_option maxRecDepth 100000 in
theorem cl_lifted(os:Os) (started:os.Started) (H:Type) (enc:TypeId × Value->H) :
  ReturnsInHanded {} Tryz.checked os 3 .any (Rows.fnExactClosestSpec.pre6 enc Tryz.prog Tryz.f3 [] false) (Rows.fnExactClosestSpec.post enc Tryz.prog Tryz.f3 false true false false):=by
 refine returnsInHanded_of_change (C:=Tryz.checked) cl_own started (by kernel_rfl) Tryz.func3
  (ChangeSpec.witness6 (enc:=enc) (C:=Tryz.checked) false ⟨#[],#[.slice none 0 0,.agg #[.int .i64 0,.int .i64 0,.int .i64 0,.int .i64 0,.int .i64 0,.int .i64 0]],[]⟩ 8 (by kernel_rfl) (by kernel_rfl) (by kernel_rfl) (by kernel_rfl)) ?_
 intro W base args ds gs before hval0 hW _ _;have hval:∀ (j:Nat) t v,Tryz.f3.params[j]? = some t->args[j]? = some v->Value.okWide Tryz.prog W .any base t v:=hval0;have hW':=hW;obtain⟨p,q,hA0,hV,rfl,hfz,hnd⟩:=hW;have hA:DataW.TrodAll enc Tryz.prog W 0 (fun _=>true) true Tryz.f3.params.toList args.toList ds p:=hA0;rw[Tryz.params3]at hA hval;obtain⟨v0,vs0,d0,ds0,p0,q0,hargs0,rfl,rfl,h0,r0⟩:=trodAll_cons hA;obtain⟨v1,vs1,d1,ds1,p1,q1,hargs1,rfl,rfl,h1,r1⟩:=trodAll_cons r0;obtain⟨rfl,rfl,rfl⟩:=trodAll_nil r1;obtain rfl:args = #[v0,v1]:=by cases args;simp_all
 obtain⟨rfl,rfl⟩:=trodVars_none hV;obtain⟨xs,x1,_,x3⟩:=Go.Abs.slice_in (n:=8) (ty:=Go.Abs.tNd) (t:=22) (e:=75) (by kernel_rfl) (by kernel_rfl) (by kernel_rfl) (hval 0 22 v0 rfl rfl) h0;obtain⟨y,y1,_⟩:=Go.Abs.agg_in (n:=8) (t:=26) (ty:=Go.Abs.tV3) cl_v3 (by kernel_rfl) (hval 1 26 v1 rfl rfl) h1;have lt0:∀ x∈p0,x.block<W.heap.size:=by obtain⟨m,hm⟩:=h0;exact DataW.trod_lt m _ _ _ hm
 have lt1:∀ x∈p1,x.block<W.heap.size:=by obtain⟨m,hm⟩:=h1;exact DataW.trod_lt m _ _ _ hm
 clear hA0 hval0;refine(cl_calls (H':=[]) Go.Abs.cl_law (args:=[Go.Abs.one (.sl none Go.Abs.tNd xs),Go.Abs.vA y]) (by
  show (if xs.length<=9223372036854775807 then some (Go.Abs.one (.bool true),([]:Go.Abs.HL))else none)=_;rw[if_pos (Nat.le_trans x3 (by decide))]) rfl ⟨v0,[v1],rfl,x1,v1,[],rfl,y1,rfl⟩).mono fun e W' ⟨he,bel⟩=>?_
 subst he;exact⟨_,rfl,_,_,_,[],_,[],hW',trodAll_mk1 (shut_bool Tryz.underlying4 _),(trodAll_cons_mk (Below.trod cl_laidOut (by kernel_rfl) (of_decide_eq_true (by kernel_rfl)) h0 bel lt0) (trodAll_cons_mk (Below.trod cl_laidOut (by kernel_rfl) (of_decide_eq_true (by kernel_rfl)) h1 bel lt1) trodAll_mk0)),rfl,bel.frame _,fun h=>by cases h⟩
end Go.Proofs.YtjefeldkonejcaaGreat

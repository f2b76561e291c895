/-
 A PART OF THE PROOF of ClI (texts RowE): the claim itself stands in the last text. No conditions beside those of the given row.
-/
import Derived.Test.YtjefeldkonejcaaGreatRowA
set_option linter.unusedVariables false
set_option linter.unnecessarySimpa false
set_option linter.unusedSimpArgs false
namespace Go.Abs
open Go.Proofs Go.ChangeShapes Go.WideShapes Go.ChangeAt Go.RowKit
set_option maxRecDepth 100000
def inFs(r:Nat->Ty->Bool) (P:Program):List Field->Nat->Ty->Bool
 | [],_,_=>false
 | f :: fs,off,ty=>match fs,ty with
  | [],ty=>Nat.beq f.offset off&&(Nat.beq (P.cellsOf f.type) ty.w&&r f.type ty)
  | fs,.pair a b=>Nat.beq f.offset off&&(Nat.beq (P.cellsOf f.type) a.w&&(r f.type a&&inFs r P fs (off+a.w) b))
  | _,_=>false
def flatB(P:Program):Nat->Nat->Ty->Bool
 | 0,_,_=>false
 | n+1,t,ty=>match P.underlying t with
  | some (.int k)=>(match ty with | .int k'=>decide (k'=k) | _=>false)
  | some (.struct fs)=>Nat.beq (P.cellsOf t) ty.w&&inFs (flatB P n) P fs.toList 0 ty
  | _=>false
def wfD:(ty:Ty)->ty.den->Bool
 | .int k,n=>(Lit.int k n).wf
 | .pair a b,x=>wfD a x.1&&wfD b x.2
 | .list u,xs=>List.all (α:=u.den) xs (wfD u)
 | _,_=>true
section
variable {H:Type} {enc:TypeId × Value->H} {P:Program} {w:World} {base:Nat} {sp:Nat->Bool} {held:Bool} {N:NumSem} {G:Ghost}
theorem fs_ok{r:Nat->Ty->Bool} {n:Nat} (hr:∀ t ty cs x,r t ty=true->DataW.trod enc P w base sp held n t cs=some x->∃ d:ty.den,DR N G ty d cs/\wfD ty d=true) {cs:List Value} :
  ∀ (fs:List Field) (off:Nat) (ty:Ty),inFs r P fs off ty=true->(∀ f∈fs,∃ y,DataW.trod enc P w base sp held n f.type ((cs.drop f.offset).take (P.cellsOf f.type))=some y)->cs.length=off+ty.w ->
   ∃ d:ty.den,DR N G ty d (cs.drop off)/\wfD ty d=true
 | [],off,ty,h,hf,hl=>by unfold inFs at h;cases h
 | [f],off,ty,h,hf,hl=>by
  have h':(Nat.beq f.offset off&&(Nat.beq (P.cellsOf f.type) ty.w&&r f.type ty))=true:=by
   unfold inFs at h;cases ty <;> exact h
  rw[Bool.and_eq_true,Bool.and_eq_true]at h';have h1:=Nat.eq_of_beq_eq_true h'.1;have h2:=Nat.eq_of_beq_eq_true h'.2.1;obtain⟨y,hy⟩:=hf f List.mem_cons_self;rw[h1,h2,List.take_of_length_le (by rw[List.length_drop];omega)]at hy;exact hr _ _ _ _ h'.2.2 hy
 | f :: g :: fs,off,ty,h,hf,hl=>by
  cases ty with
  | pair a b =>
   have h':(Nat.beq f.offset off&&(Nat.beq (P.cellsOf f.type) a.w&&(r f.type a&&inFs r P (g :: fs) (off+a.w) b)))=true:=by
    unfold inFs at h;exact h
   rw[Bool.and_eq_true,Bool.and_eq_true,Bool.and_eq_true]at h';have h1:=Nat.eq_of_beq_eq_true h'.1;have h2:=Nat.eq_of_beq_eq_true h'.2.1;obtain⟨y,hy⟩:=hf f List.mem_cons_self;rw[h1,h2]at hy;obtain⟨d1,e1,e2⟩:=hr _ _ _ _ h'.2.2.1 hy;have hl':cs.length=off+(a.w+b.w):=hl;obtain⟨d2,e3,e4⟩:=fs_ok hr (g :: fs) (off+a.w) b h'.2.2.2 (fun x hx=>hf x (List.mem_cons_of_mem _ hx)) (by omega);refine⟨(d1,d2),⟨(cs.drop off).take a.w,cs.drop (off+a.w),?_,e1,e3⟩,?_⟩
   ·rw[<- List.drop_drop,List.take_append_drop]
   ·unfold wfD;rw[Bool.and_eq_true];exact⟨e2,e4⟩
  | _=>unfold inFs at h;cases h
theorem flat_ok:∀ (n:Nat) {t:Nat} {ty:Ty} {fuel:Nat} {cs:List Value} {x:DataW H × List MemPlace},flatB P n t ty=true->DataW.trod enc P w base sp held fuel t cs=some x->∃ d:ty.den,DR N G ty d cs/\wfD ty d=true
 | 0,t,ty,fuel,cs,x,h,hx=>by unfold flatB at h;cases h
 | n+1,t,ty,fuel,cs,x,h,hx=>by
  unfold flatB at h;split at h
  ·rename_i k hu;split at h
   ·rename_i k';have hk:=of_decide_eq_true h;subst hk;obtain⟨m,rfl,_,hw⟩:=DataW.trod_int hu hx;exact⟨m,rfl,hw⟩
   ·cases h
  ·rename_i fs hu;rw[Bool.and_eq_true]at h;have h1:=Nat.eq_of_beq_eq_true h.1;obtain⟨xs,m,rfl,_,hl,hxs,hf⟩:=DataW.trod_struct hu hx;have:=fs_ok (N:=N) (G:=G) (enc:=enc) (w:=w) (base:=base) (sp:=sp) (held:=held) (n:=m) (r:=flatB P n) (fun t ty cs x h hx=>flat_ok n h hx) (cs:=cs) fs.toList 0 ty h.2 (fun f hf'=>by
    obtain⟨i,hi,rfl⟩:=List.mem_iff_getElem.1 hf';have hi':i<fs.size:=by simpa using hi
    have:=hf i fs[i] (by simp [hi']);rw[List.getElem?_eq_getElem (by omega)]at this;exact⟨_,by simpa using this⟩) (by omega)
   simpa using this
  ·cases h
end
theorem agg_in{H:Type} {enc:TypeId × Value->H} {W:World} {base n t:Nat} {ty:Ty} {v:Value} {d:DataW H} {p:List MemPlace} {fs:Array Field} (hu:Tryz.prog.underlying t=some (.struct fs)) (hB:flatB Tryz.prog n t ty=true)
  (hv:Value.okWide Tryz.prog W .any base t v) (h:DataW.Trod enc Tryz.prog W 0 (fun _=>true) true t v d p):∃ x:ty.den,svR NN (heapG W) kap0 (.v true (Abs.enc ty x)) v/\wfD ty x=true:=by
 obtain⟨cs,rfl,_⟩:=okWide_struct hu hv;obtain⟨fuel,hf⟩:=h;obtain⟨x,h1,h2⟩:=flat_ok (N:=NN) (G:=heapG W) n hB hf;exact⟨x,⟨cs,rfl,enc_ok h1⟩,h2⟩
theorem slice_in{H:Type} {enc:TypeId × Value->H} {W:World} {base n t e:Nat} {ty:Ty} {v:Value} {d:DataW H} {p:List MemPlace} (hu:Tryz.prog.underlying t=some (.slice e)) (hB:flatB Tryz.prog n e ty=true) (hw:Tryz.prog.cellsOf e=ty.w)
  (hv:Value.okWide Tryz.prog W .any base t v) (h:DataW.Trod enc Tryz.prog W 0 (fun _=>true) true t v d p):∃ xs:List ty.den,svR NN (heapG W) kap0 (one (.sl none ty xs)) v/\(∀ x∈xs,wfD ty x=true)/\xs.length<=maxLen:=by
 obtain⟨a,len,cap,rfl⟩:=okWide_slice hu hv;obtain⟨fuel,hf⟩:=h;rcases DataW.trod_slice hu hf with ⟨hcs,_⟩ | ⟨a',len',cap',elems,rest,m,_,hcs,_,_,hl,hm,hlen,hel,_,_⟩
 ·simp [Value.cells]at hcs;obtain⟨rfl,rfl,rfl⟩:=hcs;exact⟨[],AsR.one ⟨_,rfl,.inl ⟨rfl,rfl⟩,by simp,by simp⟩,by simp,by simp⟩
 ·simp [Value.cells]at hcs;obtain⟨rfl,rfl,rfl⟩:=hcs;obtain⟨b,o,spt⟩:=a';have hsp:spt=none:=spot_none hu hv;subst hsp;have key:∀ i,i<len->∃ (x:ty.den) (cs:List Value),W.cells? 0 ((⟨b,o,none⟩:Addr).add (i*Tryz.prog.cellsOf e)) (Tryz.prog.cellsOf e)=some cs/\DR NN (heapG W) ty x cs/\wfD ty x=true:=fun i hi=>by
   have h1:=hel i hi;rw[List.getElem?_eq_getElem (by omega),Option.bind_eq_some_iff]at h1;obtain⟨cs,h2,h3⟩:=h1;obtain⟨x,h4,h5⟩:=flat_ok (N:=NN) (G:=heapG W) n hB h3;exact⟨x,cs,h2,h4,h5⟩
  have:∃ xs:List ty.den,xs.length=len /\ ∀ i x,xs[i]? = some x->∃ cs,W.cells? 0 ((⟨b,o,none⟩:Addr).add (i*Tryz.prog.cellsOf e)) (Tryz.prog.cellsOf e)=some cs/\DR NN (heapG W) ty x cs/\wfD ty x=true:=by
   clear hel hf hv hlen;have:∀ l,l<=len->∃ xs:List ty.den,xs.length=l /\ ∀ i x,xs[i]? = some x->∃ cs,W.cells? 0 ((⟨b,o,none⟩:Addr).add (i*Tryz.prog.cellsOf e)) (Tryz.prog.cellsOf e)=some cs/\DR NN (heapG W) ty x cs/\wfD ty x=true:=by
    intro l
    induction l with
    | zero=>intro _;exact⟨[],rfl,fun i x hx=>by simp at hx⟩
    | succ l ih =>
     intro hl';obtain⟨xs,h1,h2⟩:=ih (by omega);obtain⟨x,cs,h3,h4,h5⟩:=key l (by omega);refine⟨xs ++ [x],by simp [h1],fun i y hy=>?_⟩
     by_cases hi:i<xs.length
     ·rw[List.getElem?_append_left hi]at hy;exact h2 i y hy
     ·have hi2:i=l:=by
       have:=(List.getElem?_eq_some_iff.1 hy).1;simp at this;omega
      subst hi2;rw[List.getElem?_append_right (by omega),h1,Nat.sub_self]at hy;simp at hy;subst hy;exact⟨cs,h3,h4,h5⟩
   exact this len (Nat.le_refl _)
  obtain⟨xs,hxl,hx⟩:=this;refine⟨xs,AsR.one ⟨_,rfl,.inr ⟨b,o,cap,?_,?_,?_⟩,by simp,by simp⟩,?_,by omega⟩
  ·rw[hxl]
  ·rw[hxl];exact hl
  ·intro i x hxi;obtain⟨cs,h1,h2,h3⟩:=hx i x hxi;refine⟨cs,h2,h2.len,fun j u hj=>?_⟩;have h4:=(World.cells?_some h1).2.2 j (by
    have:=(List.getElem?_eq_some_iff.1 hj).1;rw[h2.len]at this;omega)
   rw[hw,Addr.add_lit]at h4;show W.cell? ⟨b,o+i*ty.w+j,none⟩=_;rw[Addr.add_lit]at h4;rw[h4,hj]
  ·intro x hxm;obtain⟨i,hi⟩:=List.getElem?_of_mem hxm;obtain⟨_,_,_,h3⟩:=hx i x hi;exact h3
end Go.Abs

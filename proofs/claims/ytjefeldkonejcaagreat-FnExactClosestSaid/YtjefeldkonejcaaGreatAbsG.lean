/-
 A PART OF THE PROOF of ClI (texts AbsG AbsH AbsI): the claim itself stands in the last text. No conditions beside those of the given row.
-/
import Derived.Test.YtjefeldkonejcaaGreatAbsD
import Derived.Laws.Tables
import Derived.Great.BuildSlice
set_option linter.unusedVariables false
set_option linter.unnecessarySimpa false
set_option linter.unusedSimpArgs false
namespace Go.Abs
section
variable {ρ:Type}
def opNew(nid:Nat) (as:List Atom) (K:Eff->Option ρ):Option ρ:=
 bif !isMk as&&(aids as).all (Nat.blt · nid)then K { val:=one (.ptr nid 0),sets:=[(nid,.var as)],new:=1 } else none
theorem alloc_eq(w:World) (o:Obj):{ w with heap:=w.heap.push o } = w.alloc o:=rfl
theorem opNew_ok{N:NumSem} {P:Program} {H:Hp} {nid:Nat} {ev:Operand->SV} {o:Oper} {as:List Atom} {K:Eff->Option ρ} {r:ρ} (h:opNew nid as K=some r)
  (hrun:∀ {G:Ghost} {κ:Kap} {w:World} {a:Act},(∀ x,svR N G κ (ev x) (a.eval x))->∃ cs ty,(execOp a.eval o).run P w=.ok (.value (.pointer (some ⟨w.heap.size,0,none⟩))) (w.alloc (.cells cs ty)) /\
   AsR N G κ as cs.toList):∃ e,K e=some r/\OpOK N P H nid ev o e:=by
 unfold opNew at h;cases hb0:(!isMk as&&(aids as).all (Nat.blt · nid))with
 | false=>rw[hb0]at h;contradiction
 | true =>
  rw[hb0]at h;simp only [Bool.and_eq_true,Bool.not_eq_true']at hb0;obtain⟨hmk,hb⟩:=hb0;refine⟨_,h,?_⟩;have hids:∀ l∈aids as,l≠nid:=fun l hl=>by
   have:=List.all_eq_true.1 hb l hl;have:=Nat.le_of_ble_eq_true this;omega
  intro G κ hf w a next Q hH hfree hno _ hr hev hn;obtain⟨cs,ty,hrun,has⟩:=hrun (w:=w) hev;have hfree0:hf nid=none:=by simpa using hfree 0 (by simp)
  have hno0:∀ i as',hf i=some (.var as')->nid ∉ aids as':=fun i as' hi=>by simpa using hno 0 (by simp) i as' hi
  unfold Oper.wp;rw[hrun];refine hn _ G (kset κ nid (w.heap.size,cs.size,cs.size)) _ (Trans.alloc _ _ _ _ hfree0) (hr.alloc _ nid (cs.size,cs.size) (.var as) hfree0 hno0 ?_ (by simp)) ?_ ?_
  ·refine BR.ofCells (cs:=cs) (ty:=ty) ?_ hmk (has.mono G.le_refl fun l hl=>kset_other _ _ (hids l hl));rw[kset_same];exact heap_alloc_new _ _
  ·exact AsR.one (by simp [AR,kset_same])
  ·intro l hl _;exact kset_other _ _ (by simp at hl;omega)
def opAlloc(T:Tab) (nid t:Nat) (K:Eff->Option ρ):Option ρ:=tfind T t fun e=>opNew nid e.zero K
theorem opAlloc_ok{N:NumSem} {P:Program} {T:Tab} (hT:TabOk P T) {H:Hp} {nid:Nat} {ev:Operand->SV} {o:Oper} {t:Nat} (ho:o.op=.alloc t) {K:Eff->Option ρ} {r:ρ}
  (h:opAlloc T nid t K=some r):∃ e,K e=some r/\OpOK N P H nid ev o e:=by
 obtain⟨e,he,h⟩:=tfind_ok hT h;refine opNew_ok h fun{G κ w a} hev=>?_
 obtain⟨z,hz,_,hzc,_⟩:=te_zero he w;refine⟨z.cells,t,?_,hzc N G κ⟩;simp [execOp,ho,Instr.alloc,hz,newVar,newRow,alloc_eq]
def opBox(nid:Nat) (x:SV) (K:Eff->Option ρ):Option ρ:=
 match x with
 | .v _ as=>opNew nid as K
 | _=>none
theorem opBox_ok{N:NumSem} {P:Program} {H:Hp} {nid:Nat} {ev:Operand->SV} {o:Oper} {t:Nat} {ax:Operand} (ho:o.op=.box t ax) {K:Eff->Option ρ} {r:ρ}
  (h:opBox nid (ev ax) K=some r):∃ e,K e=some r/\OpOK N P H nid ev o e:=by
 unfold opBox at h;split at h
 ·rename_i g as ha;refine opNew_ok h fun{G κ w a} hev=>?_
  have h1:=hev ax;rw[ha]at h1;exact⟨(a.eval ax).cells,t,by simp [execOp,ho,Instr.box,newVar,newRow,alloc_eq],SR.cells h1⟩
 ·contradiction
def fillA(pl:Nat->Option (Nat × Nat)):List Atom->List (Nat × SV)->(List Atom->Option ρ)->Option ρ
 | as,[],f=>f as
 | as,(i,.v _ bs) :: r,f=>(match pl i with
  | some (off,sz)=>bif Nat.beq (aw bs) sz then(match takeW as off with
   | some a1=>(match dropW as (off+sz)with
    | some a2=>fillA pl (a1++(bs++a2)) r f
    | none=>none)
   | none=>none)else none
  | none=>none)
 | _,_,_=>none
theorem foldl_splice(off:Nat):∀ (vs:List Value) (k:Nat) (cells:Array Value),off+k+vs.length<=cells.size ->
  ((vs.zipIdx k).foldl (fun(cs:Array Value) (p:Value × Nat)=>cs.setIfInBounds (off+p.2) p.1) cells).toList=cells.toList.take (off+k)++(vs++cells.toList.drop (off+k+vs.length)):=by
 intro vs
 induction vs with
 | nil=>intro k cells h;simp
 | cons v vs ih =>
  intro k cells h;simp only [List.zipIdx_cons,List.foldl_cons];simp only [List.length_cons]at h;rw[ih (k+1) _ (by simp;omega)];simp only [Array.toList_setIfInBounds];have hk:off+k<cells.toList.length:=by simp;omega
  have e1:(cells.toList.set (off+k) v).take (off+(k+1))=cells.toList.take (off+k) ++ [v]:=by
   rw[List.set_eq_take_append_cons_drop,if_pos hk];have:off+(k+1)=(cells.toList.take (off+k)).length+1:=by simp;omega
   rw[this,List.take_length_add_append];simp
  have e2:(cells.toList.set (off+k) v).drop (off+(k+1)+vs.length)=cells.toList.drop (off+k+(vs.length+1)):=by
   rw[List.drop_set_of_lt (by omega)];congr 1;omega
  rw[e1,e2];simp
theorem fill_ok{pl:Nat->Option (Nat × Nat)} {ev:Operand->SV}:∀ {parts:List (Nat × Operand)} {as:List Atom} {f:List Atom->Option ρ} {r:ρ},
  fillA pl as (parts.map fun p=>(p.1,ev p.2)) f=some r->∃ bs,f bs=some r /\
   ∀ {N:NumSem} {G:Ghost} {κ:Kap} {a:Act},(∀ x,svR N G κ (ev x) (a.eval x))->∀ {cells:Array Value},AsR N G κ as cells.toList ->
   ∃ cells',Instr.fill pl cells (parts.map fun p=>(p.1,a.eval p.2))=some cells'/\AsR N G κ bs cells'.toList
 | [],as,f,r,h=>⟨as,h,fun _ cells hc=>⟨cells,rfl,hc⟩⟩
 | p :: ps,as,f,r,h=>by
  simp only [List.map_cons]at h;unfold fillA at h;split at h
  ·rename_i heq;cases heq
  ·rename_i f' i g as' r' heq;simp only [List.cons.injEq,Prod.mk.injEq]at heq;obtain⟨⟨hi,hx⟩,hr⟩:=heq;subst hi;subst hr;split at h
   ·rename_i off sz hp;cases hb:Nat.beq (aw as') sz with
    | false=>rw[hb]at h;contradiction
    | true =>
     rw[hb]at h;have hb:=Nat.eq_of_beq_eq_true hb;simp only [cond_true]at h;split at h
     ·rename_i a1 h1;split at h
      ·rename_i a2 h2;obtain⟨bs',h3,hrest⟩:=fill_ok h;refine⟨bs',h3,fun{N G κ a} hev cells hc=>?_⟩;obtain⟨l1,r1⟩:=takeW_ok h1 hc;obtain⟨l2,r2⟩:=dropW_ok h2 hc;have hv:=hev p.2;rw[hx]at hv;have hvc:=SR.cells hv;have hvl:=hvc.len;have hsz:(a.eval p.2).cells.size=sz:=by rw[<- hb,<- hvl];simp
       have hfit:off+sz<=cells.size:=by simpa using l2
       have hsp:=foldl_splice off (a.eval p.2).cells.toList 0 cells (by simp [hsz];exact hfit);simp only [Nat.add_zero]at hsp;have harr:((a.eval p.2).cells.zipIdx.foldl (fun(cs:Array Value) (q:Value × Nat)=>cs.setIfInBounds (off+q.2) q.1) cells).toList =
         cells.toList.take off++((a.eval p.2).cells.toList++cells.toList.drop (off+(a.eval p.2).cells.toList.length)):=by
        rw[<- Array.foldl_toList,Array.toList_zipIdx];exact hsp
       obtain⟨cells',h4,h5⟩:=hrest hev (cells:=(a.eval p.2).cells.zipIdx.foldl (fun(cs:Array Value) (q:Value × Nat)=>cs.setIfInBounds (off+q.2) q.1) cells) (by
        rw[harr];refine r1.append (hvc.append ?_);have:(a.eval p.2).cells.toList.length=sz:=by simpa using hsz
        rw[this];exact r2)
       refine⟨cells',?_,h5⟩;simp only [List.map_cons,Instr.fill,hp];rw[if_neg (by simp [hsz];exact hfit)];exact h4
      ·contradiction
     ·contradiction
   ·contradiction
  ·contradiction
theorem places_ok{P:Program}:∀ {ps:List (Nat × Nat)} {fs:List Field},fieldsOk P ps fs=true->fs.mapM (fun f=>(P.info? f.type).map fun i=>(f.offset,i.size))=some ps
 | [],[],_=>rfl
 | [],f :: fs,h=>by simp [fieldsOk]at h
 | p :: ps,[],h=>by simp [fieldsOk]at h
 | p :: ps,f :: fs,h=>by
  simp only [fieldsOk,Bool.and_eq_true]at h;obtain⟨⟨⟨h1,h2⟩,_⟩,h4⟩:=h;have ih:=places_ok h4;cases hi:P.info? f.type with
  | none=>simp [hi]at h2
  | some i =>
   simp only [hi]at h2;simp only [List.mapM_cons,hi,Option.map_some,ih];have e1:=Nat.eq_of_beq_eq_true h1;have e2:=Nat.eq_of_beq_eq_true h2;simp [e1,e2]
def opBuild(T:Tab) (t:Nat) (ps:List (Nat × SV)) (K:SV->Option ρ):Option ρ:=
 tfind T t fun e=>(match e.kind with
  | .struct fs=>fillA (fun i=>fs[i]?) e.zero ps fun as=>K (.v true as)
  | .array len es=>fillA (fun i=>some (i*es,es)) e.zero ps fun as=>K (.v true as)
  | _=>none)
theorem opBuild_ok{N:NumSem} {P:Program} {T:Tab} (hT:TabOk P T) {H:Hp} {nid:Nat} {ev:Operand->SV} {o:Oper} {t:Nat} {parts:Array (Nat × Operand)} (ho:o.op=.build t parts)
  {K:SV->Option ρ} {r:ρ} (h:opBuild T t (parts.toList.map fun p=>(p.1,ev p.2)) K=some r):∃ s,K s=some r/\OpOK N P H nid ev o { val:=s }:=by
 unfold opBuild at h;obtain⟨e,he,h⟩:=tfind_ok hT h;have hkk:=te_kind he;obtain⟨i,z,hi,hsz,hz,_,hzc,_⟩:=te_info he;have fin:∀ (pl:Nat->Option (Nat × Nat)),fillA pl e.zero (parts.toList.map fun p=>(p.1,ev p.2)) (fun as=>K (.v true as))=some r ->
   (∀ ps cells,Instr.fill pl z.cells ps=some cells->P.built t ps=some cells)->∃ s,K s=some r/\OpOK N P H nid ev o { val:=s }:=by
  intro pl hf hb;obtain⟨bs,hk,hrest⟩:=fill_ok hf;refine⟨_,hk,OpOK.pure fun{G κ hf' w a} hH hr hev=>?_⟩;obtain⟨cells,h1,h2⟩:=hrest hev (hzc N G κ);have hbd:=hb _ _ h1;have hrun:=run_build (P:=P) w t (parts.map fun(i,x)=>(i,a.eval x)) cells (by rw[Array.toList_map];exact hbd);exact⟨.agg cells,by simp only [execOp,ho,Sem.run_bind,hrun,Result.andThen_ok,Sem.run_pure],⟨cells,rfl,h2⟩⟩
 split at h
 ·rename_i fs hk;rw[hk]at hkk;simp only [kindOk]at hkk;split at hkk
  ·rename_i gs hu;refine fin _ h fun ps cells hf=>?_
   simp only [Program.built,hi,hu,hz,places_ok hkk];have:(fun x:Nat=>fs.toArray[x]?)=fun i:Nat=>fs[i]?:=by funext x;simp
   rw[this];exact hf
  ·contradiction
 ·rename_i len es hk;rw[hk]at hkk;simp only [kindOk]at hkk;split at hkk
  ·rename_i n el hu;simp only [Bool.and_eq_true]at hkk;cases hel:P.info? el with
   | none=>simp [hel]at hkk
   | some ie =>
    simp only [hel]at hkk;have hes:=Nat.eq_of_beq_eq_true hkk.2;refine fin _ h fun ps cells hf=>?_
    simp only [Program.built,hi,hu,hz,hel,hes];exact hf
  ·contradiction
 ·contradiction
def opStore(T:Tab) (H:HL) (t:Nat) (x v:SV) (K:Eff->Option ρ):Option ρ:=
 tfind T t fun e=>(match v with
  | .v _ bs=>bif Nat.beq (aw bs) e.size then one? x fun
   | .ptr l off=>(match hget H l with
    | .var as=>(match takeW as off with
     | some a1=>(match dropW as (off+e.size)with
      | some a2=>bif isMk as || isMk (a1++(bs++a2))then none else K { val:=.undef,sets:=[(l,.var (a1++(bs++a2)))] }
      | none=>none)
     | none=>none)
    | _=>none)
   | .eptr l w i off=>(match hget H l with
    | .arr el ty xs false mv=>bif Nat.beq ty.w w then nth xs i fun x=>(match takeW (enc ty x) off with
     | some a1=>(match dropW (enc ty x) (off+e.size)with
      | some a2=>dec ty (a1++(bs++a2)) fun y rest=>(match rest with
       | []=>K { val:=.undef,sets:=[(l,.arr el ty (xs.set i y) false mv)] }
       | _=>none)
      | none=>none)
     | none=>none)else none
    | _=>none)
   | _=>none else none
  | _=>none)
theorem splice_get{α:Type} (L new:List α) (p:Nat) (h:p+new.length<=L.length) (k:Nat) :
  (L.take p++(new++L.drop (p+new.length)))[k]? = if p<=k/\k<p+new.length then new[k-p]? else L[k]?:=by
 have hl:(L.take p).length=p:=by simp;omega
 by_cases h1:k<p
 ·rw[List.getElem?_append_left (by omega),List.getElem?_take_of_lt h1,if_neg (by omega)]
 ·rw[List.getElem?_append_right (by omega),hl]
  by_cases h2:k-p<new.length
  ·rw[List.getElem?_append_left h2,if_pos (by omega)]
  ·rw[List.getElem?_append_right (by omega),if_neg (by omega),List.getElem?_drop];congr 1;omega
theorem setRow_keep(w:World) (g:Nat) (cs:Array Value):(w.setRow g cs).os=w.os/\(w.setRow g cs).tape=w.tape/\(w.setRow g cs).output=w.output/\(w.setRow g cs).heap.size=w.heap.size:=by
 simp [World.setRow]
theorem opStore_ok{N:NumSem} {P:Program} {T:Tab} (hT:TabOk P T) {H:HL} {nid:Nat} {ev:Operand->SV} {o:Oper} {t:Nat} {ax av:Operand} (ho:o.op=.store t ax av)
  {K:Eff->Option ρ} {r:ρ} (h:opStore T H t (ev ax) (ev av) K=some r):∃ e,K e=some r/\OpOK N P (hmap H) nid ev o e:=by
 unfold opStore at h;obtain⟨e,he,h⟩:=tfind_ok hT h;split at h
 ·rename_i g bs hav;cases hb:Nat.beq (aw bs) e.size with
  | false=>rw[hb]at h;contradiction
  | true =>
   rw[hb]at h;have hb:=Nat.eq_of_beq_eq_true hb;simp only [cond_true]at h;obtain⟨a,ha,h⟩:=one?_ok h;split at h
   ·
    rename_i l off;split at h
    ·rename_i as hl;split at h
     ·rename_i a1 h1;split at h
      ·rename_i a2 h2;cases hmk0:(isMk as || isMk (a1++(bs++a2)))with
       | true=>rw[hmk0]at h;contradiction
       | false =>
       rw[hmk0]at h;obtain⟨hmk,hmk2⟩:=Bool.or_eq_false_iff.1 hmk0;refine⟨_,h,?_⟩;intro G κ hf w ac next Q hH _ _ _ hr hev hn;have hfl:=hH l _ (hmap_some hl (by simp));obtain⟨cs,ty,hw,hcs⟩:=(hr.blk l _ hfl).cells hmk;have hp:=hev ax;rw[ha]at hp;have hp:=one_val hp;simp only [AR,List.cons.injEq,and_true]at hp;have hv:=hev av;rw[hav]at hv;have hvc:=SR.cells hv;obtain⟨l1,r1⟩:=takeW_ok h1 hcs;obtain⟨l2,r2⟩:=dropW_ok h2 hcs;have hst:=run_storeVar he hw (x:=ac.eval av) (o:=off) (by rw[hvc.len,hb]) (fun v hv=>hvc.plain v hv) (by simpa using l2);unfold Oper.wp;have hrun:(execOp ac.eval o).run P w=.ok .skip (w.setRow (κ l).1 (cs.toList.take off++(ac.eval av).cells.toList++cs.toList.drop (off+e.size)).toArray):=by
        simp only [execOp,ho,hp,Sem.run_bind,hst,Result.andThen_ok,Sem.run_pure]
       rw[hrun];obtain⟨k1,k2,k3,k4⟩:=setRow_keep w (κ l).1 (cs.toList.take off++(ac.eval av).cells.toList++cs.toList.drop (off+e.size)).toArray;have hown:∀ o v,G (κ l).1 o=some v->False:=fun o v eg=>hr.own l _ hfl o v eg
       refine hn undef G κ _ (Trans.turn (N:=N) l _ _ hfl G.le_refl (fun _ _ _ e=>.inl e) (fun x hx=>setRow_other _ _ _ _ hx) k4 k1 k2 k3) (hr.turn l _ _ hfl G.le_refl (fun _ _ _ e=>.inl e) (fun x hx=>setRow_other _ _ _ _ hx)
        (fun o v eg=>(hown o v eg).elim) (BR.ofCells (setRow_heap _ _ _ _ _ _ hw) hmk2 ?_) (fun o v eg=>(hown o v eg).elim) (by simp)) trivial (fun _ _ _=>rfl)
       simp only [List.append_assoc];exact r1.append (hvc.append r2)
      ·contradiction
     ·contradiction
    ·contradiction
   ·
    rename_i l wd i off;split at h
    ·rename_i el ty xs mv hl;cases hwd:Nat.beq ty.w wd with
     | false=>rw[hwd]at h;contradiction
     | true =>
      rw[hwd]at h;have hw1:=Nat.eq_of_beq_eq_true hwd;simp only [cond_true]at h;obtain⟨x,hx,h⟩:=nth_ok h;split at h
      ·rename_i a1 h1;split at h
       ·rename_i a2 h2;have hfl':=hmap_some hl (by simp);have hdec:∃ y,K { val:=.undef,sets:=[(l,.arr el ty (xs.set i y) false mv)] } = some r /\
          ∀ {N:NumSem} {G:Ghost} {κ:Kap} {cs:List Value},AsR N G κ (a1++(bs++a2)) cs->DR N G ty y cs:=by
         refine dec_fix h fun y rest hk=>?_
         split at hk
         ·exact⟨rfl,hk⟩
         ·contradiction
        obtain⟨y,hk,hy⟩:=hdec;refine⟨_,hk,?_⟩;intro G κ hf w ac next Q hH _ _ _ hr hev hn;have hfl:=hH l _ hfl';obtain⟨cs,hw,hsz,hle,hel,hfz⟩:=hr.blk l _ hfl;have hp:=hev ax;rw[ha]at hp;have hp:=one_val hp;simp only [AR,List.cons.injEq,and_true]at hp;have hv:=hev av;rw[hav]at hv;have hvc:=SR.cells hv;obtain⟨vs,hd,hvs⟩:=hel i x hx;have hvl:=hd.len;obtain⟨l1,r1⟩:=takeW_ok h1 (enc_ok (κ:=κ) hd);obtain⟨l2,r2⟩:=dropW_ok h2 (enc_ok (κ:=κ) hd);have hilt:i<xs.length:=(List.getElem?_eq_some_iff.1 hx).1;have hiw:i*ty.w+ty.w<=cs.size:=by
         rw[hsz,<- Nat.succ_mul];exact Nat.mul_le_mul_right _ (by omega)
        have hnl:(ac.eval av).cells.toList.length=e.size:=by rw[hvc.len,hb]
        have hst:=run_storeVar he hw (x:=ac.eval av) (o:=i*wd+off) hnl (fun v hv=>hvc.plain v hv) (by rw[<- hw1];omega);unfold Oper.wp;have hrun:(execOp ac.eval o).run P w=.ok .skip (w.setRow (κ l).1 (cs.toList.take (i*wd+off)++(ac.eval av).cells.toList++cs.toList.drop (i*wd+off+e.size)).toArray):=by
         simp only [execOp,ho,hp,Sem.run_bind,hst,Result.andThen_ok,Sem.run_pure]
        rw[hrun];obtain⟨k1,k2,k3,k4⟩:=setRow_keep w (κ l).1 (cs.toList.take (i*wd+off)++(ac.eval av).cells.toList++cs.toList.drop (i*wd+off+e.size)).toArray;have hown:∀ o v,G (κ l).1 o=some v->False:=fun o v eg=>hr.own l _ hfl o v eg
        have hget:∀ k,(cs.toList.take (i*wd+off)++(ac.eval av).cells.toList++cs.toList.drop (i*wd+off+e.size))[k]? =
          if i*wd+off<=k/\k<i*wd+off+e.size then(ac.eval av).cells.toList[k-(i*wd+off)]? else cs.toList[k]?:=fun k=>by
         rw[List.append_assoc,<- hnl];exact splice_get _ _ _ (by rw[hnl,<- hw1];simp;omega) k
        refine hn undef G κ _ (Trans.turn (N:=N) l _ _ hfl G.le_refl (fun _ _ _ e=>.inl e) (fun x hx=>setRow_other _ _ _ _ hx) k4 k1 k2 k3) (hr.turn l _ _ hfl G.le_refl (fun _ _ _ e=>.inl e) (fun x hx=>setRow_other _ _ _ _ hx)
         (fun o v eg=>(hown o v eg).elim) ⟨_,setRow_heap _ _ _ _ _ _ hw,?_,?_,?_,?_⟩ (fun o v eg=>(hown o v eg).elim) (by simp)) trivial (fun _ _ _=>rfl)
        ·rw[<- hsz];have:e.size<=cs.toList.length-(i*wd+off):=by rw[<- hw1];simp;omega
         simp [hnl];simp at this;omega
        ·simpa using hle
        ·intro i' x' hx'
         by_cases hii:i'=i
         ·subst hii;rw[List.getElem?_set_self hilt]at hx';simp only [Option.some.injEq]at hx';subst hx';refine⟨vs.take off++((ac.eval av).cells.toList++vs.drop (off+e.size)),hy (r1.append (hvc.append r2)),fun j v hj=>?_⟩;have hj':=hj;rw[<- hnl,splice_get _ _ _ (by omega)]at hj';rw[hget];rw[hnl]at hj'
          by_cases hc:off<=j/\j<off+e.size
          ·rw[if_pos hc]at hj';rw[if_pos (by rw[hw1];omega),<- hj'];congr 1;rw[hw1];omega
          ·rw[if_neg hc]at hj';rw[if_neg (by rw[hw1];omega)];exact hvs j v hj'
         ·rw[List.getElem?_set_ne (fun h=>hii h.symm)]at hx';obtain⟨vs',hd',hvs'⟩:=hel i' x' hx';refine⟨vs',hd',fun j v hj=>?_⟩;have hjl:j<ty.w:=by rw[<- hd'.len];exact(List.getElem?_eq_some_iff.1 hj).1
          rw[hget,if_neg ?_]
          ·exact hvs' j v hj
          ·rw[<- hw1];intro hc;rcases Nat.lt_or_gt_of_ne hii with hlt | hlt
           ·have:=Nat.mul_le_mul_right ty.w (show i'+1<=i by omega);rw[Nat.add_mul,Nat.one_mul]at this;omega
           ·have:=Nat.mul_le_mul_right ty.w (show i+1<=i' by omega);rw[Nat.add_mul,Nat.one_mul]at this;omega
        ·intro hc;cases hc
       ·contradiction
      ·contradiction
    ·contradiction
   ·contradiction
 ·contradiction
end
end Go.Abs
namespace Go.Abs
section
variable {ρ:Type}
theorem slice_row{P:Program} {t el by':Nat} {ty:Ty} (h:kindOk P t (.slice el by' ty)=true):P.underlying t=some (.slice el) /\ ∃ i z,P.info? el=some i/\i.size=ty.w/\i.bytes=by' /\
  by'<=4096/\0<ty.w/\i.zero=some z/\z.cells.size=ty.w:=by
 simp only [kindOk]at h;split at h
 ·rename_i e hu;simp only [Bool.and_eq_true]at h;obtain⟨h1,h2⟩:=h;have h1:=Nat.eq_of_beq_eq_true h1;subst h1;split at h2
  ·rename_i i hi;simp only [Bool.and_eq_true]at h2;obtain⟨⟨⟨⟨a,b⟩,c⟩,d⟩,e⟩:=h2;split at e
   ·rename_i z hz;refine⟨hu,i,z,hi,Nat.eq_of_beq_eq_true a,Nat.eq_of_beq_eq_true b,Nat.le_of_ble_eq_true c,?_,hz,Nat.eq_of_beq_eq_true e⟩;have:=Nat.le_of_ble_eq_true d;omega
   ·contradiction
  ·contradiction
 ·contradiction
theorem newArr_ok{N:NumSem} {P:Program} {H:Hp} {nid:Nat} {ev:Operand->SV} {o:Oper} {el:Nat} {ty:Ty} {xs:List ty.den}
  (hrun:∀ {G:Ghost} {κ:Kap} {hf:Hp} {w:World} {a:Act},(∀ l b,H l=some b->hf l=some b)->Rel N G κ hf w->(∀ x,svR N G κ (ev x) (a.eval x))->∃ (cs:Array Value) (cap:Nat) (w1:World),
   (execOp a.eval o).run P w=.ok (.value (.slice (some ⟨w.heap.size,0,none⟩) xs.length cap)) (w1.alloc (.cells cs el)) /\
   w1.heap=w.heap/\w1.os=w.os/\w1.tape=w.tape/\w1.output=w.output /\
   cs.size=cap*ty.w/\xs.length<=cap/\cap<=maxLen/\Elems N G ty xs cs.toList) :
  OpOK N P H nid ev o { val:=one (.wsl nid ty.w),sets:=[(nid,.arr el ty xs false true)],new:=1 }:=by
 intro G κ hf w a next Q hH hfree hno _ hr hev hn;obtain⟨cs,cap,w1,hrun,e1,e2,e3,e4,hsz,hlen,hcap,hel⟩:=hrun hH hr hev;have hfree0:hf nid=none:=by simpa using hfree 0 (by simp)
 have hno0:∀ i as',hf i=some (.var as')->nid ∉ aids as':=fun i as' hi=>by simpa using hno 0 (by simp) i as' hi
 unfold Oper.wp;rw[hrun];have hr1:=hr.same e1;have ht1:=Trans.same (G:=G) (κ:=κ) (h:=hf) e1 e2 e3 e4;have hs1:w1.heap.size=w.heap.size:=by rw[e1]
 rw[<- hs1];refine hn _ G (kset κ nid (w1.heap.size,cap,xs.length)) _ (ht1.trans (Trans.alloc _ _ _ _ hfree0)) (hr1.alloc _ nid (cap,xs.length) (.arr el ty xs false true) hfree0 hno0 ?_ (by simp)) ?_ ?_
 ·refine⟨cs,?_,?_,?_,hel,by simp⟩
  ·rw[kset_same];exact heap_alloc_new _ _
  ·rw[kset_same];exact hsz
  ·rw[kset_same];exact⟨rfl,hlen,hcap⟩
 ·refine AsR.one ?_;simp only [AR];rw[kset_same]
 ·intro l hl _;exact kset_other _ _ (by simp at hl;omega)
def opMake(T:Tab) (nid t:Nat) (l c:SV) (K:Eff->Option ρ):Option ρ:=
 tfind T t fun e=>(match e.kind with
  | .slice el by' ty=>one? l fun
   | .int _ l=>one? c fun
    | .int _ c=>if 0<=l/\l<=c/\c<=70368744177664/\c*by'<=70368744177664 then tfind T el fun z=>dec ty z.zero fun x rest=>(match rest with
     | []=>K { val:=one (.wsl nid ty.w),sets:=[(nid,.arr el ty (List.replicate l.toNat x) false true)],new:=1 }
     | _=>none)else none
    | _=>none
   | _=>none
  | _=>none)
theorem getElem_madeCells(z:Array Value) (n j:Nat) (h:j<n):(madeCells z n)[j]? = some z[j % z.size]!:=by
 simp [madeCells,Array.getElem?_map,h]
theorem opMake_ok{N:NumSem} {P:Program} {T:Tab} (hT:TabOk P T) {H:Hp} {nid:Nat} {ev:Operand->SV} {o:Oper} {t:Nat} {al ac_:Operand} (ho:o.op=.makeSlice t al ac_)
  {K:Eff->Option ρ} {r:ρ} (h:opMake T nid t (ev al) (ev ac_) K=some r):∃ e,K e=some r/\OpOK N P H nid ev o e:=by
 unfold opMake at h;obtain⟨e,he,h⟩:=tfind_ok hT h;have hkk:=te_kind he;split at h
 ·rename_i el by' ty hk
  rw[hk]at hkk;obtain⟨hu,i,z,hi,hsz,hby,hb4,hw0,hz,hzs⟩:=slice_row hkk;obtain⟨la,hla,h⟩:=one?_ok h;split at h
  ·rename_i k1 l;obtain⟨ca,hca,h⟩:=one?_ok h;split at h
   ·rename_i k2 c;split at h
    ·rename_i hc;obtain⟨ze,hze,h⟩:=tfind_ok hT h;obtain⟨i',z',hi',_,hz',_,hzc,_⟩:=te_info hze;have e1:i'=i:=by rw[hi]at hi';exact(Option.some.inj hi').symm
     subst e1;have e2:z'=z:=by rw[hz]at hz';exact(Option.some.inj hz').symm
     subst e2;obtain⟨x,hkx,hx⟩:=dec_fix (Q:=fun x=>K { val:=one (.wsl nid ty.w),sets:=[(nid,.arr el ty (List.replicate l.toNat x) false true)],new:=1 } = some r) h fun y rest hk=>by
      split at hk
      ·exact⟨rfl,hk⟩
      ·contradiction
     refine⟨_,hkx,newArr_ok fun{G κ hf w a} hH hr hev=>?_⟩;have h1:=hev al;rw[hla]at h1;have h1:=one_val h1;simp only [AR,List.cons.injEq,and_true]at h1;have h2:=hev ac_;rw[hca]at h2;have h2:=one_val h2;simp only [AR,List.cons.injEq,and_true]at h2;have hbytes:(i'.bytes:Int)*c<=281474976710656:=by rw[hby,Int.mul_comm];omega
     have hrun:=run_make (P:=P) w t el i' z' hu hi hz k1 k2 l c hc.1 hc.2.1 hbytes (by omega);have hdx:=hx (hzc N G κ);have hdl:=hdx.len;simp only [List.length_replicate];refine⟨madeCells z'.cells (c.toNat*i'.size),c.toNat,w,by simp only [execOp,ho,h1,h2,Sem.run_bind,hrun,Result.andThen_ok,Sem.run_pure],rfl,rfl,rfl,rfl,?_,by omega,by unfold maxLen;omega,?_⟩
     ·rw[size_madeCells,hsz]
     ·intro j y hj;have hjl:j<l.toNat:=by
       have:=(List.getElem?_eq_some_iff.1 hj).1
       simpa using this
      have hy:y=x:=by
       rw[List.getElem?_replicate]at hj;simp [hjl]at hj;exact hj.symm
      subst hy;refine⟨_,hdx,fun q v hq=>?_⟩;have hql:q<ty.w:=by rw[<- hdl];exact(List.getElem?_eq_some_iff.1 hq).1
      have hlt:j*ty.w+q<c.toNat*i'.size:=by
       rw[hsz];have:=Nat.mul_le_mul_right ty.w (show j+1<=c.toNat by omega);rw[Nat.add_mul,Nat.one_mul]at this;omega
      rw[Array.getElem?_toList,getElem_madeCells _ _ _ hlt,hzs,Nat.add_comm,Nat.add_mul_mod_self_right,Nat.mod_eq_of_lt hql];have hq':z'.cells[q]? = some v:=by simpa using hq
      simp [getElem!_def,hq']
    ·contradiction
   ·contradiction
  ·contradiction
 ·contradiction
def decN(t:Ty):Nat->List Atom->(List t.den->Option ρ)->Option ρ
 | 0,as,f=>(match as with | []=>f [] | _=>none)
 | n+1,as,f=>dec t as fun x r=>decN t n r fun xs=>f (x :: xs)
theorem decN_ok{t:Ty}:∀ {n:Nat} {as:List Atom} {f:List t.den->Option ρ} {r:ρ},decN t n as f=some r ->
  ∃ xs,f xs=some r/\xs.length=n /\ ∀ {N:NumSem} {G:Ghost} {κ:Kap} {cs:List Value},AsR N G κ as cs->Elems N G t xs cs/\cs.length=n*t.w
 | 0,as,f,r,h=>by
  simp only [decN]at h;split at h
  ·exact⟨[],h,rfl,fun{N G κ cs} hc=>⟨fun i x hx=>by simp at hx,by simp only [AsR]at hc;subst hc;simp⟩⟩
  ·contradiction
 | n+1,as,f,r,h=>by
  simp only [decN]at h;obtain⟨x,bs,h1,h2⟩:=dec_val h;obtain⟨xs,h3,h4,h5⟩:=decN_ok h1;refine⟨x :: xs,h3,by simp [h4],fun{N G κ cs} hc=>?_⟩;obtain⟨c,d,e,h6,h7⟩:=h2 hc;obtain⟨h8,h9⟩:=h5 h7;have hl:=h6.len;subst e;refine⟨fun i y hy=>?_,by simp [hl,h9,Nat.add_mul,Nat.add_comm]⟩;cases i with
  | zero =>
   simp only [List.getElem?_cons_zero,Option.some.injEq]at hy;subst hy;refine⟨c,h6,fun j v hj=>?_⟩;have:=(List.getElem?_eq_some_iff.1 hj).1;rw[Nat.zero_mul,Nat.zero_add,List.getElem?_append_left this];exact hj
  | succ i =>
   simp only [List.getElem?_cons_succ]at hy;obtain⟨vs,h10,h11⟩:=h8 i y hy;refine⟨vs,h10,fun j v hj=>?_⟩;rw[List.getElem?_append_right (by rw[hl,Nat.add_mul];omega),hl];have:(i+1)*t.w+j-t.w=i*t.w+j:=by rw[Nat.add_mul];omega
   rw[this];exact h11 j v hj
def deepA(H:HL) (a:Atom):Atom:=
 match a with
 | .wsl l w=>(match hget H l with
  | .arr _ t xs true _=>bif Nat.beq t.w w then .sl (some false) t xs else a
  | _=>a)
 | .osl l w off len=>(match hget H l with
  | .arr _ t xs true _=>bif Nat.beq t.w w then .sl (some false) t ((xs.drop off).take len)else a
  | _=>a)
 | _=>a
theorem deepO_ok{N:NumSem} {G:Ghost} {κ:Kap} {H:HL} {hf:Hp} {w:World} (hH:∀ l b,hmap H l=some b->hf l=some b) (hr:Rel N G κ hf w) {l off len el:Nat} {t:Ty} {xs:List t.den} {mv:Bool} {cs:List Value}
  (hl:hget H l=.arr el t xs true mv) (h0:AR N G κ (.osl l t.w off len) cs):AR N G κ (.sl (some false) t ((xs.drop off).take len)) cs:=by
 obtain⟨o,h1,h2,h3,h3'⟩:=h0;obtain⟨c,hw,hsz,hle,hel,hfz⟩:=hr.blk l _ (hH l _ (hmap_some hl (by simp)));have hb2:off+len<=xs.length:=by omega
 refine⟨_,h1,.inr ⟨(κ l).1,o,(κ l).2.1-off,by simp;omega,by simp;omega,fun i x hx=>?_⟩,by simp,by simp⟩;have hil:i<len:=by
  have:=(List.getElem?_eq_some_iff.1 hx).1;simp at this;omega
 have hx':xs[off+i]? = some x:=getElem?_take_drop _ _ _ _ _ hx;obtain⟨vs,h4,h5⟩:=hel _ _ hx';refine⟨vs,h4,h4.len,fun j v hj=>?_⟩;have hjl:j<t.w:=by rw[<- h4.len];exact(List.getElem?_eq_some_iff.1 hj).1
 have ho:=h2 (by omega);subst ho;have h6:=h5 j v hj;rw[Nat.add_mul]at h6;refine hfz rfl _ _ ?_ (by simpa using h6);have:=Nat.mul_le_mul_right t.w (show off+i+1<=xs.length by omega);rw[Nat.add_mul,Nat.add_mul,Nat.one_mul]at this;omega
theorem deepA_ok{N:NumSem} {G:Ghost} {κ:Kap} {H:HL} {hf:Hp} {w:World} (hH:∀ l b,hmap H l=some b->hf l=some b) (hr:Rel N G κ hf w) {a:Atom} {cs:List Value} (h:AR N G κ a cs) :
  AR N G κ (deepA H a) cs:=by
 unfold deepA;split
 ·rename_i l wd;split
  ·rename_i el t xs mv hl;cases hb:Nat.beq t.w wd with
   | false=>exact h
   | true =>
    have hb1:=Nat.eq_of_beq_eq_true hb;subst hb1;have h0:=openW_ok hH hr h;simp only [openW,hl]at h0;have:=deepO_ok hH hr hl h0
    simpa using this
  ·exact h
 ·rename_i l wd off len;split
  ·rename_i el t xs mv hl;cases hb:Nat.beq t.w wd with
   | false=>exact h
   | true =>
    have hb1:=Nat.eq_of_beq_eq_true hb;subst hb1;exact deepO_ok hH hr hl h
  ·exact h
 ·exact h
def deepAs(H:HL):List Atom->List Atom
 | []=>[]
 | a :: r=>deepA H a :: deepAs H r
theorem deepAs_ok{N:NumSem} {G:Ghost} {κ:Kap} {H:HL} {hf:Hp} {w:World} (hH:∀ l b,hmap H l=some b->hf l=some b) (hr:Rel N G κ hf w):∀ {as:List Atom} {cs:List Value},AsR N G κ as cs ->
  AsR N G κ (deepAs H as) cs
 | [],cs,h=>h
 | a :: as,cs,h=>by
  obtain⟨c,d,e,h1,h2⟩:=h;exact⟨c,d,e,deepA_ok hH hr h1,deepAs_ok hH hr h2⟩
def repA(z:List Atom):Nat->List Atom
 | 0=>[]
 | n+1=>z++repA z n
def opLit(T:Tab) (H:HL) (nid t len:Nat) (ps:List (Nat × SV)) (K:Eff->Option ρ):Option ρ:=
 tfind T t fun e=>(match e.kind with
  | .slice el by' ty=>bif Nat.ble len 1000&&Nat.ble ty.w 1000 then tfind T el fun z=>fillA (fun i=>some (i*ty.w,ty.w)) (repA z.zero len) ps fun as=>decN ty len (deepAs H as) fun xs =>
    K { val:=one (.wsl nid ty.w),sets:=[(nid,.arr el ty xs false true)],new:=1 } else none
  | _=>none)
theorem repA_ok{N:NumSem} {G:Ghost} {κ:Kap} {z:List Atom} {zc:Array Value} (h:AsR N G κ z zc.toList) (n:Nat) :
  AsR N G κ (repA z n) ((Array.range (n*zc.size)).map (zc[· % zc.size]!)).toList:=by
 have key:∀ n k,AsR N G κ (repA z n) ((List.range' (k*zc.size) (n*zc.size)).map (zc[· % zc.size]!)):=by
  intro n
  induction n with
  | zero=>intro k;simp [repA,AsR]
  | succ n ih =>
   intro k;simp only [repA];rw[Nat.add_mul,Nat.one_mul,Nat.add_comm (n*zc.size),<- List.range'_append_1,List.map_append];have e1:(List.range' (k*zc.size) zc.size).map (zc[· % zc.size]!)=zc.toList:=by
    apply List.ext_getElem?
    intro j
    by_cases hj:j<zc.size
    ·simp only [List.getElem?_map,List.getElem?_range' hj,Option.map_some,Nat.one_mul];rw[Nat.mul_add_mod_self_right,Nat.mod_eq_of_lt hj];simp [getElem!_def,hj]
    ·rw[List.getElem?_eq_none (by simp;omega),List.getElem?_eq_none (by simp;omega)]
   rw[e1];refine h.append ?_;have:=ih (k+1);rw[Nat.add_mul,Nat.one_mul]at this;exact this
 have:=key n 0;rw[Nat.zero_mul]at this;rw[Array.toList_map,Array.toList_range,List.range_eq_range'];exact this
theorem opLit_ok{N:NumSem} {P:Program} {T:Tab} (hT:TabOk P T) {H:HL} {nid:Nat} {ev:Operand->SV} {o:Oper} {t len:Nat} {parts:Array (Nat × Operand)} (ho:o.op=.buildSlice t len parts)
  {K:Eff->Option ρ} {r:ρ} (h:opLit T H nid t len (parts.toList.map fun p=>(p.1,ev p.2)) K=some r):∃ e,K e=some r/\OpOK N P (hmap H) nid ev o e:=by
 unfold opLit at h;obtain⟨e,he,h⟩:=tfind_ok hT h;have hkk:=te_kind he;split at h
 ·rename_i el by' ty hk
  rw[hk]at hkk;obtain⟨hu,i,z,hi,hsz,hby,hb4,hw0,hz,hzs⟩:=slice_row hkk;cases hb:(Nat.ble len 1000&&Nat.ble ty.w 1000)with
  | false=>rw[hb]at h;contradiction
  | true =>
   rw[hb]at h;simp only [Bool.and_eq_true]at hb;have hb2:=Nat.le_of_ble_eq_true hb.2;have hb:=Nat.le_of_ble_eq_true hb.1;simp only [cond_true]at h;obtain⟨ze,hze,h⟩:=tfind_ok hT h;obtain⟨i',z',hi',_,hz',_,hzc,_⟩:=te_info hze;have e1:i'=i:=by rw[hi]at hi';exact(Option.some.inj hi').symm
   subst e1;have e2:z'=z:=by rw[hz]at hz';exact(Option.some.inj hz').symm
   subst e2;obtain⟨bs,h,hfill⟩:=fill_ok h;obtain⟨xs,hk,hlen,hxs⟩:=decN_ok h;refine⟨_,hk,newArr_ok fun{G κ hf w a} hH hr hev=>?_⟩;obtain⟨cells,h1,h2⟩:=hfill hev (cells:=(Array.range (len*z'.cells.size)).map (z'.cells[· % z'.cells.size]!)) (repA_ok (hzc N G κ) len);obtain⟨h3,h4⟩:=hxs (deepAs_ok hH hr h2);rw[hzs,<- hsz]at h1;rw[hlen];have h1':Instr.fill (fun i=>some (i*i'.size,i'.size)) ((Array.range (len*i'.size)).map (z'.cells[· % z'.cells.size]!)) (parts.map fun(i,x)=>(i,a.eval x)).toList=some cells:=by
    rw[Array.toList_map,hzs,<- hsz];rw[hsz]at h1 ⊢;exact h1
   refine⟨cells,len,w,?_,rfl,rfl,rfl,rfl,by simpa using h4,Nat.le_refl _,by unfold maxLen;omega,h3⟩
   by_cases hpos:len*i'.size=0
   ·have hp0:len=0:=by
     rcases Nat.mul_eq_zero.1 hpos with h | h
     ·exact h
     ·omega
    subst hp0;rw[Nat.zero_mul]at h1';have hrun:(Instr.buildSlice t 0 (parts.map fun(i,x)=>(i,a.eval x))).run P w=.ok (.slice (some ⟨w.heap.size,0,none⟩) 0 0) (w.alloc (.cells cells el)):=by
     have h1'':Instr.fill (fun i=>some (i*i'.size,i'.size)) #[] (parts.map fun(i,x)=>(i,a.eval x)).toList=some cells:=by
      have e0:Array.map (fun x=>z'.cells[x % z'.cells.size]!) (Array.range 0) = #[]:=by simp
      rw[e0]at h1';exact h1'
     simp [Instr.buildSlice,run_underlying hu,sizeOf,typeInfo,hi,newRow,alloc_eq,Array.range_zero'];rw[Array.toList_map]at h1'';simp [h1'',newRow,alloc_eq]
    simp only [execOp,ho,Sem.run_bind,hrun,Result.andThen_ok,Sem.run_pure]
   ·have hbig:¬ len*i'.size > 2 ^ 24:=by
     have:=Nat.mul_le_mul hb hb2;rw[hsz];omega
    have hrun:=run_buildSlice (P:=P) w t el len (parts.map fun(i,x)=>(i,a.eval x)) cells i' z' hu hi hz hbig hpos h1';simp only [execOp,ho,Sem.run_bind,hrun,Result.andThen_ok,Sem.run_pure]
 ·contradiction
end
end Go.Abs
namespace Go.Abs
section
variable {ρ:Type}
def srcOf(H:HL) (t:Ty) (a:Atom) (f:List t.den->Option ρ):Option ρ:=
 match openW H a with
 | .nils=>f []
 | .sl _ t' ys=>if h:t'=t then f (castDen (congrArg Ty.list h) ys)else none
 | .osl l w off len=>(match hget H l with
  | .arr _ t' ys _ _=>bif Nat.beq t'.w w&&Nat.ble (off+len) ys.length then
    (if h:t'=t then f (castDen (congrArg Ty.list h) ((ys.drop off).take len))else none)else none
  | _=>none)
 | _=>none
def SrcAt(N:NumSem) (G:Ghost) (w:World) (t:Ty) (ys:List t.den) (v:Value):Prop:=
 (v=.slice none 0 0/\ys=[]) \/ ∃ b o c news,v=.slice (some ⟨b,o,none⟩) ys.length c/\news.length=ys.length*t.w/\(∀ j u,news[j]? = some u->w.cell? ⟨b,o+j,none⟩=some u) /\
  (∀ u∈news,u.oneCell'=true)/\Elems N G t ys news
theorem Elems.plain{N:NumSem} {G:Ghost} {t:Ty} {ys:List t.den} {cs:List Value} (h:Elems N G t ys cs) (hl:cs.length=ys.length*t.w):∀ u∈cs,Plain u:=by
 intro u hu;obtain⟨j,hj⟩:=List.getElem?_of_mem hu;have hjl:j<ys.length*t.w:=by rw[<- hl];exact(List.getElem?_eq_some_iff.1 hj).1
 have hw:0<t.w:=Nat.pos_of_ne_zero fun e=>by rw[e]at hjl;simp at hjl
 have hq:j / t.w<ys.length:=(Nat.div_lt_iff_lt_mul hw).2 hjl;obtain⟨vs,h1,h2⟩:=h (j / t.w) _ (List.getElem?_eq_getElem hq);have hr:j % t.w<vs.length:=by rw[h1.len];exact Nat.mod_lt _ hw
 have h3:=h2 (j % t.w) _ (List.getElem?_eq_getElem hr);rw[Nat.mul_comm,Nat.div_add_mod]at h3;rw[hj]at h3;have:u=vs[j % t.w]:=Option.some.inj h3;rw[this];exact h1.plain _ (List.getElem_mem hr)
theorem srcOf_ok{H:HL} {t:Ty} {a:Atom} {f:List t.den->Option ρ} {r:ρ} (h:srcOf H t a f=some r):∃ ys,f ys=some r /\
  ∀ {N:NumSem} {G:Ghost} {κ:Kap} {hf:Hp} {w:World} {v:Value},(∀ l b,hmap H l=some b->hf l=some b)->Rel N G κ hf w->AR N G κ a [v]->SrcAt N G w t ys v:=by
 unfold srcOf at h;split at h
 ·rename_i hop;refine⟨_,h,fun{N G κ hf w v} hH hr ha=>?_⟩;have ha:=openW_ok hH hr ha;rw[hop]at ha;simp only [AR,List.cons.injEq,and_true]at ha;exact .inl ⟨ha,rfl⟩
 ·rename_i nil t' ys hop;split at h
  ·rename_i ht;subst ht;refine⟨_,h,fun{N G κ hf w v} hH hr ha=>?_⟩;have ha:=openW_ok hH hr ha;rw[hop]at ha;obtain⟨v',hv,hs,_⟩:=ha;simp only [List.cons.injEq,and_true]at hv;subst hv;rcases hs with ⟨hs,hy⟩ | ⟨b,o,c,hs,hle,hel⟩
   ·exact .inl ⟨hs,hy⟩
   ·
    have key:∀ j,j<ys.length*t'.w->∃ u,w.cell? ⟨b,o+j,none⟩=some u:=by
     intro j hj;have hw:0<t'.w:=Nat.pos_of_ne_zero fun e=>by rw[e]at hj;simp at hj
     have hq:j / t'.w<ys.length:=(Nat.div_lt_iff_lt_mul hw).2 hj;obtain⟨vs,h1,h2,h3⟩:=hel _ _ (List.getElem?_eq_getElem hq);have hr':j % t'.w<vs.length:=by rw[h2];exact Nat.mod_lt _ hw
     have h4:=hr.ghost _ _ _ (h3 (j % t'.w) _ (List.getElem?_eq_getElem hr'));have:o+j / t'.w*t'.w+j % t'.w=o+j:=by rw[Nat.add_assoc,Nat.mul_comm,Nat.div_add_mod]
     rw[this]at h4;exact⟨_,h4⟩
    refine .inr ⟨b,o,c,(List.range (ys.length*t'.w)).map fun j=>(w.cell? ⟨b,o+j,none⟩).getD undef,hs,by simp;rfl,?_,?_,?_⟩
    ·intro j u hj;rw[List.getElem?_map]at hj
     by_cases hjl:j<ys.length*t'.w
     ·rw[List.getElem?_range hjl]at hj;obtain⟨u',hu'⟩:=key j hjl;simp [hu']at hj;rw[hu',hj]
     ·rw[List.getElem?_eq_none (by simp;omega)]at hj;simp at hj
    ·have hEl:Elems N G t' ys ((List.range (ys.length*t'.w)).map fun j=>(w.cell? ⟨b,o+j,none⟩).getD undef):=by
      intro i y hy;obtain⟨vs,h1,h2,h3⟩:=hel _ _ hy;refine⟨vs,h1,fun j v hj=>?_⟩;have hjl:j<t'.w:=by rw[<- h2];exact(List.getElem?_eq_some_iff.1 hj).1
      have hil:=(List.getElem?_eq_some_iff.1 hy).1;have hlt:i*t'.w+j<ys.length*t'.w:=by
       have:=Nat.mul_le_mul_right t'.w (show i+1<=ys.length from hil);rw[Nat.add_mul,Nat.one_mul]at this;omega
      rw[List.getElem?_map,List.getElem?_range hlt];have h4:=hr.ghost _ _ _ (h3 j v hj);rw[Nat.add_assoc]at h4;simp [h4]
     intro u hu;exact oneCell_of_plain (hEl.plain (by simp) u hu)
    ·intro i y hy;obtain⟨vs,h1,h2,h3⟩:=hel _ _ hy;refine⟨vs,h1,fun j v hj=>?_⟩;have hjl:j<t'.w:=by rw[<- h2];exact(List.getElem?_eq_some_iff.1 hj).1
     have hil:=(List.getElem?_eq_some_iff.1 hy).1;have hlt:i*t'.w+j<ys.length*t'.w:=by
      have:=Nat.mul_le_mul_right t'.w (show i+1<=ys.length from hil);rw[Nat.add_mul,Nat.one_mul]at this;omega
     rw[List.getElem?_map,List.getElem?_range hlt];have h4:=hr.ghost _ _ _ (h3 j v hj);rw[Nat.add_assoc]at h4;simp [h4]
  ·contradiction
 ·rename_i l wd off len hop;split at h
  ·rename_i el t' ys fz mv hl;cases hb:(Nat.beq t'.w wd&&Nat.ble (off+len) ys.length)with
   | false=>rw[hb]at h;contradiction
   | true =>
    rw[hb]at h;simp only [Bool.and_eq_true]at hb;have hb1:=Nat.eq_of_beq_eq_true hb.1;have hb2:=Nat.le_of_ble_eq_true hb.2;subst hb1;simp only [cond_true]at h;split at h
    ·rename_i ht;subst ht;refine⟨_,h,fun{N G κ hf w v} hH hr ha=>?_⟩;have ha:=openW_ok hH hr ha;rw[hop]at ha;obtain⟨o,h1,h2,h3⟩:=ha;simp only [List.cons.injEq,and_true]at h1;obtain⟨cs,hw,hsz,hle,hel,hfz⟩:=hr.blk l _ (hH l _ (hmap_some hl (by simp)));have hlen:((ys.drop off).take len).length=len:=by simp;omega
     have hcs:off*t'.w+len*t'.w<=cs.toList.length:=by
      simp only [Array.length_toList,hsz,<- Nat.add_mul];exact Nat.mul_le_mul_right _ (by omega)
     have hEl:Elems N G t' ((ys.drop off).take len) ((cs.toList.drop (off*t'.w)).take (len*t'.w)):=by
      intro i y hy;have hil:i<len:=by
       have:=(List.getElem?_eq_some_iff.1 hy).1;omega
      obtain⟨vs,h4,h5⟩:=hel _ _ (getElem?_take_drop _ _ _ _ _ hy);refine⟨vs,h4,fun j u hj=>?_⟩;have hjl:j<t'.w:=by rw[<- h4.len];exact(List.getElem?_eq_some_iff.1 hj).1
      have:=h5 j u hj;rw[Nat.add_mul,Nat.add_assoc]at this;have hlt:i*t'.w+j<len*t'.w:=by
       have:=Nat.mul_le_mul_right t'.w (show i+1<=len from hil);rw[Nat.add_mul,Nat.one_mul]at this;omega
      rw[List.getElem?_take_of_lt hlt,List.getElem?_drop];exact this
     have hnl:((cs.toList.drop (off*t'.w)).take (len*t'.w)).length=len*t'.w:=by simp at hcs ⊢;omega
     refine .inr ⟨(κ l).1,o,(κ l).2.1-off,(cs.toList.drop (off*t'.w)).take (len*t'.w),?_,?_,?_,?_,hEl⟩
     ·rw[h1];show _=Value.slice _ ((ys.drop off).take len).length _;rw[hlen]
     ·show _=((ys.drop off).take len).length*t'.w;rw[hlen,hnl]
     ·intro j u hj;have hjl:j<len*t'.w:=by rw[<- hnl];exact(List.getElem?_eq_some_iff.1 hj).1
      have hlen0:0<len:=Nat.pos_of_ne_zero fun e=>by rw[e]at hjl;simp at hjl
      have ho:=h2 (by omega);subst ho;rw[cell_of_heap hw];have:=getElem?_take_drop _ _ _ _ _ hj
      simpa using this
     ·intro u hu;refine oneCell_of_plain (hEl.plain ?_ u hu);show _=((ys.drop off).take len).length*t'.w;rw[hlen,hnl]
    ·contradiction
  ·contradiction
 ·contradiction
def gadd(G:Ghost) (b n:Nat) (cs:Array Value):Ghost:=fun x o=>if x=b/\o<n then cs[o]? else G x o
theorem append_core{N:NumSem} {P:Program} {G:Ghost} {κ:Kap} {hf:Hp} {w:World} (hr:Rel N G κ hf w) {t ty0 el:Nat} {i:TypeInfo} {z:Value} {ty:Ty}
  (hu:P.underlying t=some (.slice el)) (hi:P.info? el=some i) (hz:i.zero=some z) (hsz:i.size=ty.w) (hzs:z.cells.size=ty.w)
  {l:Nat} {xs:List ty.den} {frz mv:Bool} (hl:hf l=some (.arr el ty xs frz mv)) (hno:∀ i as,hf i=some (.var as)->l ∉ aids as)
  {len:Nat} (hle:len<=xs.length) (hfl:frz=true->len=xs.length) {ys:List ty.den} {vx:Value} (hx:SrcAt N G w ty ys vx)
  (hb1:len+ys.length<=70368744177664) (hb2:(len+ys.length)*i.bytes<=70368744177664) :
  ∃ v' G' p w',(Builtin.append_ #[t,t] ty0 #[.slice (some ⟨(κ l).1,0,none⟩) len (κ l).2.1,vx]).run P w=.ok v' w' /\
   Trans G κ hf w G' (kset κ l p) (hf.set l (.arr el ty (xs.take len++ys) frz true)) w'/\Rel N G' (kset κ l p) (hf.set l (.arr el ty (xs.take len++ys) frz true)) w' /\
   v'=.slice (some ⟨p.1,0,none⟩) p.2.2 p.2.1/\p.2.2=len+ys.length:=by
 obtain⟨cs,hw,hcsz,hll,hel,hfz⟩:=hr.blk l _ hl;have hlt:(κ l).1<w.heap.size:=(Array.getElem?_eq_some_iff.1 hw).1;have hlen:(xs.take len++ys).length=len+ys.length:=by simp;omega
 have hstay:∀ (ds:List Value),(∀ j,j<len*ty.w->ds[j]? = cs.toList[j]?)->∀ i x,i<len->(xs.take len++ys)[i]? = some x->∃ vs,DR N G ty x vs /\ ∀ j v,vs[j]? = some v->ds[i*ty.w+j]? = some v:=by
  intro ds hds i x hil hx';rw[List.getElem?_append_left (by simp;omega),List.getElem?_take_of_lt hil]at hx';obtain⟨vs,h1,h2⟩:=hel i x hx';refine⟨vs,h1,fun j v hj=>?_⟩;have hjl:j<ty.w:=by rw[<- h1.len];exact(List.getElem?_eq_some_iff.1 hj).1
  have hq:i*ty.w+j<len*ty.w:=by
   have:=Nat.mul_le_mul_right ty.w (show i+1<=len from hil);rw[Nat.add_mul,Nat.one_mul]at this;omega
  rw[hds _ hq];exact h2 j v hj
 have hcom:∀ (ds:Array Value) (news:List Value),Elems N G ty ys news->(∀ j,j<len*ty.w->ds.toList[j]? = cs.toList[j]?)->(∀ j v,news[j]? = some v->ds.toList[len*ty.w+j]? = some v) ->
   Elems N G ty (xs.take len++ys) ds.toList:=by
  intro ds news hn h1 h2 i x hx'
  by_cases hil:i<len
  ·exact hstay ds.toList h1 i x hil hx'
  ·rw[List.getElem?_append_right (by simp;omega)]at hx';have:(xs.take len).length=len:=by simp;omega
   rw[this]at hx';obtain⟨vs,h3,h4⟩:=hn _ _ hx';refine⟨vs,h3,fun j v hj=>?_⟩;have h5:=h2 _ _ (h4 j v hj);have:len*ty.w+((i-len)*ty.w+j)=i*ty.w+j:=by rw[<- Nat.add_assoc,<- Nat.add_mul];congr 2;omega
   rw[this]at h5;exact h5
 have fin:∀ (ds:Array Value) (p:Nat × Nat × Nat) (w':World),w'.os=w.os->w'.tape=w.tape->w'.output=w.output->w.heap.size<=w'.heap.size ->
   (∀ x,x<w.heap.size->x≠p.1->w'.heap[x]? = w.heap[x]?)->w'.heap[p.1]? = some (.cells ds el (0,0))->(p.1=(κ l).1\/w.heap.size<=p.1)->p.2.2=len+ys.length ->
   ds.size=p.2.1*ty.w->len+ys.length<=p.2.1->p.2.1<=maxLen->Elems N G ty (xs.take len++ys) ds.toList->(∀ j,j<len*ty.w->ds.toList[j]? = cs.toList[j]?) ->
   ∃ G',Trans G κ hf w G' (kset κ l p) (hf.set l (.arr el ty (xs.take len++ys) frz true)) w'/\Rel N G' (kset κ l p) (hf.set l (.arr el ty (xs.take len++ys) frz true)) w':=by
  intro ds p w' os tape output hsize hkeep hp1 hpp hp3 hds hcap hmax hE hsame;have hbig:(len+ys.length)*ty.w<=ds.size:=by rw[hds];exact Nat.mul_le_mul_right _ hcap
  have hold:∀ o v,G (κ l).1 o=some v->frz=true/\o<xs.length*ty.w:=fun o v e=>by
   have:=hr.own l _ hl o v e;cases frz with
   | true=>exact⟨rfl,this⟩
   | false=>exact this.elim
  have hcellold:∀ x o v,x≠p.1->G x o=some v->w'.cell? ⟨x,o,none⟩=some v:=fun x o v hx e=>by
   have h0:=hr.ghost x o v e;have hxl:x<w.heap.size:=by
    unfold World.cell? at h0;split at h0
    ·rename_i heq;exact(Array.getElem?_eq_some_iff.1 heq).1
    ·contradiction
   rw[<- h0];simp only [World.cell?];rw[hkeep x hxl hx]
  have hnofresh:∀ x o v,w.heap.size<=x->G x o=some v->False:=fun x o v hx e=>by
   have h0:=hr.ghost x o v e;unfold World.cell? at h0;split at h0
   ·rename_i heq;have:=(Array.getElem?_eq_some_iff.1 heq).1;simp only at this;omega
   ·contradiction
  have hGp:∀ o v,G p.1 o=some v->frz=true/\o<(len+ys.length)*ty.w/\ds[o]? = some v:=fun o v e=>by
   rcases hpp with hpp | hpp
   ·rw[hpp]at e;obtain⟨h1,h2⟩:=hold o v e;have h3:=hfl h1;have h4:=hr.ghost _ _ _ e;simp only [World.cell?,hw]at h4;have h5:=hsame o (by rw[h3];exact h2);refine⟨h1,?_,?_⟩
    ·have:=Nat.mul_le_mul_right ty.w (show xs.length<=len+ys.length by omega);omega
    ·simp at h4 h5;rw[h5];exact h4
   ·exact(hnofresh _ _ _ hpp e).elim
  refine⟨if frz=true then gadd G p.1 ((len+ys.length)*ty.w) ds else G,?_,?_⟩
  all_goals
   have hG:G.le (if frz=true then gadd G p.1 ((len+ys.length)*ty.w) ds else G):=by
    intro x o v e;split
    ·unfold gadd;split
     ·rename_i hc;rw[hc.1]at e;exact(hGp o v e).2.2
     ·exact e
    ·exact e
   have hGn:∀ x o v,(if frz=true then gadd G p.1 ((len+ys.length)*ty.w) ds else G) x o=some v->G x o=some v\/(x=p.1/\frz=true/\o<(len+ys.length)*ty.w/\ds[o]? = some v):=by
    intro x o v e;split at e
    ·rename_i hfr;unfold gadd at e;split at e
     ·rename_i hc;exact .inr ⟨hc.1,hfr,hc.2,e⟩
     ·exact .inl e
    ·exact .inl e
  ·refine Trans.put l p _ hG hsize (fun x hx hn=>hkeep x hx ?_) os tape output (fun x o v e=>?_) ?_
   ·rintro rfl
    rcases hpp with hpp | hpp
    ·exact hn l (by rw[hl];simp) hpp.symm
    ·omega
   ·rcases hGn x o v e with e | ⟨e,_⟩
    ·exact .inl e
    ·rcases hpp with hpp | hpp
     ·exact .inr (.inr ⟨l,by rw[hl];simp,by rw[e,hpp]⟩)
     ·exact .inr (.inl (e ▸ hpp))
   ·rcases hpp with hpp | hpp
    ·exact .inr ⟨l,by rw[hl];simp,hpp.symm⟩
    ·exact .inl hpp
  ·have hoff':N.isHeld p.1=false:=by
    rcases hpp with hpp | hpp
    ·rw[hpp];exact hr.off l (by rw[hl];simp)
    ·cases hh:N.isHeld p.1
     ·rfl
     ·obtain⟨x,h1,_⟩:=hr.inv _ hh;have:=(Array.getElem?_eq_some_iff.1 h1).1;omega
   refine hr.put l p _ hno hG (fun j b' hj hb'=>?_) (fun x o v e=>?_) ⟨ds,?_,?_,?_,?_,?_⟩ (fun o v e=>?_) (by simp) (fun x hx=>hkeep x (by obtain⟨y,h1,_⟩:=hr.inv _ hx;exact(Array.getElem?_eq_some_iff.1 h1).1) (by rintro rfl;rw[hoff']at hx;cases hx)) hoff'
   ·have hjl:=(hr.blk j b' hb').block;have hne:(κ j).1≠p.1:=by
     rcases hpp with hpp | hpp
     ·rw[hpp];exact hr.sep j l (by rw[hb'];simp) (by rw[hl];simp) hj
     ·omega
    refine⟨hkeep _ hjl hne,hne,fun o v e=>?_⟩;rcases hGn _ o v e with e | ⟨e,_⟩
    ·exact e
    ·exact absurd e hne
   ·rcases hGn x o v e with e' | ⟨e',_,_,e3⟩
    ·by_cases hx:x=p.1
     ·subst hx;have:=(hGp o v e').2.2;simp only [World.cell?,hp1]
      simpa using this
     ·exact hcellold x o v hx e'
    ·subst e';simp only [World.cell?,hp1]
     simpa using e3
   ·rw[kset_same];exact hp1
   ·rw[kset_same];exact hds
   ·rw[kset_same,hlen,hp3];exact⟨rfl,hcap,hmax⟩
   ·intro q x hq;obtain⟨vs,h1,h2⟩:=hE q x hq;exact⟨vs,h1.mono hG,h2⟩
   ·intro hfr j v hj e;rw[kset_same,if_pos hfr];unfold gadd;rw[hlen]at hj;rw[if_pos ⟨rfl,hj⟩];exact e
   ·rcases hGn _ o v e with e' | ⟨_,h1,h2,_⟩
    ·obtain⟨h1,h2,_⟩:=hGp o v e';subst h1;show o<(xs.take len++ys).length*ty.w;rw[hlen];exact h2
    ·subst h1;show o<(xs.take len++ys).length*ty.w;rw[hlen];exact h2
 rcases hx with ⟨hvx,hys⟩ | ⟨b,o,c,news,hvx,hnl,hnews,hone,hnE⟩
 ·
  subst hvx;subst hys;simp only [List.length_nil,Nat.add_zero]at *;obtain⟨G',h1,h2⟩:=fin cs ((κ l).1,(κ l).2.1,len) w rfl rfl rfl (Nat.le_refl _) (fun _ _ _=>rfl) hw (.inl rfl) (by simp) hcsz (by simp;omega) hll.2.2
   (hcom cs [] (fun i x hx=>by simp at hx) (fun _ _=>rfl) (fun j v hj=>by simp at hj)) (fun _ _=>rfl)
  refine⟨_,G',((κ l).1,(κ l).2.1,len),w,?_,h1,h2,rfl,by simp⟩;have hcap:len<=(κ l).2.1:=by omega
  simp [Builtin.append_,run_underlying hu,sizeOf,typeInfo,hi,Builtin.lenOf,Builtin.firstCells,hcap,storeCells]
 ·subst hvx;have hadd:∀ j,(⟨b,o,none⟩:Addr).add j=⟨b,o+j,none⟩:=fun j=>Addr.add_lit b o j
  have hnews':∀ j u,news[j]? = some u->w.cell? ((⟨b,o,none⟩:Addr).add j)=some u:=fun j u h=>by rw[hadd];exact hnews j u h
  by_cases hroom:len+ys.length<=(κ l).2.1
  ·
   have hfit:len*i.size+news.length<=cs.size:=by
    rw[hsz,hnl,<- Nat.add_mul,hcsz];exact Nat.mul_le_mul_right _ hroom
   have hrun:=run_append_room (P:=P) w t ty0 el i hu hi (κ l).1 len (κ l).2.1 cs hw ⟨b,o,none⟩ ys.length c news (by rw[hnl,hsz]) hnews' hone hroom hfit;rw[hsz]at hrun;obtain⟨k1,k2,k3,k4⟩:=setRow_keep w (κ l).1 (cs.toList.take (len*ty.w)++news++cs.toList.drop (len*ty.w+news.length)).toArray;have hsp:∀ k,(cs.toList.take (len*ty.w)++news++cs.toList.drop (len*ty.w+news.length))[k]? = if len*ty.w<=k/\k<len*ty.w+news.length then news[k-len*ty.w]? else cs.toList[k]?:=fun k=>by
    rw[List.append_assoc];exact splice_get _ _ _ (by rw[hsz]at hfit;simpa using hfit) k
   have hs1:∀ j,j<len*ty.w->(cs.toList.take (len*ty.w)++news++cs.toList.drop (len*ty.w+news.length)).toArray.toList[j]? = cs.toList[j]?:=fun j hj=>by
    show (cs.toList.take (len*ty.w)++news++cs.toList.drop (len*ty.w+news.length))[j]? = _;rw[hsp,if_neg (by omega)]
   obtain⟨G',h1,h2⟩:=fin (cs.toList.take (len*ty.w)++news++cs.toList.drop (len*ty.w+news.length)).toArray ((κ l).1,(κ l).2.1,len+ys.length) _ k1 k2 k3 (by rw[k4];exact Nat.le_refl _)
    (fun x _ hx=>setRow_other _ _ _ _ hx) (setRow_heap _ _ _ _ _ _ hw) (.inl rfl) rfl (by rw[hsz]at hfit;simp;rw[<- hcsz];omega) hroom hll.2.2
    (hcom _ news hnE hs1 (fun j v hj=>by
     have hjl:=(List.getElem?_eq_some_iff.1 hj).1;show (cs.toList.take (len*ty.w)++news++cs.toList.drop (len*ty.w+news.length))[len*ty.w+j]? = _;rw[hsp,if_pos (by omega)];rw[Nat.add_sub_cancel_left];exact hj)) hs1
   exact⟨_,G',((κ l).1,(κ l).2.1,len+ys.length),_,hrun,h1,h2,rfl,rfl⟩
  ·
   have holds:∀ j v,(cs.toList.take (len*ty.w))[j]? = some v->w.cell? ((⟨(κ l).1,0,none⟩:Addr).add j)=some v:=fun j v hj=>by
    have:(⟨(κ l).1,0,none⟩:Addr).add j=⟨(κ l).1,0+j,none⟩:=Addr.add_lit _ _ _;rw[this,cell_of_heap hw,Nat.zero_add];rw[List.getElem?_take]at hj;split at hj
    ·simpa using hj
    ·contradiction
   have hcsl:len*ty.w<=cs.size:=by rw[hcsz];exact Nat.mul_le_mul_right _ (by omega)
   have hol:(cs.toList.take (len*ty.w)).length=len*i.size:=by rw[hsz];simp;omega
   have hrun:=run_append_grow (P:=P) w t ty0 el i z hu hi hz ⟨(κ l).1,0,none⟩ len (κ l).2.1 (cs.toList.take (len*ty.w)) hol holds ⟨b,o,none⟩ ys.length c news (by rw[hnl,hsz]) hnews' (by omega) (by omega)
    (growslice_fits (by omega) (by omega))
   have hge:=grownCap_ge w (len+ys.length) (κ l).2.1 el;have hcm:=grownCap_le_maxLen w (len+ys.length) (κ l).2.1 el (by unfold maxLen;omega);generalize grownCap w (len+ys.length) (κ l).2.1 el=cap at *;have hds:((cs.toList.take (len*ty.w)).toArray++news.toArray++Builtin.zeroCells z.cells (cap-(len+ys.length))).size=cap*ty.w:=by
    rw[hsz]at hol;simp only [Array.size_append,List.size_toArray,hol,hnl,size_zeroCells,hzs,<- Nat.add_mul];congr 1;omega
   have hlist:((cs.toList.take (len*ty.w)).toArray++news.toArray++Builtin.zeroCells z.cells (cap-(len+ys.length))).toList=cs.toList.take (len*ty.w)++(news++(Builtin.zeroCells z.cells (cap-(len+ys.length))).toList):=by simp
   rw[hsz]at hol;have hs1:∀ j,j<len*ty.w->((cs.toList.take (len*ty.w)).toArray++news.toArray++Builtin.zeroCells z.cells (cap-(len+ys.length))).toList[j]? = cs.toList[j]?:=fun j hj=>by
    rw[hlist,List.getElem?_append_left (by omega),List.getElem?_take_of_lt hj]
   obtain⟨G',h1,h2⟩:=fin _ (w.heap.size,cap,len+ys.length) (w.drew.alloc (.cells ((cs.toList.take (len*ty.w)).toArray++news.toArray++Builtin.zeroCells z.cells (cap-(len+ys.length))) el)) rfl rfl rfl
    (by simp only [World.alloc,Array.size_push];exact Nat.le_succ _) (fun x hx _=>heap_alloc w.drew _ x hx) (heap_alloc_new w.drew _) (.inr (Nat.le_refl _)) rfl hds hge hcm
    (hcom _ news hnE hs1 (fun j v hj=>by
     have hjl:=(List.getElem?_eq_some_iff.1 hj).1;rw[hlist,List.getElem?_append_right (by omega),hol,Nat.add_sub_cancel_left,List.getElem?_append_left hjl];exact hj)) hs1
   exact⟨_,G',(w.heap.size,cap,len+ys.length),_,hrun,h1,h2,rfl,rfl⟩
end
end Go.Abs

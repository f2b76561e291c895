/-
 A PART OF THE PROOF of ClI (texts AbsY AbsZ AbsZb): the claim itself stands in the last text. No conditions beside those of the given row.
-/
import Derived.Test.YtjefeldkonejcaaGreatAbsQ
import Derived.Laws.BytesString
import Derived.Lib.ReflectliteSwap
set_option linter.unusedVariables false
set_option linter.unnecessarySimpa false
set_option linter.unusedSimpArgs false
namespace Go.Abs
def strCat(a b:ByteArray):ByteArray:=⟨(a.data.toList++b.data.toList).toArray⟩
theorem strCat_eq(a b:ByteArray):a++b=strCat a b:=by
 have:(a++b).data=(strCat a b).data:=by
  unfold strCat;rw[ByteArray.data_append];apply Array.toList_inj.1;simp
 exact ByteArray.ext this
def xConcat(op:BinOp) (x y:SV):Option Eff:=
 match op,x,y with
 | .add,.v false [.str a],.v false [.str b]=>bif Nat.ble (a.data.toList.length+b.data.toList.length) 1000000 then some { val:=one (.str (strCat a b)) } else none
 | _,_,_=>none
theorem xConcat_ok{N:NumSem} {P:Program} {H:Hp} {nid:Nat} {ev:Operand->SV} {o:Oper} {op:BinOp} {t u:Nat} {ax ay:Operand} {e:Eff}
  (ho:o.op=.binOp op t ax ay u) (h:xConcat op (ev ax) (ev ay)=some e):OpOK N P H nid ev o e:=by
 unfold xConcat at h;split at h
 ·rename_i a b hx hy;cases hb:Nat.ble (a.data.toList.length+b.data.toList.length) 1000000 with
  | false=>rw[hb]at h;contradiction
  | true =>
   rw[hb]at h;have hb:=Nat.le_of_ble_eq_true hb;simp only [cond_true,Option.some.injEq]at h;subst h;refine @OpOK.pure _ _ _ _ _ _ _ fun{G κ hf w ac} hH hr hev=>?_
   have h1:=hev ax;rw[hx]at h1;have h1:=one_val h1;have h2:=hev ay;rw[hy]at h2;have h2:=one_val h2;simp only [AR,List.cons.injEq,and_true]at h1 h2;refine⟨.string (a++b),?_,AsR.one (by rw[strCat_eq];rfl)⟩;have hs:¬ (((a.size+b.size:Nat):Int) > IntKind.i64.max):=by
    have:IntKind.i64.max=9223372036854775807:=rfl;have e1:a.size=a.data.toList.length:=rfl;have e2:b.size=b.data.toList.length:=rfl;rw[this];omega
   have hs':(a.size:Int)+(b.size:Int)<=9223372036854775807:=by
    have:IntKind.i64.max=9223372036854775807:=rfl;have e1:a.size=a.data.toList.length:=rfl;have e2:b.size=b.data.toList.length:=rfl;omega
   have hs2:¬ (IntKind.i64.max<(a.size:Int)+(b.size:Int)):=by
    have:IntKind.i64.max=9223372036854775807:=rfl;omega
   simp [execOp,ho,h1,h2,eqGuard,binOp,Op.stringOp,hs']
 ·contradiction
def xIface(T:Tab) (t:Nat) (x:SV):Option Eff:=
 tfind T t fun e=>(match e.kind,x with
  | .slice ..,.v false [a]=>some { val:=.ifc t a }
  | _,_=>none)
theorem xIface_ok{N:NumSem} {P:Program} {T:Tab} (hT:TabOk P T) {H:Hp} {nid:Nat} {ev:Operand->SV} {o:Oper} {t:Nat} {ax:Operand} {e:Eff}
  (ho:o.op=.makeInterface t ax) (h:xIface T t (ev ax)=some e):OpOK N P H nid ev o e:=by
 unfold xIface at h;obtain⟨te,he,h⟩:=tfind_ok hT h;have hkk:=te_kind he;split at h
 ·rename_i el by' ty a hk hx
  rw[hk]at hkk;obtain⟨hu,_⟩:=slice_row hkk;simp only [Option.some.injEq]at h;subst h;refine @OpOK.pure _ _ _ _ _ _ _ fun{G κ hf w ac} hH hr hev=>?_
  have h1:=hev ax;rw[hx]at h1;exact⟨.iface t (ac.eval ax),by simp [execOp,ho,Instr.makeInterface,run_underlying hu],_,rfl,one_val h1⟩
 ·contradiction
def xMakeV(T:Tab) (vs:List Nat) (nid t:Nat) (l c:SV):Option Eff:=
 bif vs.elem t then tfind T t fun e=>(match e.kind,l,c with
  | .slice el by' _,.v false [.int _ l],.v false [.int _ c]=>(if 0<=l/\l=c/\c<=100000/\c*by'<=70368744177664 then tfind T el fun z =>
    bif !isMk (repA z.zero l.toNat)&&(aids (repA z.zero l.toNat)).all (Nat.blt · nid)then some { val:=one (.asl nid 0 l.toNat l.toNat),sets:=[(nid,.var (repA z.zero l.toNat))],new:=1 } else none else none)
  | _,_,_=>none)else none
theorem xMakeV_ok{N:NumSem} {P:Program} {T:Tab} (hT:TabOk P T) {vs:List Nat} {H:Hp} {nid:Nat} {ev:Operand->SV} {o:Oper} {t:Nat} {al ac_:Operand} {e:Eff}
  (ho:o.op=.makeSlice t al ac_) (h:xMakeV T vs nid t (ev al) (ev ac_)=some e):OpOK N P H nid ev o e:=by
 unfold xMakeV at h;cases hvs:vs.elem t with
 | false=>rw[hvs]at h;contradiction
 | true =>
 rw[hvs]at h;obtain⟨te,he,h⟩:=tfind_ok hT h;have hkk:=te_kind he;split at h
 ·rename_i el by' ty k1 l k2 c hk hla hca
  rw[hk]at hkk;obtain⟨hu,i,z,hi,hsz,hby,hb4,hw0,hz,hzs⟩:=slice_row hkk;split at h
  ·rename_i hc;obtain⟨ze,hze,h⟩:=tfind_ok hT h;obtain⟨i',z',hi',_,hz',_,hzc,_⟩:=te_info hze;have e1:i'=i:=by rw[hi]at hi';exact(Option.some.inj hi').symm
   subst e1;have e2:z'=z:=by rw[hz]at hz';exact(Option.some.inj hz').symm
   subst e2;cases hb:(!isMk (repA ze.zero l.toNat)&&(aids (repA ze.zero l.toNat)).all (Nat.blt · nid))with
   | false=>rw[hb]at h;contradiction
   | true =>
    rw[hb]at h;simp only [Bool.and_eq_true,Bool.not_eq_true']at hb;obtain⟨hmk,hid⟩:=hb;simp only [cond_true,Option.some.injEq]at h;subst h;have hids:∀ l'∈aids (repA ze.zero l.toNat),l'≠nid:=fun l' hl=>by
     have:=Nat.le_of_ble_eq_true (List.all_eq_true.1 hid l' hl);omega
    intro G κ hf w a next Q hH hfree hno _ hr hev hn;have hfree0:hf nid=none:=by simpa using hfree 0 (by simp)
    have hno0:∀ i as',hf i=some (.var as')->nid ∉ aids as':=fun i as' hi=>by simpa using hno 0 (by simp) i as' hi
    have h1:=hev al;rw[hla]at h1;have h1:=one_val h1;have h2:=hev ac_;rw[hca]at h2;have h2:=one_val h2;simp only [AR,List.cons.injEq,and_true]at h1 h2;obtain⟨hc1,hc2,hc3,hc4⟩:=hc;subst hc2;have hbytes:(i'.bytes:Int)*l<=281474976710656:=by rw[hby,Int.mul_comm];omega
    have hrun:=run_make (P:=P) w t el i' z' hu hi hz k1 k2 l l hc1 (Int.le_refl _) hbytes (by omega);unfold Oper.wp;have hrun2:(execOp a.eval o).run P w=.ok (.value (.slice (some ⟨w.heap.size,0,none⟩) l.toNat l.toNat)) (w.alloc (.cells (madeCells z'.cells (l.toNat*i'.size)) el)):=by
     simp only [execOp,ho,h1,h2,Sem.run_bind,hrun,Result.andThen_ok,Sem.run_pure]
    rw[hrun2];refine hn _ G (kset κ nid (w.heap.size,0,0)) _ (Trans.alloc _ _ _ _ hfree0) (hr.alloc _ nid (0,0) (.var (repA ze.zero l.toNat)) hfree0 hno0 ?_ (by simp)) ?_ ?_
    ·refine BR.ofCells (cs:=madeCells z'.cells (l.toNat*i'.size)) (ty:=el) ?_ hmk ?_
     ·rw[kset_same];exact heap_alloc_new _ _
     ·refine AsR.mono G.le_refl (κ:=κ) (fun l' hl=>kset_other _ _ (hids l' hl)) ?_;have:=repA_ok (hzc N G κ) l.toNat;rw[hsz,<- hzs];exact this
    ·exact AsR.one (by simp [AR,kset_same])
    ·intro l' hl _;exact kset_other _ _ (by simp at hl;omega)
  ·contradiction
 ·contradiction
def xIndexA(T:Tab) (t:Nat) (x i:SV):Option Eff:=
 match x,i with
 | .v false [.asl l o n _],.v false [.int _ k]=>tfind T t fun e=>(match e.kind with
  | .slice _ _ ty=>if 0<=k/\k<n then some { val:=one (.ptr l (o+k.toNat*ty.w)) } else none
  | _=>none)
 | _,_=>none
theorem xIndexA_ok{N:NumSem} {P:Program} {T:Tab} (hT:TabOk P T) {H:Hp} {nid:Nat} {ev:Operand->SV} {o:Oper} {t:Nat} {ax ai:Operand} {e:Eff}
  (ho:o.op=.indexAddr t ax ai) (h:xIndexA T t (ev ax) (ev ai)=some e):OpOK N P H nid ev o e:=by
 unfold xIndexA at h;split at h
 ·rename_i l off n cp kk k hx hi;obtain⟨te,he,h⟩:=tfind_ok hT h;have hkk:=te_kind he;split at h
  ·rename_i el by' ty hk
   rw[hk]at hkk;obtain⟨hu,i,z,hi',hsz,_⟩:=slice_row hkk;split at h
   ·rename_i hc;simp only [Option.some.injEq]at h;subst h;refine @OpOK.pure _ _ _ _ _ _ _ fun{G κ hf w ac} hH hr hev=>?_
    have h1:=hev ax;rw[hx]at h1;have h1:=one_val h1;have h2:=hev ai;rw[hi]at h2;have h2:=one_val h2;simp only [AR,List.cons.injEq,and_true]at h1 h2;have hs:(sizeOf el).run P w=.ok ty.w w:=by simp [sizeOf,typeInfo,hi',hsz]
    have hadd:(⟨(κ l).1,off,none⟩:Addr).add (k.toNat*ty.w)=⟨(κ l).1,off+k.toNat*ty.w,none⟩:=Addr.add_lit _ _ _;refine⟨.pointer (some ⟨(κ l).1,off+k.toNat*ty.w,none⟩),?_,AsR.one rfl⟩;simp only [execOp,ho,h1,h2,Instr.indexAt,asIntOf,Sem.run_bind,Sem.run_pure,Result.andThen_ok,run_underlying hu,if_pos hc,hs,hadd]
   ·contradiction
  ·contradiction
 ·contradiction
def xLenA(T:Tab) (t:Nat) (x:SV):Option Eff:=
 match x with
 | .v false [.asl _ _ n _]=>tfind T t fun e=>(match e.kind with
  | .slice ..=>some { val:=one (.int .i64 n) }
  | _=>none)
 | .v false [.str s]=>tfind T t fun e=>(match e.kind with
  | .str=>some { val:=one (.int .i64 s.data.toList.length) }
  | _=>none)
 | _=>none
theorem xLenA_ok{N:NumSem} {P:Program} {T:Tab} (hT:TabOk P T) {H:Hp} {nid:Nat} {ev:Operand->SV} {o:Oper} {t:Nat} {ax:Operand} {e:Eff}
  (ho:o.op=.call { callee:=.builtin .len,args:=#[ax],argTypes:=#[t] }) (h:xLenA T t (ev ax)=some e):OpOK N P H nid ev o e:=by
 unfold xLenA at h;split at h
 ·rename_i l off n c hx;obtain⟨te,he,h⟩:=tfind_ok hT h;have hkk:=te_kind he;split at h
  ·rename_i el by' ty hk
   rw[hk]at hkk;obtain⟨hu,_⟩:=slice_row hkk;simp only [Option.some.injEq]at h;subst h;refine @OpOK.pure _ _ _ _ _ _ _ fun{G κ hf w ac} hH hr hev=>?_
   have h1:=hev ax;rw[hx]at h1;have h1:=one_val h1;simp only [AR,List.cons.injEq,and_true]at h1;refine⟨.int .i64 n,?_,AsR.one rfl⟩;unfold execOp;simp [ho,resolve,invoke,builtin,h1,Builtin.len_,run_underlying hu,goInt]
  ·contradiction
 ·rename_i s hx;obtain⟨te,he,h⟩:=tfind_ok hT h;have hkk:=te_kind he;split at h
  ·rename_i hk;rw[hk]at hkk;simp only [kindOk]at hkk;split at hkk
   ·rename_i hu;simp only [Option.some.injEq]at h;subst h;refine @OpOK.pure _ _ _ _ _ _ _ fun{G κ hf w ac} hH hr hev=>?_
    have h1:=hev ax;rw[hx]at h1;have h1:=one_val h1;simp only [AR,List.cons.injEq,and_true]at h1;refine⟨.int .i64 s.size,?_,AsR.one rfl⟩;unfold execOp;simp [ho,resolve,invoke,builtin,h1,Builtin.len_,run_underlying hu,goInt]
   ·contradiction
  ·contradiction
 ·contradiction
abbrev ArrTab:=List (Nat × Nat)
def ArrOK(P:Program) (p:Nat × Nat):Prop:=∃ el,P.underlying p.1=some (.array p.2 el) /\ ∀ w,(sizeOf el).run P w=.ok 1 w
def arrOkB(P:Program):ArrTab->Bool
 | []=>true
 | p :: r=>(match P.underlying p.1 with
  | some (.array n el)=>Nat.beq n p.2&&(match P.info? el with | some i=>Nat.beq i.size 1 | none=>false)
  | _=>false)&&arrOkB P r
def xSliceA(M:ArrTab) (t:Nat) (x:SV) (lo:Option SV):Option Eff:=
 match mapEl M t,x,lo with
 | some n,.v false [.ptr l off],some (.v false [.int _ k])=>if 0<=k/\k<n then some { val:=one (.asl l (off+k.toNat) (n-k.toNat) (n-k.toNat)) } else none
 | _,_,_=>none
theorem xSliceA_ok{N:NumSem} {P:Program} {M:ArrTab} (hM:∀ p∈M,ArrOK P p) {H:Hp} {nid:Nat} {ev:Operand->SV} {o:Oper} {t:Nat} {ax:Operand} {lo:Option Operand} {e:Eff}
  (ho:o.op=.slice t ax lo none none) (h:xSliceA M t (ev ax) (lo.map ev)=some e):OpOK N P H nid ev o e:=by
 unfold xSliceA at h;split at h
 ·rename_i n l off kk k hel hx hlo;obtain⟨el,hu,hsz⟩:=hM _ (mapEl_ok hel);cases lo with
  | none=>cases hlo
  | some lo =>
  simp only [Option.map_some,Option.some.injEq]at hlo;split at h
  ·rename_i hc;simp only [Option.some.injEq]at h;subst h;refine @OpOK.pure _ _ _ _ _ _ _ fun{G κ hf w ac} hH hr hev=>?_
   have h1:=hev ax;rw[hx]at h1;have h1:=one_val h1;have h2:=hev lo;rw[hlo]at h2;have h2:=one_val h2;simp only [AR,List.cons.injEq,and_true]at h1 h2;have hk:((n:Nat):Int)=n:=rfl;have hadd:(⟨(κ l).1,off,none⟩:Addr).add (k.toNat*1)=⟨(κ l).1,off+k.toNat,none⟩:=by rw[Nat.mul_one];exact Addr.add_lit _ _ _
   refine⟨.slice (some ⟨(κ l).1,off+k.toNat,none⟩) (n-k.toNat) (n-k.toNat),?_,AsR.one rfl⟩;have hb:(0<=k/\k<=(n:Int)):=by omega
   have hne:¬ (n=k.toNat):=by omega
   have hsb:(Instr.sliceBounds false n n (some (.int kk k)) none none).run P w=.ok (k.toNat,n,n) w:=by
    simp [Instr.sliceBounds,Instr.sliceBound,asIntOf,hb]
   simp only [execOp,ho,h1,h2,Option.map_some,Option.map_none,Instr.sliceAt,Instr.sureAddr,Sem.run_bind,Sem.run_pure,Result.andThen_ok,run_underlying hu,hsb,hsz,hne,if_false,hadd]
  ·contradiction
 ·contradiction
def bytesOf:List Atom->Option (List Int)
 | []=>some []
 | .int .u8 n :: r=>(match bytesOf r with | some l=>some (n :: l) | none=>none)
 | _=>none
theorem bytesOf_ok{N:NumSem} {G:Ghost} {κ:Kap}:∀ (as:List Atom) {l:List Int},bytesOf as=some l->∀ {cs:List Value},AsR N G κ as cs->cs=l.map (Value.int .u8)
 | [],l,h,cs,hc=>by simp only [bytesOf,Option.some.injEq]at h;subst h;exact hc
 | a :: r,l,h,cs,hc=>by
  unfold bytesOf at h;split at h
  ·contradiction
  ·rename_i n r' he;cases he;split at h
   ·rename_i l' hl;simp only [Option.some.injEq]at h;subst h;obtain⟨c,d,e,h1,h2⟩:=hc;simp only [AR]at h1;subst h1;rw[e,bytesOf_ok _ hl h2];rfl
   ·contradiction
  ·contradiction
def byteStr(l:List Int):ByteArray:=⟨(l.map fun n=>UInt8.ofNat n.toNat).toArray⟩
theorem byteStr_eq(l:List Int):l.foldl (fun r n=>r.push (UInt8.ofNat n.toNat)) ByteArray.empty=byteStr l:=by
 have:∀ (l:List Int) (s:ByteArray),(l.foldl (fun r n=>r.push (UInt8.ofNat n.toNat)) s).data.toList=s.data.toList++l.map fun n=>UInt8.ofNat n.toNat:=by
  intro l
  induction l with
  | nil=>intro s;simp
  | cons n l ih =>
   intro s;simp only [List.foldl_cons,List.map_cons];rw[ih];simp [ByteArray.push]
 apply ByteArray.ext;apply Array.toList_inj.1;rw[this];simp [byteStr]
def StrOK(P:Program) (p:Nat × Nat):Prop:=∃ el,P.underlying p.1=some (.slice el)/\P.underlying el=some (.int .u8)/\P.underlying p.2=some .string
def xConvA(M:List (Nat × Nat)) (H:HL) (s d:Nat) (x:SV):Option Eff:=
 match mapEl M s,x with
 | some d',.v false [.asl l off n _]=>bif Nat.beq d' d then(match hget H l with
  | .var as=>bif isMk as then none else(match dropW as off with
   | some bs=>(match takeW bs n with
    | some cs=>(match bytesOf cs with | some l=>some { val:=one (.str (byteStr l)) } | none=>none)
    | none=>none)
   | none=>none)
  | _=>none)else none
 | _,_=>none
theorem xConvA_ok{N:NumSem} {P:Program} {M:List (Nat × Nat)} (hM:∀ p∈M,StrOK P p) {H:HL} {nid:Nat} {ev:Operand->SV} {o:Oper} {s d:Nat} {ax:Operand} {e:Eff}
  (ho:o.op=.convert s d ax) (h:xConvA M H s d (ev ax)=some e):OpOK N P (hmap H) nid ev o e:=by
 unfold xConvA at h;split at h
 ·rename_i d' l off n c hel hx;cases hd:Nat.beq d' d with
  | false=>rw[hd]at h;contradiction
  | true =>
  rw[hd]at h;have hd:=Nat.eq_of_beq_eq_true hd;subst hd;obtain⟨el,hu,hue,hud⟩:=hM _ (mapEl_ok hel);simp only [cond_true]at h;split at h
  ·rename_i as hl;cases hmk:isMk as with
   | true=>rw[hmk]at h;contradiction
   | false =>
   rw[hmk]at h;simp only [cond_false]at h;split at h
   ·rename_i bs hbs;split at h
    ·rename_i cs hcs;split at h
     ·rename_i bl hbl;simp only [Option.some.injEq]at h;subst h;refine @OpOK.pure _ _ _ _ _ _ _ fun{G κ hf w ac} hH hr hev=>?_
      have h1:=hev ax;rw[hx]at h1;have h1:=one_val h1;simp only [AR,List.cons.injEq,and_true]at h1;obtain⟨vs,ty,hw,hvs⟩:=(hr.blk l _ (hH l _ (hmap_some hl (by simp)))).cells hmk;obtain⟨h3,h4⟩:=dropW_ok hbs hvs;obtain⟨h5,h6⟩:=takeW_ok hcs h4;have h7:=bytesOf_ok _ hbl h6;have hlen:((vs.toList.drop off).take n).length=n:=by simp at h5 ⊢;omega
      have hld:=run_loadCells_list (P:=P) w ⟨(κ l).1,off,none⟩ ((vs.toList.drop off).take n) (fun k v hk=>by
       rw[Addr.add_lit,cell_of_heap hw];have:=getElem?_take_drop _ _ _ _ _ hk
       simpa using this)
      rw[hlen,h7]at hld;refine⟨.string (byteStr bl),?_,AsR.one rfl⟩;simp only [execOp,ho,h1,Sem.run_bind,run_convert_bytes_string w s d' el _ n c hu hue hud,run_bytesToString w _ n c bl hld,byteStr_eq,Result.andThen_ok,Sem.run_pure]
     ·contradiction
    ·contradiction
   ·contradiction
  ·contradiction
 ·contradiction
end Go.Abs
namespace Go.Abs
open Go.Lib Go.Extern Go.Extern.Rtype
theorem exec_ext{o:Oper} {c:Call} (ho:o.op=.call c) {f:Operand} (hc:c.callee=.value f) {a:Act} {fn:Nat} {caps:Array Value} (hf:a.eval f=.func (.func fn) #[] caps) {P:Program} (w:World) :
  (execOp a.eval o).run P w=(callFunc fn (c.args.map a.eval++caps)).run P w:=by
 unfold execOp;simp only [ho,resolve,hc,Deferred.ofValue,hf,invoke,Sem.run_bind,Sem.run_pure,Result.andThen_ok,Array.empty_append]
structure SlX where
 t:Nat
 e:Nat
 f0:Nat
 f1:Nat
 fk:Nat
structure ExtT where
 val:Nat
 len:Nat
 swp:Nat
 g:Nat
 sl:List SlX
 sw:List Nat
def SlXOK(P:Program) (p:SlX):Prop:=
 ∃ i ie ke,P.info? p.t=some i/\i.desc=.slice p.e/\P.packed p.t=false/\P.info? p.e=some ie/\(∀ w,(kind p.e).run P w=.ok ke w)/\2<swapperK 2 ie ke /\
  P.funcs.findIdx? (·.name == "internal/reflectlite" ++ ".Swapper$" ++ toString 1)=some p.f0/\P.funcs.findIdx? (·.name == "internal/reflectlite" ++ ".Swapper$" ++ toString 2)=some p.f1 /\
  P.funcs.findIdx? (·.name == "internal/reflectlite" ++ ".Swapper$" ++ toString (swapperK 2 ie ke))=some p.fk
def RunsAs(P:Program) (f:Nat) (s:Array Value->Sem Value):Prop:=∀ args w,(callFunc f args).run P w=((s args).run P w).andThen fun v w'=>.ok (.value v) w'
structure ExtOK (P:Program) (X:ExtT):Prop where
 val:RunsAs P X.val fun args=>ReflectliteValue.unpack (args.getD 0 (.tuple #[]))
 len:RunsAs P X.len (ReflectliteValue.method (ReflectliteValue.valueError "reflectlite.Value.Len" 0) ReflectliteValue.len)
 swp:RunsAs P X.swp (ReflectliteSwapper.swapper "internal/reflectlite" (ReflectliteValue.valueError "Swapper"))
 g:P.globals.size=X.g
 sl:∀ p∈X.sl,SlXOK P p
 sw:∀ f∈X.sw,∃ gS,RunsAs P f (ReflectliteSwapper.swap gS)
def slFind:List SlX->Nat->Option SlX
 | [],_=>none
 | p :: r,t=>bif Nat.beq p.t t then some p else slFind r t
theorem slFind_ok:∀ {M:List SlX} {t:Nat} {p:SlX},slFind M t=some p->p∈M/\p.t=t
 | [],t,p,h=>by simp [slFind]at h
 | q :: r,t,p,h=>by
  simp only [slFind]at h;cases hb:Nat.beq q.t t with
  | true =>
   rw[hb]at h;simp only [cond_true,Option.some.injEq]at h;subst h;exact⟨List.mem_cons_self,Nat.eq_of_beq_eq_true hb⟩
  | false =>
   rw[hb]at h;obtain⟨h1,h2⟩:=slFind_ok h;exact⟨List.mem_cons_of_mem _ h1,h2⟩
def lenW(H:HL):Atom->Option Nat
 | .nils=>some 0
 | .wsl l _=>(match hget H l with | .arr _ _ xs _ _=>some xs.length | _=>none)
 | _=>none
theorem lenW_ok{N:NumSem} {G:Ghost} {κ:Kap} {H:HL} {hf:Hp} {w:World} (hH:∀ l b,hmap H l=some b->hf l=some b) (hr:Rel N G κ hf w) {a:Atom} {n:Nat} (h:lenW H a=some n) {v:Value} (hv:AR N G κ a [v]) :
  ∃ p c,v=.slice p n c:=by
 unfold lenW at h;split at h
 ·simp only [Option.some.injEq]at h;subst h;simp only [AR,List.cons.injEq,and_true]at hv;exact⟨_,_,hv⟩
 ·rename_i l wd;split at h
  ·rename_i el ty xs fr mv hl;simp only [Option.some.injEq]at h;subst h;obtain⟨cs,hw,hsz,hle,_⟩:=hr.blk l _ (hH l _ (hmap_some hl (by simp)));simp only [AR,List.cons.injEq,and_true]at hv;exact⟨_,_,by rw[hv,hle.1]⟩
  ·contradiction
 ·contradiction
def xValueOf(X:ExtT) (H:HL) (nid:Nat) (as:List SV):Option Eff:=
 match as with
 | [.ifc t a]=>(match slFind X.sl t,lenW H a with
  | some _,some _=>bif !isMk [a]&&a.ids.all (Nat.blt · nid)then some { val:=.v true [.adr X.g t,.ptr nid 0,.int .u64 151],sets:=[(nid,.var [a])],new:=1 } else none
  | _,_=>none)
 | _=>none
def xLenX(X:ExtT) (H:HL) (as:List SV):Option Eff:=
 match as with
 | [.v true [.adr g t,.ptr l 0,.int .u64 151]]=>bif Nat.beq g X.g then(match slFind X.sl t,hget H l with
  | some _,.var [a]=>(match lenW H a with | some n=>some { val:=one (.int .i64 n) } | none=>none)
  | _,_=>none)else none
 | _=>none
def xSwapper(X:ExtT) (H:HL) (as:List SV):Option Eff:=
 match as with
 | [.ifc t a]=>(match slFind X.sl t,lenW H a with
  | some p,some 0=>some { val:=one (.fn p.f0 []) }
  | some p,some 1=>some { val:=one (.fn p.f1 []) }
  | some p,some _=>(match a with | .wsl l _=>some { val:=one (.bfn p.fk l X.g p.e) } | _=>none)
  | _,_=>none)
 | _=>none
def swapL{α:Type} (xs:List α) (i j:Nat):Option (List α):=
 match xs[i]?,xs[j]? with
 | some a,some b=>some ((xs.set i b).set j a)
 | _,_=>none
def xSwap(T:Tab) (X:ExtT) (H:HL) (f l g e:Nat) (as:List SV):Option Eff:=
 bif X.sw.elem f&&Nat.beq g X.g then tfind T e fun z=>(match as,hget H l with
  | [.v false [.int .i64 i],.v false [.int .i64 j]],.arr el ty xs false mv=>bif Nat.beq z.size ty.w&&(decide (0<=i)&&decide (0<=j))then(match swapL xs i.toNat j.toNat with
   | some ys=>some { val:=.tup [],sets:=[(l,.arr el ty ys false mv)] }
   | none=>none)else none
  | _,_=>none)else none
def xCall(T:Tab) (X:ExtT) (H:HL) (nid:Nat) (ev:Operand->SV) (c:Call):Option Eff:=
 match c.callee with
 | .value f=>(match ev f with
  | .v false [.fn k []]=>bif Nat.beq k X.val then xValueOf X H nid (c.args.toList.map ev)else bif Nat.beq k X.len then xLenX X H (c.args.toList.map ev)else bif Nat.beq k X.swp then xSwapper X H (c.args.toList.map ev)else none
  | .v false [.bfn k l g e]=>xSwap T X H k l g e (c.args.toList.map ev)
  | _=>none)
 | _=>none
theorem map_one{ev:Operand->SV} {args:Array Operand} {s:SV} (h:args.toList.map ev=[s]):∃ x,args = #[x]/\ev x=s:=by
 obtain⟨l⟩:=args;cases l with
 | nil=>cases h
 | cons x r =>
  cases r with
  | nil=>simp at h;exact⟨x,rfl,h⟩
  | cons y r=>simp at h
theorem map_two{ev:Operand->SV} {args:Array Operand} {s t:SV} (h:args.toList.map ev=[s,t]):∃ x y,args = #[x,y]/\ev x=s/\ev y=t:=by
 obtain⟨l⟩:=args
 match l,h with
 | [],h=>cases h
 | [x],h=>simp at h
 | [x,y],h=>simp at h;exact⟨x,y,rfl,h⟩
 | x :: y :: z :: r,h=>simp at h
theorem xValueOf_ok{N:NumSem} {P:Program} {X:ExtT} (hX:ExtOK P X) {H:HL} {nid:Nat} {ev:Operand->SV} {o:Oper} {c:Call} (ho:o.op=.call c) {f:Operand} (hc:c.callee=.value f)
  (hf:ev f=one (.fn X.val [])) {e:Eff} (h:xValueOf X H nid (c.args.toList.map ev)=some e):OpOK N P (hmap H) nid ev o e:=by
 generalize has:c.args.toList.map ev=as at h;unfold xValueOf at h;split at h
 ·rename_i t a;obtain⟨ax,hargs,hax⟩:=map_one has;split at h
  ·rename_i p n hp hn;cases hb:(!isMk [a]&&a.ids.all (Nat.blt · nid))with
   | false=>rw[hb]at h;contradiction
   | true =>
    rw[hb]at h;simp only [Bool.and_eq_true,Bool.not_eq_true']at hb;obtain⟨hmk,hid⟩:=hb;simp only [cond_true,Option.some.injEq]at h;subst h;obtain⟨hpm,rfl⟩:=slFind_ok hp;obtain⟨i,ie,ke,hi,hd,_⟩:=hX.sl _ hpm;intro G κ hf' w ac next Q hH hfree hno _ hr hev hnx;have hfree0:hf' nid=none:=by simpa using hfree 0 (by simp)
    have hno0:∀ i as',hf' i=some (.var as')->nid ∉ aids as':=fun i as' hi=>by simpa using hno 0 (by simp) i as' hi
    have h1:=hev f;rw[hf]at h1;have h1:=one_val h1;simp only [AR,List.map_nil,List.cons.injEq,and_true]at h1;have h2:=hev ax;rw[hax]at h2;obtain⟨y,hy,h3⟩:=h2;obtain⟨q,cp,rfl⟩:=lenW_ok hH hr hn h3;unfold Oper.wp;have hrun:(execOp ac.eval o).run P w=.ok (.value (.agg #[typeHandle P p.t,.pointer (some ⟨w.heap.size,0,none⟩),.int .u64 151])) (w.alloc (.cells #[.slice q n cp] p.t)):=by
     rw[exec_ext ho hc h1,hX.val,hargs];have e1:((#[ax].map ac.eval ++ #[]:Array Value).getD 0 (.tuple #[]))=.iface p.t (.slice q n cp):=by simp [hy]
     simp only [];rw[e1,run_valueOf_slice p.t p.e i hi hd];rfl
    rw[hrun];have hids:∀ l'∈aids [a],l'≠nid:=fun l' hl=>by
     have:=Nat.le_of_ble_eq_true (List.all_eq_true.1 hid l' (by simpa [aids] using hl));omega
    refine hnx _ G (kset κ nid (w.heap.size,0,0)) _ (Trans.alloc _ _ _ _ hfree0) (hr.alloc _ nid (0,0) (.var [a]) hfree0 hno0 ?_ (by simp)) ?_ ?_
    ·refine BR.ofCells (cs:=#[.slice q n cp]) (ty:=p.t) ?_ hmk ?_
     ·rw[kset_same];exact heap_alloc_new _ _
     ·exact AsR.mono G.le_refl (κ:=κ) (fun l' hl=>kset_other _ _ (hids l' hl)) (AsR.one h3)
    ·refine⟨_,rfl,?_⟩;refine⟨[typeHandle P p.t],[.pointer (some ⟨w.heap.size,0,none⟩),.int .u64 151],rfl,?_,[.pointer (some ⟨w.heap.size,0,none⟩)],[.int .u64 151],rfl,?_,[.int .u64 151],[],rfl,rfl,rfl⟩
     ·simp [AR,typeHandle,hX.g]
     ·simp [AR,kset_same]
    ·intro l' hl _;exact kset_other _ _ (by simp at hl;omega)
  ·contradiction
 ·contradiction
theorem xLenX_ok{N:NumSem} {P:Program} {X:ExtT} (hX:ExtOK P X) {H:HL} {nid:Nat} {ev:Operand->SV} {o:Oper} {c:Call} (ho:o.op=.call c) {f:Operand} (hc:c.callee=.value f)
  (hf:ev f=one (.fn X.len [])) {e:Eff} (h:xLenX X H (c.args.toList.map ev)=some e):OpOK N P (hmap H) nid ev o e:=by
 generalize has:c.args.toList.map ev=as at h;unfold xLenX at h;split at h
 ·rename_i g t l;obtain⟨ax,hargs,hax⟩:=map_one has;cases hg:Nat.beq g X.g with
  | false=>rw[hg]at h;contradiction
  | true =>
   rw[hg]at h;have hg:=Nat.eq_of_beq_eq_true hg;subst hg;simp only [cond_true]at h;split at h
   ·rename_i p a hp hl;split at h
    ·rename_i n hn;simp only [Option.some.injEq]at h;subst h;obtain⟨hpm,rfl⟩:=slFind_ok hp;obtain⟨i,ie,ke,hi,hd,hpk,_⟩:=hX.sl _ hpm;refine @OpOK.pure _ _ _ _ _ _ _ fun{G κ hf' w ac} hH hr hev=>?_
     have h1:=hev f;rw[hf]at h1;have h1:=one_val h1;simp only [AR,List.map_nil,List.cons.injEq,and_true]at h1;have h2:=hev ax;rw[hax]at h2;obtain⟨cs,hcs,h2⟩:=h2;obtain⟨c1,d1,e1,g1,c2,d2,e2,g2,c3,d3,e3,g3,g4⟩:=h2;simp only [AR,AsR]at g1 g2 g3 g4;subst g1;subst g2;subst g3;subst g4;subst e3;subst e2;have hcs2:cs = #[.pointer (some ⟨X.g,p.t,none⟩),.pointer (some ⟨(κ l).1,0,none⟩),.int .u64 151]:=by
      apply Array.toList_inj.1;rw[e1];rfl
     subst hcs2;have hmk:isMk [a]=false:=by
      cases a <;> first | rfl | (simp [lenW]at hn)
     obtain⟨vs,ty,hw,hvs⟩:=(hr.blk l _ (hH l _ (hmap_some hl (by simp)))).cells hmk;have hl1:=hvs.len;have hw1:aw [a]=1:=by cases a <;> first | rfl | (simp [lenW]at hn)
     rw[hw1]at hl1;obtain⟨v,hv⟩:=List.length_eq_one_iff.1 hl1;rw[hv]at hvs;obtain⟨q,cp,rfl⟩:=lenW_ok hH hr hn hvs.one_inv;have hcell:w.cell? ⟨(κ l).1,0,none⟩=some (.slice q n cp):=by
      simp only [World.cell?,hw];have:vs[0]? = some (.slice q n cp):=by rw[<- Array.getElem?_toList,hv];rfl
      simpa using this
     refine⟨.int .i64 n,?_,AsR.one rfl⟩;rw[exec_ext ho hc h1,hX.len,hargs];have e1':(#[ax].map ac.eval ++ #[]:Array Value) = #[.agg #[typeHandle P p.t,.pointer (some ⟨(κ l).1,0,none⟩),.int .u64 151]]:=by simp [hcs,typeHandle,hX.g]
     rw[e1',run_valueLen_slice p.t p.e i hi hd hpk _ q n cp w hcell];rfl
    ·contradiction
   ·contradiction
 ·contradiction
theorem swapperK_two{n:Nat} {ie:TypeInfo} {ke:Nat} (h:2<=n):swapperK n ie ke=swapperK 2 ie ke:=by
 have a:(n==0)=false:=by simp;omega
 have b:(n==1)=false:=by simp;omega
 simp [swapperK,a,b]
theorem xSwapper_ok{N:NumSem} {P:Program} {X:ExtT} (hX:ExtOK P X) {H:HL} {nid:Nat} {ev:Operand->SV} {o:Oper} {c:Call} (ho:o.op=.call c) {f:Operand} (hc:c.callee=.value f)
  (hf:ev f=one (.fn X.swp [])) {e:Eff} (h:xSwapper X H (c.args.toList.map ev)=some e):OpOK N P (hmap H) nid ev o e:=by
 generalize has:c.args.toList.map ev=as at h;unfold xSwapper at h;split at h
 ·rename_i t a;obtain⟨ax,hargs,hax⟩:=map_one has;have run:∀ {p:SlX} {n k fk:Nat},slFind X.sl t=some p->lenW H a=some n->(∀ i ie ke,P.info? p.t=some i->P.info? p.e=some ie->(∀ w,(kind p.e).run P w=.ok ke w)->2<swapperK 2 ie ke ->
    P.funcs.findIdx? (·.name == "internal/reflectlite" ++ ".Swapper$" ++ toString (swapperK 2 ie ke))=some p.fk->P.funcs.findIdx? (·.name == "internal/reflectlite" ++ ".Swapper$" ++ toString (swapperK n ie ke))=some fk/\(decide (swapperK n ie ke<=2)=decide (n<2))) ->
    ∀ {G:Ghost} {κ:Kap} {hf':Hp} {w:World} {ac:Act},(∀ l b,hmap H l=some b->hf' l=some b)->Rel N G κ hf' w->(∀ x,svR N G κ (ev x) (ac.eval x)) ->
    ∃ q cp,AR N G κ a [.slice q n cp]/\(execOp ac.eval o).run P w=.ok (.value (.func (.func fk) #[] (if n<2 then #[]else #[.slice q n cp,typeHandle P p.e]))) w:=by
   intro p n k fk hp hn hK G κ hf' w ac hH hr hev;obtain⟨hpm,rfl⟩:=slFind_ok hp;obtain⟨i,ie,ke,hi,hd,hpk,hie,hke,h2k,hf0,hf1,hfk⟩:=hX.sl _ hpm;have h1:=hev f;rw[hf]at h1;have h1:=one_val h1;simp only [AR,List.map_nil,List.cons.injEq,and_true]at h1;have h2:=hev ax;rw[hax]at h2;obtain⟨y,hy,h3⟩:=h2;obtain⟨q,cp,rfl⟩:=lenW_ok hH hr hn h3;refine⟨q,cp,h3,?_⟩;obtain⟨k1,k2⟩:=hK i ie ke hi hie hke h2k hfk;rw[exec_ext ho hc h1,hX.swp,hargs];have e1':(#[ax].map ac.eval ++ #[]:Array Value) = #[.iface p.t (.slice q n cp)]:=by simp [hy]
   rw[e1',run_swapper_slice p.t p.e i ie hi hd hie ke hke q n cp fk k1];have:(if swapperK n ie ke<=2 then(#[]:Array Value)else #[.slice q n cp,typeHandle P p.e])=if n<2 then #[]else #[.slice q n cp,typeHandle P p.e]:=by
    by_cases hn2:n<2
    ·rw[if_pos hn2,if_pos (by simpa [hn2] using k2)]
    ·rw[if_neg hn2,if_neg (by simpa [hn2] using k2)]
   rw[this];rfl
  split at h
  ·rename_i p hp hn;simp only [Option.some.injEq]at h;subst h;refine @OpOK.pure _ _ _ _ _ _ _ fun{G κ hf' w ac} hH hr hev=>?_
   obtain⟨q,cp,h1,h2⟩:=run (k:=0) (fk:=p.f0) hp hn (fun i ie ke _ _ _ _ _=>⟨by obtain⟨_,_,_,_,_,_,_,_,_,h0,_⟩:=hX.sl _ (slFind_ok hp).1;exact h0,rfl⟩) hH hr hev;exact⟨_,h2,AsR.one rfl⟩
  ·rename_i p hp hn;simp only [Option.some.injEq]at h;subst h;refine @OpOK.pure _ _ _ _ _ _ _ fun{G κ hf' w ac} hH hr hev=>?_
   obtain⟨q,cp,h1,h2⟩:=run (k:=0) (fk:=p.f1) hp hn (fun i ie ke _ _ _ _ _=>⟨by obtain⟨_,_,_,_,_,_,_,_,_,_,h0,_⟩:=hX.sl _ (slFind_ok hp).1;exact h0,rfl⟩) hH hr hev;exact⟨_,h2,AsR.one rfl⟩
  ·rename_i p n h0 h1 hp hn;split at h
   ·rename_i l wd;simp only [Option.some.injEq]at h;subst h;have hn2:2<=n:=by
     rcases n with _ | _ | n
     ·exact absurd rfl h0
     ·exact absurd rfl h1
     ·omega
    refine @OpOK.pure _ _ _ _ _ _ _ fun{G κ hf' w ac} hH hr hev=>?_
    obtain⟨q,cp,h1,h2⟩:=run (k:=0) (fk:=p.fk) hp hn (fun i ie ke _ _ _ h2k hfk=>⟨by rw[swapperK_two hn2];exact hfk,by
     rw[swapperK_two hn2];rw[decide_eq_false (by omega),decide_eq_false (by omega)]⟩) hH hr hev
    refine⟨_,h2,AsR.one ?_⟩;rw[if_neg (by omega)];simp only [AR,List.cons.injEq,and_true]at h1;simp only [AR,List.cons.injEq,and_true,typeHandle,hX.g,h1]
   ·contradiction
  ·contradiction
 ·contradiction
end Go.Abs
namespace Go.Abs
open Go.Lib Go.Extern Go.Extern.Rtype
theorem run_loadV{P:Program} {t:Nat} {e:TE} (h:teOk P t e=true) {w:World} {b o:Nat} {vs:List Value} (hl:vs.length=e.size) (hp:∀ v∈vs,Plain v)
  (hc:∀ j v,vs[j]? = some v->w.cell? ⟨b,o+j,none⟩=some v):∃ x,(loadVar t ⟨b,o,none⟩).run P w=.ok x w/\x.cells.toList=vs:=by
 have hadd:∀ j,(⟨b,o,none⟩:Addr).add j=⟨b,o+j,none⟩:=fun j=>Addr.add_lit b o j
 have hc':∀ j v,vs[j]? = some v->w.cell? ((⟨b,o,none⟩:Addr).add j)=some v:=fun j v e=>by rw[hadd];exact hc j v e
 have h1:=te_agg h w;have h2:=te_size h w;cases ha:e.agg with
 | true =>
  refine⟨.agg vs.toArray,?_,rfl⟩;have h3:=run_loadCells_list (P:=P) w ⟨b,o,none⟩ vs hc';rw[hl]at h3;simp [loadVar,h1,h2,ha,h3]
 | false =>
  have h4:=te_one h ha;rw[h4]at hl;obtain⟨v,rfl⟩:=List.length_eq_one_iff.1 hl;have hpv:=hp v (by simp);refine⟨v,?_,?_⟩
  ·have h3:=hc 0 v rfl;simp [loadVar,h1,ha]at h3 ⊢;rw[h3]
  ·cases v with
   | agg xs=>exact absurd rfl (hpv.1 xs)
   | _=>rfl
theorem run_storeV{P:Program} {t:Nat} {e:TE} (h:teOk P t e=true) {w:World} {b o:Nat} {cur:Array Value} {ty:Nat} (hb:w.heap[b]? = some (.cells cur ty (0,0)))
  {x:Value} {vs:List Value} (hx:x.cells.toList=vs) (hl:vs.length=e.size) (hp:∀ v∈vs,Plain v) (hfit:o+e.size<=cur.size) :
  (storeVar t ⟨b,o,none⟩ x).run P w=.ok () (w.setRow b (cur.toList.take o++(vs++cur.toList.drop (o+vs.length))).toArray):=by
 subst hx;have:=run_storeVar h hb hl hp hfit;rw[hl]
 simpa [Instr.storeAt,Instr.sureAddr] using this
theorem elems_put{N:NumSem} {G:Ghost} {ty:Ty} {xs:List ty.den} {i:Nat} {y:ty.den} {cs vs:List Value} (hel:Elems N G ty xs cs) (hi:i<xs.length) (hl:xs.length*ty.w<=cs.length) (hd:DR N G ty y vs) :
  Elems N G ty (xs.set i y) (cs.take (i*ty.w)++(vs++cs.drop (i*ty.w+vs.length))):=by
 have hvl:=hd.len;have hiw:i*ty.w+vs.length<=cs.length:=by
  have:=Nat.mul_le_mul_right ty.w (show i+1<=xs.length by omega);rw[Nat.add_mul,Nat.one_mul]at this;omega
 intro i' x' hx'
 by_cases hii:i'=i
 ·subst hii;rw[List.getElem?_set_self hi]at hx';simp only [Option.some.injEq]at hx';subst hx';refine⟨vs,hd,fun j v hj=>?_⟩;have hjl:j<vs.length:=(List.getElem?_eq_some_iff.1 hj).1;rw[splice_get _ _ _ hiw,if_pos (by omega),Nat.add_sub_cancel_left];exact hj
 ·rw[List.getElem?_set_ne (fun h=>hii h.symm)]at hx';obtain⟨vs',hd',hvs'⟩:=hel i' x' hx';refine⟨vs',hd',fun j v hj=>?_⟩;have hjl:j<ty.w:=by rw[<- hd'.len];exact(List.getElem?_eq_some_iff.1 hj).1
  rw[splice_get _ _ _ hiw,if_neg ?_]
  ·exact hvs' j v hj
  ·rw[hvl];intro hc;rcases Nat.lt_or_gt_of_ne hii with hlt | hlt
   ·have:=Nat.mul_le_mul_right ty.w (show i'+1<=i by omega);rw[Nat.add_mul,Nat.one_mul]at this;omega
   ·have:=Nat.mul_le_mul_right ty.w (show i+1<=i' by omega);rw[Nat.add_mul,Nat.one_mul]at this;omega
theorem swap_put_len{cs vs:List Value} {o:Nat} (h:o+vs.length<=cs.length):(cs.take o++(vs++cs.drop (o+vs.length))).length=cs.length:=by
 simp only [List.length_append,List.length_take,List.length_drop];omega
theorem xSwap_ok{N:NumSem} {P:Program} {T:Tab} (hT:TabOk P T) {X:ExtT} (hX:ExtOK P X) {H:HL} {nid:Nat} {ev:Operand->SV} {o:Oper} {c:Call} (ho:o.op=.call c) {f:Operand} (hc:c.callee=.value f)
  {k l g el:Nat} (hf:ev f=one (.bfn k l g el)) {e:Eff} (h:xSwap T X H k l g el (c.args.toList.map ev)=some e):OpOK N P (hmap H) nid ev o e:=by
 unfold xSwap at h;cases hb:(X.sw.elem k&&Nat.beq g X.g)with
 | false=>rw[hb]at h;contradiction
 | true =>
  rw[hb]at h;simp only [Bool.and_eq_true]at hb;obtain⟨hk,hg⟩:=hb;have hg:=Nat.eq_of_beq_eq_true hg;subst hg;obtain⟨gS,hrunS⟩:=hX.sw k (by simpa [List.elem_eq_mem] using hk);obtain⟨z,hz,h⟩:=tfind_ok hT h;generalize has:c.args.toList.map ev=as at h;split at h
  ·rename_i i j el' ty xs mv hl;obtain⟨ai,aj,hargs,hai,haj⟩:=map_two has;cases hb2:(Nat.beq z.size ty.w&&(decide (0<=i)&&decide (0<=j)))with
   | false=>rw[hb2]at h;contradiction
   | true =>
    rw[hb2]at h;simp only [Bool.and_eq_true,decide_eq_true_eq]at hb2;obtain⟨hsz,hi0,hj0⟩:=hb2;have hsz:=Nat.eq_of_beq_eq_true hsz;simp only [cond_true]at h;split at h
    ·rename_i ys hys;unfold swapL at hys;split at hys
     ·rename_i a b hxi hxj;simp only [Option.some.injEq]at hys h;subst hys;subst h;have hil:i.toNat<xs.length:=(List.getElem?_eq_some_iff.1 hxi).1;have hjl:j.toNat<xs.length:=(List.getElem?_eq_some_iff.1 hxj).1;intro G κ hf' w ac next Q hH _ _ _ hr hev hn;have hfl:=hH l _ (hmap_some hl (by simp));obtain⟨cs,hw,hcs,hle,hel,_⟩:=hr.blk l _ hfl;have h1:=hev f;rw[hf]at h1;have h1:=one_val h1;simp only [AR,List.cons.injEq,and_true]at h1;have h2:=hev ai;rw[hai]at h2;have h2:=one_val h2;have h3:=hev aj;rw[haj]at h3;have h3:=one_val h3;simp only [AR,List.cons.injEq,and_true]at h2 h3;obtain⟨va,da,ca⟩:=hel _ _ hxi;obtain⟨vb,db,cb⟩:=hel _ _ hxj;have hla:=da.len;have hlb:=db.len;have hcl:xs.length*ty.w<=cs.toList.length:=by
       have:=Nat.mul_le_mul_right ty.w hle.2.1;simp;omega
      have fit:∀ n,n<xs.length->n*ty.w+ty.w<=cs.size:=fun n hn=>by
       have:=Nat.mul_le_mul_right ty.w (show n+1<=xs.length by omega);rw[Nat.add_mul,Nat.one_mul]at this;simp at hcl;omega
      have hi1:=fit _ hil;have hj1:=fit _ hjl;obtain⟨x,hx,hxc⟩:=run_loadV (P:=P) hz (w:=w) (b:=(κ l).1) (o:=0+i.toNat*z.size) (vs:=va) (by rw[hla,hsz]) (fun v hv=>da.plain v hv) (fun q v hq=>by
       rw[cell_of_heap hw,Nat.zero_add,hsz,<- Array.getElem?_toList];exact ca q v hq)
      obtain⟨y,hy,hyc⟩:=run_loadV (P:=P) hz (w:=w) (b:=(κ l).1) (o:=0+j.toNat*z.size) (vs:=vb) (by rw[hlb,hsz]) (fun v hv=>db.plain v hv) (fun q v hq=>by
       rw[cell_of_heap hw,Nat.zero_add,hsz,<- Array.getElem?_toList];exact cb q v hq)
      have s1:=run_storeV (P:=P) hz (o:=0+i.toNat*z.size) hw hyc (by rw[hlb,hsz]) (fun v hv=>db.plain v hv) (by rw[hsz];omega);generalize hc1:(cs.toList.take (0+i.toNat*z.size)++(vb++cs.toList.drop (0+i.toNat*z.size+vb.length)))=c1 at s1;have hc1l:c1.length=cs.toList.length:=by rw[<- hc1];exact swap_put_len (by rw[hlb,hsz];simp;omega)
      have hw1:(w.setRow (κ l).1 c1.toArray).heap[(κ l).1]? = some (.cells c1.toArray el' (0,0)):=setRow_heap _ _ _ _ _ _ hw;have s2:=run_storeV (P:=P) hz (o:=0+j.toNat*z.size) hw1 hxc (by rw[hla,hsz]) (fun v hv=>da.plain v hv) (by rw[hsz];simp at hc1l ⊢;omega);generalize hc2:((c1.toArray).toList.take (0+j.toNat*z.size)++(va++(c1.toArray).toList.drop (0+j.toNat*z.size+va.length)))=c2 at s2;have hc2l:c2.length=cs.toList.length:=by rw[<- hc2];exact(swap_put_len (by rw[hla,hsz];simp at hc1l ⊢;omega)).trans (by simpa using hc1l)
      have hw2:((w.setRow (κ l).1 c1.toArray).setRow (κ l).1 c2.toArray).heap[(κ l).1]? = some (.cells c2.toArray el' (0,0)):=setRow_heap _ _ _ _ _ _ hw1;have hadd:∀ n,(⟨(κ l).1,0,none⟩:Addr).add n=⟨(κ l).1,0+n,none⟩:=fun n=>Addr.add_lit _ _ _
      have hti:((κ l).2.2:Int)=xs.length:=by rw[hle.1]
      have hrun:(execOp ac.eval o).run P w=.ok (.value (.tuple #[])) ((w.setRow (κ l).1 c1.toArray).setRow (κ l).1 c2.toArray):=by
       rw[exec_ext ho hc h1,hrunS,hargs];have e1:(#[ai,aj].map ac.eval ++ #[.slice (some ⟨(κ l).1,0,none⟩) (κ l).2.2 (κ l).2.1,.pointer (some ⟨X.g,el,none⟩)]:Array Value)
         = #[.int .i64 i,.int .i64 j,.slice (some ⟨(κ l).1,0,none⟩) (κ l).2.2 (κ l).2.1,.pointer (some ⟨X.g,el,none⟩)]:=by simp [h2,h3]
       rw[e1,rl_swap];have i0:¬ (i<0):=by omega
       have i1:¬ (i>=((κ l).2.2:Int)):=by omega
       have j0:¬ (j<0):=by omega
       have j1:¬ (j>=((κ l).2.2:Int)):=by omega
       have hoh:(ofHandle (.pointer (some ⟨X.g,el,none⟩))).run P w=.ok el w:=by
        simp [ofHandle,handleType,hX.g]
       have hex:(ReflectliteSwapper.exchange el ⟨(κ l).1,0,none⟩ i.toNat j.toNat).run P w=.ok (.tuple #[]) ((w.setRow (κ l).1 c1.toArray).setRow (κ l).1 c2.toArray):=by
        have hs:=te_size hz;simp only [ReflectliteSwapper.exchange,Sem.run_bind,hs,Result.andThen_ok,hadd,hx,hy,s1,s2,Sem.run_pure]
       cases gS <;> simp [i0,i1,j0,j1,hoh,hex,Result.andThen]
      unfold Oper.wp;rw[hrun];have hown:∀ o v,G (κ l).1 o=some v->False:=fun o v eg=>hr.own l _ hfl o v eg
      have kp:∀ x,x≠(κ l).1->((w.setRow (κ l).1 c1.toArray).setRow (κ l).1 c2.toArray).heap[x]? = w.heap[x]?:=fun x hx=>by rw[setRow_other _ _ _ _ hx,setRow_other _ _ _ _ hx]
      obtain⟨k1,k2,k3,k4⟩:=setRow_keep w (κ l).1 c1.toArray;obtain⟨m1,m2,m3,m4⟩:=setRow_keep (w.setRow (κ l).1 c1.toArray) (κ l).1 c2.toArray;refine hn (.tuple #[]) G κ _ (Trans.turn (N:=N) l _ _ hfl G.le_refl (fun _ _ _ e=>.inl e) kp (m4.trans k4) (m1.trans k1) (m2.trans k2) (m3.trans k3)) (hr.turn l _ _ hfl G.le_refl (fun _ _ _ e=>.inl e) kp
       (fun o v eg=>(hown o v eg).elim) ⟨c2.toArray,hw2,?_,?_,?_,?_⟩ (fun o v eg=>(hown o v eg).elim) (by simp)) ⟨#[],rfl,rfl⟩ (fun _ _ _=>rfl)
      ·rw[<- hcs];simpa using hc2l
      ·simpa using hle
      ·have p1:=elems_put hel hil hcl db;rw[<- hsz,<- Nat.zero_add (i.toNat*z.size),hc1]at p1;have p2:=elems_put (cs:=c1) (i:=j.toNat) p1 (by simpa using hjl) (by rw[hc1l];simpa using hcl) da;rw[<- hsz,<- Nat.zero_add (j.toNat*z.size)]at p2;have e3:(c1.toArray).toList=c1:=rfl;rw[e3]at hc2;rw[hc2]at p2;exact p2
      ·intro hc;cases hc
     ·contradiction
    ·contradiction
  ·contradiction
def privL(H:HL):List Atom->List Nat
 | []=>[]
 | .wsl l _ :: r=>(match hget H l with | .arr _ _ _ false _=>l :: privL H r | _=>privL H r)
 | _ :: r=>privL H r
def privP(H:HL):List (Nat × SV)->List Nat
 | []=>[]
 | (_,.v _ as) :: r=>privL H as++privP H r
 | _ :: r=>privP H r
theorem privL_ok{H:HL}:∀ {as:List Atom},∀ l∈privL H as,∃ e t xs mv,hget H l=.arr e t xs false mv
 | [],l,h=>by simp [privL]at h
 | a :: r,l,h=>by
  have ih:=privL_ok (H:=H) (as:=r) l;unfold privL at h;split at h
  ·contradiction
  ·rename_i l' w r' he;cases he;split at h
   ·rename_i e t xs mv hl;rcases List.mem_cons.1 h with h | h
    ·subst h;exact⟨_,_,_,_,hl⟩
    ·exact ih h
   ·exact ih h
  ·rename_i r' _ he;cases he;exact ih h
theorem privP_ok{H:HL}:∀ {ps:List (Nat × SV)},∀ l∈privP H ps,∃ e t xs mv,hget H l=.arr e t xs false mv
 | [],l,h=>by simp [privP]at h
 | p :: r,l,h=>by
  have ih:=privP_ok (H:=H) (ps:=r) l;unfold privP at h;split at h
  ·contradiction
  ·rename_i i g as r' he;cases he;rcases List.mem_append.1 h with h | h
   ·exact privL_ok l h
   ·exact ih h
  ·rename_i r' _ he;cases he;exact ih h
def xLitS(T:Tab) (H:HL) (nid t n:Nat) (ps:List (Nat × SV)):Option Eff:=
 match privP H ps with
 | []=>none
 | x :: S=>opLit T (closeH H (x :: S)) nid t n ps fun e=>some { val:=e.val,sets:=closeL H (x :: S)++e.sets,new:=e.new,moved:=e.moved }
theorem closeL_keys(H:HL):∀ (S:List Nat) (l:Nat),l∈(closeL H S).map (·.1)->l∈S
 | [],l,h=>by simp [closeL]at h
 | x :: r,l,h=>by
  simp only [closeL,List.map_cons,List.mem_cons]at h ⊢;rcases h with h | h
  ·exact .inl h
  ·exact .inr (closeL_keys H r l h)
theorem xLitS_ok{N:NumSem} {P:Program} {T:Tab} (hT:TabOk P T) {H:HL} {nid:Nat} {ev:Operand->SV} {o:Oper} {t n:Nat} {parts:Array (Nat × Operand)} {e:Eff}
  (ho:o.op=.buildSlice t n parts) (h:xLitS T H nid t n (parts.toList.map fun p=>(p.1,ev p.2))=some e):OpOK N P (hmap H) nid ev o e:=by
 unfold xLitS at h;split at h
 ·contradiction
 ·rename_i x S0 hpS;have hS:∀ l∈x :: S0,∃ e t xs mv,hget H l=.arr e t xs false mv:=fun l hl=>privP_ok l (by rw[hpS];exact hl)
  generalize x :: S0=S at h hS;clear hpS;obtain⟨e0,he0,hok⟩:=opLit_ok (N:=N) (P:=P) (H:=closeH H S) (nid:=nid) (ev:=ev) hT ho h;simp only [Option.some.injEq]at he0;subst he0;intro G κ hf w a next Q hH hfree hno hmv hr hev hn;simp only at hfree hno hmv hn;have hlive:∀ l∈S,hf l=(hget H l).opt/\hf l≠none:=fun l hl=>by
   obtain⟨e,t,xs,mv,hb⟩:=hS l hl;have:=hH l _ (hmap_mk hb (by simp));rw[this,hb];exact⟨rfl,by simp⟩
  obtain⟨G1,t1,r1,_⟩:=seal_all (H:=H) S hr fun l hl=>.inl (hlive l hl).1
  have hget1:∀ l as,closeF H S hf l=some (.var as)->l ∉ S/\hf l=some (.var as):=fun l as hl=>by
   rw[closeF_get]at hl;split at hl
   ·cases hb:hget H l <;> rw[hb]at hl <;> simp [closeB,Blk.opt]at hl
   ·rename_i hn;exact⟨hn,hl⟩
  have happ:∀ (hf:Hp),Eff.app { val:=e0.val,sets:=closeL H S++e0.sets,new:=e0.new,moved:=e0.moved } hf=e0.app (closeF H S hf):=fun hf=>by
   unfold Eff.app;rw[List.foldl_append];rw[show (closeL H S).foldl (fun h p=>h.set p.1 p.2) hf=closeF H S hf from setAllF_fold _ _]
  refine hok (hf:=closeF H S hf) (fun l b hl=>?_) (fun i hi=>?_) (fun i hi l as hl=>hno i hi l as (hget1 l as hl).2) (fun i hi l as hl hk=>hmv i hi l as (hget1 l as hl).2 fun hin=>?_) r1 (fun x=>(hev x).mono t1.gle fun _ _=>rfl) (fun v G' κ' w' ht' hr' hv hκ=>?_)
  ·obtain⟨h1,h2⟩:=hmap_eq hl;rw[closeH_get]at h1;rw[closeF_get];split at h1
   ·rename_i hin;rw[if_pos hin,h1];cases b <;> first | rfl | exact absurd rfl h2
   ·rename_i hin;rw[if_neg hin];exact hH l b (hmap_mk h1 h2)
  ·rw[closeF_get,if_neg (fun hin=>(hlive _ hin).2 (hfree i hi))];exact hfree i hi
  ·rw[List.map_append,List.mem_append]at hin;rcases hin with hin | hin
   ·exact(hget1 l as hl).1 (closeL_keys H S l hin)
   ·exact hk hin
  ·rw[<- happ]at ht' hr';exact hn v G' κ' w' (Trans.trans (h1:=closeF H S hf) t1 (by rw[happ]at ht';exact ht') |> fun t=>by rw[happ];exact t) hr' hv hκ
structure XT where
 maps:MapTab:=[]
 vs:List Nat:=[]
 arrs:ArrTab:=[]
 strs:List (Nat × Nat):=[]
 ext:ExtT
def xop(T:Tab) (X:XT) (H:HL) (nid:Nat) (ev:Operand->SV) (op:Op):Option Eff:=
 match op with
 | .makeMap _ none=>xMakeMap nid
 | .buildSlice t n ps=>xLitS T H nid t n (ps.toList.map fun p=>(p.1,ev p.2))
 | .lookup t x k ok=>xLookup T X.maps H t (ev x) (ev k) ok
 | .mapUpdate t x k v=>xUpdate X.maps H t (ev x) (ev k) (ev v)
 | .insert t x k v=>xUpdate X.maps H t (ev x) (ev k) (ev v)
 | .binOp op _ x y _=>xConcat op (ev x) (ev y)
 | .makeInterface t x=>xIface T t (ev x)
 | .makeSlice t l c=>xMakeV T X.vs nid t (ev l) (ev c)
 | .indexAddr t x i=>xIndexA T t (ev x) (ev i)
 | .slice t x lo none none=>xSliceA X.arrs t (ev x) (lo.map ev)
 | .convert s d x=>xConvA X.strs H s d (ev x)
 | .call c=>(match c.callee with
  | .builtin .len=>(match c.args.toList,c.argTypes.toList with
   | [x],[t]=>xLenA T t (ev x)
   | _,_=>none)
  | _=>xCall T X.ext H nid ev c)
 | _=>none
structure XTOK (P:Program) (X:XT):Prop where
 maps:∀ p∈X.maps,MapOK P p
 arrs:∀ p∈X.arrs,ArrOK P p
 strs:∀ p∈X.strs,StrOK P p
 ext:ExtOK P X.ext
theorem xop_ok{N:NumSem} {P:Program} {T:Tab} (hT:TabOk P T) {X:XT} (hX:XTOK P X):XOK N P (xop T X):=by
 intro H nid ev o e h;generalize ho:o.op=op at h;cases op <;> simp only [xop]at h <;> try contradiction
 case makeMap t r =>
  cases r with
  | none=>exact fun{G κ hf w a next Q}=>xMakeMap_ok ho h
  | some r=>contradiction
 case buildSlice t n ps=>exact fun{G κ hf w a next Q}=>xLitS_ok hT ho h
 case lookup t x k ok=>exact fun{G κ hf w a next Q}=>xLookup_ok hT hX.maps ho h
 case mapUpdate t x k v=>exact fun{G κ hf w a next Q}=>xUpdate_ok hX.maps (.inl ho) h
 case insert t x k v=>exact fun{G κ hf w a next Q}=>xUpdate_ok hX.maps (.inr ho) h
 case binOp op t x y u=>exact fun{G κ hf w a next Q}=>xConcat_ok ho h
 case makeInterface t x=>exact fun{G κ hf w a next Q}=>xIface_ok hT ho h
 case makeSlice t l c=>exact fun{G κ hf w a next Q}=>xMakeV_ok hT ho h
 case indexAddr t x i=>exact fun{G κ hf w a next Q}=>xIndexA_ok hT ho h
 case slice t x lo hi mx =>
  cases hi with
  | some _=>contradiction
  | none =>
   cases mx with
   | some _=>contradiction
   | none=>exact fun{G κ hf w a next Q}=>xSliceA_ok hX.arrs ho h
 case convert s d x=>exact fun{G κ hf w a next Q}=>xConvA_ok hX.strs ho h
 case call c =>
  split at h
  ·rename_i hcal;split at h
   ·rename_i x t h1 h2;obtain⟨callee,args,argTypes⟩:=c;simp only at hcal h1 h2;have e1:=toList_one h1;have e2:=toList_one h2;subst e1;subst e2;subst hcal;exact fun{G κ hf w a next Q}=>xLenA_ok hT ho h
   ·contradiction
  ·unfold xCall at h;split at h
   ·rename_i f hcal;split at h
    ·rename_i k hk;cases h1:Nat.beq k X.ext.val with
     | true =>
      rw[h1]at h;have:=Nat.eq_of_beq_eq_true h1;subst this;exact fun{G κ hf w a next Q}=>xValueOf_ok hX.ext ho hcal hk h
     | false =>
      rw[h1]at h;simp only [cond_false]at h;cases h2:Nat.beq k X.ext.len with
      | true =>
       rw[h2]at h;have:=Nat.eq_of_beq_eq_true h2;subst this;exact fun{G κ hf w a next Q}=>xLenX_ok hX.ext ho hcal hk h
      | false =>
       rw[h2]at h;simp only [cond_false]at h;cases h3:Nat.beq k X.ext.swp with
       | true =>
        rw[h3]at h;have:=Nat.eq_of_beq_eq_true h3;subst this;exact fun{G κ hf w a next Q}=>xSwapper_ok hX.ext ho hcal hk h
       | false=>rw[h3]at h;contradiction
    ·rename_i k l g el hk;exact fun{G κ hf w a next Q}=>xSwap_ok hT hX.ext ho hcal hk h
    ·contradiction
   ·contradiction
end Go.Abs

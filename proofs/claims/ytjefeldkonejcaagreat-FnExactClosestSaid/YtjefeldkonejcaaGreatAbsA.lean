/-
 A PART OF THE PROOF of ClI (texts AbsA AbsB AbsC): the claim itself stands in the last text. No conditions beside those of the given row.
-/
import Derived.Calls
import Derived.LoopN
import Derived.Orders
import Derived.Laws.AppendOwn
import Derived.Laws.Cells
import Derived.Laws.MakeOwn
import Derived.Deep.Draws
import Derived.Laws.CopyRow
import Derived.Laws.Entries
set_option linter.unusedVariables false
set_option linter.unnecessarySimpa false
set_option linter.unusedSimpArgs false
namespace Go.Abs
inductive Tw where
 | nil
 | node (b:(Rat × Rat × Rat) × (Rat × Rat × Rat)) (l r:Tw) (it:Int)
inductive Ty where
 | int (k:IntKind) | bool | str | num (tag:Nat) | big (tag:Nat) | list (t:Ty) | pair (a b:Ty) | unit | ip (t:Ty)
 deriving DecidableEq
@[reducible] def Ty.den:Ty->Type
 | .int _=>Int
 | .bool=>Bool
 | .str=>ByteArray
 | .num _=>Rat
 | .big _=>Tw
 | .list t=>List t.den
 | .pair a b=>a.den × b.den
 | .unit=>Unit
 | .ip t=>t.den
def bigW:Nat->Nat
 | 0=>1
 | _=>3
def Ty.w:Ty->Nat
 | .int _ | .bool | .str | .list _ | .ip _=>1
 | .num _=>3
 | .big k=>bigW k
 | .pair a b=>a.w+b.w
 | .unit=>0
abbrev Ghost:=Nat->Nat->Option Value
def Ghost.le(G G':Ghost):Prop:=∀ b o v,G b o=some v->G' b o=some v
theorem Ghost.le_refl(G:Ghost):G.le G:=fun _ _ _ h=>h
theorem Ghost.le_trans{G G' G'':Ghost} (h:G.le G') (h':G'.le G''):G.le G'':=fun b o v e=>h' b o v (h b o v e)
structure NumSem where
 num:Nat->Ghost->Rat->List Value->Prop
 big:Nat->Ghost->Tw->List Value->Prop
 num_len:∀ {k G q cs},num k G q cs->cs.length=3
 big_len:∀ {k G q cs},big k G q cs->cs.length=bigW k
 num_mono:∀ {k G G' q cs},G.le G'->num k G q cs->num k G' q cs
 big_mono:∀ {k G G' q cs},G.le G'->big k G q cs->big k G' q cs
 num_plain:∀ {k G q cs},num k G q cs->∀ v∈cs,(∀ xs,v ≠ .agg xs)/\(∀ xs,v ≠ .tuple xs)
 big_nil:∀ {G},big 0 G .nil [.pointer none]
 big_nil':∀ {G cs},big 0 G .nil cs->cs=[.pointer none]
 big1:∀ {G},big 1 G .nil [.int .i64 0,.int .i64 0,.slice none 0 0]
 big_node:∀ {G b l r it cs},big 0 G (.node b l r it) cs->∃ p,cs=[.pointer (some p)]
 big_plain:∀ {k G q cs},big k G q cs->∀ v∈cs,(∀ xs,v ≠ .agg xs)/\(∀ xs,v ≠ .tuple xs)
 isHeld:Nat->Bool:=fun _=>false
 heldIs:Nat->Obj->Prop:=fun _ _=>True
def At(G:Ghost) (b o:Nat) (vs:List Value):Prop:=∀ j v,vs[j]? = some v->G b (o+j)=some v
theorem At.mono{G G':Ghost} (h:G.le G') {b o:Nat} {vs:List Value} (ha:At G b o vs):At G' b o vs:=fun j v e=>h _ _ _ (ha j v e)
def SlR{α:Type} (G:Ghost) (w:Nat) (E:α->List Value->Prop) (xs:List α) (v:Value):Prop:=
 (v=.slice none 0 0/\xs=[]) \/
 ∃ b o c,v=.slice (some ⟨b,o,none⟩) xs.length c/\xs.length<=c /\ ∀ i x,xs[i]? = some x->∃ vs,E x vs/\vs.length=w/\At G b (o+i*w) vs
def DR(N:NumSem) (G:Ghost):(t:Ty)->t.den->List Value->Prop
 | .int k,n,cs=>cs=[.int k n]
 | .bool,b,cs=>cs=[.bool b]
 | .str,s,cs=>cs=[.string s]
 | .num k,q,cs=>N.num k G q cs
 | .big k,q,cs=>N.big k G q cs
 | .list t,xs,cs=>∃ v,cs=[v]/\SlR G t.w (DR N G t) xs v
 | .pair a b,x,cs=>∃ c d,cs=c++d/\DR N G a x.1 c/\DR N G b x.2 d
 | .unit,_,cs=>cs=[]
 | .ip t,x,cs=>∃ b o vs,cs=[.pointer (some ⟨b,o,none⟩)]/\DR N G t x vs/\At G b o vs
theorem DR.len{N:NumSem} {G:Ghost}:∀ {t:Ty} {x:t.den} {cs:List Value},DR N G t x cs->cs.length=t.w
 | .int k,n,cs,h=>by simp only [DR]at h;subst h;rfl
 | .bool,n,cs,h=>by simp only [DR]at h;subst h;rfl
 | .str,n,cs,h=>by simp only [DR]at h;subst h;rfl
 | .num k,q,cs,h=>N.num_len h
 | .big k,q,cs,h=>N.big_len h
 | .list t,xs,cs,h=>by obtain⟨v,h,_⟩:=h;subst h;rfl
 | .pair a b,x,cs,h=>by
  obtain⟨c,d,h,h1,h2⟩:=h;subst h;simp [Ty.w,DR.len h1,DR.len h2]
 | .unit,_,cs,h=>by simp only [DR]at h;subst h;rfl
 | .ip t,x,cs,h=>by obtain⟨b,o,vs,h,_⟩:=h;subst h;rfl
theorem SlR.mono{α:Type} {G G':Ghost} (hG:G.le G') {w:Nat} {E E':α->List Value->Prop} (hE:∀ x vs,E x vs->E' x vs)
  {xs:List α} {v:Value} (h:SlR G w E xs v):SlR G' w E' xs v:=by
 rcases h with h | ⟨b,o,c,h1,h2,h3⟩
 ·exact .inl h
 ·refine .inr ⟨b,o,c,h1,h2,fun i x e=>?_⟩;obtain⟨vs,a,b,c⟩:=h3 i x e;exact⟨vs,hE _ _ a,b,c.mono hG⟩
theorem DR.mono{N:NumSem} {G G':Ghost} (hG:G.le G'):∀ {t:Ty} {x:t.den} {cs:List Value},DR N G t x cs->DR N G' t x cs
 | .int k,n,cs,h=>h
 | .bool,n,cs,h=>h
 | .str,n,cs,h=>h
 | .num k,q,cs,h=>N.num_mono hG h
 | .big k,q,cs,h=>N.big_mono hG h
 | .list t,xs,cs,h=>by
  obtain⟨v,h,h2⟩:=h;exact⟨v,h,h2.mono hG fun x vs=>DR.mono hG⟩
 | .pair a b,x,cs,h=>by
  obtain⟨c,d,h,h1,h2⟩:=h;exact⟨c,d,h,DR.mono hG h1,DR.mono hG h2⟩
 | .unit,_,cs,h=>h
 | .ip t,x,cs,h=>by
  obtain⟨b,o,vs,h,h1,h2⟩:=h;exact⟨b,o,vs,h,DR.mono hG h1,h2.mono hG⟩
def Plain(v:Value):Prop:=(∀ xs,v ≠ .agg xs)/\(∀ xs,v ≠ .tuple xs)
theorem DR.plain{N:NumSem} {G:Ghost}:∀ {t:Ty} {x:t.den} {cs:List Value},DR N G t x cs->∀ v∈cs,Plain v
 | .int k,n,cs,h=>by simp only [DR]at h;subst h;simp [Plain]
 | .bool,n,cs,h=>by simp only [DR]at h;subst h;simp [Plain]
 | .str,n,cs,h=>by simp only [DR]at h;subst h;simp [Plain]
 | .num k,q,cs,h=>N.num_plain h
 | .big k,q,cs,h=>N.big_plain h
 | .list t,xs,cs,h=>by
  obtain⟨v,h,h2⟩:=h;subst h;rcases h2 with ⟨h2,_⟩ | ⟨b,o,c,h2,_⟩ <;> subst h2 <;> simp [Plain]
 | .pair a b,x,cs,h=>by
  obtain⟨c,d,h,h1,h2⟩:=h;subst h;intro v hv;rcases List.mem_append.1 hv with hv | hv
  ·exact DR.plain h1 v hv
  ·exact DR.plain h2 v hv
 | .unit,_,cs,h=>by simp only [DR]at h;subst h;simp
 | .ip t,x,cs,h=>by obtain⟨b,o,vs,h,_⟩:=h;subst h;simp [Plain]
inductive Atom where
 | int (k:IntKind) (n:Int) | bool (b:Bool) | str (s:ByteArray)
 | num (tag:Nat) (o:Option Rat)
 | big (tag:Nat) (n:Tw)
 | nilp | nils
 | sl (nil:Option Bool) (t:Ty) (xs:List t.den)
 | ip (t:Ty) (x:t.den) (off:Nat)
 | ptr (l off:Nat)
 | eptr (l w i off:Nat)
 | osl (l w off len:Nat)
 | wsl (l w:Nat)
 | fn (f:Nat) (caps:List (Nat × Nat))
 | adr (b o:Nat) | mk | mp (l:Nat) | asl (l o n c:Nat) | bfn (f l b o:Nat)
 | undef
def numZ:Nat->List Value
 | 0=>[.int .i64 0,.int .i64 0,.pointer none]
 | _=>[.int .i64 0,.int .i64 0,.slice none 0 0]
abbrev Kap:=Nat->Nat × Nat × Nat
def Atom.w:Atom->Nat
 | .num ..=>3
 | .big k _=>bigW k
 | _=>1
def AR(N:NumSem) (G:Ghost) (κ:Kap):Atom->List Value->Prop
 | .int k n,cs=>cs=[.int k n]
 | .bool b,cs=>cs=[.bool b]
 | .str s,cs=>cs=[.string s]
 | .num k none,cs=>cs=numZ k
 | .num k (some q),cs=>N.num k G q cs
 | .big k n,cs=>N.big k G n cs
 | .nilp,cs=>cs=[.pointer none]
 | .nils,cs=>cs=[.slice none 0 0]
 | .sl nil t xs,cs=>∃ v,cs=[v]/\SlR G t.w (DR N G t) xs v/\(nil=some true->v=.slice none 0 0)/\(nil=some false->v ≠ .slice none 0 0)
 | .ip t x off,cs=>∃ b o vs,cs=[.pointer (some ⟨b,o+off,none⟩)]/\DR N G t x vs/\At G b o vs
 | .eptr l w i off,cs=>cs=[.pointer (some ⟨(κ l).1,i*w+off,none⟩)]
 | .ptr l off,cs=>cs=[.pointer (some ⟨(κ l).1,off,none⟩)]
 | .osl l w off len,cs=>∃ o,cs=[.slice (some ⟨(κ l).1,o,none⟩) len ((κ l).2.1-off)]/\(off<(κ l).2.1\/off=0->o=off*w)/\off+len<=(κ l).2.1/\off+len<=(κ l).2.2
 | .wsl l w,cs=>cs=[.slice (some ⟨(κ l).1,0,none⟩) (κ l).2.2 (κ l).2.1]
 | .fn f caps,cs=>cs=[.func (.func f) #[] (caps.map fun c=>.pointer (some ⟨(κ c.1).1,c.2,none⟩)).toArray]
 | .adr b o,cs=>cs=[.pointer (some ⟨b,o,none⟩)]
 | .mk,cs=>cs=[.map none]
 | .mp l,cs=>cs=[.map (some (κ l).1)]
 | .asl l o n c,cs=>cs=[.slice (some ⟨(κ l).1,o,none⟩) n c]
 | .bfn f l b o,cs=>cs=[.func (.func f) #[] #[.slice (some ⟨(κ l).1,0,none⟩) (κ l).2.2 (κ l).2.1,.pointer (some ⟨b,o,none⟩)]]
 | .undef,cs=>∃ v,cs=[v]/\Plain v
theorem numZ_len(k:Nat):(numZ k).length=3:=by unfold numZ;split <;> rfl
theorem AR.len{N:NumSem} {G:Ghost} {κ:Kap} {a:Atom} {cs:List Value} (h:AR N G κ a cs):cs.length=a.w:=by
 cases a with
 | num k o =>
  cases o with
  | none=>simp only [AR]at h;subst h;exact numZ_len k
  | some q=>exact N.num_len h
 | big k n=>exact N.big_len h
 | sl nil t xs=>obtain⟨v,h,_⟩:=h;subst h;rfl
 | ip t x off=>obtain⟨b,o,vs,h,_⟩:=h;subst h;rfl
 | osl=>obtain⟨o,h,_⟩:=h;subst h;rfl
 | undef=>obtain⟨o,h,_⟩:=h;subst h;rfl
 | _=>simp only [AR]at h;subst h;rfl
theorem AR.plain{N:NumSem} {G:Ghost} {κ:Kap} {a:Atom} {cs:List Value} (h:AR N G κ a cs):∀ v∈cs,Plain v:=by
 cases a with
 | num k o =>
  cases o with
  | none=>simp only [AR]at h;subst h;unfold numZ;split <;> simp [Plain]
  | some q=>exact N.num_plain h
 | big k n=>exact N.big_plain h
 | sl nil t xs =>
  obtain⟨v,h,h2,_⟩:=h;subst h;rcases h2 with ⟨h2,_⟩ | ⟨b,o,c,h2,_⟩ <;> subst h2 <;> simp [Plain]
 | ip t x off=>obtain⟨b,o,vs,h,_⟩:=h;subst h;simp [Plain]
 | osl=>obtain⟨o,h,_⟩:=h;subst h;simp [Plain]
 | undef=>obtain⟨o,h,hp⟩:=h;subst h;simpa using hp
 | _=>simp only [AR]at h;subst h;simp [Plain]
def Atom.ids:Atom->List Nat
 | .ptr l _=>[l]
 | .eptr l _ _ _=>[l]
 | .osl l _ _ _=>[l]
 | .wsl l _=>[l]
 | .fn _ caps=>caps.map (·.1)
 | .mp l=>[l]
 | .asl l _ _ _=>[l]
 | .bfn _ l _ _=>[l]
 | _=>[]
theorem AR.mono{N:NumSem} {G G':Ghost} {κ κ':Kap} (hG:G.le G') {a:Atom} (hκ:∀ l∈a.ids,κ' l=κ l) {cs:List Value}
  (h:AR N G κ a cs):AR N G' κ' a cs:=by
 cases a with
 | num k o =>
  cases o with
  | none=>exact h
  | some q=>exact N.num_mono hG h
 | big k n=>exact N.big_mono hG h
 | sl nil t xs =>
  obtain⟨v,h,h2,h3⟩:=h;exact⟨v,h,h2.mono hG fun x vs=>DR.mono hG,h3⟩
 | ip t x off =>
  obtain⟨b,o,vs,h,h1,h2⟩:=h;exact⟨b,o,vs,h,DR.mono hG h1,h2.mono hG⟩
 | eptr l w i off =>
  have:=hκ l (by simp [Atom.ids])
  simpa [AR,this] using h
 | ptr l off =>
  have:=hκ l (by simp [Atom.ids])
  simpa [AR,this] using h
 | osl l w off len =>
  have:=hκ l (by simp [Atom.ids])
  simpa [AR,this] using h
 | wsl l w =>
  have:=hκ l (by simp [Atom.ids])
  simpa [AR,this] using h
 | mp l =>
  have:=hκ l (by simp [Atom.ids])
  simpa [AR,this] using h
 | asl l o n c =>
  have:=hκ l (by simp [Atom.ids])
  simpa [AR,this] using h
 | bfn f l b o =>
  have:=hκ l (by simp [Atom.ids])
  simpa [AR,this] using h
 | fn f caps =>
  simp only [AR]at h ⊢;subst h;have:(caps.map fun c=>Value.pointer (some ⟨(κ' c.1).1,c.2,none⟩))=caps.map fun c=>Value.pointer (some ⟨(κ c.1).1,c.2,none⟩):=
   List.map_congr_left fun c hc=>by rw[hκ c.1 (by simp only [Atom.ids];exact List.mem_map.2 ⟨c,hc,rfl⟩)]
  rw[this]
 | _=>exact h
def AsR(N:NumSem) (G:Ghost) (κ:Kap):List Atom->List Value->Prop
 | [],cs=>cs=[]
 | a :: as,cs=>∃ c d,cs=c++d/\AR N G κ a c/\AsR N G κ as d
def aw(as:List Atom):Nat:=(as.map Atom.w).sum
def aids(as:List Atom):List Nat:=as.flatMap Atom.ids
theorem AsR.len{N:NumSem} {G:Ghost} {κ:Kap}:∀ {as:List Atom} {cs:List Value},AsR N G κ as cs->cs.length=aw as
 | [],cs,h=>by simp only [AsR]at h;subst h;rfl
 | a :: as,cs,h=>by
  obtain⟨c,d,h,h1,h2⟩:=h;subst h;simp [aw,h1.len,AsR.len h2]
theorem AsR.plain{N:NumSem} {G:Ghost} {κ:Kap}:∀ {as:List Atom} {cs:List Value},AsR N G κ as cs->∀ v∈cs,Plain v
 | [],cs,h=>by simp only [AsR]at h;subst h;simp
 | a :: as,cs,h=>by
  obtain⟨c,d,h,h1,h2⟩:=h;subst h;intro v hv;rcases List.mem_append.1 hv with hv | hv
  ·exact h1.plain v hv
  ·exact h2.plain v hv
theorem AsR.mono{N:NumSem} {G G':Ghost} {κ κ':Kap} (hG:G.le G'):∀ {as:List Atom},(∀ l∈aids as,κ' l=κ l)->∀ {cs:List Value},
  AsR N G κ as cs->AsR N G' κ' as cs
 | [],_,cs,h=>h
 | a :: as,hκ,cs,h=>by
  obtain⟨c,d,h,h1,h2⟩:=h;exact⟨c,d,h,h1.mono hG fun l hl=>hκ l (by simp [aids];exact .inl hl),AsR.mono hG (fun l hl=>hκ l (by simp [aids]at hl ⊢;exact .inr hl)) h2⟩
theorem AsR.append{N:NumSem} {G:Ghost} {κ:Kap}:∀ {as bs:List Atom} {c d:List Value},AsR N G κ as c->AsR N G κ bs d->AsR N G κ (as++bs) (c++d)
 | [],bs,c,d,h,h'=>by simp only [AsR]at h;subst h;exact h'
 | a :: as,bs,c,d,h,h'=>by
  obtain⟨c1,c2,h,h1,h2⟩:=h;subst h;exact⟨c1,c2++d,by simp,h1,AsR.append h2 h'⟩
theorem AsR.split{N:NumSem} {G:Ghost} {κ:Kap}:∀ {as bs:List Atom} {cs:List Value},AsR N G κ (as++bs) cs ->
  ∃ c d,cs=c++d/\AsR N G κ as c/\AsR N G κ bs d
 | [],bs,cs,h=>⟨[],cs,rfl,rfl,h⟩
 | a :: as,bs,cs,h=>by
  obtain⟨c1,c2,h,h1,h2⟩:=h;obtain⟨d1,d2,h',h3,h4⟩:=AsR.split h2;subst h;subst h';exact⟨c1++d1,d2,by simp,⟨c1,d1,rfl,h1,h3⟩,h4⟩
theorem AsR.one{N:NumSem} {G:Ghost} {κ:Kap} {a:Atom} {cs:List Value} (h:AR N G κ a cs):AsR N G κ [a] cs:=
 ⟨cs,[],by simp,h,rfl⟩
theorem AsR.one_inv{N:NumSem} {G:Ghost} {κ:Kap} {a:Atom} {cs:List Value} (h:AsR N G κ [a] cs):AR N G κ a cs:=by
 obtain⟨c,d,h,h1,h2⟩:=h;simp only [AsR]at h2;subst h2;simp at h;exact h ▸ h1
def enc:(t:Ty)->t.den->List Atom
 | .int k,n=>[.int k n]
 | .bool,b=>[.bool b]
 | .str,s=>[.str s]
 | .num k,q=>[.num k (some q)]
 | .big k,q=>[.big k q]
 | .list t,xs=>[.sl none t xs]
 | .pair a b,x=>enc a x.1++enc b x.2
 | .unit,_=>[]
 | .ip t,x=>[.ip t x 0]
theorem enc_ok{N:NumSem} {G:Ghost} {κ:Kap}:∀ {t:Ty} {x:t.den} {cs:List Value},DR N G t x cs->AsR N G κ (enc t x) cs
 | .int k,n,cs,h=>.one h
 | .bool,n,cs,h=>.one h
 | .str,n,cs,h=>.one h
 | .num k,q,cs,h=>.one h
 | .big k,q,cs,h=>.one h
 | .list t,xs,cs,h=>by
  obtain⟨v,h,h2⟩:=h;exact .one ⟨v,h,h2,by simp,by simp⟩
 | .pair a b,x,cs,h=>by
  obtain⟨c,d,h,h1,h2⟩:=h;subst h;exact(enc_ok h1).append (enc_ok h2)
 | .unit,_,cs,h=>h
 | .ip t,x,cs,h=>.one h
def castDen{t t':Ty} (h:t=t') (x:t.den):t'.den:=h ▸ x
def dec{ρ:Type}:(t:Ty)->List Atom->(t.den->List Atom->Option ρ)->Option ρ
 | .int k,.int k' n :: r,f=>if k'=k then f n r else none
 | .bool,.bool b :: r,f=>f b r
 | .str,.str s :: r,f=>f s r
 | .num k,.num k' (some q) :: r,f=>if k'=k then f q r else none
 | .big k,.big k' q :: r,f=>if k'=k then f q r else none
 | .big 0,.nilp :: r,f=>f .nil r
 | .list t,.sl _ t' xs :: r,f=>if h:t'=t then f (castDen (congrArg Ty.list h) xs) r else none
 | .list _,.nils :: r,f=>f [] r
 | .pair a b,as,f=>dec a as fun x r=>dec b r fun y r=>f (x,y) r
 | .unit,as,f=>f () as
 | .ip t,.ip t' x 0 :: r,f=>if h:t'=t then f (castDen (congrArg Ty.ip h) x) r else none
 | _,_,_=>none
theorem dec_ok{N:NumSem} {G:Ghost} {κ:Kap} {ρ:Type}:∀ {t:Ty} {as:List Atom} {f:t.den->List Atom->Option ρ} {r:ρ},dec t as f=some r ->
  ∀ {cs:List Value},AsR N G κ as cs->∃ x bs c d,f x bs=some r/\cs=c++d/\DR N G t x c/\AsR N G κ bs d:=by
 intro t
 induction t with
 | int k =>
  intro as f r h cs hc;unfold dec at h;split at h <;> try contradiction
  all_goals rename_i heq;try cases heq
  obtain⟨c,d,e,h1,h2⟩:=hc;split at h <;> try contradiction
  rename_i hk;subst hk;exact⟨_,_,c,d,h,e,h1,h2⟩
 | bool =>
  intro as f r h cs hc;unfold dec at h;split at h <;> try contradiction
  all_goals rename_i heq;try cases heq
  obtain⟨c,d,e,h1,h2⟩:=hc;exact⟨_,_,c,d,h,e,h1,h2⟩
 | str =>
  intro as f r h cs hc;unfold dec at h;split at h <;> try contradiction
  all_goals rename_i heq;try cases heq
  obtain⟨c,d,e,h1,h2⟩:=hc;exact⟨_,_,c,d,h,e,h1,h2⟩
 | num k =>
  intro as f r h cs hc;unfold dec at h;split at h <;> try contradiction
  all_goals rename_i heq;try cases heq
  obtain⟨c,d,e,h1,h2⟩:=hc;split at h <;> try contradiction
  rename_i hk;subst hk;exact⟨_,_,c,d,h,e,h1,h2⟩
 | big k =>
  intro as f r h cs hc;cases as with
  | nil=>simp [dec]at h
  | cons a as =>
   obtain⟨c,d,e,h1,h2⟩:=hc;cases a with
   | big k' q =>
    simp only [dec]at h;split at h
    ·rename_i hk;subst hk;exact⟨_,_,c,d,h,e,h1,h2⟩
    ·contradiction
   | nilp =>
    cases k with
    | zero =>
     simp only [dec]at h;simp only [AR]at h1;subst h1;exact⟨_,_,_,d,h,e,N.big_nil,h2⟩
    | succ k=>simp [dec]at h
   | _=>simp [dec]at h
 | list t _ =>
  intro as f r h cs hc;cases as with
  | nil=>simp [dec]at h
  | cons a as =>
   obtain⟨c,d,e,h1,h2⟩:=hc;cases a with
   | sl nil t' xs =>
    simp only [dec]at h;split at h
    ·rename_i hk;subst hk;obtain⟨v,hv,h3,_⟩:=h1;exact⟨_,_,c,d,h,e,⟨v,hv,h3⟩,h2⟩
    ·contradiction
   | nils =>
    simp only [dec]at h;exact⟨_,_,c,d,h,e,⟨_,h1,.inl ⟨rfl,rfl⟩⟩,h2⟩
   | _=>simp [dec]at h
 | pair a b iha ihb =>
  intro as f r h cs hc;have h':dec a as (fun x r=>dec b r fun y r=>f (x,y) r)=some r:=by unfold dec at h;exact h
  obtain⟨x,bs,c,d,h1,e,hx,hbs⟩:=iha h' hc;obtain⟨y,bs2,c2,d2,h2,e2,hy,hbs2⟩:=ihb h1 hbs;exact⟨(x,y),bs2,c++c2,d2,h2,by simp [e,e2],⟨c,c2,rfl,hx,hy⟩,hbs2⟩
 | unit =>
  intro as f r h cs hc;have h':f () as=some r:=by unfold dec at h;exact h
  exact⟨(),as,[],cs,h',rfl,rfl,hc⟩
 | ip t _ =>
  intro as f r h cs hc;cases as with
  | nil=>simp [dec]at h
  | cons a as =>
   obtain⟨c,d,e,h1,h2⟩:=hc;cases a with
   | ip t' xs off =>
    cases off with
    | succ n=>simp [dec]at h
    | zero =>
    simp only [dec]at h;split at h
    ·rename_i hk;subst hk;exact⟨_,_,c,d,h,e,h1,h2⟩
    ·contradiction
   | _=>simp [dec]at h
theorem dec_val{ρ:Type}:∀ {t:Ty} {as:List Atom} {f:t.den->List Atom->Option ρ} {r:ρ},dec t as f=some r ->
  ∃ x bs,f x bs=some r /\ ∀ {N:NumSem} {G:Ghost} {κ:Kap} {cs:List Value},AsR N G κ as cs->∃ c d,cs=c++d/\DR N G t x c/\AsR N G κ bs d:=by
 intro t
 induction t with
 | pair a b iha ihb =>
  intro as f r h;have h':dec a as (fun x r=>dec b r fun y r=>f (x,y) r)=some r:=by unfold dec at h;exact h
  obtain⟨x,bs,h1,hx⟩:=iha h';obtain⟨y,bs2,h2,hy⟩:=ihb h1;refine⟨(x,y),bs2,h2,fun hc=>?_⟩;obtain⟨c,d,e,hd,hb⟩:=hx hc;obtain⟨c2,d2,e2,hd2,hb2⟩:=hy hb;exact⟨c++c2,d2,by simp [e,e2],⟨c,c2,rfl,hd,hd2⟩,hb2⟩
 | unit =>
  intro as f r h;have h':f () as=some r:=by unfold dec at h;exact h
  exact⟨(),as,h',fun{N G κ cs} hc=>⟨[],cs,rfl,rfl,hc⟩⟩
 | int k =>
  intro as f r h;cases as with
  | nil=>simp [dec]at h
  | cons a as =>
   cases a with
   | int k' n =>
    simp only [dec]at h;split at h
    ·rename_i hk;subst hk;exact⟨_,_,h,fun{N G κ cs} hc=>hc⟩
    ·contradiction
   | _=>simp [dec]at h
 | bool =>
  intro as f r h;cases as with
  | nil=>simp [dec]at h
  | cons a as =>
   cases a with
   | bool b=>exact⟨_,_,h,fun{N G κ cs} hc=>hc⟩
   | _=>simp [dec]at h
 | str =>
  intro as f r h;cases as with
  | nil=>simp [dec]at h
  | cons a as =>
   cases a with
   | str b=>exact⟨_,_,h,fun{N G κ cs} hc=>hc⟩
   | _=>simp [dec]at h
 | num k =>
  intro as f r h;cases as with
  | nil=>simp [dec]at h
  | cons a as =>
   cases a with
   | num k' o =>
    cases o with
    | none=>simp [dec]at h
    | some q =>
     simp only [dec]at h;split at h
     ·rename_i hk;subst hk;exact⟨_,_,h,fun{N G κ cs} hc=>hc⟩
     ·contradiction
   | _=>simp [dec]at h
 | big k =>
  intro as f r h;cases as with
  | nil=>simp [dec]at h
  | cons a as =>
   cases a with
   | big k' o =>
    simp only [dec]at h;split at h
    ·rename_i hk;subst hk;exact⟨_,_,h,fun{N G κ cs} hc=>hc⟩
    ·contradiction
   | nilp =>
    cases k with
    | zero =>
     simp only [dec]at h;refine⟨_,_,h,fun{N G κ cs} hc=>?_⟩;obtain⟨c,d,e,h1,h2⟩:=hc;simp only [AR]at h1;subst h1;exact⟨_,d,e,N.big_nil,h2⟩
    | succ k=>simp [dec]at h
   | _=>simp [dec]at h
 | list t _ =>
  intro as f r h;cases as with
  | nil=>simp [dec]at h
  | cons a as =>
   cases a with
   | sl nil t' xs =>
    simp only [dec]at h;split at h
    ·rename_i hk;subst hk;refine⟨_,_,h,fun{N G κ cs} hc=>?_⟩;obtain⟨c,d,e,⟨v,hv,h3,_⟩,h2⟩:=hc;exact⟨c,d,e,⟨v,hv,h3⟩,h2⟩
    ·contradiction
   | nils =>
    refine⟨_,_,h,fun{N G κ cs} hc=>?_⟩;obtain⟨c,d,e,h1,h2⟩:=hc;exact⟨c,d,e,⟨_,h1,.inl ⟨rfl,rfl⟩⟩,h2⟩
   | _=>simp [dec]at h
 | ip t _ =>
  intro as f r h;cases as with
  | nil=>simp [dec]at h
  | cons a as =>
   cases a with
   | ip t' x off =>
    cases off with
    | succ n=>simp [dec]at h
    | zero =>
     simp only [dec]at h;split at h
     ·rename_i hk;subst hk;exact⟨_,_,h,fun{N G κ cs} hc=>hc⟩
     ·contradiction
   | _=>simp [dec]at h
theorem dec_fix{ρ:Type} {t:Ty} {as:List Atom} {f:t.den->List Atom->Option ρ} {r:ρ} {Q:t.den->Prop} (h:dec t as f=some r)
  (hf:∀ y rest,f y rest=some r->rest=[]/\Q y):∃ y,Q y /\ ∀ {N:NumSem} {G:Ghost} {κ:Kap} {cs:List Value},AsR N G κ as cs->DR N G t y cs:=by
 obtain⟨y,bs,h1,h2⟩:=dec_val h;obtain⟨e,hq⟩:=hf y bs h1;subst e;refine⟨y,hq,fun hc=>?_⟩;obtain⟨c,d,e,h3,h4⟩:=h2 hc;simp only [AsR]at h4;subst h4;rw[e,List.append_nil];exact h3
end Go.Abs
namespace Go.Abs
inductive Blk where
 | dead
 | var (as:List Atom)
 | arr (e:Nat) (t:Ty) (xs:List t.den) (frz mv:Bool)
abbrev Hp:=Nat->Option Blk
def Blk.opt:Blk->Option Blk
 | .dead=>none
 | b=>some b
def Hp.set(h:Hp) (l:Nat) (b:Blk):Hp:=fun i=>if i=l then b.opt else h i
theorem Hp.set_same(h:Hp) (l:Nat) (b:Blk):(h.set l b) l=b.opt:=by simp [Hp.set]
theorem Hp.set_other(h:Hp) {l i:Nat} (b:Blk) (hi:i≠l):(h.set l b) i=h i:=by simp [Hp.set,hi]
def Elems(N:NumSem) (G:Ghost) (t:Ty) (xs:List t.den) (cs:List Value):Prop:=
 ∀ i x,xs[i]? = some x->∃ vs,DR N G t x vs /\ ∀ j v,vs[j]? = some v->cs[i*t.w+j]? = some v
def isMk:List Atom->Bool
 | .mk :: _=>true
 | _=>false
def mapV(e:MapEntry):List Value:=[e.key,e.val,.int .i64 e.born]
def objV:Bool->Obj->Option (List Value)
 | false,.cells cs _ fr=>if fr=(0,0)then some cs.toList else none
 | true,.map es k=>some (.map none :: .int .i64 k :: es.toList.flatMap mapV)
 | _,_=>none
theorem objV_cells{o:Obj} {cs:List Value} (h:objV false o=some cs):∃ c ty,o=.cells c ty (0,0)/\cs=c.toList:=by
 cases o <;> simp only [objV]at h <;> try contradiction
 rename_i c ty fr;split at h
 ·rename_i hf;simp only [Option.some.injEq]at h;exact⟨c,ty,by rw[hf],h.symm⟩
 ·contradiction
theorem objV_map{o:Obj} {cs:List Value} (h:objV true o=some cs):∃ es k,o=.map es k/\cs=.map none :: .int .i64 k :: es.toList.flatMap mapV:=by
 cases o <;> simp only [objV]at h <;> try contradiction
 rename_i es k;simp only [Option.some.injEq]at h;exact⟨es,k,rfl,h.symm⟩
def BR(N:NumSem) (G:Ghost) (κ:Kap) (w:World) (l:Nat):Blk->Prop
 | .dead=>False
 | .var as=>∃ o cs,w.heap[(κ l).1]? = some o/\objV (isMk as) o=some cs/\AsR N G κ as cs
 | .arr e t xs frz _=>∃ cs,w.heap[(κ l).1]? = some (.cells cs e (0,0))/\cs.size=(κ l).2.1*t.w/\(xs.length=(κ l).2.2/\xs.length<=(κ l).2.1/\(κ l).2.1<=maxLen)/\Elems N G t xs cs.toList /\
   (frz=true->∀ j v,j<xs.length*t.w->cs[j]? = some v->G (κ l).1 j=some v)
def Blk.shown:Blk->Nat->Prop
 | .arr _ t xs true _,o=>o<xs.length*t.w
 | _,_=>False
theorem BR.cells{N:NumSem} {G:Ghost} {κ:Kap} {w:World} {l:Nat} {as:List Atom} (h:BR N G κ w l (.var as)) (hm:isMk as=false) :
  ∃ cs ty,w.heap[(κ l).1]? = some (.cells cs ty (0,0))/\AsR N G κ as cs.toList:=by
 obtain⟨o,cs,h1,h2,h4⟩:=h;rw[hm]at h2;obtain⟨c,ty,rfl,rfl⟩:=objV_cells h2;exact⟨c,ty,h1,h4⟩
theorem BR.ofCells{N:NumSem} {G:Ghost} {κ:Kap} {w:World} {l:Nat} {as:List Atom} {cs:Array Value} {ty:TypeId} (h:w.heap[(κ l).1]? = some (.cells cs ty (0,0))) (hm:isMk as=false)
  (ha:AsR N G κ as cs.toList):BR N G κ w l (.var as):=
 ⟨_,cs.toList,h,by rw[hm];rfl,ha⟩
structure Rel (N:NumSem) (G:Ghost) (κ:Kap) (h:Hp) (w:World):Prop where
 ghost:∀ b o v,G b o=some v->w.cell? ⟨b,o,none⟩=some v
 blk:∀ l b,h l=some b->BR N G κ w l b
 sep:∀ l l',h l≠none->h l'≠none->l≠l'->(κ l).1≠(κ l').1
 own:∀ l b,h l=some b->∀ o v,G (κ l).1 o=some v->b.shown o
 inv:∀ b,N.isHeld b=true->∃ x,w.heap[b]? = some x/\N.heldIs b x
 off:∀ l,h l≠none->N.isHeld (κ l).1=false
structure Trans (G:Ghost) (κ:Kap) (h:Hp) (w:World) (G':Ghost) (κ':Kap) (h':Hp) (w':World):Prop where
 gle:G.le G'
 size:w.heap.size<=w'.heap.size
 kept:∀ b,b<w.heap.size->(∀ l,h l≠none->(κ l).1≠b)->w'.heap[b]? = w.heap[b]?
 os:w'.os=w.os
 tape:w'.tape=w.tape
 output:w'.output=w.output
 gnew:∀ b o v,G' b o=some v->G b o=some v\/w.heap.size<=b \/ ∃ l,h l≠none/\(κ l).1=b
 place:∀ l,h' l≠none->w.heap.size<=(κ' l).1 \/ ∃ l0,h l0≠none/\(κ l0).1=(κ' l).1
theorem Trans.refl(G:Ghost) (κ:Kap) (h:Hp) (w:World):Trans G κ h w G κ h w:=
 ⟨G.le_refl,Nat.le_refl _,fun _ _ _=>rfl,rfl,rfl,rfl,fun _ _ _ e=>.inl e,fun l hl=>.inr ⟨l,hl,rfl⟩⟩
theorem Trans.trans{G G1 G2:Ghost} {κ κ1 κ2:Kap} {h h1 h2:Hp} {w w1 w2:World}
  (a:Trans G κ h w G1 κ1 h1 w1) (b:Trans G1 κ1 h1 w1 G2 κ2 h2 w2):Trans G κ h w G2 κ2 h2 w2 where
 gle:=Ghost.le_trans a.gle b.gle
 size:=Nat.le_trans a.size b.size
 kept:=fun x hx hn=>by
  rw[b.kept x (Nat.lt_of_lt_of_le hx a.size),a.kept x hx hn];intro l hl e;rcases a.place l hl with hp | ⟨l0,hl0,hp⟩
  ·omega
  ·exact hn l0 hl0 (hp.trans e)
 os:=b.os.trans a.os
 tape:=b.tape.trans a.tape
 output:=b.output.trans a.output
 gnew:=fun x o v e=>by
  rcases b.gnew x o v e with e | e | ⟨l,hl,e⟩
  ·exact a.gnew x o v e
  ·exact .inr (.inl (Nat.le_trans a.size e))
  ·rcases a.place l hl with hp | ⟨l0,hl0,hp⟩
   ·exact .inr (.inl (e ▸ hp))
   ·exact .inr (.inr ⟨l0,hl0,hp.trans e⟩)
 place:=fun l hl=>by
  rcases b.place l hl with hp | ⟨l0,hl0,hp⟩
  ·exact .inl (Nat.le_trans a.size hp)
  ·rcases a.place l0 hl0 with hq | ⟨l1,hl1,hq⟩
   ·exact .inl (hp ▸ hq)
   ·exact .inr ⟨l1,hl1,hq.trans hp⟩
theorem Trans.drop{G G':Ghost} {κ κ':Kap} {h h' h2:Hp} {w w':World} (a:Trans G κ h w G' κ' h' w')
  (hs:∀ l,h2 l≠none->h' l≠none):Trans G κ h w G' κ' h2 w':=
 {a with place:=fun l hl=>a.place l (hs l hl) }
theorem BR.block{N:NumSem} {G:Ghost} {κ:Kap} {w:World} {l:Nat} {b:Blk} (h:BR N G κ w l b):(κ l).1<w.heap.size:=by
 cases b with
 | dead=>exact h.elim
 | var as =>
  obtain⟨o,cs,h,_⟩:=h;exact(Array.getElem?_eq_some_iff.1 h).1
 | arr e t xs frz mv =>
  obtain⟨cs,h,_⟩:=h;exact(Array.getElem?_eq_some_iff.1 h).1
theorem BR.keep{N:NumSem} {G G':Ghost} {κ κ':Kap} {w w':World} {l:Nat} {b:Blk} (h:BR N G κ w l b) (hG:G.le G')
  (hw:w'.heap[(κ l).1]? = w.heap[(κ l).1]?) (hl:κ' l=κ l) (hκ:∀ as,b=.var as->∀ i∈aids as,κ' i=κ i):BR N G' κ' w' l b:=by
 cases b with
 | dead=>exact h
 | var as =>
  obtain⟨o,cs,h,h1,h2⟩:=h;exact⟨o,cs,by rw[hl,hw,h],h1,h2.mono hG (hκ as rfl)⟩
 | arr e t xs frz mv =>
  obtain⟨cs,h,h2,h3,h4,h6⟩:=h;refine⟨cs,by rw[hl,hw,h],by rw[hl,h2],by rw[hl];exact h3,?_,?_⟩
  ·intro i x e;obtain⟨vs,a,b⟩:=h4 i x e;exact⟨vs,a.mono hG,b⟩
  ·intro hf j v hj e;rw[hl];exact hG _ _ _ (h6 hf j v hj e)
theorem Rel.same{N:NumSem} {G:Ghost} {κ:Kap} {h:Hp} {w w':World} (r:Rel N G κ h w) (hw:w'.heap=w.heap):Rel N G κ h w' where
 ghost:=fun b o v e=>by rw[<- r.ghost b o v e];simp [World.cell?,hw]
 blk:=fun l b e=>(r.blk l b e).keep G.le_refl (by rw[hw]) rfl fun _ _ _ _=>rfl
 sep:=r.sep
 own:=r.own
 inv:=fun b hb=>by rw[hw];exact r.inv b hb
 off:=r.off
theorem Trans.same{G:Ghost} {κ:Kap} {h:Hp} {w w':World} (hw:w'.heap=w.heap) (os:w'.os=w.os) (tape:w'.tape=w.tape) (output:w'.output=w.output) :
  Trans G κ h w G κ h w':=
 ⟨G.le_refl,by rw[hw];exact Nat.le_refl _,fun _ _ _=>by rw[hw],os,tape,output,fun _ _ _ e=>.inl e,fun l hl=>.inr ⟨l,hl,rfl⟩⟩
theorem Rel.drop{N:NumSem} {G:Ghost} {κ:Kap} {h h':Hp} {w:World} (r:Rel N G κ h w) (hs:∀ l b,h' l=some b->h l=some b):Rel N G κ h' w where
 ghost:=r.ghost
 blk:=fun l b e=>r.blk l b (hs l b e)
 sep:=fun l l' hl hl'=>by
  obtain⟨b,hb⟩:=Option.ne_none_iff_exists'.1 hl;obtain⟨b',hb'⟩:=Option.ne_none_iff_exists'.1 hl';exact r.sep l l' (by rw[hs l b hb];simp) (by rw[hs l' b' hb'];simp)
 own:=fun l b e=>r.own l b (hs l b e)
 inv:=r.inv
 off:=fun l hl=>by
  obtain⟨b,hb⟩:=Option.ne_none_iff_exists'.1 hl;exact r.off l (by rw[hs l b hb];simp)
def kset(κ:Kap) (l:Nat) (p:Nat × Nat × Nat):Kap:=fun i=>if i=l then p else κ i
theorem kset_same(κ:Kap) (l:Nat) (p:Nat × Nat × Nat):kset κ l p l=p:=by simp [kset]
theorem kset_other(κ:Kap) {l i:Nat} (p:Nat × Nat × Nat) (h:i≠l):kset κ l p i=κ i:=by simp [kset,h]
theorem heap_alloc(w:World) (o:Obj) (i:Nat) (hi:i<w.heap.size):(w.alloc o).heap[i]? = w.heap[i]?:=by
 simp only [World.alloc,Array.getElem?_push];rw[if_neg (by omega)]
theorem heap_alloc_new(w:World) (o:Obj):(w.alloc o).heap[w.heap.size]? = some o:=by
 simp only [World.alloc,Array.getElem?_push];rw[if_pos trivial]
theorem Rel.alloc{N:NumSem} {G:Ghost} {κ:Kap} {h:Hp} {w:World} (r:Rel N G κ h w) (o:Obj) (l:Nat) (cap:Nat × Nat) (b:Blk)
  (hfree:h l=none) (hnot:∀ i as,h i=some (.var as)->l ∉ aids as)
  (hb:BR N G (kset κ l (w.heap.size,cap)) (w.alloc o) l b) (hbd:b ≠ .dead) :
  Rel N G (kset κ l (w.heap.size,cap)) (h.set l b) (w.alloc o) where
 ghost:=fun x o' v e=>by
  have h0:=r.ghost x o' v e;have hx:x<w.heap.size:=by
   unfold World.cell? at h0;split at h0
   ·rename_i heq;exact(Array.getElem?_eq_some_iff.1 heq).1
   ·contradiction
  rw[<- h0];simp only [World.cell?];rw[heap_alloc w o x hx]
 blk:=fun i b' e=>by
  by_cases hi:i=l
  ·subst hi;rw[Hp.set_same]at e;have:b'=b:=by cases b <;> simp_all [Blk.opt]
   subst this;exact hb
  ·rw[Hp.set_other _ _ hi]at e;have h0:=r.blk i b' e;exact h0.keep G.le_refl (by rw[heap_alloc w o _ h0.block]) (kset_other _ _ hi) fun as ha j hj=>kset_other _ _ fun hjl=>hnot i as (ha ▸ e) (hjl ▸ hj)
 sep:=fun i j hi hj hij=>by
  by_cases h1:i=l
  ·subst h1;have h2:j≠i:=fun e=>hij e.symm
   rw[Hp.set_other _ _ h2]at hj;obtain⟨b',hb'⟩:=Option.ne_none_iff_exists'.1 hj;have:=(r.blk j b' hb').block;rw[kset_same,kset_other _ _ h2];simp only [];omega
  ·rw[Hp.set_other _ _ h1]at hi
   by_cases h2:j=l
   ·subst h2;obtain⟨b',hb'⟩:=Option.ne_none_iff_exists'.1 hi;have:=(r.blk i b' hb').block;rw[kset_same,kset_other _ _ h1];simp only [];omega
   ·rw[Hp.set_other _ _ h2]at hj;rw[kset_other _ _ h1,kset_other _ _ h2];exact r.sep i j hi hj hij
 own:=fun i b' e o' v eg=>by
  by_cases hi:i=l
  ·subst hi;rw[kset_same]at eg;have h0:=r.ghost _ _ _ eg;simp [World.cell?]at h0
  ·rw[Hp.set_other _ _ hi]at e;rw[kset_other _ _ hi]at eg;exact r.own i b' e o' v eg
 inv:=fun b hb=>by
  obtain⟨x,h1,h2⟩:=r.inv b hb;exact⟨x,by rw[heap_alloc w o b (Array.getElem?_eq_some_iff.1 h1).1];exact h1,h2⟩
 off:=fun i hi=>by
  by_cases h1:i=l
  ·subst h1;rw[kset_same];show N.isHeld w.heap.size=false;cases hh:N.isHeld w.heap.size
   ·rfl
   ·obtain⟨x,h1,_⟩:=r.inv _ hh;simp at h1
  ·rw[Hp.set_other _ _ h1]at hi;rw[kset_other _ _ h1];exact r.off i hi
theorem Trans.alloc{G:Ghost} {κ:Kap} {h:Hp} {w:World} (o:Obj) (l:Nat) (cap:Nat × Nat) (b:Blk) (hfree:h l=none) :
  Trans G κ h w G (kset κ l (w.heap.size,cap)) (h.set l b) (w.alloc o) where
 gle:=G.le_refl
 size:=by simp only [World.alloc,Array.size_push];omega
 kept:=fun x hx _=>heap_alloc w o x hx
 os:=rfl
 tape:=rfl
 output:=rfl
 gnew:=fun _ _ _ e=>.inl e
 place:=fun i hi=>by
  by_cases h1:i=l
  ·subst h1;rw[kset_same];exact .inl (Nat.le_refl _)
  ·rw[Hp.set_other _ _ h1]at hi;rw[kset_other _ _ h1];exact .inr ⟨i,hi,rfl⟩
theorem Rel.turn{N:NumSem} {G G':Ghost} {κ:Kap} {h:Hp} {w w':World} (r:Rel N G κ h w) (l:Nat) (b0 b:Blk) (hl:h l=some b0)
  (hG:G.le G') (hG':∀ x o v,G' x o=some v->G x o=some v\/(x=(κ l).1/\w'.cell? ⟨x,o,none⟩=some v))
  (hkeep:∀ x,x≠(κ l).1->w'.heap[x]? = w.heap[x]?)
  (hcell:∀ o v,G (κ l).1 o=some v->w'.cell? ⟨(κ l).1,o,none⟩=some v)
  (hb:BR N G' κ w' l b) (hshown:∀ o v,G' (κ l).1 o=some v->b.shown o) (hbd:b ≠ .dead) :
  Rel N G' κ (h.set l b) w' where
 ghost:=fun x o v e=>by
  rcases hG' x o v e with e | ⟨_,e⟩
  ·by_cases hx:x=(κ l).1
   ·subst hx;exact hcell o v e
   ·rw[<- r.ghost x o v e];simp only [World.cell?];rw[hkeep x hx]
  ·exact e
 blk:=fun i b' e=>by
  by_cases hi:i=l
  ·subst hi;rw[Hp.set_same]at e;have:b'=b:=by cases b <;> simp_all [Blk.opt]
   subst this;exact hb
  ·rw[Hp.set_other _ _ hi]at e;exact(r.blk i b' e).keep hG (hkeep _ (r.sep i l (by rw[e];simp) (by rw[hl];simp) hi)) rfl fun _ _ _ _=>rfl
 sep:=fun i j hi hj hij=>by
  have key:∀ i,(h.set l b) i≠none->h i≠none:=fun i hi=>by
   by_cases h1:i=l
   ·subst h1;rw[hl];simp
   ·rwa [Hp.set_other _ _ h1]at hi
  exact r.sep i j (key i hi) (key j hj) hij
 own:=fun i b' e o v eg=>by
  by_cases hi:i=l
  ·subst hi;rw[Hp.set_same]at e;have:b'=b:=by cases b <;> simp_all [Blk.opt]
   subst this;exact hshown o v eg
  ·rw[Hp.set_other _ _ hi]at e;rcases hG' _ o v eg with eg | ⟨ex,_⟩
   ·exact r.own i b' e o v eg
   ·exact absurd ex (r.sep i l (by rw[e];simp) (by rw[hl];simp) hi)
 inv:=fun x hx=>by
  obtain⟨y,h1,h2⟩:=r.inv x hx;exact⟨y,by rw[hkeep x (fun e=>by rw[e,r.off l (by rw[hl];simp)]at hx;cases hx)];exact h1,h2⟩
 off:=fun i hi=>by
  by_cases h1:i=l
  ·subst h1;exact r.off i (by rw[hl];simp)
  ·rw[Hp.set_other _ _ h1]at hi;exact r.off i hi
theorem Trans.turn{N:NumSem} {G G':Ghost} {κ:Kap} {h:Hp} {w w':World} (l:Nat) (b0 b:Blk) (hl:h l=some b0)
  (hG:G.le G') (hG':∀ x o v,G' x o=some v->G x o=some v\/x=(κ l).1)
  (hkeep:∀ x,x≠(κ l).1->w'.heap[x]? = w.heap[x]?) (hsize:w'.heap.size=w.heap.size)
  (os:w'.os=w.os) (tape:w'.tape=w.tape) (output:w'.output=w.output) :
  Trans G κ h w G' κ (h.set l b) w' where
 gle:=hG
 size:=by omega
 kept:=fun x hx hn=>hkeep x fun e=>hn l (by rw[hl];simp) e.symm
 os:=os
 tape:=tape
 output:=output
 gnew:=fun x o v e=>by
  rcases hG' x o v e with e | e
  ·exact .inl e
  ·exact .inr (.inr ⟨l,by rw[hl];simp,e.symm⟩)
 place:=fun i hi=>by
  by_cases h1:i=l
  ·subst h1;exact .inr ⟨i,by rw[hl];simp,rfl⟩
  ·rw[Hp.set_other _ _ h1]at hi;exact .inr ⟨i,hi,rfl⟩
theorem Rel.put{N:NumSem} {G G':Ghost} {κ:Kap} {h:Hp} {w w':World} (r:Rel N G κ h w) (l:Nat) (p:Nat × Nat × Nat) (b:Blk)
  (hno:∀ i as,h i=some (.var as)->l ∉ aids as) (hG:G.le G')
  (hkeep:∀ i b',i≠l->h i=some b'->w'.heap[(κ i).1]? = w.heap[(κ i).1]? /\ (κ i).1≠p.1 /\ ∀ o v,G' (κ i).1 o=some v->G (κ i).1 o=some v)
  (hghost:∀ x o v,G' x o=some v->w'.cell? ⟨x,o,none⟩=some v)
  (hb:BR N G' (kset κ l p) w' l b) (hshown:∀ o v,G' p.1 o=some v->b.shown o) (hbd:b ≠ .dead)
  (hheld:∀ x,N.isHeld x=true->w'.heap[x]? = w.heap[x]?) (hoff:N.isHeld p.1=false) :
  Rel N G' (kset κ l p) (h.set l b) w' where
 ghost:=hghost
 blk:=fun i b' e=>by
  by_cases hi:i=l
  ·subst hi;rw[Hp.set_same]at e;have:b'=b:=by cases b <;> simp_all [Blk.opt]
   subst this;exact hb
  ·rw[Hp.set_other _ _ hi]at e;exact(r.blk i b' e).keep hG (hkeep i b' hi e).1 (kset_other _ _ hi) fun as ha j hj=>kset_other _ _ fun hjl=>hno i as (ha ▸ e) (hjl ▸ hj)
 sep:=fun i j hi hj hij=>by
  by_cases h1:i=l
  ·subst h1;have h2:j≠i:=fun e=>hij e.symm
   rw[Hp.set_other _ _ h2]at hj;obtain⟨b',hb'⟩:=Option.ne_none_iff_exists'.1 hj;rw[kset_same,kset_other _ _ h2];exact fun e=>(hkeep j b' h2 hb').2.1 e.symm
  ·rw[Hp.set_other _ _ h1]at hi
   by_cases h2:j=l
   ·subst h2;obtain⟨b',hb'⟩:=Option.ne_none_iff_exists'.1 hi;rw[kset_same,kset_other _ _ h1];exact(hkeep i b' h1 hb').2.1
   ·rw[Hp.set_other _ _ h2]at hj;rw[kset_other _ _ h1,kset_other _ _ h2];exact r.sep i j hi hj hij
 own:=fun i b' e o v eg=>by
  by_cases hi:i=l
  ·subst hi;rw[Hp.set_same]at e;have:b'=b:=by cases b <;> simp_all [Blk.opt]
   subst this;rw[kset_same]at eg;exact hshown o v eg
  ·rw[Hp.set_other _ _ hi]at e;rw[kset_other _ _ hi]at eg;exact r.own i b' e o v ((hkeep i b' hi e).2.2 o v eg)
 inv:=fun x hx=>by
  obtain⟨y,h1,h2⟩:=r.inv x hx;exact⟨y,by rw[hheld x hx];exact h1,h2⟩
 off:=fun i hi=>by
  by_cases h1:i=l
  ·subst h1;rw[kset_same];exact hoff
  ·rw[Hp.set_other _ _ h1]at hi;rw[kset_other _ _ h1];exact r.off i hi
theorem Trans.put{G G':Ghost} {κ:Kap} {h:Hp} {w w':World} (l:Nat) (p:Nat × Nat × Nat) (b:Blk) (hG:G.le G') (hsize:w.heap.size<=w'.heap.size)
  (hkept:∀ x,x<w.heap.size->(∀ i,h i≠none->(κ i).1≠x)->w'.heap[x]? = w.heap[x]?) (os:w'.os=w.os) (tape:w'.tape=w.tape) (output:w'.output=w.output)
  (hnew:∀ x o v,G' x o=some v->G x o=some v\/w.heap.size<=x \/ ∃ i,h i≠none/\(κ i).1=x)
  (hp:w.heap.size<=p.1 \/ ∃ i,h i≠none/\(κ i).1=p.1):Trans G κ h w G' (kset κ l p) (h.set l b) w' where
 gle:=hG
 size:=hsize
 kept:=hkept
 os:=os
 tape:=tape
 output:=output
 gnew:=hnew
 place:=fun i hi=>by
  by_cases h1:i=l
  ·subst h1;rw[kset_same];exact hp
  ·rw[Hp.set_other _ _ h1]at hi;rw[kset_other _ _ h1];exact .inr ⟨i,hi,rfl⟩
theorem Rel.rename{N:NumSem} {G:Ghost} {κ:Kap} {h:Hp} {w:World} (r:Rel N G κ h w) {l n:Nat} {b:Blk} (hl:h l=some b) (hbd:b ≠ .dead) (hn:h n=none) (hno:∀ i as,h i=some (.var as)->n ∉ aids as) :
  Rel N G (kset κ n (κ l)) ((h.set l .dead).set n b) w/\Trans G κ h w G (kset κ n (κ l)) ((h.set l .dead).set n b) w:=by
 have hne:l≠n:=fun e=>by subst e;rw[hn]at hl;cases hl
 have cases:∀ i b',((h.set l .dead).set n b) i=some b'->(i=n/\b'=b)\/(i≠n/\i≠l/\h i=some b'):=fun i b' e=>by
  by_cases hi:i=n
  ·subst hi;rw[Hp.set_same]at e;exact .inl ⟨rfl,by cases b <;> simp_all [Blk.opt]⟩
  ·rw[Hp.set_other _ _ hi]at e
   by_cases hil:i=l
   ·subst hil;rw[Hp.set_same]at e;simp [Blk.opt]at e
   ·rw[Hp.set_other _ _ hil]at e;exact .inr ⟨hi,hil,e⟩
 have nm:∀ i,((h.set l .dead).set n b) i≠none->∃ j,h j≠none/\(kset κ n (κ l)) i=κ j/\((i=n/\j=l)\/(i≠n/\j=i/\i≠l)):=fun i hi=>by
  obtain⟨b',hb'⟩:=Option.ne_none_iff_exists'.1 hi;rcases cases i b' hb' with ⟨h1,h2⟩ | ⟨h1,h2,h3⟩
  ·subst h1;exact⟨l,by rw[hl];simp,kset_same _ _ _,.inl ⟨rfl,rfl⟩⟩
  ·exact⟨i,by rw[h3];simp,kset_other _ _ h1,.inr ⟨h1,rfl,h2⟩⟩
 refine⟨⟨r.ghost,fun i b' e=>?_,fun i j hi hj hij=>?_,fun i b' e o v eg=>?_,r.inv,fun i hi=>?_⟩,⟨G.le_refl,Nat.le_refl _,fun _ _ _=>rfl,rfl,rfl,rfl,fun _ _ _ e=>.inl e,fun i hi=>?_⟩⟩
 ·rcases cases i b' e with ⟨h1,h2⟩ | ⟨h1,h2,h3⟩
  ·subst h1;subst h2;have h0:=r.blk l b' hl;cases b' with
   | dead=>exact h0
   | var as =>
    obtain⟨o,cs,h1,h3,h2⟩:=h0;exact⟨o,cs,by rw[kset_same];exact h1,h3,h2.mono G.le_refl fun j hj=>kset_other _ _ fun(e:j=i)=>hno l as hl (by rw[<- e];exact hj)⟩
   | arr el t xs f mv =>
    obtain⟨cs,h1,h2,h3,h4,h5⟩:=h0;exact⟨cs,by rw[kset_same];exact h1,by rw[kset_same];exact h2,by rw[kset_same];exact h3,h4,by rw[kset_same];exact h5⟩
  ·exact(r.blk i b' h3).keep G.le_refl rfl (kset_other _ _ h1) fun as ha j hj=>kset_other _ _ fun(e:j=n)=>hno i as (ha ▸ h3) (by rw[<- e];exact hj)
 ·obtain⟨i',a1,a2,a3⟩:=nm i hi;obtain⟨j',b1,b2,b3⟩:=nm j hj;rw[a2,b2];refine r.sep i' j' a1 b1 fun e=>hij ?_
  rcases a3 with ⟨a3,a4⟩ | ⟨a3,a4,a5⟩ <;> rcases b3 with ⟨b3,b4⟩ | ⟨b3,b4,b5⟩
  ·rw[a3,b3]
  ·exact absurd (b4.symm.trans (e.symm.trans a4)) b5
  ·exact absurd (a4.symm.trans (e.trans b4)) a5
  ·rw[<- a4,<- b4,e]
 ·rcases cases i b' e with ⟨h1,h2⟩ | ⟨h1,h2,h3⟩
  ·subst h1;subst h2;rw[kset_same]at eg;exact r.own l b' hl o v eg
  ·rw[kset_other _ _ h1]at eg;exact r.own i b' h3 o v eg
 ·obtain⟨i',a1,a2,_⟩:=nm i hi;rw[a2];exact r.off i' a1
 ·obtain⟨i',a1,a2,_⟩:=nm i hi;exact .inr ⟨i',a1,by rw[a2]⟩
theorem Hp.set_set(h:Hp) (l:Nat) (b b':Blk):(h.set l b).set l b'=h.set l b':=by
 funext i
 by_cases hi:i=l
 ·subst hi;rw[Hp.set_same,Hp.set_same]
 ·rw[Hp.set_other _ _ hi,Hp.set_other _ _ hi,Hp.set_other _ _ hi]
inductive SV where
 | undef
 | v (agg:Bool) (as:List Atom)
 | tup (vs:List (Bool × List Atom))
 | ifc (t:Nat) (a:Atom)
def SR(N:NumSem) (G:Ghost) (κ:Kap):Bool->List Atom->Value->Prop
 | false,as,x=>AsR N G κ as [x]
 | true,as,x=>∃ cs,x=.agg cs/\AsR N G κ as cs.toList
def TupR(N:NumSem) (G:Ghost) (κ:Kap):List (Bool × List Atom)->List Value->Prop
 | [],xs=>xs=[]
 | p :: ps,xs=>∃ x ys,xs=x :: ys/\SR N G κ p.1 p.2 x/\TupR N G κ ps ys
def svR(N:NumSem) (G:Ghost) (κ:Kap):SV->Value->Prop
 | .undef,_=>True
 | .v g as,x=>SR N G κ g as x
 | .tup vs,x=>∃ xs,x=.tuple xs/\TupR N G κ vs xs.toList
 | .ifc t a,x=>∃ y,x=.iface t y/\AR N G κ a [y]
def tupIds:List (Bool × List Atom)->List Nat
 | []=>[]
 | p :: ps=>aids p.2++tupIds ps
def SV.ids:SV->List Nat
 | .undef=>[]
 | .v _ as=>aids as
 | .tup vs=>tupIds vs
 | .ifc _ a=>a.ids
theorem SR.mono{N:NumSem} {G G':Ghost} {κ κ':Kap} (hG:G.le G') {g:Bool} {as:List Atom} {x:Value} (hκ:∀ l∈aids as,κ' l=κ l)
  (h:SR N G κ g as x):SR N G' κ' g as x:=by
 cases g with
 | false=>exact AsR.mono hG hκ h
 | true=>obtain⟨cs,h,h2⟩:=h;exact⟨cs,h,h2.mono hG hκ⟩
theorem TupR.mono{N:NumSem} {G G':Ghost} {κ κ':Kap} (hG:G.le G'):∀ {vs:List (Bool × List Atom)} {xs:List Value},(∀ l∈tupIds vs,κ' l=κ l) ->
  TupR N G κ vs xs->TupR N G' κ' vs xs
 | [],xs,_,h=>h
 | p :: ps,xs,hκ,h=>by
  obtain⟨x,ys,e,h1,h2⟩:=h;exact⟨x,ys,e,h1.mono hG fun l hl=>hκ l (by simp [tupIds,hl]),TupR.mono hG (fun l hl=>hκ l (by simp [tupIds,hl])) h2⟩
theorem svR.mono{N:NumSem} {G G':Ghost} {κ κ':Kap} (hG:G.le G') {s:SV} {x:Value} (hκ:∀ l∈s.ids,κ' l=κ l)
  (h:svR N G κ s x):svR N G' κ' s x:=by
 cases s with
 | undef=>trivial
 | v g as=>exact SR.mono hG hκ h
 | tup vs=>obtain⟨xs,h,h2⟩:=h;exact⟨xs,h,h2.mono hG hκ⟩
 | ifc t a=>obtain⟨y,h,h2⟩:=h;exact⟨y,h,h2.mono hG hκ⟩
abbrev Slots:=List (Nat × SV)
def sget:Slots->Nat->SV
 | [],_=>.undef
 | (k,s) :: r,t=>bif Nat.beq k t then s else sget r t
def constSV:Value->SV
 | .int k n=>.v false [.int k n]
 | .bool b=>.v false [.bool b]
 | .string s=>.v false [.str s]
 | .pointer none=>.v false [.nilp]
 | .slice none 0 0=>.v false [.nils]
 | _=>.undef
theorem constSV_ok(N:NumSem) (G:Ghost) (κ:Kap) (v:Value):svR N G κ (constSV v) v:=by
 unfold constSV;split <;> first | trivial | exact AsR.one rfl
def evS(s:Slots):Operand->SV
 | .tmp t=>sget s t
 | .const v=>constSV v
 | .func f=>.v false [.fn f []]
 | .global _=>.undef
structure Eff where
 val:SV
 sets:List (Nat × Blk):=[]
 new:Nat:=0
 moved:List Nat:=[]
def Eff.app(e:Eff) (h:Hp):Hp:=e.sets.foldl (fun h p=>h.set p.1 p.2) h
def OpOK(N:NumSem) (P:Program) (H:Hp) (nid:Nat) (ev:Operand->SV) (o:Oper) (e:Eff):Prop:=
 ∀ {G:Ghost} {κ:Kap} {hf:Hp} {w:World} {a:Act} {next:Act->World->Prop} {Q:Exit->Act->World->Prop},
  (∀ l b,H l=some b->hf l=some b)->(∀ i,i<e.new->hf (nid+i)=none) ->
  (∀ i,i<e.new->∀ l as,hf l=some (.var as)->nid+i ∉ aids as) ->
  (∀ i∈e.moved,∀ l as,hf l=some (.var as)->l ∉ e.sets.map (·.1)->i ∉ aids as) ->
  Rel N G κ hf w->(∀ x,svR N G κ (ev x) (a.eval x)) ->
  (∀ v G' κ' w',Trans G κ hf w G' κ' (e.app hf) w'->Rel N G' κ' (e.app hf) w'->svR N G' κ' e.val v ->
   (∀ l,(l<nid\/nid+e.new<=l)->l ∉ e.moved->κ' l=κ l)->next (a.put o.dst v) w') ->
  o.wp P a w next Q
theorem OpOK.pure{N:NumSem} {P:Program} {H:Hp} {nid:Nat} {ev:Operand->SV} {o:Oper} {s:SV}
  (h:∀ {G:Ghost} {κ:Kap} {hf:Hp} {w:World} {a:Act},(∀ l b,H l=some b->hf l=some b)->Rel N G κ hf w->(∀ x,svR N G κ (ev x) (a.eval x)) ->
   ∃ v,(execOp a.eval o).run P w=.ok (.value v) w/\svR N G κ s v):OpOK N P H nid ev o { val:=s }:=by
 intro G κ hf w a next Q hH _ _ _ hr hev hn;obtain⟨v,hrun,hs⟩:=h hH hr hev;unfold Oper.wp;rw[hrun];exact hn v G κ w (Trans.refl ..) hr hs fun _ _ _=>rfl
end Go.Abs
namespace Go.Abs
inductive TK where
 | plain | ptr | bool | str | int (k:IntKind)
 | struct (fs:List (Nat × Nat))
 | array (len es:Nat)
 | slice (elem bytes:Nat) (ty:Ty)
structure TE where
 size:Nat
 agg:Bool
 zero:List Atom
 kind:TK
def zeroOk:List Atom->List Value->Bool
 | [],[]=>true
 | .int k n :: as,.int k' m :: vs=>decide (k=k')&&decide (n=m)&&zeroOk as vs
 | .bool b :: as,.bool c :: vs=>(b==c)&&zeroOk as vs
 | .str s :: as,.string s' :: vs=>decide (s.data.toList=s'.data.toList)&&zeroOk as vs
 | .nilp :: as,.pointer none :: vs=>zeroOk as vs
 | .nils :: as,.slice none 0 0 :: vs=>zeroOk as vs
 | .num 0 none :: as,.int .i64 0 :: .int .i64 0 :: .pointer none :: vs=>zeroOk as vs
 | .num 1 none :: as,.int .i64 0 :: .int .i64 0 :: .slice none 0 0 :: vs=>zeroOk as vs
 | .big 1 .nil :: as,.int .i64 0 :: .int .i64 0 :: .slice none 0 0 :: vs=>zeroOk as vs
 | .undef :: as,.nilFunc :: vs=>zeroOk as vs
 | .undef :: as,.nilIface :: vs=>zeroOk as vs
 | .undef :: as,.map none :: vs=>zeroOk as vs
 | _,_=>false
theorem zeroOk_ok(N:NumSem) (G:Ghost) (κ:Kap):∀ (as:List Atom) (vs:List Value),zeroOk as vs=true->AsR N G κ as vs:=by
 intro as vs
 induction as,vs using zeroOk.induct <;> intro h <;> simp only [zeroOk,Bool.and_eq_true,decide_eq_true_eq,beq_iff_eq,Bool.false_eq_true]at h
 ·rfl
 ·rename_i ih;exact⟨[_],_,rfl,by simp [AR,h.1.1,h.1.2],ih h.2⟩
 ·rename_i ih;exact⟨[_],_,rfl,by simp [AR,h.1],ih h.2⟩
 ·rename_i s as s' vs ih;have e:s=s':=by
   have h1:s.data=s'.data:=by rw[<- Array.toArray_toList (xs:=s.data),h.1,Array.toArray_toList]
   cases s;cases s';simpa using h1
  subst e;exact⟨[_],_,rfl,rfl,ih h.2⟩
 ·rename_i ih;exact⟨[_],_,rfl,rfl,ih h⟩
 ·rename_i ih;exact⟨[_],_,rfl,rfl,ih h⟩
 ·rename_i ih;exact⟨[_,_,_],_,rfl,rfl,ih h⟩
 ·rename_i ih;exact⟨[_,_,_],_,rfl,rfl,ih h⟩
 ·rename_i ih;exact⟨[_,_,_],_,rfl,N.big1,ih h⟩
 ·rename_i ih;exact⟨[_],_,rfl,⟨_,rfl,by simp [Plain]⟩,ih h⟩
 ·rename_i ih;exact⟨[_],_,rfl,⟨_,rfl,by simp [Plain]⟩,ih h⟩
 ·rename_i ih;exact⟨[_],_,rfl,⟨_,rfl,by simp [Plain]⟩,ih h⟩
theorem zeroOk_ids:∀ (as:List Atom) (vs:List Value),zeroOk as vs=true->aids as=[]:=by
 intro as vs
 induction as,vs using zeroOk.induct <;> intro h <;> simp only [zeroOk,Bool.and_eq_true,Bool.false_eq_true]at h
 all_goals first | rfl | (rename_i ih;simp_all [aids,Atom.ids])
def fieldsOk(P:Program):List (Nat × Nat)->List Field->Bool
 | [],[]=>true
 | p :: ps,f :: fs=>Nat.beq f.offset p.1&&(match P.info? f.type with | some i=>Nat.beq i.size p.2 | none=>false) && !Nat.beq p.2 0&&fieldsOk P ps fs
 | _,_=>false
def kindOk(P:Program) (t:Nat):TK->Bool
 | .plain=>true
 | .ptr=>match P.underlying t with | some (.pointer _)=>true | _=>false
 | .bool=>match P.underlying t with | some .bool=>true | _=>false
 | .str=>match P.underlying t with | some .string=>true | _=>false
 | .int k=>match P.underlying t with | some (.int k')=>decide (k'=k) | _=>false
 | .struct fs=>match P.underlying t with | some (.struct gs)=>fieldsOk P fs gs.toList | _=>false
 | .array len es=>match P.underlying t with
  | some (.array n el)=>Nat.beq n len&&(match P.info? el with | some i=>Nat.beq i.size es | none=>false)
  | _=>false
 | .slice el by' ty=>match P.underlying t with
  | some (.slice e)=>Nat.beq e el&&(match P.info? el with
   | some i=>Nat.beq i.size ty.w&&Nat.beq i.bytes by'&&Nat.ble by' 4096&&Nat.blt 0 ty.w&&(match i.zero with | some z=>Nat.beq z.cells.size ty.w | none=>false)
   | none=>false)
  | _=>false
def aggOk(P:Program) (t:Nat) (agg:Bool):Bool:=
 match P.underlying t with
 | some (.struct _)=>agg
 | some (.array _ _)=>agg
 | some _=>!agg
 | none=>false
def teOk(P:Program) (t:Nat) (e:TE):Bool:=
 (match P.info? t with
  | some i=>Nat.beq i.size e.size&&(match i.zero,e.agg with
   | some (.agg cs),true=>zeroOk e.zero cs.toList
   | some (.agg cs),false=>false
   | some v,false=>zeroOk e.zero [v]
   | _,_=>false)
  | none=>false)&&aggOk P t e.agg&&kindOk P t e.kind&&(e.agg || Nat.beq e.size 1)
abbrev Tab:=List (Nat × TE)
def tfind{ρ:Type}:Tab->Nat->(TE->Option ρ)->Option ρ
 | [],_,_=>none
 | (k,e) :: r,t,f=>bif Nat.beq k t then f e else tfind r t f
def TabOk(P:Program) (T:Tab):Prop:=∀ p∈T,teOk P p.1 p.2=true
def tabOkB(P:Program):Tab->Bool
 | []=>true
 | p :: r=>teOk P p.1 p.2&&tabOkB P r
theorem TabOk.of{P:Program}:∀ {T:Tab},tabOkB P T=true->TabOk P T
 | [],_=>by intro p hp;cases hp
 | q :: r,h=>by
  simp only [tabOkB,Bool.and_eq_true]at h;intro p hp;cases hp with
  | head=>exact h.1
  | tail _ hp=>exact TabOk.of h.2 p hp
theorem tfind_ok{P:Program} {ρ:Type}:∀ {T:Tab} {t:Nat} {f:TE->Option ρ} {r:ρ},TabOk P T->tfind T t f=some r->∃ e,teOk P t e=true/\f e=some r
 | [],t,f,r,_,h=>by simp [tfind]at h
 | (k,e) :: T,t,f,r,hT,h=>by
  simp only [tfind]at h;cases hb:Nat.beq k t with
  | true =>
   rw[hb]at h;have hk:k=t:=Nat.eq_of_beq_eq_true hb;subst hk;exact⟨e,hT (k,e) (by simp),h⟩
  | false =>
   rw[hb]at h;exact tfind_ok (fun p hp=>hT p (by simp [hp])) h
section
variable {P:Program} {t:Nat} {e:TE}
theorem te_size(h:teOk P t e=true) (w:World):(sizeOf t).run P w=.ok e.size w:=by
 simp only [teOk,Bool.and_eq_true]at h;obtain⟨⟨⟨h,_⟩,_⟩,_⟩:=h;cases hi:P.info? t with
 | none=>simp [hi]at h
 | some i =>
  simp only [hi,Bool.and_eq_true]at h;simp [sizeOf,typeInfo,hi,Nat.eq_of_beq_eq_true h.1]
theorem te_agg(h:teOk P t e=true) (w:World):(isAgg t).run P w=.ok e.agg w:=by
 simp only [teOk,Bool.and_eq_true]at h;obtain⟨⟨⟨_,h⟩,_⟩,_⟩:=h;unfold aggOk at h;cases hu:P.underlying t with
 | none=>simp [hu]at h
 | some d =>
  simp only [hu]at h;cases d <;> simp at h <;> simp [isAgg,underlying,hu,h]
theorem te_one(h:teOk P t e=true) (ha:e.agg=false):e.size=1:=by
 simp only [teOk,Bool.and_eq_true,ha,Bool.false_or]at h;exact Nat.eq_of_beq_eq_true h.2
theorem te_info(h:teOk P t e=true):∃ i z,P.info? t=some i/\i.size=e.size/\i.zero=some z/\(∀ N G κ,SR N G κ e.agg e.zero z)/\(∀ N G κ,AsR N G κ e.zero z.cells.toList)/\aids e.zero=[]:=by
 simp only [teOk,Bool.and_eq_true]at h;obtain⟨⟨⟨h,_⟩,_⟩,_⟩:=h;cases hi:P.info? t with
 | none=>simp [hi]at h
 | some i =>
  simp only [hi,Bool.and_eq_true]at h;obtain⟨hs,h⟩:=h;split at h
  ·rename_i cs hz ha;exact⟨i,.agg cs,rfl,Nat.eq_of_beq_eq_true hs,hz,fun N G κ=>by rw[ha];exact⟨cs,rfl,zeroOk_ok N G κ _ _ h⟩,fun N G κ=>zeroOk_ok N G κ _ _ h,zeroOk_ids _ _ h⟩
  ·contradiction
  ·rename_i v hn hz ha;have hc:v.cells.toList=[v]:=by
    cases v <;> first | rfl | (rename_i cs;exact absurd rfl (hn cs))
   exact⟨i,v,rfl,Nat.eq_of_beq_eq_true hs,hz,fun N G κ=>by rw[ha];exact zeroOk_ok N G κ _ _ h,fun N G κ=>by rw[hc];exact zeroOk_ok N G κ _ _ h,zeroOk_ids _ _ h⟩
  ·contradiction
theorem te_zero(h:teOk P t e=true) (w:World):∃ z,(zeroValue t).run P w=.ok z w/\(∀ N G κ,SR N G κ e.agg e.zero z)/\(∀ N G κ,AsR N G κ e.zero z.cells.toList)/\aids e.zero=[]:=by
 simp only [teOk,Bool.and_eq_true]at h;obtain⟨⟨⟨h,_⟩,_⟩,_⟩:=h;cases hi:P.info? t with
 | none=>simp [hi]at h
 | some i =>
  simp only [hi,Bool.and_eq_true]at h;obtain⟨_,h⟩:=h;split at h
  ·rename_i cs hz ha;exact⟨.agg cs,by simp [zeroValue,typeInfo,hi,hz],fun N G κ=>by rw[ha];exact⟨cs,rfl,zeroOk_ok N G κ _ _ h⟩,fun N G κ=>zeroOk_ok N G κ _ _ h,zeroOk_ids _ _ h⟩
  ·contradiction
  ·rename_i v hn hz ha;have hc:v.cells.toList=[v]:=by
    cases v <;> first | rfl | (rename_i cs;exact absurd rfl (hn cs))
   exact⟨v,by simp [zeroValue,typeInfo,hi,hz],fun N G κ=>by rw[ha];exact zeroOk_ok N G κ _ _ h,fun N G κ=>by rw[hc];exact zeroOk_ok N G κ _ _ h,zeroOk_ids _ _ h⟩
  ·contradiction
theorem te_kind(h:teOk P t e=true):kindOk P t e.kind=true:=by
 simp only [teOk,Bool.and_eq_true]at h;exact h.1.2
end
def dropW:List Atom->Nat->Option (List Atom)
 | as,0=>some as
 | [],_+1=>none
 | a :: as,n+1=>bif Nat.ble a.w (n+1)then dropW as (n+1-a.w)else none
def takeW:List Atom->Nat->Option (List Atom)
 | _,0=>some []
 | [],_+1=>none
 | a :: as,n+1=>bif Nat.ble a.w (n+1)then(match takeW as (n+1-a.w)with | some r=>some (a :: r) | none=>none)else none
theorem dropW_ok{N:NumSem} {G:Ghost} {κ:Kap}:∀ {as:List Atom} {n:Nat} {bs:List Atom},dropW as n=some bs->∀ {cs:List Value},AsR N G κ as cs ->
  n<=cs.length/\AsR N G κ bs (cs.drop n):=by
 intro as
 induction as with
 | nil =>
  intro n bs h cs hc;cases n with
  | zero=>simp only [dropW,Option.some.injEq]at h;subst h;exact⟨Nat.zero_le _,by simpa using hc⟩
  | succ n=>simp [dropW]at h
 | cons a as ih =>
  intro n bs h cs hc;cases n with
  | zero=>simp only [dropW,Option.some.injEq]at h;subst h;exact⟨Nat.zero_le _,by simpa using hc⟩
  | succ n =>
   simp only [dropW]at h;cases hb:Nat.ble a.w (n+1)with
   | false=>rw[hb]at h;contradiction
   | true =>
    rw[hb]at h;have hle:a.w<=n+1:=Nat.le_of_ble_eq_true hb;obtain⟨c,d,e,h1,h2⟩:=hc;obtain⟨h3,h4⟩:=ih h h2;have hl:=h1.len;subst e;refine⟨by simp;omega,?_⟩;rw[List.drop_append,List.drop_eq_nil_of_le (by omega),List.nil_append,hl];exact h4
theorem takeW_ok{N:NumSem} {G:Ghost} {κ:Kap}:∀ {as:List Atom} {n:Nat} {bs:List Atom},takeW as n=some bs->∀ {cs:List Value},AsR N G κ as cs ->
  n<=cs.length/\AsR N G κ bs (cs.take n):=by
 intro as
 induction as with
 | nil =>
  intro n bs h cs hc;cases n with
  | zero=>simp only [takeW,Option.some.injEq]at h;subst h;exact⟨Nat.zero_le _,by simp [AsR]⟩
  | succ n=>simp [takeW]at h
 | cons a as ih =>
  intro n bs h cs hc;cases n with
  | zero=>simp only [takeW,Option.some.injEq]at h;subst h;exact⟨Nat.zero_le _,by simp [AsR]⟩
  | succ n =>
   simp only [takeW]at h;cases hb:Nat.ble a.w (n+1)with
   | false=>rw[hb]at h;contradiction
   | true =>
    rw[hb,cond_true]at h;cases hr:takeW as (n+1-a.w)with
    | none=>rw[hr]at h;contradiction
    | some r =>
     rw[hr]at h;simp only [Option.some.injEq]at h;subst h;have hle:a.w<=n+1:=Nat.le_of_ble_eq_true hb;obtain⟨c,d,e,h1,h2⟩:=hc;obtain⟨h3,h4⟩:=ih hr h2;have hl:=h1.len;subst e;refine⟨by simp;omega,c,d.take (n+1-a.w),?_,h1,h4⟩;rw[List.take_append,List.take_of_length_le (by omega),hl]
theorem run_loadVar{P:Program} {t:Nat} {e:TE} (h:teOk P t e=true) {w:World} {b o:Nat} {vs:List Value} (hl:vs.length=e.size)
  (hc:∀ j v,vs[j]? = some v->w.cell? ⟨b,o+j,none⟩=some v) :
  ∃ x,(Instr.loadAt t (.pointer (some ⟨b,o,none⟩))).run P w=.ok x w /\ ∀ {N:NumSem} {G:Ghost} {κ:Kap} {as:List Atom},AsR N G κ as vs->SR N G κ e.agg as x:=by
 have hadd:∀ j,(⟨b,o,none⟩:Addr).add j=⟨b,o+j,none⟩:=fun j=>Addr.add_lit b o j
 have hc':∀ j v,vs[j]? = some v->w.cell? ((⟨b,o,none⟩:Addr).add j)=some v:=fun j v e=>by rw[hadd];exact hc j v e
 cases ha:e.agg with
 | true =>
  refine⟨.agg vs.toArray,?_,fun hr=>⟨vs.toArray,rfl,by simpa using hr⟩⟩;have h1:=te_agg h w;have h2:=te_size h w;have h3:=run_loadCells_list (P:=P) w ⟨b,o,none⟩ vs hc';rw[hl]at h3;simp [Instr.loadAt,Instr.sureAddr,loadVar,h1,h2,ha,h3]
 | false =>
  have h1:=te_one h ha;rw[h1]at hl;obtain⟨v,rfl⟩:=List.length_eq_one_iff.1 hl;refine⟨v,?_,fun hr=>hr⟩;have h2:=te_agg h w;have h3:=hc 0 v rfl;simp [Instr.loadAt,Instr.sureAddr,loadVar,h2,ha]at h3 ⊢;rw[h3]
theorem cell_of_heap{w:World} {b o:Nat} {cs:Array Value} {ty:Nat} {fr:Nat × Nat} (h:w.heap[b]? = some (.cells cs ty fr)) (j:Nat) :
  w.cell? ⟨b,o+j,none⟩=cs[o+j]?:=by simp [World.cell?,h]
theorem getElem?_take_drop {α:Type} (cs:List α) (o n j:Nat) (v:α) (h:((cs.drop o).take n)[j]? = some v):cs[o+j]? = some v:=by
 rw[List.getElem?_take]at h;split at h
 ·rw[List.getElem?_drop]at h;exact h
 ·contradiction
theorem oneCell_of_plain{v:Value} (h:Plain v):v.oneCell'=true:=by
 cases v with
 | agg xs=>exact absurd rfl (h.1 xs)
 | tuple xs=>exact absurd rfl (h.2 xs)
 | _=>rfl
theorem SR.cells{N:NumSem} {G:Ghost} {κ:Kap} {g:Bool} {as:List Atom} {x:Value} (h:SR N G κ g as x):AsR N G κ as x.cells.toList:=by
 cases g with
 | true=>obtain⟨cs,rfl,h⟩:=h;exact h
 | false =>
  have hp:=AsR.plain h x (by simp);have:x.cells.toList=[x]:=by
   cases x with
   | agg xs=>exact absurd rfl (hp.1 xs)
   | _=>rfl
  rw[this];exact h
theorem run_storeVar{P:Program} {t:Nat} {e:TE} (h:teOk P t e=true) {w:World} {b o:Nat} {cur:Array Value} {ty:Nat} (hb:w.heap[b]? = some (.cells cur ty (0,0)))
  {x:Value} (hx:x.cells.toList.length=e.size) (hp:∀ v∈x.cells.toList,Plain v) (hfit:o+e.size<=cur.size) :
  (Instr.storeAt t (.pointer (some ⟨b,o,none⟩)) x).run P w=.ok () (w.setRow b (cur.toList.take o++x.cells.toList++cur.toList.drop (o+e.size)).toArray):=by
 have h2:=te_size h w;have hst:=run_storeCells_at P b o ty x.cells.toList 0 cur w hb (by rw[hx];simpa using hfit) fun v hv=>oneCell_of_plain (hp v hv)
 have hs:x.cells.size=e.size:=by simpa using hx
 simp only [Nat.add_zero,hx]at hst;simp [Instr.storeAt,Instr.sureAddr,storeVar,h2,hs,hst]
end Go.Abs

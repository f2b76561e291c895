/-
 A PART OF THE PROOF of ClI (texts DrwA DrwB FrA BigG BigH RootA RootB RootC RootD RootE FrL RatO MeetP MeetA MeetB MeetC MeetD LstA SrtP SrtQ SrtR TreA TreB TreC): the claim itself stands in the last text. No conditions beside those of the given row.
-/
import Derived.Test.YtjefeldkonejcaaGreatLivE
import Derived.Test.YtjefeldkonejcaaGreatRowA
import Derived.Test.YtjefeldkonejcaaGreatSpcK
import Derived.Test.YtjefeldkonejcaaGreatBigF
import Derived.Test.YtjefeldkonejcaaGreatTryA
import Derived.Test.YtjefeldkonejcaaGreatLivB
set_option linter.unusedVariables false
set_option linter.unnecessarySimpa false
set_option linter.unusedSimpArgs false
namespace Go.Abs
open Go.Proofs
set_option maxRecDepth 100000
end Go.Abs
namespace Go.Abs
open Go.Proofs
set_option maxRecDepth 100000
theorem divInt_le{n d:Int} (hd:d≠0):(Rat.divInt n d).num.natAbs<=n.natAbs/\(Rat.divInt n d).den<=d.natAbs:=by
 rcases Int.lt_trichotomy d 0 with h | h | h
 ·have e:Rat.divInt n d=Rat.divInt (-n) (-d):=(Rat.neg_divInt_neg n d).symm;rw[e];have:=divInt_pos_le (n:=-n) (d:=-d) (by omega);omega
 ·exact absurd h hd
 ·exact divInt_pos_le h
theorem szQ_of{q:Rat} (h:q.num.natAbs<18446744073709551616/\q.den<18446744073709551616):szQ q=true:=by
 unfold szQ;have h1:=words_small h.1;have h2:=words_small h.2;rw[decide_eq_true (by omega),decide_eq_true (by omega)];rfl
structure Two where
 a:Int
 b:Int
 c:Int
 d:Int
end Go.Abs
namespace Go.Abs
open Go.Proofs
set_option maxRecDepth 100000
theorem szQ_q{a b:Int} (h:qOkB a b=true):szQ (Rat.divInt a b)=true:=by
 obtain⟨h1,h2,h3,h4,h5⟩:=qOkB_iff.1 h;have:=divInt_le (n:=a) (d:=b) (by omega);exact szQ_of ⟨by omega,by omega⟩
def ok2(a b c d:Int):Bool:=qOkB a b&&qOkB c d
def opN(g:Int->Int->Int->Int->Bool) (f:Rat->Rat->Rat) (a b c d:Int):Int:=bif g a b c d then qNum (f (Rat.divInt a b) (Rat.divInt c d))else 0
def opD(g:Int->Int->Int->Int->Bool) (f:Rat->Rat->Rat) (a b c d:Int):Int:=bif g a b c d then qDen (f (Rat.divInt a b) (Rat.divInt c d))else 0
def opT(g:Int->Int->Int->Int->Bool) (f:Rat->Rat->Rat) (a b c d:Int):Bool:=bif g a b c d then qFit (f (Rat.divInt a b) (Rat.divInt c d))else false
def opO(g:Int->Int->Int->Int->Bool) (f:Rat->Rat->Rat):Orc:=fun ρ args H cont=>match args,H with
 | [.v true [.int .i64 a,.int .i64 b],.v true [.int .i64 c,.int .i64 d]],[]=>cont (tupB (opN g f a b c d) (opD g f a b c d) (opT g f a b c d)) []
 | _,_=>none
def qcmV(a b c d:Int):Int:=bif ok2 a b c d then cmpQ (Rat.divInt a b) (Rat.divInt c d)else 2
def qcmO:Orc:=fun ρ args H cont=>match args,H with
 | [.v true [.int .i64 a,.int .i64 b],.v true [.int .i64 c,.int .i64 d]],[]=>cont (one (.int .i64 (qcmV a b c d))) []
 | _,_=>none
theorem q_rt{a b:Int} (h:qOkB a b=true):(Rat.divInt a b).num=a/\((Rat.divInt a b).den:Int)=b:=by
 obtain⟨h1,h2,h3,h4,h5⟩:=qOkB_iff.1 h;obtain⟨k1,k2⟩:=divInt_pos a b (by omega);rw[h5,Int.natCast_one,Int.ediv_one]at k1 k2;exact⟨k1,k2⟩
end Go.Abs
namespace Go.Abs
open Go.Proofs
set_option maxRecDepth 100000
end Go.Abs
namespace Go.Abs
open Go.Proofs
set_option maxRecDepth 100000
end Go.Abs
namespace Go.Abs
open Go.Proofs
set_option maxRecDepth 100000
end Go.Abs
namespace Go.Abs
open Go.Proofs
set_option maxRecDepth 100000
end Go.Abs
namespace Go.Abs
open Go.Proofs
set_option maxRecDepth 100000
end Go.Abs
namespace Go.Abs
open Go.Proofs
set_option maxRecDepth 100000
end Go.Abs
namespace Go.Abs
open Go.Proofs
set_option maxRecDepth 100000
end Go.Abs
namespace Go.Abs
open Go.Proofs
set_option maxRecDepth 100000
section
variable {g:Int->Int->Int->Int->Bool} {f:Rat->Rat->Rat} {a b c d:Int}
end
end Go.Abs
namespace Go.Abs
theorem cmpQ_lt{p q:Rat}:cmpQ p q<0 ↔ p<q:=by
 unfold cmpQ;rw[Rat.lt_iff,Int.sign_neg_iff];omega
theorem cmpQ_gt{p q:Rat}:0<cmpQ p q ↔ q<p:=by
 unfold cmpQ;rw[Rat.lt_iff,Int.sign_pos_iff];omega
theorem cmpQ_eq{p q:Rat}:cmpQ p q=0 ↔ p=q:=by
 unfold cmpQ;rw[Int.sign_eq_zero_iff_zero];have h1:=@cmpQ_lt p q;have h2:=@cmpQ_gt p q;constructor
 ·intro h;have:=@Rat.lt_iff p q;have:=@Rat.lt_iff q p;have:=Rat.not_lt (a:=p) (b:=q);have:=Rat.not_lt (a:=q) (b:=p);apply Rat.le_antisymm
  ·grind
  ·grind
 ·rintro rfl;omega
end Go.Abs
namespace Go.Abs
structure Pl where
 x:Rat
 y:Rat
theorem Pl.ext'{p q:Pl} (h1:p.x=q.x) (h2:p.y=q.y):p=q:=by cases p;cases q;simp_all
instance:DecidableEq Pl:=fun p q=>decidable_of_iff (p.x=q.x/\p.y=q.y) ⟨fun h=>Pl.ext' h.1 h.2,fun h=>by rw[h];exact⟨rfl,rfl⟩⟩
def crP(a b:Pl):Rat:=a.x*b.y-a.y*b.x
def sbP(a b:Pl):Pl:=⟨a.x-b.x,a.y-b.y⟩
def lxP(a b:Pl):Prop:=a.x<b.x\/a.x=b.x/\a.y<b.y
instance (a b:Pl):Decidable (lxP a b):=by unfold lxP;infer_instance
def loP(a b:Pl):Pl:=if lxP b a then b else a
def hiP(a b:Pl):Pl:=if lxP b a then a else b
def mxP(p x:Pl):Pl:=if lxP p x then x else p
def btw(e a b:Rat):Prop:=(a<=e\/b<=e)/\(e<=a\/e<=b)
instance (e a b:Rat):Decidable (btw e a b):=by unfold btw;infer_instance
def onP(e a b:Pl):Prop:=btw e.x a.x b.x/\btw e.y a.y b.y/\crP (sbP b a) (sbP e a)=0
instance (e a b:Pl):Decidable (onP e a b):=by unfold onP;infer_instance
def apP(a b c d:Rat):Prop:=(a<c/\a<d/\b<c/\b<d)\/(c<a/\c<b/\d<a/\d<b)
instance (a b c d:Rat):Decidable (apP a b c d):=by unfold apP;infer_instance
end Go.Abs
namespace Go.Abs
open Go.Proofs
set_option maxRecDepth 100000
end Go.Abs
namespace Go.Abs
open Go.Proofs
set_option maxRecDepth 100000
def s8(q:Rat):Bool:=decide ((words q.num.natAbs).length<8)&&decide ((words q.den).length<8)
theorem s8_ok{q:Rat} (h:s8 q=true):szN 8 q:=by simpa [s8,szN] using h
theorem szN.qq{B:Nat} {q:Rat} (h:szN B q) (hB:B<=100000000):szQ q=true:=(h.mono hB).q
theorem s8_q{a b:Int} (h:qOkB a b=true):s8 (Rat.divInt a b)=true:=by
 obtain⟨h1,h2⟩:=(show (Rat.divInt a b).num.natAbs<=1000000000000000000/\(Rat.divInt a b).den<=1000000000000000000 by
  obtain⟨h1,h2,h3,h4,h5⟩:=qOkB_iff.1 h;have:=divInt_le (n:=a) (d:=b) (by omega);exact⟨by omega,by omega⟩)
 have w1:=words_small (n:=(Rat.divInt a b).num.natAbs) (by omega);have w2:=words_small (n:=(Rat.divInt a b).den) (by omega);unfold s8;rw[decide_eq_true (by omega),decide_eq_true (by omega)];rfl
end Go.Abs
namespace Go.Abs
open Go.Proofs
set_option maxRecDepth 100000
abbrev m4(p q:Pl):Prop:=(0=0/\0=0/\0=0/\0=0)/\szM p.x=true/\szM p.y=true/\szM q.x=true/\szM q.y=true
section
variable {ρ:Type} (cont:SV->HL->Option ρ)
end
end Go.Abs
namespace Go.Abs
open Go.Proofs
set_option maxRecDepth 100000
def szP(B:Nat) (p:Pl):Prop:=szN B p.x/\szN B p.y
theorem szP.sub{B:Nat} {p q:Pl} (hp:szP B p) (hq:szP B q):szP (2*B) (sbP p q):=⟨hp.1.sub hq.1,hp.2.sub hq.2⟩
theorem szP.cr{B:Nat} {p q:Pl} (hp:szP B p) (hq:szP B q):szN (2*(2*B)) (crP p q):=(hp.1.mul hq.2).sub (hp.2.mul hq.1)
theorem szN.inv{B:Nat} {q:Rat} (h:szN B q) (h0:q≠0):szN B q⁻¹:=by
 obtain⟨h1,h2⟩:=inv_parts h0;have e1:q⁻¹.num.natAbs=q.den:=by rw[h1];split <;> omega
 have e2:q⁻¹.den=q.num.natAbs:=by split at h2 <;> omega
 unfold szN;rw[e1,e2];exact⟨h.2,h.1⟩
theorem szN.div{B:Nat} {p q:Rat} (hp:szN B p) (hq:szN B q) (h0:q≠0):szN (2*B) (p / q):=by
 rw[Rat.div_def];exact hp.mul (hq.inv h0)
section
variable {ρ:Type} (cont:SV->HL->Option ρ)
theorem szP.lo{B:Nat} {a b:Pl} (h1:szP B a) (h2:szP B b):szP B (loP a b):=by unfold loP;split <;> assumption
theorem szP.hi{B:Nat} {a b:Pl} (h1:szP B a) (h2:szP B b):szP B (hiP a b):=by unfold hiP;split <;> assumption
theorem szP.mx{B:Nat} {a b:Pl} (h1:szP B a) (h2:szP B b):szP B (mxP a b):=by unfold mxP;split <;> assumption
end
end Go.Abs
namespace Go.Abs
open Go.Proofs
def runL{ρ α S:Type} (body:Int->α->S->(S->Option ρ)->Option ρ) (fin:S->Option ρ):List α->Int->S->Option ρ
 | [],_,st=>fin st
 | x :: r,i,st=>body i x st fun st'=>runL body fin r (i+1) st'
theorem wrap_small{i:Int} (h0:-9223372036854775808<=i) (h:i<9223372036854775808):IntKind.i64.wrap i=i:=by rw[IntKind.wrap_i64];omega
theorem lst_at{ρ α:Type} {xs:List α} {i:Nat} (h:i<xs.length) (f:α->Option ρ):(if(0:Int)<=(i:Int)then xs[(i:Int).toNat]?.bind f else none)=f xs[i]:=by
 rw[if_pos (by omega),Int.toNat_natCast,List.getElem?_eq_getElem h,Option.bind_some]
theorem lst_in{ρ α:Type} {xs:List α} {i:Nat} (h:i<xs.length) (f:α->Option ρ) (e:Option ρ):(bif decide ((i:Int)<(xs.length:Int))then(if(0:Int)<=(i:Int)then xs[(i:Int).toNat]?.bind f else none)else e)=f xs[i]:=by
 rw[decide_eq_true (by omega),cond_true,lst_at h]
theorem lst_out{ρ α:Type} {xs:List α} (f e:Option ρ):(bif decide ((xs.length:Int)<(xs.length:Int))then f else e)=e:=by
 rw[decide_eq_false (by omega),cond_false]
theorem lst_wrap{α:Type} {xs:List α} (hl:xs.length<4611686018427387904) {i:Nat} (h:i<xs.length):IntKind.i64.wrap ((i:Int)+1)=((i+1:Nat):Int):=wrap_small (by omega) (by omega)
theorem itF_list{ρ α S:Type} {T:(St->Option ρ)->St->Option ρ} {xs:List α} {s:Int->S->St} {body:Int->α->S->(S->Option ρ)->Option ρ} {fin:S->Option ρ}
  (h0:∀ go st,T go (s (xs.length:Int) st)=fin st) (h1:∀ go (i:Nat) (hi:i<xs.length) st,T go (s (i:Int) st)=body (i:Int) xs[i] st fun st'=>go (s ((i+1:Nat):Int) st')) :
  ∀ (m i:Nat) (st:S),i+m=xs.length->itF T (fun _=>none) (m+1) (s i st)=runL body fin (xs.drop i) i st
 | 0,i,st,h=>by
  show T _ (s i st)=_;obtain rfl:i=xs.length:=by omega
  rw[h0,List.drop_of_length_le (Nat.le_refl _)];rfl
 | m+1,i,st,h=>by
  show T _ (s i st)=_;rw[h1 _ i (by omega),List.drop_eq_getElem_cons (by omega)];have e:(fun st'=>itF T (fun _=>none) (m+1) (s ((i+1:Nat):Int) st'))=fun st'=>runL body fin (xs.drop (i+1)) ((i:Int)+1) st':=by
   funext st';exact itF_list h0 h1 m (i+1) st' (by omega)
  exact congrArg (body (i:Int) xs[i] st) e
theorem itF_list0{ρ α S:Type} {T:(St->Option ρ)->St->Option ρ} {xs:List α} {s:Int->S->St} {body:Int->α->S->(S->Option ρ)->Option ρ} {fin:S->Option ρ}
  (h0:∀ go st,T go (s (xs.length:Int) st)=fin st) (h1:∀ go (i:Nat) (hi:i<xs.length) st,T go (s (i:Int) st)=body (i:Int) xs[i] st fun st'=>go (s ((i+1:Nat):Int) st')) (st:S) :
  itF T (fun _=>none) (xs.length+1) (s 0 st)=runL body fin xs 0 st:=itF_list h0 h1 xs.length 0 st (by omega)
def foldI{α S:Type} (stp:Nat->α->S->S):List α->Nat->S->S
 | [],_,st=>st
 | x :: r,i,st=>foldI stp r (i+1) (stp i x st)
theorem itF_fold{ρ α S:Type} {T:(St->Option ρ)->St->Option ρ} {xs:List α} {s:Int->S->St} {stp:Nat->α->S->S} {fin:S->Option ρ} {I:S->Prop}
  (h0:∀ go st,I st->T go (s (xs.length:Int) st)=fin st) (h1:∀ go (i:Nat) (hi:i<xs.length) st,I st->T go (s (i:Int) st)=go (s ((i+1:Nat):Int) (stp i xs[i] st))/\I (stp i xs[i] st)) :
  ∀ (m i:Nat) (st:S),i+m=xs.length->I st->itF T (fun _=>none) (m+1) (s i st)=fin (foldI stp (xs.drop i) i st)/\I (foldI stp (xs.drop i) i st)
 | 0,i,st,h,hI=>by
  obtain rfl:i=xs.length:=by omega
  rw[List.drop_of_length_le (Nat.le_refl _)];exact⟨h0 _ st hI,hI⟩
 | m+1,i,st,h,hI=>by
  obtain⟨h2,h3⟩:=h1 (itF T (fun _=>none) (m+1)) i (by omega) st hI;obtain⟨h4,h5⟩:=itF_fold h0 h1 m (i+1) _ (by omega) h3;rw[List.drop_eq_getElem_cons (by omega)];exact⟨h2.trans h4,h5⟩
end Go.Abs
namespace Go.Abs
def seg{α:Type} (xs:List α) (i j:Nat):List α:=(xs.drop i).take (j-i)
section
variable {α:Type} {xs:List α}
theorem seg_len{i j:Nat} (h:j<=xs.length) (hi:i<=j):(seg xs i j).length=j-i:=by
 unfold seg;rw[List.length_take,List.length_drop];omega
theorem seg_app{i j k:Nat} (h1:i<=j) (h2:j<=k):seg xs i k=seg xs i j++seg xs j k:=by
 unfold seg;have:k-i=(j-i)+(k-j):=by omega
 rw[this,List.take_add,List.drop_drop];have:i+(j-i)=j:=by omega
 rw[this]
theorem seg_nil{i j:Nat} (h:j<=i):seg xs i j=[]:=by
 unfold seg;rw[show j-i=0 by omega,List.take_zero]
theorem seg_get{i j t:Nat} (ht:t<j-i):(seg xs i j)[t]? = xs[i+t]?:=by
 unfold seg;rw[List.getElem?_take,if_pos ht,List.getElem?_drop]
theorem seg_one{i:Nat} {x:α} (h:xs[i]? = some x):seg xs i (i+1)=[x]:=by
 unfold seg;obtain⟨h1,h2⟩:=List.getElem?_eq_some_iff.1 h;rw[show i+1-i=1 by omega,List.drop_eq_getElem_cons h1,h2];rfl
theorem seg_mem{i j:Nat} {x:α}:x∈seg xs i j ↔ ∃ t,i<=t/\t<j/\xs[t]? = some x:=by
 rw[List.mem_iff_getElem?];constructor
 ·rintro⟨t,h⟩
  by_cases ht:t<j-i
  ·rw[seg_get ht]at h;exact⟨i+t,by omega,by omega,h⟩
  ·unfold seg at h;rw[List.getElem?_take,if_neg ht]at h;cases h
 ·rintro⟨t,h1,h2,h3⟩
  refine⟨t-i,?_⟩;rw[seg_get (by omega),show i+(t-i)=t by omega];exact h3
theorem seg_pw{R:α->α->Prop} {i j:Nat}:(seg xs i j).Pairwise R ↔ ∀ s t x y,i<=s->s<t->t<j->xs[s]? = some x->xs[t]? = some y->R x y:=by
 rw[List.pairwise_iff_getElem];constructor
 ·intro h s t x y h1 h2 h3 hx hy;have e1:(seg xs i j)[s-i]? = some x:=by rw[seg_get (by omega),show i+(s-i)=s by omega];exact hx
  have e2:(seg xs i j)[t-i]? = some y:=by rw[seg_get (by omega),show i+(t-i)=t by omega];exact hy
  obtain⟨k1,q1⟩:=List.getElem?_eq_some_iff.1 e1;obtain⟨k2,q2⟩:=List.getElem?_eq_some_iff.1 e2;rw[<- q1,<- q2];exact h _ _ _ _ (by omega)
 ·intro h s t h1 h2 hst;have l:(seg xs i j).length<=j-i:=by unfold seg;rw[List.length_take];omega
  refine h (i+s) (i+t) _ _ (by omega) (by omega) (by omega) ?_ ?_
  ·rw[<- seg_get (j:=j) (by omega)];exact List.getElem?_eq_getElem h1
  ·rw[<- seg_get (j:=j) (by omega)];exact List.getElem?_eq_getElem h2
theorem seg_all:seg xs 0 xs.length=xs:=by
 unfold seg;rw[List.drop_zero,Nat.sub_zero,List.take_length]
end
def bsr(f:Nat->Bool):Nat->Nat->Nat->Nat
 | 0,i,_=>i
 | n+1,i,j=>if i<j then(if f ((i+j) / 2)then bsr f n ((i+j) / 2+1) j else bsr f n i ((i+j) / 2))else i
theorem bsr_ok(f:Nat->Bool):∀ (n i j:Nat),i<=j->j-i<=n->i<=bsr f n i j/\bsr f n i j<=j/\(bsr f n i j=i\/f (bsr f n i j-1)=true)/\(bsr f n i j=j\/f (bsr f n i j)=false)
 | 0,i,j,h,hn=>⟨Nat.le_refl _,h,.inl rfl,.inl (by show i=j;omega)⟩
 | n+1,i,j,h,hn=>by
  unfold bsr
  by_cases hij:i<j
  ·rw[if_pos hij]
   by_cases hf:f ((i+j) / 2)=true
   ·rw[if_pos hf];obtain⟨h1,h2,h3,h4⟩:=bsr_ok f n ((i+j) / 2+1) j (by omega) (by omega);refine⟨by omega,h2,.inr ?_,h4⟩;rcases h3 with h3 | h3
    ·rw[h3,Nat.add_sub_cancel];exact hf
    ·exact h3
   ·rw[if_neg hf];obtain⟨h1,h2,h3,h4⟩:=bsr_ok f n i ((i+j) / 2) (by omega) (by omega);refine⟨h1,by omega,h3,.inr ?_⟩;rcases h4 with h4 | h4
    ·rw[h4];simpa using hf
    ·exact h4
  ·rw[if_neg hij];exact⟨Nat.le_refl _,h,.inl rfl,.inl (by omega)⟩
def rotL{α:Type} (xs:List α) (a m b:Nat):List α:=xs.take a++(seg xs m b++(seg xs a m++xs.drop b))
section
variable {α:Type} {xs:List α} {a m b:Nat}
theorem rot_len(h1:a<=m) (h2:m<=b) (h3:b<=xs.length):(rotL xs a m b).length=xs.length:=by
 unfold rotL;rw[List.length_append,List.length_append,List.length_append,seg_len h3 h2,seg_len (by omega) h1,List.length_take,List.length_drop];omega
theorem rot_low(h1:a<=m) (h2:m<=b) (h3:b<=xs.length) {t:Nat} (ht:t<a):(rotL xs a m b)[t]? = xs[t]?:=by
 unfold rotL;rw[List.getElem?_append_left (by rw[List.length_take];omega),List.getElem?_take,if_pos ht]
theorem rot_one(h1:a<=m) (h2:m<=b) (h3:b<=xs.length) {t:Nat} (ht:a<=t) (ht2:t<a+(b-m)):(rotL xs a m b)[t]? = xs[t-a+m]?:=by
 unfold rotL;have l:(xs.take a).length=a:=by rw[List.length_take];omega
 rw[List.getElem?_append_right (by omega),l,List.getElem?_append_left (by rw[seg_len h3 h2];omega),seg_get (by omega),show m+(t-a)=t-a+m by omega]
theorem rot_two(h1:a<=m) (h2:m<=b) (h3:b<=xs.length) {t:Nat} (ht:a+(b-m)<=t) (ht2:t<b):(rotL xs a m b)[t]? = xs[t-(b-m)]?:=by
 unfold rotL;have l:(xs.take a).length=a:=by rw[List.length_take];omega
 rw[List.getElem?_append_right (by omega),l,List.getElem?_append_right (by rw[seg_len h3 h2];omega),seg_len h3 h2,List.getElem?_append_left (by rw[seg_len (by omega) h1];omega),seg_get (by omega)];congr 1;omega
theorem rot_high(h1:a<=m) (h2:m<=b) (h3:b<=xs.length) {t:Nat} (ht:b<=t):(rotL xs a m b)[t]? = xs[t]?:=by
 unfold rotL;have l:(xs.take a).length=a:=by rw[List.length_take];omega
 rw[List.getElem?_append_right (by omega),l,List.getElem?_append_right (by rw[seg_len h3 h2];omega),seg_len h3 h2,List.getElem?_append_right (by rw[seg_len (by omega) h1];omega),seg_len (by omega) h1,List.getElem?_drop];congr 1;omega
theorem rot_perm(h1:a<=m) (h2:m<=b) (h3:b<=xs.length):(rotL xs a m b).Perm xs:=by
 have e:xs=xs.take a++(seg xs a m++(seg xs m b++xs.drop b)):=by
  have k1:xs=xs.take a++xs.drop a:=(List.take_append_drop a xs).symm;have k2:xs.drop a=seg xs a b++xs.drop b:=by
   unfold seg;have:=(List.take_append_drop (b-a) (xs.drop a)).symm;rw[List.drop_drop,show a+(b-a)=b by omega]at this;exact this
  rw[seg_app h1 h2,List.append_assoc]at k2;rw[<- k2];exact k1
 have:(rotL xs a m b).Perm (xs.take a++(seg xs a m++(seg xs m b++xs.drop b))):=by
  unfold rotL;refine List.Perm.append_left _ ?_;rw[<- List.append_assoc,<- List.append_assoc];exact List.Perm.append_right _ List.perm_append_comm
 rw[<- e]at this;exact this
end
theorem seg_eq{α:Type} {xs ys:List α} {i j i':Nat} (h:∀ t,t<j-i->xs[i+t]? = ys[i'+t]?):seg xs i j=seg ys i' (i'+(j-i)):=by
 apply List.ext_getElem?
 intro t
 by_cases ht:t<j-i
 ·rw[seg_get ht,seg_get (by omega),h t ht]
 ·unfold seg;rw[List.getElem?_take,if_neg ht,List.getElem?_take,if_neg (by omega)]
theorem seg_eq'{α:Type} {xs ys:List α} {i j:Nat} (h:∀ t,i<=t->t<j->xs[t]? = ys[t]?):seg xs i j=seg ys i j:=by
 rcases Nat.lt_or_ge i j with hij | hij
 ·rw[seg_eq (i':=i) (ys:=ys) fun t ht=>h (i+t) (by omega) (by omega),show i+(j-i)=j by omega]
 ·rw[seg_nil hij,seg_nil hij]
structure Done {α:Type} (R:α->α->Prop) (xs:List α) (a b:Nat) (ys:List α):Prop where
 len:ys.length=xs.length
 low:∀ t,t<a->ys[t]? = xs[t]?
 high:∀ t,b<=t->ys[t]? = xs[t]?
 perm:(seg ys a b).Perm (seg xs a b)
 pw:(seg ys a b).Pairwise R
section
variable {α:Type} {R:α->α->Prop}
theorem Done.same{xs ys:List α} {a b:Nat} (h:Done R xs a b ys) {i j:Nat} (hs:j<=a\/b<=i):seg ys i j=seg xs i j:=
 seg_eq' fun t h1 h2=>hs.elim (fun h3=>h.low t (by omega)) (fun h3=>h.high t (by omega))
theorem Done.refl{xs:List α} {a b:Nat} (h:(seg xs a b).Pairwise R):Done R xs a b xs:=⟨rfl,fun _ _=>rfl,fun _ _=>rfl,List.Perm.refl _,h⟩
theorem pw_app{l m:List α} (h1:l.Pairwise R) (h2:m.Pairwise R) (h:∀ x∈l,∀ y∈m,R x y):(l++m).Pairwise R:=List.pairwise_append.2 ⟨h1,h2,h⟩
section
variable {xs:List α} {a s m e b:Nat}
theorem rot_segs(h1:a<=s) (h2:s<=m) (h3:m<=e) (h4:e<=b) (h5:b<=xs.length) :
  seg (rotL xs s m e) a s=seg xs a s/\seg (rotL xs s m e) s (s+(e-m))=seg xs m e/\seg (rotL xs s m e) (s+(e-m)) e=seg xs s m/\seg (rotL xs s m e) e b=seg xs e b:=by
 refine⟨seg_eq' fun t k1 k2=>rot_low h2 h3 (by omega) k2,?_,?_,seg_eq' fun t k1 k2=>rot_high h2 h3 (by omega) k1⟩
 ·have:=seg_eq (xs:=rotL xs s m e) (ys:=xs) (i:=s) (j:=s+(e-m)) (i':=m) fun t ht=>by
   rw[rot_one h2 h3 (by omega) (by omega) (by omega)];congr 1;omega
  rw[this];congr 1;omega
 ·have:=seg_eq (xs:=rotL xs s m e) (ys:=xs) (i:=s+(e-m)) (j:=e) (i':=s) fun t ht=>by
   rw[rot_two h2 h3 (by omega) (by omega) (by omega)];congr 1;omega
  rw[this];congr 1;omega
theorem merge_step(tr:∀ x y z,R x y->R y z->R x z) (h1:a<=s) (h2:s<=m) (h3:m<=e) (h4:e<=b) (h5:b<=xs.length) (pl:(seg xs a m).Pairwise R) (pr:(seg xs m b).Pairwise R)
  (c1:s=a\/e=b \/ ∃ x y,xs[s-1]? = some x/\xs[e]? = some y/\R x y) (c2:e=m\/s=m \/ ∃ x y,xs[s]? = some x/\xs[e-1]? = some y/\R y x) {zs ws:List α}
  (d1:Done R (rotL xs s m e) a (s+(e-m)) zs) (d2:Done R zs (s+(e-m)) b ws):Done R xs a b ws:=by
 obtain⟨r1,r2,r3,r4⟩:=rot_segs h1 h2 h3 h4 h5;have hl:=rot_len (xs:=xs) h2 h3 (by omega);rw[seg_pw]at pl pr;have ez:seg zs (s+(e-m)) b=seg xs s m++seg xs e b:=by
  rw[d1.same (.inr (Nat.le_refl _)),seg_app (j:=e) (by omega) (by omega),r3,r4]
 have ey:seg (rotL xs s m e) a (s+(e-m))=seg xs a s++seg xs m e:=by rw[seg_app (j:=s) (by omega) (by omega),r1,r2]
 have w1:seg ws a (s+(e-m))=seg zs a (s+(e-m)):=d2.same (.inl (Nat.le_refl _));have p1:(seg ws a (s+(e-m))).Perm (seg xs a s++seg xs m e):=by rw[w1,<- ey];exact d1.perm
 have p2:(seg ws (s+(e-m)) b).Perm (seg xs s m++seg xs e b):=by rw[<- ez];exact d2.perm
 have ex:seg xs a b=(seg xs a s++seg xs s m)++(seg xs m e++seg xs e b):=by
  rw[<- seg_app h1 h2,<- seg_app h3 h4,<- seg_app (by omega) (by omega)]
 have ew:seg ws a b=seg ws a (s+(e-m))++seg ws (s+(e-m)) b:=seg_app (by omega) (by omega);refine⟨d2.len.trans (d1.len.trans hl),fun t ht=>(d2.low t (by omega)).trans ((d1.low t ht).trans (rot_low h2 h3 (by omega) (by omega))),
  fun t ht=>(d2.high t ht).trans ((d1.high t (by omega)).trans (rot_high h2 h3 (by omega) (by omega))),?_,?_⟩
 ·rw[ew,ex];refine(p1.append p2).trans ?_;rw[List.append_assoc,List.append_assoc];refine List.Perm.append_left _ ?_;rw[<- List.append_assoc,<- List.append_assoc];exact List.Perm.append_right _ List.perm_append_comm
 ·rw[ew];refine pw_app (by rw[w1];exact d1.pw) d2.pw fun x hx y hy=>?_
  have hx:=p1.mem_iff.1 hx;have hy:=p2.mem_iff.1 hy;rw[List.mem_append,seg_mem,seg_mem]at hx hy;rcases hx with ⟨i,i1,i2,ix⟩ | ⟨i,i1,i2,ix⟩ <;> rcases hy with ⟨j,j1,j2,jy⟩ | ⟨j,j1,j2,jy⟩
  ·exact pl i j x y i1 (by omega) j2 ix jy
  ·rcases c1 with c | c | ⟨u,v,cu,cv,cr⟩
   ·omega
   ·omega
   ·have ru:R x v:=by
     rcases Nat.lt_or_ge i (s-1)with k | k
     ·exact tr _ _ _ (pl i (s-1) x u i1 k (by omega) ix cu) cr
     ·have:i=s-1:=by omega
      subst this;rw[cu]at ix;cases ix;exact cr
    rcases Nat.lt_or_ge e j with k | k
    ·exact tr _ _ _ ru (pr e j v y h3 k j2 cv jy)
    ·have:j=e:=by omega
     subst this;rw[cv]at jy;cases jy;exact ru
  ·rcases c2 with c | c | ⟨u,v,cu,cv,cr⟩
   ·omega
   ·omega
   ·have ru:R x u:=by
     rcases Nat.lt_or_ge i (e-1)with k | k
     ·exact tr _ _ _ (pr i (e-1) x v i1 k (by omega) ix cv) cr
     ·have:i=e-1:=by omega
      subst this;rw[cv]at ix;cases ix;exact cr
    rcases Nat.lt_or_ge s j with k | k
    ·exact tr _ _ _ ru (pl s j u y h1 k j2 cu jy)
    ·have:j=s:=by omega
     subst this;rw[cu]at jy;cases jy;exact ru
  ·exact pr i j x y i1 (by omega) j2 ix jy
end
theorem Done.trans{xs ys zs:List α} {a b c d:Nat} (h1:Done R xs c d ys) (hc:a<=c) (hcd:c<=d) (hd:d<=b) (h2:Done R ys a b zs):Done R xs a b zs:=by
 refine⟨h2.len.trans h1.len,fun t ht=>(h2.low t ht).trans (h1.low t (by omega)),fun t ht=>(h2.high t ht).trans (h1.high t (by omega)),h2.perm.trans ?_,h2.pw⟩;rw[seg_app (xs:=ys) hc (by omega:c<=b),seg_app (xs:=ys) hcd hd,seg_app (xs:=xs) hc (by omega:c<=b),seg_app (xs:=xs) hcd hd,h1.same (.inl (Nat.le_refl _)),h1.same (.inr (Nat.le_refl _))];exact List.Perm.append_left _ (List.Perm.append_right _ h1.perm)
theorem put_right{xs:List α} {a i b:Nat} (tr:∀ x y z,R x y->R y z->R x z) (h1:a+1<=i) (h2:i<=b) (h5:b<=xs.length) (pr:(seg xs (a+1) b).Pairwise R)
  {x:α} (hx:xs[a]? = some x) (c1:i=a+1 \/ ∃ y,xs[i-1]? = some y/\R y x) (c2:i=b \/ ∃ y,xs[i]? = some y/\R x y):Done R xs a b (rotL xs a (a+1) i):=by
 obtain⟨r1,r2,r3,r4⟩:=rot_segs (xs:=xs) (a:=a) (s:=a) (m:=a+1) (e:=i) (b:=b) (Nat.le_refl _) (by omega) h1 h2 h5;have pl:(seg xs a (a+1)).Pairwise R:=by rw[seg_one hx];exact List.pairwise_singleton _ _
 have pi:(seg xs (a+1) i).Pairwise R:=by
  rw[seg_pw]at pr ⊢;exact fun s t u v k1 k2 k3=>pr s t u v k1 k2 (by omega)
 refine merge_step tr (Nat.le_refl _) (by omega) h1 h2 h5 pl pr (.inl rfl) ?_ (Done.refl (by rw[r2];exact pi)) (Done.refl ?_)
 ·rcases c1 with c | ⟨y,hy,hr⟩
  ·exact .inl c
  ·exact .inr (.inr ⟨x,y,hx,hy,hr⟩)
 ·rw[seg_app (j:=i) (by omega) h2,r3,r4];refine pw_app pl (by rw[seg_pw]at pr ⊢;exact fun s t u v k1 k2 k3=>pr s t u v (by omega) k2 k3) fun u hu v hv=>?_
  rw[seg_one hx,List.mem_singleton]at hu;subst hu;obtain⟨t,t1,t2,tv⟩:=seg_mem.1 hv;rcases c2 with c | ⟨y,hy,hr⟩
  ·omega
  ·rcases Nat.lt_or_ge i t with k | k
   ·rw[seg_pw]at pr;exact tr _ _ _ hr (pr i t y v h1 k t2 hy tv)
   ·have:t=i:=by omega
    subst this;rw[hy]at tv;cases tv;exact hr
theorem put_left{xs:List α} {a i m:Nat} (tr:∀ x y z,R x y->R y z->R x z) (h1:a<=i) (h2:i<=m) (h5:m+1<=xs.length) (pl:(seg xs a m).Pairwise R)
  {x:α} (hx:xs[m]? = some x) (c1:i=a \/ ∃ y,xs[i-1]? = some y/\R y x) (c2:i=m \/ ∃ y,xs[i]? = some y/\R x y):Done R xs a (m+1) (rotL xs i m (m+1)):=by
 obtain⟨r1,r2,r3,r4⟩:=rot_segs (xs:=xs) (a:=a) (s:=i) (m:=m) (e:=m+1) (b:=m+1) h1 h2 (by omega) (Nat.le_refl _) h5;have px:(seg xs m (m+1)).Pairwise R:=by rw[seg_one hx];exact List.pairwise_singleton _ _
 have pi:(seg xs i m).Pairwise R:=by
  rw[seg_pw]at pl ⊢;exact fun s t u v k1 k2 k3=>pl s t u v (by omega) k2 k3
 refine merge_step tr h1 h2 (by omega) (Nat.le_refl _) h5 pl px (.inr (.inl rfl)) ?_ (Done.refl ?_) (Done.refl ?_)
 ·rcases c2 with c | ⟨y,hy,hr⟩
  ·exact .inr (.inl c)
  ·exact .inr (.inr ⟨y,x,hy,by rw[Nat.add_sub_cancel];exact hx,hr⟩)
 ·rw[seg_app (j:=i) h1 (by omega),r1,r2];refine pw_app (by rw[seg_pw]at pl ⊢;exact fun s t u v k1 k2 k3=>pl s t u v k1 k2 (by omega)) px fun u hu v hv=>?_
  rw[seg_one hx,List.mem_singleton]at hv;subst hv;obtain⟨t,t1,t2,tv⟩:=seg_mem.1 hu;rcases c1 with c | ⟨y,hy,hr⟩
  ·omega
  ·rcases Nat.lt_or_ge t (i-1)with k | k
   ·rw[seg_pw]at pl;exact tr _ _ _ (pl t (i-1) u y t1 k (by omega) tv hy) hr
   ·have:t=i-1:=by omega
    subst this;rw[hy]at tv;cases tv;exact hr
 ·rw[r3];exact pi
end
end Go.Abs
namespace Go.Abs
def swp{α:Type} (xs:List α) (i j:Nat):List α:=match xs[i]?,xs[j]? with
 | some x,some y=>(xs.set i y).set j x
 | _,_=>xs
section
variable {α:Type} {xs:List α}
theorem swp_len{i j:Nat}:(swp xs i j).length=xs.length:=by
 unfold swp;split
 ·rw[List.length_set,List.length_set]
 ·rfl
theorem swp_get{i j:Nat} (hi:i<xs.length) (hj:j<xs.length) (t:Nat):(swp xs i j)[t]? = if t=j then xs[i]? else if t=i then xs[j]? else xs[t]?:=by
 unfold swp;rw[List.getElem?_eq_getElem hi,List.getElem?_eq_getElem hj];dsimp only;rw[List.getElem?_set,List.getElem?_set,List.length_set]
 by_cases h1:t=j
 ·subst h1;rw[if_pos rfl,if_pos hj,if_pos rfl]
 ·rw[if_neg (fun e=>h1 e.symm),if_neg h1]
  by_cases h2:t=i
  ·subst h2;rw[if_pos rfl,if_pos hi,if_pos rfl]
  ·rw[if_neg (fun e=>h2 e.symm),if_neg h2]
theorem rot_get{a m b:Nat} (h1:a<=m) (h2:m<=b) (h3:b<=xs.length) (t:Nat):(rotL xs a m b)[t]? = if t<a then xs[t]? else if t<a+(b-m)then xs[t-a+m]? else if t<b then xs[t-(b-m)]? else xs[t]?:=by
 by_cases k1:t<a
 ·rw[if_pos k1,rot_low h1 h2 h3 k1]
 ·rw[if_neg k1]
  by_cases k2:t<a+(b-m)
  ·rw[if_pos k2,rot_one h1 h2 h3 (by omega) k2]
  ·rw[if_neg k2]
   by_cases k3:t<b
   ·rw[if_pos k3,rot_two h1 h2 h3 (by omega) k3]
   ·rw[if_neg k3,rot_high h1 h2 h3 (by omega)]
theorem rot_id{a m b:Nat} (h:a=m\/m=b) (h1:a<=m) (h2:m<=b) (h3:b<=xs.length):rotL xs a m b=xs:=by
 apply List.ext_getElem?
 intro t;rw[rot_get h1 h2 h3];split
 ·rfl
 ·split
  ·congr 1;omega
  ·split
   ·congr 1;omega
   ·rfl
theorem rot_down{j i:Nat} (h1:j<i) (h2:i<xs.length):swp (rotL xs (j+1) i (i+1)) (j+1) j=rotL xs j i (i+1):=by
 have hl:=rot_len (xs:=xs) (a:=j+1) (m:=i) (b:=i+1) h1 (by omega) (by omega);apply List.ext_getElem?
 intro t;rw[swp_get (by omega) (by omega),rot_get (by omega) (by omega) (by omega),rot_get (by omega) (by omega) (by omega),rot_get (by omega) (by omega) (by omega),rot_get (by omega) (by omega) (by omega)]
 repeat' split
 all_goals first
  | omega
  | (congr 1;omega)
  | rfl
theorem rot_up{a k:Nat} (h1:a<=k) (h2:k+1<xs.length):swp (rotL xs a (a+1) (k+1)) k (k+1)=rotL xs a (a+1) (k+2):=by
 have hl:=rot_len (xs:=xs) (a:=a) (m:=a+1) (b:=k+1) (by omega) (by omega) (by omega);apply List.ext_getElem?
 intro t;rw[swp_get (by omega) (by omega),rot_get (by omega) (by omega) (by omega),rot_get (by omega) (by omega) (by omega),rot_get (by omega) (by omega) (by omega),rot_get (by omega) (by omega) (by omega)]
 repeat' split
 all_goals first
  | omega
  | (congr 1;omega)
  | rfl
def swR(xs:List α) (a b:Nat):Nat->List α
 | 0=>xs
 | k+1=>swp (swR xs a b k) (a+k) (b+k)
theorem swR_len{a b:Nat}:∀ k,(swR xs a b k).length=xs.length
 | 0=>rfl
 | k+1=>by unfold swR;rw[swp_len,swR_len k]
theorem swR_get{a b:Nat}:∀ (k:Nat),a+k<=b->b+k<=xs.length->∀ t,(swR xs a b k)[t]? = if a<=t/\t<a+k then xs[t-a+b]? else if b<=t/\t<b+k then xs[t-b+a]? else xs[t]?
 | 0,_,_,t=>by
  unfold swR;rw[if_neg (by omega),if_neg (by omega)]
 | k+1,h1,h2,t=>by
  have ih:=swR_get (a:=a) (b:=b) k (by omega) (by omega);have hl:=swR_len (xs:=xs) (a:=a) (b:=b) k;have g1:=swp_get (xs:=swR xs a b k) (i:=a+k) (j:=b+k) (by omega) (by omega) t;show (swp (swR xs a b k) (a+k) (b+k))[t]? = _;rw[g1,ih,ih,ih]
  repeat' split
  all_goals first
   | omega
   | (congr 1;omega)
   | rfl
theorem rot_more{m i j:Nat} (h0:i<=m) (h1:j<i) (h2:m+j<=xs.length):rotL (swR xs (m-i) m j) (m-(i-j)) m (m+j)=rotL xs (m-i) m (m+j):=by
 have hl:=swR_len (xs:=xs) (a:=m-i) (b:=m) j;apply List.ext_getElem?
 intro t;rw[rot_get (by omega) (by omega) (by omega),rot_get (by omega) (by omega) (by omega),swR_get j (by omega) (by omega),swR_get j (by omega) (by omega),swR_get j (by omega) (by omega)]
 repeat' split
 all_goals first
  | omega
  | (congr 1;omega)
  | rfl
theorem rot_less{m i j:Nat} (h0:i<=m) (h1:i<j) (h2:m+j<=xs.length):rotL (swR xs (m-i) (m+j-i) i) (m-i) m (m+(j-i))=rotL xs (m-i) m (m+j):=by
 have hl:=swR_len (xs:=xs) (a:=m-i) (b:=m+j-i) i;apply List.ext_getElem?
 intro t;rw[rot_get (by omega) (by omega) (by omega),rot_get (by omega) (by omega) (by omega),swR_get i (by omega) (by omega),swR_get i (by omega) (by omega),swR_get i (by omega) (by omega)]
 repeat' split
 all_goals first
  | omega
  | (congr 1;omega)
  | rfl
theorem rot_same{m i:Nat} (h0:i<=m) (h2:m+i<=xs.length):swR xs (m-i) m i=rotL xs (m-i) m (m+i):=by
 apply List.ext_getElem?
 intro t;rw[rot_get (by omega) (by omega) (by omega),swR_get i (by omega) (by omega)]
 repeat' split
 all_goals first
  | omega
  | (congr 1;omega)
  | rfl
end
def ipos(f:Nat->Bool) (a:Nat):Nat->Nat
 | 0=>0
 | j+1=>if a<j+1/\f (j+1)=true then ipos f a j else j+1
theorem ipos_ok(f:Nat->Bool) (a:Nat):∀ i,a<=i->a<=ipos f a i/\ipos f a i<=i/\(ipos f a i=a\/f (ipos f a i)=false)/\(ipos f a i=i\/f (ipos f a i+1)=true)
 | 0,h=>⟨h,Nat.le_refl _,.inl (by show 0=a;omega),.inl rfl⟩
 | j+1,h=>by
  unfold ipos
  by_cases hc:a<j+1/\f (j+1)=true
  ·rw[if_pos hc];obtain⟨h1,h2,h3,h4⟩:=ipos_ok f a j (by omega);refine⟨h1,by omega,h3,.inr ?_⟩;rcases h4 with h4 | h4
   ·rw[h4];exact hc.2
   ·exact h4
  ·rw[if_neg hc];refine⟨h,Nat.le_refl _,?_,.inl rfl⟩
   by_cases ha:a<j+1
   ·right;cases hf:f (j+1)
    ·rfl
    ·exact absurd ⟨ha,hf⟩ hc
   ·left;omega
end Go.Abs
namespace Go.Abs
section
variable {α:Type} (lt:α->α->Bool)
def fpos(xs:List α) (i j:Nat):Bool:=match xs[i]?,xs[j-1]? with
 | some x,some y=>lt x y
 | _,_=>false
def insF(xs:List α) (a i:Nat):List α:=rotL xs (ipos (fpos lt xs i) a i) i (i+1)
def insN(a:Nat):Nat->List α->List α
 | 0,xs=>xs
 | n+1,xs=>insF lt (insN a n xs) a (a+1+n)
def Agree(R:α->α->Prop) (xs:List α) (a b:Nat):Prop:=∀ s t x y,a<=s->s<t->t<b->xs[s]? = some x->xs[t]? = some y->(lt y x=true ↔ R y x)/\(R x y\/R y x)
variable {lt}
theorem ipos_rng(xs:List α) {a i:Nat} (h:a<=i):a<=ipos (fpos lt xs i) a i/\ipos (fpos lt xs i) a i<=i:=⟨(ipos_ok _ a i h).1,(ipos_ok _ a i h).2.1⟩
theorem insF_perm{xs:List α} {a i:Nat} (h:a<=i) (hi:i<xs.length):(insF lt xs a i).Perm xs:=rot_perm (ipos_rng xs h).2 (by omega) (by omega)
theorem insF_len{xs:List α} {a i:Nat} (h:a<=i) (hi:i<xs.length):(insF lt xs a i).length=xs.length:=rot_len (ipos_rng xs h).2 (by omega) (by omega)
theorem insN_len{a:Nat}:∀ (n:Nat) {xs:List α},a+n<xs.length->(insN lt a n xs).length=xs.length
 | 0,xs,h=>rfl
 | n+1,xs,h=>by
  have ih:=insN_len (a:=a) n (xs:=xs) (by omega);exact(insF_len (xs:=insN lt a n xs) (by omega) (by omega)).trans ih
theorem insN_perm{a:Nat}:∀ (n:Nat) {xs:List α},a+n<xs.length->(insN lt a n xs).Perm xs
 | 0,xs,h=>List.Perm.refl _
 | n+1,xs,h=>by
  have ih:=insN_len (lt:=lt) n (xs:=xs) (a:=a) (by omega);exact(insF_perm (xs:=insN lt a n xs) (by omega) (by omega)).trans (insN_perm n (by omega))
theorem insN_done{R:α->α->Prop} (tr:∀ x y z,R x y->R y z->R x z) {xs:List α} {a b:Nat} (hb:b<=xs.length) (hA:Agree lt R xs a b):∀ n,a+1+n<=b->Done R xs a (a+1+n) (insN lt a n xs)
 | 0,h=>by
  obtain⟨x,hx⟩:∃ x,xs[a]? = some x:=⟨_,List.getElem?_eq_getElem (by omega)⟩;exact Done.refl (by rw[seg_one hx];exact List.pairwise_singleton _ _)
 | n+1,h=>by
  have ih:=insN_done tr hb hA n (by omega);generalize hys:insN lt a n xs=ys at ih;have hl:=ih.len;obtain⟨x,hx⟩:∃ x,ys[a+1+n]? = some x:=⟨_,List.getElem?_eq_getElem (by omega)⟩;have hx0:xs[a+1+n]? = some x:=by rw[<- ih.high _ (Nat.le_refl _)];exact hx
  have ag:∀ t y,a<=t->t<a+1+n->ys[t]? = some y->(lt x y=true ↔ R x y)/\(R y x\/R x y):=fun t y h1 h2 h3=>by
   have hm:y∈seg xs a (a+1+n):=ih.perm.mem_iff.1 (seg_mem.2 ⟨t,h1,h2,h3⟩);obtain⟨s,s1,s2,s3⟩:=seg_mem.1 hm;exact hA s (a+1+n) y x s1 s2 (by omega) s3 hx0
  obtain⟨p1,p2,p3,p4⟩:=ipos_ok (fpos lt ys (a+1+n)) a (a+1+n) (by omega);have e:insN lt a (n+1) xs=rotL ys (ipos (fpos lt ys (a+1+n)) a (a+1+n)) (a+1+n) (a+1+n+1):=by
   show insF lt (insN lt a n xs) a (a+1+n)=_;rw[hys];rfl
  rw[e];generalize hp:ipos (fpos lt ys (a+1+n)) a (a+1+n)=p at *;refine Done.trans ih (Nat.le_refl _) (by omega) (by omega) (put_left (m:=a+1+n) tr p1 p2 (by omega) ih.pw hx ?_ ?_)
  ·rcases p3 with p3 | p3
   ·exact .inl p3
   ·rcases Nat.eq_or_lt_of_le p1 with k | k
    ·exact .inl k.symm
    ·right;have p2':p<=a+1+n:=p2;obtain⟨y,hy⟩:∃ y,ys[p-1]? = some y:=⟨_,List.getElem?_eq_getElem (by omega)⟩;refine⟨y,hy,?_⟩;have hf:lt x y=false:=by
      unfold fpos at p3;rw[hx,hy]at p3;exact p3
     obtain⟨a1,a2⟩:=ag (p-1) y (by omega) (by omega) hy;rcases a2 with a2 | a2
     ·exact a2
     ·rw[a1.2 a2]at hf;cases hf
  ·rcases p4 with p4 | p4
   ·exact .inl p4
   ·rcases Nat.eq_or_lt_of_le p2 with k | k
    ·exact .inl k
    ·right;have k2:p<a+1+n:=k;obtain⟨y,hy⟩:∃ y,ys[p]? = some y:=⟨_,List.getElem?_eq_getElem (by omega)⟩;refine⟨y,hy,?_⟩;have hf:lt x y=true:=by
      unfold fpos at p4;rw[Nat.add_sub_cancel,hx,hy]at p4;exact p4
     exact(ag p y p1 k hy).1.1 hf
end
end Go.Abs
namespace Go.Abs
open Go.Proofs Go.Extern Go.Extern.Rtype Go.Lib
set_option maxRecDepth 100000
def extZ:ExtT:={ val:=123,len:=125,swp:=124,g:=0,sl:=[⟨164,3,158,159,162⟩],sw:=[162] }
theorem extZ_ok:ExtOK Tryz.prog extZ where
 val:=run_callFunc_extern Tryz.func123 (by kernel_rfl) (by kernel_rfl) (by kernel_rfl) (by kernel_rfl)
 len:=run_callFunc_extern Tryz.func125 (by kernel_rfl) (by kernel_rfl) (by kernel_rfl) (by kernel_rfl)
 swp:=run_callFunc_extern Tryz.func124 (by kernel_rfl) (by kernel_rfl) (by kernel_rfl) (by kernel_rfl)
 g:=by kernel_rfl
 sl:=fun p hp=>by
  simp only [extZ,List.mem_cons,List.not_mem_nil,or_false]at hp;subst hp;exact slx (i:=infoT 164) (ie:=infoT 3) (ke:=2) (by kernel_rfl) (by kernel_rfl) (by kernel_rfl) (by kernel_rfl) (fun _=>by kernel_rfl) (of_decide_eq_true (by kernel_rfl)) (by kernel_rfl) (by kernel_rfl) (by kernel_rfl)
 sw:=fun f hf=>by
  simp only [extZ,List.mem_cons,List.not_mem_nil,or_false]at hf;subst hf;exact⟨true,run_callFunc_extern Tryz.func162 (by kernel_rfl) (by kernel_rfl) (by kernel_rfl) (by kernel_rfl)⟩
def xtZ:XT:={ maps:=[],arrs:=[],strs:=[],ext:=extZ }
theorem xtZ_ok:XTOK Tryz.prog xtZ where
 maps:=fun p hp=>by cases hp
 arrs:=fun p hp=>by cases hp
 strs:=fun p hp=>by cases hp
 ext:=extZ_ok
def szIs(T:Tab) (e:Nat) (ty:Ty):Bool:=match tfind T e fun z=>some (Nat.beq z.size ty.w)with
 | some b=>b
 | none=>false
def ySw(T:Tab) (X:ExtT):∀ ρ:Type,HL->Nat->(Operand->SV)->Op->Option ((Eff->Option ρ)->Option ρ):=fun ρ H nid ev op=>match op with
 | .call c=>(match c.callee with
  | .value f=>(match ev f with
   | .v false [.bfn k l g e]=>(match c.args.toList.map ev,hget H l with
    | [.v false [.int .i64 i],.v false [.int .i64 j]],.arr el ty xs false mv=>bif (X.sw.elem k&&Nat.beq g X.g)&&szIs T e ty then
      some fun K=>if(0<=i/\i<(xs.length:Int))/\0<=j/\j<(xs.length:Int)then K { val:=.tup [],sets:=[(l,.arr el ty (swp xs i.toNat j.toNat) false mv)] } else none
     else none
    | _,_=>none)
   | _=>none)
  | _=>none)
 | _=>none
theorem tfind_at{e:Nat} {f:TE->Bool} {b:Bool}:∀ {T:Tab},tfind T e (fun z=>some (f z))=some b->∃ z,f z=b /\ ∀ {ρ:Type} (K:TE->Option ρ),tfind T e K=K z
 | [],h=>by cases h
 | (k,z) :: r,h=>by
  unfold tfind at h;cases hk:Nat.beq k e with
  | true =>
   rw[hk]at h;refine⟨z,Option.some.inj h,fun K=>?_⟩;show (bif Nat.beq k e then K z else tfind r e K)=K z;rw[hk];rfl
  | false =>
   rw[hk]at h;obtain⟨z',h1,h2⟩:=tfind_at (T:=r) h;refine⟨z',h1,fun K=>?_⟩;show (bif Nat.beq k e then K z else tfind r e K)=K z';rw[hk];exact h2 K
theorem ySw_ok{T:Tab} (hT:TabOk Tryz.prog T) {X:ExtT} (hX:ExtOK Tryz.prog X):YOK NN Tryz.prog (ySw T X):=by
 intro ρ H nid ev o f K r h hk;unfold ySw at h;split at h <;> try contradiction
 rename_i c ho;split at h <;> try contradiction
 rename_i cf hc;split at h <;> try contradiction
 rename_i k l g e hf;split at h <;> try contradiction
 rename_i i j el ty xs mv has hl;cases hb:((X.sw.elem k&&Nat.beq g X.g)&&szIs T e ty)with
 | false=>rw[hb]at h;contradiction
 | true =>
  rw[hb]at h;simp only [cond_true,Option.some.injEq]at h;subst h;split at hk
  ·rename_i hi;rw[Bool.and_eq_true]at hb;refine⟨_,hk,?_⟩;have hs:xSwap T X H k l g e (c.args.toList.map ev)=some { val:=.tup [],sets:=[(l,.arr el ty (swp xs i.toNat j.toNat) false mv)] }:=by
    unfold xSwap;rw[hb.1,cond_true,has,hl];have hz:=hb.2;unfold szIs at hz;split at hz
    ·rename_i b hb2;obtain⟨z,h1,h2⟩:=tfind_at hb2;have hb3:Nat.beq z.size ty.w=true:=by rw[h1,<- hz]
     have e1:swapL xs i.toNat j.toNat=some (swp xs i.toNat j.toNat):=by
      unfold swapL swp;rw[List.getElem?_eq_getElem (show i.toNat<xs.length by omega),List.getElem?_eq_getElem (show j.toNat<xs.length by omega)]
     rw[h2];dsimp only;rw[hb3,decide_eq_true hi.1.1,decide_eq_true hi.2.1,e1];rfl
    ·contradiction
   exact fun{G κ hf' w a next Q}=>xSwap_ok hT hX ho hc hf hs
  ·contradiction
noncomputable def VZ(l:List (Nat × Orc)):Env:={ T:=tryT,E:=[],Γ:=gamL l,X:=xopL tryT xtZ,Y:=ySw tryT extZ }
theorem VZ_ok{l:List (Nat × Orc)} (h:GamOK NN Tryz.prog (gamL l)):EnvOK NN Tryz.prog (VZ l):={ T:=TabOk.of tryT_ok,E:=fun p hp=>(by cases hp),Γ:=h,X:=xopL_ok (TabOk.of tryT_ok) xtZ_ok,Y:=ySw_ok (TabOk.of tryT_ok) extZ_ok }
abbrev p3T:Ty:=.pair (.num 0) (.pair (.num 0) (.num 0))
abbrev bxT:Ty:=.pair p3T p3T
end Go.Abs
namespace Go.Abs
open Go.Proofs
set_option maxRecDepth 100000
noncomputable def lsE:Env:=VZ [(41,rat2 (fun p q=>szQ p&&szQ q) fun p q=>nm 0 (p+q)),(39,rat2 (fun p q=>szQ p&&szQ q) fun p q=>one (.int .i64 (cmpQ p q)))]
theorem lsE_ok:EnvOK NN Tryz.prog lsE:=VZ_ok (gamC orc59 Tryz.call41 (gamC orc58 Tryz.call39 (gamN _ _)))
def lo3(k:Int) (b:bxT.den):Rat:=if k=0 then b.1.1 else if k=1 then b.1.2.1 else b.1.2.2
def hi3(k:Int) (b:bxT.den):Rat:=if k=0 then b.2.1 else if k=1 then b.2.2.1 else b.2.2.2
def hpS(bs:List bxT.den) (k:Int) (xs:List Int):HL:=[.var [.sl none bxT bs],.var [.wsl 3 1],.var [.int .i64 k],.arr 3 (.int .i64) xs false false]
section
variable {ρ:Type} (cont:SV->HL->Option ρ) (bs:List bxT.den) (xs:List Int) (i j:Int)
def lsK(k:Int) (f g:bxT.den->Rat):Option ρ:=if 0<=i/\i<(xs.length:Int)then xs[0+i.toNat]?.bind (fun x=>if(0:Int)<=x then bs[Int.toNat x]?.bind (fun a=>if 0<=j/\j<(xs.length:Int)then xs[0+j.toNat]?.bind (fun y=>if(0:Int)<=y then bs[Int.toNat y]?.bind (fun b =>
 if(szQ (f a)&&szQ (g a))=true then(if(szQ (f b)&&szQ (g b))=true then(if(szQ (f a+g a)&&szQ (f b+g b))=true then cont (one (.bool (decide (cmpQ (f a+g a) (f b+g b)<0)))) (hpS bs k xs)else none)else none)else none)else none)else none)else none)else none
theorem gls0:runF lsE Ash 20 Tryz.f143 (bodyOf Tryz.f143) ρ [one (.int .i64 i),one (.int .i64 j),one (.ptr 0 0),one (.ptr 1 0),one (.ptr 2 0)] (hpS bs 0 xs) cont=lsK cont bs xs i j 0 (fun b=>b.1.1) (fun b=>b.2.1):=by kernel_rfl
theorem gls1:runF lsE Ash 20 Tryz.f143 (bodyOf Tryz.f143) ρ [one (.int .i64 i),one (.int .i64 j),one (.ptr 0 0),one (.ptr 1 0),one (.ptr 2 0)] (hpS bs 1 xs) cont=lsK cont bs xs i j 1 (fun b=>b.1.2.1) (fun b=>b.2.2.1):=by kernel_rfl
theorem gls2:runF lsE Ash 20 Tryz.f143 (bodyOf Tryz.f143) ρ [one (.int .i64 i),one (.int .i64 j),one (.ptr 0 0),one (.ptr 1 0),one (.ptr 2 0)] (hpS bs 2 xs) cont=lsK cont bs xs i j 2 (fun b=>b.1.2.2) (fun b=>b.2.2.2):=by kernel_rfl
end
def szB(b:bxT.den):Bool:=s8 b.1.1&&(s8 b.1.2.1&&(s8 b.1.2.2&&(s8 b.2.1&&(s8 b.2.2.1&&s8 b.2.2.2))))
def okI(bs:List bxT.den) (xs:List Int):Bool:=(xs.all fun x=>decide (0<=x)&&decide (x<(bs.length:Int)))&&bs.all szB
def ltV(bs:List bxT.den) (k x y:Int):Bool:=match bs[x.toNat]?,bs[y.toNat]? with
 | some a,some b=>decide (lo3 k a+hi3 k a<lo3 k b+hi3 k b)
 | _,_=>false
theorem lt_ex:∃ f,f=ltV:=⟨_,rfl⟩
noncomputable def ltI:=lt_ex.choose
theorem ltI_eq:ltI=ltV:=lt_ex.choose_spec
def isAx(k:Int):Prop:=k=0\/k=1\/k=2
instance (k:Int):Decidable (isAx k):=by unfold isAx;infer_instance
noncomputable def lessO:Orc:=fun ρ args H cont=>match args,H with
 | [.v false [.int .i64 i],.v false [.int .i64 j],.v false [.ptr 0 0],.v false [.ptr 1 0],.v false [.ptr 2 0]],[.var [.sl none (.pair (.pair (.num 0) (.pair (.num 0) (.num 0))) (.pair (.num 0) (.pair (.num 0) (.num 0)))) bs],.var [.wsl 3 1],.var [.int .i64 k],.arr 3 (.int .i64) xs false false] =>
  if okI bs xs=true/\isAx k then(if 0<=i/\i<(List.length (α:=Int) xs:Int)then(if 0<=j/\j<(List.length (α:=Int) xs:Int)then xs[i.toNat]?.bind (fun x=>xs[j.toNat]?.bind fun y=>cont (one (.bool (ltI bs k x y))) [.var [.sl none (.pair (.pair (.num 0) (.pair (.num 0) (.num 0))) (.pair (.num 0) (.pair (.num 0) (.num 0)))) bs],.var [.wsl 3 1],.var [.int .i64 k],.arr 3 (.int .i64) xs false false])else none)else none)else none
 | _,_=>none
theorem okI_box{bs:List bxT.den} {xs:List Int} (h:okI bs xs=true) {x:Int} (hx:x∈xs):0<=x /\ ∃ b,bs[x.toNat]? = some b/\szB b=true:=by
 unfold okI at h;rw[Bool.and_eq_true,List.all_eq_true,List.all_eq_true]at h;have h1:=h.1 x hx;rw[Bool.and_eq_true,decide_eq_true_eq,decide_eq_true_eq]at h1;have hl:x.toNat<bs.length:=by omega
 exact⟨h1.1,_,List.getElem?_eq_getElem hl,h.2 _ (List.getElem_mem hl)⟩
theorem szB_k{b:bxT.den} (h:szB b=true) {k:Int}:szN 8 (lo3 k b)/\szN 8 (hi3 k b):=by
 unfold szB at h;simp only [Bool.and_eq_true]at h;obtain⟨h1,h2,h3,h4,h5,h6⟩:=h;unfold lo3 hi3;split
 ·exact⟨s8_ok h1,s8_ok h4⟩
 ·split
  ·exact⟨s8_ok h2,s8_ok h5⟩
  ·exact⟨s8_ok h3,s8_ok h6⟩
theorem lsK_eq{ρ:Type} (cont:SV->HL->Option ρ) {bs:List bxT.den} {xs:List Int} {i j k:Int} (h:okI bs xs=true) (hi:0<=i/\i<(xs.length:Int)) (hj:0<=j/\j<(xs.length:Int)) :
  lsK cont bs xs i j k (lo3 k) (hi3 k)=xs[i.toNat]?.bind fun x=>xs[j.toNat]?.bind fun y=>cont (one (.bool (ltI bs k x y))) (hpS bs k xs):=by
 have ei:xs[i.toNat]? = some xs[i.toNat]:=List.getElem?_eq_getElem (by omega);have ej:xs[j.toNat]? = some xs[j.toNat]:=List.getElem?_eq_getElem (by omega);obtain⟨x0,a,ha,sa⟩:=okI_box h (List.getElem_mem (show i.toNat<xs.length by omega));obtain⟨y0,b,hb,sb⟩:=okI_box h (List.getElem_mem (show j.toNat<xs.length by omega));unfold lsK;rw[if_pos hi,Nat.zero_add,ei,Option.bind_some,Option.bind_some,if_pos x0,ha,Option.bind_some,if_pos hj,Nat.zero_add,ej,Option.bind_some,Option.bind_some,if_pos y0,hb,Option.bind_some];have a1:=szB_k sa (k:=k);have b1:=szB_k sb (k:=k);rw[if_pos (both (a1.1.qq (by omega)) (a1.2.qq (by omega))),if_pos (both (b1.1.qq (by omega)) (b1.2.qq (by omega))),if_pos (both ((a1.1.add a1.2).qq (by omega)) ((b1.1.add b1.2).qq (by omega))),ltI_eq];unfold ltV;rw[ha,hb,decide_eq_decide.2 cmpQ_lt]
theorem orc_less:OrcOK NN Tryz.prog 143 lessO:=
 OrcOK.of_tale (cR_ok (A:=Ash) (fuel:=20) lsE_ok rfl Tryz.func143 (by kernel_rfl)) fun ρ args H cont r hr=>by
  unfold lessO at hr;split at hr
  ·rename_i i j bs k xs;split at hr
   ·rename_i hc;split at hr
    ·rename_i hi;split at hr
     ·rename_i hj;have e:=lsK_eq cont (k:=k) hc.1 hi hj;rcases hc.2 with rfl | rfl | rfl
      ·exact(gls0 cont bs xs i j).trans (e.trans hr)
      ·exact(gls1 cont bs xs i j).trans (e.trans hr)
      ·exact(gls2 cont bs xs i j).trans (e.trans hr)
     ·contradiction
    ·contradiction
   ·contradiction
  ·contradiction
end Go.Abs
namespace Go.Abs
open Go.Proofs
set_option maxRecDepth 100000
noncomputable def inE:Env:=VZ [(143,lessO)]
theorem inE_ok:EnvOK NN Tryz.prog inE:=VZ_ok (gamC orc_less Tryz.call143 (gamN _ _))
def dtA:List Atom:=[.fn 143 [(0,0),(1,0),(2,0)],.bfn 162 3 0 3]
def A298:Ann:={ head:=ptOf [(5,[1,2,3,6,7],[]),(2,[1,2,3,6],[])],out:=ptOf [(5,[1,2,3,6],[]),(2,[],[])] }
def σ298(bs:List bxT.den) (k:Int) (xs:List Int) (a b i j:Int):St:=⟨[(1,one (.int .i64 a)),(2,one (.int .i64 b)),(3,one (.ptr 4 0)),(6,one (.int .i64 i)),(7,one (.int .i64 j))],hpS bs k xs ++ [.var dtA]⟩
def σ298o(bs:List bxT.den) (k:Int) (xs:List Int) (a b i:Int):St:=⟨[(1,one (.int .i64 a)),(2,one (.int .i64 b)),(3,one (.ptr 4 0)),(6,one (.int .i64 i))],hpS bs k xs ++ [.var dtA]⟩
section
variable {ρ:Type} (K:Exit->St->Option ρ) (go:St->Option ρ) (bs:List bxT.den) (k:Int) (xs:List Int) (a b i:Int)
noncomputable def lokT(j w:Int) (f:Bool->Option ρ):Option ρ:=if okI bs xs=true/\isAx k then(if 0<=j/\j<(xs.length:Int)then(if 0<=w/\w<(xs.length:Int)then xs[j.toNat]?.bind (fun x=>xs[w.toNat]?.bind fun y=>f (ltI bs k x y))else none)else none)else none
def swT(j w:Int) (f:List Int->Option ρ):Option ρ:=if(0<=j/\j<(xs.length:Int))/\0<=w/\w<(xs.length:Int)then f (swp xs j.toNat w.toNat)else none
theorem turn298i(j:Int):turnF inE A298 35 4 0 (loopAt Tryz.f169 1) K go (σ298 bs k xs a b i j) =
  bif decide (a<j)then lokT bs k xs j (IntKind.i64.wrap (j-1)) (fun l=>bif bif true then l else false then swT xs j (IntKind.i64.wrap (j-1)) (fun ys=>go (σ298 bs k ys a b i (IntKind.i64.wrap (j-1))))else K (.exit 2) (σ298o bs k xs a b i))
  else K (.exit 2) (σ298o bs k xs a b i):=by kernel_rfl
end
theorem okI_perm{bs:List bxT.den} {xs ys:List Int} (h:okI bs xs=true) (p:ys.Perm xs):okI bs ys=true:=by
 unfold okI at *;rw[Bool.and_eq_true]at *;refine⟨?_,h.2⟩;rw[List.all_eq_true]at *;exact fun x hx=>h.1 x (p.mem_iff.1 hx)
theorem lokT_eq{ρ:Type} {bs:List bxT.den} {k:Int} {xs:List Int} (h:okI bs xs=true) (hk:isAx k) {j w:Nat} {x y:Int} (hx:xs[j]? = some x) (hy:xs[w]? = some y) (f:Bool->Option ρ):lokT bs k xs j w f=f (ltI bs k x y):=by
 have h1:=(List.getElem?_eq_some_iff.1 hx).1;have h2:=(List.getElem?_eq_some_iff.1 hy).1;unfold lokT;rw[if_pos ⟨h,hk⟩,if_pos ⟨by omega,by omega⟩,if_pos ⟨by omega,by omega⟩,Int.toNat_natCast,Int.toNat_natCast,hx,hy,Option.bind_some,Option.bind_some]
theorem swT_eq{ρ:Type} {xs:List Int} {j w:Nat} (h1:j<xs.length) (h2:w<xs.length) (f:List Int->Option ρ):swT xs j w f=f (swp xs j w):=by
 unfold swT;rw[if_pos ⟨⟨by omega,by omega⟩,by omega,by omega⟩,Int.toNat_natCast,Int.toNat_natCast]
theorem wr_pred{j:Nat} (h:j<4611686018427387904):IntKind.i64.wrap (((j+1:Nat):Int)-1)=(j:Int):=by rw[IntKind.wrap_i64];omega
section
variable {ρ:Type} (K:Exit->St->Option ρ) {bs:List bxT.den} {k:Int} {xs:List Int}
theorem loop298i(h:okI bs xs=true) (hk:isAx k) (hl:xs.length<4611686018427387904) {a i:Nat} (b:Int) (hi:i<xs.length):∀ j,a<=j->j<=i ->
  ∃ t,itF (turnF inE A298 35 4 0 (loopAt Tryz.f169 1) K) (fun _=>none) t (σ298 bs k (rotL xs j i (i+1)) a b i j)=K (.exit 2) (σ298o bs k (rotL xs (ipos (fpos (ltI bs k) xs i) a j) i (i+1)) a b i)
 | 0,h1,h2=>⟨1,by
   show turnF _ _ _ _ _ _ _ _ _=_;rw[turn298i,decide_eq_false (by omega),cond_false];rfl⟩
 | j+1,h1,h2=>by
  have hz:=rot_len (xs:=xs) (a:=j+1) (m:=i) (b:=i+1) h2 (by omega) (by omega);have ok:=okI_perm h (rot_perm (xs:=xs) (a:=j+1) (m:=i) (b:=i+1) h2 (by omega) (by omega))
  by_cases ha:a<j+1
  ·have e1:(rotL xs (j+1) i (i+1))[j+1]? = some xs[i]:=by
    rw[rot_get h2 (by omega) (by omega),if_neg (by omega),if_pos (by omega),show j+1-(j+1)+i=i by omega,List.getElem?_eq_getElem hi]
   have e2:(rotL xs (j+1) i (i+1))[j]? = some xs[j]:=by
    rw[rot_get h2 (by omega) (by omega),if_pos (by omega),List.getElem?_eq_getElem (by omega)]
   have ef:fpos (ltI bs k) xs i (j+1)=ltI bs k xs[i] xs[j]:=by
    unfold fpos;rw[Nat.add_sub_cancel,List.getElem?_eq_getElem hi,List.getElem?_eq_getElem (show j<xs.length by omega)]
   have tr:∀ go,turnF inE A298 35 4 0 (loopAt Tryz.f169 1) K go (σ298 bs k (rotL xs (j+1) i (i+1)) a b i ((j+1:Nat):Int)) =
     bif ltI bs k xs[i] xs[j]then go (σ298 bs k (rotL xs j i (i+1)) a b i j)else K (.exit 2) (σ298o bs k (rotL xs (j+1) i (i+1)) a b i):=fun go=>by
    rw[turn298i,decide_eq_true (by omega),cond_true,wr_pred (by omega),lokT_eq ok hk e1 e2];cases ltI bs k xs[i] xs[j]
    ·rfl
    ·rw[cond_true,cond_true,cond_true,swT_eq (xs:=rotL xs (j+1) i (i+1)) (j:=j+1) (w:=j) (by omega) (by omega),rot_down (xs:=xs) (j:=j) (by omega) hi]
   cases hf:ltI bs k xs[i] xs[j]
   ·refine⟨1,?_⟩;show turnF _ _ _ _ _ _ _ _ _=_;rw[tr,hf,cond_false];unfold ipos;rw[if_neg (fun e=>by rw[ef,hf]at e;cases e.2)]
   ·obtain⟨t,ht⟩:=loop298i h hk hl (a:=a) (i:=i) b hi j (by omega) (by omega);refine⟨t+1,?_⟩;show turnF _ _ _ _ _ _ _ _ _=_;rw[tr,hf,cond_true];unfold ipos;rw[if_pos ⟨ha,by rw[ef,hf]⟩];exact ht
  ·refine⟨1,?_⟩;show turnF _ _ _ _ _ _ _ _ _=_;rw[turn298i,decide_eq_false (by omega),cond_false];unfold ipos;rw[if_neg (fun e=>ha e.1)]
end
noncomputable def insI(bs:List bxT.den) (k:Int) (xs:List Int) (a i:Int):List Int:=insF (ltI bs k) xs a.toNat i.toNat
noncomputable def S298i:Sum:=fun n0 ρ σ K=>match n0,σ with
 | 4,⟨[(1,.v false [.int .i64 a]),(2,.v false [.int .i64 b]),(3,.v false [.ptr 4 0]),(6,.v false [.int .i64 i]),(7,.v false [.int .i64 j])],
   [.var [.sl none (.pair (.pair (.num 0) (.pair (.num 0) (.num 0))) (.pair (.num 0) (.pair (.num 0) (.num 0)))) bs],.var [.wsl 3 1],.var [.int .i64 k],.arr 3 (.int .i64) xs false false,.var [.fn 143 [(0,0),(1,0),(2,0)],.bfn 162 3 0 3]]⟩ =>
  if(okI bs xs=true/\isAx k)/\j=i/\0<=a/\a<=i/\i<(List.length (α:=Int) xs:Int)/\(List.length (α:=Int) xs:Int)<=1000 then K (.exit 2) (σ298o bs k (insI bs k xs a i) a b i)else none
 | _,_=>none
theorem sum298i:SumOK NN Tryz.prog 35 (loopAt Tryz.f169 1) S298i:=
 SumOK.of_turns inE_ok mixT (A:=A298) (SumsOK.none fun _=>rfl) fun n0 ρ σ K r h=>by
  unfold S298i at h;split at h
  ·rename_i a b i j bs k xs;split at h
   ·rename_i hc;obtain⟨⟨h1,h2⟩,rfl,h3,h4,h5,h6⟩:=hc;obtain⟨a',rfl⟩:=Int.eq_ofNat_of_zero_le h3;obtain⟨i',rfl⟩:=Int.eq_ofNat_of_zero_le (show 0<=j by omega);obtain⟨t,ht⟩:=loop298i K h1 h2 (a:=a') (i:=i') (by omega) b (by omega) i' (by omega) (Nat.le_refl _);rw[rot_id (.inl rfl) (Nat.le_refl _) (by omega) (by omega)]at ht;exact⟨t,ht.trans h⟩
   ·contradiction
  ·contradiction
noncomputable def A298i:Ann:={ A298 with sum:=fun i=>bif Nat.beq i 5 then some S298i else none }
section
variable {ρ:Type} (K:Exit->St->Option ρ) (go:St->Option ρ) (bs:List bxT.den) (k:Int) (xs:List Int) (a b i:Int)
abbrev insG(bs:List bxT.den) (k:Int) (xs:List Int) (a i:Int):Prop:=(okI bs xs=true/\isAx k)/\i=i/\0<=a/\a<=i/\i<(xs.length:Int)/\(xs.length:Int)<=1000
theorem turn298o:turnF inE A298i 35 4 0 (loopAt Tryz.f169 0) K go (σ298o bs k xs a b i) =
  bif decide (i<b)then(if insG bs k xs a i then go (σ298o bs k (insI bs k xs a i) a b (IntKind.i64.wrap (i+1)))else none)else K (.exit 0) ⟨[],hpS bs k xs⟩:=by kernel_rfl
end
theorem loop298o{ρ:Type} (K:Exit->St->Option ρ) {bs:List bxT.den} {k:Int} {xs:List Int} (h:okI bs xs=true) (hk:isAx k) (hl:xs.length<=1000) {a b:Nat} (hb:b<=xs.length):∀ (m n:Nat),a+1+n+m=b ->
  itF (turnF inE A298i 35 4 0 (loopAt Tryz.f169 0) K) (fun _=>none) (m+1) (σ298o bs k (insN (ltI bs k) a n xs) a b ((a+1+n:Nat):Int))=K (.exit 0) ⟨[],hpS bs k (insN (ltI bs k) a (n+m) xs)⟩
 | 0,n,e=>by
  show turnF _ _ _ _ _ _ _ _ _=_;rw[turn298o,decide_eq_false (by omega),cond_false];rfl
 | m+1,n,e=>by
  have hn:=insN_len (lt:=ltI bs k) (a:=a) n (xs:=xs) (by omega);have ok:=okI_perm h (insN_perm (lt:=ltI bs k) (a:=a) n (xs:=xs) (by omega));show turnF _ _ _ _ _ _ _ _ _=_;rw[turn298o,decide_eq_true (by omega),cond_true,if_pos ⟨⟨ok,hk⟩,rfl,by omega,by omega,by omega,by omega⟩];have hw:IntKind.i64.wrap (((a+1+n:Nat):Int)+1)=((a+1+(n+1):Nat):Int):=by rw[IntKind.wrap_i64];omega
  have ei:insI bs k (insN (ltI bs k) a n xs) (a:Int) ((a+1+n:Nat):Int)=insN (ltI bs k) a (n+1) xs:=by
   unfold insI;rw[Int.toNat_natCast,Int.toNat_natCast];rfl
  rw[hw,ei];have:=loop298o K h hk hl (a:=a) (b:=b) hb m (n+1) (by omega);rw[show n+1+m=n+(m+1)by omega]at this;exact this
noncomputable def insA(bs:List bxT.den) (k:Int) (xs:List Int) (a b:Int):List Int:=insN (ltI bs k) a.toNat (b.toNat-a.toNat-1) xs
noncomputable def S298o:Sum:=fun n0 ρ σ K=>match n0,σ with
 | 4,⟨[(1,.v false [.int .i64 a]),(2,.v false [.int .i64 b]),(3,.v false [.ptr 4 0]),(6,.v false [.int .i64 i])],
   [.var [.sl none (.pair (.pair (.num 0) (.pair (.num 0) (.num 0))) (.pair (.num 0) (.pair (.num 0) (.num 0)))) bs],.var [.wsl 3 1],.var [.int .i64 k],.arr 3 (.int .i64) xs false false,.var [.fn 143 [(0,0),(1,0),(2,0)],.bfn 162 3 0 3]]⟩ =>
  if(okI bs xs=true/\isAx k)/\0<=a/\a<=b/\i=IntKind.i64.wrap (a+1)/\b<=(List.length (α:=Int) xs:Int)/\(List.length (α:=Int) xs:Int)<=1000 then K (.exit 0) ⟨[],hpS bs k (insA bs k xs a b)⟩else none
 | _,_=>none
theorem sum298o:SumOK NN Tryz.prog 35 (loopAt Tryz.f169 0) S298o:=
 SumOK.of_turns inE_ok mixT (A:=A298i) (SumsOK.ofL (ls:=[loopAt Tryz.f169 1]) (by kernel_rfl) ⟨sumL1 (by kernel_rfl) sum298i,trivial⟩) fun n0 ρ σ K r h=>by
  unfold S298o at h;split at h
  ·rename_i a b i bs k xs;split at h
   ·rename_i hc;obtain⟨⟨h1,h2⟩,h3,h4,h5,h6,h7⟩:=hc;obtain⟨a',rfl⟩:=Int.eq_ofNat_of_zero_le h3;obtain⟨b',rfl⟩:=Int.eq_ofNat_of_zero_le (show 0<=b by omega);have hi:i=((a'+1+0:Nat):Int):=by rw[h5,IntKind.wrap_i64];omega
    subst hi;unfold insA at h;rw[Int.toNat_natCast,Int.toNat_natCast]at h;rcases Nat.lt_or_ge a' b' with c | c
    ·have ht:=loop298o K h1 h2 (by omega) (a:=a') (b:=b') (by omega) (b'-a'-1) 0 (by omega);rw[Nat.zero_add]at ht;exact⟨_,ht.trans h⟩
    ·refine⟨1,Eq.trans ?_ h⟩;refine(turn298o K _ bs k xs a' b' ((a'+1+0:Nat):Int)).trans ?_;rw[decide_eq_false (by omega),cond_false,show b'-a'-1=0 by omega];rfl
   ·contradiction
  ·contradiction
noncomputable def A298s:Ann:={ A298 with sum:=fun i=>bif Nat.beq i 5 then some S298i else bif Nat.beq i 2 then some S298o else none }
noncomputable def insO:Orc:=fun ρ args H cont=>match args,H with
 | [.v true [.fn 143 [(0,0),(1,0),(2,0)],.bfn 162 3 0 3],.v false [.int .i64 a],.v false [.int .i64 b]],[.var [.sl none (.pair (.pair (.num 0) (.pair (.num 0) (.num 0))) (.pair (.num 0) (.pair (.num 0) (.num 0)))) bs],.var [.wsl 3 1],.var [.int .i64 k],.arr 3 (.int .i64) xs false false] =>
  if(okI bs xs=true/\isAx k)/\0<=a/\a<=b/\b<=(List.length (α:=Int) xs:Int)/\(List.length (α:=Int) xs:Int)<=1000 then cont (.tup []) (hpS bs k (insA bs k xs a b))else none
 | _,_=>none
theorem gq298{ρ:Type} (cont:SV->HL->Option ρ) (bs:List bxT.den) (k:Int) (xs:List Int) (a b:Int):runF inE A298s 0 Tryz.f169 (bodyOf Tryz.f169) ρ [.v true dtA,one (.int .i64 a),one (.int .i64 b)] (hpS bs k xs) cont =
  if(okI bs xs=true/\isAx k)/\0<=a/\a<=b/\IntKind.i64.wrap (a+1)=IntKind.i64.wrap (a+1)/\b<=(xs.length:Int)/\(xs.length:Int)<=1000 then cont (.tup []) (hpS bs k (insA bs k xs a b))else none:=by kernel_rfl
theorem orc_ins:OrcOK NN Tryz.prog 169 insO:=
 OrcOK.of_tale (runF_ok inE_ok mixT (A:=A298s) (fuel:=0) Tryz.func169 (c:=bodyOf Tryz.f169) (by kernel_rfl) (SumsOK.ofL (ls:=[loopAt Tryz.f169 0,loopAt Tryz.f169 1]) (by kernel_rfl) ⟨sumL1 (by kernel_rfl) sum298o,sumL1 (by kernel_rfl) sum298i,trivial⟩)) fun ρ args H cont r hr=>by
  unfold insO at hr;split at hr
  ·rename_i a b bs k xs;split at hr
   ·rename_i hc;refine(gq298 cont bs k xs a b).trans ?_;rw[if_pos ⟨hc.1,hc.2.1,hc.2.2.1,rfl,hc.2.2.2.1,hc.2.2.2.2⟩];exact hr
   ·contradiction
  ·contradiction
end Go.Abs

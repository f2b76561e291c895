/-
 A PART OF THE PROOF of ClI (texts SpcK SpcL SpcM SpcN SpcO SpcP GeoA GeoB LivA): the claim itself stands in the last text. No conditions beside those of the given row.
-/
import Derived.Test.YtjefeldkonejcaaGreatSpcH
import Derived.Test.YtjefeldkonejcaaGreatAbsY
import Derived.Laws.Externs
import Derived.Laws.StructEq
set_option linter.unusedVariables false
set_option linter.unnecessarySimpa false
set_option linter.unusedSimpArgs false
namespace Go.Abs
open Go.Proofs
set_option maxRecDepth 100000
def lS(n d:Int):SV:=.v true [.int .i64 n,.int .i64 d,.nils]
def lLD(p q:tZ.den):SV:=.v true [.int .i64 0,.int .i64 0,.sl (some false) tZ [p,q]]
def lL(q:Rat):SV:=lLD (zD q.num) (zD q.den)
def ratL(q:Rat):SV:=if q.num.natAbs<=2147483647/\q.den<=2147483647 then lS q.num q.den else lL q
def smallB(n:Int):Bool:=bif decide (-2147483648<n)then decide (n<2147483648)else false
theorem smallB_eq(n:Int):smallB n=decide (-2147483648<n/\n<2147483648):=by unfold smallB;simp only [Bool.decide_and];cases decide (-2147483648<n) <;> rfl
theorem run164{ρ:Type} (cont:SV->HL->Option ρ) (n:Int):runF Vz0 Ash 0 Tryz.f130 (bodyOf Tryz.f130) ρ [one (.int .i64 n)] [] cont =
  bif decide (-2147483648<n)then cont (one (.bool (bif true then decide (n<2147483648)else false))) []else cont (one (.bool false)) []:=by kernel_rfl
def smallO:Orc:=fun ρ args H cont=>match args,H with
 | [.v false [.int .i64 a]],[]=>cont (one (.bool (smallB a))) []
 | _,_=>none
theorem orc164(N:NumSem):OrcOK N Tryz.prog 130 smallO:=
 OrcOK.of_tale (runF_ok (Vz0_ok N) mixT (A:=Ash) (fuel:=0) Tryz.func130 (c:=bodyOf Tryz.f130) (by kernel_rfl) (wp_loops (by kernel_rfl))) fun ρ args H cont r h=>by
  unfold smallO at h;split at h
  ·rename_i a;refine(run164 cont a).trans ?_;unfold smallB at h;cases hd:decide (-2147483648<a)with
   | true=>rw[hd]at h;exact h
   | false=>rw[hd]at h;exact h
  ·contradiction
def packC{ρ:Type} (cont:SV->HL->Option ρ) (p q:tZ.den):Option ρ:=
 if zOk p/\zOk q then(if(zV p).natAbs<=2147483647/\(zV q).natAbs<=2147483647 then cont (lS (zV p) (zV q)) []else cont (lLD p q) [])else none
def packO:Orc:=fun ρ args H cont=>match args,H with
 | [.v true [.bool s,.sl b (.int .u32) xs],.v true [.bool t,.sl b' (.int .u32) ys]],[]=>packC cont (s,xs) (t,ys)
 | _,_=>none
def Vz7:Env:={ T:=tranT,E:=[],Γ:=gamL [(69,zIntO)],M:=Mz }
theorem Vz7_ok(N:NumSem):EnvOK N Tryz.prog Vz7:={ T:=TT_ok,E:=fun p hp=>(by cases hp),Γ:=gamC (orc80 N) Tryz.call69 (gamN N _) }
theorem run166{ρ:Type} (cont:SV->HL->Option ρ) (b b':Option Bool) (s t:Bool) (xs ys:List tW.den):runF Vz7 Ash 0 Tryz.f132 (bodyOf Tryz.f132) ρ [zN b s xs,zN b' t ys] [] cont =
  if zOk (s,xs)/\(0:Int)<=2147483647/\(2147483647:Int)<9223372036854775808 then(if zOk (t,ys)/\(0:Int)<=2147483647/\(2147483647:Int)<9223372036854775808 then
   bif iOk (zV (s,xs)) 2147483647 then bif bif true then iOk (zV (t,ys)) 2147483647 else false then cont (lS (iVal (zV (s,xs)) 2147483647) (iVal (zV (t,ys)) 2147483647)) []else cont (lLD (s,xs) (t,ys)) []else cont (lLD (s,xs) (t,ys)) []else none)else none:=by kernel_rfl
theorem orc166(N:NumSem):OrcOK N Tryz.prog 132 packO:=
 OrcOK.of_tale (runF_ok (Vz7_ok N) mixT (A:=Ash) (fuel:=0) Tryz.func132 (c:=bodyOf Tryz.f132) (by kernel_rfl) (wp_loops (by kernel_rfl))) fun ρ args H cont r h=>by
  unfold packO at h;split at h
  ·rename_i s b xs t b' ys;unfold packC at h;split at h
   ·rename_i hc;refine(run166 cont b b' s t xs ys).trans ?_;rw[if_pos ⟨hc.1,by decide,by decide⟩,if_pos ⟨hc.2,by decide,by decide⟩];unfold iOk iVal;generalize zV (s,xs)=p at *;generalize zV (t,ys)=q at *
    by_cases h1:(p.natAbs:Int)<=2147483647
    ·rw[decide_eq_true h1,cond_true,cond_true,if_pos h1]
     by_cases h2:(q.natAbs:Int)<=2147483647
     ·rw[decide_eq_true h2,cond_true,if_pos h2];rw[if_pos ⟨by omega,by omega⟩]at h;exact h
     ·rw[decide_eq_false h2,cond_false];rw[if_neg (by omega)]at h;exact h
    ·rw[decide_eq_false h1,cond_false];rw[if_neg (by omega)]at h;exact h
   ·contradiction
  ·contradiction
theorem packC_eq{ρ:Type} (cont:SV->HL->Option ρ) (q:Rat) (h1:(words q.num.natAbs).length<1000000000) (h2:(words q.den).length<1000000000):packC cont (zD q.num) (zD q.den)=cont (ratL q) []:=by
 unfold packC ratL lL;rw[zV_zD,zV_zD,if_pos ⟨zOk_zD h1,zOk_zD (by rw[Int.natAbs_natCast];exact h2)⟩,Int.natAbs_natCast];split <;> rfl
def ofC{ρ:Type} (cont:SV->HL->Option ρ) (q:Rat):Option ρ:=if q.num.natAbs<=2147483647/\q.den<=2147483647 then cont (lS q.num q.den) []else cont (lLD (zD q.num) (zD q.den)) []
theorem ofC_eq{ρ:Type} (cont:SV->HL->Option ρ) (q:Rat):ofC cont q=cont (ratL q) []:=by unfold ofC ratL lL;split <;> rfl
def rOfO:Orc:=fun ρ args H cont=>match args,H with
 | [.v false [.int .i64 n],.v false [.int .i64 d]],[]=>if(-9223372036854775808<=n/\n<9223372036854775808)/\0<d/\d<9223372036854775808 then
   (if(-2147483648<n/\n<2147483648)/\d<2147483648 then cont (lS n d) []else ofC cont (Rat.divInt n d))else none
 | _,_=>none
def Vz8:Env:={ T:=tranT,E:=[],Γ:=gamL [(130,smallO),(68,absO),(67,gcdO),(131,magO),(132,packO)],M:=Mz }
theorem Vz8_ok(N:NumSem):EnvOK N Tryz.prog Vz8:={ T:=TT_ok,E:=fun p hp=>(by cases hp),Γ:=gamC (orc164 N) Tryz.call130 (gamC (orc78 N) Tryz.call68 (gamC (orc77 N) Tryz.call67 (gamC (orc165 N) Tryz.call131 (gamC (orc166 N) Tryz.call132 (gamN N _))))) }
def mid123{ρ:Type} (cont:SV->HL->Option ρ) (n d:Int):Option ρ:=
 if -9223372036854775808<=n/\n<9223372036854775808 then(if 0<=iabs n/\0<=IntKind.u64.wrap d then(if -9223372036854775808<=n/\n<9223372036854775808 then
  (let g:=igcd (iabs n) (IntKind.u64.wrap d)
   let p:=IntKind.u64.wrap ((iabs n).tdiv g)
   let q:=IntKind.u64.wrap ((IntKind.u64.wrap d).tdiv g)
   if g=0 then none else if 0<=p/\p<18446744073709551616 then(if g=0 then none else if 0<=q/\q<18446744073709551616 then packC cont (decide (n<0),words p.toNat) (false,words q.toNat)else none)else none)else none)else none)else none
theorem run123{ρ:Type} (cont:SV->HL->Option ρ) (n d:Int):runF Vz8 Ash 0 Tryz.f99 (bodyOf Tryz.f99) ρ [one (.int .i64 n),one (.int .i64 d)] [] cont =
  bif smallB n then bif bif true then smallB d else false then cont (lS n d) []else mid123 cont n d else mid123 cont n d:=by kernel_rfl
theorem divInt_zD{n d:Int} (hd:0<d):(decide (n<0),words (n.natAbs / Int.gcd n d))=zD (Rat.divInt n d).num/\(false,words (d.natAbs / Int.gcd n d))=zD ((Rat.divInt n d).den:Int):=by
 obtain⟨h1,h2⟩:=divInt_pos n d hd;have hg:0<Int.gcd n d:=Int.gcd_pos_of_ne_zero_right n (by omega);have hgn:((Int.gcd n d:Nat):Int) ∣ n:=Int.gcd_dvd_left ..;have hgd:((Int.gcd n d:Nat):Int) ∣ d:=Int.gcd_dvd_right ..;unfold zD;rw[h1,h2,Int.natAbs_ediv_of_dvd hgn,Int.natAbs_ediv_of_dvd hgd,Int.natAbs_natCast];constructor
 ·congr 1;obtain⟨m,hm⟩:=hgn;generalize Int.gcd n d=g at *;subst hm;rw[Int.mul_ediv_cancel_left _ (by omega)]
  by_cases h:m<0
  ·rw[decide_eq_true h,decide_eq_true (Int.mul_neg_of_pos_of_neg (by omega) h)]
  ·rw[decide_eq_false h,decide_eq_false (Int.not_lt.2 (Int.mul_nonneg (by omega) (by omega)))]
 ·congr 1;have:0<=d / (Int.gcd n d:Nat):=Int.ediv_nonneg (by omega) (by omega);rw[decide_eq_false (by omega)]
theorem orc123(N:NumSem):OrcOK N Tryz.prog 99 rOfO:=
 OrcOK.of_tale (runF_ok (Vz8_ok N) mixT (A:=Ash) (fuel:=0) Tryz.func99 (c:=bodyOf Tryz.f99) (by kernel_rfl) (wp_loops (by kernel_rfl))) fun ρ args H cont r h=>by
  unfold rOfO at h;split at h
  ·rename_i n d;split at h
   ·rename_i hc;obtain⟨hn,hd0,hd1⟩:=hc;refine(run123 cont n d).trans ?_;have hmid:mid123 cont n d=ofC cont (Rat.divInt n d):=by
     rw[ofC_eq];have hu:IntKind.u64.wrap d=d:=u64_id d (by omega) (by omega);have hg:igcd (n.natAbs:Int) d=(Int.gcd n d:Nat):=by
      obtain⟨e,rfl⟩:=Int.eq_ofNat_of_zero_le (Int.le_of_lt hd0);rw[igcd_eq];rfl
     have hgp:0<Int.gcd n d:=Int.gcd_pos_of_ne_zero_right n (by omega);unfold mid123;rw[hu,iabs_eq,if_pos hn,if_pos ⟨by omega,by omega⟩,if_pos hn];simp only [hg];have hq1:n.natAbs / Int.gcd n d<=n.natAbs:=Nat.div_le_self ..;have hq2:d.natAbs / Int.gcd n d<=d.natAbs:=Nat.div_le_self ..;have e1:IntKind.u64.wrap ((n.natAbs:Int).tdiv (Int.gcd n d:Nat))=((n.natAbs / Int.gcd n d:Nat):Int):=by
      rw[show (n.natAbs:Int).tdiv (Int.gcd n d:Nat)=((n.natAbs / Int.gcd n d:Nat):Int)from rfl];generalize n.natAbs / Int.gcd n d=P at *;rw[u64_id _ (by omega) (by omega)]
     have e2:IntKind.u64.wrap (d.tdiv (Int.gcd n d:Nat))=((d.natAbs / Int.gcd n d:Nat):Int):=by
      have:d.tdiv (Int.gcd n d:Nat)=((d.natAbs / Int.gcd n d:Nat):Int):=by
       generalize Int.gcd n d=g;obtain⟨e,rfl⟩:=Int.eq_ofNat_of_zero_le (Int.le_of_lt hd0);rfl
      rw[this];generalize d.natAbs / Int.gcd n d=Q at *;rw[u64_id _ (by omega) (by omega)]
     obtain⟨z1,z2⟩:=divInt_zD (n:=n) hd0;obtain⟨k1,k2⟩:=divInt_pos_le (n:=n) hd0;have z1':((decide (n<0),words (n.natAbs / Int.gcd n d)):tZ.den)=zD (Rat.divInt n d).num:=z1;have z2':((false,words (d.natAbs / Int.gcd n d)):tZ.den)=zD ((Rat.divInt n d).den:Int):=z2;have l1:=words_small (n:=(Rat.divInt n d).num.natAbs) (by omega);have l2:=words_small (n:=(Rat.divInt n d).den) (by omega);rw[e1,e2];generalize n.natAbs / Int.gcd n d=P at *;generalize d.natAbs / Int.gcd n d=Q at *;rw[if_neg (by omega),if_pos ⟨by omega,by omega⟩,if_neg (by omega),if_pos ⟨by omega,by omega⟩,Int.toNat_natCast,Int.toNat_natCast];exact(congr (congrArg (packC cont) z1') z2').trans (packC_eq cont _ (by omega) (by omega))
    rw[smallB_eq,smallB_eq,hmid]
    by_cases h1:-2147483648<n/\n<2147483648
    ·rw[decide_eq_true h1,cond_true,cond_true]
     by_cases h2:d<2147483648
     ·rw[decide_eq_true ⟨by omega,h2⟩,cond_true];rw[if_pos ⟨h1,h2⟩]at h;exact h
     ·rw[decide_eq_false (by omega),cond_false];rw[if_neg (by omega)]at h;exact h
    ·rw[decide_eq_false h1,cond_false];rw[if_neg (by omega)]at h;exact h
   ·contradiction
  ·contradiction
def Vz9:Env:={ T:=tranT,E:=[],Γ:=gamL [(133,zz1 (fun _=>true) fun n=>zS (-n)),(134,zGcdO),(135,magDivO),(132,packO)],M:=Mz }
theorem Vz9_ok(N:NumSem):EnvOK N Tryz.prog Vz9:={ T:=TT_ok,E:=fun p hp=>(by cases hp),Γ:=gamC (orc124 N) Tryz.call133 (gamC (orc167 N) Tryz.call134 (gamC (orc168 N) Tryz.call135 (gamC (orc166 N) Tryz.call132 (gamN N _)))) }
def mid125{ρ:Type} (cont:SV->HL->Option ρ) (s:Bool) (xs ys:List tW.den):Option ρ:=
 let g:List tW.den:=words (Nat.gcd (val xs).toNat (val ys).toNat)
 if canon xs/\canon ys/\List.length (α:=Int) xs<10000000000/\List.length (α:=Int) ys<10000000000 then
  (if canon xs/\canon g/\List.length (α:=Int) xs<10000000000/\List.length (α:=Int) g<10000000000/\0<val g then
   (if canon ys/\canon g/\List.length (α:=Int) ys<10000000000/\List.length (α:=Int) g<10000000000/\0<val g then
    packC cont (s,words ((val xs).toNat / (val g).toNat)) (false,words ((val ys).toNat / (val g).toNat))else none)else none)else none
theorem run125{ρ:Type} (cont:SV->HL->Option ρ) (s t:Bool) (xs ys:List tW.den):runF Vz9 Ash 0 Tryz.f101 (bodyOf Tryz.f101) ρ [zN none s xs,zN none t ys] [] cont =
  bif (xs.length:Int)==0 then cont (lS 0 1) []else bif t then
   (if zOk (s,xs)/\true=true then(if zOk (t,ys)/\true=true then mid125 cont (decide (-zV (s,xs)<0)) (words (-zV (s,xs)).natAbs) (words (-zV (t,ys)).natAbs)else none)else none)
  else mid125 cont s xs ys:=by kernel_rfl
theorem mid125_eq{ρ:Type} (cont:SV->HL->Option ρ) (n d:Int) (hd:0<d) (hn:(words n.natAbs).length<1000000000) (hdl:(words d.natAbs).length<1000000000) :
  mid125 cont (decide (n<0)) (words n.natAbs) (words d.natAbs)=ofC cont (Rat.divInt n d):=by
 have hgp:0<Int.gcd n d:=Int.gcd_pos_of_ne_zero_right n (by omega);have hgd:Int.gcd n d<=d.natAbs:=Nat.le_of_dvd (by omega) (Nat.gcd_dvd_right ..);have hgl:=words_mono hgd;have hge:Nat.gcd n.natAbs d.natAbs=Int.gcd n d:=rfl;unfold mid125;simp only [];rw[val_words,val_words,Int.toNat_natCast,Int.toNat_natCast,hge,val_words,Int.toNat_natCast,if_pos ⟨canon_words _,canon_words _,by omega,by omega⟩,if_pos ⟨canon_words _,canon_words _,by omega,by omega,by omega⟩,if_pos ⟨canon_words _,canon_words _,by omega,by omega,by omega⟩];obtain⟨z1,z2⟩:=divInt_zD (n:=n) hd;obtain⟨k1,k2⟩:=divInt_pos_le (n:=n) hd;have z1':((decide (n<0),words (n.natAbs / Int.gcd n d)):tZ.den)=zD (Rat.divInt n d).num:=z1;have z2':((false,words (d.natAbs / Int.gcd n d)):tZ.den)=zD ((Rat.divInt n d).den:Int):=z2;have l1:=words_mono k1;have l2:=words_mono k2;rw[ofC_eq];exact(congr (congrArg (packC cont) z1') z2').trans (packC_eq cont _ (by omega) (by omega))
def rBigO:Orc:=fun ρ args H cont=>match args,H with
 | [.v true [.bool s,.sl none (.int .u32) xs],.v true [.bool t,.sl none (.int .u32) ys]],[]=>if zOk (s,xs)/\zOk (t,ys)/\zV (t,ys)≠0 then ofC cont (Rat.divInt (zV (s,xs)) (zV (t,ys)))else none
 | _,_=>none
theorem orc125(N:NumSem):OrcOK N Tryz.prog 101 rBigO:=
 OrcOK.of_tale (runF_ok (Vz9_ok N) mixT (A:=Ash) (fuel:=0) Tryz.func101 (c:=bodyOf Tryz.f101) (by kernel_rfl) (wp_loops (by kernel_rfl))) fun ρ args H cont r h=>by
  unfold rBigO at h;split at h
  ·rename_i s xs t ys;split at h
   ·rename_i hc;obtain⟨hs,ht,h0⟩:=hc;obtain⟨n,hn,hl⟩:=zOk_ex hs;obtain⟨d,hd,hl2⟩:=zOk_ex ht;have hn':((s,xs):tZ.den)=(decide (n<0),words n.natAbs):=hn;have hd':((t,ys):tZ.den)=(decide (d<0),words d.natAbs):=hd;obtain⟨rfl,rfl⟩:=Prod.mk.inj hn';obtain⟨rfl,rfl⟩:=Prod.mk.inj hd';have hz:zV ((decide (n<0),words n.natAbs):tZ.den)=n:=zV_zD n;have hz2:zV ((decide (d<0),words d.natAbs):tZ.den)=d:=zV_zD d;rw[hz,hz2]at h;rw[hz2]at h0;refine(run125 cont _ _ _ _).trans ?_;have ll:List.length (α:=tW.den) (words n.natAbs)=(words n.natAbs).length:=rfl;rw[ll,hz,hz2]
    by_cases hn0:n=0
    ·subst hn0;rw[show (((words (0:Int).natAbs).length:Int)==0)=true from rfl,cond_true];rw[Rat.zero_divInt,ofC_eq]at h;exact h
    ·have hw:=words_eq n.natAbs;rw[if_neg (by omega)]at hw;have hne:(((words n.natAbs).length:Int)==0)=false:=by rw[hw,List.length_cons];exact beq_eq_false_iff_ne.2 (by omega)
     rw[hne,cond_false]
     by_cases hdn:d<0
     ·rw[decide_eq_true hdn,cond_true,if_pos ⟨hs,rfl⟩,if_pos ⟨by rw[<- decide_eq_true hdn];exact ht,rfl⟩,mid125_eq cont (-n) (-d) (by omega) (by rw[Int.natAbs_neg];exact hl) (by rw[Int.natAbs_neg];exact hl2)];have:Rat.divInt (-n) (-d)=Rat.divInt n d:=by
       have:=Rat.divInt_mul_right (n:=n) (d:=d) (a:=-1) (by decide);rw[Int.mul_neg,Int.mul_neg,Int.mul_one,Int.mul_one]at this;exact this
      rw[this];exact h
     ·rw[decide_eq_false hdn,cond_false,mid125_eq cont n d (by omega) hl hl2];exact h
   ·contradiction
  ·contradiction
end Go.Abs
namespace Go.Abs
open Go.Proofs
set_option maxRecDepth 100000
def isL(q:Rat) (s:SV):Prop:=(∃ n d:Int,s=lS n d/\(0<d/\d<2147483648)/\(-2147483648<n/\n<2147483648)/\q=Rat.divInt n d)\/s=lL q
theorem isL_ids{q:Rat} {s:SV} (h:isL q s):s.ids=[]:=by
 rcases h with ⟨n,d,rfl,_⟩ | rfl <;> rfl
theorem isL_ratL(q:Rat):isL q (ratL q):=by
 unfold ratL;split
 ·rename_i h;have:=q.den_pos;exact .inl ⟨_,_,rfl,by omega,by omega,(Rat.num_divInt_den q).symm⟩
 ·exact .inr rfl
theorem isL_S{n d:Int} (hn:-2147483648<n/\n<2147483648) (hd:0<d/\d<2147483648):isL (Rat.divInt n d) (lS n d):=.inl ⟨n,d,rfl,hd,hn,rfl⟩
theorem SlR.imp{α:Type} {G:Ghost} {w:Nat} {E E':α->List Value->Prop} {xs:List α} {v:Value} (h:SlR G w E xs v) (hE:∀ x vs,E x vs->E' x vs):SlR G w E' xs v:=by
 rcases h with h | ⟨b,o,c,h1,h2,h3⟩
 ·exact .inl h
 ·refine .inr ⟨b,o,c,h1,h2,fun i x e=>?_⟩;obtain⟨vs,a,b',c'⟩:=h3 i x e;exact⟨vs,hE _ _ a,b',c'⟩
theorem SlR.plain{α:Type} {G:Ghost} {w:Nat} {E:α->List Value->Prop} {xs:List α} {v:Value} (h:SlR G w E xs v):Plain v:=by
 rcases h with ⟨rfl,_⟩ | ⟨b,o,c,rfl,_⟩ <;> exact plainS _ _ _
theorem nm_inL{G:Ghost} {κ:Kap} {q:Rat} {v:Value} (h:svR NN G κ (nm 1 q) v):∃ s,isL q s/\svR NN G κ s v:=by
 obtain⟨cs,hv,h⟩:=h;have h:=h.one_inv;rcases h with ⟨n,d,h,hd,hn,hq⟩ | ⟨w,h,hp,h2⟩
 ·refine⟨lS n d,.inl ⟨n,d,rfl,hd,hn,hq⟩,cs,hv,?_⟩;rw[h];exact AsR.three rfl rfl rfl
 ·refine⟨lL q,.inr rfl,cs,hv,?_⟩;rw[h];refine AsR.three rfl rfl ⟨w,rfl,h2.imp fun x vs=>DR.flat (t:=tZ) rfl,(fun h=>by cases h),fun _ e=>?_⟩;rcases h2 with ⟨_,h3⟩ | ⟨b,o,c,h3,_⟩
  ·cases h3
  ·rw[h3]at e;cases e
theorem nm_outL{G:Ghost} {κ:Kap} {q:Rat} {s:SV} {v:Value} (hs:isL q s) (h:svR NN G κ s v):svR NN G κ (nm 1 q) v:=by
 rcases hs with ⟨n,d,rfl,hd,hn,hq⟩ | rfl
 ·obtain⟨cs,hv,h⟩:=h;obtain⟨x,y,z,e,h1,h2,h3⟩:=h.three_inv;simp only [AR]at h1 h2 h3;subst h1 h2 h3;exact⟨cs,hv,AsR.one (.inl ⟨n,d,by rw[e];rfl,hd,hn,hq⟩)⟩
 ·obtain⟨cs,hv,h⟩:=h;obtain⟨x,y,z,e,h1,h2,h3⟩:=h.three_inv;obtain⟨w,h3,h4,_,_⟩:=h3;simp only [AR]at h1 h2;subst h1 h2 h3;exact⟨cs,hv,AsR.one (.inr ⟨w,by rw[e];rfl,h4.plain,h4.imp fun x vs=>DR.flat (t:=tZ) rfl⟩)⟩
def Cv(res u:SV):Prop:=∀ (G:Ghost) (κ:Kap) (v:Value),svR NN G κ u v->svR NN G κ res v
theorem Cv.rfl'(u:SV):Cv u u:=fun _ _ _ h=>h
theorem Cv.num{q:Rat} {u:SV} (h:isL q u):Cv (nm 1 q) u:=fun _ _ _ h'=>nm_outL h h'
def lat1(g:Rat->Bool) (f:Rat->SV):Orc:=fun ρ args H cont=>match args,H with
 | [.v true [.num 1 (some q)]],[]=>if g q=true then cont (f q) []else none
 | _,_=>none
def lat2(g:Rat->Rat->Bool) (f:Rat->Rat->SV):Orc:=fun ρ args H cont=>match args,H with
 | [.v true [.num 1 (some p)],.v true [.num 1 (some q)]],[]=>if g p q=true then cont (f p q) []else none
 | _,_=>none
theorem lat1_ok{P:Program} {k:Nat} {F:Orc} {g:Rat->Bool} {f:Rat->SV} (hF:OrcOK NN P k F)
  (h:∀ (q:Rat) (s:SV),isL q s->g q=true->∃ u,Cv (f q) u /\ ∀ ρ (cont:SV->HL->Option ρ),F ρ [s] [] cont=cont u []):OrcOK NN P k (lat1 g f):=by
 intro ρ args H cont r hr hwf hids;unfold lat1 at hr;split at hr
 ·rename_i q;split at hr
  ·rename_i hg;refine⟨_,_,hr,Nat.le_refl _,fun{G κ w cargs} hrel hargs=>?_⟩;obtain⟨v,r',e1,h1,h2⟩:=hargs;obtain⟨t,ht,h1⟩:=nm_inL h1;obtain⟨u,hu,hF'⟩:=h q t ht hg;obtain⟨s',H',e,_,hcall⟩:=hF (hF' _ (fun s H=>some (s,H))) hwf (fun s hs i hi=>by
    have:s=t:=by simpa using hs
    subst this;rw[isL_ids ht]at hi;cases hi)
   simp only [Option.some.injEq,Prod.mk.injEq]at e;obtain⟨rfl,rfl⟩:=e;refine(hcall hrel ⟨v,r',e1,h1,h2⟩).mono fun e w' hq=>?_
   obtain⟨G',κ',v',q1,q2,q3,q4,q5⟩:=hq;exact⟨G',κ',v',q1,q2,q3,hu _ _ _ q4,q5⟩
  ·contradiction
 ·contradiction
theorem lat2_ok{P:Program} {k:Nat} {F:Orc} {g:Rat->Rat->Bool} {f:Rat->Rat->SV} (hF:OrcOK NN P k F)
  (h:∀ (p q:Rat) (s t:SV),isL p s->isL q t->g p q=true->∃ u,Cv (f p q) u /\ ∀ ρ (cont:SV->HL->Option ρ),F ρ [s,t] [] cont=cont u []):OrcOK NN P k (lat2 g f):=by
 intro ρ args H cont r hr hwf hids;unfold lat2 at hr;split at hr
 ·rename_i p q;split at hr
  ·rename_i hg;refine⟨_,_,hr,Nat.le_refl _,fun{G κ w cargs} hrel hargs=>?_⟩;obtain⟨v,r',e1,h1,v2,r2,e2,h2,h3⟩:=hargs;obtain⟨s0,hs0,h1⟩:=nm_inL h1;obtain⟨t0,ht0,h2⟩:=nm_inL h2;obtain⟨u,hu,hF'⟩:=h p q s0 t0 hs0 ht0 hg;obtain⟨s',H',e,_,hcall⟩:=hF (hF' _ (fun s H=>some (s,H))) hwf (fun s hs i hi=>by
    have:s=s0\/s=t0:=by simpa using hs
    rcases this with rfl | rfl
    ·rw[isL_ids hs0]at hi;cases hi
    ·rw[isL_ids ht0]at hi;cases hi)
   simp only [Option.some.injEq,Prod.mk.injEq]at e;obtain⟨rfl,rfl⟩:=e;refine(hcall hrel ⟨v,r',e1,h1,v2,r2,e2,h2,h3⟩).mono fun e w' hq=>?_
   obtain⟨G',κ',v',q1,q2,q3,q4,q5⟩:=hq;exact⟨G',κ',v',q1,q2,q3,hu _ _ _ q4,q5⟩
  ·contradiction
 ·contradiction
def rZO:Orc:=fun ρ args H cont=>match args,H with
 | [.v true [.int .i64 n,.int .i64 d,.nils]],[]=>if(-9223372036854775808<=n/\n<9223372036854775808) /\ -9223372036854775808<=d/\d<9223372036854775808 then
   cont (.tup [(true,[.bool (decide (n<0)),.sl none tW (words n.natAbs)]),(true,[.bool (decide (d<0)),.sl none tW (words d.natAbs)])]) []else none
 | [.v true [.int .i64 n,.int .i64 d,.sl (some false) (.pair .bool (.list (.int .u32))) [p,q]]],[]=>cont (.tup [(true,[.bool p.1,.sl none tW p.2]),(true,[.bool q.1,.sl none tW q.2])]) []
 | _,_=>none
def Vza:Env:={ T:=tranT,E:=[],Γ:=gamL [(103,zOfO)],M:=Mz }
theorem Vza_ok(N:NumSem):EnvOK N Tryz.prog Vza:={ T:=TT_ok,E:=fun p hp=>(by cases hp),Γ:=gamC (orc132 N) Tryz.call103 (gamN N _) }
theorem run79{ρ:Type} (cont:SV->HL->Option ρ) (n d:Int):runF Vza Ash 0 Tryz.f64 (bodyOf Tryz.f64) ρ [lS n d] [] cont =
  if -9223372036854775808<=n/\n<9223372036854775808 then(if -9223372036854775808<=d/\d<9223372036854775808 then
   cont (.tup [(true,[.bool (decide (n<0)),.sl none tW (words n.natAbs)]),(true,[.bool (decide (d<0)),.sl none tW (words d.natAbs)])]) []else none)else none:=by kernel_rfl
theorem run79b{ρ:Type} (cont:SV->HL->Option ρ) (n d:Int) (p q:tZ.den):runF Vza Ash 0 Tryz.f64 (bodyOf Tryz.f64) ρ [.v true [.int .i64 n,.int .i64 d,.sl (some false) tZ [p,q]]] [] cont =
  cont (.tup [(true,[.bool p.1,.sl none tW p.2]),(true,[.bool q.1,.sl none tW q.2])]) []:=by kernel_rfl
theorem orc79(N:NumSem):OrcOK N Tryz.prog 64 rZO:=
 OrcOK.of_tale (runF_ok (Vza_ok N) mixT (A:=Ash) (fuel:=0) Tryz.func64 (c:=bodyOf Tryz.f64) (by kernel_rfl) (wp_loops (by kernel_rfl))) fun ρ args H cont r h=>by
  unfold rZO at h;split at h
  ·rename_i n d;split at h
   ·rename_i hc;refine(run79 cont n d).trans ?_;rw[if_pos hc.1,if_pos hc.2];exact h
   ·contradiction
  ·exact(run79b cont _ _ _ _).trans h
  ·contradiction
end Go.Abs
namespace Go.Abs
open Go.Proofs
set_option maxRecDepth 100000
def Vzb:Env:={ T:=tranT,E:=[],Γ:=gamL [(99,rOfO),(64,rZO),(66,zz2 (fun _ _=>true) fun n m=>zS (n*m)),(102,zz2 (fun _ _=>true) fun n m=>zS (n+m)),(101,rBigO),(133,zz1 (fun _=>true) fun n=>zS (-n)),(104,zz1 (fun _=>true) fun n=>one (.int .i64 (Int.sign n))),(65,zz2 (fun n m=>szZ n&&szZ m) fun n m=>one (.int .i64 (Int.sign (n-m)))),(69,zIntO),(67,gcdO),(68,absO)],M:=Mz }
theorem Vzb_ok(N:NumSem):EnvOK N Tryz.prog Vzb:={ T:=TT_ok,E:=fun p hp=>(by cases hp),Γ:=gamC (orc123 N) Tryz.call99 (gamC (orc79 N) Tryz.call64 (gamC (orc109 N) Tryz.call66 (gamC (orc126 N) Tryz.call102 (gamC (orc125 N) Tryz.call101 (gamC (orc124 N) Tryz.call133 (gamC (orc127 N) Tryz.call104 (gamC (orc108 N) Tryz.call65 (gamC (orc80 N) Tryz.call69 (gamC (orc77 N) Tryz.call67 (gamC (orc78 N) Tryz.call68 (gamN N _))))))))))) }
def ofG{ρ:Type} (cont:SV->HL->Option ρ) (n d:Int):Option ρ:=
 if(-9223372036854775808<=n/\n<9223372036854775808)/\0<d/\d<9223372036854775808 then(if(-2147483648<n/\n<2147483648)/\d<2147483648 then cont (lS n d) []else ofC cont (Rat.divInt n d))else none
def ofR'(n d:Int):SV:=if(-2147483648<n/\n<2147483648)/\d<2147483648 then lS n d else ratL (Rat.divInt n d)
theorem ofG_eq{ρ:Type} (cont:SV->HL->Option ρ) {n d:Int} (hn:-9223372036854775808<=n/\n<9223372036854775808) (hd:0<d/\d<9223372036854775808):ofG cont n d=cont (ofR' n d) []:=by
 unfold ofG ofR';rw[if_pos ⟨hn,hd⟩,ofC_eq];split <;> rfl
theorem isL_ofR'{n d:Int} (hd:0<d):isL (Rat.divInt n d) (ofR' n d):=by
 unfold ofR';split
 ·rename_i h;exact isL_S h.1 ⟨hd,h.2⟩
 ·exact isL_ratL _
theorem isL_parts{q:Rat} {s:SV} (h:isL q s) (hz:szQ q=true):∃ n d:Int,0<d/\q=Rat.divInt n d/\(words n.natAbs).length<100000000/\(words d.natAbs).length<100000000 /\
  ((s=lS n d/\d<2147483648 /\ -2147483648<n/\n<2147483648)\/s=lLD (zD n) (zD d)):=by
 rcases h with ⟨n,d,rfl,hd,hn,hq⟩ | rfl
 ·have l1:=words_small (n:=n.natAbs) (by omega);have l2:=words_small (n:=d.natAbs) (by omega);exact⟨n,d,hd.1,hq,by omega,by omega,.inl ⟨rfl,hd.2,hn⟩⟩
 ·obtain⟨h1,h2⟩:=szQ_ok hz;have:=q.den_pos;exact⟨q.num,q.den,by omega,(Rat.num_divInt_den q).symm,h1,by rw[Int.natAbs_natCast];exact h2,.inr rfl⟩
def wd{ρ:Type} (n d:Int) (k:tZ.den->tZ.den->Option ρ):Option ρ:=if(-9223372036854775808<=n/\n<9223372036854775808) /\ -9223372036854775808<=d/\d<9223372036854775808 then k (zD n) (zD d)else none
theorem wd_eq{ρ:Type} {n d:Int} (k:tZ.den->tZ.den->Option ρ) (hn:-2147483648<n/\n<2147483648) (hd:0<d/\d<2147483648):wd n d k=k (zD n) (zD d):=by
 unfold wd;rw[if_pos ⟨by omega,by omega,by omega⟩]
def addZ{ρ:Type} (cont:SV->HL->Option ρ) (p1 p2 q1 q2:tZ.den):Option ρ:=
 let x:=zD (zV p1*zV q2)
 let y:=zD (zV q1*zV p2)
 let w:=zD (zV x+zV y)
 let v:=zD (zV p2*zV q2)
 if zOk p1/\zOk q2/\true=true then(if zOk q1/\zOk p2/\true=true then(if zOk x/\zOk y/\true=true then(if zOk p2/\zOk q2/\true=true then
  (if zOk w/\zOk v/\zV v≠0 then ofC cont (Rat.divInt (zV w) (zV v))else none)else none)else none)else none)else none
theorem run70{ρ:Type} (cont:SV->HL->Option ρ) (a b c d:Int):runF Vzb Ash 0 Tryz.f61 (bodyOf Tryz.f61) ρ [lS a b,lS c d] [] cont =
  ofG cont (IntKind.i64.wrap (IntKind.i64.wrap (a*d)+IntKind.i64.wrap (c*b))) (IntKind.i64.wrap (b*d)):=by kernel_rfl
theorem run70l{ρ:Type} (cont:SV->HL->Option ρ) (p1 p2:tZ.den) (c d:Int):runF Vzb Ash 0 Tryz.f61 (bodyOf Tryz.f61) ρ [lLD p1 p2,lS c d] [] cont=wd c d fun q1 q2=>addZ cont p1 p2 q1 q2:=by kernel_rfl
theorem run70r{ρ:Type} (cont:SV->HL->Option ρ) (a b:Int) (q1 q2:tZ.den):runF Vzb Ash 0 Tryz.f61 (bodyOf Tryz.f61) ρ [lS a b,lLD q1 q2] [] cont=wd a b fun p1 p2=>addZ cont p1 p2 q1 q2:=by kernel_rfl
theorem run70b{ρ:Type} (cont:SV->HL->Option ρ) (p1 p2 q1 q2:tZ.den):runF Vzb Ash 0 Tryz.f61 (bodyOf Tryz.f61) ρ [lLD p1 p2,lLD q1 q2] [] cont=addZ cont p1 p2 q1 q2:=by kernel_rfl
theorem addZ_eq{ρ:Type} (cont:SV->HL->Option ρ) {an ad bn bd:Int} (ha:0<ad) (hb:0<bd) (h1:(words an.natAbs).length<100000000) (h2:(words ad.natAbs).length<100000000) (h3:(words bn.natAbs).length<100000000) (h4:(words bd.natAbs).length<100000000) :
  addZ cont (zD an) (zD ad) (zD bn) (zD bd)=cont (ratL (Rat.divInt an ad+Rat.divInt bn bd)) []:=by
 have m1:=words_imul an bd;have m2:=words_imul bn ad;have m3:=words_imul ad bd;have m4:=words_iadd (an*bd) (bn*ad);have hp:0<ad*bd:=Int.mul_pos ha hb;unfold addZ;simp only [zV_zD];rw[if_pos ⟨zOk_zD (by omega),zOk_zD (by omega),trivial⟩,if_pos ⟨zOk_zD (by omega),zOk_zD (by omega),trivial⟩,if_pos ⟨zOk_zD (by omega),zOk_zD (by omega),trivial⟩,if_pos ⟨zOk_zD (by omega),zOk_zD (by omega),trivial⟩,
  if_pos ⟨zOk_zD (by omega),zOk_zD (by omega),by omega⟩,ofC_eq,Rat.divInt_add_divInt _ _ (by omega) (by omega)]
theorem orc70:OrcOK NN Tryz.prog 61 (lat2 (fun p q=>szQ p&&szQ q) fun p q=>nm 1 (p+q)):=
 lat2_ok (runF_ok (Vzb_ok NN) mixT (A:=Ash) (fuel:=0) Tryz.func61 (c:=bodyOf Tryz.f61) (by kernel_rfl) (wp_loops (by kernel_rfl))) fun p q s t hs ht hg=>by
  simp only [Bool.and_eq_true]at hg;obtain⟨a,b,hb,rfl,la,lb,hs⟩:=isL_parts hs hg.1;obtain⟨c,d,hd,rfl,lc,ld,ht⟩:=isL_parts ht hg.2;have hbig:∀ ρ (cont:SV->HL->Option ρ),addZ cont (zD a) (zD b) (zD c) (zD d)=cont (ratL (Rat.divInt a b+Rat.divInt c d)) []:=fun ρ cont=>addZ_eq cont hb hd la lb lc ld
  rcases hs with ⟨rfl,b1,a0,a1⟩ | rfl <;> rcases ht with ⟨rfl,d1,c0,c1⟩ | rfl
  ·have k1:=prodB (x:=a) (y:=d) (B:=2147483647) (C:=2147483647) (by omega) (by omega) (by omega);have k2:=prodB (x:=c) (y:=b) (B:=2147483647) (C:=2147483647) (by omega) (by omega) (by omega);have k3:=prodB (x:=b) (y:=d) (B:=2147483647) (C:=2147483647) (by omega) (by omega) (by omega);have hbd:0<b*d:=Int.mul_pos hb hd;have e:=Rat.divInt_add_divInt a c (show b≠0 by omega) (show d≠0 by omega);refine⟨ofR' (a*d+c*b) (b*d),Cv.num (by rw[e];exact isL_ofR' hbd),fun ρ cont=>?_⟩;rw[run70,i64_in (a*d) (by omega) (by omega),i64_in (c*b) (by omega) (by omega),i64_in (b*d) (by omega) (by omega),i64_in _ (by omega) (by omega),ofG_eq cont ⟨by omega,by omega⟩ ⟨hbd,by omega⟩]
  ·exact⟨_,Cv.num (isL_ratL _),fun ρ cont=>by rw[run70r,wd_eq _ ⟨a0,a1⟩ ⟨hb,b1⟩,hbig]⟩
  ·exact⟨_,Cv.num (isL_ratL _),fun ρ cont=>by rw[run70l,wd_eq _ ⟨c0,c1⟩ ⟨hd,d1⟩,hbig]⟩
  ·exact⟨_,Cv.num (isL_ratL _),fun ρ cont=>by rw[run70b,hbig]⟩
theorem run67{ρ:Type} (cont:SV->HL->Option ρ) (a b:Int):runF Vzb Ash 0 Tryz.f100 (bodyOf Tryz.f100) ρ [lS a b] [] cont=cont (lS (IntKind.i64.wrap (0-a)) b) []:=by kernel_rfl
theorem run67b{ρ:Type} (cont:SV->HL->Option ρ) (p q:tZ.den):runF Vzb Ash 0 Tryz.f100 (bodyOf Tryz.f100) ρ [lLD p q] [] cont=if zOk p/\true=true then cont (lLD (zD (-zV p)) q) []else none:=by kernel_rfl
theorem orc67:OrcOK NN Tryz.prog 100 (lat1 szQ fun q=>nm 1 (-q)):=
 lat1_ok (runF_ok (Vzb_ok NN) mixT (A:=Ash) (fuel:=0) Tryz.func100 (c:=bodyOf Tryz.f100) (by kernel_rfl) (wp_loops (by kernel_rfl))) fun q s hs hg=>by
  rcases hs with ⟨n,d,rfl,hd,hn,rfl⟩ | rfl
  ·refine⟨lS (-n) d,Cv.num ?_,fun ρ cont=>?_⟩
   ·rw[Rat.neg_divInt];exact isL_S ⟨by omega,by omega⟩ hd
   ·have:IntKind.i64.wrap (0-n) = -n:=by rw[IntKind.wrap_i64];omega
    rw[run67,this]
  ·obtain⟨h1,h2⟩:=szQ_ok hg;refine⟨lL (-q),Cv.num (.inr rfl),fun ρ cont=>?_⟩;unfold lL;rw[run67b,zV_zD,if_pos ⟨zOk_zD (by omega),rfl⟩,Rat.neg_num,Rat.neg_den]
def mulZ{ρ:Type} (cont:SV->HL->Option ρ) (p1 p2 q1 q2:tZ.den):Option ρ:=
 let w:=zD (zV p1*zV q1)
 let v:=zD (zV p2*zV q2)
 if zOk p1/\zOk q1/\true=true then(if zOk p2/\zOk q2/\true=true then(if zOk w/\zOk v/\zV v≠0 then ofC cont (Rat.divInt (zV w) (zV v))else none)else none)else none
theorem run68{ρ:Type} (cont:SV->HL->Option ρ) (a b c d:Int):runF Vzb Ash 0 Tryz.f62 (bodyOf Tryz.f62) ρ [lS a b,lS c d] [] cont=ofG cont (IntKind.i64.wrap (a*c)) (IntKind.i64.wrap (b*d)):=by kernel_rfl
theorem run68l{ρ:Type} (cont:SV->HL->Option ρ) (p1 p2:tZ.den) (c d:Int):runF Vzb Ash 0 Tryz.f62 (bodyOf Tryz.f62) ρ [lLD p1 p2,lS c d] [] cont=wd c d fun q1 q2=>mulZ cont p1 p2 q1 q2:=by kernel_rfl
theorem run68r{ρ:Type} (cont:SV->HL->Option ρ) (a b:Int) (q1 q2:tZ.den):runF Vzb Ash 0 Tryz.f62 (bodyOf Tryz.f62) ρ [lS a b,lLD q1 q2] [] cont=wd a b fun p1 p2=>mulZ cont p1 p2 q1 q2:=by kernel_rfl
theorem run68b{ρ:Type} (cont:SV->HL->Option ρ) (p1 p2 q1 q2:tZ.den):runF Vzb Ash 0 Tryz.f62 (bodyOf Tryz.f62) ρ [lLD p1 p2,lLD q1 q2] [] cont=mulZ cont p1 p2 q1 q2:=by kernel_rfl
theorem mulZ_eq{ρ:Type} (cont:SV->HL->Option ρ) {an ad bn bd:Int} (ha:0<ad) (hb:0<bd) (h1:(words an.natAbs).length<100000000) (h2:(words ad.natAbs).length<100000000) (h3:(words bn.natAbs).length<100000000) (h4:(words bd.natAbs).length<100000000) :
  mulZ cont (zD an) (zD ad) (zD bn) (zD bd)=cont (ratL (Rat.divInt an ad*Rat.divInt bn bd)) []:=by
 have m1:=words_imul an bn;have m3:=words_imul ad bd;have hp:0<ad*bd:=Int.mul_pos ha hb;unfold mulZ;simp only [zV_zD];rw[if_pos ⟨zOk_zD (by omega),zOk_zD (by omega),trivial⟩,if_pos ⟨zOk_zD (by omega),zOk_zD (by omega),trivial⟩,if_pos ⟨zOk_zD (by omega),zOk_zD (by omega),by omega⟩,ofC_eq,Rat.divInt_mul_divInt]
theorem mul_open{p q:Rat} {s t:SV} (hs:isL p s) (ht:isL q t) (hp:szQ p=true) (hq:szQ q=true):∃ u,isL (p*q) u /\ ∀ ρ (cont:SV->HL->Option ρ),runF Vzb Ash 0 Tryz.f62 (bodyOf Tryz.f62) ρ [s,t] [] cont=cont u []:=by
 obtain⟨a,b,hb,rfl,la,lb,hs⟩:=isL_parts hs hp;obtain⟨c,d,hd,rfl,lc,ld,ht⟩:=isL_parts ht hq;have hbig:∀ ρ (cont:SV->HL->Option ρ),mulZ cont (zD a) (zD b) (zD c) (zD d)=cont (ratL (Rat.divInt a b*Rat.divInt c d)) []:=fun ρ cont=>mulZ_eq cont hb hd la lb lc ld
 rcases hs with ⟨rfl,b1,a0,a1⟩ | rfl <;> rcases ht with ⟨rfl,d1,c0,c1⟩ | rfl
 ·have k1:=prodB (x:=a) (y:=c) (B:=2147483647) (C:=2147483647) (by omega) (by omega) (by omega);have k3:=prodB (x:=b) (y:=d) (B:=2147483647) (C:=2147483647) (by omega) (by omega) (by omega);have hbd:0<b*d:=Int.mul_pos hb hd;refine⟨ofR' (a*c) (b*d),by rw[Rat.divInt_mul_divInt];exact isL_ofR' hbd,fun ρ cont=>?_⟩;rw[run68,i64_in (a*c) (by omega) (by omega),i64_in (b*d) (by omega) (by omega),ofG_eq cont ⟨by omega,by omega⟩ ⟨hbd,by omega⟩]
 ·exact⟨_,isL_ratL _,fun ρ cont=>by rw[run68r,wd_eq _ ⟨a0,a1⟩ ⟨hb,b1⟩,hbig]⟩
 ·exact⟨_,isL_ratL _,fun ρ cont=>by rw[run68l,wd_eq _ ⟨c0,c1⟩ ⟨hd,d1⟩,hbig]⟩
 ·exact⟨_,isL_ratL _,fun ρ cont=>by rw[run68b,hbig]⟩
theorem orc68:OrcOK NN Tryz.prog 62 (lat2 (fun p q=>szQ p&&szQ q) fun p q=>nm 1 (p*q)):=
 lat2_ok (runF_ok (Vzb_ok NN) mixT (A:=Ash) (fuel:=0) Tryz.func62 (c:=bodyOf Tryz.f62) (by kernel_rfl) (wp_loops (by kernel_rfl))) fun p q s t hs ht hg=>by
  simp only [Bool.and_eq_true]at hg;obtain⟨u,h1,h2⟩:=mul_open hs ht hg.1 hg.2;exact⟨u,Cv.num h1,h2⟩
end Go.Abs
namespace Go.Abs
open Go.Proofs
set_option maxRecDepth 100000
def Vzc:Env:={ T:=tryT,E:=[],Γ:=gamL [(100,lat1 szQ fun q=>nm 1 (-q)),(61,lat2 (fun p q=>szQ p&&szQ q) fun p q=>nm 1 (p+q))] }
theorem Vzc_ok:EnvOK NN Tryz.prog Vzc:={ T:=TabOk.of tryT_ok,E:=fun p hp=>(by cases hp),Γ:=gamC orc67 Tryz.call100 (gamC orc70 Tryz.call61 (gamN NN _)) }
theorem szQ_neg(q:Rat):szQ (-q)=szQ q:=by unfold szQ;rw[Rat.neg_num,Rat.neg_den,Int.natAbs_neg]
theorem run27{ρ:Type} (cont:SV->HL->Option ρ) (p q:Rat):runF Vzc Ash 0 Tryz.f60 (bodyOf Tryz.f60) ρ [nm 1 p,nm 1 q] [] cont =
  if szQ q=true then(if(szQ p&&szQ (-q))=true then cont (nm 1 (p + -q)) []else none)else none:=by kernel_rfl
theorem orc27:OrcOK NN Tryz.prog 60 (lat2 (fun p q=>szQ p&&szQ q) fun p q=>nm 1 (p-q)):=
 OrcOK.of_tale (runF_ok Vzc_ok mixT (A:=Ash) (fuel:=0) Tryz.func60 (c:=bodyOf Tryz.f60) (by kernel_rfl) (wp_loops (by kernel_rfl))) fun ρ args H cont r h=>by
  unfold lat2 at h;split at h
  ·rename_i p q;split at h
   ·rename_i hg;refine(run27 cont p q).trans ?_;rw[szQ_neg,if_pos hg];simp only [Bool.and_eq_true]at hg;rw[if_pos hg.2,<- Rat.sub_eq_add_neg];exact h
   ·contradiction
  ·contradiction
theorem divInt_scale{n d:Int} (hd:0<d):∃ g:Int,0<g/\n=(Rat.divInt n d).num*g/\d=(Rat.divInt n d).den*g:=by
 obtain⟨h1,h2⟩:=divInt_pos n d hd;have hg:0<Int.gcd n d:=Int.gcd_pos_of_ne_zero_right n (by omega);refine⟨(Int.gcd n d:Nat),by omega,?_,?_⟩
 ·rw[h1,Int.ediv_mul_cancel (Int.gcd_dvd_left ..)]
 ·rw[h2,Int.ediv_mul_cancel (Int.gcd_dvd_right ..)]
def cmpZ{ρ:Type} (cont:SV->HL->Option ρ) (p1 p2 q1 q2:tZ.den):Option ρ:=
 let x:=zD (zV p1*zV q2)
 let y:=zD (zV q1*zV p2)
 if zOk p1/\zOk q2/\true=true then(if zOk q1/\zOk p2/\true=true then(if zOk x/\zOk y/\(szZ (zV x)&&szZ (zV y))=true then cont (one (.int .i64 (Int.sign (zV x-zV y)))) []else none)else none)else none
theorem run51{ρ:Type} (cont:SV->HL->Option ρ) (a b c d:Int):runF Vzb Ash 0 Tryz.f30 (bodyOf Tryz.f30) ρ [lS a b,lS c d] [] cont =
  bif decide (IntKind.i64.wrap (a*d)<IntKind.i64.wrap (c*b))then cont (one (.int .i64 (-1))) []else bif decide (IntKind.i64.wrap (c*b)<IntKind.i64.wrap (a*d))then cont (one (.int .i64 1)) []else cont (one (.int .i64 0)) []:=by kernel_rfl
theorem run51l{ρ:Type} (cont:SV->HL->Option ρ) (p1 p2:tZ.den) (c d:Int):runF Vzb Ash 0 Tryz.f30 (bodyOf Tryz.f30) ρ [lLD p1 p2,lS c d] [] cont=wd c d fun q1 q2=>cmpZ cont p1 p2 q1 q2:=by kernel_rfl
theorem run51r{ρ:Type} (cont:SV->HL->Option ρ) (a b:Int) (q1 q2:tZ.den):runF Vzb Ash 0 Tryz.f30 (bodyOf Tryz.f30) ρ [lS a b,lLD q1 q2] [] cont=wd a b fun p1 p2=>cmpZ cont p1 p2 q1 q2:=by kernel_rfl
theorem run51b{ρ:Type} (cont:SV->HL->Option ρ) (p1 p2 q1 q2:tZ.den):runF Vzb Ash 0 Tryz.f30 (bodyOf Tryz.f30) ρ [lLD p1 p2,lLD q1 q2] [] cont=cmpZ cont p1 p2 q1 q2:=by kernel_rfl
theorem cmp_divInt{a b c d:Int} (hb:0<b) (hd:0<d):cmpQ (Rat.divInt a b) (Rat.divInt c d)=Int.sign (a*d-c*b):=by
 obtain⟨g,hg,h1,h2⟩:=divInt_scale (n:=a) hb;obtain⟨h,hh,h3,h4⟩:=divInt_scale (n:=c) hd;unfold cmpQ;generalize (Rat.divInt a b).num=p1 at *;generalize ((Rat.divInt a b).den:Int)=p2 at *;generalize (Rat.divInt c d).num=q1 at *;generalize ((Rat.divInt c d).den:Int)=q2 at *;subst h1 h2 h3 h4;have e:p1*g*(q2*h)-q1*h*(p2*g)=(p1*q2-q1*p2)*(g*h):=by
  rw[Int.sub_mul,Int.mul_assoc p1 g,Int.mul_left_comm g q2 h,<- Int.mul_assoc p1 q2,Int.mul_assoc q1 h,Int.mul_left_comm h p2 g,<- Int.mul_assoc q1 p2,Int.mul_comm h g]
 rw[e,Int.sign_mul,Int.sign_eq_one_of_pos (Int.mul_pos hg hh),Int.mul_one]
theorem cmpZ_eq{ρ:Type} (cont:SV->HL->Option ρ) {an ad bn bd:Int} (ha:0<ad) (hb:0<bd) (h1:(words an.natAbs).length<100000000) (h2:(words ad.natAbs).length<100000000) (h3:(words bn.natAbs).length<100000000) (h4:(words bd.natAbs).length<100000000) :
  cmpZ cont (zD an) (zD ad) (zD bn) (zD bd)=cont (one (.int .i64 (cmpQ (Rat.divInt an ad) (Rat.divInt bn bd)))) []:=by
 have m1:=words_imul an bd;have m3:=words_imul bn ad;have s1:szZ (an*bd)=true:=decide_eq_true (by omega);have s2:szZ (bn*ad)=true:=decide_eq_true (by omega);unfold cmpZ;simp only [zV_zD];rw[if_pos ⟨zOk_zD (by omega),zOk_zD (by omega),trivial⟩,if_pos ⟨zOk_zD (by omega),zOk_zD (by omega),trivial⟩,if_pos ⟨zOk_zD (by omega),zOk_zD (by omega),by rw[s1,s2];rfl⟩,cmp_divInt ha hb]
theorem orc51:OrcOK NN Tryz.prog 30 (lat2 (fun p q=>szQ p&&szQ q) fun p q=>one (.int .i64 (cmpQ p q))):=
 lat2_ok (runF_ok (Vzb_ok NN) mixT (A:=Ash) (fuel:=0) Tryz.func30 (c:=bodyOf Tryz.f30) (by kernel_rfl) (wp_loops (by kernel_rfl))) fun p q s t hs ht hg=>by
  simp only [Bool.and_eq_true]at hg;obtain⟨a,b,hb,rfl,la,lb,hs⟩:=isL_parts hs hg.1;obtain⟨c,d,hd,rfl,lc,ld,ht⟩:=isL_parts ht hg.2;refine⟨_,Cv.rfl' _,fun ρ cont=>?_⟩;have hbig:=cmpZ_eq cont hb hd la lb lc ld;rcases hs with ⟨rfl,b1,a0,a1⟩ | rfl <;> rcases ht with ⟨rfl,d1,c0,c1⟩ | rfl
  ·have k1:=prodB (x:=a) (y:=d) (B:=2147483647) (C:=2147483647) (by omega) (by omega) (by omega);have k2:=prodB (x:=c) (y:=b) (B:=2147483647) (C:=2147483647) (by omega) (by omega) (by omega);rw[run51,i64_in (a*d) (by omega) (by omega),i64_in (c*b) (by omega) (by omega),cmp_divInt hb hd];generalize a*d=X at *;generalize c*b=Y at *;rcases Int.lt_trichotomy X Y with h | h | h
   ·rw[decide_eq_true h,cond_true,Int.sign_eq_neg_one_of_neg (by omega)]
   ·subst h;rw[decide_eq_false (by omega),cond_false,cond_false,Int.sub_self];rfl
   ·rw[decide_eq_false (by omega),cond_false,decide_eq_true h,cond_true,Int.sign_eq_one_of_pos (by omega)]
  ·rw[run51r,wd_eq _ ⟨a0,a1⟩ ⟨hb,b1⟩,hbig]
  ·rw[run51l,wd_eq _ ⟨c0,c1⟩ ⟨hd,d1⟩,hbig]
  ·rw[run51b,hbig]
end Go.Abs
namespace Go.Abs
open Go.Proofs
set_option maxRecDepth 100000
theorem OrcOK.cv{P:Program} {k:Nat} {F G:Orc} (hF:OrcOK NN P k F)
  (h:∀ {ρ} args H (cont:SV->HL->Option ρ) r,G ρ args H cont=some r->∃ res u,Cv res u/\H=[]/\cont res []=some r /\ ∀ ρ' (cont':SV->HL->Option ρ'),F ρ' args H cont'=cont' u []):OrcOK NN P k G:=by
 intro ρ args H cont r hr hwf hids;obtain⟨res,u,hu,rfl,hc,hF'⟩:=h args H cont r hr;refine⟨res,[],hc,Nat.le_refl _,fun{G κ w cargs} hrel hargs=>?_⟩;obtain⟨s',H',e,_,hcall⟩:=hF (hF' _ (fun s H=>some (s,H))) hwf hids;simp only [Option.some.injEq,Prod.mk.injEq]at e;obtain⟨rfl,rfl⟩:=e;refine(hcall hrel hargs).mono fun e w' hq=>?_
 obtain⟨G',κ',v',q1,q2,q3,q4,q5⟩:=hq;exact⟨G',κ',v',q1,q2,q3,hu _ _ _ q4,q5⟩
def sQ(a b:Int):SV:=.v true [.int .i64 a,.int .i64 b]
def qOkB(a b:Int):Bool:=bif decide (1<=b)then bif decide (b<=1000000000000000000)then bif decide (-1000000000000000000<=a)then bif decide (a<=1000000000000000000)then decide (igcd (iabs a) b=1)else false else false else false else false
theorem qOkB_iff{a b:Int}:qOkB a b=true ↔ (1<=b/\b<=1000000000000000000 /\ -1000000000000000000<=a/\a<=1000000000000000000/\Int.gcd a b=1):=by
 have hg:1<=b->igcd (iabs a) b=(Int.gcd a b:Nat):=fun h=>by
  obtain⟨e,rfl⟩:=Int.eq_ofNat_of_zero_le (show 0<=b by omega);rw[iabs_eq,igcd_eq];rfl
 unfold qOkB
 by_cases h1:1<=b
 ·rw[decide_eq_true h1,cond_true,hg h1]
  by_cases h2:b<=1000000000000000000
  ·rw[decide_eq_true h2,cond_true]
   by_cases h3:-1000000000000000000<=a
   ·rw[decide_eq_true h3,cond_true]
    by_cases h4:a<=1000000000000000000
    ·rw[decide_eq_true h4,cond_true,decide_eq_true_eq];exact⟨fun h=>⟨h1,h2,h3,h4,by omega⟩,fun h=>by omega⟩
    ·rw[decide_eq_false h4,cond_false];exact⟨(fun h=>by cases h),fun h=>absurd h.2.2.2.1 h4⟩
   ·rw[decide_eq_false h3,cond_false];exact⟨(fun h=>by cases h),fun h=>absurd h.2.2.1 h3⟩
  ·rw[decide_eq_false h2,cond_false];exact⟨(fun h=>by cases h),fun h=>absurd h.2.1 h2⟩
 ·rw[decide_eq_false h1,cond_false];exact⟨(fun h=>by cases h),fun h=>absurd h.1 h1⟩
def qOkO:Orc:=fun ρ args H cont=>match args,H with
 | [.v true [.int .i64 a,.int .i64 b]],[]=>cont (one (.bool (qOkB a b))) []
 | _,_=>none
def Vze:Env:={ T:=tranT,E:=[],Γ:=gamL [(99,rOfO),(67,gcdO),(68,absO),(76,absO),(84,gcdO)] }
theorem Vze_ok(N:NumSem):EnvOK N Tryz.prog Vze:={ T:=TT_ok,E:=fun p hp=>(by cases hp),Γ:=gamC (orc123 N) Tryz.call99 (gamC (orc77 N) Tryz.call67 (gamC (orc78 N) Tryz.call68 (gamC (orc115 N) Tryz.call76 (gamC (orc118 N) Tryz.call84 (gamN N _))))) }
theorem run64{ρ:Type} (cont:SV->HL->Option ρ) (a b:Int):runF Vze Ash 0 Tryz.f55 (bodyOf Tryz.f55) ρ [sQ a b] [] cont =
  bif decide (b<1)then cont (one (.bool false)) []else bif bif false then true else decide (1000000000000000000<b)then cont (one (.bool false)) []else
  bif bif false then true else decide (a < -1000000000000000000)then cont (one (.bool false)) []else bif bif false then true else decide (1000000000000000000<a)then cont (one (.bool false)) []else
  (if -9223372036854775808<=a/\a<9223372036854775808 then(if 0<=iabs a/\0<=IntKind.u64.wrap b then cont (one (.bool (igcd (iabs a) (IntKind.u64.wrap b)==1))) []else none)else none):=by kernel_rfl
theorem beq_dec(x:Int):(x==1)=decide (x=1):=by
 by_cases h:x=1
 ·rw[decide_eq_true h,beq_iff_eq.2 h]
 ·rw[decide_eq_false h,beq_eq_false_iff_ne.2 h]
theorem orc64(N:NumSem):OrcOK N Tryz.prog 55 qOkO:=
 OrcOK.of_tale (runF_ok (Vze_ok N) mixT (A:=Ash) (fuel:=0) Tryz.func55 (c:=bodyOf Tryz.f55) (by kernel_rfl) (wp_loops (by kernel_rfl))) fun ρ args H cont r h=>by
  unfold qOkO at h;split at h
  ·rename_i a b;refine(run64 cont a b).trans ?_;unfold qOkB at h
   by_cases h1:1<=b
   ·rw[decide_eq_true h1,cond_true]at h;rw[decide_eq_false (by omega),cond_false,cond_false]
    by_cases h2:b<=1000000000000000000
    ·rw[decide_eq_true h2,cond_true]at h;rw[decide_eq_false (by omega),cond_false,cond_false]
     by_cases h3:-1000000000000000000<=a
     ·rw[decide_eq_true h3,cond_true]at h;rw[decide_eq_false (by omega),cond_false,cond_false]
      by_cases h4:a<=1000000000000000000
      ·rw[decide_eq_true h4,cond_true]at h;have hi:=iabs_eq a;rw[decide_eq_false (by omega),cond_false,if_pos ⟨by omega,by omega⟩,u64_id b (by omega) (by omega),if_pos ⟨by omega,by omega⟩,beq_dec];exact h
      ·rw[decide_eq_false h4,cond_false]at h;rw[decide_eq_true (by omega),cond_true];exact h
     ·rw[decide_eq_false h3,cond_false]at h;rw[decide_eq_true (by omega),cond_false,cond_true];exact h
    ·rw[decide_eq_false h2,cond_false]at h;rw[decide_eq_true (by omega),cond_false,cond_true];exact h
   ·rw[decide_eq_false h1,cond_false]at h;rw[decide_eq_true (by omega),cond_true];exact h
  ·contradiction
theorem run83{ρ:Type} (cont:SV->HL->Option ρ) (a b:Int):runF Vze Ash 0 Tryz.f109 (bodyOf Tryz.f109) ρ [sQ a b] [] cont =
  bif decide (1<=b)then bif bif true then decide (b<=1000000000000000000)else false then bif bif true then decide (-1000000000000000000<=a)else false then bif bif true then decide (a<=1000000000000000000)else false then
   (if -9223372036854775808<=a/\a<9223372036854775808 then(if 0<=iabs a/\0<=IntKind.u64.wrap b then cont (one (.bool (bif true then igcd (iabs a) (IntKind.u64.wrap b)==1 else false))) []else none)else none)
  else cont (one (.bool false)) []else cont (one (.bool false)) []else cont (one (.bool false)) []else cont (one (.bool false)) []:=by kernel_rfl
theorem orc83(N:NumSem):OrcOK N Tryz.prog 109 qOkO:=
 OrcOK.of_tale (runF_ok (Vze_ok N) mixT (A:=Ash) (fuel:=0) Tryz.func109 (c:=bodyOf Tryz.f109) (by kernel_rfl) (wp_loops (by kernel_rfl))) fun ρ args H cont r h=>by
  unfold qOkO at h;split at h
  ·rename_i a b;refine(run83 cont a b).trans ?_;unfold qOkB at h
   by_cases h1:1<=b
   ·rw[decide_eq_true h1,cond_true]at h ⊢;rw[cond_true]
    by_cases h2:b<=1000000000000000000
    ·rw[decide_eq_true h2,cond_true]at h ⊢;rw[cond_true]
     by_cases h3:-1000000000000000000<=a
     ·rw[decide_eq_true h3,cond_true]at h ⊢;rw[cond_true]
      by_cases h4:a<=1000000000000000000
      ·rw[decide_eq_true h4,cond_true]at h ⊢;have hi:=iabs_eq a;rw[if_pos ⟨by omega,by omega⟩,u64_id b (by omega) (by omega),if_pos ⟨by omega,by omega⟩,cond_true,beq_dec];exact h
      ·rw[decide_eq_false h4]at h ⊢;exact h
     ·rw[decide_eq_false h3]at h ⊢;exact h
    ·rw[decide_eq_false h2]at h ⊢;exact h
   ·rw[decide_eq_false h1]at h ⊢;exact h
  ·contradiction
theorem run65{ρ:Type} (cont:SV->HL->Option ρ) (a b:Int):runF Vze Ash 0 Tryz.f63 (bodyOf Tryz.f63) ρ [sQ a b] [] cont=ofG cont a b:=by kernel_rfl
def qO(k:Nat):Orc:=fun ρ args H cont=>match args,H with
 | [.v true [.int .i64 a,.int .i64 b]],[]=>if qOkB a b=true then cont (nm k (Rat.divInt a b)) []else none
 | _,_=>none
theorem orc65:OrcOK NN Tryz.prog 63 (qO 1):=
 OrcOK.cv (runF_ok (Vze_ok NN) mixT (A:=Ash) (fuel:=0) Tryz.func63 (c:=bodyOf Tryz.f63) (by kernel_rfl) (wp_loops (by kernel_rfl))) fun args H cont r h=>by
  unfold qO at h;split at h
  ·rename_i a b;split at h
   ·rename_i hq;obtain⟨h1,h2,h3,h4,h5⟩:=qOkB_iff.1 hq;exact⟨_,ofR' a b,Cv.num (isL_ofR' (by omega)),rfl,h,fun ρ' cont'=>(run65 cont' a b).trans (ofG_eq cont' ⟨by omega,by omega⟩ ⟨by omega,by omega⟩)⟩
   ·contradiction
  ·contradiction
theorem run69{ρ:Type} (cont:SV->HL->Option ρ) (a:Int):runF Vze Ash 0 Tryz.f58 (bodyOf Tryz.f58) ρ [one (.int .i64 a)] [] cont=ofG cont a 1:=by kernel_rfl
def intO(k:Nat):Orc:=fun ρ args H cont=>match args,H with
 | [.v false [.int .i64 a]],[]=>if -9223372036854775808<a/\a<9223372036854775808 then cont (nm k (Rat.divInt a 1)) []else none
 | _,_=>none
theorem orc69:OrcOK NN Tryz.prog 58 (intO 1):=
 OrcOK.cv (runF_ok (Vze_ok NN) mixT (A:=Ash) (fuel:=0) Tryz.func58 (c:=bodyOf Tryz.f58) (by kernel_rfl) (wp_loops (by kernel_rfl))) fun args H cont r h=>by
  unfold intO at h;split at h
  ·rename_i a;split at h
   ·rename_i hq;exact⟨_,ofR' a 1,Cv.num (isL_ofR' (by omega)),rfl,h,fun ρ' cont'=>(run69 cont' a).trans (ofG_eq cont' ⟨by omega,by omega⟩ ⟨by omega,by omega⟩)⟩
   ·contradiction
  ·contradiction
theorem Cv.num0{q:Rat}:Cv (nm 0 q) (ratT q):=fun _ _ _ h=>nm_out h
theorem orc57:OrcOK NN Tryz.prog 38 (intO 0):=
 OrcOK.cv (orc57t NN) fun args H cont r h=>by
  unfold intO at h;split at h
  ·rename_i a;split at h
   ·rename_i hq;exact⟨_,rS a 1,by rw[<- ratT_int hq];exact Cv.num0,rfl,h,fun ρ' cont'=>rfl⟩
   ·contradiction
  ·contradiction
theorem run86{ρ:Type} (cont:SV->HL->Option ρ) (a b:Int):runF Vze Ash 0 Tryz.f73 (bodyOf Tryz.f73) ρ [sQ a b] [] cont=cont (rS a b) []:=by kernel_rfl
theorem ratT_low{n d:Int} (hd:0<d) (hg:Int.gcd n d=1) (hn:-9223372036854775808<n/\n<9223372036854775808) (hd':d<9223372036854775808):ratT (Rat.divInt n d)=rS n d:=by
 rw[ratT_S (small_divInt hn ⟨hd,hd'⟩)];obtain⟨h1,h2⟩:=divInt_pos n d hd;rw[h1,h2,hg,Int.natCast_one,Int.ediv_one,Int.ediv_one]
theorem orc86:OrcOK NN Tryz.prog 73 (qO 0):=
 OrcOK.cv (runF_ok (Vze_ok NN) mixT (A:=Ash) (fuel:=0) Tryz.func73 (c:=bodyOf Tryz.f73) (by kernel_rfl) (wp_loops (by kernel_rfl))) fun args H cont r h=>by
  unfold qO at h;split at h
  ·rename_i a b;split at h
   ·rename_i hq;obtain⟨h1,h2,h3,h4,h5⟩:=qOkB_iff.1 hq;exact⟨_,rS a b,by rw[<- ratT_low (by omega) h5 (by omega) (by omega)];exact Cv.num0,rfl,h,fun ρ' cont'=>run86 cont' a b⟩
   ·contradiction
  ·contradiction
end Go.Abs
namespace Go.Abs
open Go.Proofs
set_option maxRecDepth 100000
def qFit(q:Rat):Bool:=decide (q.num.natAbs<=1000000000000000000/\q.den<=1000000000000000000)
def qNum(q:Rat):Int:=if q.num.natAbs<=1000000000000000000/\q.den<=1000000000000000000 then q.num else 0
def qDen(q:Rat):Int:=if q.num.natAbs<=1000000000000000000/\q.den<=1000000000000000000 then q.den else 0
def tupB(a b:Int) (o:Bool):SV:=.tup [(true,[.int .i64 a,.int .i64 b]),(false,[.bool o])]
def tupQ(q:Rat):SV:=tupB (qNum q) (qDen q) (qFit q)
theorem tupQ_pos{q:Rat} (h:q.num.natAbs<=1000000000000000000/\q.den<=1000000000000000000):tupQ q=tupB q.num q.den true:=by
 unfold tupQ qNum qDen qFit;rw[if_pos h,if_pos h,decide_eq_true h]
theorem tupQ_neg{q:Rat} (h:¬ (q.num.natAbs<=1000000000000000000/\q.den<=1000000000000000000)):tupQ q=tupB 0 0 false:=by
 unfold tupQ qNum qDen qFit;rw[if_neg h,if_neg h,decide_eq_false h]
theorem run41{ρ:Type} (cont:SV->HL->Option ρ) (a b:Int):runF Vze Ash 0 Tryz.f44 (bodyOf Tryz.f44) ρ [rS a b] [] cont =
  bif bif false then true else decide (a < -1000000000000000000)then cont (tupB 0 0 false) []else bif bif false then true else decide (1000000000000000000<a)then cont (tupB 0 0 false) []else
  bif bif false then true else decide (1000000000000000000<b)then cont (tupB 0 0 false) []else cont (tupB a b true) []:=by kernel_rfl
theorem run41b{ρ:Type} (cont:SV->HL->Option ρ) (D:tR.den):runF Vze Ash 0 Tryz.f44 (bodyOf Tryz.f44) ρ [rL D] [] cont=cont (tupB 0 0 false) []:=by kernel_rfl
theorem orc41:OrcOK NN Tryz.prog 44 (rat1 (fun _=>true) tupQ):=
 rat1_ok (runF_ok (Vze_ok NN) mixT (A:=Ash) (fuel:=0) Tryz.func44 (c:=bodyOf Tryz.f44) (by kernel_rfl) (wp_loops (by kernel_rfl))) fun ρ cont q _=>by
  show _=cont (tupQ q) []
  by_cases hs:smallQ q
  ·have hp:=small_pos hs;rw[ratT_S hs,run41]
   by_cases h:q.num.natAbs<=1000000000000000000/\q.den<=1000000000000000000
   ·rw[tupQ_pos h,decide_eq_false (by omega),cond_false,cond_false,decide_eq_false (by omega),cond_false,cond_false,decide_eq_false (by omega),cond_false,cond_false]
   ·rw[tupQ_neg h]
    by_cases h1:q.num < -1000000000000000000
    ·rw[decide_eq_true h1,cond_false,cond_true]
    ·rw[decide_eq_false h1,cond_false,cond_false]
     by_cases h2:1000000000000000000<q.num
     ·rw[decide_eq_true h2,cond_false,cond_true]
     ·rw[decide_eq_false h2,cond_false,cond_false,decide_eq_true (by omega),cond_false,cond_true]
  ·rw[ratT_L hs,run41b,tupQ_neg (fun h=>hs ⟨by omega,by omega⟩)]
theorem run30{ρ:Type} (cont:SV->HL->Option ρ) (a b:Int):runF Vzb Ash 0 Tryz.f31 (bodyOf Tryz.f31) ρ [lS a b] [] cont =
  if -9223372036854775808<=a/\a<9223372036854775808 then(if 0<=iabs a/\0<=IntKind.u64.wrap b then
   (let g:=IntKind.i64.wrap (igcd (iabs a) (IntKind.u64.wrap b))
    if g=0 then none else if g=0 then none else cont (tupB (IntKind.i64.wrap (a.tdiv g)) (IntKind.i64.wrap (b.tdiv g)) true) [])else none)else none:=by kernel_rfl
theorem run30b{ρ:Type} (cont:SV->HL->Option ρ) (p q:tZ.den):runF Vzb Ash 0 Tryz.f31 (bodyOf Tryz.f31) ρ [lLD p q] [] cont =
  if zOk p/\(0:Int)<=1000000000000000000/\(1000000000000000000:Int)<9223372036854775808 then(if zOk q/\(0:Int)<=1000000000000000000/\(1000000000000000000:Int)<9223372036854775808 then
   bif !iOk (zV p) 1000000000000000000 then cont (tupB 0 0 false) []else bif bif false then true else !iOk (zV q) 1000000000000000000 then cont (tupB 0 0 false) []else
   cont (tupB (iVal (zV p) 1000000000000000000) (iVal (zV q) 1000000000000000000) true) []else none)else none:=by kernel_rfl
theorem orc30:OrcOK NN Tryz.prog 31 (lat1 szQ tupQ):=
 lat1_ok (runF_ok (Vzb_ok NN) mixT (A:=Ash) (fuel:=0) Tryz.func31 (c:=bodyOf Tryz.f31) (by kernel_rfl) (wp_loops (by kernel_rfl))) fun q s hs hg=>by
  refine⟨_,Cv.rfl' _,fun ρ cont=>?_⟩;rcases hs with ⟨n,d,rfl,hd,hn,rfl⟩ | rfl
  ·obtain⟨k1,k2⟩:=divInt_pos n d hd.1;obtain⟨k3,k4⟩:=divInt_pos_le (n:=n) hd.1;have hu:IntKind.u64.wrap d=d:=u64_id d (by omega) (by omega);have hg':igcd (n.natAbs:Int) d=(Int.gcd n d:Nat):=by
    obtain⟨e,rfl⟩:=Int.eq_ofNat_of_zero_le (show 0<=d by omega);rw[igcd_eq];rfl
   have hgp:0<Int.gcd n d:=Int.gcd_pos_of_ne_zero_right n (by omega);have hgd:Int.gcd n d<=d.natAbs:=Nat.le_of_dvd (by omega) (Nat.gcd_dvd_right ..);have hgw:IntKind.i64.wrap ((Int.gcd n d:Nat):Int)=(Int.gcd n d:Nat):=i64_nat _ (by omega) (by omega);have t1:n.tdiv (Int.gcd n d:Nat)=n / (Int.gcd n d:Nat):=Int.tdiv_eq_ediv_of_dvd (Int.gcd_dvd_left ..);have t2:d.tdiv (Int.gcd n d:Nat)=d / (Int.gcd n d:Nat):=Int.tdiv_eq_ediv_of_dvd (Int.gcd_dvd_right ..);rw[run30,hu,iabs_eq,if_pos ⟨by omega,by omega⟩,if_pos ⟨by omega,by omega⟩];simp only [hg',hgw];rw[if_neg (by omega),if_neg (by omega),t1,t2,<- k1,<- k2,tupQ_pos ⟨by omega,by omega⟩,i64_in _ (by omega) (by omega),i64_in _ (by omega) (by omega)]
  ·obtain⟨h1,h2⟩:=szQ_ok hg;unfold lL;rw[run30b,zV_zD,zV_zD,if_pos ⟨zOk_zD (by omega),by decide,by decide⟩,if_pos ⟨zOk_zD (by rw[Int.natAbs_natCast];omega),by decide,by decide⟩];unfold iOk iVal
   by_cases c1:(q.num.natAbs:Int)<=1000000000000000000
   ·rw[decide_eq_true c1,Bool.not_true,cond_false,cond_false,if_pos c1]
    by_cases c2:(((q.den:Int)).natAbs:Int)<=1000000000000000000
    ·rw[decide_eq_true c2,Bool.not_true,cond_false,if_pos c2,tupQ_pos ⟨by omega,by omega⟩]
    ·rw[decide_eq_false c2,Bool.not_false,cond_true,tupQ_neg (by omega)]
   ·rw[decide_eq_false c1,Bool.not_false,cond_true,tupQ_neg (by omega)]
end Go.Abs
namespace Go.Abs
open Go.Proofs
set_option maxRecDepth 100000
def szN(B:Nat) (q:Rat):Prop:=(words q.num.natAbs).length<B/\(words q.den).length<B
theorem szN.mono{B C:Nat} {q:Rat} (h:szN B q) (hBC:B<=C):szN C q:=⟨Nat.lt_of_lt_of_le h.1 hBC,Nat.lt_of_lt_of_le h.2 hBC⟩
theorem szN.add{B:Nat} {p q:Rat} (hp:szN B p) (hq:szN B q):szN (2*B) (p+q):=addOp.size hp.1 hp.2 hq.1 hq.2
theorem szN.sub{B:Nat} {p q:Rat} (hp:szN B p) (hq:szN B q):szN (2*B) (p-q):=subOp.size hp.1 hp.2 hq.1 hq.2
theorem szN.mul{B:Nat} {p q:Rat} (hp:szN B p) (hq:szN B q):szN (2*B) (p*q):=mul_size hp.1 hp.2 hq.1 hq.2
theorem szN.neg{B:Nat} {p:Rat} (hp:szN B p):szN B (-p):=by unfold szN;rw[Rat.neg_num,Rat.neg_den,Int.natAbs_neg];exact hp
theorem szN.q{q:Rat} (h:szN 100000000 q):szQ q=true:=by simp only [szQ,Bool.and_eq_true,decide_eq_true_eq];exact h
def szM(q:Rat):Bool:=decide ((words q.num.natAbs).length<1000000)&&decide ((words q.den).length<1000000)
theorem both{a b:Bool} (h:a=true) (h':b=true):(a&&b)=true:=by rw[h,h'];rfl
end Go.Abs
namespace Go.Abs
open Go.Proofs
set_option maxRecDepth 100000
def p3(k:Nat) (x y z:Rat):SV:=.v true [.num k (some x),.num k (some y),.num k (some z)]
theorem szN.m{q:Rat} (h:szN 1000000 q):szM q=true:=by simp only [szM,Bool.and_eq_true,decide_eq_true_eq];exact h
end Go.Abs
namespace Go.Abs
open Go.Proofs Go.Extern Go.Extern.Rtype Go.Lib
set_option maxRecDepth 100000
noncomputable def infoT(t:Nat):TypeInfo:=(Tryz.prog.info? t).getD default
theorem slx{t e ke f0 f1 fk:Nat} {i ie:TypeInfo} (h1:Tryz.prog.info? t=some i) (h2:i.desc=.slice e) (h3:Tryz.prog.packed t=false) (h4:Tryz.prog.info? e=some ie)
  (h5:∀ w,(kind e).run Tryz.prog w=.ok ke w) (h6:2<swapperK 2 ie ke) (h7:Tryz.prog.funcs.findIdx? (·.name == "internal/reflectlite" ++ ".Swapper$" ++ toString 1)=some f0)
  (h8:Tryz.prog.funcs.findIdx? (·.name == "internal/reflectlite" ++ ".Swapper$" ++ toString 2)=some f1)
  (h9:Tryz.prog.funcs.findIdx? (·.name == "internal/reflectlite" ++ ".Swapper$" ++ toString (swapperK 2 ie ke))=some fk):SlXOK Tryz.prog ⟨t,e,f0,f1,fk⟩:=
 ⟨i,ie,ke,h1,h2,h3,h4,h5,h6,h7,h8,h9⟩
theorem part_int(t off:Nat) (cs:Array Value) (v:Value) (w:World) (h1:(isAgg t).run Tryz.prog w=.ok false w) (h2:cs[off]? = some v):(part t cs off).run Tryz.prog w=.ok v w:=by
 simp [part,h1,h2]
theorem part_agg(t off n:Nat) (cs:Array Value) (w:World) (h1:(isAgg t).run Tryz.prog w=.ok true w) (h2:(sizeOf t).run Tryz.prog w=.ok n w):(part t cs off).run Tryz.prog w=.ok (.agg (cs.extract off (off+n))) w:=by
 simp [part,h1,h2]
theorem eqF_cons(d:Nat) (xs ys:Array Value) (f:Field) (fs:List Field) (w:World) {a b:Value} {r:Bool} (hn:(f.name == "_")=false) (h1:(part f.type xs f.offset).run Tryz.prog w=.ok a w) (h2:(part f.type ys f.offset).run Tryz.prog w=.ok b w)
  (h3:(Op.equalIn d f.type a b).run Tryz.prog w=.ok r w):(Op.eqFields d xs ys (f :: fs)).run Tryz.prog w=if r=true then(Op.eqFields d xs ys fs).run Tryz.prog w else .ok false w:=by
 have hn':f.name ≠ "_":=by simpa using hn
 simp only [Op.eqFields,if_pos hn',Sem.run_bind,h1,h2,h3,Result.andThen_ok];cases r <;> simp
theorem eqF2(d:Nat) (xs ys:Array Value) (f g:Field) (w:World) {a b a2 b2:Value} {r r2:Bool} (hn:(f.name == "_")=false) (hn2:(g.name == "_")=false)
  (h1:(part f.type xs f.offset).run Tryz.prog w=.ok a w) (h2:(part f.type ys f.offset).run Tryz.prog w=.ok b w) (h3:(Op.equalIn d f.type a b).run Tryz.prog w=.ok r w)
  (k1:(part g.type xs g.offset).run Tryz.prog w=.ok a2 w) (k2:(part g.type ys g.offset).run Tryz.prog w=.ok b2 w) (k3:(Op.equalIn d g.type a2 b2).run Tryz.prog w=.ok r2 w) :
  (Op.eqFields d xs ys [f,g]).run Tryz.prog w=.ok (r&&r2) w:=by
 rw[eqF_cons d xs ys f [g] w hn h1 h2 h3,eqF_cons d xs ys g [] w hn2 k1 k2 k3];cases r <;> cases r2 <;> simp [Op.eqFields]
theorem eqQ_run(d:Nat) (w:World) (a b c e:Int):(Op.equalIn (d+2) 28 (.agg #[.int .i64 a,.int .i64 b]) (.agg #[.int .i64 c,.int .i64 e])).run Tryz.prog w=.ok (a==c&&b==e) w:=by
 have h2:Tryz.prog.underlying 2=some (.int .i64):=by kernel_rfl
 have ha:(isAgg 2).run Tryz.prog w=.ok false w:=by kernel_rfl
 rw[show d+2=(d+1)+1 from rfl,run_equalIn_agg w (d+1) 28 _ _ (by kernel_rfl) (by kernel_rfl)];have hf:(Tryz.prog.fieldsOf 28).toList=[{ name:="Num",type:=2,offset:=0,embedded:=false,tag:="",pkgPath:="",byteOffset:=0 },{ name:="Den",type:=2,offset:=1,embedded:=false,tag:="",pkgPath:="",byteOffset:=8 }]:=by kernel_rfl
 rw[hf];exact eqF2 (d+1) _ _ _ _ w rfl rfl (part_int 2 0 _ (.int .i64 a) w ha rfl) (part_int 2 0 _ (.int .i64 c) w ha rfl) (run_equalIn_int w d 2 .i64 .i64 a c h2)
  (part_int 2 1 _ (.int .i64 b) w ha rfl) (part_int 2 1 _ (.int .i64 e) w ha rfl) (run_equalIn_int w d 2 .i64 .i64 b e h2)
end Go.Abs

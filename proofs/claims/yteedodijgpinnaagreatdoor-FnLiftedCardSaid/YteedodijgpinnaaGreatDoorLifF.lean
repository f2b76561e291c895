/-
  A PART OF THE PROOF of LtI (texts LifF LifG LifH LifI LifJ LifK LifL LifM): the claim itself stands in the last text. No conditions beside those of the given row.
-/
import Derived.Test.YteedodijgpinnaaGreatDoorDrwA
set_option linter.unusedVariables false
set_option linter.unnecessarySimpa false
set_option linter.unusedSimpArgs false
namespace Go.Abs
open Go.Proofs
set_option maxRecDepth 100000
def xopC (T : Tab) (X : XT) (H : HL) (nid : Nat) (ev : Operand -> SV) (op : Op) : Option Eff :=
  match xSlA H ev op with
  | some e => some e
  | none => match xAppA T H nid ev op with
    | some e => some e
    | none => xopL T X H nid ev op
def xopS (T : Tab) (X : XT) (H : HL) (nid : Nat) (ev : Operand -> SV) (op : Op) : Option Eff :=
  match xSl3 H ev op with
  | some e => some e
  | none => xopL T X H nid ev op
def tmB (n : Int) : Bool := decide (-67108864 <= n) && decide (n <= 67108864)
def tp2 (p : Int × Int) : Bool := tmB p.1 && tmB p.2
def tp3 (p : Int × Int × Int) : Bool := tmB p.1 && (tmB p.2.1 && tmB p.2.2)
def tm2O : Orc := fun ρ args H cont => match args, H with
  | [.v false [.sl _ (.pair (.int .i64) (.int .i64)) [p, q, r, s]]], [] => cont (one (.bool (tp2 p && (tp2 q && (tp2 r && tp2 s))))) []
  | [.v false [.sl _ (.pair (.int .i64) (.int .i64)) [p, q]]], [] => cont (one (.bool (tp2 p && tp2 q))) []
  | _, _ => none
def tm3O : Orc := fun ρ args H cont => match args, H with
  | [.v false [.sl _ (.pair (.int .i64) (.pair (.int .i64) (.int .i64))) [p, q, r, s]]], [] => cont (one (.bool (tp3 p && (tp3 q && (tp3 r && tp3 s))))) []
  | [.v false [.sl _ (.pair (.int .i64) (.pair (.int .i64) (.int .i64))) [p, q, r, s, t]]], [] => cont (one (.bool (tp3 p && (tp3 q && (tp3 r && (tp3 s && tp3 t)))))) []
  | _, _ => none
section
variable {ρ : Type} (cont : SV -> HL -> Option ρ)
def tk1 (n : Int) (no r : Option ρ) : Option ρ := bif decide (n < -67108864) then no else bif decide (67108864 < n) then no else r
def tk2 (p : Int × Int) (r : Option ρ) : Option ρ := tk1 p.1 (cont (one (.bool false)) []) (tk1 p.2 (cont (one (.bool false)) []) r)
theorem gt4 (z : Option Bool) (p q r s : Int × Int) : runF (dsE []) { shut := true } 12 Tryz.f99 (bodyOf Tryz.f99) ρ [.v false [.sl z tP2 [p, q, r, s]]] [] cont = tk2 cont p (tk2 cont q (tk2 cont r (tk2 cont s (cont (one (.bool true)) [])))) := by kernel_rfl
theorem gt2 (z : Option Bool) (p q : Int × Int) : runF (dsE []) { shut := true } 12 Tryz.f99 (bodyOf Tryz.f99) ρ [.v false [.sl z tP2 [p, q]]] [] cont = tk2 cont p (tk2 cont q (cont (one (.bool true)) [])) := by kernel_rfl
def tk3 (p : Int × Int × Int) (r : Option ρ) : Option ρ := bif !(tp2 (p.1, p.2.1) && tp2 (p.2.2, 0)) then cont (one (.bool false)) [] else r
theorem gu4 (z : Option Bool) (p q r s : Int × Int × Int) : runF (dsE [(99, tm2O)]) { shut := true } 12 Tryz.f107 (bodyOf Tryz.f107) ρ [.v false [.sl z tP3 [p, q, r, s]]] [] cont = tk3 cont p (tk3 cont q (tk3 cont r (tk3 cont s (cont (one (.bool true)) [])))) := by kernel_rfl
theorem gu5 (z : Option Bool) (p q r s t : Int × Int × Int) : runF (dsE [(99, tm2O)]) { shut := true } 12 Tryz.f107 (bodyOf Tryz.f107) ρ [.v false [.sl z tP3 [p, q, r, s, t]]] [] cont = tk3 cont p (tk3 cont q (tk3 cont r (tk3 cont s (tk3 cont t (cont (one (.bool true)) []))))) := by kernel_rfl
theorem tk1_eq (n : Int) (no r : Option ρ) : tk1 n no r = bif tmB n then r else no := by
  unfold tk1 tmB
  by_cases h1 : n < -67108864
  · have : ¬ (-67108864 <= n) := by omega
    simp [h1, this]
  · by_cases h2 : 67108864 < n
    · have : ¬ (n <= 67108864) := by omega
      simp [h1, h2, this]
    · have a1 : (-67108864 <= n) := by omega
      have a2 : (n <= 67108864) := by omega
      simp [h1, h2, a1, a2]
theorem tk2_eq (p : Int × Int) (r : Option ρ) : tk2 cont p r = bif tp2 p then r else cont (one (.bool false)) [] := by
  unfold tk2 tp2
  rw [tk1_eq, tk1_eq]
  cases tmB p.1 <;> cases tmB p.2 <;> rfl
theorem tk3_eq (p : Int × Int × Int) (r : Option ρ) : tk3 cont p r = bif tp3 p then r else cont (one (.bool false)) [] := by
  unfold tk3 tp3 tp2
  have : tmB 0 = true := by decide
  show (bif !((tmB p.1 && tmB p.2.1) && (tmB p.2.2 && tmB 0)) then _ else _) = _
  rw [this]
  cases tmB p.1 <;> cases tmB p.2.1 <;> cases tmB p.2.2 <;> rfl
end
theorem orc_tm2 : OrcOK NN Tryz.prog 99 tm2O :=
  OrcOK.of_tale (cR_ok (A := { shut := true }) (fuel := 12) (dsE_ok (gamN _ _)) rfl Tryz.func99 (by kernel_rfl)) fun ρ args H cont r hr => by
    unfold tm2O at hr
    split at hr
    · rename_i z p q r s
      refine (gt4 cont z p q r s).trans ?_
      rw [<- hr, tk2_eq, tk2_eq, tk2_eq, tk2_eq]
      cases tp2 p <;> cases tp2 q <;> cases tp2 r <;> cases tp2 s <;> rfl
    · rename_i z p q
      refine (gt2 cont z p q).trans ?_
      rw [<- hr, tk2_eq, tk2_eq]
      cases tp2 p <;> cases tp2 q <;> rfl
    · contradiction
theorem orc_tm3 : OrcOK NN Tryz.prog 107 tm3O :=
  OrcOK.of_tale (cR_ok (A := { shut := true }) (fuel := 12) (dsE_ok (gamC orc_tm2 Tryz.call99 (gamN _ _))) rfl Tryz.func107 (by kernel_rfl)) fun ρ args H cont r hr => by
    unfold tm3O at hr
    split at hr
    · rename_i z p q r s
      refine (gu4 cont z p q r s).trans ?_
      rw [<- hr, tk3_eq, tk3_eq, tk3_eq, tk3_eq]
      cases tp3 p <;> cases tp3 q <;> cases tp3 r <;> cases tp3 s <;> rfl
    · rename_i z p q r s t
      refine (gu5 cont z p q r s t).trans ?_
      rw [<- hr, tk3_eq, tk3_eq, tk3_eq, tk3_eq, tk3_eq]
      cases tp3 p <;> cases tp3 q <;> cases tp3 r <;> cases tp3 s <;> cases tp3 t <;> rfl
    · contradiction
theorem tmB_abs {n : Int} (h : tmB n = true) : n.natAbs <= 67108864 := by
  unfold tmB at h
  simp only [Bool.and_eq_true, decide_eq_true_eq] at h
  omega
end Go.Abs
namespace Go.Abs
open Go.Proofs
set_option maxRecDepth 100000
theorem xopC_ok {T : Tab} (hT : TabOk Tryz.prog T) {X : XT} (hX : XTOK Tryz.prog X) : XOK NN Tryz.prog (xopC T X) := by
  intro H nid ev o e h
  unfold xopC at h
  split at h
  · rename_i e' he
    simp only [Option.some.injEq] at h
    subst h
    exact fun {G κ hf w a next Q} => xSlA_ok he
  · split at h
    · rename_i e' he
      simp only [Option.some.injEq] at h
      subst h
      exact fun {G κ hf w a next Q} => xAppA_ok hT he
    · exact fun {G κ hf w a next Q} => xopL_ok hT hX h
theorem xopS_ok {T : Tab} (hT : TabOk Tryz.prog T) {X : XT} (hX : XTOK Tryz.prog X) : XOK NN Tryz.prog (xopS T X) := by
  intro H nid ev o e h
  unfold xopS at h
  split at h
  · rename_i e' he
    simp only [Option.some.injEq] at h
    subst h
    exact fun {G κ hf w a next Q} => xSl3_ok he
  · exact fun {G κ hf w a next Q} => xopL_ok hT hX h
noncomputable def ccE (l : List (Nat × Orc)) : Env := { T := detT, E := [], Γ := gamL l, M := Mds, X := xopC detT { xtT with vs := [] } }
noncomputable def csE (l : List (Nat × Orc)) : Env := { T := detT, E := [], Γ := gamL l, M := Mds, X := xopS detT { xtT with vs := [] } }
theorem ccE_ok {l : List (Nat × Orc)} (h : GamOK NN Tryz.prog (gamL l)) : EnvOK NN Tryz.prog (ccE l) := { T := detT_ok, E := fun p hp => (by cases hp), Γ := h, X := xopC_ok detT_ok (xtT_ok []) }
theorem csE_ok {l : List (Nat × Orc)} (h : GamOK NN Tryz.prog (gamL l)) : EnvOK NN Tryz.prog (csE l) := { T := detT_ok, E := fun p hp => (by cases hp), Γ := h, X := xopS_ok detT_ok (xtT_ok []) }
def smB (n : Int) : Prop := n.natAbs <= 67108864
instance (n : Int) : Decidable (smB n) := by unfold smB; infer_instance
abbrev s3 (p : Int × Int × Int) : Prop := smB p.1 /\ smB p.2.1 /\ smB p.2.2
abbrev s2 (p : Int × Int) : Prop := smB p.1 /\ smB p.2
def c2O : Orc := fun ρ args H cont => match args, H with
  | [.v true [.int .i64 a, .int .i64 b], .v false [.ptr 0 0]], [.var [.int .i64 c, .int .i64 d]] =>
    if s2 (a, b) /\ s2 (c, d) then cont (.v false [.sl (some false) (.int .i64) [a - c, b - d, (a - c) * (a - c) + (b - d) * (b - d)]]) [.var [.int .i64 c, .int .i64 d]] else none
  | _, _ => none
def l3O : Orc := fun ρ args H cont => match args, H with
  | [.v true [.int .i64 a, .int .i64 b, .int .i64 c], .v true [.int .i64 d, .int .i64 e, .int .i64 f]], [] =>
    if s3 (a, b, c) /\ s3 (d, e, f) then cont (.v true [.int .i64 (a - d), .int .i64 (b - e), .int .i64 (c - f)]) [] else none
  | _, _ => none
def c3O : Orc := fun ρ args H cont => match args, H with
  | [.v true [.int .i64 a, .int .i64 b, .int .i64 c], .v false [.ptr 0 0]], [.var [.int .i64 d, .int .i64 e, .int .i64 f]] =>
    if s3 (a, b, c) /\ s3 (d, e, f) then cont (.v false [.sl (some false) (.int .i64) [a - d, b - e, c - f, (a - d) * (a - d) + (b - e) * (b - e) + (c - f) * (c - f)]]) [.var [.int .i64 d, .int .i64 e, .int .i64 f]] else none
  | _, _ => none
theorem i64_sm {n : Int} (h : n.natAbs < 4611686018427387904) : IntKind.i64.wrap n = n := i64_in _ (by omega) (by omega)
theorem sm_sub {a b : Int} (ha : smB a) (hb : smB b) : (a - b).natAbs <= 134217728 := by unfold smB at *; omega
theorem sq_B {a b : Int} (ha : smB a) (hb : smB b) : ((a - b) * (a - b)).natAbs <= 18014398509481984 := by
  have := mulB (sm_sub ha hb) (sm_sub ha hb)
  omega
section
variable {ρ : Type} (cont : SV -> HL -> Option ρ)
def w64 (n : Int) : Int := IntKind.i64.wrap n
theorem gcl2 (a b c d : Int) : runF (dsE []) { shut := true, res := [(0, .list i6)] } 12 Tryz.f100 (bodyOf Tryz.f100) ρ [.v true [.int .i64 a, .int .i64 b], .v false [.ptr 0 0]] [.var [.int .i64 c, .int .i64 d]] cont =
    cont (.v false [.sl (some false) (.int .i64) [w64 (a - c), w64 (b - d), w64 (w64 (w64 (a - c) * w64 (a - c)) + w64 (w64 (b - d) * w64 (b - d)))]]) [.var [.int .i64 c, .int .i64 d]] := by kernel_rfl
theorem gls3 (a b c d e f : Int) : runF (dsE []) { shut := true } 12 Tryz.f108 (bodyOf Tryz.f108) ρ [.v true [.int .i64 a, .int .i64 b, .int .i64 c], .v true [.int .i64 d, .int .i64 e, .int .i64 f]] [] cont =
    cont (.v true [.int .i64 (w64 (a - d)), .int .i64 (w64 (b - e)), .int .i64 (w64 (c - f))]) [] := by kernel_rfl
theorem gcl3 (a b c d e f : Int) : runF (ccE [(108, l3O)]) { shut := true, res := [(0, .list i6)] } 12 Tryz.f110 (bodyOf Tryz.f110) ρ [.v true [.int .i64 a, .int .i64 b, .int .i64 c], .v false [.ptr 0 0]] [.var [.int .i64 d, .int .i64 e, .int .i64 f]] cont =
    if s3 (a, b, c) /\ s3 (d, e, f) then cont (.v false [.sl (some false) (.int .i64) [a - d, b - e, c - f, w64 (w64 (w64 ((a - d) * (a - d)) + w64 ((b - e) * (b - e))) + w64 ((c - f) * (c - f)))]]) [.var [.int .i64 d, .int .i64 e, .int .i64 f]] else none := by kernel_rfl
end
theorem orc_c2 : OrcOK NN Tryz.prog 100 c2O :=
  OrcOK.of_tale (cR_ok (A := { shut := true, res := [(0, .list i6)] }) (fuel := 12) (dsE_ok (gamN _ _)) rfl Tryz.func100 (by kernel_rfl)) fun ρ args H cont r hr => by
    unfold c2O at hr
    split at hr
    · rename_i a b c d
      split at hr
      · rename_i hc
        obtain ⟨⟨ha, hb⟩, hc, hd⟩ := hc
        refine (gcl2 cont a b c d).trans ?_
        have k1 := sm_sub (a := a) (b := c) ha hc
        have k2 := sm_sub (a := b) (b := d) hb hd
        have k3 := sq_B (a := a) (b := c) ha hc
        have k4 := sq_B (a := b) (b := d) hb hd
        unfold w64
        rw [i64_sm (n := a - c) (by omega), i64_sm (n := b - d) (by omega), i64_sm (n := (a - c) * (a - c)) (by omega), i64_sm (n := (b - d) * (b - d)) (by omega), i64_sm (n := (a - c) * (a - c) + (b - d) * (b - d)) (by omega)]
        exact hr
      · contradiction
    · contradiction
theorem orc_l3 : OrcOK NN Tryz.prog 108 l3O :=
  OrcOK.of_tale (cR_ok (A := { shut := true }) (fuel := 12) (dsE_ok (gamN _ _)) rfl Tryz.func108 (by kernel_rfl)) fun ρ args H cont r hr => by
    unfold l3O at hr
    split at hr
    · rename_i a b c d e f
      split at hr
      · rename_i hc
        obtain ⟨⟨ha, hb, hc⟩, hd, he, hf⟩ := hc
        refine (gls3 cont a b c d e f).trans ?_
        have k1 := sm_sub (a := a) (b := d) ha hd
        have k2 := sm_sub (a := b) (b := e) hb he
        have k3 := sm_sub (a := c) (b := f) hc hf
        unfold w64
        rw [i64_sm (n := a - d) (by omega), i64_sm (n := b - e) (by omega), i64_sm (n := c - f) (by omega)]
        exact hr
      · contradiction
    · contradiction
theorem orc_c3 : OrcOK NN Tryz.prog 110 c3O :=
  OrcOK.of_tale (cR_ok (A := { shut := true, res := [(0, .list i6)] }) (fuel := 12) (ccE_ok (gamC orc_l3 Tryz.call108 (gamN _ _))) rfl Tryz.func110 (by kernel_rfl)) fun ρ args H cont r hr => by
    unfold c3O at hr
    split at hr
    · rename_i a b c d e f
      split at hr
      · rename_i hcc
        have ⟨⟨ha, hb, hc⟩, hd, he, hf⟩ := hcc
        refine (gcl3 cont a b c d e f).trans ?_
        have k1 := sq_B (a := a) (b := d) ha hd
        have k2 := sq_B (a := b) (b := e) hb he
        have k3 := sq_B (a := c) (b := f) hc hf
        unfold w64
        rw [if_pos hcc, i64_sm (n := (a - d) * (a - d)) (by omega), i64_sm (n := (b - e) * (b - e)) (by omega), i64_sm (n := (c - f) * (c - f)) (by omega), i64_sm (n := (a - d) * (a - d) + (b - e) * (b - e)) (by omega), i64_sm (n := (a - d) * (a - d) + (b - e) * (b - e) + (c - f) * (c - f)) (by omega)]
        exact hr
      · contradiction
    · contradiction
abbrev I2 := Int × Int
abbrev I3 := Int × Int × Int
def dqS (p o : I2) : Int := (p.1 - o.1) * (p.1 - o.1) + (p.2 - o.2) * (p.2 - o.2)
def dq3 (p o : I3) : Int := (p.1 - o.1) * (p.1 - o.1) + (p.2.1 - o.2.1) * (p.2.1 - o.2.1) + (p.2.2 - o.2.2) * (p.2.2 - o.2.2)
def icD (a b c d : I2) : Int := dt3 (a.1 - d.1) (a.2 - d.2) (dqS a d) (b.1 - d.1) (b.2 - d.2) (dqS b d) (c.1 - d.1) (c.2 - d.2) (dqS c d)
def orD (a b c d : I3) : Int := dt3 (a.1 - d.1) (a.2.1 - d.2.1) (a.2.2 - d.2.2) (b.1 - d.1) (b.2.1 - d.2.1) (b.2.2 - d.2.2) (c.1 - d.1) (c.2.1 - d.2.1) (c.2.2 - d.2.2)
def isD (a b c d e : I3) : Int := dt4 (a.1 - e.1) (a.2.1 - e.2.1) (a.2.2 - e.2.2) (dq3 a e) (b.1 - e.1) (b.2.1 - e.2.1) (b.2.2 - e.2.2) (dq3 b e) (c.1 - e.1) (c.2.1 - e.2.1) (c.2.2 - e.2.2) (dq3 c e) (d.1 - e.1) (d.2.1 - e.2.1) (d.2.2 - e.2.2) (dq3 d e)
def tmA (a b c d : I2) : Bool := tp2 a && (tp2 b && (tp2 c && tp2 d))
def tmB4 (a b c d : I3) : Bool := tp3 a && (tp3 b && (tp3 c && tp3 d))
def tmB5 (a b c d e : I3) : Bool := tp3 a && (tp3 b && (tp3 c && (tp3 d && tp3 e)))
def icV (a b c d : I2) : Int := bif tmA a b c d then (icD a b c d).sign else 2
def orV (a b c d : I3) : Int := bif tmB4 a b c d then (orD a b c d).sign else 2
def isV (a b c d e : I3) : Int := bif tmB5 a b c d e then (isD a b c d e).sign else 2
def icO : Orc := fun ρ args H cont => match args, H with
  | [.v true [.int .i64 a, .int .i64 b], .v true [.int .i64 c, .int .i64 d], .v true [.int .i64 e, .int .i64 f], .v true [.int .i64 g, .int .i64 h]], [] => cont (one (.int .i64 (icV (a, b) (c, d) (e, f) (g, h)))) []
  | _, _ => none
def orO : Orc := fun ρ args H cont => match args, H with
  | [.v true [.int .i64 a, .int .i64 b, .int .i64 c], .v true [.int .i64 d, .int .i64 e, .int .i64 f], .v true [.int .i64 g, .int .i64 h, .int .i64 i], .v true [.int .i64 j, .int .i64 k, .int .i64 l]], [] => cont (one (.int .i64 (orV (a, b, c) (d, e, f) (g, h, i) (j, k, l)))) []
  | _, _ => none
def isO : Orc := fun ρ args H cont => match args, H with
  | [.v true [.int .i64 a, .int .i64 b, .int .i64 c], .v true [.int .i64 d, .int .i64 e, .int .i64 f], .v true [.int .i64 g, .int .i64 h, .int .i64 i], .v true [.int .i64 j, .int .i64 k, .int .i64 l], .v true [.int .i64 m, .int .i64 n, .int .i64 o]], [] => cont (one (.int .i64 (isV (a, b, c) (d, e, f) (g, h, i) (j, k, l) (m, n, o)))) []
  | _, _ => none
section
variable {ρ : Type} (cont : SV -> HL -> Option ρ)
def e2O (p o : I2) : Prop := eO (p.1 - o.1) /\ eO (p.2 - o.2) /\ eO (dqS p o)
def e3O (p o : I3) : Prop := eO (p.1 - o.1) /\ eO (p.2.1 - o.2.1) /\ eO (p.2.2 - o.2.2)
def e4O (p o : I3) : Prop := eO (p.1 - o.1) /\ eO (p.2.1 - o.2.1) /\ eO (p.2.2 - o.2.2) /\ eO (dq3 p o)
instance (p o : I2) : Decidable (e2O p o) := by unfold e2O; infer_instance
instance (p o : I3) : Decidable (e3O p o) := by unfold e3O; infer_instance
instance (p o : I3) : Decidable (e4O p o) := by unfold e4O; infer_instance
theorem gic (a b c d e f g h : Int) : runF (dsE [(99, tm2O), (100, c2O), (101, ds3)]) { shut := true } 12 Tryz.f30 (bodyOf Tryz.f30) ρ [.v true [.int .i64 a, .int .i64 b], .v true [.int .i64 c, .int .i64 d], .v true [.int .i64 e, .int .i64 f], .v true [.int .i64 g, .int .i64 h]] [] cont =
    bif !tmA (a, b) (c, d) (e, f) (g, h) then cont (one (.int .i64 2)) [] else
    if s2 (a, b) /\ s2 (g, h) then if s2 (c, d) /\ s2 (g, h) then if s2 (e, f) /\ s2 (g, h) then if (e2O (a, b) (g, h) /\ e2O (c, d) (g, h)) /\ e2O (e, f) (g, h) then cont (one (.int .i64 (icD (a, b) (c, d) (e, f) (g, h)).sign)) [] else none else none else none else none := by kernel_rfl
theorem gor (a b c d e f g h i j k l : Int) : runF (csE [(107, tm3O), (108, l3O), (101, ds3)]) { shut := true } 12 Tryz.f33 (bodyOf Tryz.f33) ρ [.v true [.int .i64 a, .int .i64 b, .int .i64 c], .v true [.int .i64 d, .int .i64 e, .int .i64 f], .v true [.int .i64 g, .int .i64 h, .int .i64 i], .v true [.int .i64 j, .int .i64 k, .int .i64 l]] [] cont =
    bif !tmB4 (a, b, c) (d, e, f) (g, h, i) (j, k, l) then cont (one (.int .i64 2)) [] else
    if s3 (a, b, c) /\ s3 (j, k, l) then if s3 (d, e, f) /\ s3 (j, k, l) then if s3 (g, h, i) /\ s3 (j, k, l) then if (e3O (a, b, c) (j, k, l) /\ e3O (d, e, f) (j, k, l)) /\ e3O (g, h, i) (j, k, l) then cont (one (.int .i64 (orD (a, b, c) (d, e, f) (g, h, i) (j, k, l)).sign)) [] else none else none else none else none := by kernel_rfl
theorem gis (a b c d e f g h i j k l m n o : Int) : runF (dsE [(107, tm3O), (110, c3O), (101, ds4)]) { shut := true } 12 Tryz.f36 (bodyOf Tryz.f36) ρ [.v true [.int .i64 a, .int .i64 b, .int .i64 c], .v true [.int .i64 d, .int .i64 e, .int .i64 f], .v true [.int .i64 g, .int .i64 h, .int .i64 i], .v true [.int .i64 j, .int .i64 k, .int .i64 l], .v true [.int .i64 m, .int .i64 n, .int .i64 o]] [] cont =
    bif !tmB5 (a, b, c) (d, e, f) (g, h, i) (j, k, l) (m, n, o) then cont (one (.int .i64 2)) [] else
    if s3 (a, b, c) /\ s3 (m, n, o) then if s3 (d, e, f) /\ s3 (m, n, o) then if s3 (g, h, i) /\ s3 (m, n, o) then if s3 (j, k, l) /\ s3 (m, n, o) then
      if ((e4O (a, b, c) (m, n, o) /\ e4O (d, e, f) (m, n, o)) /\ e4O (g, h, i) (m, n, o)) /\ e4O (j, k, l) (m, n, o) then cont (one (.int .i64 (isD (a, b, c) (d, e, f) (g, h, i) (j, k, l) (m, n, o)).sign)) [] else none else none else none else none else none := by kernel_rfl
end
theorem tp2_s {p : I2} (h : tp2 p = true) : s2 p := by
  unfold tp2 at h
  simp only [Bool.and_eq_true] at h
  exact ⟨tmB_abs h.1, tmB_abs h.2⟩
theorem tp3_s {p : I3} (h : tp3 p = true) : s3 p := by
  unfold tp3 at h
  simp only [Bool.and_eq_true] at h
  exact ⟨tmB_abs h.1, tmB_abs h.2.1, tmB_abs h.2.2⟩
theorem sub_eO {a b : Int} (ha : smB a) (hb : smB b) : eO (a - b) := by have := sm_sub ha hb; unfold eO; omega
theorem e2_ok {p o : I2} (h1 : s2 p) (h2 : s2 o) : e2O p o := ⟨sub_eO h1.1 h2.1, sub_eO h1.2 h2.2, by
  have := sq_B h1.1 h2.1
  have := sq_B h1.2 h2.2
  unfold eO dqS
  omega⟩
theorem e3_ok {p o : I3} (h1 : s3 p) (h2 : s3 o) : e3O p o := ⟨sub_eO h1.1 h2.1, sub_eO h1.2.1 h2.2.1, sub_eO h1.2.2 h2.2.2⟩
theorem e4_ok {p o : I3} (h1 : s3 p) (h2 : s3 o) : e4O p o := ⟨sub_eO h1.1 h2.1, sub_eO h1.2.1 h2.2.1, sub_eO h1.2.2 h2.2.2, by
  have := sq_B h1.1 h2.1
  have := sq_B h1.2.1 h2.2.1
  have := sq_B h1.2.2 h2.2.2
  unfold eO dq3
  omega⟩
theorem orc_ic : OrcOK NN Tryz.prog 30 icO :=
  OrcOK.of_tale (cR_ok (A := { shut := true }) (fuel := 12) (dsE_ok (gamC orc_tm2 Tryz.call99 (gamC orc_c2 Tryz.call100 (gamC orc_ds3 Tryz.call101 (gamN _ _))))) rfl Tryz.func30 (by kernel_rfl)) fun ρ args H cont r hr => by
    unfold icO at hr
    split at hr
    · rename_i a b c d e f g h
      refine (gic cont a b c d e f g h).trans ?_
      unfold icV at hr
      cases ht : tmA (a, b) (c, d) (e, f) (g, h)
      · rw [ht] at hr; exact hr
      · rw [ht] at hr
        unfold tmA at ht
        simp only [Bool.and_eq_true] at ht
        obtain ⟨h1, h2, h3, h4⟩ := ht
        have h1 := tp2_s h1
        have h2 := tp2_s h2
        have h3 := tp2_s h3
        have h4 := tp2_s h4
        rw [Bool.not_true, cond_false, if_pos ⟨h1, h4⟩, if_pos ⟨h2, h4⟩, if_pos ⟨h3, h4⟩, if_pos ⟨⟨e2_ok h1 h4, e2_ok h2 h4⟩, e2_ok h3 h4⟩]
        exact hr
    · contradiction
theorem orc_or : OrcOK NN Tryz.prog 33 orO :=
  OrcOK.of_tale (cR_ok (A := { shut := true }) (fuel := 12) (csE_ok (gamC orc_tm3 Tryz.call107 (gamC orc_l3 Tryz.call108 (gamC orc_ds3 Tryz.call101 (gamN _ _))))) rfl Tryz.func33 (by kernel_rfl)) fun ρ args H cont r hr => by
    unfold orO at hr
    split at hr
    · rename_i a b c d e f g h i j k l
      refine (gor cont a b c d e f g h i j k l).trans ?_
      unfold orV at hr
      cases ht : tmB4 (a, b, c) (d, e, f) (g, h, i) (j, k, l)
      · rw [ht] at hr; exact hr
      · rw [ht] at hr
        unfold tmB4 at ht
        simp only [Bool.and_eq_true] at ht
        obtain ⟨h1, h2, h3, h4⟩ := ht
        have h1 := tp3_s h1
        have h2 := tp3_s h2
        have h3 := tp3_s h3
        have h4 := tp3_s h4
        rw [Bool.not_true, cond_false, if_pos ⟨h1, h4⟩, if_pos ⟨h2, h4⟩, if_pos ⟨h3, h4⟩, if_pos ⟨⟨e3_ok h1 h4, e3_ok h2 h4⟩, e3_ok h3 h4⟩]
        exact hr
    · contradiction
theorem orc_is : OrcOK NN Tryz.prog 36 isO :=
  OrcOK.of_tale (cR_ok (A := { shut := true }) (fuel := 12) (dsE_ok (gamC orc_tm3 Tryz.call107 (gamC orc_c3 Tryz.call110 (gamC orc_ds4 Tryz.call101 (gamN _ _))))) rfl Tryz.func36 (by kernel_rfl)) fun ρ args H cont r hr => by
    unfold isO at hr
    split at hr
    · rename_i a b c d e f g h i j k l m n o
      refine (gis cont a b c d e f g h i j k l m n o).trans ?_
      unfold isV at hr
      cases ht : tmB5 (a, b, c) (d, e, f) (g, h, i) (j, k, l) (m, n, o)
      · rw [ht] at hr; exact hr
      · rw [ht] at hr
        unfold tmB5 at ht
        simp only [Bool.and_eq_true] at ht
        obtain ⟨h1, h2, h3, h4, h5⟩ := ht
        have h1 := tp3_s h1
        have h2 := tp3_s h2
        have h3 := tp3_s h3
        have h4 := tp3_s h4
        have h5 := tp3_s h5
        rw [Bool.not_true, cond_false, if_pos ⟨h1, h5⟩, if_pos ⟨h2, h5⟩, if_pos ⟨h3, h5⟩, if_pos ⟨h4, h5⟩, if_pos ⟨⟨⟨e4_ok h1 h5, e4_ok h2 h5⟩, e4_ok h3 h5⟩, e4_ok h4 h5⟩]
        exact hr
    · contradiction
end Go.Abs
namespace Go.Abs
open Go.Proofs
set_option maxRecDepth 100000
abbrev nR : Ty := .num 1
def Msp : Nat -> List (Nat × Ty) := fun f => bif Nat.beq f 104 then [(0, .list (.list nR))] else bif Nat.beq f 105 then [(0, .list i6)] else bif Nat.beq f 102 then [(0, .list tP2)] else []
noncomputable def l2E (l : List (Nat × Orc)) : Env := { T := detT, E := [], Γ := gamL l, M := Msp, X := xopL detT { xtT with vs := [] } }
theorem l2E_ok {l : List (Nat × Orc)} (h : GamOK NN Tryz.prog (gamL l)) : EnvOK NN Tryz.prog (l2E l) := { T := detT_ok, E := fun p hp => (by cases hp), Γ := h, X := xopL_ok detT_ok (xtT_ok []) }
noncomputable def mulR : Orc := lat2 (fun p q => szQ p && szQ q) fun p q => nm 1 (p * q)
noncomputable def addR : Orc := lat2 (fun p q => szQ p && szQ q) fun p q => nm 1 (p + q)
noncomputable def negR : Orc := lat1 szQ fun q => nm 1 (-q)
noncomputable def sgnR : Orc := lat1 szQ fun q => one (.int .i64 (Int.sign q.num))
abbrev z0 : Rat := Rat.divInt 0 1
def rd2 (a b c d : Rat) : Rat := a * d - c * b
def rd3 (a b c d e f g h i : Rat) : Rat := a * rd2 e f h i - d * rd2 b c h i + g * rd2 b c e f
def rO1 : Orc := fun ρ args H cont => match args, H with
  | [.v false [.sl _ (.list (.num 1)) [[x]]]], [] => cont (nm 1 x) []
  | _, _ => none
def rO2 : Orc := fun ρ args H cont => match args, H with
  | [.v false [.sl _ (.list (.num 1)) [[a, b], [c, d]]]], [] => if (s8 a = true /\ s8 b = true) /\ s8 c = true /\ s8 d = true then cont (nm 1 (rd2 a b c d)) [] else none
  | _, _ => none
def rO3 : Orc := fun ρ args H cont => match args, H with
  | [.v false [.sl _ (.list (.num 1)) [[a, b, c], [d, e, f], [g, h, i]]]], [] =>
    if ((s8 a = true /\ s8 b = true /\ s8 c = true) /\ s8 d = true /\ s8 e = true /\ s8 f = true) /\ s8 g = true /\ s8 h = true /\ s8 i = true then cont (nm 1 (rd3 a b c d e f g h i)) [] else none
  | _, _ => none
section
variable {ρ : Type} (cont : SV -> HL -> Option ρ)
def stE (s x : Rat) (mv : (Rat -> Option ρ) -> Option ρ) (K : Rat -> Option ρ) : Option ρ := if szQ x = true then (bif x.num.sign == 0 then K s else mv fun D => if (szQ x && szQ D) = true then (if (szQ s && szQ (x * D)) = true then K (s + x * D) else none) else none) else none
def stO (s x : Rat) (mv : (Rat -> Option ρ) -> Option ρ) (K : Rat -> Option ρ) : Option ρ := if szQ x = true then (bif x.num.sign == 0 then K s else mv fun D => if (szQ x && szQ D) = true then (if szQ (x * D) = true then (if (szQ s && szQ (-(x * D))) = true then K (s + -(x * D)) else none) else none) else none) else none
def gr2 (a b c d : Rat) (K : Rat -> Option ρ) : Option ρ := if (s8 a = true /\ s8 b = true) /\ s8 c = true /\ s8 d = true then K (rd2 a b c d) else none
theorem gr1 (z : Option Bool) (x : Rat) : runF (l2E []) { shut := true } 12 Tryz.f104 (bodyOf Tryz.f104) ρ [.v false [.sl z (.list nR) [[x]]]] [] cont = cont (nm 1 x) [] := by kernel_rfl
theorem gr2_run (z : Option Bool) (a b c d : Rat) : runF (l2E [(116, intO 1), (115, mulR), (207, addR), (206, negR), (103, sgnR), (104, rO1)]) { shut := true } 12 Tryz.f104 (bodyOf Tryz.f104) ρ [.v false [.sl z (.list nR) [[a, b], [c, d]]]] [] cont =
    stE z0 a (fun k => k d) fun s => stO s c (fun k => k b) fun s => cont (nm 1 s) [] := by kernel_rfl
theorem gr3_run (z : Option Bool) (a b c d e f g h i : Rat) : runF (l2E [(116, intO 1), (115, mulR), (207, addR), (206, negR), (103, sgnR), (104, rO2)]) { shut := true } 12 Tryz.f104 (bodyOf Tryz.f104) ρ [.v false [.sl z (.list nR) [[a, b, c], [d, e, f], [g, h, i]]]] [] cont =
    stE z0 a (gr2 e f h i) fun s => stO s d (gr2 b c h i) fun s => stE s g (gr2 b c e f) fun s => cont (nm 1 s) [] := by kernel_rfl
end
theorem sg0 {x : Rat} (h : (x.num.sign == 0) = true) : x = 0 := by
  have h1 : x.num.sign = 0 := eq_of_beq h
  have h2 : x.num = 0 := Int.sign_eq_zero_iff_zero.1 h1
  exact Rat.num_eq_zero.1 h2
section
variable {ρ : Type}
theorem stE_eq {B : Nat} {s x D : Rat} {mv : (Rat -> Option ρ) -> Option ρ} {K : Rat -> Option ρ} (hs : szN B s) (hx : szN B x) (hD : szN B D) (hB : 4 * B <= 100000000) (hm : ∀ k, mv k = k D) : szN (4 * B) (s + x * D) /\ stE s x mv K = K (s + x * D) := by
  have k1 : szN (2 * B) (x * D) := hx.mul hD
  have k2 : szN (2 * B) s := hs.mono (by omega)
  have k3 : szN (4 * B) (s + x * D) := (k2.add k1).mono (by omega)
  refine ⟨k3, ?_⟩
  unfold stE
  rw [if_pos (hx.qq (by omega))]
  cases hz : (x.num.sign == 0)
  · rw [cond_false, hm, if_pos (both (hx.qq (by omega)) (hD.qq (by omega))), if_pos (both (hs.qq (by omega)) (k1.qq (by omega)))]
  · rw [cond_true, sg0 hz, Rat.zero_mul, Rat.add_zero]
theorem stO_eq {B : Nat} {s x D : Rat} {mv : (Rat -> Option ρ) -> Option ρ} {K : Rat -> Option ρ} (hs : szN B s) (hx : szN B x) (hD : szN B D) (hB : 4 * B <= 100000000) (hm : ∀ k, mv k = k D) : szN (4 * B) (s + -(x * D)) /\ stO s x mv K = K (s + -(x * D)) := by
  have k1 : szN (2 * B) (x * D) := hx.mul hD
  have k2 : szN (2 * B) s := hs.mono (by omega)
  have k4 : szN (2 * B) (-(x * D)) := k1.neg
  have k3 : szN (4 * B) (s + -(x * D)) := (k2.add k4).mono (by omega)
  refine ⟨k3, ?_⟩
  unfold stO
  rw [if_pos (hx.qq (by omega))]
  cases hz : (x.num.sign == 0)
  · rw [cond_false, hm, if_pos (both (hx.qq (by omega)) (hD.qq (by omega))), if_pos (k1.qq (by omega)), if_pos (both (hs.qq (by omega)) (k4.qq (by omega)))]
  · rw [cond_true, sg0 hz, Rat.zero_mul, Rat.neg_zero, Rat.add_zero]
end
theorem z0_eq : z0 = 0 := by decide +kernel
theorem z0_sz : szN 8 z0 := by
  rw [z0_eq]
  have h1 := words_length (n := 0) (k := 0) (by decide)
  have h2 := words_length (n := 1) (k := 1) (by decide)
  exact ⟨by have : (0 : Rat).num.natAbs = 0 := rfl; rw [this]; omega, by have : (0 : Rat).den = 1 := rfl; rw [this]; omega⟩
theorem rd2_sz {a b c d : Rat} (ha : szN 8 a) (hb : szN 8 b) (hc : szN 8 c) (hd : szN 8 d) : szN 128 (rd2 a b c d) := ((ha.mul hd).sub (hc.mul hb)).mono (by omega)
theorem orc_r1 : OrcOK NN Tryz.prog 104 rO1 :=
  OrcOK.of_tale (cR_ok (A := { shut := true }) (fuel := 12) (l2E_ok (gamN _ _)) rfl Tryz.func104 (by kernel_rfl)) fun ρ args H cont r h => by
    unfold rO1 at h
    split at h
    · exact (gr1 cont _ _).trans h
    · contradiction
theorem orc_r2 : OrcOK NN Tryz.prog 104 rO2 :=
  OrcOK.of_tale (cR_ok (A := { shut := true }) (fuel := 12) (l2E_ok (gamC orc69 Tryz.call116 (gamC orc68 Tryz.call115 (gamC orc70 Tryz.call207 (gamC orc67 Tryz.call206 (gamC orc71 Tryz.call103 (gamC orc_r1 Tryz.call104 (gamN _ _))))))))
    rfl Tryz.func104 (by kernel_rfl)) fun ρ args H cont r hr => by
    unfold rO2 at hr
    split at hr
    · rename_i z a b c d
      split at hr
      · rename_i hc
        obtain ⟨⟨ha, hb⟩, hc, hd⟩ := hc
        refine (gr2_run cont z a b c d).trans ?_
        have ha := s8_ok ha
        have hb := s8_ok hb
        have hc := s8_ok hc
        have hd := s8_ok hd
        obtain ⟨k1, e1⟩ := stE_eq (ρ := ρ) (B := 8) (D := d) (mv := fun k => k d) (K := fun s => stO s c (fun k => k b) fun s => cont (nm 1 s) []) z0_sz ha hd (by omega) (fun _ => rfl)
        obtain ⟨k2, e2⟩ := stO_eq (ρ := ρ) (B := 32) (D := b) (mv := fun k => k b) (K := fun s => cont (nm 1 s) []) k1 (hc.mono (by omega)) (hb.mono (by omega)) (by omega) (fun _ => rfl)
        rw [e1, e2]
        have : z0 + a * d + -(c * b) = rd2 a b c d := by rw [z0_eq, rd2]; grind
        rw [this]
        exact hr
      · contradiction
    · contradiction
theorem gr2_eq {ρ : Type} {a b c d : Rat} (ha : s8 a = true) (hb : s8 b = true) (hc : s8 c = true) (hd : s8 d = true) (K : Rat -> Option ρ) : gr2 a b c d K = K (rd2 a b c d) := if_pos ⟨⟨ha, hb⟩, hc, hd⟩
theorem orc_r3 : OrcOK NN Tryz.prog 104 rO3 :=
  OrcOK.of_tale (cR_ok (A := { shut := true }) (fuel := 12) (l2E_ok (gamC orc69 Tryz.call116 (gamC orc68 Tryz.call115 (gamC orc70 Tryz.call207 (gamC orc67 Tryz.call206 (gamC orc71 Tryz.call103 (gamC orc_r2 Tryz.call104 (gamN _ _))))))))
    rfl Tryz.func104 (by kernel_rfl)) fun ρ args H cont r hr => by
    unfold rO3 at hr
    split at hr
    · rename_i z a b c d e f g h i
      split at hr
      · rename_i hc
        obtain ⟨⟨⟨ha, hb, hc⟩, hd, he, hf⟩, hg, hh, hi⟩ := hc
        refine (gr3_run cont z a b c d e f g h i).trans ?_
        obtain ⟨k1, e1⟩ := stE_eq (ρ := ρ) (B := 128) (D := rd2 e f h i) (mv := gr2 e f h i) (K := fun s => stO s d (gr2 b c h i) fun s => stE s g (gr2 b c e f) fun s => cont (nm 1 s) []) (z0_sz.mono (by omega)) ((s8_ok ha).mono (by omega)) (rd2_sz (s8_ok he) (s8_ok hf) (s8_ok hh) (s8_ok hi)) (by omega) (fun k => gr2_eq he hf hh hi k)
        obtain ⟨k2, e2⟩ := stO_eq (ρ := ρ) (B := 512) (D := rd2 b c h i) (mv := gr2 b c h i) (K := fun s => stE s g (gr2 b c e f) fun s => cont (nm 1 s) []) k1 ((s8_ok hd).mono (by omega)) ((rd2_sz (s8_ok hb) (s8_ok hc) (s8_ok hh) (s8_ok hi)).mono (by omega)) (by omega) (fun k => gr2_eq hb hc hh hi k)
        obtain ⟨k3, e3⟩ := stE_eq (ρ := ρ) (B := 2048) (D := rd2 b c e f) (mv := gr2 b c e f) (K := fun s => cont (nm 1 s) []) k2 ((s8_ok hg).mono (by omega)) ((rd2_sz (s8_ok hb) (s8_ok hc) (s8_ok he) (s8_ok hf)).mono (by omega)) (by omega) (fun k => gr2_eq hb hc he hf k)
        rw [e1, e2, e3]
        have : z0 + a * rd2 e f h i + -(d * rd2 b c h i) + g * rd2 b c e f = rd3 a b c d e f g h i := by rw [z0_eq, rd3]; grind
        rw [this]
        exact hr
      · contradiction
    · contradiction
end Go.Abs
namespace Go.Abs
open Go.Proofs
set_option maxRecDepth 100000
def inO : Orc := fun ρ args H cont => match args, H with
  | [.v false [.int .i64 x]], [] => cont (one (.bool (tmB x))) []
  | _, _ => none
def tmSO : Orc := fun ρ args H cont => match args, H with
  | [.v false [.sl _ (.pair (.int .i64) (.int .i64)) [p, q, r, s]]], [] => cont (one (.bool (tp2 p && (tp2 q && (tp2 r && tp2 s))))) []
  | _, _ => none
def sb2O : Orc := fun ρ args H cont => match args, H with
  | [.v true [.int .i64 a, .int .i64 b], .v true [.int .i64 c, .int .i64 d]], [] => if s2 (a, b) /\ s2 (c, d) then cont (.v false [.sl (some false) (.int .i64) [a - c, b - d]]) [] else none
  | _, _ => none
def dfB (x : Int) : Prop := x.natAbs <= 134217728
instance (n : Int) : Decidable (dfB n) := by unfold dfB; infer_instance
abbrev iR (n : Int) : Rat := Rat.divInt n 1
def rwO : Orc := fun ρ args H cont => match args, H with
  | [.v false [.sl _ (.int .i64) [x, y]], .v false [.bool true]], [] => if dfB x /\ dfB y then cont (.v false [.sl (some false) (.num 1) [iR x, iR y, iR (x * x + y * y)]]) [] else none
  | _, _ => none
section
variable {ρ : Type} (cont : SV -> HL -> Option ρ)
theorem gin (x : Int) : runF (l2E []) { shut := true } 12 Tryz.f205 (bodyOf Tryz.f205) ρ [one (.int .i64 x)] [] cont =
    bif decide (-67108864 <= x) then cont (one (.bool (bif true then decide (x <= 67108864) else false))) [] else cont (one (.bool false)) [] := by kernel_rfl
def ts2 (p : I2) (r : Option ρ) : Option ρ := bif !tmB p.1 then cont (one (.bool false)) [] else bif bif false then true else !tmB p.2 then cont (one (.bool false)) [] else r
theorem gts (z : Option Bool) (p q r s : I2) : runF (l2E [(205, inO)]) { shut := true } 12 Tryz.f102 (bodyOf Tryz.f102) ρ [.v false [.sl z tP2 [p, q, r, s]]] [] cont = ts2 cont p (ts2 cont q (ts2 cont r (ts2 cont s (cont (one (.bool true)) [])))) := by kernel_rfl
theorem gsb (a b c d : Int) : runF (l2E []) { shut := true } 12 Tryz.f106 (bodyOf Tryz.f106) ρ [.v true [.int .i64 a, .int .i64 b], .v true [.int .i64 c, .int .i64 d]] [] cont = cont (.v false [.sl (some false) (.int .i64) [w64 (a - c), w64 (b - d)]]) [] := by kernel_rfl
def inK (x : Int) (r : Option ρ) : Option ρ := if -9223372036854775808 < x /\ x < 9223372036854775808 then r else none
theorem grw (z : Option Bool) (x y : Int) : runF (l2E [(116, intO 1), (115, mulR), (207, addR)]) { shut := true } 12 Tryz.f105 (bodyOf Tryz.f105) ρ [.v false [.sl z i6 [x, y]], one (.bool true)] [] cont =
    inK x (if (szQ (iR x) && szQ (iR x)) = true then if (szQ z0 && szQ (iR x * iR x)) = true then inK y (if (szQ (iR y) && szQ (iR y)) = true then if (szQ (z0 + iR x * iR x) && szQ (iR y * iR y)) = true then
      cont (.v false [.sl (some false) (.num 1) [iR x, iR y, z0 + iR x * iR x + iR y * iR y]]) [] else none else none) else none else none) := by kernel_rfl
theorem tsa {p : I2} (r : Option ρ) : ts2 cont p r = bif tp2 p then r else cont (one (.bool false)) [] := by
  unfold ts2 tp2
  cases tmB p.1 <;> cases tmB p.2 <;> rfl
end
theorem orc_in : OrcOK NN Tryz.prog 205 inO :=
  OrcOK.of_tale (cR_ok (A := { shut := true }) (fuel := 12) (l2E_ok (gamN _ _)) rfl Tryz.func205 (by kernel_rfl)) fun ρ args H cont r hr => by
    unfold inO at hr
    split at hr
    · rename_i x
      refine (gin cont x).trans ?_
      rw [<- hr]
      unfold tmB
      cases decide (-67108864 <= x) <;> rfl
    · contradiction
theorem orc_tms : OrcOK NN Tryz.prog 102 tmSO :=
  OrcOK.of_tale (cR_ok (A := { shut := true }) (fuel := 12) (l2E_ok (gamC orc_in Tryz.call205 (gamN _ _))) rfl Tryz.func102 (by kernel_rfl)) fun ρ args H cont r hr => by
    unfold tmSO at hr
    split at hr
    · rename_i z p q r s
      refine (gts cont z p q r s).trans ?_
      rw [<- hr, tsa, tsa, tsa, tsa]
      cases tp2 p <;> cases tp2 q <;> cases tp2 r <;> cases tp2 s <;> rfl
    · contradiction
theorem orc_sb2 : OrcOK NN Tryz.prog 106 sb2O :=
  OrcOK.of_tale (cR_ok (A := { shut := true }) (fuel := 12) (l2E_ok (gamN _ _)) rfl Tryz.func106 (by kernel_rfl)) fun ρ args H cont r hr => by
    unfold sb2O at hr
    split at hr
    · rename_i a b c d
      split at hr
      · rename_i hc
        obtain ⟨⟨ha, hb⟩, hc, hd⟩ := hc
        refine (gsb cont a b c d).trans ?_
        have k1 := sm_sub (a := a) (b := c) ha hc
        have k2 := sm_sub (a := b) (b := d) hb hd
        unfold w64
        rw [i64_sm (n := a - c) (by omega), i64_sm (n := b - d) (by omega)]
        exact hr
      · contradiction
    · contradiction
theorem iR_cast (n : Int) : iR n = (n : Rat) := by unfold iR; rw [Rat.divInt_eq_div]; grind
theorem iR_sz {n : Int} (h : n.natAbs < 4611686018427387904) : szN 8 (iR n) := by
  rw [iR_cast]
  have h1 := words_length (n := n.natAbs) (k := 2) (by omega)
  have h2 := words_length (n := 1) (k := 1) (by decide)
  exact ⟨by rw [Rat.num_intCast]; omega, by rw [Rat.den_intCast]; omega⟩
theorem iR_s8 {n : Int} (h : n.natAbs < 4611686018427387904) : s8 (iR n) = true := by
  have := iR_sz h
  simpa [s8, szN] using this
theorem orc_rw : OrcOK NN Tryz.prog 105 rwO :=
  OrcOK.of_tale (cR_ok (A := { shut := true }) (fuel := 12) (l2E_ok (gamC orc69 Tryz.call116 (gamC orc68 Tryz.call115 (gamC orc70 Tryz.call207 (gamN _ _))))) rfl Tryz.func105 (by kernel_rfl)) fun ρ args H cont r hr => by
    unfold rwO at hr
    split at hr
    · rename_i z x y
      split at hr
      · rename_i hc
        obtain ⟨hx, hy⟩ := hc
        refine (grw cont z x y).trans ?_
        unfold dfB at *
        have kx := iR_sz (n := x) (by omega)
        have ky := iR_sz (n := y) (by omega)
        have k1 := kx.mul kx
        have k2 := ky.mul ky
        have k3 := (z0_sz.mono (by omega)).add k1
        unfold inK
        rw [if_pos (by omega), if_pos (both (kx.qq (by omega)) (kx.qq (by omega))), if_pos (both (z0_sz.qq (by omega)) (k1.qq (by omega))), if_pos (by omega), if_pos (both (ky.qq (by omega)) (ky.qq (by omega))), if_pos (both (k3.qq (by omega)) (k2.qq (by omega)))]
        have e : z0 + iR x * iR x + iR y * iR y = iR (x * x + y * y) := by
          rw [z0_eq, iR_cast, iR_cast, iR_cast, Rat.intCast_add, Rat.intCast_mul, Rat.intCast_mul]
          grind
        rw [e]
        exact hr
      · contradiction
    · contradiction
section
variable {ρ : Type} (cont : SV -> HL -> Option ρ)
def rwK (p o : I2) (K : Rat -> Rat -> Rat -> Option ρ) : Option ρ := if dfB (p.1 - o.1) /\ dfB (p.2 - o.2) then K (iR (p.1 - o.1)) (iR (p.2 - o.2)) (iR ((p.1 - o.1) * (p.1 - o.1) + (p.2 - o.2) * (p.2 - o.2))) else none
theorem gsi (a b c d e f g h : Int) : runF (l2E [(102, tmSO), (106, sb2O), (105, rwO), (104, rO3), (103, sgnR)]) { shut := true } 12 Tryz.f31 (bodyOf Tryz.f31) ρ [.v true [.int .i64 a, .int .i64 b], .v true [.int .i64 c, .int .i64 d], .v true [.int .i64 e, .int .i64 f], .v true [.int .i64 g, .int .i64 h]] [] cont =
    bif !tmA (a, b) (c, d) (e, f) (g, h) then cont (one (.int .i64 2)) [] else
    if s2 (a, b) /\ s2 (g, h) then rwK (a, b) (g, h) fun x y z => if s2 (c, d) /\ s2 (g, h) then rwK (c, d) (g, h) fun x' y' z' => if s2 (e, f) /\ s2 (g, h) then rwK (e, f) (g, h) fun x'' y'' z'' =>
      if ((s8 x = true /\ s8 y = true /\ s8 z = true) /\ s8 x' = true /\ s8 y' = true /\ s8 z' = true) /\ s8 x'' = true /\ s8 y'' = true /\ s8 z'' = true then if szQ (rd3 x y z x' y' z' x'' y'' z'') = true then cont (one (.int .i64 (rd3 x y z x' y' z' x'' y'' z'').num.sign)) [] else none else none else none else none else none := by kernel_rfl
end
theorem rwK_eq {ρ : Type} {p o : I2} (h1 : s2 p) (h2 : s2 o) (K : Rat -> Rat -> Rat -> Option ρ) : rwK p o K = K (iR (p.1 - o.1)) (iR (p.2 - o.2)) (iR (dqS p o)) := if_pos ⟨sm_sub h1.1 h2.1, sm_sub h1.2 h2.2⟩
theorem rd3_i (a b c d e f g h i : Int) : rd3 (iR a) (iR b) (iR c) (iR d) (iR e) (iR f) (iR g) (iR h) (iR i) = ((dt3 a b c d e f g h i : Int) : Rat) := by
  simp only [iR_cast]
  unfold rd3 rd2 dt3 dt2
  simp only [Rat.intCast_add, Rat.intCast_mul, Rat.intCast_sub]
  grind
theorem rd3_sz {a b c d e f g h i : Rat} (h1 : (szN 8 a /\ szN 8 b /\ szN 8 c) /\ (szN 8 d /\ szN 8 e /\ szN 8 f) /\ szN 8 g /\ szN 8 h /\ szN 8 i) : szQ (rd3 a b c d e f g h i) = true := by
  obtain ⟨⟨ha, hb, hc⟩, ⟨hd, he, hf⟩, hg, hh, hi⟩ := h1
  have k1 := (ha.mono (C := 128) (by omega)).mul (rd2_sz he hf hh hi)
  have k2 := (hd.mono (C := 128) (by omega)).mul (rd2_sz hb hc hh hi)
  have k3 := (hg.mono (C := 128) (by omega)).mul (rd2_sz hb hc he hf)
  exact ((k1.sub k2).add (k3.mono (by omega))).qq (by omega)
theorem orc_icS : OrcOK NN Tryz.prog 31 icO :=
  OrcOK.of_tale (cR_ok (A := { shut := true }) (fuel := 12) (l2E_ok (gamC orc_tms Tryz.call102 (gamC orc_sb2 Tryz.call106 (gamC orc_rw Tryz.call105 (gamC orc_r3 Tryz.call104 (gamC orc71 Tryz.call103 (gamN _ _))))))) rfl Tryz.func31 (by kernel_rfl)) fun ρ args H cont r hr => by
    unfold icO at hr
    split at hr
    · rename_i a b c d e f g h
      refine (gsi cont a b c d e f g h).trans ?_
      unfold icV at hr
      cases ht : tmA (a, b) (c, d) (e, f) (g, h)
      · rw [ht] at hr; exact hr
      · rw [ht] at hr
        unfold tmA at ht
        simp only [Bool.and_eq_true] at ht
        obtain ⟨h1, h2, h3, h4⟩ := ht
        have h1 := tp2_s h1
        have h2 := tp2_s h2
        have h3 := tp2_s h3
        have h4 := tp2_s h4
        have e1 := e2_ok h1 h4
        have e2 := e2_ok h2 h4
        have e3 := e2_ok h3 h4
        rw [Bool.not_true, cond_false, if_pos ⟨h1, h4⟩, rwK_eq h1 h4, if_pos ⟨h2, h4⟩, rwK_eq h2 h4, if_pos ⟨h3, h4⟩, rwK_eq h3 h4,
          if_pos ⟨⟨⟨iR_s8 e1.1, iR_s8 e1.2.1, iR_s8 e1.2.2⟩, iR_s8 e2.1, iR_s8 e2.2.1, iR_s8 e2.2.2⟩, iR_s8 e3.1, iR_s8 e3.2.1, iR_s8 e3.2.2⟩,
          if_pos (rd3_sz ⟨⟨iR_sz e1.1, iR_sz e1.2.1, iR_sz e1.2.2⟩, ⟨iR_sz e2.1, iR_sz e2.2.1, iR_sz e2.2.2⟩, iR_sz e3.1, iR_sz e3.2.1, iR_sz e3.2.2⟩), rd3_i, Rat.num_intCast]
        exact hr
    · contradiction
end Go.Abs
namespace Go.Abs
open Go.Proofs
set_option maxRecDepth 100000
noncomputable def crE : Env := VL tryT [] [(77, nO shI belowF), (172, rO shW wordF)]
theorem crE_ok : EnvOK NN Tryz.prog crE := VL_ok (TabOk.of tryT_ok) (gamC orc_below Tryz.call77 (gamC orc_word Tryz.call172 (gamN _ _)))
def mO {α : Type} (sh : α -> SV) (f : List Int -> Int -> Int -> α × Int) : Orc := fun ρ args H cont => match args, H with
  | [.v false [.ptr 0 0], .v false [.int .i64 n]], [.var [.sl none (.int .u8) xs, .int .i64 p]] => if rdOkB xs p = true then cont (sh (f xs p n).1) [.var [.sl none (.int .u8) xs, .int .i64 (f xs p n).2]] else none
  | _, _ => none
theorem mO_ends {α : Type} [Inhabited α] {n : Nat} {F : Orc} (hF : OrcOK NN Tryz.prog n F) (sh : α -> SV) (h : ∀ xs p m, rdOkB xs p = true -> Ends xs sh fun ρ cont => F ρ [one (.ptr 0 0), one (.int .i64 m)] (rdH xs p) cont) :
    ∃ f : List Int -> Int -> Int -> α × Int, OrcOK NN Tryz.prog n (mO sh f) /\ ∀ xs p m, rdOkB xs p = true -> rdOkB xs (f xs p m).2 = true := by
  classical
  have h' : ∀ xs p m, ∃ t : α × Int, rdOkB xs p = true -> rdOkB xs t.2 = true /\ ∀ ρ (cont : SV -> HL -> Option ρ), F ρ [one (.ptr 0 0), one (.int .i64 m)] (rdH xs p) cont = cont (sh t.1) (rdH xs t.2) := fun xs p m => by
    by_cases hc : rdOkB xs p = true
    · obtain ⟨a, p', h1, h2, h3⟩ := h xs p m hc
      exact ⟨(a, p'), fun _ => ⟨h2, h3⟩⟩
    · exact ⟨(default, 0), fun h => absurd h hc⟩
  refine ⟨fun xs p m => (h' xs p m).choose, OrcOK.of_tale hF fun ρ args H cont r hr => ?_, fun xs p m hp => ((h' xs p m).choose_spec hp).1⟩
  unfold mO at hr
  split at hr
  · rename_i m xs p
    split at hr
    · rename_i hc
      exact (((h' xs p m).choose_spec hc).2 ρ cont).trans hr
    · contradiction
  · contradiction
def pickK {ρ α : Type} (L : List α) (k : Int) (X : α -> Option ρ) : Option ρ := if 0 <= k /\ k < (L.length : Int) then L[0 + k.toNat]?.bind X else none
theorem Ends.pick {α β : Type} {xs : List Int} {sh : α -> SV} {L : List β} {k : Int} {X : ∀ ρ, (SV -> HL -> Option ρ) -> β -> Option ρ} (h : 0 <= k /\ k < (L.length : Int)) (hX : ∀ x, Ends xs sh fun ρ cont => X ρ cont x) : Ends xs sh fun ρ cont => pickK L k (X ρ cont) := by
  have hl : 0 + k.toNat < L.length := by omega
  obtain ⟨a, p, h2, h3, h4⟩ := hX L[0 + k.toNat]
  refine ⟨a, p, h2, h3, fun ρ cont => ?_⟩
  refine Eq.trans ?_ (h4 ρ cont)
  show pickK L k (X ρ cont) = X ρ cont L[0 + k.toNat]
  unfold pickK
  rw [if_pos h, List.getElem?_eq_getElem hl]
  rfl
theorem End0.pick {α β : Type} {sh : α -> SV} {L : List β} {k : Int} {X : ∀ ρ, (SV -> HL -> Option ρ) -> β -> Option ρ} (h : 0 <= k /\ k < (L.length : Int)) (hX : ∀ x, End0 sh fun ρ cont => X ρ cont x) : End0 sh fun ρ cont => pickK L k (X ρ cont) := by
  have hl : 0 + k.toNat < L.length := by omega
  obtain ⟨a, h4⟩ := hX L[0 + k.toNat]
  refine ⟨a, fun ρ cont => ?_⟩
  refine Eq.trans ?_ (h4 ρ cont)
  show pickK L k (X ρ cont) = X ρ cont L[0 + k.toNat]
  unfold pickK
  rw [if_pos h, List.getElem?_eq_getElem hl]
  rfl
def cL6 : List Int := [0, 1, -1, 67108864, -67108864, 67108863]
theorem drw203 {ρ : Type} (cont : SV -> HL -> Option ρ) (xs : List Int) (p how : Int) : runF crE Ash 20 Tryz.f203 (bodyOf Tryz.f203) ρ [one (.ptr 0 0), one (.int .i64 how)] (rdH xs p) cont =
    bif how == 0 then (if rdOkB xs p = true then cont (shI (belowF xs p 5).1) (rdH xs (belowF xs p 5).2) else none) else
    bif how == 1 then (if rdOkB xs p = true then cont (shI (IntKind.i64.wrap ((belowF xs p 200).1 - 100))) (rdH xs (belowF xs p 200).2) else none) else
    bif how == 2 then (if rdOkB xs p = true then cont (shI (IntKind.i64.wrap (IntKind.i64.wrap ((wordF xs p).1.tmod 134217729) - 67108864))) (rdH xs (wordF xs p).2) else none) else
    bif how == 3 then (if rdOkB xs p = true then pickK cL6 (belowF xs p 6).1 fun x => cont (shI x) (rdH xs (belowF xs p 6).2) else none) else
    (if rdOkB xs p = true then cont (shI (IntKind.i64.wrap (67108864 - (belowF xs p 9).1))) (rdH xs (belowF xs p 9).2) else none) := by kernel_rfl
theorem coord_ok : ∃ f : List Int -> Int -> Int -> Int × Int, OrcOK NN Tryz.prog 203 (mO shI f) /\ ∀ xs p m, rdOkB xs p = true -> rdOkB xs (f xs p m).2 = true :=
  mO_ends (cR_ok (A := Ash) (fuel := 20) crE_ok rfl Tryz.func203 (by kernel_rfl)) shI fun xs p how h =>
    Ends.eq (Ends.bif (Ends.ite h (Ends.fin _ (belowP h))) (Ends.bif (Ends.ite h (Ends.fin _ (belowP h))) (Ends.bif (Ends.ite h (Ends.fin _ (wordP h))) (Ends.bif
      (Ends.ite h (Ends.pick (belowR h (by decide)) fun x => Ends.fin _ (belowP h))) (Ends.ite h (Ends.fin _ (belowP h))))))) fun ρ cont => drw203 cont xs p how
noncomputable def coordF := coord_ok.choose
theorem orc_coord : OrcOK NN Tryz.prog 203 (mO shI coordF) := coord_ok.choose_spec.1
theorem coordP {xs : List Int} {p m : Int} (h : rdOkB xs p = true) : rdOkB xs (coordF xs p m).2 = true := coord_ok.choose_spec.2 xs p m h
end Go.Abs
namespace Go.Abs
open Go.Proofs
set_option maxRecDepth 100000
noncomputable def pdE : Env := VL tryT [] [(75, cR rE Ash 5 Tryz.f75), (77, nG belowG), (78, nO shB onceF), (203, mO shI coordF)]
theorem pdE_ok : EnvOK NN Tryz.prog pdE := VL_ok (TabOk.of tryT_ok) (gamC (cR_ok rE_ok rfl Tryz.func75 (by kernel_rfl)) Tryz.call75 (gamC orc_belowG Tryz.call77 (gamC orc_once Tryz.call78 (gamC orc_coord Tryz.call203 (gamN _ _)))))
section
variable {ρ : Type} (xs : List Int) (cont : SV -> HL -> Option ρ)
noncomputable def ptK (h p : Int) (K : I2 -> Int -> Option ρ) : Option ρ := if rdOkB xs p = true then (if rdOkB xs (coordF xs p h).2 = true then K ((coordF xs p h).1, (coordF xs (coordF xs p h).2 h).1) (coordF xs (coordF xs p h).2 h).2 else none) else none
def o3L : List Int := [67108865, -67108865, -9223372036854775808]
def o6L : List I2 := [(3, 4), (5, 0), (0, -5), (-4, 3), (-3, -4), (4, -3)]
def rsP (L : List I2) : SV := .v false [.sl (some false) tP2 L]
noncomputable def finP (L : List I2) (p : Int) : Option ρ := if rdOkB xs p = true then (bif (onceF xs p 15).1 then (if rdOkB xs (onceF xs p 15).2 = true then (if rdOkB xs (belowG xs (onceF xs p 15).2 4).2 = true then
    pickK o3L (belowG xs (belowG xs (onceF xs p 15).2 4).2 3).1 fun x => pickK L (belowG xs (onceF xs p 15).2 4).1 fun y => cont (rsP (L.set (0 + (belowG xs (onceF xs p 15).2 4).1.toNat) (x, y.2))) [] else none) else none)
  else cont (rsP L) []) else none
noncomputable def stpP (at_ m : Int) (i : Nat) (L : List I2) (p : Int) (K : List I2 -> Int -> Option ρ) : Option ρ := if rdOkB xs p = true then pickK o6L (belowG xs p 6).1 fun x => (if rdOkB xs (belowG xs p 6).2 = true then
    K (L.set i (w64 (w64 (m * x.1) + at_), w64 (w64 (w64 (m * x.2) - at_) + w64 ((belowG xs (belowG xs p 6).2 9).1.tdiv 8)))) (belowG xs (belowG xs p 6).2 9).2 else none) else none
noncomputable def cirP (L : List I2) (p : Int) : Option ρ := if rdOkB xs p = true then (if rdOkB xs (coordF xs p 1).2 = true then
    stpP xs (coordF xs p 1).1 (w64 (1 + (belowG xs (coordF xs p 1).2 1000).1)) 0 L (belowG xs (coordF xs p 1).2 1000).2 fun L q =>
    stpP xs (coordF xs p 1).1 (w64 (1 + (belowG xs (coordF xs p 1).2 1000).1)) 1 L q fun L q =>
    stpP xs (coordF xs p 1).1 (w64 (1 + (belowG xs (coordF xs p 1).2 1000).1)) 2 L q fun L q =>
    stpP xs (coordF xs p 1).1 (w64 (1 + (belowG xs (coordF xs p 1).2 1000).1)) 3 L q fun L q => finP xs cont L q else none) else none
noncomputable def midP (L : List I2) (p : Int) : Option ρ := if rdOkB xs p = true then (bif (onceF xs p 3).1 then cirP xs cont L (onceF xs p 3).2 else finP xs cont L (onceF xs p 3).2) else none
noncomputable def nrP (a b : I2) (p : Int) : I2 :=
  (w64 (a.1 + w64 (w64 ((belowG xs p 4).1 - 1) * w64 (b.1 - a.1))), w64 (w64 (w64 (a.2 + w64 (w64 ((belowG xs p 4).1 - 1) * w64 (b.2 - a.2))) + (belowG xs (belowG xs p 4).2 3).1) - 1))
noncomputable def allP : Option ρ := if rdOkB xs 0 = true then
  ptK xs (belowG xs 0 5).1 (belowG xs 0 5).2 fun a p => ptK xs (belowG xs 0 5).1 p fun b p => ptK xs (belowG xs 0 5).1 p fun c p => ptK xs (belowG xs 0 5).1 p fun d p =>
  (if rdOkB xs p = true then (bif (onceF xs p 3).1 then (if rdOkB xs (onceF xs p 3).2 = true then (if rdOkB xs (belowG xs (onceF xs p 3).2 4).2 = true then
    midP xs cont [a, b, c, nrP xs a b (onceF xs p 3).2] (belowG xs (belowG xs (onceF xs p 3).2 4).2 3).2 else none) else none) else midP xs cont [a, b, c, d] (onceF xs p 3).2) else none) else none
theorem drw98 : runF pdE Ash 20 Tryz.f98 (bodyOf Tryz.f98) ρ [one (.sl none (.int .u8) xs), one (.int .i64 4)] [] cont = allP xs cont := by kernel_rfl
end
def len4 {α : Type} (L : List α) : Prop := ∃ a b c d, L = [a, b, c, d]
theorem len4_of {α : Type} {L : List α} (h : L.length = 4) : len4 L := by
  match L, h with
  | [a, b, c, d], _ => exact ⟨a, b, c, d, rfl⟩
structure P4 where
  a : I2
  b : I2
  c : I2
  d : I2
instance : Inhabited P4 := ⟨⟨(0, 0), (0, 0), (0, 0), (0, 0)⟩⟩
def P4.sv (q : P4) : SV := rsP [q.a, q.b, q.c, q.d]
theorem finL_end {L : List I2} (h : L.length = 4) : End0 P4.sv fun ρ cont => cont (rsP L) [] := by
  obtain ⟨a, b, c, d, rfl⟩ := len4_of h
  exact End0.fin (sh := P4.sv) ⟨a, b, c, d⟩
section
variable {xs : List Int}
theorem belowG_in {α : Type} {L : List α} {n p : Int} (hp : rdOkB xs p = true) (h : (L.length : Int) = n) (hn : 1 < n) (h2 : n <= 256) : 0 <= (belowG xs p n).1 /\ (belowG xs p n).1 < (L.length : Int) := by rw [h]; exact belowGR hp hn h2
theorem finP_end {L : List I2} {p : Int} (hp : rdOkB xs p = true) (h : L.length = 4) : End0 P4.sv fun ρ cont => finP xs cont L p :=
  have h1 := onceP (n := 15) hp
  have h2 := belowGP (n := 4) h1
  End0.ite hp (End0.bif (End0.ite h1 (End0.ite h2 (End0.pick (belowG_in h2 rfl (by decide) (by decide)) fun x => End0.pick (belowG_in h1 (by rw [h]; rfl) (by decide) (by decide)) fun y => finL_end (by rw [List.length_set]; exact h)))) (finL_end h))
theorem stpP_end {L : List I2} {p m t : Int} {i : Nat} {X : ∀ ρ, (SV -> HL -> Option ρ) -> List I2 -> Int -> Option ρ} (hp : rdOkB xs p = true) (h : L.length = 4) (hX : ∀ L q, L.length = 4 -> rdOkB xs q = true -> End0 P4.sv fun ρ cont => X ρ cont L q) :
    End0 P4.sv fun ρ cont => stpP xs t m i L p (X ρ cont) :=
  have h1 := belowGP (n := 6) hp
  End0.ite hp (End0.pick (belowG_in hp rfl (by decide) (by decide)) fun x => End0.ite h1 (hX _ _ (by rw [List.length_set]; exact h) (belowGP h1)))
theorem cirP_end {L : List I2} {p : Int} (hp : rdOkB xs p = true) (h : L.length = 4) : End0 P4.sv fun ρ cont => cirP xs cont L p :=
  have h1 := coordP (m := 1) hp
  have h2 := belowGP (n := 1000) h1
  End0.ite hp (End0.ite h1 (stpP_end h2 h fun _ _ l q => stpP_end q l fun _ _ l q => stpP_end q l fun _ _ l q => stpP_end q l fun _ _ l q => finP_end q l))
theorem midP_end {L : List I2} {p : Int} (hp : rdOkB xs p = true) (h : L.length = 4) : End0 P4.sv fun ρ cont => midP xs cont L p :=
  have h1 := onceP (n := 3) hp
  End0.ite hp (End0.bif (cirP_end h1 h) (finP_end h1 h))
theorem ptK_end {α : Type} {sh : α -> SV} {k p : Int} {X : ∀ ρ, (SV -> HL -> Option ρ) -> I2 -> Int -> Option ρ} (hp : rdOkB xs p = true) (hX : ∀ a q, rdOkB xs q = true -> End0 sh fun ρ cont => X ρ cont a q) : End0 sh fun ρ cont => ptK xs k p (X ρ cont) :=
  have h1 := coordP (m := k) hp
  End0.ite hp (End0.ite h1 (hX _ _ (coordP h1)))
end
def b4O {α : Type} (sh : α -> SV) (f : List Int -> α) (n : Int) : Orc := fun ρ args H cont => match args, H with
  | [.v false [.sl none (.int .u8) xs], .v false [.int .i64 m]], [] => bif m == n then (if rdOkB xs 0 = true then cont (sh (f xs)) [] else none) else none
  | _, _ => none
theorem b4O_ok {α : Type} [Inhabited α] {k : Nat} {F : Orc} (hF : OrcOK NN Tryz.prog k F) (sh : α -> SV) (n : Int) (h : ∀ xs, rdOkB xs 0 = true -> End0 sh fun ρ cont => F ρ [one (.sl none (.int .u8) xs), one (.int .i64 n)] [] cont) : ∃ f, OrcOK NN Tryz.prog k (b4O sh f n) := by
  classical
  have h' : ∀ xs, ∃ a : α, rdOkB xs 0 = true -> ∀ ρ (cont : SV -> HL -> Option ρ), F ρ [one (.sl none (.int .u8) xs), one (.int .i64 n)] [] cont = cont (sh a) [] := fun xs => by
    by_cases hc : rdOkB xs 0 = true
    · obtain ⟨t, ht⟩ := h xs hc; exact ⟨t, fun _ => ht⟩
    · exact ⟨default, fun h => absurd h hc⟩
  refine ⟨fun xs => (h' xs).choose, OrcOK.of_tale hF fun ρ args H cont r hr => ?_⟩
  unfold b4O at hr
  split at hr
  · rename_i xs m
    cases hm : m == n
    · rw [hm] at hr; contradiction
    · rw [hm] at hr
      have := eq_of_beq hm
      subst this
      rw [cond_true] at hr
      split at hr
      · rename_i hc
        exact ((h' xs).choose_spec hc ρ cont).trans hr
      · contradiction
  · contradiction
theorem p2s_ok : ∃ f, OrcOK NN Tryz.prog 98 (b4O P4.sv f 4) :=
  b4O_ok (cR_ok (A := Ash) (fuel := 20) pdE_ok rfl Tryz.func98 (by kernel_rfl)) P4.sv 4 fun xs h => by
    have h0 := belowGP (n := 5) h
    refine End0.eq (Y := fun ρ cont => allP xs cont) ?_ fun ρ cont => drw98 xs cont
    exact End0.ite h (ptK_end h0 fun a p ha => ptK_end ha fun b p hb => ptK_end hb fun c p hc => ptK_end hc fun d p hd =>
      End0.ite hd (End0.bif (End0.ite (onceP hd) (End0.ite (belowGP (onceP hd)) (midP_end (belowGP (belowGP (onceP hd))) rfl))) (midP_end (onceP hd) rfl)))
noncomputable def p2sF := p2s_ok.choose
theorem orc_p2s : OrcOK NN Tryz.prog 98 (b4O P4.sv p2sF 4) := p2s_ok.choose_spec
noncomputable def q4E : Env := VL tryT [] [(98, b4O P4.sv p2sF 4)]
def P4.tup (q : P4) : SV := .tup [(true, [.int .i64 q.a.1, .int .i64 q.a.2]), (true, [.int .i64 q.b.1, .int .i64 q.b.2]), (true, [.int .i64 q.c.1, .int .i64 q.c.2]), (true, [.int .i64 q.d.1, .int .i64 q.d.2])]
theorem drw29 {ρ : Type} (cont : SV -> HL -> Option ρ) (xs : List Int) : runF q4E Ash 20 Tryz.f29 (bodyOf Tryz.f29) ρ [one (.sl none (.int .u8) xs)] [] cont = if rdOkB xs 0 = true then cont (p2sF xs).tup [] else none := by kernel_rfl
theorem orc_dic : OrcOK NN Tryz.prog 29 (bO P4.tup p2sF) :=
  OrcOK.of_tale (cR_ok (A := Ash) (fuel := 20) (VL_ok (TabOk.of tryT_ok) (gamC orc_p2s Tryz.call98 (gamN _ _))) rfl Tryz.func29 (by kernel_rfl)) fun ρ args H cont r hr => by
    unfold bO at hr
    split at hr
    · rename_i xs
      exact (drw29 cont xs).trans hr
    · contradiction
end Go.Abs
namespace Go.Abs
open Go.Proofs
set_option maxRecDepth 100000
section
variable {ρ : Type} (xs : List Int) (cont : SV -> HL -> Option ρ)
noncomputable def cK (h p : Int) (K : Int -> Int -> Option ρ) : Option ρ := if rdOkB xs p = true then K (coordF xs p h).1 (coordF xs p h).2 else none
noncomputable def pt3K (h p : Int) (K : I3 -> Int -> Option ρ) : Option ρ := cK xs h p fun x p => cK xs h p fun y p => cK xs h p fun z p => K (x, y, z) p
def o3M : List Int := [67108865, -67108865, 4611686018427387904]
def o6M : List I3 := [(3, 4, 0), (5, 0, 0), (0, -5, 0), (0, 0, 5), (-4, 0, 3), (0, 3, -4)]
def rsQ (L : List I3) : SV := .v false [.sl (some false) tP3 L]
noncomputable def finQ (L : List I3) (p : Int) : Option ρ := if rdOkB xs p = true then (bif (onceF xs p 15).1 then (if rdOkB xs (onceF xs p 15).2 = true then (if rdOkB xs (belowG xs (onceF xs p 15).2 5).2 = true then
    pickK o3M (belowG xs (belowG xs (onceF xs p 15).2 5).2 3).1 fun x => pickK L (belowG xs (onceF xs p 15).2 5).1 fun y => cont (rsQ (L.set (0 + (belowG xs (onceF xs p 15).2 5).1.toNat) (y.1, x, y.2.2))) [] else none) else none)
  else cont (rsQ L) []) else none
noncomputable def stpQ (i : Nat) (L : List I3) (p : Int) (K : List I3 -> Int -> Option ρ) : Option ρ := if rdOkB xs p = true then pickK o6M (belowG xs p 6).1 fun x => K (L.set i x) (belowG xs p 6).2 else none
noncomputable def cirQ (L : List I3) (p : Int) : Option ρ :=
    stpQ xs 0 L p fun L q => stpQ xs 1 L q fun L q => stpQ xs 2 L q fun L q => stpQ xs 3 L q fun L q => stpQ xs 4 L q fun L q => finQ xs cont L q
noncomputable def midQ (L : List I3) (p : Int) : Option ρ := if rdOkB xs p = true then (bif (onceF xs p 3).1 then cirQ xs cont L (onceF xs p 3).2 else finQ xs cont L (onceF xs p 3).2) else none
def nrC (a b c k : Int) : Int := w64 (w64 (a + w64 (k * w64 (b - a))) + w64 (c - a))
noncomputable def nrQ (a b c : I3) (p : Int) : I3 :=
  (nrC a.1 b.1 c.1 (w64 ((belowG xs p 3).1 - 1)), nrC a.2.1 b.2.1 c.2.1 (w64 ((belowG xs p 3).1 - 1)), w64 (w64 (nrC a.2.2 b.2.2 c.2.2 (w64 ((belowG xs p 3).1 - 1)) + (belowG xs (belowG xs p 3).2 3).1) - 1))
noncomputable def allQ : Option ρ := if rdOkB xs 0 = true then
  pt3K xs (belowG xs 0 5).1 (belowG xs 0 5).2 fun a p => pt3K xs (belowG xs 0 5).1 p fun b p => pt3K xs (belowG xs 0 5).1 p fun c p => pt3K xs (belowG xs 0 5).1 p fun d p => pt3K xs (belowG xs 0 5).1 p fun e p =>
  (if rdOkB xs p = true then (bif (onceF xs p 3).1 then (if rdOkB xs (onceF xs p 3).2 = true then (if rdOkB xs (belowG xs (onceF xs p 3).2 3).2 = true then
    midQ xs cont [a, b, c, d, nrQ xs a b c (onceF xs p 3).2] (belowG xs (belowG xs (onceF xs p 3).2 3).2 3).2 else none) else none) else midQ xs cont [a, b, c, d, e] (onceF xs p 3).2) else none) else none
theorem drw109 : runF pdE Ash 20 Tryz.f109 (bodyOf Tryz.f109) ρ [one (.sl none (.int .u8) xs), one (.int .i64 5)] [] cont = allQ xs cont := by kernel_rfl
end
theorem len5_of {α : Type} {L : List α} (h : L.length = 5) : ∃ a b c d e, L = [a, b, c, d, e] := by
  match L, h with
  | [a, b, c, d, e], _ => exact ⟨a, b, c, d, e, rfl⟩
structure P5 where
  a : I3
  b : I3
  c : I3
  d : I3
  e : I3
instance : Inhabited P5 := ⟨⟨(0, 0, 0), (0, 0, 0), (0, 0, 0), (0, 0, 0), (0, 0, 0)⟩⟩
def P5.sv (q : P5) : SV := rsQ [q.a, q.b, q.c, q.d, q.e]
theorem finM_end {L : List I3} (h : L.length = 5) : End0 P5.sv fun ρ cont => cont (rsQ L) [] := by
  obtain ⟨a, b, c, d, e, rfl⟩ := len5_of h
  exact End0.fin (sh := P5.sv) ⟨a, b, c, d, e⟩
section
variable {xs : List Int}
theorem finQ_end {L : List I3} {p : Int} (hp : rdOkB xs p = true) (h : L.length = 5) : End0 P5.sv fun ρ cont => finQ xs cont L p :=
  have h1 := onceP (n := 15) hp
  have h2 := belowGP (n := 5) h1
  End0.ite hp (End0.bif (End0.ite h1 (End0.ite h2 (End0.pick (belowG_in h2 rfl (by decide) (by decide)) fun x => End0.pick (belowG_in h1 (by rw [h]; rfl) (by decide) (by decide)) fun y => finM_end (by rw [List.length_set]; exact h)))) (finM_end h))
theorem stpQ_end {L : List I3} {p : Int} {i : Nat} {X : ∀ ρ, (SV -> HL -> Option ρ) -> List I3 -> Int -> Option ρ} (hp : rdOkB xs p = true) (h : L.length = 5) (hX : ∀ L q, L.length = 5 -> rdOkB xs q = true -> End0 P5.sv fun ρ cont => X ρ cont L q) :
    End0 P5.sv fun ρ cont => stpQ xs i L p (X ρ cont) :=
  have h1 := belowGP (n := 6) hp
  End0.ite hp (End0.pick (belowG_in hp rfl (by decide) (by decide)) fun x => hX _ _ (by rw [List.length_set]; exact h) h1)
theorem cirQ_end {L : List I3} {p : Int} (hp : rdOkB xs p = true) (h : L.length = 5) : End0 P5.sv fun ρ cont => cirQ xs cont L p :=
  stpQ_end hp h fun _ _ l q => stpQ_end q l fun _ _ l q => stpQ_end q l fun _ _ l q => stpQ_end q l fun _ _ l q => stpQ_end q l fun _ _ l q => finQ_end q l
theorem midQ_end {L : List I3} {p : Int} (hp : rdOkB xs p = true) (h : L.length = 5) : End0 P5.sv fun ρ cont => midQ xs cont L p :=
  have h1 := onceP (n := 3) hp
  End0.ite hp (End0.bif (cirQ_end h1 h) (finQ_end h1 h))
theorem cK_end {α : Type} {sh : α -> SV} {k p : Int} {X : ∀ ρ, (SV -> HL -> Option ρ) -> Int -> Int -> Option ρ} (hp : rdOkB xs p = true) (hX : ∀ a q, rdOkB xs q = true -> End0 sh fun ρ cont => X ρ cont a q) : End0 sh fun ρ cont => cK xs k p (X ρ cont) :=
  End0.ite hp (hX _ _ (coordP hp))
theorem pt3K_end {α : Type} {sh : α -> SV} {k p : Int} {X : ∀ ρ, (SV -> HL -> Option ρ) -> I3 -> Int -> Option ρ} (hp : rdOkB xs p = true) (hX : ∀ a q, rdOkB xs q = true -> End0 sh fun ρ cont => X ρ cont a q) : End0 sh fun ρ cont => pt3K xs k p (X ρ cont) :=
  cK_end hp fun x q h => cK_end h fun y q h => cK_end h fun z q h => hX _ _ h
end
theorem p3s_ok : ∃ f, OrcOK NN Tryz.prog 109 (b4O P5.sv f 5) :=
  b4O_ok (cR_ok (A := Ash) (fuel := 20) pdE_ok rfl Tryz.func109 (by kernel_rfl)) P5.sv 5 fun xs h => by
    have h0 := belowGP (n := 5) h
    refine End0.eq (Y := fun ρ cont => allQ xs cont) ?_ fun ρ cont => drw109 xs cont
    exact End0.ite h (pt3K_end h0 fun a p ha => pt3K_end ha fun b p hb => pt3K_end hb fun c p hc => pt3K_end hc fun d p hd => pt3K_end hd fun e p he =>
      End0.ite he (End0.bif (End0.ite (onceP he) (End0.ite (belowGP (onceP he)) (midQ_end (belowGP (belowGP (onceP he))) rfl))) (midQ_end (onceP he) rfl)))
noncomputable def p3sF := p3s_ok.choose
theorem orc_p3s : OrcOK NN Tryz.prog 109 (b4O P5.sv p3sF 5) := p3s_ok.choose_spec
noncomputable def q5E : Env := VL tryT [] [(109, b4O P5.sv p3sF 5)]
def a3 (p : I3) : List Atom := [.int .i64 p.1, .int .i64 p.2.1, .int .i64 p.2.2]
def P5.tup (q : P5) : SV := .tup [(true, a3 q.a), (true, a3 q.b), (true, a3 q.c), (true, a3 q.d), (true, a3 q.e)]
theorem drw35 {ρ : Type} (cont : SV -> HL -> Option ρ) (xs : List Int) : runF q5E Ash 20 Tryz.f35 (bodyOf Tryz.f35) ρ [one (.sl none (.int .u8) xs)] [] cont = if rdOkB xs 0 = true then cont (p3sF xs).tup [] else none := by kernel_rfl
theorem orc_dis : OrcOK NN Tryz.prog 35 (bO P5.tup p3sF) :=
  OrcOK.of_tale (cR_ok (A := Ash) (fuel := 20) (VL_ok (TabOk.of tryT_ok) (gamC orc_p3s Tryz.call109 (gamN _ _))) rfl Tryz.func35 (by kernel_rfl)) fun ρ args H cont r hr => by
    unfold bO at hr
    split at hr
    · rename_i xs
      exact (drw35 cont xs).trans hr
    · contradiction
end Go.Abs
namespace Go.Abs
open Go.Proofs
set_option maxRecDepth 100000
def loB (n : Int) : Bool := decide (-2000 <= n) && decide (n <= 2000)
def lo2 (p : I2) : Bool := loB p.1 && loB p.2
def loO : Orc := fun ρ args H cont => match args, H with
  | [.v true [.int .i64 a, .int .i64 b]], [] => cont (one (.bool (lo2 (a, b)))) []
  | _, _ => none
def lfP (p : I2) : I3 := (p.1, p.2, w64 (w64 (p.1 * p.1) + w64 (p.2 * p.2)))
def lfO : Orc := fun ρ args H cont => match args, H with
  | [.v true [.int .i64 a, .int .i64 b]], [] => cont (.v true (a3 (lfP (a, b)))) []
  | _, _ => none
section
variable {ρ : Type} (cont : SV -> HL -> Option ρ)
theorem glo (a b : Int) : runF (l2E []) { shut := true } 12 Tryz.f32 (bodyOf Tryz.f32) ρ [.v true [.int .i64 a, .int .i64 b]] [] cont =
    bif decide (-2000 <= a) then (bif bif true then decide (a <= 2000) else false then (bif bif true then decide (-2000 <= b) else false then cont (one (.bool (bif true then decide (b <= 2000) else false))) [] else cont (one (.bool false)) []) else cont (one (.bool false)) []) else cont (one (.bool false)) [] := by kernel_rfl
theorem glf (a b : Int) : runF (l2E []) { shut := true } 12 Tryz.f34 (bodyOf Tryz.f34) ρ [.v true [.int .i64 a, .int .i64 b]] [] cont = cont (.v true (a3 (lfP (a, b)))) [] := by kernel_rfl
end
theorem orc_lo : OrcOK NN Tryz.prog 32 loO :=
  OrcOK.of_tale (cR_ok (A := { shut := true }) (fuel := 12) (l2E_ok (gamN _ _)) rfl Tryz.func32 (by kernel_rfl)) fun ρ args H cont r hr => by
    unfold loO at hr
    split at hr
    · rename_i a b
      refine (glo cont a b).trans ?_
      rw [<- hr]
      unfold lo2 loB
      cases decide (-2000 <= a) <;> cases decide (a <= 2000) <;> cases decide (-2000 <= b) <;> rfl
    · contradiction
theorem orc_lf : OrcOK NN Tryz.prog 34 lfO :=
  OrcOK.of_tale (cR_ok (A := { shut := true }) (fuel := 12) (l2E_ok (gamN _ _)) rfl Tryz.func34 (by kernel_rfl)) fun ρ args H cont r hr => by
    unfold lfO at hr
    split at hr
    · rename_i a b
      exact (glf cont a b).trans hr
    · contradiction
theorem ic_ex : ∃ f, f = icV := ⟨_, rfl⟩
noncomputable def icH := ic_ex.choose
theorem icH_eq : icH = icV := ic_ex.choose_spec
theorem or_ex : ∃ f, f = orV := ⟨_, rfl⟩
noncomputable def orH := or_ex.choose
theorem orH_eq : orH = orV := or_ex.choose_spec
theorem is_ex : ∃ f, f = isV := ⟨_, rfl⟩
noncomputable def isH := is_ex.choose
theorem isH_eq : isH = isV := is_ex.choose_spec
theorem lo_ex : ∃ f, f = lo2 := ⟨_, rfl⟩
noncomputable def loH := lo_ex.choose
theorem loH_eq : loH = lo2 := lo_ex.choose_spec
theorem lf_ex : ∃ f, f = lfP := ⟨_, rfl⟩
noncomputable def lfH := lf_ex.choose
theorem lfH_eq : lfH = lfP := lf_ex.choose_spec
noncomputable def icHO : Orc := fun ρ args H cont => match args, H with
  | [.v true [.int .i64 a, .int .i64 b], .v true [.int .i64 c, .int .i64 d], .v true [.int .i64 e, .int .i64 f], .v true [.int .i64 g, .int .i64 h]], [] => cont (one (.int .i64 (icH (a, b) (c, d) (e, f) (g, h)))) []
  | _, _ => none
noncomputable def orHO : Orc := fun ρ args H cont => match args, H with
  | [.v true [.int .i64 a, .int .i64 b, .int .i64 c], .v true [.int .i64 d, .int .i64 e, .int .i64 f], .v true [.int .i64 g, .int .i64 h, .int .i64 i], .v true [.int .i64 j, .int .i64 k, .int .i64 l]], [] => cont (one (.int .i64 (orH (a, b, c) (d, e, f) (g, h, i) (j, k, l)))) []
  | _, _ => none
noncomputable def isHO : Orc := fun ρ args H cont => match args, H with
  | [.v true [.int .i64 a, .int .i64 b, .int .i64 c], .v true [.int .i64 d, .int .i64 e, .int .i64 f], .v true [.int .i64 g, .int .i64 h, .int .i64 i], .v true [.int .i64 j, .int .i64 k, .int .i64 l], .v true [.int .i64 m, .int .i64 n, .int .i64 o]], [] => cont (one (.int .i64 (isH (a, b, c) (d, e, f) (g, h, i) (j, k, l) (m, n, o)))) []
  | _, _ => none
noncomputable def loHO : Orc := fun ρ args H cont => match args, H with
  | [.v true [.int .i64 a, .int .i64 b]], [] => cont (one (.bool (loH (a, b)))) []
  | _, _ => none
noncomputable def lfHO : Orc := fun ρ args H cont => match args, H with
  | [.v true [.int .i64 a, .int .i64 b]], [] => cont (.v true (a3 (lfH (a, b)))) []
  | _, _ => none
theorem icHO_eq : icHO = icO := by unfold icHO icO; rw [icH_eq]; try rfl
theorem orHO_eq : orHO = orO := by unfold orHO orO; rw [orH_eq]; try rfl
theorem isHO_eq : isHO = isO := by unfold isHO isO; rw [isH_eq]; try rfl
theorem loHO_eq : loHO = loO := by unfold loHO loO; rw [loH_eq]; try rfl
theorem lfHO_eq : lfHO = lfO := by unfold lfHO lfO; rw [lfH_eq]; try rfl
noncomputable def lwE : Env := VL tryT [] [(10, cR rE Ash 5 Tryz.f10), (29, bO P4.tup p2sF), (30, icHO), (31, icHO), (32, loHO), (33, orHO), (34, lfHO), (35, bO P5.tup p3sF), (36, isHO), (15, livesO)]
theorem lwE_ok : EnvOK NN Tryz.prog lwE := VL_ok (TabOk.of tryT_ok) (gamC (cR_ok rE_ok rfl Tryz.func10 (by kernel_rfl)) Tryz.call10 (gamC orc_dic Tryz.call29 (gamC (icHO_eq ▸ orc_ic) Tryz.call30 (gamC (icHO_eq ▸ orc_icS) Tryz.call31 (gamC (loHO_eq ▸ orc_lo) Tryz.call32
  (gamC (orHO_eq ▸ orc_or) Tryz.call33 (gamC (lfHO_eq ▸ orc_lf) Tryz.call34 (gamC orc_dis Tryz.call35 (gamC (isHO_eq ▸ orc_is) Tryz.call36 (gamC lives_ok Tryz.call15 (gamN _ _)))))))))))
end Go.Abs

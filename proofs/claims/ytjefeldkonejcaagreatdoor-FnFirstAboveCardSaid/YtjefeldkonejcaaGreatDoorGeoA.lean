/-
  A PART OF THE PROOF of AbI (texts GeoA GeoB LivA LivB): the claim itself stands in the last text. No conditions beside those of the given row.
-/
import Derived.Test.YtjefeldkonejcaaGreatDoorSpcK
import Derived.Test.YtjefeldkonejcaaGreatDoorAbsY
import Derived.Laws.Externs
import Derived.Laws.StructEq
set_option linter.unusedVariables false
set_option linter.unnecessarySimpa false
set_option linter.unusedSimpArgs false
namespace Go.Abs
open Go.Proofs
set_option maxRecDepth 100000
def pS (k : Nat) (x y : Rat) : SV := .v true [.num k (some x), .num k (some y)]
def szN (B : Nat) (q : Rat) : Prop := (words q.num.natAbs).length < B /\ (words q.den).length < B
theorem szN.mono {B C : Nat} {q : Rat} (h : szN B q) (hBC : B <= C) : szN C q := ⟨Nat.lt_of_lt_of_le h.1 hBC, Nat.lt_of_lt_of_le h.2 hBC⟩
theorem szN.add {B : Nat} {p q : Rat} (hp : szN B p) (hq : szN B q) : szN (2 * B) (p + q) := addOp.size hp.1 hp.2 hq.1 hq.2
theorem szN.sub {B : Nat} {p q : Rat} (hp : szN B p) (hq : szN B q) : szN (2 * B) (p - q) := subOp.size hp.1 hp.2 hq.1 hq.2
theorem szN.mul {B : Nat} {p q : Rat} (hp : szN B p) (hq : szN B q) : szN (2 * B) (p * q) := mul_size hp.1 hp.2 hq.1 hq.2
theorem szN.neg {B : Nat} {p : Rat} (hp : szN B p) : szN B (-p) := by unfold szN; rw [Rat.neg_num, Rat.neg_den, Int.natAbs_neg]; exact hp
theorem szN.q {q : Rat} (h : szN 100000000 q) : szQ q = true := by simp only [szQ, Bool.and_eq_true, decide_eq_true_eq]; exact h
def szM (q : Rat) : Bool := decide ((words q.num.natAbs).length < 1000000) && decide ((words q.den).length < 1000000)
theorem szM_ok {q : Rat} (h : szM q = true) : szN 1000000 q := by simpa [szM, szN] using h
theorem szM_Q {q : Rat} (h : szM q = true) : szQ q = true := ((szM_ok h).mono (by omega)).q
theorem szM_mul {p q : Rat} (h : szM p = true) (h' : szM q = true) : szQ (p * q) = true := (((szM_ok h).mul (szM_ok h')).mono (by omega)).q
theorem both {a b : Bool} (h : a = true) (h' : b = true) : (a && b) = true := by rw [h, h']; rfl
def Vg0 : Env := { T := tryT, E := [], Γ := gamL [(73, rat2 (fun p q => szQ p && szQ q) fun p q => nm 0 (p + q)), (105, rat2 (fun p q => szQ p && szQ q) fun p q => nm 0 (p - q)), (106, rat2 (fun p q => szQ p && szQ q) fun p q => nm 0 (p * q)), (51, rat2 (fun p q => szQ p && szQ q) fun p q => one (.int .i64 (cmpQ p q))), (115, lat2 (fun p q => szQ p && szQ q) fun p q => nm 1 (p - q)), (171, lat2 (fun p q => szQ p && szQ q) fun p q => nm 1 (p + q)), (170, lat2 (fun p q => szQ p && szQ q) fun p q => nm 1 (p * q)), (57, lat2 (fun p q => szQ p && szQ q) fun p q => one (.int .i64 (cmpQ p q)))] }
theorem Vg0_ok : EnvOK NN Tryz.prog Vg0 := { T := TabOk.of tryT_ok, E := fun p hp => (by cases hp), Γ := gamC orc59 Tryz.call73 (gamC orc37 Tryz.call105 (gamC orc60 Tryz.call106 (gamC orc58 Tryz.call51 (gamC orc27 Tryz.call115 (gamC orc70 Tryz.call171 (gamC orc68 Tryz.call170 (gamC orc51 Tryz.call57 (gamN NN _)))))))) }
def pt2 (k : Nat) (f : Rat -> Rat -> Rat -> Rat -> SV) : Orc := fun ρ args H cont => match args, H with
  | [.v true [.num i (some a), .num i2 (some b)], .v true [.num i3 (some c), .num i4 (some d)]], [] => if (i = k /\ i2 = k /\ i3 = k /\ i4 = k) /\ szM a = true /\ szM b = true /\ szM c = true /\ szM d = true then cont (f a b c d) [] else none
  | _, _ => none
def pt1 (k : Nat) (f : Rat -> Rat -> Rat -> SV) : Orc := fun ρ args H cont => match args, H with
  | [.v true [.num i (some a), .num i2 (some b)], .v true [.num i3 (some c)]], [] => if (i = k /\ i2 = k /\ i3 = k) /\ szM a = true /\ szM b = true /\ szM c = true then cont (f a b c) [] else none
  | _, _ => none
theorem pt2_ok {P : Program} {n k : Nat} {F : Orc} {f : Rat -> Rat -> Rat -> Rat -> SV} (hF : OrcOK NN P n F)
    (h : ∀ ρ (cont : SV -> HL -> Option ρ) a b c d, szM a = true -> szM b = true -> szM c = true -> szM d = true -> F ρ [pS k a b, pS k c d] [] cont = cont (f a b c d) []) : OrcOK NN P n (pt2 k f) :=
  OrcOK.of_tale hF fun ρ args H cont r hr => by
    unfold pt2 at hr; split at hr
    · split at hr
      · rename_i hc; obtain ⟨⟨rfl, rfl, rfl, rfl⟩, h1, h2, h3, h4⟩ := hc; exact (h ρ cont _ _ _ _ h1 h2 h3 h4).trans hr
      · contradiction
    · contradiction
theorem pt1_ok {P : Program} {n k : Nat} {F : Orc} {f : Rat -> Rat -> Rat -> SV} (hF : OrcOK NN P n F)
    (h : ∀ ρ (cont : SV -> HL -> Option ρ) a b c, szM a = true -> szM b = true -> szM c = true -> F ρ [pS k a b, nm k c] [] cont = cont (f a b c) []) : OrcOK NN P n (pt1 k f) :=
  OrcOK.of_tale hF fun ρ args H cont r hr => by
    unfold pt1 at hr; split at hr
    · split at hr
      · rename_i hc; obtain ⟨⟨rfl, rfl, rfl⟩, h1, h2, h3⟩ := hc; exact (h ρ cont _ _ _ h1 h2 h3).trans hr
      · contradiction
    · contradiction
def cmpP (a b c d : Rat) : Int := if cmpQ a c ≠ 0 then cmpQ a c else cmpQ b d
theorem run87 {ρ : Type} (cont : SV -> HL -> Option ρ) (a b c d : Rat) : runF Vg0 Ash 0 Tryz.f194 (bodyOf Tryz.f194) ρ [pS 0 a b, pS 0 c d] [] cont =
    if (szQ a && szQ c) = true then (if (szQ b && szQ d) = true then (if (szQ (a * c) && szQ (b * d)) = true then cont (nm 0 (a * c + b * d)) [] else none) else none) else none := by kernel_rfl
theorem orc87 : OrcOK NN Tryz.prog 194 (pt2 0 fun a b c d => nm 0 (a * c + b * d)) :=
  pt2_ok (runF_ok Vg0_ok mixT (A := Ash) (fuel := 0) Tryz.func194 (c := bodyOf Tryz.f194) (by kernel_rfl) (wp_loops (by kernel_rfl))) fun ρ cont a b c d h1 h2 h3 h4 => by
    rw [run87, if_pos (both (szM_Q h1) (szM_Q h3)), if_pos (both (szM_Q h2) (szM_Q h4)), if_pos (both (szM_mul h1 h3) (szM_mul h2 h4))]
theorem run36 {ρ : Type} (cont : SV -> HL -> Option ρ) (a b c d : Rat) : runF Vg0 Ash 0 Tryz.f126 (bodyOf Tryz.f126) ρ [pS 0 a b, pS 0 c d] [] cont =
    if (szQ a && szQ c) = true then (if (szQ b && szQ d) = true then cont (pS 0 (a - c) (b - d)) [] else none) else none := by kernel_rfl
theorem orc36 : OrcOK NN Tryz.prog 126 (pt2 0 fun a b c d => pS 0 (a - c) (b - d)) :=
  pt2_ok (runF_ok Vg0_ok mixT (A := Ash) (fuel := 0) Tryz.func126 (c := bodyOf Tryz.f126) (by kernel_rfl) (wp_loops (by kernel_rfl))) fun ρ cont a b c d h1 h2 h3 h4 => by
    rw [run36, if_pos (both (szM_Q h1) (szM_Q h3)), if_pos (both (szM_Q h2) (szM_Q h4))]
theorem run89 {ρ : Type} (cont : SV -> HL -> Option ρ) (a b c d : Rat) : runF Vg0 Ash 0 Tryz.f127 (bodyOf Tryz.f127) ρ [pS 0 a b, pS 0 c d] [] cont =
    if (szQ a && szQ c) = true then (if (szQ b && szQ d) = true then cont (pS 0 (a + c) (b + d)) [] else none) else none := by kernel_rfl
theorem orc89 : OrcOK NN Tryz.prog 127 (pt2 0 fun a b c d => pS 0 (a + c) (b + d)) :=
  pt2_ok (runF_ok Vg0_ok mixT (A := Ash) (fuel := 0) Tryz.func127 (c := bodyOf Tryz.f127) (by kernel_rfl) (wp_loops (by kernel_rfl))) fun ρ cont a b c d h1 h2 h3 h4 => by
    rw [run89, if_pos (both (szM_Q h1) (szM_Q h3)), if_pos (both (szM_Q h2) (szM_Q h4))]
theorem run85 {ρ : Type} (cont : SV -> HL -> Option ρ) (a b c : Rat) : runF Vg0 Ash 0 Tryz.f128 (bodyOf Tryz.f128) ρ [pS 0 a b, nm 0 c] [] cont =
    if (szQ a && szQ c) = true then (if (szQ b && szQ c) = true then cont (pS 0 (a * c) (b * c)) [] else none) else none := by kernel_rfl
theorem orc85 : OrcOK NN Tryz.prog 128 (pt1 0 fun a b c => pS 0 (a * c) (b * c)) :=
  pt1_ok (runF_ok Vg0_ok mixT (A := Ash) (fuel := 0) Tryz.func128 (c := bodyOf Tryz.f128) (by kernel_rfl) (wp_loops (by kernel_rfl))) fun ρ cont a b c h1 h2 h3 => by
    rw [run85, if_pos (both (szM_Q h1) (szM_Q h3)), if_pos (both (szM_Q h2) (szM_Q h3))]
theorem run98 {ρ : Type} (cont : SV -> HL -> Option ρ) (a b c d : Rat) : runF Vg0 Ash 0 Tryz.f61 (bodyOf Tryz.f61) ρ [pS 0 a b, pS 0 c d] [] cont =
    if (szQ a && szQ c) = true then (bif cmpQ a c != 0 then cont (one (.int .i64 (cmpQ a c))) [] else (if (szQ b && szQ d) = true then cont (one (.int .i64 (cmpQ b d))) [] else none)) else none := by kernel_rfl
theorem cmp_bif {ρ : Type} (cont : SV -> HL -> Option ρ) (a b c d : Rat) : (bif cmpQ a c != 0 then cont (one (.int .i64 (cmpQ a c))) [] else cont (one (.int .i64 (cmpQ b d))) []) = cont (one (.int .i64 (cmpP a b c d))) [] := by
  unfold cmpP
  by_cases h : cmpQ a c = 0
  · rw [bne_eq_false_iff_eq.2 h, cond_false, if_neg (fun e => e h)]
  · rw [bne_iff_ne.2 h, cond_true, if_pos h]
theorem orc98 : OrcOK NN Tryz.prog 61 (pt2 0 fun a b c d => one (.int .i64 (cmpP a b c d))) :=
  pt2_ok (runF_ok Vg0_ok mixT (A := Ash) (fuel := 0) Tryz.func61 (c := bodyOf Tryz.f61) (by kernel_rfl) (wp_loops (by kernel_rfl))) fun ρ cont a b c d h1 h2 h3 h4 => by
    rw [run98, if_pos (both (szM_Q h1) (szM_Q h3)), if_pos (both (szM_Q h2) (szM_Q h4)), cmp_bif]
theorem run66 {ρ : Type} (cont : SV -> HL -> Option ρ) (a b c d : Rat) : runF Vg0 Ash 0 Tryz.f175 (bodyOf Tryz.f175) ρ [pS 1 a b, pS 1 c d] [] cont =
    if (szQ a && szQ c) = true then (if (szQ b && szQ d) = true then cont (pS 1 (a - c) (b - d)) [] else none) else none := by kernel_rfl
theorem orc66 : OrcOK NN Tryz.prog 175 (pt2 1 fun a b c d => pS 1 (a - c) (b - d)) :=
  pt2_ok (runF_ok Vg0_ok mixT (A := Ash) (fuel := 0) Tryz.func175 (c := bodyOf Tryz.f175) (by kernel_rfl) (wp_loops (by kernel_rfl))) fun ρ cont a b c d h1 h2 h3 h4 => by
    rw [run66, if_pos (both (szM_Q h1) (szM_Q h3)), if_pos (both (szM_Q h2) (szM_Q h4))]
theorem run128 {ρ : Type} (cont : SV -> HL -> Option ρ) (a b c d : Rat) : runF Vg0 Ash 0 Tryz.f173 (bodyOf Tryz.f173) ρ [pS 1 a b, pS 1 c d] [] cont =
    if (szQ a && szQ c) = true then (if (szQ b && szQ d) = true then cont (pS 1 (a + c) (b + d)) [] else none) else none := by kernel_rfl
theorem orc128 : OrcOK NN Tryz.prog 173 (pt2 1 fun a b c d => pS 1 (a + c) (b + d)) :=
  pt2_ok (runF_ok Vg0_ok mixT (A := Ash) (fuel := 0) Tryz.func173 (c := bodyOf Tryz.f173) (by kernel_rfl) (wp_loops (by kernel_rfl))) fun ρ cont a b c d h1 h2 h3 h4 => by
    rw [run128, if_pos (both (szM_Q h1) (szM_Q h3)), if_pos (both (szM_Q h2) (szM_Q h4))]
theorem run129 {ρ : Type} (cont : SV -> HL -> Option ρ) (a b c : Rat) : runF Vg0 Ash 0 Tryz.f174 (bodyOf Tryz.f174) ρ [pS 1 a b, nm 1 c] [] cont =
    if (szQ a && szQ c) = true then (if (szQ b && szQ c) = true then cont (pS 1 (a * c) (b * c)) [] else none) else none := by kernel_rfl
theorem orc129 : OrcOK NN Tryz.prog 174 (pt1 1 fun a b c => pS 1 (a * c) (b * c)) :=
  pt1_ok (runF_ok Vg0_ok mixT (A := Ash) (fuel := 0) Tryz.func174 (c := bodyOf Tryz.f174) (by kernel_rfl) (wp_loops (by kernel_rfl))) fun ρ cont a b c h1 h2 h3 => by
    rw [run129, if_pos (both (szM_Q h1) (szM_Q h3)), if_pos (both (szM_Q h2) (szM_Q h3))]
theorem beq_dec0 (x : Int) : (x == 0) = decide (x = 0) := by
  by_cases h : x = 0
  · rw [decide_eq_true h, beq_iff_eq.2 h]
  · rw [decide_eq_false h, beq_eq_false_iff_ne.2 h]
theorem run130 {ρ : Type} (cont : SV -> HL -> Option ρ) (a b c d : Rat) : runF Vg0 Ash 0 Tryz.f169 (bodyOf Tryz.f169) ρ [pS 1 a b, pS 1 c d] [] cont =
    if (szQ a && szQ c) = true then (bif cmpQ a c != 0 then cont (one (.int .i64 (cmpQ a c))) [] else (if (szQ b && szQ d) = true then cont (one (.int .i64 (cmpQ b d))) [] else none)) else none := by kernel_rfl
theorem orc130 : OrcOK NN Tryz.prog 169 (pt2 1 fun a b c d => one (.int .i64 (cmpP a b c d))) :=
  pt2_ok (runF_ok Vg0_ok mixT (A := Ash) (fuel := 0) Tryz.func169 (c := bodyOf Tryz.f169) (by kernel_rfl) (wp_loops (by kernel_rfl))) fun ρ cont a b c d h1 h2 h3 h4 => by
    rw [run130, if_pos (both (szM_Q h1) (szM_Q h3)), if_pos (both (szM_Q h2) (szM_Q h4)), cmp_bif]
end Go.Abs
namespace Go.Abs
open Go.Proofs
set_option maxRecDepth 100000
def p3 (k : Nat) (x y z : Rat) : SV := .v true [.num k (some x), .num k (some y), .num k (some z)]
def Vg1 : Env := { T := tryT, E := [], Γ := gamL [(194, pt2 0 fun a b c d => nm 0 (a * c + b * d)), (105, rat2 (fun p q => szQ p && szQ q) fun p q => nm 0 (p - q)), (175, pt2 1 fun a b c d => pS 1 (a - c) (b - d)), (171, lat2 (fun p q => szQ p && szQ q) fun p q => nm 1 (p + q)), (170, lat2 (fun p q => szQ p && szQ q) fun p q => nm 1 (p * q)), (39, rat1 (fun _ => true) tupQ), (121, lat1 szQ tupQ), (117, qO 1), (72, qO 0), (8, qOkO)] }
theorem Vg1_ok : EnvOK NN Tryz.prog Vg1 := { T := TabOk.of tryT_ok, E := fun p hp => (by cases hp), Γ := gamC orc87 Tryz.call194 (gamC orc37 Tryz.call105 (gamC orc66 Tryz.call175 (gamC orc70 Tryz.call171 (gamC orc68 Tryz.call170 (gamC orc41 Tryz.call39 (gamC orc30 Tryz.call121 (gamC orc65 Tryz.call117 (gamC orc86 Tryz.call72 (gamC (orc64 NN) Tryz.call8 (gamN NN _)))))))))) }
def pl2 (k : Nat) (f : Rat -> Rat -> Rat -> Rat -> Rat -> SV) : Orc := fun ρ args H cont => match args, H with
  | [.v true [.num i (some a), .num i2 (some b), .num i5 (some e)], .v true [.num i3 (some c), .num i4 (some d)]], [] => if (i = k /\ i2 = k /\ i3 = k /\ i4 = k /\ i5 = k) /\ szM a = true /\ szM b = true /\ szM e = true /\ szM c = true /\ szM d = true then cont (f a b e c d) [] else none
  | _, _ => none
theorem szN.m {q : Rat} (h : szN 1000000 q) : szM q = true := by simp only [szM, Bool.and_eq_true, decide_eq_true_eq]; exact h
def sV (a b c d : Int) : SV := .v true [.int .i64 a, .int .i64 b, .int .i64 c, .int .i64 d]
def vOkB (a b c d : Int) : Bool := bif qOkB a b then qOkB c d else false
def vOkO : Orc := fun ρ args H cont => match args, H with
  | [.v true [.int .i64 a, .int .i64 b, .int .i64 c, .int .i64 d]], [] => cont (one (.bool (vOkB a b c d))) []
  | _, _ => none
theorem run162 {ρ : Type} (cont : SV -> HL -> Option ρ) (a b c d : Int) : runF Vg1 Ash 0 Tryz.f54 (bodyOf Tryz.f54) ρ [sV a b c d] [] cont =
    bif qOkB a b then cont (one (.bool (bif true then qOkB c d else false))) [] else cont (one (.bool false)) [] := by kernel_rfl
theorem orc162 : OrcOK NN Tryz.prog 54 vOkO :=
  OrcOK.of_tale (runF_ok Vg1_ok mixT (A := Ash) (fuel := 0) Tryz.func54 (c := bodyOf Tryz.f54) (by kernel_rfl) (wp_loops (by kernel_rfl))) fun ρ args H cont r h => by
    unfold vOkO at h; split at h
    · rename_i a b c d; refine (run162 cont a b c d).trans ?_; unfold vOkB at h; cases hq : qOkB a b with
      | true => rw [hq] at h; exact h
      | false => rw [hq] at h; exact h
    · contradiction
def vO (k : Nat) : Orc := fun ρ args H cont => match args, H with
  | [.v true [.int .i64 a, .int .i64 b, .int .i64 c, .int .i64 d]], [] => if qOkB a b = true /\ qOkB c d = true then cont (pS k (Rat.divInt a b) (Rat.divInt c d)) [] else none
  | _, _ => none
theorem run163 {ρ : Type} (cont : SV -> HL -> Option ρ) (a b c d : Int) : runF Vg1 Ash 0 Tryz.f56 (bodyOf Tryz.f56) ρ [sV a b c d] [] cont = if qOkB a b = true then (if qOkB c d = true then cont (pS 1 (Rat.divInt a b) (Rat.divInt c d)) [] else none) else none := by kernel_rfl
theorem orc163 : OrcOK NN Tryz.prog 56 (vO 1) :=
  OrcOK.of_tale (runF_ok Vg1_ok mixT (A := Ash) (fuel := 0) Tryz.func56 (c := bodyOf Tryz.f56) (by kernel_rfl) (wp_loops (by kernel_rfl))) fun ρ args H cont r h => by
    unfold vO at h; split at h
    · split at h
      · rename_i hc; refine (run163 cont _ _ _ _).trans ?_; rw [if_pos hc.1, if_pos hc.2]; exact h
      · contradiction
    · contradiction
theorem run135 {ρ : Type} (cont : SV -> HL -> Option ρ) (a b c d : Int) : runF Vg1 Ash 0 Tryz.f50 (bodyOf Tryz.f50) ρ [sV a b c d] [] cont = if qOkB a b = true then (if qOkB c d = true then cont (pS 0 (Rat.divInt a b) (Rat.divInt c d)) [] else none) else none := by kernel_rfl
theorem orc135 : OrcOK NN Tryz.prog 50 (vO 0) :=
  OrcOK.of_tale (runF_ok Vg1_ok mixT (A := Ash) (fuel := 0) Tryz.func50 (c := bodyOf Tryz.f50) (by kernel_rfl) (wp_loops (by kernel_rfl))) fun ρ args H cont r h => by
    unfold vO at h; split at h
    · split at h
      · rename_i hc; refine (run135 cont _ _ _ _).trans ?_; rw [if_pos hc.1, if_pos hc.2]; exact h
      · contradiction
    · contradiction
def vFit (x y : Rat) : Bool := bif qFit x then qFit y else false
def vI (x y : Rat) (n : Int) : Int := bif vFit x y then n else 0
def tupV (x y : Rat) : SV := .tup [(true, [.int .i64 (vI x y (qNum x)), .int .i64 (vI x y (qDen x)), .int .i64 (vI x y (qNum y)), .int .i64 (vI x y (qDen y))]), (false, [.bool (vFit x y)])]
def toV (k : Nat) : Orc := fun ρ args H cont => match args, H with
  | [.v true [.num i (some a), .num i2 (some b)]], [] => if (i = k /\ i2 = k) /\ szQ a = true /\ szQ b = true then cont (tupV a b) [] else none
  | _, _ => none
def vTail {ρ : Type} (cont : SV -> HL -> Option ρ) (a b : Rat) : Option ρ :=
  let Z : SV := .tup [(true, [.int .i64 0, .int .i64 0, .int .i64 0, .int .i64 0]), (false, [.bool false])]
  bif !qFit a then cont Z [] else bif bif false then true else !qFit b then cont Z [] else cont (.tup [(true, [.int .i64 (qNum a), .int .i64 (qDen a), .int .i64 (qNum b), .int .i64 (qDen b)]), (false, [.bool true])]) []
theorem vTail_eq {ρ : Type} (cont : SV -> HL -> Option ρ) (a b : Rat) : vTail cont a b = cont (tupV a b) [] := by
  unfold vTail tupV vI vFit; cases qFit a <;> cases qFit b <;> rfl
theorem run103 {ρ : Type} (cont : SV -> HL -> Option ρ) (a b : Rat) : runF Vg1 Ash 0 Tryz.f52 (bodyOf Tryz.f52) ρ [pS 0 a b] [] cont = vTail cont a b := by kernel_rfl
theorem orc103 : OrcOK NN Tryz.prog 52 (toV 0) :=
  OrcOK.of_tale (runF_ok Vg1_ok mixT (A := Ash) (fuel := 0) Tryz.func52 (c := bodyOf Tryz.f52) (by kernel_rfl) (wp_loops (by kernel_rfl))) fun ρ args H cont r h => by
    unfold toV at h; split at h
    · split at h
      · rename_i hc; obtain ⟨⟨rfl, rfl⟩, h1, h2⟩ := hc; exact ((run103 cont _ _).trans (vTail_eq cont _ _)).trans h
      · contradiction
    · contradiction
theorem run76 {ρ : Type} (cont : SV -> HL -> Option ρ) (a b : Rat) : runF Vg1 Ash 0 Tryz.f58 (bodyOf Tryz.f58) ρ [pS 1 a b] [] cont = if szQ a = true then (if szQ b = true then vTail cont a b else none) else none := by kernel_rfl
theorem orc76 : OrcOK NN Tryz.prog 58 (toV 1) :=
  OrcOK.of_tale (runF_ok Vg1_ok mixT (A := Ash) (fuel := 0) Tryz.func58 (c := bodyOf Tryz.f58) (by kernel_rfl) (wp_loops (by kernel_rfl))) fun ρ args H cont r h => by
    unfold toV at h; split at h
    · split at h
      · rename_i hc; obtain ⟨⟨rfl, rfl⟩, h1, h2⟩ := hc; refine (run76 cont _ _).trans ?_; rw [if_pos h1, if_pos h2, vTail_eq]; exact h
      · contradiction
    · contradiction
end Go.Abs
namespace Go.Abs
open Go.Proofs Go.Extern Go.Extern.Rtype Go.Lib
set_option maxRecDepth 100000
noncomputable def infoT (t : Nat) : TypeInfo := (Tryz.prog.info? t).getD default
def extT : ExtT := { val := 195, len := 198, swp := 196, g := 4, sl := [⟨179, 2, 218, 219, 222⟩, ⟨190, 94, 218, 219, 226⟩, ⟨130, 190, 218, 219, 226⟩], sw := [222, 226] }
theorem slx {t e ke f0 f1 fk : Nat} {i ie : TypeInfo} (h1 : Tryz.prog.info? t = some i) (h2 : i.desc = .slice e) (h3 : Tryz.prog.packed t = false) (h4 : Tryz.prog.info? e = some ie)
    (h5 : ∀ w, (kind e).run Tryz.prog w = .ok ke w) (h6 : 2 < swapperK 2 ie ke) (h7 : Tryz.prog.funcs.findIdx? (·.name == "internal/reflectlite" ++ ".Swapper$" ++ toString 1) = some f0)
    (h8 : Tryz.prog.funcs.findIdx? (·.name == "internal/reflectlite" ++ ".Swapper$" ++ toString 2) = some f1)
    (h9 : Tryz.prog.funcs.findIdx? (·.name == "internal/reflectlite" ++ ".Swapper$" ++ toString (swapperK 2 ie ke)) = some fk) : SlXOK Tryz.prog ⟨t, e, f0, f1, fk⟩ :=
  ⟨i, ie, ke, h1, h2, h3, h4, h5, h6, h7, h8, h9⟩
theorem extT_ok : ExtOK Tryz.prog extT where
  val := run_callFunc_extern Tryz.func195 (by kernel_rfl) (by kernel_rfl) (by kernel_rfl) (by kernel_rfl)
  len := run_callFunc_extern Tryz.func198 (by kernel_rfl) (by kernel_rfl) (by kernel_rfl) (by kernel_rfl)
  swp := run_callFunc_extern Tryz.func196 (by kernel_rfl) (by kernel_rfl) (by kernel_rfl) (by kernel_rfl)
  g := by kernel_rfl
  sl := fun p hp => by
    simp only [extT, List.mem_cons, List.not_mem_nil, or_false] at hp; rcases hp with rfl | rfl | rfl
    · exact slx (i := infoT 179) (ie := infoT 2) (ke := 6) (by kernel_rfl) (by kernel_rfl) (by kernel_rfl) (by kernel_rfl) (fun _ => by kernel_rfl) (of_decide_eq_true (by kernel_rfl)) (by kernel_rfl) (by kernel_rfl) (by kernel_rfl)
    · exact slx (i := infoT 190) (ie := infoT 94) (ke := 25) (by kernel_rfl) (by kernel_rfl) (by kernel_rfl) (by kernel_rfl) (fun _ => by kernel_rfl) (of_decide_eq_true (by kernel_rfl)) (by kernel_rfl) (by kernel_rfl) (by kernel_rfl)
    · exact slx (i := infoT 130) (ie := infoT 190) (ke := 23) (by kernel_rfl) (by kernel_rfl) (by kernel_rfl) (by kernel_rfl) (fun _ => by kernel_rfl) (of_decide_eq_true (by kernel_rfl)) (by kernel_rfl) (by kernel_rfl) (by kernel_rfl)
  sw := fun f hf => by
    simp only [extT, List.mem_cons, List.not_mem_nil, or_false] at hf; rcases hf with rfl | rfl
    · exact ⟨true, run_callFunc_extern Tryz.func222 (by kernel_rfl) (by kernel_rfl) (by kernel_rfl) (by kernel_rfl)⟩
    · exact ⟨false, run_callFunc_extern Tryz.func226 (by kernel_rfl) (by kernel_rfl) (by kernel_rfl) (by kernel_rfl)⟩
def xtT : XT := { maps := [(249, 3), (231, 233)], arrs := [(229, 65)], strs := [(22, 9)], ext := extT }
theorem xtT_ok (vs : List Nat) : XTOK Tryz.prog { xtT with vs := vs } where
  maps := mapOkB_ok (by kernel_rfl)
  arrs := arrOkB_ok (by kernel_rfl)
  strs := strOkB_ok (by kernel_rfl)
  ext := extT_ok
theorem two_ints {xs : List Int} (h : xs.length = 2) : ∃ a b, xs = [a, b] := by
  match xs, h with
  | [a, b], _ => exact ⟨a, b, rfl⟩
theorem four_ints {xs : List Int} (h : xs.length = 4) : ∃ a b c d, xs = [a, b, c, d] := by
  match xs, h with
  | [a, b, c, d], _ => exact ⟨a, b, c, d, rfl⟩
theorem part_int (t off : Nat) (cs : Array Value) (v : Value) (w : World) (h1 : (isAgg t).run Tryz.prog w = .ok false w) (h2 : cs[off]? = some v) : (part t cs off).run Tryz.prog w = .ok v w := by
  simp [part, h1, h2]
theorem part_agg (t off n : Nat) (cs : Array Value) (w : World) (h1 : (isAgg t).run Tryz.prog w = .ok true w) (h2 : (sizeOf t).run Tryz.prog w = .ok n w) : (part t cs off).run Tryz.prog w = .ok (.agg (cs.extract off (off + n))) w := by
  simp [part, h1, h2]
theorem eqF_cons (d : Nat) (xs ys : Array Value) (f : Field) (fs : List Field) (w : World) {a b : Value} {r : Bool} (hn : (f.name == "_") = false) (h1 : (part f.type xs f.offset).run Tryz.prog w = .ok a w) (h2 : (part f.type ys f.offset).run Tryz.prog w = .ok b w)
    (h3 : (Op.equalIn d f.type a b).run Tryz.prog w = .ok r w) : (Op.eqFields d xs ys (f :: fs)).run Tryz.prog w = if r = true then (Op.eqFields d xs ys fs).run Tryz.prog w else .ok false w := by
  have hn' : f.name ≠ "_" := by simpa using hn
  simp only [Op.eqFields, if_pos hn', Sem.run_bind, h1, h2, h3, Result.andThen_ok]; cases r <;> simp
theorem eqF2 (d : Nat) (xs ys : Array Value) (f g : Field) (w : World) {a b a2 b2 : Value} {r r2 : Bool} (hn : (f.name == "_") = false) (hn2 : (g.name == "_") = false)
    (h1 : (part f.type xs f.offset).run Tryz.prog w = .ok a w) (h2 : (part f.type ys f.offset).run Tryz.prog w = .ok b w) (h3 : (Op.equalIn d f.type a b).run Tryz.prog w = .ok r w)
    (k1 : (part g.type xs g.offset).run Tryz.prog w = .ok a2 w) (k2 : (part g.type ys g.offset).run Tryz.prog w = .ok b2 w) (k3 : (Op.equalIn d g.type a2 b2).run Tryz.prog w = .ok r2 w) :
    (Op.eqFields d xs ys [f, g]).run Tryz.prog w = .ok (r && r2) w := by
  rw [eqF_cons d xs ys f [g] w hn h1 h2 h3, eqF_cons d xs ys g [] w hn2 k1 k2 k3]; cases r <;> cases r2 <;> simp [Op.eqFields]
theorem eqQ_run (d : Nat) (w : World) (a b c e : Int) : (Op.equalIn (d + 2) 25 (.agg #[.int .i64 a, .int .i64 b]) (.agg #[.int .i64 c, .int .i64 e])).run Tryz.prog w = .ok (a == c && b == e) w := by
  have h2 : Tryz.prog.underlying 2 = some (.int .i64) := by kernel_rfl
  have ha : (isAgg 2).run Tryz.prog w = .ok false w := by kernel_rfl
  rw [show d + 2 = (d + 1) + 1 from rfl, run_equalIn_agg w (d + 1) 25 _ _ (by kernel_rfl) (by kernel_rfl)]; have hf : (Tryz.prog.fieldsOf 25).toList = [{ name := "Num", type := 2, offset := 0, embedded := false, tag := "", pkgPath := "", byteOffset := 0 }, { name := "Den", type := 2, offset := 1, embedded := false, tag := "", pkgPath := "", byteOffset := 8 }] := by kernel_rfl
  rw [hf]; exact eqF2 (d + 1) _ _ _ _ w rfl rfl (part_int 2 0 _ (.int .i64 a) w ha rfl) (part_int 2 0 _ (.int .i64 c) w ha rfl) (run_equalIn_int w d 2 .i64 .i64 a c h2)
    (part_int 2 1 _ (.int .i64 b) w ha rfl) (part_int 2 1 _ (.int .i64 e) w ha rfl) (run_equalIn_int w d 2 .i64 .i64 b e h2)
theorem eqQ_ok : EqOK Tryz.prog (25, 2) := by
  intro w xs ys hx hy op x y; obtain ⟨a, b, rfl⟩ := two_ints hx; obtain ⟨c, e, rfl⟩ := two_ints hy; have key : (Op.equalIn 10000 25 (.agg #[.int .i64 a, .int .i64 b]) (.agg #[.int .i64 c, .int .i64 e])).run Tryz.prog w = .ok ([a, b] == [c, e]) w := by
    rw [show (10000 : Nat) = 9998 + 2 from rfl, eqQ_run]; simp [List.cons_beq_cons]
  refine ⟨run_eqGuard_agg w op 25 x y _ _ (by kernel_rfl), ?_, ?_⟩
  · exact (run_eql_struct w 25 _ _).trans (by rw [show ([a, b].map (Value.int .i64)).toArray = #[.int .i64 a, .int .i64 b] from rfl, show ([c, e].map (Value.int .i64)).toArray = #[.int .i64 c, .int .i64 e] from rfl, key]; rfl)
  · exact (run_neq_struct w 25 _ _).trans (by rw [show ([a, b].map (Value.int .i64)).toArray = #[.int .i64 a, .int .i64 b] from rfl, show ([c, e].map (Value.int .i64)).toArray = #[.int .i64 c, .int .i64 e] from rfl, key]; rfl)
theorem eqV_run (d : Nat) (w : World) (a b a2 b2 c e c2 e2 : Int) : (Op.equalIn (d + 3) 36 (.agg #[.int .i64 a, .int .i64 b, .int .i64 a2, .int .i64 b2]) (.agg #[.int .i64 c, .int .i64 e, .int .i64 c2, .int .i64 e2])).run Tryz.prog w = .ok ((a == c && b == e) && (a2 == c2 && b2 == e2)) w := by
  have ha : (isAgg 25).run Tryz.prog w = .ok true w := by kernel_rfl
  have hs : (sizeOf 25).run Tryz.prog w = .ok 2 w := by kernel_rfl
  rw [show d + 3 = (d + 2) + 1 from rfl, run_equalIn_agg w (d + 2) 36 _ _ (by kernel_rfl) (by kernel_rfl)]; have hf : (Tryz.prog.fieldsOf 36).toList = [{ name := "X", type := 25, offset := 0, embedded := false, tag := "", pkgPath := "", byteOffset := 0 }, { name := "Y", type := 25, offset := 2, embedded := false, tag := "", pkgPath := "", byteOffset := 16 }] := by kernel_rfl
  rw [hf]; exact eqF2 (d + 2) _ _ _ _ w rfl rfl (part_agg 25 0 2 _ w ha hs) (part_agg 25 0 2 _ w ha hs) (eqQ_run d w a b c e)
    (part_agg 25 2 2 _ w ha hs) (part_agg 25 2 2 _ w ha hs) (eqQ_run d w a2 b2 c2 e2)
theorem eqV_ok : EqOK Tryz.prog (36, 4) := by
  intro w xs ys hx hy op x y; obtain ⟨a, b, a2, b2, rfl⟩ := four_ints hx; obtain ⟨c, e, c2, e2, rfl⟩ := four_ints hy; have key : (Op.equalIn 10000 36 (.agg #[.int .i64 a, .int .i64 b, .int .i64 a2, .int .i64 b2]) (.agg #[.int .i64 c, .int .i64 e, .int .i64 c2, .int .i64 e2])).run Tryz.prog w = .ok ([a, b, a2, b2] == [c, e, c2, e2]) w := by
    rw [show (10000 : Nat) = 9997 + 3 from rfl, eqV_run]; simp [List.cons_beq_cons, Bool.and_assoc]
  refine ⟨run_eqGuard_agg w op 36 x y _ _ (by kernel_rfl), ?_, ?_⟩
  · exact (run_eql_struct w 36 _ _).trans (by rw [show ([a, b, a2, b2].map (Value.int .i64)).toArray = #[.int .i64 a, .int .i64 b, .int .i64 a2, .int .i64 b2] from rfl, show ([c, e, c2, e2].map (Value.int .i64)).toArray = #[.int .i64 c, .int .i64 e, .int .i64 c2, .int .i64 e2] from rfl, key]; rfl)
  · exact (run_neq_struct w 36 _ _).trans (by rw [show ([a, b, a2, b2].map (Value.int .i64)).toArray = #[.int .i64 a, .int .i64 b, .int .i64 a2, .int .i64 b2] from rfl, show ([c, e, c2, e2].map (Value.int .i64)).toArray = #[.int .i64 c, .int .i64 e, .int .i64 c2, .int .i64 e2] from rfl, key]; rfl)
theorem eqT_ok : ∀ p ∈ ([(25, 2), (36, 4)] : EqTab), EqOK Tryz.prog p := fun p hp => by
  simp only [List.mem_cons, List.not_mem_nil, or_false] at hp; rcases hp with rfl | rfl
  · exact eqQ_ok
  · exact eqV_ok
end Go.Abs
namespace Go.Abs
open Go.Proofs
set_option maxRecDepth 100000
noncomputable def cR (V : Env) (A : Ann) (fuel : Nat) (fn : Func) : Orc := runF V A fuel fn (bodyOf fn)
theorem cR_ok {V : Env} (hV : EnvOK NN Tryz.prog V) {A : Ann} {fuel f : Nat} {fn : Func} (hA : A.sum = fun _ => none) (hf : Tryz.prog.funcs[f]? = some fn) (hb : fn.body = some (bodyOf fn)) : OrcOK NN Tryz.prog f (cR V A fuel fn) :=
  runF_ok hV mixT hf hb fun l _ S h => by rw [hA] at h; cases h
def xBuildR (ev : Operand -> SV) (op : Op) : Option Eff :=
  match op with
  | .build 71 ps => opBuild tranT 71 (ps.toList.map fun p => (p.1, ev p.2)) fun s => (match s with
    | .v true [.int .i64 n, .int .i64 d, .nilp] => if smallQ (Rat.divInt n d) /\ (Rat.divInt n d).num = n /\ (((Rat.divInt n d).den : Nat) : Int) = d then some { val := nm 0 (Rat.divInt n d) } else none
    | _ => none)
  | _ => none
theorem OpOK.weak {P : Program} {H : Hp} {nid : Nat} {ev : Operand -> SV} {o : Oper} {s s' : SV} (h : OpOK NN P H nid ev o { val := s }) (hs : ∀ {G : Ghost} {κ : Kap} {v : Value}, svR NN G κ s v -> svR NN G κ s' v) : OpOK NN P H nid ev o { val := s' } := by
  intro G κ hf w a next Q h1 h2 h3 h4 h5 h6 hn; exact h h1 h2 h3 h4 h5 h6 fun v G' κ' w' t1 t2 t3 t4 => hn v G' κ' w' t1 t2 (hs t3) t4
theorem xBuildR_ok {H : HL} {nid : Nat} {ev : Operand -> SV} {o : Oper} {e : Eff} (h : xBuildR ev o.op = some e) : OpOK NN Tryz.prog (hmap H) nid ev o e := by
  unfold xBuildR at h; split at h
  · rename_i ps ho; obtain ⟨s, hs, hok⟩ := opBuild_ok (N := NN) (P := Tryz.prog) (nid := nid) (TabOk.of tranT_ok) ho h; split at hs
    · rename_i n d; split at hs
      · rename_i hc; simp only [Option.some.injEq] at hs; subst hs; refine OpOK.weak hok fun {G κ v} hv => nm_out ?_
        unfold ratT; rw [if_pos hc.1]; unfold ratS; rw [hc.2.1, hc.2.2]; exact hv
      · contradiction
    · contradiction
  · contradiction
def xopL (T : Tab) (X : XT) (H : HL) (nid : Nat) (ev : Operand -> SV) (op : Op) : Option Eff :=
  match xBuildR ev op with
  | some e => some e
  | none => xop T X H nid ev op
theorem xopL_ok {T : Tab} (hT : TabOk Tryz.prog T) {X : XT} (hX : XTOK Tryz.prog X) : XOK NN Tryz.prog (xopL T X) := by
  intro H nid ev o e h; unfold xopL at h; split at h
  · rename_i e' he; simp only [Option.some.injEq] at h; subst h; exact fun {G κ hf w a next Q} => xBuildR_ok he
  · exact fun {G κ hf w a next Q} => xop_ok hT hX h
noncomputable def VL (T : Tab) (vs : List Nat) (l : List (Nat × Orc)) : Env := { T := T, E := [(25, 2), (36, 4)], Γ := gamL l, X := xopL T { xtT with vs := vs } }
theorem VL_ok {T : Tab} (hT : TabOk Tryz.prog T) {vs : List Nat} {l : List (Nat × Orc)} (h : GamOK NN Tryz.prog (gamL l)) : EnvOK NN Tryz.prog (VL T vs l) :=
  { T := hT, E := eqT_ok, Γ := h, X := xopL_ok hT (xtT_ok vs) }
noncomputable def e283 : Env := VL tranT [] []
theorem e283_ok : EnvOK NN Tryz.prog e283 := VL_ok (TabOk.of tranT_ok) (gamN _ _)
noncomputable def e255 : Env := VL tranT [] [(190, cR e283 Ash 0 Tryz.f190)]
theorem e255_ok : EnvOK NN Tryz.prog e255 := VL_ok (TabOk.of tranT_ok) (gamC (cR_ok e283_ok rfl Tryz.func190 (by kernel_rfl)) Tryz.call190 (gamN _ _))
noncomputable def e188 : Env := VL tranT [] [(135, cR e255 Ash 5 Tryz.f135)]
theorem e188_ok : EnvOK NN Tryz.prog e188 := VL_ok (TabOk.of tranT_ok) (gamC (cR_ok e255_ok rfl Tryz.func135 (by kernel_rfl)) Tryz.call135 (gamN _ _))
noncomputable def e87 : Env := VL tranT [] [(70, cR e188 Ash 0 Tryz.f70)]
theorem e87_ok : EnvOK NN Tryz.prog e87 := VL_ok (TabOk.of tranT_ok) (gamC (cR_ok e188_ok rfl Tryz.func70 (by kernel_rfl)) Tryz.call70 (gamN _ _))
noncomputable def e287 : Env := VL tranT [] [(22, cR e87 Ash 0 Tryz.f22)]
theorem e287_ok : EnvOK NN Tryz.prog e287 := VL_ok (TabOk.of tranT_ok) (gamC (cR_ok e87_ok rfl Tryz.func22 (by kernel_rfl)) Tryz.call22 (gamN _ _))
def keyG (q : Rat) : Bool := decide (q = 0) || decide (q = 2)
def keyF (q : Rat) : SV := one (.str (bif decide (q = 0) then byteStr [48, 47, 49] else byteStr [50, 47, 49]))
theorem r287a {ρ : Type} (cont : SV -> HL -> Option ρ) : cR e287 Ash 0 Tryz.f216 ρ [ratT 0] [] cont = cont (convS (keyF 0)) [] := by kernel_rfl
theorem r287b {ρ : Type} (cont : SV -> HL -> Option ρ) : cR e287 Ash 0 Tryz.f216 ρ [ratT 2] [] cont = cont (convS (keyF 2)) [] := by kernel_rfl
theorem q287_ok : OrcOK NN Tryz.prog 216 (rat1 keyG keyF) :=
  rat1_ok (cR_ok (fuel := 0) (A := Ash) e287_ok rfl Tryz.func216 (by kernel_rfl)) fun ρ cont q hq => by
    unfold keyG at hq; rcases Bool.or_eq_true _ _ |>.mp hq with h | h
    · have := of_decide_eq_true h; subst this; exact r287a cont
    · have := of_decide_eq_true h; subst this; exact r287b cont
end Go.Abs

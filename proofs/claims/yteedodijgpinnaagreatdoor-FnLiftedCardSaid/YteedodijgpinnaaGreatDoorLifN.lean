/-
  A PART OF THE PROOF of LtI (texts LifN): the claim itself stands in the last text. No conditions beside those of the given row.
-/
import Derived.Test.YteedodijgpinnaaGreatDoorLifF
import Derived.Test.YteedodijgpinnaaGreatDoorDrwA
set_option linter.unusedVariables false
set_option linter.unnecessarySimpa false
set_option linter.unusedSimpArgs false
namespace Go.Abs
open Go.Proofs
set_option maxRecDepth 100000
theorem d3_s (a b c d e f g h i : Int) : dt3 d e f a b c g h i = - dt3 a b c d e f g h i := by unfold dt3 dt2; grind
theorem d3_c (a b c d e f g h i : Int) : dt3 d e f g h i a b c = dt3 a b c d e f g h i := by unfold dt3 dt2; grind
theorem d4_s (a b c d e f g h i j k l m n o p : Int) : dt4 e f g h a b c d i j k l m n o p = - dt4 a b c d e f g h i j k l m n o p := by unfold dt4 dt3 dt2; grind
theorem icD_s (a b c d : I2) : icD b a c d = - icD a b c d := d3_s ..
theorem icD_c (a b c d : I2) : icD b c a d = icD a b c d := d3_c ..
theorem icD_d (a b c d : I2) : icD a b d c = - icD a b c d := by unfold icD dqS dt3 dt2; grind
theorem isD_s (a b c d e : I3) : isD b a c d e = - isD a b c d e := d4_s ..
theorem isD_e (a b c d e : I3) : isD a b c e d = - isD a b c d e := by
  unfold isD dq3 dt4 dt3 dt2
  grind
def lf0 (p : I2) : I3 := (p.1, p.2, p.1 * p.1 + p.2 * p.2)
theorem or_lf (a b c d : I2) : orD (lf0 a) (lf0 b) (lf0 c) (lf0 d) = icD a b c d := by
  unfold orD lf0 icD dqS dt3 dt2
  grind
theorem sg3 (x : Int) : x.sign = -1 \/ x.sign = 0 \/ x.sign = 1 := by
  rcases Int.lt_trichotomy x 0 with h | h | h
  · exact .inl (Int.sign_eq_neg_one_of_neg h)
  · subst h; exact .inr (.inl rfl)
  · exact .inr (.inr (Int.sign_eq_one_of_pos h))
theorem w64_neg (x : Int) : w64 (0 - x.sign) = (-x).sign := by
  rw [Int.sign_neg]
  unfold w64
  rcases sg3 x with h | h | h <;> rw [h] <;> rfl
theorem tmA_s (a b c d : I2) : tmA b a c d = tmA a b c d := by unfold tmA; cases tp2 a <;> cases tp2 b <;> rfl
theorem tmA_c (a b c d : I2) : tmA b c a d = tmA a b c d := by unfold tmA; cases tp2 a <;> cases tp2 b <;> cases tp2 c <;> rfl
theorem tmA_d (a b c d : I2) : tmA a b d c = tmA a b c d := by unfold tmA; cases tp2 c <;> cases tp2 d <;> rfl
theorem tmA_r (a b c d : I2) : tmA d c b a = tmA a b c d := by unfold tmA; cases tp2 a <;> cases tp2 b <;> cases tp2 c <;> cases tp2 d <;> rfl
theorem tm5_s (a b c d e : I3) : tmB5 b a c d e = tmB5 a b c d e := by unfold tmB5; cases tp3 a <;> cases tp3 b <;> rfl
theorem tm5_e (a b c d e : I3) : tmB5 a b c e d = tmB5 a b c d e := by unfold tmB5; cases tp3 d <;> cases tp3 e <;> rfl
theorem icV_ok {a b c d : I2} (h : tmA a b c d = true) : icV a b c d = (icD a b c d).sign := by unfold icV; rw [h]; rfl
theorem icV_no {a b c d : I2} (h : tmA a b c d = false) : icV a b c d = 2 := by unfold icV; rw [h]; rfl
theorem isV_ok {a b c d e : I3} (h : tmB5 a b c d e = true) : isV a b c d e = (isD a b c d e).sign := by unfold isV; rw [h]; rfl
theorem isV_no {a b c d e : I3} (h : tmB5 a b c d e = false) : isV a b c d e = 2 := by unfold isV; rw [h]; rfl
theorem sg_ne2 (x : Int) : (x.sign == 2) = false := by rcases sg3 x with h | h | h <;> rw [h] <;> rfl
theorem loB_abs {n : Int} (h : loB n = true) : n.natAbs <= 2000 := by
  unfold loB at h
  simp only [Bool.and_eq_true, decide_eq_true_eq] at h
  omega
theorem lo_lf {p : I2} (h : lo2 p = true) : lfP p = lf0 p /\ tp3 (lf0 p) = true := by
  unfold lo2 at h
  simp only [Bool.and_eq_true] at h
  have h1 := loB_abs h.1
  have h2 := loB_abs h.2
  have m1 := mulB h1 h1
  have m2 := mulB h2 h2
  refine ⟨?_, ?_⟩
  · unfold lfP lf0 w64
    rw [i64_sm (n := p.1 * p.1) (by omega), i64_sm (n := p.2 * p.2) (by omega), i64_sm (n := p.1 * p.1 + p.2 * p.2) (by omega)]
  · have hT : ∀ {n : Int}, n.natAbs <= 67108864 -> tmB n = true := fun {n} h => by
      unfold tmB
      rw [decide_eq_true (by omega), decide_eq_true (by omega)]; rfl
    unfold tp3 lf0
    dsimp only
    rw [hT (by omega), hT (by omega), hT (by omega)]
    rfl
theorem or_lw2 {a b c d : I2} (ha : lo2 a = true) (hb : lo2 b = true) (hc : lo2 c = true) (hd : lo2 d = true) : orV (lfP a) (lfP b) (lfP c) (lfP d) = (icD a b c d).sign := by
  rw [(lo_lf ha).1, (lo_lf hb).1, (lo_lf hc).1, (lo_lf hd).1]
  unfold orV tmB4
  rw [(lo_lf ha).2, (lo_lf hb).2, (lo_lf hc).2, (lo_lf hd).2, or_lf]
  rfl
section
variable {ρ : Type} (K : Bool -> Option ρ)
noncomputable def sphK (q : P5) : Option ρ := bif isH q.a q.b q.c q.d q.e == 2 then K true else bif isH q.b q.a q.c q.d q.e == w64 (0 - isH q.a q.b q.c q.d q.e) then
  K (bif true then bif false then true else bif true then isH q.a q.b q.c q.e q.d == w64 (0 - isH q.a q.b q.c q.d q.e) else false else false) else K false
noncomputable def endK (g : Bool) (r : P5) : Option ρ := if g = true then sphK K r else none
noncomputable def lwK (q : P4) (g : Bool) (r : P5) : Option ρ :=
  bif icH q.a q.b q.c q.d != icH q.a q.b q.c q.d then K false else bif icH q.a q.b q.c q.d == 2 then K (bif true then icH q.d q.c q.b q.a == 2 else false) else
  bif icH q.b q.a q.c q.d != w64 (0 - icH q.a q.b q.c q.d) then K false else bif bif false then true else icH q.b q.c q.a q.d != icH q.a q.b q.c q.d then K false else
  bif bif false then true else icH q.a q.b q.d q.c != w64 (0 - icH q.a q.b q.c q.d) then K false else
  bif loH q.a then (bif bif true then loH q.b else false then (bif bif true then loH q.c else false then (bif bif true then loH q.d else false then
    (bif bif true then orH (lfH q.a) (lfH q.b) (lfH q.c) (lfH q.d) != icH q.a q.b q.c q.d else false then K false else endK K g r) else endK K g r) else endK K g r) else endK K g r) else endK K g r
end
theorem drw6 {ρ : Type} (cont : SV -> HL -> Option ρ) (xs : List Int) : runF lwE Ash 20 Tryz.f6 (bodyOf Tryz.f6) ρ [one (.sl none (.int .u8) xs)] [] cont =
    bif decide (1048576 < (xs.length : Int)) then cont (one (.bool true)) [] else if rdOkB xs 0 = true then lwK (fun o => cont (one (.bool o)) []) (p2sF xs) (rdOkB xs 0) (p3sF xs) else none := by kernel_rfl
theorem bne_self' (x : Int) : (x != x) = false := by simp
theorem beq_self' (x : Int) : (x == x) = true := by simp
theorem sph_eq {ρ : Type} (K : Bool -> Option ρ) (q : P5) : sphK K q = K true := by
  unfold sphK
  rw [isH_eq]
  cases ht : tmB5 q.a q.b q.c q.d q.e
  · rw [isV_no ht]; rfl
  · rw [isV_ok ht, isV_ok ((tm5_s ..).trans ht), isV_ok ((tm5_e ..).trans ht), sg_ne2, w64_neg, isD_s q.a q.b q.c q.d q.e, isD_e q.a q.b q.c q.d q.e, beq_self']
    rfl
theorem lw_eq {ρ : Type} (K : Bool -> Option ρ) (q : P4) (r : P5) : lwK K q true r = K true := by
  have e : endK K true r = K true := (if_pos rfl).trans (sph_eq K r)
  unfold lwK
  rw [e, icH_eq, bne_self', cond_false]
  cases ht : tmA q.a q.b q.c q.d
  · rw [icV_no ht, icV_no ((tmA_r ..).trans ht)]; rfl
  · rw [icV_ok ht, icV_ok ((tmA_s ..).trans ht), icV_ok ((tmA_c ..).trans ht), icV_ok ((tmA_d ..).trans ht), sg_ne2, w64_neg, icD_s q.a q.b q.c q.d, icD_c q.a q.b q.c q.d, icD_d q.a q.b q.c q.d, bne_self', bne_self']
    rw [loH_eq, lfH_eq, orH_eq]
    cases ha : lo2 q.a
    · rfl
    cases hb : lo2 q.b
    · rfl
    cases hc : lo2 q.c
    · rfl
    cases hd : lo2 q.d
    · rfl
    rw [or_lw2 ha hb hc hd, bne_self']
    rfl
theorem li_law : OrcOK NN Tryz.prog 6 lawO1 :=
  OrcOK.of_tale (cR_ok (A := Ash) (fuel := 20) lwE_ok rfl Tryz.func6 (by kernel_rfl)) fun ρ args H cont r h => by
    unfold lawO1 at h
    split at h
    · rename_i xs
      split at h
      · rename_i hb
        refine (drw6 cont xs).trans ?_
        by_cases h1 : (1048576 : Int) < List.length (α := Int) xs
        · rw [decide_eq_true h1]; exact h
        · have ok : rdOkB xs 0 = true := rdOk_iff.2 ⟨hb, by omega, by omega, by omega⟩
          rw [decide_eq_false h1, cond_false, if_pos ok, ok, lw_eq]
          exact h
      · contradiction
    · contradiction
end Go.Abs

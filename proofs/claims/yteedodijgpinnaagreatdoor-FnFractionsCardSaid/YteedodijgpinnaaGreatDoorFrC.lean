/-
  A PART OF THE PROOF of RowI (texts FrC): the claim itself stands in the last text. No conditions beside those of the given row.
-/
import Derived.Test.YteedodijgpinnaaGreatDoorFrB
set_option linter.unusedVariables false
set_option linter.unnecessarySimpa false
set_option linter.unusedSimpArgs false
/-
  THE LAW OF FRACTIONS, 2: it answers true.
-/
namespace Go.Abs
open Go.Proofs
set_option linter.unusedVariables false
set_option maxRecDepth 100000

theorem fit_ok {r : Rat} (h : qFit r = true) : qOkB (qNum r) (qDen r) = true ∧ Rat.divInt (qNum r) (qDen r) = r := by
  have h' : r.num.natAbs ≤ 1000000000000000000 ∧ r.den ≤ 1000000000000000000 := of_decide_eq_true h
  have e1 : qNum r = r.num := by unfold qNum; rw [if_pos h']
  have e2 : qDen r = r.den := by unfold qDen; rw [if_pos h']
  have h3 := r.den_pos
  have h4 : Int.gcd r.num r.den = 1 := r.reduced
  rw [e1, e2]
  exact ⟨qOkB_iff.2 ⟨by omega, by omega, by omega, by omega, h4⟩, Rat.num_divInt_den r⟩
theorem ok_fit {a b : Int} (h : qOkB a b = true) : qFit (Rat.divInt a b) = true ∧ qNum (Rat.divInt a b) = a ∧ qDen (Rat.divInt a b) = b := by
  obtain ⟨h1, h2, h3, h4, h5⟩ := qOkB_iff.1 h
  obtain ⟨k1, k2⟩ := q_rt h
  have h' : (Rat.divInt a b).num.natAbs ≤ 1000000000000000000 ∧ (Rat.divInt a b).den ≤ 1000000000000000000 := by omega
  unfold qFit qNum qDen
  rw [if_pos h', if_pos h']
  exact ⟨decide_eq_true h', k1, k2⟩
section
variable {g : Int → Int → Int → Int → Bool} {f : Rat → Rat → Rat} {a b c d : Int}
theorem opT_g (h : opT g f a b c d = true) : g a b c d = true := by
  unfold opT at h
  cases hg : g a b c d
  · rw [hg] at h; contradiction
  · rfl
theorem op_fit (h : opT g f a b c d = true) : qOkB (opN g f a b c d) (opD g f a b c d) = true ∧ Rat.divInt (opN g f a b c d) (opD g f a b c d) = f (Rat.divInt a b) (Rat.divInt c d) := by
  have hg := opT_g h
  unfold opT at h
  unfold opN opD
  rw [hg] at h ⊢
  exact fit_ok h
theorem op_is {x y : Int} (hg : g a b c d = true) (hx : qOkB x y = true) (e : f (Rat.divInt a b) (Rat.divInt c d) = Rat.divInt x y) : opT g f a b c d = true ∧ opN g f a b c d = x ∧ opD g f a b c d = y := by
  unfold opT opN opD
  rw [hg, e]
  exact ok_fit hx
theorem op_no (h : g a b c d = false) : opT g f a b c d = false ∧ opN g f a b c d = 0 ∧ opD g f a b c d = 0 := by
  unfold opT opN opD
  rw [h]
  exact ⟨rfl, rfl, rfl⟩
end
theorem ok2_of {a b c d : Int} (h1 : qOkB a b = true) (h2 : qOkB c d = true) : ok2 a b c d = true := by unfold ok2; rw [h1, h2]; rfl
theorem of_ok2 {a b c d : Int} (h : ok2 a b c d = true) : qOkB a b = true ∧ qOkB c d = true := by unfold ok2 at h; rw [Bool.and_eq_true] at h; exact h

theorem sgn_sub (p q : Rat) : Int.sign (p - q).num = cmpQ p q := by
  unfold cmpQ
  have hd : (0 : Int) < ((p.den * q.den : Nat) : Int) := by
    have h1 := p.den_pos
    have h2 := q.den_pos
    have := Nat.mul_pos h1 h2
    omega
  rw [Rat.sub_def', ← Rat.divInt_ofNat]
  generalize p.num * q.den - q.num * p.den = n at *
  generalize ((p.den * q.den : Nat) : Int) = m at *
  rw [(divInt_pos n m hd).1]
  have hg : 0 < Int.gcd n m := Int.gcd_pos_of_ne_zero_right n (by omega)
  obtain ⟨k, hk⟩ := Int.gcd_dvd_left n m
  generalize Int.gcd n m = z at *
  subst hk
  rw [Int.mul_ediv_cancel_left _ (by omega), Int.sign_mul, Int.sign_eq_one_of_pos (show (0 : Int) < z by omega), Int.one_mul]
theorem cmp_rev (p q : Rat) : cmpQ q p = -cmpQ p q := by
  unfold cmpQ
  rw [← Int.sign_neg, Int.neg_sub]

theorem beq2 {x y u v : Int} (h1 : x = u) (h2 : y = v) : (x == u && y == v) = true := by subst h1; subst h2; simp
section
variable {ρ : Type} {K : Bool → Option ρ} {a b c d e f : Int}
theorem frP5_eq : frP5 K a b c d e f = K true := by
  unfold frP5
  cases h1 : opT ok2 tms e f (opN ok2 pls a b c d) (opD ok2 pls a b c d)
  · rfl
  · cases h2 : opT ok2 tms e f a b
    · rfl
    · cases h3 : opT ok2 tms e f c d
      · rfl
      · cases h4 : opT ok2 pls (opN ok2 tms e f a b) (opD ok2 tms e f a b) (opN ok2 tms e f c d) (opD ok2 tms e f c d)
        · rfl
        · have hs := (of_ok2 (opT_g h1))
          have ha := (of_ok2 (opT_g h2)).2
          have hc := (of_ok2 (opT_g h3)).2
          obtain ⟨f1, e1⟩ := op_fit h1
          obtain ⟨f2, e2⟩ := op_fit h2
          obtain ⟨f3, e3⟩ := op_fit h3
          obtain ⟨f4, e4⟩ := op_fit h4
          have hT : opT ok2 pls a b c d = true := by
            cases hT : opT ok2 pls a b c d
            · exfalso
              have hz : opD ok2 pls a b c d = 0 := by
                unfold opT at hT
                unfold opD
                rw [ok2_of ha hc] at hT ⊢
                unfold qDen
                rw [cond_true, if_neg (of_decide_eq_false hT)]
              have := (qOkB_iff.1 hs.2).1
              omega
            · rfl
          obtain ⟨f5, e5⟩ := op_fit hT
          have key : tms (Rat.divInt e f) (Rat.divInt (opN ok2 pls a b c d) (opD ok2 pls a b c d)) = Rat.divInt (opN ok2 pls (opN ok2 tms e f a b) (opD ok2 tms e f a b) (opN ok2 tms e f c d) (opD ok2 tms e f c d)) (opD ok2 pls (opN ok2 tms e f a b) (opD ok2 tms e f a b) (opN ok2 tms e f c d) (opD ok2 tms e f c d)) := by
            rw [e4, e5, e2, e3]
            unfold tms pls
            exact Rat.mul_add ..
          obtain ⟨_, g2, g3⟩ := op_is (opT_g h1) f4 key
          rw [beq2 g2 g3]
          rfl
theorem frP4_eq : frP4 K a b c d e f = K true := by
  unfold frP4
  cases h1 : qOkB e f
  · rfl
  · cases h2 : opT ok2 pls a b c d
    · rfl
    · exact frP5_eq
theorem frS_eq {s : Int} (h1 : qcmV a b c d = s) (h2 : qcmV c d a b = IntKind.i64.wrap (0 - s)) : frS K a b c d e f s = K true := by
  unfold frS
  rw [h1, h2]
  simp only [bne_self_eq_false, cond_false]
  exact frP4_eq
theorem frP3_eq (ha : qOkB a b = true) (hc : qOkB c d = true) : frP3 K a b c d e f = K true := by
  unfold frP3
  cases h1 : opT ok2 mns a b c d
  · exact frP4_eq
  · obtain ⟨f1, e1⟩ := op_fit h1
    have hn : opN ok2 mns a b c d = (mns (Rat.divInt a b) (Rat.divInt c d)).num := by rw [← e1]; exact (q_rt f1).1.symm
    have hs : Int.sign (opN ok2 mns a b c d) = cmpQ (Rat.divInt a b) (Rat.divInt c d) := by rw [hn]; exact sgn_sub _ _
    have hv1 : qcmV a b c d = Int.sign (opN ok2 mns a b c d) := by unfold qcmV; rw [ok2_of ha hc, hs]; rfl
    have hv2 : qcmV c d a b = -Int.sign (opN ok2 mns a b c d) := by unfold qcmV; rw [ok2_of hc ha, hs, ← cmp_rev]; rfl
    generalize opN ok2 mns a b c d = n at *
    rcases Int.lt_trichotomy n 0 with h | h | h
    · rw [Int.sign_eq_neg_one_of_neg h] at hv1 hv2
      rw [decide_eq_false (show ¬ 0 < n by omega), decide_eq_true h]
      exact frS_eq hv1 hv2
    · subst h
      exact frS_eq hv1 hv2
    · rw [Int.sign_eq_one_of_pos h] at hv1 hv2
      rw [decide_eq_true h, decide_eq_false (show ¬ n < 0 by omega)]
      exact frS_eq hv1 hv2
theorem frP2_eq (ha : qOkB a b = true) (hc : qOkB c d = true) : frP2 K a b c d e f = K true := by
  unfold frP2
  cases h1 : opT ok2 tms a b c d
  · exact frP3_eq ha hc
  · obtain ⟨f1, e1⟩ := op_fit h1
    cases h2 : c != 0
    · exact frP3_eq ha hc
    · have hc0 : c ≠ 0 := by simpa using h2
      have hg : ok2z (opN ok2 tms a b c d) (opD ok2 tms a b c d) c d = true := by
        unfold ok2z
        rw [f1, hc, beq_eq_false_iff_ne.2 hc0]; rfl
      obtain ⟨g1, g2, g3⟩ := op_is (f := dvd) hg ha (by
        rw [e1]
        exact Rat.mul_div_cancel fun h => hc0 ((divInt_ne hc).1 h))
      rw [g1, beq2 g2 g3]
      exact frP3_eq ha hc
theorem frP1_eq (ha : qOkB a b = true) (hc : qOkB c d = true) : frP1 K a b c d e f = K true := by
  unfold frP1
  cases h1 : opT ok2 pls a b c d
  · exact frP2_eq ha hc
  · obtain ⟨f1, e1⟩ := op_fit h1
    obtain ⟨g1, g2, g3⟩ := op_is (f := mns) (ok2_of f1 hc) ha (by
      rw [e1]
      exact Rat.add_sub_cancel)
    rw [f1, g1, beq2 g2 g3]
    exact frP2_eq ha hc
theorem frBad_eq (h : ok2 a b c d = false) : frBad K a b c d = K true := by
  unfold frBad
  obtain ⟨h1, h2, h3⟩ := op_no (f := pls) h
  rw [h1, h2, h3]
  unfold qcmV
  rw [h]
  rfl
theorem frAll_eq : frAll K a b c d e f = K true := by
  unfold frAll
  cases h1 : qOkB a b
  · exact frBad_eq (by unfold ok2; rw [h1]; rfl)
  · cases h2 : qOkB c d
    · exact frBad_eq (by unfold ok2; rw [h1, h2]; rfl)
    · exact frP1_eq h1 h2
end
theorem fr_law : OrcOK NN Tryz.prog 3 lawO2 :=
  OrcOK.of_tale (cR_ok (A := Ash) (fuel := 20) frLaw_ok rfl Tryz.func3 (by kernel_rfl)) fun ρ args H cont r h => by
    unfold lawO2 at h
    split at h
    · rename_i xs ys
      split at h
      · rename_i hb
        refine (frr3 cont xs ys).trans ?_
        by_cases h1 : (1048576 : Int) < List.length (α := Int) xs
        · rw [decide_eq_true h1]; exact h
        · by_cases h2 : (1048576 : Int) < List.length (α := Int) ys
          · rw [decide_eq_false h1, decide_eq_true h2]; exact h
          · rw [decide_eq_false h1, decide_eq_false h2, if_pos (rdOk_iff.2 ⟨hb.1, by omega, by omega, by omega⟩), if_pos (rdOk_iff.2 ⟨hb.2, by omega, by omega, by omega⟩), frAll_eq]
            exact h
      · contradiction
    · contradiction
end Go.Abs

/-
  A PART OF THE PROOF of NrI (texts NearA NearB NearC RatO NearP NearD NearE NearF NearG NearH): the claim itself stands in the last text. No conditions beside those of the given row.
-/
import Derived.Test.YteedodijgpinnaaGreatDoorDrwA
set_option linter.unusedVariables false
set_option linter.unnecessarySimpa false
set_option linter.unusedSimpArgs false
namespace Go.Abs
open Go.Proofs
set_option maxRecDepth 100000
noncomputable def qfE : Env := { VL tryT [] [(61, q61), (62, qO 0), (74, rat2 (fun p q => szQ p && szQ q && decide (q ≠ 0)) fun p q => nm 0 (p / q)), (81, floorG), (82, fromIntO), (73, rat2 (fun p q => szQ p && szQ q) fun p q => nm 0 (p * q)), (64, rat1 (fun _ => true) tupQ)] with M := Mfl }
theorem qfE_ok : EnvOK NN Tryz.prog qfE :=
  have h : EnvOK NN Tryz.prog (VL tryT [] [(61, q61), (62, qO 0), (74, rat2 (fun p q => szQ p && szQ q && decide (q ≠ 0)) fun p q => nm 0 (p / q)), (81, floorG), (82, fromIntO), (73, rat2 (fun p q => szQ p && szQ q) fun p q => nm 0 (p * q)), (64, rat1 (fun _ => true) tupQ)]) :=
    VL_ok (TabOk.of tryT_ok) (gamC q61_ok Tryz.call61 (gamC orc86 Tryz.call62 (gamC orc90 Tryz.call74 (gamC orc_floorG Tryz.call81 (gamC orc_fromInt Tryz.call82 (gamC orc60 Tryz.call73 (gamC orc41 Tryz.call64 (gamN _ _))))))))
  { T := h.T, E := h.E, Γ := h.Γ, X := h.X }
def qfR {ρ : Type} (cont : SV -> HL -> Option ρ) (q : Rat) (c d F : Int) : Option ρ :=
  if zOk (zD F) /\ szQ (Rat.divInt (zV (zD F)) 1) = true then (if qOkB c d = true then (if (szQ (Rat.divInt (zV (zD F)) 1) && szQ (Rat.divInt c d)) = true then
    cont (tupQ (Rat.divInt (zV (zD F)) 1 * Rat.divInt c d)) [] else none) else none) else none
theorem gq41 {ρ : Type} (cont : SV -> HL -> Option ρ) (a b c d : Int) : runF qfE Ash 20 Tryz.f41 (bodyOf Tryz.f41) ρ [sQ a b, sQ c d] [] cont =
    bif !qOkB a b then cont (tupB 0 0 false) [] else bif !qOkB c d then cont (tupB 0 0 false) [] else bif bif false then true else decide (c <= 0) then cont (tupB 0 0 false) [] else
    if qOkB a b = true then (if qOkB c d = true then (if (szQ (Rat.divInt a b) && szQ (Rat.divInt c d) && decide (Rat.divInt c d ≠ 0)) = true then (if szQ (Rat.divInt a b / Rat.divInt c d) = true then
      qfR cont (Rat.divInt a b / Rat.divInt c d) c d ((Rat.divInt a b / Rat.divInt c d).num / ((Rat.divInt a b / Rat.divInt c d).den : Int)) else none) else none) else none) else none := by kernel_rfl
def okF (a b c d : Int) : Bool := qOkB a b && (qOkB c d && !decide (c <= 0))
def flr (p q : Rat) : Rat := Rat.divInt ((p / q).num / ((p / q).den : Int)) 1 * q
theorem orc_qfloor : OrcOK NN Tryz.prog 41 (opO okF flr) :=
  OrcOK.of_tale (cR_ok (A := Ash) (fuel := 20) qfE_ok rfl Tryz.func41 (by kernel_rfl)) fun ρ args H cont r hr => by
    unfold opO at hr
    split at hr
    · rename_i a b c d
      refine (gq41 cont a b c d).trans ?_
      unfold opN opD opT okF at hr
      cases h1 : qOkB a b
      · rw [h1] at hr; exact hr
      · cases h2 : qOkB c d
        · rw [h1, h2] at hr; exact hr
        · cases h3 : decide (c <= 0)
          · rw [h1, h2, h3] at hr
            have hc : 0 < c := by have := of_decide_eq_false h3; omega
            obtain ⟨p1, p2, p3, p4, _⟩ := qOkB_iff.1 h1
            obtain ⟨r1, r2, r3, r4, _⟩ := qOkB_iff.1 h2
            have hne : Rat.divInt c d ≠ 0 := fun e => by have := (divInt_ne h2).1 e; omega
            have e1 : Rat.divInt a b / Rat.divInt c d = Rat.divInt (a * d) (b * c) := by rw [Rat.div_def, Rat.inv_divInt, Rat.divInt_mul_divInt]
            have b1 : (a * d).natAbs <= 1000000000000000000 * 1000000000000000000 := by rw [Int.natAbs_mul]; exact Nat.mul_le_mul (by omega) (by omega)
            have b2 : (b * c).natAbs <= 1000000000000000000 * 1000000000000000000 := by rw [Int.natAbs_mul]; exact Nat.mul_le_mul (by omega) (by omega)
            have hbc : b * c ≠ 0 := Int.mul_ne_zero (by omega) (by omega)
            have z1 : szQ (Rat.divInt a b / Rat.divInt c d) = true := by rw [e1]; exact szQ_divI hbc (by omega) (by omega)
            have hn : (Rat.divInt a b / Rat.divInt c d).num.natAbs <= 1000000000000000000 * 1000000000000000000 := by rw [e1]; exact Nat.le_trans (divInt_le hbc).1 b1
            have hF : ((Rat.divInt a b / Rat.divInt c d).num / ((Rat.divInt a b / Rat.divInt c d).den : Int)).natAbs <= 1000000000000000000 * 1000000000000000000 := Nat.le_trans (Int.natAbs_ediv_le_natAbs _ _) hn
            rw [szQ_q h1, szQ_q h2, decide_eq_true hne, z1]
            unfold qfR
            unfold flr at hr
            generalize (Rat.divInt a b / Rat.divInt c d).num / ((Rat.divInt a b / Rat.divInt c d).den : Int) = F at *
            have w : (words F.natAbs).length <= 8 := words_length (by omega)
            have z2 : szQ (Rat.divInt F 1) = true := szQ_divI (by decide) (by omega) (by decide)
            have hz : zOk (zD F) /\ true = true := ⟨zOk_zD (by omega), rfl⟩
            have key : (if zOk (zD F) /\ true = true then cont (tupQ (Rat.divInt F 1 * Rat.divInt c d)) [] else none) = some r := by rw [if_pos hz]; exact hr
            rw [zV_zD, z2, h2, szQ_q h2]
            exact key
          · rw [h1, h2, h3] at hr; exact hr
    · contradiction
end Go.Abs
namespace Go.Abs
open Go.Proofs
set_option maxRecDepth 100000
noncomputable def spE : Env := VL tryT [] [(13, qOkO), (113, qO 1), (120, lat2 (fun p q => szQ p && szQ q) fun p q => nm 1 (p - q)), (121, lat2 (fun p q => szQ p && szQ q) fun p q => one (.int .i64 (cmpQ p q))), (122, lat1 szQ tupQ)]
theorem spE_ok : EnvOK NN Tryz.prog spE := VL_ok (TabOk.of tryT_ok) (gamC (orc64 NN) Tryz.call13 (gamC orc65 Tryz.call113 (gamC orc27 Tryz.call120 (gamC orc51 Tryz.call121 (gamC orc30 Tryz.call122 (gamN _ _))))))
theorem szQ_sub {a b c d : Int} (h1 : qOkB a b = true) (h2 : qOkB c d = true) : szQ (Rat.divInt a b - Rat.divInt c d) = true := by
  obtain ⟨p1, p2, p3, p4, _⟩ := qOkB_iff.1 h1
  obtain ⟨r1, r2, r3, r4, _⟩ := qOkB_iff.1 h2
  have e : Rat.divInt a b - Rat.divInt c d = Rat.divInt (a * d + -c * b) (b * d) := by
    rw [Rat.sub_eq_add_neg, Rat.neg_divInt, Rat.divInt_add_divInt _ _ (by omega) (by omega)]
  have b1 : (a * d).natAbs <= 1000000000000000000 * 1000000000000000000 := by rw [Int.natAbs_mul]; exact Nat.mul_le_mul (by omega) (by omega)
  have b2 : (-c * b).natAbs <= 1000000000000000000 * 1000000000000000000 := by rw [Int.natAbs_mul]; exact Nat.mul_le_mul (by omega) (by omega)
  have b3 : (b * d).natAbs <= 1000000000000000000 * 1000000000000000000 := by rw [Int.natAbs_mul]; exact Nat.mul_le_mul (by omega) (by omega)
  rw [e]
  exact szQ_divI (Int.mul_ne_zero (by omega) (by omega)) (by omega) (by omega)
theorem gq123 {ρ : Type} (cont : SV -> HL -> Option ρ) (a b c d : Int) : runF spE Ash 20 Tryz.f123 (bodyOf Tryz.f123) ρ [sQ a b, sQ c d] [] cont =
    bif !qOkB a b then cont (tupB 0 0 false) [] else bif bif false then true else !qOkB c d then cont (tupB 0 0 false) [] else
    if qOkB a b = true then (if qOkB c d = true then (if (szQ (Rat.divInt a b) && szQ (Rat.divInt c d)) = true then (if szQ (Rat.divInt a b - Rat.divInt c d) = true then
      cont (tupQ (Rat.divInt a b - Rat.divInt c d)) [] else none) else none) else none) else none := by kernel_rfl
theorem orc_ssub : OrcOK NN Tryz.prog 123 (opO ok2 mns) :=
  OrcOK.of_tale (cR_ok (A := Ash) (fuel := 20) spE_ok rfl Tryz.func123 (by kernel_rfl)) fun ρ args H cont r hr => by
    unfold opO at hr
    split at hr
    · rename_i a b c d
      refine (gq123 cont a b c d).trans ?_
      unfold opN opD opT ok2 at hr
      cases h1 : qOkB a b
      · rw [h1] at hr; exact hr
      · cases h2 : qOkB c d
        · rw [h1, h2] at hr; exact hr
        · rw [h1, h2] at hr
          rw [szQ_q h1, szQ_q h2, szQ_sub h1 h2]
          exact hr
    · contradiction
theorem gq42 {ρ : Type} (cont : SV -> HL -> Option ρ) (a b c d : Int) : runF spE Ash 20 Tryz.f42 (bodyOf Tryz.f42) ρ [sQ a b, sQ c d] [] cont =
    bif !qOkB a b then cont (one (.int .i64 2)) [] else bif bif false then true else !qOkB c d then cont (one (.int .i64 2)) [] else
    if qOkB a b = true then (if qOkB c d = true then (if (szQ (Rat.divInt a b) && szQ (Rat.divInt c d)) = true then cont (one (.int .i64 (cmpQ (Rat.divInt a b) (Rat.divInt c d)))) [] else none) else none) else none := by kernel_rfl
theorem orc_scmp : OrcOK NN Tryz.prog 42 qcmO :=
  OrcOK.of_tale (cR_ok (A := Ash) (fuel := 20) spE_ok rfl Tryz.func42 (by kernel_rfl)) fun ρ args H cont r hr => by
    unfold qcmO at hr
    split at hr
    · rename_i a b c d
      refine (gq42 cont a b c d).trans ?_
      unfold qcmV ok2 at hr
      cases h1 : qOkB a b
      · rw [h1] at hr; exact hr
      · cases h2 : qOkB c d
        · rw [h1, h2] at hr; exact hr
        · rw [h1, h2] at hr
          rw [szQ_q h1, szQ_q h2]
          exact hr
    · contradiction
noncomputable def mnE : Env := VL tryT [] [(123, opO ok2 mns)]
theorem mnE_ok : EnvOK NN Tryz.prog mnE := VL_ok (TabOk.of tryT_ok) (gamC orc_ssub Tryz.call123 (gamN _ _))
def minusO : Orc := fun ρ args H cont => match args, H with
  | [.v true [.int .i64 a, .int .i64 b], .v true [.int .i64 c, .int .i64 d]], [] => cont (sQ (opN ok2 mns a b c d) (opD ok2 mns a b c d)) []
  | _, _ => none
theorem gq40 {ρ : Type} (cont : SV -> HL -> Option ρ) (a b c d : Int) : runF mnE Ash 20 Tryz.f40 (bodyOf Tryz.f40) ρ [sQ a b, sQ c d] [] cont = cont (sQ (opN ok2 mns a b c d) (opD ok2 mns a b c d)) [] := by kernel_rfl
theorem orc_minus : OrcOK NN Tryz.prog 40 minusO :=
  OrcOK.of_tale (cR_ok (A := Ash) (fuel := 20) mnE_ok rfl Tryz.func40 (by kernel_rfl)) fun ρ args H cont r hr => by
    unfold minusO at hr
    split at hr
    · exact (gq40 cont _ _ _ _).trans hr
    · contradiction
end Go.Abs
namespace Go.Abs
open Go.Proofs
set_option maxRecDepth 100000
def Vsf : Env := { T := tranT, E := [], Γ := gamL [(209, rZO), (210, magDivO), (211, magAddO)], M := fun f => bif Nat.beq f 211 then [(0, tL), (1, tL)] else Mz f }
theorem Vsf_ok (N : NumSem) : EnvOK N Tryz.prog Vsf := { T := TT_ok, E := fun p hp => (by cases hp), Γ := gamC (orc79 N) Tryz.call209 (gamC (orc168 N) Tryz.call210 (gamC (orc169 N) Tryz.call211 (gamN N _))) }
def sfA {ρ : Type} (cont : SV -> HL -> Option ρ) (b : Bool) (k : Nat) : Option ρ :=
  bif b then cont (.v true [.bool (bif true then decide ((0 : Int) < ((words k).length : Int)) else false), .sl none tW (words k)]) [] else cont (.v true [.bool false, .sl none tW (words k)]) []
def sfB {ρ : Type} (cont : SV -> HL -> Option ρ) (p q : tZ.den) : Option ρ :=
  if canon p.2 /\ canon q.2 /\ List.length (α := Int) p.2 < 10000000000 /\ List.length (α := Int) q.2 < 10000000000 /\ 0 < val q.2 then
    (bif p.1 then (bif bif true then decide ((0 : Int) < ((words ((val p.2).toNat % (val q.2).toNat)).length : Int)) else false then
      (if (words ((val p.2).toNat / (val q.2).toNat)).length < 1000000000000 /\ List.length (α := Int) [1] < 1000000000000 /\ okW (words ((val p.2).toNat / (val q.2).toNat)) /\ okW [1] then
        sfA cont p.1 (val (words ((val p.2).toNat / (val q.2).toNat)) + val [1]).toNat else none)
      else sfA cont p.1 ((val p.2).toNat / (val q.2).toNat)) else sfA cont p.1 ((val p.2).toNat / (val q.2).toNat)) else none
theorem gq114 {ρ : Type} (cont : SV -> HL -> Option ρ) (p q : tZ.den) : runF Vsf Ash 0 Tryz.f114 (bodyOf Tryz.f114) ρ [lLD p q] [] cont = sfB cont p q := by kernel_rfl
theorem gq114s {ρ : Type} (cont : SV -> HL -> Option ρ) (n d : Int) : runF Vsf Ash 0 Tryz.f114 (bodyOf Tryz.f114) ρ [lS n d] [] cont =
    if (-9223372036854775808 <= n /\ n < 9223372036854775808) /\ -9223372036854775808 <= d /\ d < 9223372036854775808 then sfB cont (zD n) (zD d) else none := by kernel_rfl
theorem sfA_neg {ρ : Type} (cont : SV -> HL -> Option ρ) (k : Nat) : sfA cont true k = cont (zS (-(k : Int))) [] := by
  unfold sfA zS
  have h := words_nat_pos k
  have e : decide ((0 : Int) < ((words k).length : Int)) = decide (-(k : Int) < 0) := by
    have h' : decide (0 < (words k).length) = decide (k ≠ 0) := h
    have a1 : decide ((0 : Int) < ((words k).length : Int)) = decide (0 < (words k).length) := decide_eq_decide.2 (by omega)
    have a2 : decide (-(k : Int) < 0) = decide (k ≠ 0) := decide_eq_decide.2 (by omega)
    rw [a1, a2, h']
  rw [cond_true, cond_true, e, Int.natAbs_neg, Int.natAbs_natCast]
theorem sfA_pos {ρ : Type} (cont : SV -> HL -> Option ρ) (k : Nat) : sfA cont false k = cont (zS (k : Int)) [] := by
  unfold sfA zS
  rw [cond_false, decide_eq_false (show ¬ (k : Int) < 0 by omega), Int.natAbs_natCast]
theorem sfB_eq {ρ : Type} (cont : SV -> HL -> Option ρ) {n : Int} {m : Nat} (hm : 0 < m) (h1 : (words n.natAbs).length < 1000000000) (h2 : (words m).length < 1000000000) : sfB cont (zD n) (zD m) = cont (zS (n / m)) [] := by
  have v1 : (val (zD n).2).toNat = n.natAbs := by show (val (words n.natAbs)).toNat = _; rw [val_words, Int.toNat_natCast]
  have v2 : (val (zD (m : Int)).2).toNat = m := by show (val (words (m : Int).natAbs)).toNat = _; rw [val_words, Int.toNat_natCast, Int.natAbs_natCast]
  have v3 : ∀ k : Nat, (val (words k) + val [1]).toNat = k + 1 := fun k => by
    rw [val_words]
    have : val [1] = 1 := rfl
    omega
  have w3 : (words (n.natAbs / m)).length <= (words n.natAbs).length := words_mono (Nat.div_le_self ..)
  unfold sfB
  rw [v1, v2, v3, if_pos ⟨canon_words _, canon_words _, by show (words n.natAbs).length < _; omega, by show (words (m : Int).natAbs).length < _; rw [Int.natAbs_natCast]; omega, by show 0 < val (words (m : Int).natAbs); rw [val_words, Int.natAbs_natCast]; omega⟩]
  have dm := Nat.div_add_mod n.natAbs m
  have lm := Nat.mod_lt n.natAbs hm
  by_cases hn : n < 0
  · have hb : (zD n).1 = true := decide_eq_true hn
    rw [hb, cond_true, cond_true]
    by_cases hr : n.natAbs % m = 0
    · have e0 : ¬ (0 : Int) < ((words (n.natAbs % m)).length : Int) := by rw [hr]; decide
      rw [decide_eq_false e0, cond_false, sfA_neg]
      have : n / (m : Int) = -((n.natAbs / m : Nat) : Int) := by
        refine ((Int.ediv_emod_unique (show (0 : Int) < m by omega) (r := 0)).2 ⟨?_, by omega, by omega⟩).1
        rw [Int.mul_neg, <- Int.natCast_mul]
        omega
      rw [this]
    · have e0 : (0 : Int) < ((words (n.natAbs % m)).length : Int) := by
        have h' : decide (0 < (words (n.natAbs % m)).length) = decide (n.natAbs % m ≠ 0) := words_nat_pos (n.natAbs % m)
        rw [decide_eq_true hr] at h'
        have := of_decide_eq_true h'
        omega
      rw [decide_eq_true e0, cond_true, if_pos ⟨by omega, by show 1 < _; omega, words_ok _, by rw [okW_cons]; exact ⟨by omega, by simp [okW]⟩⟩, sfA_neg]
      have : n / (m : Int) = -((n.natAbs / m + 1 : Nat) : Int) := by
        refine ((Int.ediv_emod_unique (show (0 : Int) < m by omega) (r := ((m - n.natAbs % m : Nat) : Int))).2 ⟨?_, by omega, by omega⟩).1
        rw [Int.mul_neg, <- Int.natCast_mul, Nat.mul_add, Nat.mul_one]
        omega
      rw [this]
  · have hb : (zD n).1 = false := decide_eq_false hn
    rw [hb, cond_false, sfA_pos]
    have : n / (m : Int) = ((n.natAbs / m : Nat) : Int) := by
      refine ((Int.ediv_emod_unique (show (0 : Int) < m by omega) (r := ((n.natAbs % m : Nat) : Int))).2 ⟨?_, by omega, by omega⟩).1
      rw [<- Int.natCast_mul]
      omega
    rw [this]
theorem floor_low {n d : Int} (hd : 0 < d) : (Rat.divInt n d).num / ((Rat.divInt n d).den : Int) = n / d := by
  obtain ⟨k1, k2⟩ := divInt_pos n d hd
  have hg : 0 < Int.gcd n d := Int.gcd_pos_of_ne_zero_right n (by omega)
  obtain ⟨x, hx⟩ := Int.gcd_dvd_left n d
  obtain ⟨y, hy⟩ := Int.gcd_dvd_right n d
  rw [k1, k2]
  generalize Int.gcd n d = g at *
  have e1 : n / (g : Int) = x := by rw [hx, Int.mul_ediv_cancel_left _ (by omega)]
  have e2 : d / (g : Int) = y := by rw [hy, Int.mul_ediv_cancel_left _ (by omega)]
  rw [e1, e2, hx, hy, Int.mul_ediv_mul_of_pos _ _ (by omega)]
theorem orc_lfloor : OrcOK NN Tryz.prog 114 (lat1 szQ fun q => zS (q.num / q.den)) :=
  lat1_ok (runF_ok (Vsf_ok NN) mixT (A := Ash) (fuel := 0) Tryz.func114 (c := bodyOf Tryz.f114) (by kernel_rfl) (wp_loops (by kernel_rfl))) fun q s hs hg => by
    refine ⟨_, Cv.rfl' _, fun ρ cont => ?_⟩
    obtain ⟨h1, h2⟩ := szQ_ok hg
    rcases hs with ⟨n, d, rfl, hd, hn, rfl⟩ | rfl
    · obtain ⟨m, rfl⟩ := Int.eq_ofNat_of_zero_le (show 0 <= d by omega)
      have w1 := words_small (n := n.natAbs) (by omega)
      have w2 := words_small (n := m) (by omega)
      rw [gq114s, if_pos ⟨by omega, by omega⟩, sfB_eq cont (by omega) (by omega) (by omega), floor_low hd.1]
    · unfold lL
      rw [gq114, sfB_eq cont q.den_pos (by omega) (by omega)]
end Go.Abs
namespace Go.Abs
theorem cmpQ_lt {p q : Rat} : cmpQ p q < 0 ↔ p < q := by
  unfold cmpQ
  rw [Rat.lt_iff, Int.sign_neg_iff]
  omega
theorem cmpQ_gt {p q : Rat} : 0 < cmpQ p q ↔ q < p := by
  unfold cmpQ
  rw [Rat.lt_iff, Int.sign_pos_iff]
  omega
theorem sgnQ_lt {p : Rat} : Int.sign p.num < 0 ↔ p < 0 := by
  rw [Int.sign_neg_iff, Rat.lt_iff]; simp
end Go.Abs
namespace Go.Abs
def abQ (q : Rat) : Rat := if q < 0 then -q else q
def flQ (q : Rat) : Int := q.num / q.den
theorem flQ_eq (q : Rat) : flQ q = q.floor := (Rat.floor_def q).symm
def cn (q : Rat) (d : Nat) (k : Int) : Rat := Rat.divInt (flQ (q * d) + k) d
def upd (q b c : Rat) : Rat := if abQ (c - q) < abQ (b - q) then c else b
def nb (q : Rat) : Nat -> Rat
  | 0 => cn q 1 0
  | d + 1 => upd q (upd q (nb q d) (cn q (d + 1) 0)) (cn q (d + 1) 1)
theorem upd_l (q b c : Rat) : abQ (upd q b c - q) <= abQ (b - q) /\ abQ (upd q b c - q) <= abQ (c - q) := by
  unfold upd; split <;> grind
theorem nb_le (q : Rat) : ∀ m d : Nat, 1 <= d -> d <= m -> abQ (nb q m - q) <= abQ (cn q d 0 - q) /\ abQ (nb q m - q) <= abQ (cn q d 1 - q)
  | 0, d, h, h' => by omega
  | m + 1, d, h, h' => by
    have h1 := upd_l q (nb q m) (cn q (m + 1) 0)
    have h2 := upd_l q (upd q (nb q m) (cn q (m + 1) 0)) (cn q (m + 1) 1)
    show abQ (upd q (upd q (nb q m) (cn q (m + 1) 0)) (cn q (m + 1) 1) - q) <= _ /\ abQ (upd q (upd q (nb q m) (cn q (m + 1) 0)) (cn q (m + 1) 1) - q) <= _
    by_cases e : d = m + 1
    · subst e; grind
    · have h3 := nb_le q m d h (by omega)
      grind
theorem nb_is (q : Rat) : ∀ m : Nat, 1 <= m -> ∃ d k, 1 <= d /\ d <= m /\ (k = 0 \/ k = 1) /\ nb q m = cn q d k
  | 0, h => by omega
  | m + 1, h => by
    have hu : ∀ b c, upd q b c = b \/ upd q b c = c := fun b c => by unfold upd; split <;> simp
    show ∃ d k, 1 <= d /\ d <= m + 1 /\ (k = 0 \/ k = 1) /\ upd q (upd q (nb q m) (cn q (m + 1) 0)) (cn q (m + 1) 1) = cn q d k
    rcases hu (upd q (nb q m) (cn q (m + 1) 0)) (cn q (m + 1) 1) with e | e
    · rw [e]
      rcases hu (nb q m) (cn q (m + 1) 0) with e' | e'
      · rw [e']
        rcases Nat.eq_zero_or_pos m with h0 | h0
        · subst h0; exact ⟨1, 0, by omega, by omega, .inl rfl, rfl⟩
        · obtain ⟨d, k, h1, h2, h3, h4⟩ := nb_is q m h0
          exact ⟨d, k, h1, by omega, h3, h4⟩
      · rw [e']; exact ⟨m + 1, 0, by omega, by omega, .inl rfl, rfl⟩
    · rw [e]; exact ⟨m + 1, 1, by omega, by omega, .inr rfl, rfl⟩
theorem cn_exact {q : Rat} : cn q q.den 0 = q := by
  unfold cn flQ
  have : q * (q.den : Rat) = (q.num : Rat) := by
    have h : ((q.den : Int) : Rat) ≠ 0 := by have := q.den_nz; simpa using this
    have h2 : q = (q.num : Rat) / ((q.den : Int) : Rat) := by rw [<- Rat.divInt_eq_div, Rat.num_divInt_den]
    rw [<- Rat.intCast_natCast]
    generalize ((q.den : Int) : Rat) = x at *
    generalize (q.num : Rat) = y at *
    subst h2
    exact Rat.div_mul_cancel h
  rw [this]
  simp
theorem nb_exact {q : Rat} {m : Nat} (h : q.den <= m) : nb q m = q := by
  have h1 := (nb_le q m q.den q.den_pos h).1
  rw [cn_exact] at h1
  unfold abQ at h1
  grind
theorem nb_den (q : Rat) {m : Nat} (h : 1 <= m) : (nb q m).den <= m := by
  obtain ⟨d, k, h1, h2, h3, h4⟩ := nb_is q m h
  rw [h4]
  unfold cn
  rw [Rat.den_divInt, if_neg (by omega)]
  refine Nat.le_trans (Nat.div_le_self ..) ?_
  omega
theorem cn_low (q : Rat) {d : Nat} (h : 1 <= d) : cn q d 0 <= q /\ q < cn q d 1 := by
  have hd : (0 : Rat) < ((d : Int) : Rat) := by
    have : (0 : Rat) < (d : Rat) := by exact_mod_cast h
    exact this
  have h1 := Rat.floor_le (q * ((d : Int) : Rat))
  have h2 := Rat.lt_floor_add_one (q * ((d : Int) : Rat))
  unfold cn
  rw [flQ_eq, Int.add_zero, Rat.divInt_eq_div, Rat.divInt_eq_div]
  constructor
  · rw [<- Rat.not_lt, Rat.lt_div_iff hd, Rat.not_lt]
    exact h1
  · rw [Rat.lt_div_iff hd]
    exact h2
end Go.Abs
namespace Go.Abs
open Go.Proofs
set_option maxRecDepth 100000
theorem Rel.view {N : NumSem} {G : Ghost} {κ : Kap} {hf : Hp} {w : World} (h : Rel N G κ hf w) {l : Nat} {xs ys : List Atom} (hl : hf l = some (.var xs)) (hm : isMk xs = false) (hm' : isMk ys = false)
    (hv : ∀ cs, AsR N G κ xs cs -> AsR N G κ ys cs) : Rel N G κ (hf.set l (.var ys)) w where
  ghost := h.ghost
  blk := fun l' b e => by
    by_cases hll : l' = l
    · subst hll
      simp only [Hp.set, if_true, Blk.opt, Option.some.injEq] at e
      subst e
      obtain ⟨o, cs, h1, h2, h3⟩ := h.blk l' _ hl
      exact ⟨o, cs, h1, by rw [hm']; rw [hm] at h2; exact h2, hv cs h3⟩
    · simp only [Hp.set, if_neg hll] at e
      exact h.blk l' b e
  sep := fun l1 l2 e1 e2 => by
    have key : ∀ l', (hf.set l (.var ys)) l' ≠ none -> hf l' ≠ none := fun l' e => by
      by_cases hll : l' = l
      · subst hll; rw [hl]; simp
      · simpa only [Hp.set, if_neg hll] using e
    exact h.sep l1 l2 (key l1 e1) (key l2 e2)
  own := fun l' b e o v hg => by
    by_cases hll : l' = l
    · subst hll
      exact (h.own l' _ hl o v hg).elim
    · simp only [Hp.set, if_neg hll] at e
      exact h.own l' b e o v hg
def qnW (q : Rat) : Int := if smallQ q then q.num else 0
def qdW (q : Rat) : Int := if smallQ q then q.den else 0
theorem numOpen {G : Ghost} {κ : Kap} {q : Rat} {cs : List Value} (h : AsR NN G κ [.num 0 (some q)] cs) : AsR NN G κ [.int .i64 (qnW q), .int .i64 (qdW q), .undef] cs := by
  have h := h.one_inv
  unfold qnW qdW
  rcases h with ⟨hs, h⟩ | ⟨hs, b, o, vs, h, h1, h2⟩
  · rw [if_pos hs, if_pos hs, h]
    exact AsR.three rfl rfl ⟨_, rfl, plainP _⟩
  · rw [if_neg hs, if_neg hs, h]
    exact AsR.three rfl rfl ⟨_, rfl, plainP _⟩
theorem numOpenZ {G : Ghost} {κ : Kap} {cs : List Value} (h : AsR NN G κ [.num 0 none] cs) : AsR NN G κ [.int .i64 0, .int .i64 0, .nilp] cs := by
  have h : cs = numZ 0 := h.one_inv
  rw [h]
  exact AsR.three rfl rfl rfl
def xRatF (H : HL) (ev : Operand -> SV) (op : Op) : Option Eff :=
  match op with
  | .fieldAddr 80 x f => opField tranT 80 (ev x) f fun s => some { val := s }
  | .load 2 x => (match ev x with
    | .v false [.ptr l 1] => (match hget H l with
      | .var [.num 0 none] => some { val := one (.int .i64 0) }
      | .var [.num 0 (some q)] => some { val := one (.int .i64 (qdW q)) }
      | _ => none)
    | _ => none)
  | .load 78 x => (match ev x with
    | .v false [.ptr l 2] => (match hget H l with
      | .var [.num 0 none] => some { val := one .nilp }
      | _ => none)
    | _ => none)
  | _ => none
theorem opLoad_view {H : HL} {nid : Nat} {ev : Operand -> SV} {o : Oper} {t : Nat} {ax : Operand} (ho : o.op = .load t ax) {l : Nat} {xs ys : List Atom} (hl : hget H l = .var xs) (hm : isMk xs = false) (hm' : isMk ys = false)
    (hv : ∀ {G : Ghost} {κ : Kap} {cs : List Value}, AsR NN G κ xs cs -> AsR NN G κ ys cs) {s : SV} (h : opLoad tranT (hset H l (.var ys)) t (ev ax) (fun s => some s) = some s) : OpOK NN Tryz.prog (hmap H) nid ev o { val := s } := by
  obtain ⟨s', hk, hs⟩ := ld_ok (TabOk.of tranT_ok) h
  simp only [Option.some.injEq] at hk
  subst hk
  refine OpOK.pure fun {G κ hf w ac} hH hr hev => ?_
  have hfl := hH l _ (hmap_mk hl (by simp))
  obtain ⟨b, off, x, _, hrun, hx⟩ := hs (hf := hf.set l (.var ys)) (fun l' b e => by
    rw [hmap_hset] at e
    by_cases hll : l' = l
    · subst hll; simpa only [Hp.set, if_true] using e
    · simp only [Hp.set, if_neg hll] at e ⊢
      exact hH l' b e) (hr.view hfl hm hm' fun cs => hv) (hev ax)
  exact ⟨x, by simp only [execOp, ho, Sem.run_bind, hrun, Result.andThen_ok, Sem.run_pure], hx⟩
theorem opLoad_hset {T : Tab} {t : Nat} {e : TE} (htf : ∀ (f : TE -> Option SV), tfind T t f = f e) {H : HL} {l off : Nat} {xs : List Atom} : opLoad T (hset H l (.var xs)) t (one (.ptr l off)) (fun s => some s) = bif isMk xs then none else subA xs off e.size fun cs => some (.v e.agg cs) := by
  unfold opLoad
  rw [htf]
  show (match hget (hset H l (.var xs)) l with | .var xs => bif isMk xs then none else subA xs off e.size fun cs => some (SV.v e.agg cs) | _ => none) = _
  rw [hget_hset, if_pos rfl]
theorem xRatF_ok {H : HL} {nid : Nat} {ev : Operand -> SV} {o : Oper} {e : Eff} (h : xRatF H ev o.op = some e) : OpOK NN Tryz.prog (hmap H) nid ev o e := by
  unfold xRatF at h
  split at h
  · rename_i x f ho
    obtain ⟨s, hs, hok⟩ := opField_ok (N := NN) (P := Tryz.prog) (H := hmap H) (nid := nid) (TabOk.of tranT_ok) ho h
    simp only [Option.some.injEq] at hs
    subst hs
    exact hok
  · rename_i x ho
    split at h
    · rename_i l hx
      split at h
      · rename_i hl
        simp only [Option.some.injEq] at h
        subst h
        refine opLoad_view ho hl rfl (ys := [.int .i64 0, .int .i64 0, .nilp]) rfl numOpenZ ?_
        rw [hx]
        exact (opLoad_hset (e := ⟨1, false, [.int .i64 0], .int .i64⟩) fun f => rfl).trans rfl
      · rename_i q hl
        simp only [Option.some.injEq] at h
        subst h
        refine opLoad_view ho hl rfl (ys := [.int .i64 (qnW q), .int .i64 (qdW q), .undef]) rfl numOpen ?_
        rw [hx]
        exact (opLoad_hset (e := ⟨1, false, [.int .i64 0], .int .i64⟩) fun f => rfl).trans rfl
      · contradiction
    · contradiction
  · rename_i x ho
    split at h
    · rename_i l hx
      split at h
      · rename_i hl
        simp only [Option.some.injEq] at h
        subst h
        refine opLoad_view ho hl rfl (ys := [.int .i64 0, .int .i64 0, .nilp]) rfl numOpenZ ?_
        rw [hx]
        exact (opLoad_hset (e := ⟨1, false, [.nilp], .ptr⟩) fun f => rfl).trans rfl
      · contradiction
    · contradiction
  · contradiction
def xZero (ev : Operand -> SV) (op : Op) : Option Eff :=
  match op with
  | .build 80 ps => opBuild tranT 80 (ps.toList.map fun p => (p.1, ev p.2)) fun s => (match s with
    | .v true [.int .i64 0, .int .i64 0, .nilp] => some { val := .v true [.num 0 none] }
    | _ => none)
  | .build 136 ps => opBuild tranT 136 (ps.toList.map fun p => (p.1, ev p.2)) fun s => (match s with
    | .v true [.int .i64 0, .int .i64 0, .nils] => some { val := .v true [.num 1 none] }
    | _ => none)
  | _ => none
theorem zero_out {G : Ghost} {κ : Kap} {k : Nat} {a : Atom} {v w : Value} (hz : numZ k = [.int .i64 0, .int .i64 0, w]) (ha : ∀ cs, AR NN G κ a cs -> cs = [w]) (h : svR NN G κ (.v true [.int .i64 0, .int .i64 0, a]) v) : svR NN G κ (.v true [.num k none]) v := by
  obtain ⟨cs, hv, h⟩ := h
  obtain ⟨x, y, z, e, h1, h2, h3⟩ := h.three_inv
  simp only [AR] at h1 h2
  have h3 := ha _ h3
  subst h1 h2 h3
  exact ⟨cs, hv, AsR.one (by show cs.toList = numZ k; rw [e, hz]; rfl)⟩
theorem xZero_ok {H : HL} {nid : Nat} {ev : Operand -> SV} {o : Oper} {e : Eff} (h : xZero ev o.op = some e) : OpOK NN Tryz.prog (hmap H) nid ev o e := by
  unfold xZero at h
  split at h
  · rename_i ps ho
    obtain ⟨s, hs, hok⟩ := opBuild_ok (N := NN) (P := Tryz.prog) (nid := nid) (TabOk.of tranT_ok) ho h
    split at hs
    · simp only [Option.some.injEq] at hs
      subst hs
      exact OpOK.weak hok fun {G κ v} hv => zero_out (a := .nilp) (w := .pointer none) rfl (fun cs h => h) hv
    · contradiction
  · rename_i ps ho
    obtain ⟨s, hs, hok⟩ := opBuild_ok (N := NN) (P := Tryz.prog) (nid := nid) (TabOk.of tranT_ok) ho h
    split at hs
    · simp only [Option.some.injEq] at hs
      subst hs
      exact OpOK.weak hok fun {G κ v} hv => zero_out (a := .nils) (w := .slice none 0 0) rfl (fun cs h => h) hv
    · contradiction
  · contradiction
def xopF (T : Tab) (X : XT) (H : HL) (nid : Nat) (ev : Operand -> SV) (op : Op) : Option Eff :=
  match xRatF H ev op with
  | some e => some e
  | none => (match xZero ev op with
    | some e => some e
    | none => xopL T X H nid ev op)
theorem xopF_ok {T : Tab} (hT : TabOk Tryz.prog T) {X : XT} (hX : XTOK Tryz.prog X) : XOK NN Tryz.prog (xopF T X) := by
  intro H nid ev o e h
  unfold xopF at h
  split at h
  · rename_i e' he
    simp only [Option.some.injEq] at h
    subst h
    exact fun {G κ hf w a next Q} => xRatF_ok he
  · split at h
    · rename_i e' he
      simp only [Option.some.injEq] at h
      subst h
      exact fun {G κ hf w a next Q} => xZero_ok he
    · exact fun {G κ hf w a next Q} => xopL_ok hT hX h
noncomputable def abE : Env := VL tryT [] [(165, rat1 szQ fun q => one (.int .i64 (Int.sign q.num))), (95, rat1 szQ fun q => nm 0 (-q)), (103, lat1 szQ fun q => one (.int .i64 (Int.sign q.num))), (206, lat1 szQ fun q => nm 1 (-q))]
theorem abE_ok : EnvOK NN Tryz.prog abE := VL_ok (TabOk.of tryT_ok) (gamC orc88 Tryz.call165 (gamC orc84 Tryz.call95 (gamC orc71 Tryz.call103 (gamC orc67 Tryz.call206 (gamN _ _)))))
theorem gq111 {ρ : Type} (cont : SV -> HL -> Option ρ) (q : Rat) : runF abE Ash 20 Tryz.f111 (bodyOf Tryz.f111) ρ [nm 0 q] [] cont =
    if szQ q = true then bif decide (Int.sign q.num < 0) then (if szQ q = true then cont (nm 0 (-q)) [] else none) else cont (nm 0 q) [] else none := by kernel_rfl
theorem gq119 {ρ : Type} (cont : SV -> HL -> Option ρ) (q : Rat) : runF abE Ash 20 Tryz.f119 (bodyOf Tryz.f119) ρ [nm 1 q] [] cont =
    if szQ q = true then bif decide (Int.sign q.num < 0) then (if szQ q = true then cont (nm 1 (-q)) [] else none) else cont (nm 1 q) [] else none := by kernel_rfl
theorem abQ_eq {ρ : Type} (cont : SV -> HL -> Option ρ) (k : Nat) (q : Rat) (h : szQ q = true) :
    (if szQ q = true then bif decide (Int.sign q.num < 0) then (if szQ q = true then cont (nm k (-q)) [] else none) else cont (nm k q) [] else none) = cont (nm k (abQ q)) [] := by
  unfold abQ
  rw [if_pos h, if_pos h]
  by_cases h0 : q < 0
  · rw [decide_eq_true (sgnQ_lt.2 h0), if_pos h0]; rfl
  · rw [decide_eq_false (fun e => h0 (sgnQ_lt.1 e)), if_neg h0]; rfl
theorem orc_abs : OrcOK NN Tryz.prog 111 (rat1 szQ fun q => nm 0 (abQ q)) :=
  OrcOK.of_tale (cR_ok (A := Ash) (fuel := 20) abE_ok rfl Tryz.func111 (by kernel_rfl)) fun ρ args H cont r hr => by
    unfold rat1 at hr
    split at hr
    · rename_i q
      split at hr
      · rename_i hc
        exact (gq111 cont q).trans ((abQ_eq cont 0 q hc).trans hr)
      · contradiction
    · contradiction
theorem orc_labs : OrcOK NN Tryz.prog 119 (lat1 szQ fun q => nm 1 (abQ q)) :=
  OrcOK.of_tale (cR_ok (A := Ash) (fuel := 20) abE_ok rfl Tryz.func119 (by kernel_rfl)) fun ρ args H cont r hr => by
    unfold lat1 at hr
    split at hr
    · rename_i q
      split at hr
      · rename_i hc
        exact (gq119 cont q).trans ((abQ_eq cont 1 q hc).trans hr)
      · contradiction
    · contradiction
end Go.Abs
namespace Go.Abs
open Go.Proofs
set_option maxRecDepth 100000
def Mqn : Nat -> List (Nat × Ty) := fun f => bif Nat.beq f 82 then [(0, tZ)] else bif Nat.beq f 112 then [(1, tZ), (2, tZ)] else []
noncomputable def qnE : Env := { VL tryT [] [(18, qOkO), (62, qO 0), (80, intO 0), (73, rat2 (fun p q => szQ p && szQ q) fun p q => nm 0 (p * q)), (81, floorG), (82, fromIntO), (74, rat2 (fun p q => szQ p && szQ q && decide (q ≠ 0)) fun p q => nm 0 (p / q)),
  (70, rat2 (fun p q => szQ p && szQ q) fun p q => nm 0 (p - q)), (111, rat1 szQ fun q => nm 0 (abQ q)), (69, rat2 (fun p q => szQ p && szQ q) fun p q => one (.int .i64 (cmpQ p q))), (97, newIntO), (112, addO), (64, rat1 (fun _ => true) tupQ)] with M := Mqn, X := xopF tryT { xtT with vs := [] } }
theorem qnE_ok : EnvOK NN Tryz.prog qnE :=
  have h : EnvOK NN Tryz.prog (VL tryT [] [(18, qOkO), (62, qO 0), (80, intO 0), (73, rat2 (fun p q => szQ p && szQ q) fun p q => nm 0 (p * q)), (81, floorG), (82, fromIntO), (74, rat2 (fun p q => szQ p && szQ q && decide (q ≠ 0)) fun p q => nm 0 (p / q)),
  (70, rat2 (fun p q => szQ p && szQ q) fun p q => nm 0 (p - q)), (111, rat1 szQ fun q => nm 0 (abQ q)), (69, rat2 (fun p q => szQ p && szQ q) fun p q => one (.int .i64 (cmpQ p q))), (97, newIntO), (112, addO), (64, rat1 (fun _ => true) tupQ)]) :=
    VL_ok (TabOk.of tryT_ok) (gamC (orc83 NN) Tryz.call18 (gamC orc86 Tryz.call62 (gamC orc57 Tryz.call80 (gamC orc60 Tryz.call73 (gamC orc_floorG Tryz.call81 (gamC orc_fromInt Tryz.call82 (gamC orc90 Tryz.call74
      (gamC orc37 Tryz.call70 (gamC orc_abs Tryz.call111 (gamC orc58 Tryz.call69 (gamC (orc178 NN) Tryz.call97 (gamC (orc160 NN) Tryz.call112 (gamC orc41 Tryz.call64 (gamN _ _))))))))))))))
  { T := h.T, E := h.E, Γ := h.Γ, X := xopF_ok (TabOk.of tryT_ok) (xtT_ok []) }
def A38 : Ann := { head := ptOf [(6, [1, 4, 6, 7, 8, 9], []), (10, [1, 4, 6, 7, 8, 9, 10, 11], [])], out := ptOf [(6, [4, 7], []), (10, [1, 4, 6, 7, 8, 9], [])], ips := fun i => bif Nat.beq i 10 then [(10, tZ)] else [], shut := true }
def σ38 (m d : Int) (q : Rat) (b g : Option Rat) : St := ⟨[(1, one (.int .i64 m)), (4, one (.ptr 0 0)), (6, one (.ptr 1 0)), (7, one (.ptr 2 0)), (8, one (.ptr 3 0)), (9, one (.int .i64 d))], [.var [.int .i64 0, .int .i64 0], .var [.num 0 (some q)], .var [.num 0 b], .var [.num 0 g]]⟩
def σ38i (m d : Int) (q : Rat) (b g : Option Rat) (x : tZ.den) (k : Int) : St := ⟨[(1, one (.int .i64 m)), (4, one (.ptr 0 0)), (6, one (.ptr 1 0)), (7, one (.ptr 2 0)), (8, one (.ptr 3 0)), (9, one (.int .i64 d)), (10, one (.ip tZ x 0)), (11, one (.int .i64 k))], [.var [.int .i64 0, .int .i64 0], .var [.num 0 (some q)], .var [.num 0 b], .var [.num 0 g]]⟩
def updo (q : Rat) (b : Option Rat) (c : Rat) : Rat := match b with
  | none => c
  | some b => upd q b c
def nx (q : Rat) (b : Option Rat) (F d : Int) : Rat := upd q (updo q b (Rat.divInt F d)) (Rat.divInt (F + 1) d)
def okB (q : Rat) : Option Rat -> Option Rat -> Bool
  | none, none => true
  | some b, some g => decide (smallQ b) && decide (g = abQ (b - q))
  | _, _ => false
def cF (F d : Int) : Rat := Rat.divInt F 1 / Rat.divInt d 1
def endI {ρ : Type} (go : St -> Option ρ) (m d k : Int) (q b g : Rat) (x : tZ.den) : Option ρ :=
  if zOk x /\ zOk (zD 1) /\ true = true then go (σ38i m d q (some b) (some g) (zD (zV x + zV (zD 1))) (IntKind.i64.wrap (k + 1))) else none
theorem turnIn {ρ : Type} (K : Exit -> St -> Option ρ) (go : St -> Option ρ) (q : Rat) (m d k : Int) (x : tZ.den) : turnF qnE A38 77 0 0 (loopAt Tryz.f38 1) K go (σ38i m d q none none x k) =
    bif decide (k < 2) then (if zOk x /\ szQ (Rat.divInt (zV x) 1) = true then (if -9223372036854775808 < d /\ d < 9223372036854775808 then (if (szQ (Rat.divInt (zV x) 1) && szQ (Rat.divInt d 1) && decide (Rat.divInt d 1 ≠ 0)) = true then
      (if (szQ (cF (zV x) d) && szQ q) = true then (if szQ (cF (zV x) d - q) = true then endI go m d k q (cF (zV x) d) (abQ (cF (zV x) d - q)) x else none) else none) else none) else none) else none)
    else K (.exit 2) (σ38 m d q none none) := by kernel_rfl
theorem turnIs {ρ : Type} (K : Exit -> St -> Option ρ) (go : St -> Option ρ) (q b g : Rat) (m d k : Int) (x : tZ.den) : turnF qnE A38 77 0 0 (loopAt Tryz.f38 1) K go (σ38i m d q (some b) (some g) x k) =
    bif decide (k < 2) then (if zOk x /\ szQ (Rat.divInt (zV x) 1) = true then (if -9223372036854775808 < d /\ d < 9223372036854775808 then (if (szQ (Rat.divInt (zV x) 1) && szQ (Rat.divInt d 1) && decide (Rat.divInt d 1 ≠ 0)) = true then
      (if (szQ (cF (zV x) d) && szQ q) = true then (if szQ (cF (zV x) d - q) = true then (bif qdW b == 0 then none else (if (szQ (abQ (cF (zV x) d - q)) && szQ g) = true then
        (bif bif false then true else decide (cmpQ (abQ (cF (zV x) d - q)) g < 0) then endI go m d k q (cF (zV x) d) (abQ (cF (zV x) d - q)) x else endI go m d k q b g x) else none)) else none) else none) else none) else none) else none)
    else K (.exit 2) (σ38 m d q (some b) (some g)) := by kernel_rfl
end Go.Abs
namespace Go.Abs
open Go.Proofs
set_option maxRecDepth 100000
def inS (q : Rat) (F d : Int) : Prop := (q.num.natAbs <= 1000000000000000000 /\ q.den <= 1000000000000000000) /\ F.natAbs <= 10000000000000000000000 /\ 1 <= d /\ d <= 2000
theorem divInt_num1 {d : Int} (hd : 1 <= d) : Rat.divInt d 1 ≠ 0 := by
  intro h
  have := (divInt_pos d 1 (by decide)).1
  rw [h, Int.gcd_one] at this
  simp at this
  omega
theorem cF_eq {F d : Int} : cF F d = Rat.divInt F d := by
  unfold cF
  rw [Rat.div_def, Rat.inv_divInt, Rat.divInt_mul_divInt, Int.mul_one, Int.one_mul]
theorem szQ_ab {q : Rat} (h : szQ q = true) : szQ (abQ q) = true := by
  unfold abQ
  split
  · unfold szQ at h ⊢
    rw [show (-q).num = -q.num from rfl, Int.natAbs_neg, show (-q).den = q.den from rfl]
    exact h
  · exact h
theorem sub_div {q : Rat} {n d : Int} (hd : d ≠ 0) : Rat.divInt n d - q = Rat.divInt (n * q.den + -q.num * d) (d * q.den) := by
  have hq : (q.den : Int) ≠ 0 := by have := q.den_pos; omega
  have e : q = Rat.divInt q.num q.den := (Rat.num_divInt_den q).symm
  have e2 : Rat.divInt n d - q = Rat.divInt n d - Rat.divInt q.num q.den := by rw [<- e]
  rw [e2, Rat.sub_eq_add_neg, Rat.neg_divInt, Rat.divInt_add_divInt _ _ hd hq]
theorem szS3 {q : Rat} {F d : Int} (h : inS q F d) : zOk (zD F) /\ szQ (Rat.divInt F 1) = true /\ szQ (Rat.divInt d 1) = true /\ szQ (Rat.divInt F d) = true /\ szQ q = true /\ szQ (Rat.divInt F d - q) = true := by
  obtain ⟨⟨h1, h2⟩, h3, h4, h5⟩ := h
  have w : (words F.natAbs).length <= 8 := words_length (by omega)
  have hq := q.den_pos
  refine ⟨zOk_zD (by omega), szQ_divI (by decide) (by omega) (by decide), szQ_divI (by decide) (by omega) (by decide), szQ_divI (by omega) (by omega) (by omega), szQ_of ⟨by omega, by omega⟩, ?_⟩
  have b1 : (F * (q.den : Int)).natAbs <= 10000000000000000000000 * 1000000000000000000 := by rw [Int.natAbs_mul]; exact Nat.mul_le_mul (by omega) (by omega)
  have b2 : (-q.num * d).natAbs <= 1000000000000000000 * 2000 := by rw [Int.natAbs_mul]; exact Nat.mul_le_mul (by omega) (by omega)
  have b3 : (d * (q.den : Int)).natAbs <= 2000 * 1000000000000000000 := by rw [Int.natAbs_mul]; exact Nat.mul_le_mul (by omega) (by omega)
  rw [sub_div (by omega)]
  exact szQ_divI (Int.mul_ne_zero (by omega) (by omega)) (by omega) (by omega)
theorem szQ_small {b : Rat} (h : smallQ b) : szQ b = true := by
  obtain ⟨h1, h2⟩ := h
  exact szQ_of ⟨by omega, by omega⟩
theorem szQ_subS {q b : Rat} (hq : q.num.natAbs <= 1000000000000000000 /\ q.den <= 1000000000000000000) (h : smallQ b) : szQ (b - q) = true := by
  obtain ⟨h1, h2⟩ := h
  have e : b = Rat.divInt b.num b.den := (Rat.num_divInt_den b).symm
  have hb := b.den_pos
  have hq' := q.den_pos
  have e2 : b - q = Rat.divInt b.num b.den - q := by rw [<- e]
  rw [e2, sub_div (by omega)]
  have b1 : (b.num * (q.den : Int)).natAbs <= 9223372036854775808 * 1000000000000000000 := by rw [Int.natAbs_mul]; exact Nat.mul_le_mul (by omega) (by omega)
  have b2 : (-q.num * (b.den : Int)).natAbs <= 1000000000000000000 * 9223372036854775808 := by rw [Int.natAbs_mul]; exact Nat.mul_le_mul (by omega) (by omega)
  have b3 : ((b.den : Int) * (q.den : Int)).natAbs <= 9223372036854775808 * 1000000000000000000 := by rw [Int.natAbs_mul]; exact Nat.mul_le_mul (by omega) (by omega)
  exact szQ_divI (Int.mul_ne_zero (by omega) (by omega)) (by omega) (by omega)
theorem qdW_small {b : Rat} (h : smallQ b) : (qdW b == 0) = false := by
  unfold qdW
  rw [if_pos h, beq_eq_false_iff_ne]
  have := b.den_pos
  omega
section
variable {ρ : Type} (K : Exit -> St -> Option ρ) (go : St -> Option ρ)
theorem stepI {q : Rat} {m d F k : Int} {b g : Option Rat} (h : inS q F d) (hb : okB q b g = true) (hk : k < 2 /\ 0 <= k) :
    turnF qnE A38 77 0 0 (loopAt Tryz.f38 1) K go (σ38i m d q b g (zD F) k) = go (σ38i m d q (some (updo q b (Rat.divInt F d))) (some (abQ (updo q b (Rat.divInt F d) - q))) (zD (F + 1)) (k + 1)) := by
  obtain ⟨z1, z2, z3, z4, z5, z6⟩ := szS3 h
  obtain ⟨⟨h1, h2⟩, h3, h4, h5⟩ := h
  have zi : zOk (zD 1) := zOk_zD (by decide)
  have hw : IntKind.i64.wrap (k + 1) = k + 1 := by rw [IntKind.wrap_i64]; omega
  have he : ∀ b g : Rat, endI go m d k q b g (zD F) = go (σ38i m d q (some b) (some g) (zD (F + 1)) (k + 1)) := fun b g => by
    unfold endI
    rw [if_pos ⟨z1, zi, rfl⟩, zV_zD, zV_zD, hw]
  have c3 : (szQ (Rat.divInt F 1) && szQ (Rat.divInt d 1) && decide (Rat.divInt d 1 ≠ 0)) = true := by rw [z2, z3, decide_eq_true (divInt_num1 h4)]; rfl
  have c4 : (szQ (Rat.divInt F d) && szQ q) = true := by rw [z4, z5]; rfl
  match b, g, hb with
  | none, none, _ =>
    rw [turnIn, zV_zD, cF_eq, decide_eq_true hk.1, cond_true, if_pos ⟨z1, z2⟩, if_pos ⟨by omega, by omega⟩, if_pos c3, if_pos c4, if_pos z6, he]
    rfl
  | some b, some g, hb =>
    unfold okB at hb
    rw [Bool.and_eq_true, decide_eq_true_eq, decide_eq_true_eq] at hb
    obtain ⟨s1, s2⟩ := hb
    subst s2
    have c5 : (szQ (abQ (Rat.divInt F d - q)) && szQ (abQ (b - q))) = true := by rw [szQ_ab z6, szQ_ab (szQ_subS ⟨h1, h2⟩ s1)]; rfl
    rw [turnIs, zV_zD, cF_eq, decide_eq_true hk.1, cond_true, if_pos ⟨z1, z2⟩, if_pos ⟨by omega, by omega⟩, if_pos c3, if_pos c4, if_pos z6, qdW_small s1, cond_false, if_pos c5, cond_false, he, he]
    unfold updo upd
    by_cases hc : abQ (Rat.divInt F d - q) < abQ (b - q)
    · rw [decide_eq_true (cmpQ_lt.2 hc), cond_true]
      simp only [if_pos hc]
    · rw [decide_eq_false (fun e => hc (cmpQ_lt.1 e)), cond_false]
      simp only [if_neg hc]
end
def gI (q : Rat) (F d : Int) (b g : Option Rat) : Bool := decide ((q.num.natAbs <= 1000000000000000000 /\ q.den <= 1000000000000000000) /\ F.natAbs < 10000000000000000000000 /\ 1 <= d /\ d <= 2000) && (okB q b g && decide (smallQ (updo q b (Rat.divInt F d))))
noncomputable def S38 : Sum := fun n0 ρ σ K => match n0, σ with
  | 0, ⟨[(1, .v false [.int .i64 m]), (4, .v false [.ptr 0 0]), (6, .v false [.ptr 1 0]), (7, .v false [.ptr 2 0]), (8, .v false [.ptr 3 0]), (9, .v false [.int .i64 d]), (10, .v false [.ip (.pair .bool (.list (.int .u32))) x 0]), (11, .v false [.int .i64 k])], [.var [.int .i64 r0, .int .i64 r1], .var [.num 0 (some q)], .var [.num 0 b], .var [.num 0 g]]⟩ =>
    if (k = 0 /\ r0 = 0 /\ r1 = 0) /\ zOk x /\ gI q (zV x) d b g = true then K (.exit 2) (σ38 m d q (some (nx q b (zV x) d)) (some (abQ (nx q b (zV x) d - q)))) else none
  | _, _ => none
theorem sum38 : SumOK NN Tryz.prog 77 (loopAt Tryz.f38 1) S38 :=
  SumOK.of_turns qnE_ok mixT (A := A38) (SumsOK.none fun _ => rfl) fun n0 ρ σ K r h => by
    unfold S38 at h
    split at h
    · rename_i m d x k r0 r1 q b g
      split at h
      · rename_i hc
        obtain ⟨⟨rfl, rfl, rfl⟩, hz, hg⟩ := hc
        unfold gI at hg
        rw [Bool.and_eq_true, Bool.and_eq_true, decide_eq_true_eq, decide_eq_true_eq] at hg
        obtain ⟨⟨g1, g2, g3, g4⟩, g5, g6⟩ := hg
        obtain ⟨hx, _⟩ := hz
        change tZ.den at x
        generalize zV x = F at *
        subst hx
        refine ⟨3, Eq.trans ?_ h⟩
        have s1 := stepI K (itF (turnF qnE A38 77 0 0 (loopAt Tryz.f38 1) K) (fun _ => none) 2) (m := m) (k := 0) (q := q) (F := F) (d := d) (b := b) (g := g) ⟨g1, by omega, g3, g4⟩ g5 (by omega)
        have s2 := stepI K (itF (turnF qnE A38 77 0 0 (loopAt Tryz.f38 1) K) (fun _ => none) 1) (m := m) (k := 0 + 1) (q := q) (F := F + 1) (d := d) (b := some (updo q b (Rat.divInt F d))) (g := some (abQ (updo q b (Rat.divInt F d) - q))) ⟨g1, by omega, g3, g4⟩
          (by show (decide (smallQ (updo q b (Rat.divInt F d))) && decide (abQ (updo q b (Rat.divInt F d) - q) = abQ (updo q b (Rat.divInt F d) - q))) = true; rw [decide_eq_true g6, decide_eq_true rfl]; rfl) (by omega)
        refine Eq.trans (itF_succ ..) (s1.trans ((itF_succ ..).trans (s2.trans ((itF_succ ..).trans ?_))))
        rw [turnIs]
        rfl
      · contradiction
    · contradiction
end Go.Abs
namespace Go.Abs
open Go.Proofs
set_option maxRecDepth 100000
def bigS (q : Rat) : Prop := q.num.natAbs <= 1000000000000000000 /\ q.den <= 1000000000000000000
theorem divInt_nat1 (d : Nat) : Rat.divInt (d : Int) 1 = (d : Rat) := by
  rw [Rat.divInt_eq_div, Rat.intCast_natCast]
  have : ((1 : Int) : Rat) = 1 := rfl
  rw [this]
  grind
theorem flQ_mul (q : Rat) (d : Nat) : flQ (q * d) = q.num * d / q.den := by
  have e : q * (d : Rat) = Rat.divInt (q.num * d) q.den := by
    have h1 : q = Rat.divInt q.num q.den := (Rat.num_divInt_den q).symm
    have h2 : (d : Rat) = Rat.divInt d 1 := (divInt_nat1 d).symm
    have h3 : q * (d : Rat) = Rat.divInt q.num q.den * Rat.divInt d 1 := by rw [<- h1, <- h2]
    rw [h3, Rat.divInt_mul_divInt, Int.mul_one]
  have hd := q.den_pos
  rw [e]
  exact floor_low (by omega)
theorem cn_small {q : Rat} (h : bigS q) {d : Nat} {k : Int} (h1 : 1 <= d) (h2 : d <= q.den) (hk : k = 0 \/ k = 1) : smallQ (cn q d k) := by
  obtain ⟨a1, a2⟩ := h
  unfold cn
  rw [flQ_mul]
  have hq := q.den_pos
  have hF : -(q.num.natAbs : Int) <= q.num * d / q.den /\ q.num * d / q.den <= q.num.natAbs := by
    have hA : (q.num.natAbs : Int) * d <= (q.num.natAbs : Int) * q.den := Int.mul_le_mul_of_nonneg_left (by omega) (by omega)
    have hB : q.num * d <= (q.num.natAbs : Int) * d := Int.mul_le_mul_of_nonneg_right (by omega) (by omega)
    have hC : -(q.num.natAbs : Int) * d <= q.num * d := Int.mul_le_mul_of_nonneg_right (by omega) (by omega)
    have hD : -(q.num.natAbs : Int) * d = -((q.num.natAbs : Int) * d) := Int.neg_mul ..
    have hE : -(q.num.natAbs : Int) * q.den = -((q.num.natAbs : Int) * q.den) := Int.neg_mul ..
    refine ⟨Int.le_ediv_of_mul_le (by omega) (by omega), Int.ediv_le_of_le_mul (by omega) (by omega)⟩
  have hl := divInt_pos_le (n := q.num * d / q.den + k) (d := (d : Int)) (by omega)
  refine ⟨⟨?_, ?_⟩, ?_⟩ <;> omega
def isC (q b : Rat) : Prop := ∃ d k, 1 <= d /\ d <= q.den /\ (k = 0 \/ k = 1) /\ b = cn q d k
theorem isC_small {q b : Rat} (h : bigS q) (hb : isC q b) : smallQ b := by
  obtain ⟨d, k, h1, h2, h3, rfl⟩ := hb
  exact cn_small h h1 h2 h3
theorem isC_upd {q b : Rat} {d : Nat} {k : Int} (hb : isC q b) (h1 : 1 <= d) (hk : k = 0 \/ k = 1) (hx : q.den < d -> b = q) : isC q (upd q b (cn q d k)) := by
  by_cases h2 : d <= q.den
  · unfold upd
    split
    · exact ⟨d, k, h1, h2, hk, rfl⟩
    · exact hb
  · have : upd q b (cn q d k) = b := by
      unfold upd
      rw [if_neg]
      rw [hx (by omega)]
      unfold abQ
      grind
    rw [this]
    exact hb
theorem upd_q {q b c : Rat} (h : b = q) : upd q b c = q := by
  unfold upd
  rw [if_neg, h]
  rw [h]
  unfold abQ
  grind
theorem nb_C {q : Rat} : ∀ m : Nat, isC q (nb q m)
  | 0 => ⟨1, 0, by omega, q.den_pos, .inl rfl, rfl⟩
  | m + 1 => by
    have h0 := nb_C (q := q) m
    have hx : q.den < m + 1 -> nb q m = q := fun h => nb_exact (by omega)
    exact isC_upd (isC_upd h0 (by omega) (.inl rfl) hx) (by omega) (.inr rfl) fun h => upd_q (hx h)
theorem nb_C1 {q : Rat} (m : Nat) : isC q (upd q (nb q m) (cn q (m + 1) 0)) :=
  isC_upd (nb_C m) (by omega) (.inl rfl) fun h => nb_exact (by omega)
noncomputable def A38s : Ann := { A38 with sum := fun i => bif Nat.beq i 10 then some S38 else none }
noncomputable def inO {ρ : Type} (go : St -> Option ρ) (m d : Int) (q : Rat) (b g : Option Rat) (F : Int) : Option ρ :=
  if ((0 : Int) = 0 /\ (0 : Int) = 0 /\ (0 : Int) = 0) /\ zOk (zD F) /\ gI q (zV (zD F)) d b g = true then go (σ38 m (IntKind.i64.wrap (d + 1)) q (some (nx q b (zV (zD F)) d)) (some (abQ (nx q b (zV (zD F)) d - q)))) else none
def out38 (b : Option Rat) : St := ⟨[(4, one (.ptr 0 0)), (7, one (.ptr 1 0))], [.var [.int .i64 0, .int .i64 0], .var [.num 0 b]]⟩
theorem turnN38 {ρ : Type} (K : Exit -> St -> Option ρ) (go : St -> Option ρ) (m d : Int) (q : Rat) (b g : Option Rat) : turnF qnE A38s 77 0 0 (loopAt Tryz.f38 0) K go (σ38 m d q b g) =
    bif decide (d <= m) then (if -9223372036854775808 < d /\ d < 9223372036854775808 then (if (szQ q && szQ (Rat.divInt d 1)) = true then (if szQ (q * Rat.divInt d 1) = true then
      inO go m d q b g ((q * Rat.divInt d 1).num / ((q * Rat.divInt d 1).den : Int)) else none) else none) else none) else K (.exit 0) (out38 b) := by kernel_rfl
theorem mul_nat (q : Rat) (d : Nat) : q * Rat.divInt d 1 = q * (d : Rat) := by rw [divInt_nat1]
theorem flq_le {q : Rat} (h : bigS q) {d : Nat} (hd : d <= 2000) : (flQ (q * d)).natAbs <= 1000000000000000000 * 2000 := by
  rw [flQ_mul]
  refine Nat.le_trans (Int.natAbs_ediv_le_natAbs _ _) ?_
  rw [Int.natAbs_mul]
  exact Nat.mul_le_mul h.1 (by omega)
section
variable {ρ : Type} (K : Exit -> St -> Option ρ) (go : St -> Option ρ)
theorem stepO {q : Rat} (hq : bigS q) {m : Int} {d : Nat} {b g : Option Rat} (h1 : 1 <= d) (h2 : d <= 2000) (hm : (d : Int) <= m) (hb : okB q b g = true) (hs : smallQ (updo q b (cn q d 0))) :
    turnF qnE A38s 77 0 0 (loopAt Tryz.f38 0) K go (σ38 m d q b g) = go (σ38 m ((d + 1 : Nat) : Int) q (some (upd q (updo q b (cn q d 0)) (cn q d 1))) (some (abQ (upd q (updo q b (cn q d 0)) (cn q d 1) - q)))) := by
  have hF := flq_le hq h2
  have hq' := hq
  obtain ⟨a1, a2⟩ := hq
  have z5 : szQ q = true := szQ_of ⟨by omega, by omega⟩
  have z3 : szQ (Rat.divInt (d : Int) 1) = true := szQ_divI (by decide) (by omega) (by decide)
  have e : q * Rat.divInt d 1 = Rat.divInt (q.num * d) q.den := by
    have h1 : q = Rat.divInt q.num q.den := (Rat.num_divInt_den q).symm
    have h3 : q * Rat.divInt d 1 = Rat.divInt q.num q.den * Rat.divInt d 1 := by rw [<- h1]
    rw [h3, Rat.divInt_mul_divInt, Int.mul_one]
  have b1 : (q.num * (d : Int)).natAbs <= 1000000000000000000 * 2000 := by rw [Int.natAbs_mul]; exact Nat.mul_le_mul a1 (by omega)
  have hqd := q.den_pos
  have z6 : szQ (q * Rat.divInt d 1) = true := by rw [e]; exact szQ_divI (by omega) (by omega) (by omega)
  rw [turnN38, decide_eq_true hm, cond_true, if_pos ⟨by omega, by omega⟩, if_pos (by rw [z5, z3]; rfl), if_pos z6, mul_nat]
  have hw : (words (flQ (q * (d : Rat))).natAbs).length <= 8 := words_length (by omega)
  have hG : gI q (flQ (q * (d : Rat))) d b g = true := by
    unfold gI
    rw [decide_eq_true ⟨⟨a1, a2⟩, by omega, by omega, by omega⟩, hb]
    have : cn q d 0 = Rat.divInt (flQ (q * (d : Rat))) d := by unfold cn; rw [Int.add_zero]
    rw [<- this, decide_eq_true hs]
    rfl
  show inO go m d q b g (flQ (q * (d : Rat))) = _
  unfold inO
  rw [zV_zD, if_pos ⟨⟨rfl, rfl, rfl⟩, zOk_zD (by omega), hG⟩]
  have hw' : IntKind.i64.wrap ((d : Int) + 1) = ((d + 1 : Nat) : Int) := by rw [IntKind.wrap_i64]; omega
  have hn : nx q b (flQ (q * (d : Rat))) d = upd q (updo q b (cn q d 0)) (cn q d 1) := by
    unfold nx cn
    rw [Int.add_zero]
  rw [hw', hn]
theorem loopO {q : Rat} (hq : bigS q) {m : Nat} (hm : m <= 2000) : ∀ (n d : Nat), d + n = m -> 1 <= d ->
    itF (turnF qnE A38s 77 0 0 (loopAt Tryz.f38 0) K) (fun _ => none) (n + 1) (σ38 m ((d + 1 : Nat) : Int) q (some (nb q d)) (some (abQ (nb q d - q)))) = K (.exit 0) (out38 (some (nb q m)))
  | 0, d, e, h1 => by
    have : d = m := by omega
    subst this
    rw [itF_succ, turnN38, decide_eq_false (by omega), cond_false]
  | n + 1, d, e, h1 => by
    rw [itF_succ, stepO K _ hq (by omega) (by omega) (by omega) (by
      show (decide (smallQ (nb q d)) && decide (abQ (nb q d - q) = abQ (nb q d - q))) = true
      rw [decide_eq_true (isC_small hq (nb_C d)), decide_eq_true rfl]; rfl) (isC_small hq (nb_C1 d))]
    exact loopO hq hm n (d + 1) (by omega) (by omega)
theorem loopA {q : Rat} (hq : bigS q) {m : Nat} (hm : 1 <= m /\ m <= 2000) :
    itF (turnF qnE A38s 77 0 0 (loopAt Tryz.f38 0) K) (fun _ => none) (m + 1) (σ38 m 1 q none none) = K (.exit 0) (out38 (some (nb q m))) := by
  obtain ⟨n, rfl⟩ : ∃ n, m = n + 1 := ⟨m - 1, by omega⟩
  have h := stepO K (itF (turnF qnE A38s 77 0 0 (loopAt Tryz.f38 0) K) (fun _ => none) (n + 1)) hq (m := ((n + 1 : Nat) : Int)) (d := 1) (b := none) (g := none) (by omega) (by omega) (by omega) rfl (cn_small hq (by omega) q.den_pos (.inl rfl))
  rw [itF_succ]
  refine Eq.trans h ?_
  have e : upd q (updo q none (cn q 1 0)) (cn q 1 1) = nb q 1 := by
    show _ = upd q (upd q (cn q 1 0) (cn q 1 0)) (cn q 1 1)
    have : upd q (cn q 1 0) (cn q 1 0) = cn q 1 0 := by unfold upd; split <;> rfl
    rw [this]
    rfl
  rw [e]
  exact loopO K hq hm.2 n 1 (by omega) (by omega)
end
noncomputable def S38o : Sum := fun n0 ρ σ K => match n0, σ with
  | 0, ⟨[(1, .v false [.int .i64 m]), (4, .v false [.ptr 0 0]), (6, .v false [.ptr 1 0]), (7, .v false [.ptr 2 0]), (8, .v false [.ptr 3 0]), (9, .v false [.int .i64 d])], [.var [.int .i64 r0, .int .i64 r1], .var [.num 0 (some q)], .var [.num 0 none], .var [.num 0 none]]⟩ =>
    if (d = 1 /\ r0 = 0 /\ r1 = 0) /\ (1 <= m /\ m <= 2000) /\ q.num.natAbs <= 1000000000000000000 /\ q.den <= 1000000000000000000 then K (.exit 0) (out38 (some (nb q m.toNat))) else none
  | _, _ => none
theorem sum38o : SumOK NN Tryz.prog 77 (loopAt Tryz.f38 0) S38o :=
  SumOK.of_turns qnE_ok mixT (A := A38s) (SumsOK.ofL (ls := [loopAt Tryz.f38 1]) (by kernel_rfl) ⟨sumL1 (by kernel_rfl) sum38, trivial⟩) fun n0 ρ σ K r h => by
    unfold S38o at h
    split at h
    · rename_i m d r0 r1 q
      split at h
      · rename_i hc
        obtain ⟨⟨rfl, rfl, rfl⟩, ⟨h1, h2⟩, hq⟩ := hc
        obtain ⟨M, rfl⟩ := Int.eq_ofNat_of_zero_le (show 0 <= m by omega)
        rw [Int.toNat_natCast] at h
        exact ⟨M + 1, (loopA K hq ⟨by omega, by omega⟩).trans h⟩
      · contradiction
    · contradiction
noncomputable def A38t : Ann := { A38s with sum := fun i => bif Nat.beq i 6 then some S38o else bif Nat.beq i 10 then some S38 else none }
noncomputable def neR {ρ : Type} (cont : SV -> HL -> Option ρ) (q : Rat) (m : Int) : Option ρ :=
  if ((1 : Int) = 1 /\ (0 : Int) = 0 /\ (0 : Int) = 0) /\ (1 <= m /\ m <= 2000) /\ q.num.natAbs <= 1000000000000000000 /\ q.den <= 1000000000000000000 then cont (tupQ (nb q m.toNat)) [] else none
theorem gq38 {ρ : Type} (cont : SV -> HL -> Option ρ) (a b m : Int) : runF qnE A38t 0 Tryz.f38 (bodyOf Tryz.f38) ρ [sQ a b, one (.int .i64 m)] [] cont =
    bif !qOkB a b then cont (tupB 0 0 false) [] else bif bif false then true else decide (m < 1) then cont (tupB 0 0 false) [] else bif bif false then true else decide (2000 < m) then cont (tupB 0 0 false) [] else
    if qOkB a b = true then neR cont (Rat.divInt a b) m else none := by kernel_rfl
def neOk (a b m : Int) : Bool := qOkB a b && (!decide (m < 1) && !decide (2000 < m))
noncomputable def neV (a b m : Int) : Rat := nb (Rat.divInt a b) m.toNat
noncomputable def neN (a b m : Int) : Int := bif neOk a b m then qNum (neV a b m) else 0
noncomputable def neD (a b m : Int) : Int := bif neOk a b m then qDen (neV a b m) else 0
noncomputable def neT (a b m : Int) : Bool := bif neOk a b m then qFit (neV a b m) else false
noncomputable def nearO : Orc := fun ρ args H cont => match args, H with
  | [.v true [.int .i64 a, .int .i64 b], .v false [.int .i64 m]], [] => cont (tupB (neN a b m) (neD a b m) (neT a b m)) []
  | _, _ => none
theorem bigS_q {a b : Int} (h : qOkB a b = true) : bigS (Rat.divInt a b) := by
  obtain ⟨h1, h2, h3, h4, h5⟩ := qOkB_iff.1 h
  have := divInt_le (n := a) (d := b) (by omega)
  exact ⟨by omega, by omega⟩
theorem neR_eq {ρ : Type} {cont : SV -> HL -> Option ρ} {a b m : Int} {X Y : Option ρ} (hX : X = bif !qOkB a b then cont (tupB 0 0 false) [] else bif bif false then true else decide (m < 1) then cont (tupB 0 0 false) [] else bif bif false then true else decide (2000 < m) then cont (tupB 0 0 false) [] else Y)
    (hY : qOkB a b = true -> 1 <= m -> m <= 2000 -> Y = cont (tupQ (nb (Rat.divInt a b) m.toNat)) []) {r : ρ} (hr : cont (tupB (neN a b m) (neD a b m) (neT a b m)) [] = some r) : X = some r := by
  rw [hX]
  unfold neN neD neT neOk at hr
  cases h1 : qOkB a b
  · rw [h1] at hr; exact hr
  · cases h2 : decide (m < 1)
    · cases h3 : decide (2000 < m)
      · rw [h1, h2, h3] at hr
        have k2 := of_decide_eq_false h2
        have k3 := of_decide_eq_false h3
        exact (hY h1 (by omega) (by omega)).trans hr
      · rw [h1, h2, h3] at hr; exact hr
    · rw [h1, h2] at hr; exact hr
theorem orc_nearI : OrcOK NN Tryz.prog 38 nearO :=
  OrcOK.of_tale (runF_ok qnE_ok mixT (A := A38t) (fuel := 0) Tryz.func38 (c := bodyOf Tryz.f38) (by kernel_rfl)
    (SumsOK.ofL (ls := [loopAt Tryz.f38 0, loopAt Tryz.f38 1]) (by kernel_rfl) ⟨sumL1 (by kernel_rfl) sum38o, sumL1 (by kernel_rfl) sum38, trivial⟩)) fun ρ args H cont r h => by
    unfold nearO at h
    split at h
    · rename_i a b m
      refine neR_eq (gq38 cont a b m) (fun h1 h2 h3 => ?_) h
      obtain ⟨b1, b2⟩ := bigS_q h1
      rw [if_pos h1]
      unfold neR
      rw [if_pos ⟨⟨rfl, rfl, rfl⟩, ⟨h2, h3⟩, b1, b2⟩]
    · contradiction
end Go.Abs
namespace Go.Abs
open Go.Proofs
set_option maxRecDepth 100000
noncomputable def snE : Env := { VL tranT [] [(13, qOkO), (113, qO 1), (116, intO 1), (115, lat2 (fun p q => szQ p && szQ q) fun p q => nm 1 (p * q)), (114, lat1 szQ fun q => zS (q.num / q.den)), (85, zOfO), (118, zz2 (fun _ _ => true) fun n m => zS (n + m)), (117, rBigN),
  (120, lat2 (fun p q => szQ p && szQ q) fun p q => nm 1 (p - q)), (119, lat1 szQ fun q => nm 1 (abQ q)), (121, lat2 (fun p q => szQ p && szQ q) fun p q => one (.int .i64 (cmpQ p q))), (122, lat1 szQ tupQ)] with T := tryT, M := Mz, X := xopF tryT { xtT with vs := [] } }
def A39 : Ann := { head := ptOf [(7, [1, 4, 6, 7, 8, 9], []), (11, [1, 4, 6, 7, 8, 9, 10, 11], [])], out := ptOf [(7, [4, 7], []), (11, [1, 4, 6, 7, 8, 9], [])], shut := true }
def σ39 (m d : Int) (q : Rat) (b g : Option Rat) : St := ⟨[(1, one (.int .i64 m)), (4, one (.ptr 0 0)), (6, one (.ptr 1 0)), (7, one (.ptr 2 0)), (8, one (.ptr 3 0)), (9, one (.int .i64 d))], [.var [.int .i64 0, .int .i64 0], .var [.num 1 (some q)], .var [.num 1 b], .var [.num 1 g]]⟩
def σ39i (m d : Int) (q : Rat) (b g : Option Rat) (x : tZ.den) (k : Int) : St := ⟨[(1, one (.int .i64 m)), (4, one (.ptr 0 0)), (6, one (.ptr 1 0)), (7, one (.ptr 2 0)), (8, one (.ptr 3 0)), (9, one (.int .i64 d)), (10, one (.ptr 4 0)), (11, one (.int .i64 k))], [.var [.int .i64 0, .int .i64 0], .var [.num 1 (some q)], .var [.num 1 b], .var [.num 1 g], .var [.bool x.1, .sl none tW x.2]]⟩
theorem snE_ok : EnvOK NN Tryz.prog snE :=
  { T := TabOk.of tryT_ok, E := eqT_ok, Γ := gamC (orc64 NN) Tryz.call13 (gamC orc65 Tryz.call113 (gamC orc69 Tryz.call116 (gamC orc68 Tryz.call115 (gamC orc_lfloor Tryz.call114 (gamC (orc132 NN) Tryz.call85 (gamC (orc126 NN) Tryz.call118 (gamC orc_rBigN Tryz.call117
      (gamC orc27 Tryz.call120 (gamC orc_labs Tryz.call119 (gamC orc51 Tryz.call121 (gamC orc30 Tryz.call122 (gamN _ _)))))))))))), X := xopF_ok (TabOk.of tryT_ok) (xtT_ok []) }
theorem abQ_comm (p q : Rat) : abQ (p - q) = abQ (q - p) := by unfold abQ; grind
section
variable {ρ : Type}
def selE (go : St -> Option ρ) (m d k : Int) (q b g C : Rat) (x : tZ.den) : Option ρ :=
  if (szQ (abQ (q - C)) && szQ g) = true then (bif bif false then true else decide (cmpQ (abQ (q - C)) g < 0) then go (σ39i m d q (some C) (some (abQ (q - C))) x (IntKind.i64.wrap (k + 1))) else go (σ39i m d q (some b) (some g) x (IntKind.i64.wrap (k + 1)))) else none
def selF (go : St -> Option ρ) (m d k : Int) (q b g C : Rat) (x : tZ.den) : Option ρ :=
  bif d == 1 then (bif bif true then k == 0 else false then go (σ39i m d q (some C) (some (abQ (q - C))) x (IntKind.i64.wrap (k + 1))) else selE go m d k q b g C x) else selE go m d k q b g C x
def candS (x : tZ.den) (k d : Int) : Rat := Rat.divInt (zV (zD (zV x + zV (zD k)))) (zV (zD d))
theorem turnSn (K : Exit -> St -> Option ρ) (go : St -> Option ρ) (q : Rat) (m : Int) (x : tZ.den) : turnF snE A39 73 0 0 (loopAt Tryz.f39 1) K go (σ39i m 1 q none none x 0) =
    if zOk x /\ zOk (zD 0) /\ true = true then (if zOk (zD (zV x + zV (zD 0))) /\ zOk (zD 1) /\ zV (zD 1) ≠ 0 then (if (szQ q && szQ (candS x 0 1)) = true then (if szQ (q - candS x 0 1) = true then
      go (σ39i m 1 q (some (candS x 0 1)) (some (abQ (q - candS x 0 1))) x (IntKind.i64.wrap (0 + 1))) else none) else none) else none) else none := by kernel_rfl
theorem turnSs (K : Exit -> St -> Option ρ) (go : St -> Option ρ) (q b g : Rat) (m d k : Int) (x : tZ.den) : turnF snE A39 73 0 0 (loopAt Tryz.f39 1) K go (σ39i m d q (some b) (some g) x k) =
    bif decide (k < 2) then (if -9223372036854775808 <= k /\ k < 9223372036854775808 then (if zOk x /\ zOk (zD k) /\ true = true then (if -9223372036854775808 <= d /\ d < 9223372036854775808 then (if zOk (zD (zV x + zV (zD k))) /\ zOk (zD d) /\ zV (zD d) ≠ 0 then
      (if (szQ q && szQ (candS x k d)) = true then (if szQ (q - candS x k d) = true then selF go m d k q b g (candS x k d) x else none) else none) else none) else none) else none) else none)
    else K (.exit 2) (σ39 m d q (some b) (some g)) := by kernel_rfl
end
end Go.Abs

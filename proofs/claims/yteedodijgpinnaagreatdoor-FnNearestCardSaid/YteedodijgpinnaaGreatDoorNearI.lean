/-
  A PART OF THE PROOF of NrI (texts NearI NearJ NearK NearL): the claim itself stands in the last text. No conditions beside those of the given row.
-/
import Derived.Test.YteedodijgpinnaaGreatDoorNearA
import Derived.Test.YteedodijgpinnaaGreatDoorDrwA
import Derived.Test.YteedodijgpinnaaGreatDoorRowA
set_option linter.unusedVariables false
set_option linter.unnecessarySimpa false
set_option linter.unusedSimpArgs false
namespace Go.Abs
open Go.Proofs
set_option maxRecDepth 100000
theorem szQ_rev {p q : Rat} (h : szQ (p - q) = true) : szQ (q - p) = true := by
  have e : q - p = -(p - q) := by grind
  rw [e]
  unfold szQ at h ⊢
  rw [show (-(p - q)).num = -(p - q).num from rfl, Int.natAbs_neg, show (-(p - q)).den = (p - q).den from rfl]
  exact h
def okS (q : Rat) (d k : Int) : Option Rat -> Option Rat -> Bool
  | none, none => decide (d = 1) && decide (k = 0)
  | some b, some g => (decide (smallQ b) && decide (g = abQ (b - q))) && !(decide (d = 1) && decide (k = 0))
  | _, _ => false
section
variable {ρ : Type} (K : Exit -> St -> Option ρ) (go : St -> Option ρ)
theorem stepS {q : Rat} {m d F k : Int} {b g : Option Rat} (h0 : F.natAbs <= 10000000000000000000000) (h : inS q (F + k) d) (hb : okS q d k b g = true) (hk : k < 2 /\ 0 <= k) :
    turnF snE A39 73 0 0 (loopAt Tryz.f39 1) K go (σ39i m d q b g (zD F) k) = go (σ39i m d q (some (updo q b (Rat.divInt (F + k) d))) (some (abQ (updo q b (Rat.divInt (F + k) d) - q))) (zD F) (k + 1)) := by
  obtain ⟨z1, z2, z3, z4, z5, z6⟩ := szS3 h
  obtain ⟨⟨h1, h2⟩, h3, h4, h5⟩ := h
  have wF : (words F.natAbs).length <= 8 := words_length (by omega)
  have wd := words_small (n := d.natAbs) (by omega)
  have wk := words_small (n := k.natAbs) (by omega)
  have zF : zOk (zD F) := zOk_zD (by omega)
  have zd : zOk (zD d) := zOk_zD (by omega)
  have zk : zOk (zD k) := zOk_zD (by omega)
  have hw : IntKind.i64.wrap (k + 1) = k + 1 := by rw [IntKind.wrap_i64]; omega
  have hC : candS (zD F) k d = Rat.divInt (F + k) d := by unfold candS; simp only [zV_zD]
  have c4 : (szQ q && szQ (Rat.divInt (F + k) d)) = true := by rw [z4, z5]; rfl
  match b, g, hb with
  | none, none, hb =>
    unfold okS at hb
    rw [Bool.and_eq_true, decide_eq_true_eq, decide_eq_true_eq] at hb
    obtain ⟨rfl, rfl⟩ := hb
    rw [turnSn, hC, zV_zD, zV_zD, zV_zD, hw, if_pos ⟨zF, zk, rfl⟩, if_pos ⟨z1, zd, by decide⟩, if_pos c4, if_pos (szQ_rev z6), abQ_comm]
    rfl
  | some b, some g, hb =>
    unfold okS at hb
    rw [Bool.and_eq_true, Bool.and_eq_true, decide_eq_true_eq, decide_eq_true_eq] at hb
    obtain ⟨⟨s1, s2⟩, s3⟩ := hb
    subst s2
    have c5 : (szQ (abQ (q - Rat.divInt (F + k) d)) && szQ (abQ (b - q))) = true := by rw [szQ_ab (szQ_rev z6), szQ_ab (szQ_subS ⟨h1, h2⟩ s1)]; rfl
    have hE : selE go m d k q b (abQ (b - q)) (Rat.divInt (F + k) d) (zD F) = go (σ39i m d q (some (updo q (some b) (Rat.divInt (F + k) d))) (some (abQ (updo q (some b) (Rat.divInt (F + k) d) - q))) (zD F) (k + 1)) := by
      unfold selE
      rw [if_pos c5, cond_false, hw, abQ_comm q]
      unfold updo upd
      by_cases hc : abQ (Rat.divInt (F + k) d - q) < abQ (b - q)
      · rw [decide_eq_true (cmpQ_lt.2 hc), cond_true]
        simp only [if_pos hc]
      · rw [decide_eq_false (fun e => hc (cmpQ_lt.1 e)), cond_false]
        simp only [if_neg hc]
    have hF : selF go m d k q b (abQ (b - q)) (Rat.divInt (F + k) d) (zD F) = selE go m d k q b (abQ (b - q)) (Rat.divInt (F + k) d) (zD F) := by
      unfold selF
      by_cases hd : d = 1
      · subst hd
        have hk0 : k ≠ 0 := fun e => by subst e; exact absurd s3 (by decide)
        rw [show ((1 : Int) == 1) = true from rfl, cond_true, cond_true, beq_eq_false_iff_ne.2 hk0, cond_false]
      · rw [beq_eq_false_iff_ne.2 hd, cond_false]
    rw [turnSs, hC, zV_zD, zV_zD, zV_zD, decide_eq_true hk.1, cond_true, if_pos ⟨by omega, by omega⟩, if_pos ⟨zF, zk, rfl⟩, if_pos ⟨by omega, by omega⟩, if_pos ⟨z1, zd, by omega⟩, if_pos c4, if_pos (szQ_rev z6), hF, hE]
end
def gS (q : Rat) (F d : Int) (b g : Option Rat) : Bool := decide ((q.num.natAbs <= 1000000000000000000 /\ q.den <= 1000000000000000000) /\ F.natAbs < 10000000000000000000000 /\ 1 <= d /\ d <= 2000) && (okS q d 0 b g && decide (smallQ (updo q b (Rat.divInt F d))))
noncomputable def S39 : Sum := fun n0 ρ σ K => match n0, σ with
  | 0, ⟨[(1, .v false [.int .i64 m]), (4, .v false [.ptr 0 0]), (6, .v false [.ptr 1 0]), (7, .v false [.ptr 2 0]), (8, .v false [.ptr 3 0]), (9, .v false [.int .i64 d]), (10, .v false [.ptr 4 0]), (11, .v false [.int .i64 k])], [.var [.int .i64 r0, .int .i64 r1], .var [.num 1 (some q)], .var [.num 1 b], .var [.num 1 g], .var [.bool s, .sl none (.int .u32) xs]]⟩ =>
    if (k = 0 /\ r0 = 0 /\ r1 = 0) /\ zOk (s, xs) /\ gS q (zV (s, xs)) d b g = true then K (.exit 2) (σ39 m d q (some (nx q b (zV (s, xs)) d)) (some (abQ (nx q b (zV (s, xs)) d - q)))) else none
  | _, _ => none
theorem sum39 : SumOK NN Tryz.prog 73 (loopAt Tryz.f39 1) S39 :=
  SumOK.of_turns snE_ok mixT (A := A39) (SumsOK.none fun _ => rfl) fun n0 ρ σ K r h => by
    unfold S39 at h
    split at h
    · rename_i m d k r0 r1 q b g s xs
      split at h
      · rename_i hc
        obtain ⟨⟨rfl, rfl, rfl⟩, hz, hg⟩ := hc
        unfold gS at hg
        rw [Bool.and_eq_true, Bool.and_eq_true, decide_eq_true_eq, decide_eq_true_eq] at hg
        obtain ⟨⟨g1, g2, g3, g4⟩, g5, g6⟩ := hg
        obtain ⟨hx, _⟩ := hz
        generalize zV (s, xs) = F at *
        have es : s = (zD F).1 := congrArg Prod.fst hx
        have ex : xs = (zD F).2 := congrArg Prod.snd hx
        subst es ex
        refine ⟨3, Eq.trans ?_ h⟩
        have s1 := stepS K (itF (turnF snE A39 73 0 0 (loopAt Tryz.f39 1) K) (fun _ => none) 2) (m := m) (k := 0) (q := q) (F := F) (d := d) (b := b) (g := g) (by omega) ⟨g1, by omega, g3, g4⟩ g5 (by omega)
        rw [Int.add_zero] at s1
        have s2 := stepS K (itF (turnF snE A39 73 0 0 (loopAt Tryz.f39 1) K) (fun _ => none) 1) (m := m) (k := 0 + 1) (q := q) (F := F) (d := d) (b := some (updo q b (Rat.divInt F d))) (g := some (abQ (updo q b (Rat.divInt F d) - q))) (by omega) ⟨g1, by omega, g3, g4⟩
          (by show ((decide (smallQ (updo q b (Rat.divInt F d))) && decide (abQ (updo q b (Rat.divInt F d) - q) = abQ (updo q b (Rat.divInt F d) - q))) && !(decide (d = 1) && decide ((0 : Int) + 1 = 0))) = true; rw [decide_eq_true g6, decide_eq_true rfl, decide_eq_false (show ¬ (0 : Int) + 1 = 0 by decide), Bool.and_false]; rfl) (by omega)
        refine Eq.trans (itF_succ ..) (s1.trans ((itF_succ ..).trans (s2.trans ((itF_succ ..).trans ?_))))
        rw [turnSs]
        rfl
      · contradiction
    · contradiction
noncomputable def A39s : Ann := { A39 with sum := fun i => bif Nat.beq i 11 then some S39 else none }
noncomputable def inP {ρ : Type} (go : St -> Option ρ) (m d : Int) (q : Rat) (b g : Option Rat) (F : Int) : Option ρ :=
  if ((0 : Int) = 0 /\ (0 : Int) = 0 /\ (0 : Int) = 0) /\ zOk (zD F) /\ gS q (zV (zD F)) d b g = true then go (σ39 m (IntKind.i64.wrap (d + 1)) q (some (nx q b (zV (zD F)) d)) (some (abQ (nx q b (zV (zD F)) d - q)))) else none
def out39 (b : Option Rat) : St := ⟨[(4, one (.ptr 0 0)), (7, one (.ptr 1 0))], [.var [.int .i64 0, .int .i64 0], .var [.num 1 b]]⟩
theorem turnN39 {ρ : Type} (K : Exit -> St -> Option ρ) (go : St -> Option ρ) (m d : Int) (q : Rat) (b g : Option Rat) : turnF snE A39s 73 0 0 (loopAt Tryz.f39 0) K go (σ39 m d q b g) =
    bif decide (d <= m) then (if -9223372036854775808 < d /\ d < 9223372036854775808 then (if (szQ q && szQ (Rat.divInt d 1)) = true then (if szQ (q * Rat.divInt d 1) = true then
      inP go m d q b g ((q * Rat.divInt d 1).num / ((q * Rat.divInt d 1).den : Int)) else none) else none) else none) else K (.exit 0) (out39 b) := by kernel_rfl
section
variable {ρ : Type} (K : Exit -> St -> Option ρ) (go : St -> Option ρ)
theorem stepP {q : Rat} (hq : bigS q) {m : Int} {d : Nat} {b g : Option Rat} (h1 : 1 <= d) (h2 : d <= 2000) (hm : (d : Int) <= m) (hb : okS q d 0 b g = true) (hs : smallQ (updo q b (cn q d 0))) :
    turnF snE A39s 73 0 0 (loopAt Tryz.f39 0) K go (σ39 m d q b g) = go (σ39 m ((d + 1 : Nat) : Int) q (some (upd q (updo q b (cn q d 0)) (cn q d 1))) (some (abQ (upd q (updo q b (cn q d 0)) (cn q d 1) - q)))) := by
  have hF := flq_le hq h2
  have hq' := hq
  obtain ⟨a1, a2⟩ := hq
  have z5 : szQ q = true := szQ_of ⟨by omega, by omega⟩
  have z3 : szQ (Rat.divInt (d : Int) 1) = true := szQ_divI (by decide) (by omega) (by decide)
  have e : q * Rat.divInt d 1 = Rat.divInt (q.num * d) q.den := by
    have h1 : q = Rat.divInt q.num q.den := (Rat.num_divInt_den q).symm
    have h3 : q * Rat.divInt d 1 = Rat.divInt q.num q.den * Rat.divInt d 1 := by rw [<- h1]
    rw [h3, Rat.divInt_mul_divInt, Int.mul_one]
  have b1 : (q.num * (d : Int)).natAbs <= 1000000000000000000 * 2000 := by rw [Int.natAbs_mul]; exact Nat.mul_le_mul a1 (by omega)
  have hqd := q.den_pos
  have z6 : szQ (q * Rat.divInt d 1) = true := by rw [e]; exact szQ_divI (by omega) (by omega) (by omega)
  rw [turnN39, decide_eq_true hm, cond_true, if_pos ⟨by omega, by omega⟩, if_pos (by rw [z5, z3]; rfl), if_pos z6, mul_nat]
  have hw : (words (flQ (q * (d : Rat))).natAbs).length <= 8 := words_length (by omega)
  have hG : gS q (flQ (q * (d : Rat))) d b g = true := by
    unfold gS
    rw [decide_eq_true ⟨⟨a1, a2⟩, by omega, by omega, by omega⟩, hb]
    have : cn q d 0 = Rat.divInt (flQ (q * (d : Rat))) d := by unfold cn; rw [Int.add_zero]
    rw [<- this, decide_eq_true hs]
    rfl
  show inP go m d q b g (flQ (q * (d : Rat))) = _
  unfold inP
  rw [zV_zD, if_pos ⟨⟨rfl, rfl, rfl⟩, zOk_zD (by omega), hG⟩]
  have hw' : IntKind.i64.wrap ((d : Int) + 1) = ((d + 1 : Nat) : Int) := by rw [IntKind.wrap_i64]; omega
  have hn : nx q b (flQ (q * (d : Rat))) d = upd q (updo q b (cn q d 0)) (cn q d 1) := by
    unfold nx cn
    rw [Int.add_zero]
  rw [hw', hn]
theorem loopP {q : Rat} (hq : bigS q) {m : Nat} (hm : m <= 2000) : ∀ (n d : Nat), d + n = m -> 1 <= d ->
    itF (turnF snE A39s 73 0 0 (loopAt Tryz.f39 0) K) (fun _ => none) (n + 1) (σ39 m ((d + 1 : Nat) : Int) q (some (nb q d)) (some (abQ (nb q d - q)))) = K (.exit 0) (out39 (some (nb q m)))
  | 0, d, e, h1 => by
    have : d = m := by omega
    subst this
    rw [itF_succ, turnN39, decide_eq_false (by omega), cond_false]
  | n + 1, d, e, h1 => by
    rw [itF_succ, stepP K _ hq (by omega) (by omega) (by omega) (by
      show ((decide (smallQ (nb q d)) && decide (abQ (nb q d - q) = abQ (nb q d - q))) && !(decide (((d + 1 : Nat) : Int) = 1) && decide ((0 : Int) = 0))) = true
      rw [decide_eq_true (isC_small hq (nb_C d)), decide_eq_true rfl, decide_eq_false (show ¬ ((d + 1 : Nat) : Int) = 1 by omega)]; rfl) (isC_small hq (nb_C1 d))]
    exact loopP hq hm n (d + 1) (by omega) (by omega)
theorem loopB {q : Rat} (hq : bigS q) {m : Nat} (hm : 1 <= m /\ m <= 2000) :
    itF (turnF snE A39s 73 0 0 (loopAt Tryz.f39 0) K) (fun _ => none) (m + 1) (σ39 m 1 q none none) = K (.exit 0) (out39 (some (nb q m))) := by
  obtain ⟨n, rfl⟩ : ∃ n, m = n + 1 := ⟨m - 1, by omega⟩
  have h := stepP K (itF (turnF snE A39s 73 0 0 (loopAt Tryz.f39 0) K) (fun _ => none) (n + 1)) hq (m := ((n + 1 : Nat) : Int)) (d := 1) (b := none) (g := none) (by omega) (by omega) (by omega) rfl (cn_small hq (by omega) q.den_pos (.inl rfl))
  rw [itF_succ]
  refine Eq.trans h ?_
  have e : upd q (updo q none (cn q 1 0)) (cn q 1 1) = nb q 1 := by
    show _ = upd q (upd q (cn q 1 0) (cn q 1 0)) (cn q 1 1)
    have : upd q (cn q 1 0) (cn q 1 0) = cn q 1 0 := by unfold upd; split <;> rfl
    rw [this]
    rfl
  rw [e]
  exact loopP K hq hm.2 n 1 (by omega) (by omega)
end
noncomputable def S39o : Sum := fun n0 ρ σ K => match n0, σ with
  | 0, ⟨[(1, .v false [.int .i64 m]), (4, .v false [.ptr 0 0]), (6, .v false [.ptr 1 0]), (7, .v false [.ptr 2 0]), (8, .v false [.ptr 3 0]), (9, .v false [.int .i64 d])], [.var [.int .i64 r0, .int .i64 r1], .var [.num 1 (some q)], .var [.num 1 none], .var [.num 1 none]]⟩ =>
    if (d = 1 /\ r0 = 0 /\ r1 = 0) /\ (1 <= m /\ m <= 2000) /\ q.num.natAbs <= 1000000000000000000 /\ q.den <= 1000000000000000000 then K (.exit 0) (out39 (some (nb q m.toNat))) else none
  | _, _ => none
theorem sum39o : SumOK NN Tryz.prog 73 (loopAt Tryz.f39 0) S39o :=
  SumOK.of_turns snE_ok mixT (A := A39s) (SumsOK.ofL (ls := [loopAt Tryz.f39 1]) (by kernel_rfl) ⟨sumL1 (by kernel_rfl) sum39, trivial⟩) fun n0 ρ σ K r h => by
    unfold S39o at h
    split at h
    · rename_i m d r0 r1 q
      split at h
      · rename_i hc
        obtain ⟨⟨rfl, rfl, rfl⟩, ⟨h1, h2⟩, hq⟩ := hc
        obtain ⟨M, rfl⟩ := Int.eq_ofNat_of_zero_le (show 0 <= m by omega)
        rw [Int.toNat_natCast] at h
        exact ⟨M + 1, (loopB K hq ⟨by omega, by omega⟩).trans h⟩
      · contradiction
    · contradiction
noncomputable def A39t : Ann := { A39s with sum := fun i => bif Nat.beq i 7 then some S39o else bif Nat.beq i 11 then some S39 else none }
noncomputable def neS {ρ : Type} (cont : SV -> HL -> Option ρ) (q : Rat) (m : Int) : Option ρ :=
  if ((1 : Int) = 1 /\ (0 : Int) = 0 /\ (0 : Int) = 0) /\ (1 <= m /\ m <= 2000) /\ q.num.natAbs <= 1000000000000000000 /\ q.den <= 1000000000000000000 then (if szQ (nb q m.toNat) = true then cont (tupQ (nb q m.toNat)) [] else none) else none
theorem gq39 {ρ : Type} (cont : SV -> HL -> Option ρ) (a b m : Int) : runF snE A39t 0 Tryz.f39 (bodyOf Tryz.f39) ρ [sQ a b, one (.int .i64 m)] [] cont =
    bif !qOkB a b then cont (tupB 0 0 false) [] else bif bif false then true else decide (m < 1) then cont (tupB 0 0 false) [] else bif bif false then true else decide (2000 < m) then cont (tupB 0 0 false) [] else
    if qOkB a b = true then neS cont (Rat.divInt a b) m else none := by kernel_rfl
theorem orc_nearS : OrcOK NN Tryz.prog 39 nearO :=
  OrcOK.of_tale (runF_ok snE_ok mixT (A := A39t) (fuel := 0) Tryz.func39 (c := bodyOf Tryz.f39) (by kernel_rfl)
    (SumsOK.ofL (ls := [loopAt Tryz.f39 0, loopAt Tryz.f39 1]) (by kernel_rfl) ⟨sumL1 (by kernel_rfl) sum39o, sumL1 (by kernel_rfl) sum39, trivial⟩)) fun ρ args H cont r h => by
    unfold nearO at h
    split at h
    · rename_i a b m
      refine neR_eq (gq39 cont a b m) (fun h1 h2 h3 => ?_) h
      have hb := bigS_q h1
      have hs := szQ_small (isC_small hb (nb_C (q := Rat.divInt a b) m.toNat))
      obtain ⟨b1, b2⟩ := hb
      rw [if_pos h1]
      unfold neS
      rw [if_pos ⟨⟨rfl, rfl, rfl⟩, ⟨h2, h3⟩, b1, b2⟩, if_pos hs]
    · contradiction
end Go.Abs
namespace Go.Abs
open Go.Proofs
set_option maxRecDepth 100000
def odd6 : List Int := [0, -1, 2000, 2001, 100]
noncomputable def ndE (f : List Int -> Thr) : Env := VL tryT [] [(10, cR rE Ash 5 Tryz.f10), (37, thrO f), (38, nearO), (39, nearO), (40, minusO), (41, opO okF flr), (42, qcmO), (13, qOkO), (14, opO ok2 pls), (16, qcmO), (15, livesO)]
theorem ndE_ok {f : List Int -> Thr} (hf : OrcOK NN Tryz.prog 37 (thrO f)) : EnvOK NN Tryz.prog (ndE f) := VL_ok (TabOk.of tryT_ok) (gamC (cR_ok rE_ok rfl Tryz.func10 (by kernel_rfl)) Tryz.call10 (gamC hf Tryz.call37 (gamC orc_nearI Tryz.call38 (gamC orc_nearS Tryz.call39 (gamC orc_minus Tryz.call40
  (gamC orc_qfloor Tryz.call41 (gamC orc_scmp Tryz.call42 (gamC (orc64 NN) Tryz.call13 (gamC orc_qadd Tryz.call14 (gamC orc_qcmp Tryz.call16 (gamC lives_ok Tryz.call15 (gamN _ _))))))))))))
def A7 : Ann := { head := ptOf [(14, [2, 3, 4, 6, 9, 10], [])], out := ptOf [(14, [2], [])], shut := true }
def σ7 (a b m : Int) (ok : Bool) (u v d : Int) : St := ⟨[(2, one (.bool false)), (3, one (.ptr 0 0)), (4, one (.int .i64 m)), (6, one (.bool ok)), (9, one (.ptr 1 0)), (10, one (.int .i64 d))], [.var [.int .i64 a, .int .i64 b], .var [.int .i64 u, .int .i64 v]]⟩
def out7 : St := ⟨[(2, one (.bool false))], []⟩
section
variable {ρ : Type} (G R : Option ρ) (a b u v d : Int)
def lN7 : Int := opN okF flr a b 1 d
def lD7 : Int := opD okF flr a b 1 d
def hN7 : Int := opN ok2 pls (opN okF flr a b 1 d) (opD okF flr a b 1 d) 1 d
def hD7 : Int := opD ok2 pls (opN okF flr a b 1 d) (opD okF flr a b 1 d) 1 d
def T7 : Bool := opT ok2 pls (opN okF flr a b 1 d) (opD okF flr a b 1 d) 1 d
def F37 : Option ρ := bif T7 a b d then (bif bif true then qOkB (opN ok2 mns (hN7 a b d) (hD7 a b d) a b) (opD ok2 mns (hN7 a b d) (hD7 a b d) a b) else false then
    (bif bif true then decide (qcmV (opN ok2 mns (hN7 a b d) (hD7 a b d) a b) (opD ok2 mns (hN7 a b d) (hD7 a b d) a b) u v < 0) else false then R else G) else G) else G
def F27 : Option ρ := bif qOkB (opN ok2 mns a b (lN7 a b d) (lD7 a b d)) (opD ok2 mns a b (lN7 a b d) (lD7 a b d)) then
    (bif bif true then decide (qcmV (opN ok2 mns a b (lN7 a b d) (lD7 a b d)) (opD ok2 mns a b (lN7 a b d) (lD7 a b d)) u v < 0) else false then R else F37 G R a b u v d) else F37 G R a b u v d
def F17 : Option ρ := bif !opT okF flr a b 1 d then G else bif decide (0 < qcmV (lN7 a b d) (lD7 a b d) a b) then R else
    bif T7 a b d then (bif bif false then true else bif true then decide (qcmV (hN7 a b d) (hD7 a b d) a b <= 0) else false then R else F27 G R a b u v d) else F27 G R a b u v d
theorem turn7 (K : Exit -> St -> Option ρ) (go : St -> Option ρ) (f : List Int -> Thr) (m : Int) (ok : Bool) : turnF (ndE f) A7 143 0 0 (loopAt Tryz.f7 0) K go (σ7 a b m ok u v d) =
    bif ok then (bif bif true then qOkB u v else false then (bif bif true then decide (d <= m) else false then (bif bif true then decide (d <= 40) else false then
      F17 (go (σ7 a b m ok u v (IntKind.i64.wrap (d + 1)))) (K .ret out7) a b u v d else K (.exit 0) out7) else K (.exit 0) out7) else K (.exit 0) out7) else K (.exit 0) out7 := by kernel_rfl
end
theorem drw37 {ρ : Type} (cont : SV -> HL -> Option ρ) (xs : List Int) : runF rE9 Ash 20 Tryz.f37 (bodyOf Tryz.f37) ρ [one (.sl none (.int .u8) xs)] [] cont =
  if rdOkB xs 0 = true then if rdOkB xs (anyF xs 0).snd = true then if rdOkB xs (belowG xs (anyF xs 0).snd 30).snd = true then bif (onceF xs (belowG xs (anyF xs 0).snd 30).snd 15).fst then if rdOkB xs (onceF xs (belowG xs (anyF xs 0).snd 30).snd 15).snd = true then
    if 0 <= (belowG xs (onceF xs (belowG xs (anyF xs 0).snd 30).snd 15).snd 5).fst /\ (belowG xs (onceF xs (belowG xs (anyF xs 0).snd 30).snd 15).snd 5).fst < (odd6.length : Int) then
      odd6[0 + (belowG xs (onceF xs (belowG xs (anyF xs 0).snd 30).snd 15).snd 5).fst.toNat]?.bind fun x => cont (SV.tup [(true, [Atom.int IntKind.i64 (anyF xs 0).fst.fst, Atom.int IntKind.i64 (anyF xs 0).fst.snd]), (false, [Atom.int IntKind.i64 x])]) [] else none else none
    else cont (SV.tup [(true, [Atom.int IntKind.i64 (anyF xs 0).fst.fst, Atom.int IntKind.i64 (anyF xs 0).fst.snd]), (false, [Atom.int IntKind.i64 (IntKind.i64.wrap (1 + (belowG xs (anyF xs 0).snd 30).fst))])]) []
    else none else none else none := by kernel_rfl
theorem near_draw : ∃ f, OrcOK NN Tryz.prog 37 (thrO f) :=
  thr_ok (cR_ok (A := Ash) (fuel := 20) rE9_ok rfl Tryz.func37 (by kernel_rfl)) fun xs h0 => by
    have h1 := anyP h0
    have h2 := belowGP (n := 30) h1
    have h3 := onceP (n := 15) h2
    cases o6 : (onceF xs (belowG xs (anyF xs 0).snd 30).snd 15).fst
    · exact ⟨⟨(anyF xs 0).fst.fst, (anyF xs 0).fst.snd, IntKind.i64.wrap (1 + (belowG xs (anyF xs 0).snd 30).fst)⟩, fun ρ cont => (drw37 cont xs).trans (by
        rw [if_pos h0, if_pos h1, if_pos h2, o6, cond_false])⟩
    · have hn := belowGR (n := 5) h3 (by decide) (by decide)
      have hl : 0 + (belowG xs (onceF xs (belowG xs (anyF xs 0).snd 30).snd 15).snd 5).fst.toNat < odd6.length := by
        show _ < 5
        omega
      have hn5 : (belowG xs (onceF xs (belowG xs (anyF xs 0).snd 30).snd 15).snd 5).fst < (odd6.length : Int) := by
        show _ < ((5 : Nat) : Int)
        omega
      exact ⟨⟨(anyF xs 0).fst.fst, (anyF xs 0).fst.snd, odd6[0 + (belowG xs (onceF xs (belowG xs (anyF xs 0).snd 30).snd 15).snd 5).fst.toNat]⟩, fun ρ cont => (drw37 cont xs).trans (by
        rw [if_pos h0, if_pos h1, if_pos h2, o6, cond_true, if_pos h3, if_pos ⟨hn.1, hn5⟩, List.getElem?_eq_getElem hl, Option.bind_some])⟩
end Go.Abs
namespace Go.Abs
open Go.Proofs
set_option maxRecDepth 100000
theorem op_fits {g : Int -> Int -> Int -> Int -> Bool} {f : Rat -> Rat -> Rat} {a b c d : Int} (h : qOkB (opN g f a b c d) (opD g f a b c d) = true) : opT g f a b c d = true := by
  cases hg : g a b c d
  · exact absurd h (by rw [(op_no hg).2.1, (op_no hg).2.2]; decide)
  · unfold opT opN opD at *
    rw [hg] at h ⊢
    cases hf : qFit (f (Rat.divInt a b) (Rat.divInt c d))
    · have hf' : ¬ ((f (Rat.divInt a b) (Rat.divInt c d)).num.natAbs <= 1000000000000000000 /\ (f (Rat.divInt a b) (Rat.divInt c d)).den <= 1000000000000000000) := of_decide_eq_false hf
      exact absurd h (by unfold qNum qDen; rw [if_neg hf', if_neg hf']; decide)
    · rfl
theorem div_unit {p : Rat} {d : Nat} (h : 1 <= d) : p / Rat.divInt 1 d = p * (d : Rat) := by
  rw [Rat.div_def, Rat.inv_divInt, divInt_nat1]
theorem flr_unit {p : Rat} {d : Nat} (h : 1 <= d) : flr p (Rat.divInt 1 d) = cn p d 0 := by
  unfold flr cn flQ
  rw [div_unit h, Rat.divInt_mul_divInt, Int.mul_one, Int.one_mul, Int.add_zero]
theorem pls_unit {p : Rat} {d : Nat} (h : 1 <= d) : pls (cn p d 0) (Rat.divInt 1 d) = cn p d 1 := by
  unfold pls cn
  rw [Rat.divInt_add_divInt _ _ (by omega) (by omega), <- Int.add_mul, Rat.divInt_mul_right (by omega), Int.add_zero]
def good7 (a b m u v : Int) : Prop := qOkB a b = true /\ 1 <= m /\ Rat.divInt u v = abQ (nb (Rat.divInt a b) m.toNat - Rat.divInt a b)
instance (a b m u v : Int) : Decidable (good7 a b m u v) := by unfold good7; infer_instance
theorem F17_eq {ρ : Type} (G R : Option ρ) {a b u v : Int} {d m : Nat} (hd : 1 <= d /\ d <= m) (h : good7 a b m u v) (huv : qOkB u v = true) : F17 G R a b u v d = G := by
  obtain ⟨hq, hm, hg⟩ := h
  rw [Int.toNat_natCast] at hg
  obtain ⟨n1, n2⟩ := nb_le (Rat.divInt a b) m d hd.1 hd.2
  obtain ⟨c1, c2⟩ := cn_low (Rat.divInt a b) hd.1
  unfold F17
  cases hT : opT okF flr a b 1 d
  · rfl
  · obtain ⟨f1, g1⟩ := op_fit hT
    rw [flr_unit hd.1] at g1
    have e1 : ¬ 0 < qcmV (lN7 a b d) (lD7 a b d) a b := by
      unfold lN7 lD7
      rw [qcmV_eq f1 hq, g1, cmpQ_gt]
      grind
    rw [Bool.not_true, cond_false, decide_eq_false e1, cond_false]
    have E3 : F37 G R a b u v d = G := by
      unfold F37
      cases hU : T7 a b d
      · rfl
      · obtain ⟨f2, g2⟩ := op_fit (f := pls) hU
        rw [g1, pls_unit hd.1] at g2
        rw [cond_true, cond_true]
        cases hV : qOkB (opN ok2 mns (hN7 a b d) (hD7 a b d) a b) (opD ok2 mns (hN7 a b d) (hD7 a b d) a b)
        · rfl
        · obtain ⟨f3, g3⟩ := op_fit (op_fits hV)
          have e3 : ¬ qcmV (opN ok2 mns (hN7 a b d) (hD7 a b d) a b) (opD ok2 mns (hN7 a b d) (hD7 a b d) a b) u v < 0 := by
            rw [qcmV_eq f3 huv, g3, cmpQ_lt, hg]
            unfold hN7 hD7
            rw [g2]
            unfold mns
            unfold abQ at *
            grind
          rw [cond_true, cond_true, decide_eq_false e3]
          rfl
    have E2 : F27 G R a b u v d = G := by
      unfold F27
      cases hV : qOkB (opN ok2 mns a b (lN7 a b d) (lD7 a b d)) (opD ok2 mns a b (lN7 a b d) (lD7 a b d))
      · exact E3
      · obtain ⟨f3, g3⟩ := op_fit (op_fits hV)
        have e3 : ¬ qcmV (opN ok2 mns a b (lN7 a b d) (lD7 a b d)) (opD ok2 mns a b (lN7 a b d) (lD7 a b d)) u v < 0 := by
          rw [qcmV_eq f3 huv, g3, cmpQ_lt, hg]
          unfold lN7 lD7
          rw [g1]
          unfold mns
          unfold abQ at *
          grind
        rw [cond_true, cond_true, decide_eq_false e3]
        exact E3
    cases hU : T7 a b d
    · exact E2
    · obtain ⟨f2, g2⟩ := op_fit (f := pls) hU
      rw [g1, pls_unit hd.1] at g2
      have e2 : ¬ qcmV (hN7 a b d) (hD7 a b d) a b <= 0 := by
        unfold hN7 hD7
        rw [qcmV_eq f2 hq, g2]
        have := (cmpQ_gt (p := cn (Rat.divInt a b) d 1) (q := Rat.divInt a b)).2 c2
        omega
      rw [cond_true, cond_true, cond_false, decide_eq_false e2]
      exact E2
noncomputable def S7 : Sum := fun n0 ρ σ K => match n0, σ with
  | 0, ⟨[(2, .v false [.bool r]), (3, .v false [.ptr 0 0]), (4, .v false [.int .i64 m]), (6, .v false [.bool ok]), (9, .v false [.ptr 1 0]), (10, .v false [.int .i64 d])], [.var [.int .i64 a, .int .i64 b], .var [.int .i64 u, .int .i64 v]]⟩ =>
    if r = false /\ d = 1 /\ (ok = true -> qOkB u v = true -> good7 a b m u v) then K (.exit 0) out7 else none
  | _, _ => none
theorem loop7 {ρ : Type} (K : Exit -> St -> Option ρ) (f : List Int -> Thr) {a b u v m : Int} {ok : Bool} (h : ok = true -> qOkB u v = true -> good7 a b m u v) : ∀ (n d : Nat), d + n = 41 -> 1 <= d ->
    itF (turnF (ndE f) A7 143 0 0 (loopAt Tryz.f7 0) K) (fun _ => none) (n + 1) (σ7 a b m ok u v d) = K (.exit 0) out7 := by
  intro n
  induction n with
  | zero =>
    intro d e h1
    rw [itF_succ, turn7, decide_eq_false (show ¬ (d : Int) <= 40 by omega)]
    cases ok
    · rfl
    · cases qOkB u v
      · rfl
      · cases decide ((d : Int) <= m) <;> rfl
  | succ n ih =>
    intro d e h1
    rw [itF_succ, turn7, decide_eq_true (show (d : Int) <= 40 by omega)]
    cases hok : ok
    · rfl
    · cases hq : qOkB u v
      · rfl
      · cases hd : decide ((d : Int) <= m)
        · rfl
        · have hd := of_decide_eq_true hd
          have hg := h hok hq
          obtain ⟨M, rfl⟩ := Int.eq_ofNat_of_zero_le (show 0 <= m by omega)
          have hw : IntKind.i64.wrap ((d : Int) + 1) = ((d + 1 : Nat) : Int) := by rw [IntKind.wrap_i64]; omega
          rw [cond_true, cond_true, cond_true, cond_true, cond_true, F17_eq _ _ ⟨h1, by omega⟩ hg hq, hw]
          subst hok
          exact ih (d + 1) (by omega) (by omega)
theorem sum7 {f : List Int -> Thr} (hf : OrcOK NN Tryz.prog 37 (thrO f)) : SumOK NN Tryz.prog 143 (loopAt Tryz.f7 0) S7 :=
  SumOK.of_turns (ndE_ok hf) mixT (A := A7) (SumsOK.none fun _ => rfl) fun n0 ρ σ K r h => by
    unfold S7 at h
    split at h
    · rename_i r' m ok d a b u v
      split at h
      · rename_i hc
        obtain ⟨rfl, rfl, hc⟩ := hc
        exact ⟨41, (loop7 K f hc 40 1 (by omega) (by omega)).trans h⟩
      · contradiction
    · contradiction
noncomputable def A7s : Ann := { A7 with sum := fun i => bif Nat.beq i 14 then some S7 else none }
end Go.Abs
namespace Go.Abs
open Go.Proofs
set_option maxRecDepth 100000
section
variable {ρ : Type} (K : Bool -> Option ρ) (a b m : Int)
noncomputable def u7 : Int := opN ok2 mns (neN a b m) (neD a b m) a b
noncomputable def v7 : Int := opD ok2 mns (neN a b m) (neD a b m) a b
noncomputable def end7 (u v : Int) : Option ρ := if false = false /\ (1 : Int) = 1 /\ (neT a b m = true -> qOkB u v = true -> good7 a b m u v) then K true else none
noncomputable def tail7 : Option ρ := bif decide (u7 a b m < 0) then end7 K a b m (IntKind.i64.wrap (0 - u7 a b m)) (v7 a b m) else end7 K a b m (u7 a b m) (v7 a b m)
noncomputable def all7 : Option ρ :=
  bif neT a b m != neT a b m then K false else bif bif false then true else !(neN a b m == neN a b m && neD a b m == neD a b m) then K false else
  bif neT a b m then (bif decide (m < neD a b m) then K false else bif decide (b <= m) then
    (bif bif true then bif false then true else bif true then !(neN a b m == a && neD a b m == b) else false else false then K false else tail7 K a b m) else tail7 K a b m) else tail7 K a b m
end
theorem gq7 {ρ : Type} (cont : SV -> HL -> Option ρ) (f : List Int -> Thr) (xs : List Int) : runF (ndE f) A7s 0 Tryz.f7 (bodyOf Tryz.f7) ρ [one (.sl none (.int .u8) xs)] [] cont =
    bif decide (1048576 < (xs.length : Int)) then cont (one (.bool true)) [] else if rdOkB xs 0 = true then all7 (fun o => cont (one (.bool o)) []) (f xs).a (f xs).b (f xs).c else none := by kernel_rfl
section
variable {ρ : Type} {K : Bool -> Option ρ} {a b m : Int}
theorem ne_real (h : neT a b m = true) : qOkB a b = true /\ (1 <= m /\ m <= 2000) /\ qOkB (neN a b m) (neD a b m) = true /\ Rat.divInt (neN a b m) (neD a b m) = nb (Rat.divInt a b) m.toNat := by
  cases hk : neOk a b m
  · unfold neT at h; rw [hk] at h; contradiction
  · unfold neT at h
    unfold neN neD
    rw [hk] at h ⊢
    unfold neOk at hk
    simp only [Bool.and_eq_true, Bool.not_eq_true', decide_eq_false_iff_not] at hk
    exact ⟨hk.1, by omega, fit_ok h⟩
theorem neg_div {n d : Int} : Rat.divInt (-n) d = -Rat.divInt n d := (Rat.neg_divInt n d).symm
theorem tail7_eq : tail7 K a b m = K true := by
  have h0 : neT a b m = true -> ∀ u v, (u = u7 a b m /\ 0 <= u7 a b m \/ u = -(u7 a b m) /\ u7 a b m < 0) -> v = v7 a b m -> qOkB u v = true -> good7 a b m u v := fun hT u v hu hv hq => by
    obtain ⟨h1, h2, h3, h4⟩ := ne_real hT
    refine ⟨h1, h2.1, ?_⟩
    subst hv
    have hq0 : qOkB (u7 a b m) (v7 a b m) = true := by
      rcases hu with ⟨e, _⟩ | ⟨e, _⟩
      · rw [<- e]; exact hq
      · obtain ⟨k1, k2, k3, k4, k5⟩ := qOkB_iff.1 hq
        refine qOkB_iff.2 ⟨k1, k2, by omega, by omega, ?_⟩
        rw [e, Int.neg_gcd] at k5
        exact k5
    obtain ⟨f1, g1⟩ := op_fit (f := mns) (op_fits hq0)
    rw [h4] at g1
    obtain ⟨k1, k2, _⟩ := qOkB_iff.1 hq0
    have g1' : Rat.divInt (u7 a b m) (v7 a b m) = nb (Rat.divInt a b) m.toNat - Rat.divInt a b := g1
    have hs : (Rat.divInt (u7 a b m) (v7 a b m) < 0) ↔ u7 a b m < 0 := by
      rw [<- sgnQ_lt, (q_rt hq0).1, Int.sign_neg_iff]
    unfold abQ
    rw [<- g1']
    rcases hu with ⟨e, h5⟩ | ⟨e, h5⟩
    · rw [e, if_neg (fun h => by have := hs.1 h; omega)]
    · rw [e, if_pos (hs.2 h5), neg_div]
  have hw : u7 a b m < 0 -> qOkB (IntKind.i64.wrap (0 - u7 a b m)) (v7 a b m) = true -> IntKind.i64.wrap (0 - u7 a b m) = -(u7 a b m) := fun h hq => by
    have hr : -1000000000000000000 <= u7 a b m /\ u7 a b m <= 1000000000000000000 := by
      unfold u7 opN
      cases ok2 (neN a b m) (neD a b m) a b
      · show (-1000000000000000000 : Int) <= 0 /\ (0 : Int) <= 1000000000000000000
        omega
      · unfold qNum
        show _ <= (if _ then _ else _) /\ (if _ then _ else _) <= _
        split
        · rename_i h; obtain ⟨h, _⟩ := h; omega
        · omega
    rw [IntKind.wrap_i64]; omega
  unfold tail7 end7
  by_cases hu : u7 a b m < 0
  · rw [decide_eq_true hu, cond_true, if_pos ⟨rfl, rfl, fun hT hq => h0 hT _ _ (.inr ⟨hw hu hq, hu⟩) rfl hq⟩]
  · rw [decide_eq_false hu, cond_false, if_pos ⟨rfl, rfl, fun hT hq => h0 hT _ _ (.inl ⟨rfl, by omega⟩) rfl hq⟩]
theorem all7_eq : all7 K a b m = K true := by
  unfold all7
  rw [bne_self_eq_false, cond_false, beq_self_eq_true, beq_self_eq_true, tail7_eq]
  cases h : neT a b m
  · rfl
  · obtain ⟨h1, h2, h3, h4⟩ := ne_real h
    obtain ⟨k1, k2⟩ := q_rt h3
    have hd : ¬ m < neD a b m := by
      have := nb_den (Rat.divInt a b) (m := m.toNat) (by omega)
      rw [<- h4] at this
      omega
    rw [decide_eq_false hd]
    by_cases hb : b <= m
    · obtain ⟨j1, j2⟩ := q_rt h1
      have hx := nb_exact (q := Rat.divInt a b) (m := m.toNat) (by omega)
      rw [hx] at h4
      rw [h4] at k1 k2
      have e1 : neN a b m = a := by omega
      have e2 : neD a b m = b := by omega
      rw [decide_eq_true hb, e1, e2, beq_self_eq_true, beq_self_eq_true]
      rfl
    · rw [decide_eq_false hb]
      rfl
end
theorem ne_law : OrcOK NN Tryz.prog 7 lawO1 := by
  obtain ⟨f, hf⟩ := near_draw
  exact OrcOK.of_tale (runF_ok (ndE_ok hf) mixT (A := A7s) (fuel := 0) Tryz.func7 (c := bodyOf Tryz.f7) (by kernel_rfl)
    (SumsOK.ofL (ls := [loopAt Tryz.f7 0]) (by kernel_rfl) ⟨sumL1 (by kernel_rfl) (sum7 hf), trivial⟩)) fun ρ args H cont r h => by
    unfold lawO1 at h
    split at h
    · rename_i xs
      split at h
      · rename_i hb
        refine (gq7 cont f xs).trans ?_
        by_cases h1 : (1048576 : Int) < List.length (α := Int) xs
        · rw [decide_eq_true h1]; exact h
        · rw [decide_eq_false h1, cond_false, if_pos (rdOk_iff.2 ⟨hb, by omega, by omega, by omega⟩), all7_eq]
          exact h
      · contradiction
    · contradiction
end Go.Abs

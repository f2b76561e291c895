/-
  A PART OF THE PROOF of RtI (texts RootC RootD RootE FrL RootF RootG): the claim itself stands in the last text. No conditions beside those of the given row.
-/
import Derived.Test.YteedodijgpinnaaGreatDoorDrwA
set_option linter.unusedVariables false
set_option linter.unnecessarySimpa false
set_option linter.unusedSimpArgs false
namespace Go.Abs
open Go.Proofs
set_option linter.unusedVariables false
set_option maxRecDepth 100000
def biN (b n : Nat) : Nat → Nat → Nat
  | 0, lo => lo
  | k + 1, lo => biN b n k (if (lo + 2 ^ k) * (lo + 2 ^ k) * b ≤ n then lo + 2 ^ k else lo)
theorem biN_ok (b n : Nat) : ∀ (k lo : Nat), lo * lo * b ≤ n → n < (lo + 2 ^ k) * (lo + 2 ^ k) * b → biN b n k lo * biN b n k lo * b ≤ n ∧ n < (biN b n k lo + 1) * (biN b n k lo + 1) * b
  | 0, lo, h1, h2 => ⟨h1, h2⟩
  | k + 1, lo, h1, h2 => by
    unfold biN
    have e : 2 ^ (k + 1) = 2 ^ k + 2 ^ k := by rw [Nat.pow_succ]; omega
    rw [e, ← Nat.add_assoc] at h2
    split
    · rename_i h; exact biN_ok b n k _ h h2
    · rename_i h; exact biN_ok b n k _ h1 (by omega)
theorem biN_lt (b n : Nat) : ∀ (k lo : Nat), biN b n k lo < lo + 2 ^ k
  | 0, lo => by show lo < lo + 1; omega
  | k + 1, lo => by
    unfold biN
    have e : 2 ^ (k + 1) = 2 ^ k + 2 ^ k := by rw [Nat.pow_succ]; omega
    split
    · have := biN_lt b n k (lo + 2 ^ k); omega
    · have := biN_lt b n k lo
      have : 0 < 2 ^ k := Nat.pow_pos (by omega)
      omega
noncomputable def srE : Env := { VL tranT [] [(13, qOkO), (85, zOfO), (84, zz2 (fun _ _ => true) fun n m => zS (n * m)), (86, zz2 (fun n m => szZ n && szZ m) fun n m => one (.int .i64 (Int.sign (n - m)))), (79, qofO)] with M := Mz }
theorem srE_ok : EnvOK NN Tryz.prog srE :=
  have h : EnvOK NN Tryz.prog (VL tranT [] [(13, qOkO), (85, zOfO), (84, zz2 (fun _ _ => true) fun n m => zS (n * m)), (86, zz2 (fun n m => szZ n && szZ m) fun n m => one (.int .i64 (Int.sign (n - m)))), (79, qofO)]) :=
    VL_ok (TabOk.of tranT_ok) (gamC (orc64 NN) Tryz.call13 (gamC (orc132 NN) Tryz.call85 (gamC (orc109 NN) Tryz.call84 (gamC (orc108 NN) Tryz.call86 (gamC orc_qof Tryz.call79 (gamN _ _))))))
  { T := h.T, E := h.E, Γ := h.Γ, X := h.X }
def A23 : Ann := { head := ptOf [(6, [1, 2, 4, 6, 7, 8], [])], out := ptOf [(6, [1, 4, 7], [])], shut := true }
def σ23 (a b c n lo hi : Int) : St := ⟨[(1, one (.int .i64 c)), (2, one (.ptr 0 0)), (4, one (.ptr 1 0)), (6, one (.ptr 2 0)), (7, one (.int .i64 lo)), (8, one (.int .i64 hi))], [.var [.int .i64 a, .int .i64 b], .var [.int .i64 0, .int .i64 0], zB n]⟩
def midI (lo hi : Int) : Int := IntKind.i64.wrap (lo + IntKind.i64.wrap ((IntKind.i64.wrap (hi - lo)).tdiv 2))
def goB {ρ : Type} (go : St → Option ρ) (a b c n lo hi m : Int) : Option ρ :=
  if -9223372036854775808 ≤ m ∧ m < 9223372036854775808 then (if -9223372036854775808 ≤ m ∧ m < 9223372036854775808 then (if zOk (zD m) ∧ zOk (zD m) ∧ true = true then
    (if -9223372036854775808 ≤ b ∧ b < 9223372036854775808 then (if zOk (zD (zV (zD m) * zV (zD m))) ∧ zOk (zD b) ∧ true = true then
      (if zOk (zD (zV (zD (zV (zD m) * zV (zD m))) * zV (zD b))) ∧ zOk (zD n) ∧ (szZ (zV (zD (zV (zD (zV (zD m) * zV (zD m))) * zV (zD b)))) && szZ (zV (zD n))) = true then
        bif decide (Int.sign (zV (zD (zV (zD (zV (zD m) * zV (zD m))) * zV (zD b))) - zV (zD n)) ≤ 0) then go (σ23 a b c n m hi) else go (σ23 a b c n lo m) else none) else none) else none) else none) else none) else none
def out23 (c lo : Int) : St := ⟨[(1, one (.int .i64 c)), (4, one (.ptr 0 0)), (7, one (.int .i64 lo))], [.var [.int .i64 0, .int .i64 0]]⟩
theorem turn23 {ρ : Type} (K : Exit → St → Option ρ) (go : St → Option ρ) (a b c n lo hi : Int) : turnF srE A23 65 0 0 (loopAt Tryz.f23 0) K go (σ23 a b c n lo hi) =
    bif decide (1 < IntKind.i64.wrap (hi - lo)) then goB go a b c n lo hi (midI lo hi) else K (.exit 0) (out23 c lo) := by kernel_rfl
theorem sgn_le (x y : Nat) : decide (Int.sign ((x : Int) - y) ≤ 0) = decide (x ≤ y) := by
  rw [decide_eq_decide]
  rcases Nat.lt_trichotomy x y with h | h | h
  · rw [Int.sign_eq_neg_one_of_neg (by omega)]; omega
  · subst h; simp
  · rw [Int.sign_eq_one_of_pos (by omega)]; omega
theorem loop23 {ρ : Type} (K : Exit → St → Option ρ) (a c : Int) (b n : Nat) (hb : b ≤ 1000000000000000000) (hn : (words n).length < 1000) : ∀ (k lo : Nat), k ≤ 51 → lo + 2 ^ k ≤ 2251799813685248 →
    itF (turnF srE A23 65 0 0 (loopAt Tryz.f23 0) K) (fun _ => none) (k + 1) (σ23 a b c n lo ((lo + 2 ^ k : Nat) : Int)) = K (.exit 0) (out23 c (biN b n k lo)) := by
  intro k
  induction k with
  | zero =>
    intro lo hk hl
    have e : IntKind.i64.wrap (((lo + 2 ^ 0 : Nat) : Int) - lo) = 1 := by rw [IntKind.wrap_i64]; omega
    rw [itF_succ, turn23, e]
    rfl
  | succ k ih =>
    intro lo hk hl
    have e2 : 2 ^ (k + 1) = 2 ^ k + 2 ^ k := by rw [Nat.pow_succ]; omega
    rw [e2] at hl ⊢
    have hp : 0 < 2 ^ k := Nat.pow_pos (by omega)
    generalize hP : 2 ^ k = P at *
    have e1 : IntKind.i64.wrap (((lo + (P + P) : Nat) : Int) - lo) = ((2 * P : Nat) : Int) := by rw [IntKind.wrap_i64]; omega
    have em : midI lo ((lo + (P + P) : Nat) : Int) = ((lo + P : Nat) : Int) := by
      unfold midI
      have h2 : Int.tdiv ((2 * P : Nat) : Int) 2 = (P : Int) := by rw [Int.tdiv_eq_ediv_of_nonneg (by omega)]; omega
      rw [e1, h2, IntKind.wrap_i64, IntKind.wrap_i64]; omega
    rw [itF_succ, turn23, e1, decide_eq_true (by omega), cond_true, em]
    have w1 := words_small (n := lo + P) (by omega)
    have w2 := words_small (n := b) (by omega)
    have w3 := words_mul (lo + P) (lo + P)
    have w4 := words_mul ((lo + P) * (lo + P)) b
    have a1 : (((lo + P : Nat) : Int)).natAbs = lo + P := Int.natAbs_natCast _
    have a2 : ((b : Nat) : Int).natAbs = b := Int.natAbs_natCast _
    have a3 : ((n : Nat) : Int).natAbs = n := Int.natAbs_natCast _
    have a4 : (((((lo + P) * (lo + P) : Nat)) : Int)).natAbs = (lo + P) * (lo + P) := Int.natAbs_natCast _
    have a5 : (((((lo + P) * (lo + P) * b : Nat)) : Int)).natAbs = (lo + P) * (lo + P) * b := Int.natAbs_natCast _
    unfold goB
    simp only [zV_zD, ← Int.natCast_mul]
    rw [if_pos ⟨by omega, by omega⟩, if_pos ⟨by omega, by omega⟩, if_pos ⟨zOk_zD (by rw [a1]; omega), zOk_zD (by rw [a1]; omega), trivial⟩, if_pos ⟨by omega, by omega⟩,
      if_pos ⟨zOk_zD (by rw [a4]; omega), zOk_zD (by rw [a2]; omega), trivial⟩,
      if_pos ⟨zOk_zD (by rw [a5]; omega), zOk_zD (by rw [a3]; omega), by unfold szZ; rw [a5, a3, decide_eq_true (by omega), decide_eq_true (by omega)]; rfl⟩, sgn_le]
    unfold biN
    rw [hP]
    by_cases h : (lo + P) * (lo + P) * b ≤ n
    · rw [decide_eq_true h, cond_true, if_pos h]
      have := ih (lo + P) (by omega) (by omega)
      rw [show lo + P + P = lo + (P + P) from by omega] at this
      exact this
    · rw [decide_eq_false h, cond_false, if_neg h]
      exact ih lo (by omega) (by omega)
theorem bis_ex (b n : Int) : ∃ x : Int, x = biN b.toNat n.toNat 51 0 := ⟨_, rfl⟩
noncomputable def bisV (b n : Int) : Int := (bis_ex b n).choose
theorem bisV_eq (b n : Int) : bisV b n = biN b.toNat n.toNat 51 0 := (bis_ex b n).choose_spec
noncomputable def S23 : Sum := fun n0 ρ σ K => match n0, σ with
  | 0, ⟨[(1, .v false [.int .i64 c]), (2, .v false [.ptr 0 0]), (4, .v false [.ptr 1 0]), (6, .v false [.ptr 2 0]), (7, .v false [.int .i64 lo]), (8, .v false [.int .i64 hi])], [.var [.int .i64 a, .int .i64 b], .var [.int .i64 x, .int .i64 y], .var [.bool s, .sl none (.int .u32) xs]]⟩ =>
    if (x = 0 ∧ y = 0 ∧ lo = 0 ∧ hi = 2251799813685248 ∧ 0 ≤ b ∧ b ≤ 1000000000000000000) ∧ s = false ∧ xs = words (val xs).toNat ∧ List.length (α := Int) xs < 1000 then
      K (.exit 0) (out23 c (bisV b (val xs))) else none
  | _, _ => none
theorem sum23 : SumOK NN Tryz.prog 65 (loopAt Tryz.f23 0) S23 :=
  SumOK.of_turns srE_ok mixT (A := A23) (SumsOK.none fun _ => rfl) fun n0 ρ σ K r h => by
    unfold S23 at h
    split at h
    · rename_i c lo hi a b x y s xs
      split at h
      · rename_i hc
        obtain ⟨⟨rfl, rfl, rfl, rfl, hb0, hb⟩, rfl, hx, hl⟩ := hc
        rw [bisV_eq] at h
        obtain ⟨b, rfl⟩ := Int.eq_ofNat_of_zero_le hb0
        generalize hN : (val xs).toNat = N at *
        subst hx
        have := loop23 K a c b N (by omega) hl 51 0 (by omega) (by decide)
        refine ⟨52, Eq.trans ?_ h⟩
        have e : zB (N : Int) = .var [.bool false, .sl none tW (words N)] := by unfold zB; rw [Int.natAbs_natCast, decide_eq_false (by omega)]
        unfold σ23 at this
        rw [e] at this
        exact this
      · contradiction
    · contradiction
end Go.Abs
namespace Go.Abs
open Go.Proofs
set_option linter.unusedVariables false
set_option maxRecDepth 100000
noncomputable def A23s : Ann := { A23 with sum := fun i => bif Nat.beq i 6 then some S23 else none }
noncomputable def srR {ρ : Type} (cont : SV → HL → Option ρ) (b c R : Int) : Option ρ :=
  if ((0 : Int) = 0 ∧ (0 : Int) = 0 ∧ (0 : Int) = 0 ∧ (2251799813685248 : Int) = 2251799813685248 ∧ 0 ≤ b ∧ b ≤ 1000000000000000000) ∧ decide (R < 0) = false ∧ words R.natAbs = words (val (words R.natAbs)).toNat ∧ List.length (α := Int) (words R.natAbs) < 1000 then
    (if (-9223372036854775808 ≤ bisV b (val (words R.natAbs)) ∧ bisV b (val (words R.natAbs)) < 9223372036854775808) ∧ -9223372036854775808 ≤ c ∧ c < 9223372036854775808 then
      cont (tupB (qofA (bisV b (val (words R.natAbs))) c) (qofB (bisV b (val (words R.natAbs))) c) (qofC (bisV b (val (words R.natAbs))) c)) [] else none) else none
theorem gq23 {ρ : Type} (cont : SV → HL → Option ρ) (a b c : Int) : runF srE A23s 0 Tryz.f23 (bodyOf Tryz.f23) ρ [sQ a b, one (.int .i64 c)] [] cont =
    bif !qOkB a b then cont (tupB 0 0 false) [] else bif bif false then true else decide (a < 0) then cont (tupB 0 0 false) [] else bif bif false then true else decide (c < 1) then cont (tupB 0 0 false) [] else
    bif bif false then true else decide (1000000 < c) then cont (tupB 0 0 false) [] else
    if -9223372036854775808 ≤ a ∧ a < 9223372036854775808 then (if -9223372036854775808 ≤ c ∧ c < 9223372036854775808 then (if -9223372036854775808 ≤ c ∧ c < 9223372036854775808 then
      (if zOk (zD c) ∧ zOk (zD c) ∧ true = true then (if zOk (zD a) ∧ zOk (zD (zV (zD c) * zV (zD c))) ∧ true = true then srR cont b c (zV (zD a) * zV (zD (zV (zD c) * zV (zD c)))) else none) else none) else none) else none) else none := by kernel_rfl
def rtOk (a b c : Int) : Bool := qOkB a b && (!decide (a < 0) && (!decide (c < 1) && !decide (1000000 < c)))
noncomputable def rtI (a b c : Int) : Int := bisV b (a * (c * c))
noncomputable def rtN (a b c : Int) : Int := bif rtOk a b c then qNum (Rat.divInt (rtI a b c) c) else 0
noncomputable def rtD (a b c : Int) : Int := bif rtOk a b c then qDen (Rat.divInt (rtI a b c) c) else 0
noncomputable def rtT (a b c : Int) : Bool := bif rtOk a b c then qFit (Rat.divInt (rtI a b c) c) else false
noncomputable def rootO : Orc := fun ρ args H cont => match args, H with
  | [.v true [.int .i64 a, .int .i64 b], .v false [.int .i64 c]], [] => cont (tupB (rtN a b c) (rtD a b c) (rtT a b c)) []
  | _, _ => none
theorem rt_facts {a b c : Int} (h : rtOk a b c = true) : qOkB a b = true ∧ (0 ≤ a ∧ a ≤ 1000000000000000000) ∧ (1 ≤ b ∧ b ≤ 1000000000000000000) ∧ 1 ≤ c ∧ c ≤ 1000000 := by
  unfold rtOk at h
  simp only [Bool.and_eq_true, Bool.not_eq_true', decide_eq_false_iff_not] at h
  obtain ⟨h1, h2, h3, h4⟩ := h
  obtain ⟨k1, k2, k3, k4, k5⟩ := qOkB_iff.1 h1
  exact ⟨h1, by omega, by omega, by omega, by omega⟩
theorem rtI_ok {a b c : Int} (h : rtOk a b c = true) : ∃ s n m : Nat, rtI a b c = s ∧ a * (c * c) = (n : Int) ∧ b = (m : Int) ∧ s * s * m ≤ n ∧ n < (s + 1) * (s + 1) * m ∧ s < 2251799813685248 ∧ n ≤ 1000000000000000000000000000000 := by
  obtain ⟨_, ⟨ha0, ha⟩, ⟨hb0, hb⟩, hc0, hc⟩ := rt_facts h
  obtain ⟨A, rfl⟩ := Int.eq_ofNat_of_zero_le ha0
  obtain ⟨B, rfl⟩ := Int.eq_ofNat_of_zero_le (show 0 ≤ b by omega)
  obtain ⟨C, rfl⟩ := Int.eq_ofNat_of_zero_le (show 0 ≤ c by omega)
  have hA : A ≤ 1000000000000000000 := by omega
  have hC : C ≤ 1000000 := by omega
  have hCC : C * C ≤ 1000000 * 1000000 := Nat.mul_le_mul hC hC
  have hn : A * (C * C) ≤ 1000000000000000000 * (1000000 * 1000000) := Nat.mul_le_mul hA hCC
  refine ⟨biN B (A * (C * C)) 51 0, A * (C * C), B, ?_, by simp, rfl, ?_⟩
  · unfold rtI
    rw [bisV_eq, ← Int.natCast_mul, ← Int.natCast_mul, Int.toNat_natCast, Int.toNat_natCast]
  · have k := biN_ok B (A * (C * C)) 51 0 (by omega) (by
      have : 1 ≤ B := by omega
      have : (0 + 2 ^ 51) * (0 + 2 ^ 51) * 1 ≤ (0 + 2 ^ 51) * (0 + 2 ^ 51) * B := Nat.mul_le_mul_left _ this
      omega)
    have l := biN_lt B (A * (C * C)) 51 0
    exact ⟨k.1, k.2, by omega, by omega⟩
theorem root_one {s t n m : Nat} (hs1 : s * s * m ≤ n) (hs2 : n < (s + 1) * (s + 1) * m) (ht1 : t * t * m ≤ n) (ht2 : n < (t + 1) * (t + 1) * m) : s = t := by
  rcases Nat.lt_trichotomy s t with h | h | h
  · have : (s + 1) * (s + 1) * m ≤ t * t * m := Nat.mul_le_mul_right _ (Nat.mul_le_mul h h)
    omega
  · exact h
  · have : (t + 1) * (t + 1) * m ≤ s * s * m := Nat.mul_le_mul_right _ (Nat.mul_le_mul h h)
    omega
theorem rtOk_no {ρ : Type} {K : Option ρ} {X : Option ρ} {a b c : Int} (h : rtOk a b c = false) :
    (bif !qOkB a b then K else bif bif false then true else decide (a < 0) then K else bif bif false then true else decide (c < 1) then K else bif bif false then true else decide (1000000 < c) then K else X) = K := by
  unfold rtOk at h
  cases h1 : qOkB a b
  · rfl
  · cases h2 : decide (a < 0)
    · cases h3 : decide (c < 1)
      · cases h4 : decide (1000000 < c)
        · rw [h1, h2, h3, h4] at h; contradiction
        · rfl
      · rfl
    · rfl
theorem rtOk_yes {ρ : Type} {K : Option ρ} {X : Option ρ} {a b c : Int} (h : rtOk a b c = true) :
    (bif !qOkB a b then K else bif bif false then true else decide (a < 0) then K else bif bif false then true else decide (c < 1) then K else bif bif false then true else decide (1000000 < c) then K else X) = X := by
  unfold rtOk at h
  cases h1 : qOkB a b
  · rw [h1] at h; contradiction
  · cases h2 : decide (a < 0)
    · cases h3 : decide (c < 1)
      · cases h4 : decide (1000000 < c)
        · rfl
        · rw [h1, h2, h3, h4] at h; contradiction
      · rw [h1, h2, h3] at h; contradiction
    · rw [h1, h2] at h; contradiction
theorem orc_rootS : OrcOK NN Tryz.prog 23 rootO :=
  OrcOK.of_tale (runF_ok srE_ok mixT (A := A23s) (fuel := 0) Tryz.func23 (c := bodyOf Tryz.f23) (by kernel_rfl)
    (SumsOK.ofL (ls := [loopAt Tryz.f23 0]) (by kernel_rfl) ⟨sumL1 (by kernel_rfl) sum23, trivial⟩)) fun ρ args H cont r h => by
    unfold rootO at h
    split at h
    · rename_i a b c
      refine (gq23 cont a b c).trans ?_
      cases hk : rtOk a b c
      · rw [rtOk_no hk]
        unfold rtN rtD rtT at h
        rw [hk] at h
        exact h
      · rw [rtOk_yes hk]
        obtain ⟨_, ha, hb, hc⟩ := rt_facts hk
        obtain ⟨s, n, m, e1, e2, e3, _, _, hs, hn⟩ := rtI_ok hk
        have w1 := words_small (n := a.natAbs) (by omega)
        have w2 := words_small (n := c.natAbs) (by omega)
        have w3 := words_imul c c
        have w4 : (words n).length ≤ 4 := words_length (by omega)
        rw [if_pos ⟨by omega, by omega⟩, if_pos ⟨by omega, by omega⟩, if_pos ⟨by omega, by omega⟩, if_pos ⟨zOk_zD (by omega), zOk_zD (by omega), rfl⟩]
        simp only [zV_zD]
        rw [if_pos ⟨zOk_zD (by omega), zOk_zD (by omega), trivial⟩, e2]
        unfold srR
        have e4 : (val (words n)) = a * (c * c) := by rw [val_words, e2]
        have e5 : bisV b (a * (c * c)) = s := e1
        rw [Int.natAbs_natCast, e4, e5, if_pos ⟨⟨rfl, rfl, rfl, rfl, by omega, by omega⟩, decide_eq_false (by omega), by rw [e2, Int.toNat_natCast], by omega⟩, if_pos ⟨⟨by omega, by omega⟩, by omega, by omega⟩]
        unfold rtN rtD rtT at h
        rw [hk, e1] at h
        unfold qofA qofB qofC
        rw [if_neg (by omega), if_neg (by omega), if_neg (by omega)]
        exact h
    · contradiction
end Go.Abs
namespace Go.Abs
open Go.Proofs
set_option linter.unusedVariables false
set_option maxRecDepth 100000
theorem szQ_divI {n d : Int} (hd : d ≠ 0) (h1 : n.natAbs < 4294967296 ^ 8) (h2 : d.natAbs < 4294967296 ^ 8) : szQ (Rat.divInt n d) = true := by
  have h := divInt_le (n := n) hd
  have l1 : (words (Rat.divInt n d).num.natAbs).length ≤ 8 := words_length (Nat.lt_of_le_of_lt h.1 h1)
  have l2 : (words (Rat.divInt n d).den).length ≤ 8 := words_length (Nat.lt_of_le_of_lt h.2 h2)
  unfold szQ
  rw [decide_eq_true (by omega), decide_eq_true (by omega)]; rfl
theorem rtM_ok {n m : Nat} (hm : 0 < m) : 0 ≤ (Rat.divInt n m).num ∧ rtM (Rat.divInt n m) * m ≤ n ∧ n < (rtM (Rat.divInt n m) + 1) * m := by
  obtain ⟨k1, k2⟩ := divInt_pos (n : Int) (m : Int) (by omega)
  have hg : Int.gcd (n : Int) (m : Int) = Nat.gcd n m := rfl
  have hgp : 0 < Nat.gcd n m := Nat.gcd_pos_of_pos_right _ hm
  obtain ⟨x, hx⟩ := Nat.gcd_dvd_left n m
  obtain ⟨y, hy⟩ := Nat.gcd_dvd_right n m
  rw [hg] at k1 k2
  generalize Nat.gcd n m = g at *
  have ex : (Rat.divInt n m).num = (x : Int) := by
    rw [k1, hx, Int.natCast_mul, Int.mul_ediv_cancel_left _ (by omega)]
  have ey : ((Rat.divInt n m).den : Int) = (y : Int) := by
    rw [k2, hy, Int.natCast_mul, Int.mul_ediv_cancel_left _ (by omega)]
  have hM : rtM (Rat.divInt n m) = x / y := by
    unfold rtM
    rw [ex, ey, Int.natAbs_tdiv, Int.natAbs_natCast, Int.natAbs_natCast]
    rfl
  have hyp : 0 < y := by
    rcases Nat.eq_zero_or_pos y with h | h
    · subst h; omega
    · exact h
  rw [hM, ex]
  refine ⟨by omega, ?_, ?_⟩
  · have h1 : x / y * y ≤ x := Nat.div_mul_le_self x y
    have h2 : g * (x / y * y) ≤ g * x := Nat.mul_le_mul_left g h1
    rw [hx, hy]
    rw [Nat.mul_left_comm] at h2
    omega
  · have h1 : x < (x / y + 1) * y := by
      have h1 := Nat.div_add_mod x y
      have h2 := Nat.mod_lt x hyp
      rw [Nat.add_mul, Nat.one_mul, Nat.mul_comm (x / y) y]
      omega
    have h2 : g * x < g * ((x / y + 1) * y) := Nat.mul_lt_mul_of_pos_left h1 hgp
    rw [hx, hy]
    rw [Nat.mul_left_comm] at h2
    omega
theorem orc_rootI : OrcOK NN Tryz.prog 22 rootO :=
  OrcOK.of_tale (runF_ok rtE_ok mixT (A := Ash) (fuel := 0) Tryz.func22 (c := bodyOf Tryz.f22) (by kernel_rfl) (wp_loops (by kernel_rfl))) fun ρ args H cont r h => by
    unfold rootO at h
    split at h
    · rename_i a b c
      refine (gq22 cont a b c).trans ?_
      cases hk : rtOk a b c
      · rw [rtOk_no hk]
        unfold rtN rtD rtT at h
        rw [hk] at h
        exact h
      · rw [rtOk_yes hk]
        obtain ⟨hq, ha, hb, hc⟩ := rt_facts hk
        obtain ⟨s, n, m, e1, e2, e3, s1, s2, hs, hn⟩ := rtI_ok hk
        have hc0 : c ≠ 0 := by omega
        have z1 : szQ (Rat.divInt c 1) = true := szQ_divI (by decide) (by omega) (by decide)
        have p1 : Rat.divInt a b * Rat.divInt c 1 = Rat.divInt (a * c) b := by rw [Rat.divInt_mul_divInt, Int.mul_one]
        have p2 : Rat.divInt (a * c) b * Rat.divInt c 1 = Rat.divInt n m := by rw [Rat.divInt_mul_divInt, Int.mul_one, Int.mul_assoc, e2, e3]
        have hac : (a * c).natAbs ≤ 1000000000000000000 * 1000000 := by
          rw [Int.natAbs_mul]; exact Nat.mul_le_mul (by omega) (by omega)
        have z2 : szQ (Rat.divInt (a * c) b) = true := szQ_divI (by omega) (by omega) (by omega)
        have z3 : szQ (Rat.divInt n m) = true := szQ_divI (by omega) (by omega) (by omega)
        obtain ⟨m0, m1, m2⟩ := rtM_ok (n := n) (m := m) (by omega)
        rw [p1, p2, if_pos hq, if_pos ⟨by omega, by omega⟩, if_pos (by rw [szQ_q hq, z1]; rfl), if_pos ⟨by omega, by omega⟩, if_pos (by rw [z2, z1]; rfl)]
        unfold rtR
        generalize hM : rtM (Rat.divInt n m) = M at *
        have hMn : M ≤ n := Nat.le_trans (Nat.le_mul_of_pos_right M (by omega)) m1
        have w1 : (words M).length ≤ 4 := words_length (by omega)
        have ev : (val (words M)).toNat = M := by rw [val_words, Int.toNat_natCast]
        obtain ⟨q1, q2⟩ := isq_ok M
        have et : isq M = s := by
          refine (root_one (m := m) s1 s2 ?_ ?_).symm
          · exact Nat.le_trans (Nat.mul_le_mul_right _ q1) m1
          · exact Nat.lt_of_lt_of_le m2 (Nat.mul_le_mul_right _ q2)
        have w2 := words_small (n := s) (by omega)
        have z4 : szQ (Rat.divInt (s : Int) 1) = true := szQ_divI (by decide) (by omega) (by decide)
        rw [ev, et, zV_zD, if_pos (by rw [z3, decide_eq_true m0]; rfl), if_pos ⟨rfl, by omega⟩, if_pos ⟨zOk_zD (by rw [Int.natAbs_natCast]; omega), z4⟩, if_pos ⟨by omega, by omega⟩]
        have hne : Rat.divInt c 1 ≠ 0 := by
          intro h0
          have := (divInt_pos c 1 (by decide)).1
          rw [h0, Int.gcd_one] at this
          simp at this
          exact hc0 this.symm
        have ed : Rat.divInt (s : Int) 1 / Rat.divInt c 1 = Rat.divInt s c := by rw [Rat.div_def, Rat.inv_divInt, Rat.divInt_mul_divInt, Int.mul_one, Int.one_mul]
        rw [if_pos (by rw [z4, z1, decide_eq_true hne]; rfl), ed]
        unfold rtN rtD rtT at h
        rw [hk, e1] at h
        exact h
    · contradiction
end Go.Abs
namespace Go.Abs
open Go.Proofs
set_option linter.unusedVariables false
set_option maxRecDepth 100000
def pls (p q : Rat) : Rat := p + q
def mns (p q : Rat) : Rat := p - q
def tms (p q : Rat) : Rat := p * q
theorem fit_ok {r : Rat} (h : qFit r = true) : qOkB (qNum r) (qDen r) = true ∧ Rat.divInt (qNum r) (qDen r) = r := by
  have h' : r.num.natAbs ≤ 1000000000000000000 ∧ r.den ≤ 1000000000000000000 := of_decide_eq_true h
  have e1 : qNum r = r.num := by unfold qNum; rw [if_pos h']
  have e2 : qDen r = r.den := by unfold qDen; rw [if_pos h']
  have h3 := r.den_pos
  have h4 : Int.gcd r.num r.den = 1 := r.reduced
  rw [e1, e2]
  exact ⟨qOkB_iff.2 ⟨by omega, by omega, by omega, by omega, h4⟩, Rat.num_divInt_den r⟩
theorem ok_fit {a b : Int} (h : qOkB a b = true) : qFit (Rat.divInt a b) = true ∧ qNum (Rat.divInt a b) = a ∧ qDen (Rat.divInt a b) = b := by
  obtain ⟨h1, h2, h3, h4, h5⟩ := qOkB_iff.1 h
  obtain ⟨k1, k2⟩ := q_rt h
  have h' : (Rat.divInt a b).num.natAbs ≤ 1000000000000000000 ∧ (Rat.divInt a b).den ≤ 1000000000000000000 := by omega
  unfold qFit qNum qDen
  rw [if_pos h', if_pos h']
  exact ⟨decide_eq_true h', k1, k2⟩
section
variable {g : Int → Int → Int → Int → Bool} {f : Rat → Rat → Rat} {a b c d : Int}
theorem opT_g (h : opT g f a b c d = true) : g a b c d = true := by
  unfold opT at h
  cases hg : g a b c d
  · rw [hg] at h; contradiction
  · rfl
theorem op_fit (h : opT g f a b c d = true) : qOkB (opN g f a b c d) (opD g f a b c d) = true ∧ Rat.divInt (opN g f a b c d) (opD g f a b c d) = f (Rat.divInt a b) (Rat.divInt c d) := by
  have hg := opT_g h
  unfold opT at h
  unfold opN opD
  rw [hg] at h ⊢
  exact fit_ok h
theorem op_is {x y : Int} (hg : g a b c d = true) (hx : qOkB x y = true) (e : f (Rat.divInt a b) (Rat.divInt c d) = Rat.divInt x y) : opT g f a b c d = true ∧ opN g f a b c d = x ∧ opD g f a b c d = y := by
  unfold opT opN opD
  rw [hg, e]
  exact ok_fit hx
theorem op_no (h : g a b c d = false) : opT g f a b c d = false ∧ opN g f a b c d = 0 ∧ opD g f a b c d = 0 := by
  unfold opT opN opD
  rw [h]
  exact ⟨rfl, rfl, rfl⟩
end
theorem ok2_of {a b c d : Int} (h1 : qOkB a b = true) (h2 : qOkB c d = true) : ok2 a b c d = true := by unfold ok2; rw [h1, h2]; rfl
theorem of_ok2 {a b c d : Int} (h : ok2 a b c d = true) : qOkB a b = true ∧ qOkB c d = true := by unfold ok2 at h; rw [Bool.and_eq_true] at h; exact h
end Go.Abs
namespace Go.Abs
open Go.Proofs
set_option linter.unusedVariables false
set_option maxRecDepth 100000
noncomputable def belowG (xs : List Int) (p n : Int) : Int × Int := bif decide (n ≤ 256) then belowF xs p n else
  ((IntKind.i64.wrap (IntKind.i64.wrap ((nextF xs p).1 * 256) + (nextF xs (nextF xs p).2).1)).tmod n, (nextF xs (nextF xs p).2).2)
def nG (f : List Int → Int → Int → Int × Int) : Orc := fun ρ args H cont => match args, H with
  | [.v false [.ptr 0 0], .v false [.int .i64 n]], [.var [.sl none (.int .u8) xs, .int .i64 p]] => bif decide (n ≤ 1) then none else (if rdOkB xs p = true then cont (shI (f xs p n).1) [.var [.sl none (.int .u8) xs, .int .i64 (f xs p n).2]] else none)
  | _, _ => none
theorem orc_belowG : OrcOK NN Tryz.prog 77 (nG belowG) :=
  OrcOK.of_tale (cR_ok (A := Ash) (fuel := 5) rE1_ok rfl Tryz.func77 (by kernel_rfl)) fun ρ args H cont r h => by
    unfold nG at h
    split at h
    · rename_i n xs p
      refine (drw77 cont xs p n).trans ?_
      by_cases h1 : n ≤ 1
      · rw [decide_eq_true h1, cond_true] at h; contradiction
      · rw [decide_eq_false h1, cond_false] at h ⊢
        split at h
        · rename_i hc
          unfold belowG at h
          by_cases h2 : n ≤ 256
          · rw [decide_eq_true h2, cond_true] at h ⊢
            rw [if_pos hc, if_neg (by omega)]; exact h
          · rw [decide_eq_false h2, cond_false] at h ⊢
            rw [if_pos hc, if_pos (nextP hc), if_neg (by omega)]; exact h
        · contradiction
    · contradiction
theorem belowGP {xs : List Int} {p n : Int} (h : rdOkB xs p = true) : rdOkB xs (belowG xs p n).2 = true := by
  unfold belowG
  cases decide (n ≤ 256)
  · exact nextP (nextP h)
  · exact belowP h
theorem belowGR {xs : List Int} {p : Int} (h : rdOkB xs p = true) {n : Int} (hn : 1 < n) (h2 : n ≤ 256) : 0 ≤ (belowG xs p n).1 ∧ (belowG xs p n).1 < n := by
  unfold belowG
  rw [decide_eq_true h2]
  exact belowR h hn
def odd5 : List Int := [0, 1000000, 1000001, 1, 99999]
noncomputable def rE9 : Env := VL tryT [] [(77, nG belowG), (76, rO shQ anyF), (78, nO shB onceF), (75, cR rE Ash 5 Tryz.f75), (79, qofO)]
theorem rE9_ok : EnvOK NN Tryz.prog rE9 := VL_ok (TabOk.of tryT_ok) (gamC orc_belowG Tryz.call77 (gamC orc_any Tryz.call76 (gamC orc_once Tryz.call78 (gamC (cR_ok rE_ok rfl Tryz.func75 (by kernel_rfl)) Tryz.call75 (gamC orc_qof Tryz.call79 (gamN _ _))))))
theorem drw21 {ρ : Type} (cont : SV → HL → Option ρ) (xs : List Int) : runF rE9 Ash 20 Tryz.f21 (bodyOf Tryz.f21) ρ [one (.sl none (.int .u8) xs)] [] cont =
  if rdOkB xs 0 = true then if rdOkB xs (anyF xs 0).snd = true then if rdOkB xs (belowG xs (anyF xs 0).snd 200).snd = true then bif (onceF xs (belowG xs (anyF xs 0).snd 200).snd 6).fst then if rdOkB xs (onceF xs (belowG xs (anyF xs 0).snd 200).snd 6).snd = true then if 0 ≤ (belowG xs (onceF xs (belowG xs (anyF xs 0).snd 200).snd 6).snd 5).fst ∧ (belowG xs (onceF xs (belowG xs (anyF xs 0).snd
  200).snd 6).snd 5).fst < (odd5.length : Int) then odd5[0 + (belowG xs (onceF xs (belowG xs (anyF xs 0).snd 200).snd 6).snd 5).fst.toNat]?.bind fun x => if rdOkB xs (belowG xs (onceF xs (belowG xs (anyF xs 0).snd 200).snd 6).snd 5).snd = true then bif (onceF xs (belowG xs (onceF xs (belowG xs (anyF xs 0).snd 200).snd 6).snd 5).snd 3).fst then if rdOkB xs (onceF xs (belowG xs (onceF xs (belowG xs
  (anyF xs 0).snd 200).snd 6).snd 5).snd 3).snd = true then if rdOkB xs (belowG xs (onceF xs (belowG xs (onceF xs (belowG xs (anyF xs 0).snd 200).snd 6).snd 5).snd 3).snd 3000).snd = true then if (-9223372036854775808 ≤ IntKind.i64.wrap ((belowG xs (onceF xs (belowG xs (onceF xs (belowG xs (anyF xs 0).snd 200).snd 6).snd 5).snd 3).snd 3000).fst * (belowG xs (onceF xs (belowG xs (onceF xs (belowG xs
  (anyF xs 0).snd 200).snd 6).snd 5).snd 3).snd 3000).fst) ∧ IntKind.i64.wrap ((belowG xs (onceF xs (belowG xs (onceF xs (belowG xs (anyF xs 0).snd 200).snd 6).snd 5).snd 3).snd 3000).fst * (belowG xs (onceF xs (belowG xs (onceF xs (belowG xs (anyF xs 0).snd 200).snd 6).snd 5).snd 3).snd 3000).fst) < 9223372036854775808) ∧ -9223372036854775808 ≤ IntKind.i64.wrap (1 + (belowG xs (belowG xs (onceF xs
  (belowG xs (onceF xs (belowG xs (anyF xs 0).snd 200).snd 6).snd 5).snd 3).snd 3000).snd 9).fst) ∧ IntKind.i64.wrap (1 + (belowG xs (belowG xs (onceF xs (belowG xs (onceF xs (belowG xs (anyF xs 0).snd 200).snd 6).snd 5).snd 3).snd 3000).snd 9).fst) < 9223372036854775808 then cont (SV.tup [(true, [Atom.int IntKind.i64 (qofA (IntKind.i64.wrap ((belowG xs (onceF xs (belowG xs (onceF xs (belowG xs
  (anyF xs 0).snd 200).snd 6).snd 5).snd 3).snd 3000).fst * (belowG xs (onceF xs (belowG xs (onceF xs (belowG xs (anyF xs 0).snd 200).snd 6).snd 5).snd 3).snd 3000).fst)) (IntKind.i64.wrap (1 + (belowG xs (belowG xs (onceF xs (belowG xs (onceF xs (belowG xs (anyF xs 0).snd 200).snd 6).snd 5).snd 3).snd 3000).snd 9).fst))), Atom.int IntKind.i64 (qofB (IntKind.i64.wrap ((belowG xs (onceF xs (belowG xs
  (onceF xs (belowG xs (anyF xs 0).snd 200).snd 6).snd 5).snd 3).snd 3000).fst * (belowG xs (onceF xs (belowG xs (onceF xs (belowG xs (anyF xs 0).snd 200).snd 6).snd 5).snd 3).snd 3000).fst)) (IntKind.i64.wrap (1 + (belowG xs (belowG xs (onceF xs (belowG xs (onceF xs (belowG xs (anyF xs 0).snd 200).snd 6).snd 5).snd 3).snd 3000).snd 9).fst)))]), (false, [Atom.int IntKind.i64 x])]) [] else none else
  none else none else cont (SV.tup [(true, [Atom.int IntKind.i64 (anyF xs 0).fst.fst, Atom.int IntKind.i64 (anyF xs 0).fst.snd]), (false, [Atom.int IntKind.i64 x])]) [] else none else none else none else if rdOkB xs (onceF xs (belowG xs (anyF xs 0).snd 200).snd 6).snd = true then bif (onceF xs (onceF xs (belowG xs (anyF xs 0).snd 200).snd 6).snd 3).fst then if rdOkB xs (onceF xs (onceF xs (belowG xs
  (anyF xs 0).snd 200).snd 6).snd 3).snd = true then if rdOkB xs (belowG xs (onceF xs (onceF xs (belowG xs (anyF xs 0).snd 200).snd 6).snd 3).snd 3000).snd = true then if (-9223372036854775808 ≤ IntKind.i64.wrap ((belowG xs (onceF xs (onceF xs (belowG xs (anyF xs 0).snd 200).snd 6).snd 3).snd 3000).fst * (belowG xs (onceF xs (onceF xs (belowG xs (anyF xs 0).snd 200).snd 6).snd 3).snd 3000).fst) ∧
  IntKind.i64.wrap ((belowG xs (onceF xs (onceF xs (belowG xs (anyF xs 0).snd 200).snd 6).snd 3).snd 3000).fst * (belowG xs (onceF xs (onceF xs (belowG xs (anyF xs 0).snd 200).snd 6).snd 3).snd 3000).fst) < 9223372036854775808) ∧ -9223372036854775808 ≤ IntKind.i64.wrap (1 + (belowG xs (belowG xs (onceF xs (onceF xs (belowG xs (anyF xs 0).snd 200).snd 6).snd 3).snd 3000).snd 9).fst) ∧
  IntKind.i64.wrap (1 + (belowG xs (belowG xs (onceF xs (onceF xs (belowG xs (anyF xs 0).snd 200).snd 6).snd 3).snd 3000).snd 9).fst) < 9223372036854775808 then cont (SV.tup [(true, [Atom.int IntKind.i64 (qofA (IntKind.i64.wrap ((belowG xs (onceF xs (onceF xs (belowG xs (anyF xs 0).snd 200).snd 6).snd 3).snd 3000).fst * (belowG xs (onceF xs (onceF xs (belowG xs (anyF xs 0).snd 200).snd 6).snd 3).snd
  3000).fst)) (IntKind.i64.wrap (1 + (belowG xs (belowG xs (onceF xs (onceF xs (belowG xs (anyF xs 0).snd 200).snd 6).snd 3).snd 3000).snd 9).fst))), Atom.int IntKind.i64 (qofB (IntKind.i64.wrap ((belowG xs (onceF xs (onceF xs (belowG xs (anyF xs 0).snd 200).snd 6).snd 3).snd 3000).fst * (belowG xs (onceF xs (onceF xs (belowG xs (anyF xs 0).snd 200).snd 6).snd 3).snd 3000).fst)) (IntKind.i64.wrap (1
  + (belowG xs (belowG xs (onceF xs (onceF xs (belowG xs (anyF xs 0).snd 200).snd 6).snd 3).snd 3000).snd 9).fst)))]), (false, [Atom.int IntKind.i64 (IntKind.i64.wrap (1 + (belowG xs (anyF xs 0).snd 200).fst))])]) [] else none else none else none else cont (SV.tup [(true, [Atom.int IntKind.i64 (anyF xs 0).fst.fst, Atom.int IntKind.i64 (anyF xs 0).fst.snd]), (false, [Atom.int IntKind.i64
  (IntKind.i64.wrap (1 + (belowG xs (anyF xs 0).snd 200).fst))])]) [] else none else none else none else none := by kernel_rfl
structure Thr where
  a : Int
  b : Int
  c : Int
def thrO (f : List Int → Thr) : Orc := fun ρ args H cont => match args, H with
  | [.v false [.sl none (.int .u8) xs]], [] => if rdOkB xs 0 = true then cont (.tup [(true, [.int .i64 (f xs).a, .int .i64 (f xs).b]), (false, [.int .i64 (f xs).c])]) [] else none
  | _, _ => none
theorem thr_ok {n : Nat} {F : Orc} (hF : OrcOK NN Tryz.prog n F) (h : ∀ xs, rdOkB xs 0 = true → ∃ t : Thr, ∀ ρ (cont : SV → HL → Option ρ), F ρ [one (.sl none (.int .u8) xs)] [] cont = cont (.tup [(true, [.int .i64 t.a, .int .i64 t.b]), (false, [.int .i64 t.c])]) []) :
    ∃ f, OrcOK NN Tryz.prog n (thrO f) := by
  classical
  have h' : ∀ xs, ∃ t : Thr, rdOkB xs 0 = true → ∀ ρ (cont : SV → HL → Option ρ), F ρ [one (.sl none (.int .u8) xs)] [] cont = cont (.tup [(true, [.int .i64 t.a, .int .i64 t.b]), (false, [.int .i64 t.c])]) [] := fun xs => by
    by_cases hc : rdOkB xs 0 = true
    · obtain ⟨t, ht⟩ := h xs hc; exact ⟨t, fun _ => ht⟩
    · exact ⟨⟨0, 0, 0⟩, fun h => absurd h hc⟩
  refine ⟨fun xs => (h' xs).choose, OrcOK.of_tale hF fun ρ args H cont r hr => ?_⟩
  unfold thrO at hr
  split at hr
  · rename_i xs
    split at hr
    · rename_i hc
      exact ((h' xs).choose_spec hc ρ cont).trans hr
    · contradiction
  · contradiction
theorem root_draw : ∃ f, OrcOK NN Tryz.prog 21 (thrO f) :=
  thr_ok (cR_ok (A := Ash) (fuel := 20) rE9_ok rfl Tryz.func21 (by kernel_rfl)) fun xs h0 => by
    have h1 := anyP h0
    have h2 := belowGP (n := 200) h1
    have h3 := onceP (n := 6) h2
    cases o6 : (onceF xs (belowG xs (anyF xs 0).snd 200).snd 6).fst
    · have h5 := onceP (n := 3) h3
      cases o3 : (onceF xs (onceF xs (belowG xs (anyF xs 0).snd 200).snd 6).snd 3).fst
      · exact ⟨⟨(anyF xs 0).fst.fst, (anyF xs 0).fst.snd, IntKind.i64.wrap (1 + (belowG xs (anyF xs 0).snd 200).fst)⟩, fun ρ cont => (drw21 cont xs).trans (by
          rw [if_pos h0, if_pos h1, if_pos h2, o6, cond_false, if_pos h3, o3, cond_false])⟩
      · have h6 := belowGP (n := 3000) h5
        exact ⟨⟨_, _, IntKind.i64.wrap (1 + (belowG xs (anyF xs 0).snd 200).fst)⟩, fun ρ cont => (drw21 cont xs).trans (by
          rw [if_pos h0, if_pos h1, if_pos h2, o6, cond_false, if_pos h3, o3, cond_true, if_pos h5, if_pos h6, if_pos ⟨i64_rng _, i64_rng _⟩])⟩
    · have hn := belowGR (n := 5) h3 (by decide) (by decide)
      have h4 := belowGP (n := 5) h3
      have h5 := onceP (n := 3) h4
      have hl : 0 + (belowG xs (onceF xs (belowG xs (anyF xs 0).snd 200).snd 6).snd 5).fst.toNat < odd5.length := by
        show _ < 5
        omega
      have hn5 : (belowG xs (onceF xs (belowG xs (anyF xs 0).snd 200).snd 6).snd 5).fst < (odd5.length : Int) := by
        show _ < ((5 : Nat) : Int)
        omega
      cases o3 : (onceF xs (belowG xs (onceF xs (belowG xs (anyF xs 0).snd 200).snd 6).snd 5).snd 3).fst
      · exact ⟨⟨(anyF xs 0).fst.fst, (anyF xs 0).fst.snd, odd5[0 + (belowG xs (onceF xs (belowG xs (anyF xs 0).snd 200).snd 6).snd 5).fst.toNat]⟩, fun ρ cont => (drw21 cont xs).trans (by
          rw [if_pos h0, if_pos h1, if_pos h2, o6, cond_true, if_pos h3, if_pos ⟨hn.1, hn5⟩, List.getElem?_eq_getElem hl, Option.bind_some, if_pos h4, o3, cond_false])⟩
      · have h6 := belowGP (n := 3000) h5
        exact ⟨⟨_, _, odd5[0 + (belowG xs (onceF xs (belowG xs (anyF xs 0).snd 200).snd 6).snd 5).fst.toNat]⟩, fun ρ cont => (drw21 cont xs).trans (by
          rw [if_pos h0, if_pos h1, if_pos h2, o6, cond_true, if_pos h3, if_pos ⟨hn.1, hn5⟩, List.getElem?_eq_getElem hl, Option.bind_some, if_pos h4, o3, cond_true, if_pos h5, if_pos h6, if_pos ⟨i64_rng _, i64_rng _⟩])⟩
end Go.Abs
namespace Go.Abs
open Go.Proofs
set_option linter.unusedVariables false
set_option maxRecDepth 100000
noncomputable def rlE (f : List Int → Thr) : Env := VL tryT [] [(10, cR rE Ash 5 Tryz.f10), (21, thrO f), (22, rootO), (23, rootO), (14, opO ok2 pls), (19, opO ok2 tms), (16, qcmO), (15, livesO)]
theorem rlE_ok {f : List Int → Thr} (hf : OrcOK NN Tryz.prog 21 (thrO f)) : EnvOK NN Tryz.prog (rlE f) := VL_ok (TabOk.of tryT_ok) (gamC (cR_ok rE_ok rfl Tryz.func10 (by kernel_rfl)) Tryz.call10 (gamC hf Tryz.call21 (gamC orc_rootI Tryz.call22 (gamC orc_rootS Tryz.call23 (gamC orc_qadd Tryz.call14 (gamC orc_qmul Tryz.call19 (gamC orc_qcmp Tryz.call16 (gamC lives_ok Tryz.call15 (gamN _ _)))))))))
section
variable {ρ : Type} (K : Bool → Option ρ) (a b c : Int)
noncomputable def rlU : Option ρ :=
  bif !opT ok2 pls (rtN a b c) (rtD a b c) 1 c then K true else
  bif bif true then decide (0 ≤ rtN a b c) else false then
    (bif !opT ok2 tms (opN ok2 pls (rtN a b c) (rtD a b c) 1 c) (opD ok2 pls (rtN a b c) (rtD a b c) 1 c) (opN ok2 pls (rtN a b c) (rtD a b c) 1 c) (opD ok2 pls (rtN a b c) (rtD a b c) 1 c) then K true else
      K (bif true then bif false then true else decide (0 < qcmV (opN ok2 tms (opN ok2 pls (rtN a b c) (rtD a b c) 1 c) (opD ok2 pls (rtN a b c) (rtD a b c) 1 c) (opN ok2 pls (rtN a b c) (rtD a b c) 1 c) (opD ok2 pls (rtN a b c) (rtD a b c) 1 c))
        (opD ok2 tms (opN ok2 pls (rtN a b c) (rtD a b c) 1 c) (opD ok2 pls (rtN a b c) (rtD a b c) 1 c) (opN ok2 pls (rtN a b c) (rtD a b c) 1 c) (opD ok2 pls (rtN a b c) (rtD a b c) 1 c)) a b) else false))
  else K false
noncomputable def rlAll : Option ρ :=
  bif rtT a b c != rtT a b c then K false else bif !rtT a b c then K true else
  bif opT ok2 tms (rtN a b c) (rtD a b c) (rtN a b c) (rtD a b c) then
    (bif bif true then decide (0 < qcmV (opN ok2 tms (rtN a b c) (rtD a b c) (rtN a b c) (rtD a b c)) (opD ok2 tms (rtN a b c) (rtD a b c) (rtN a b c) (rtD a b c)) a b) else false then K false else rlU K a b c)
  else rlU K a b c
end
theorem gq4 {ρ : Type} (cont : SV → HL → Option ρ) (f : List Int → Thr) (xs : List Int) : runF (rlE f) Ash 20 Tryz.f4 (bodyOf Tryz.f4) ρ [one (.sl none (.int .u8) xs)] [] cont =
    bif decide (1048576 < (xs.length : Int)) then cont (one (.bool true)) [] else if rdOkB xs 0 = true then rlAll (fun o => cont (one (.bool o)) []) (f xs).a (f xs).b (f xs).c else none := by kernel_rfl
section
variable {ρ : Type} {K : Bool → Option ρ} {a b c : Int}
theorem rt_real (h : rtT a b c = true) : rtOk a b c = true ∧ qOkB (rtN a b c) (rtD a b c) = true ∧ Rat.divInt (rtN a b c) (rtD a b c) = Rat.divInt (rtI a b c) c := by
  cases hk : rtOk a b c
  · unfold rtT at h; rw [hk] at h; contradiction
  · unfold rtT at h
    unfold rtN rtD
    rw [hk] at h ⊢
    exact ⟨rfl, fit_ok h⟩
theorem qcmV_eq {x y u v : Int} (h1 : qOkB x y = true) (h2 : qOkB u v = true) : qcmV x y u v = cmpQ (Rat.divInt x y) (Rat.divInt u v) := by
  unfold qcmV; rw [ok2_of h1 h2]; rfl
theorem rlU_eq (h : rtT a b c = true) : rlU K a b c = K true := by
  obtain ⟨hk, hq, hr⟩ := rt_real h
  obtain ⟨s, n, m, e1, e2, e3, s1, s2, hs, hn⟩ := rtI_ok hk
  obtain ⟨ha, ⟨_, _⟩, ⟨hb, _⟩, hc, hc'⟩ := rt_facts hk
  unfold rlU
  have h0 : 0 ≤ rtN a b c := by
    have := (q_rt hq).1
    rw [← this, hr, e1, (divInt_pos (s : Int) c (by omega)).1]
    exact Int.ediv_nonneg (by omega) (by omega)
  rw [decide_eq_true h0]
  cases hU : opT ok2 pls (rtN a b c) (rtD a b c) 1 c
  · rfl
  · obtain ⟨f1, g1⟩ := op_fit hU
    cases hV : opT ok2 tms (opN ok2 pls (rtN a b c) (rtD a b c) 1 c) (opD ok2 pls (rtN a b c) (rtD a b c) 1 c) (opN ok2 pls (rtN a b c) (rtD a b c) 1 c) (opD ok2 pls (rtN a b c) (rtD a b c) 1 c)
    · rfl
    · obtain ⟨f2, g2⟩ := op_fit hV
      have e : 0 < qcmV (opN ok2 tms (opN ok2 pls (rtN a b c) (rtD a b c) 1 c) (opD ok2 pls (rtN a b c) (rtD a b c) 1 c) (opN ok2 pls (rtN a b c) (rtD a b c) 1 c) (opD ok2 pls (rtN a b c) (rtD a b c) 1 c)) (opD ok2 tms (opN ok2 pls (rtN a b c) (rtD a b c) 1 c) (opD ok2 pls (rtN a b c) (rtD a b c) 1 c) (opN ok2 pls (rtN a b c) (rtD a b c) 1 c) (opD ok2 pls (rtN a b c) (rtD a b c) 1 c)) a b := by
        have hcc : c * c ≠ 0 := Int.mul_ne_zero (by omega) (by omega)
        have hccp : 0 < c * c := Int.mul_pos (by omega) (by omega)
        have es : pls (Rat.divInt (s : Int) c) (Rat.divInt 1 c) = Rat.divInt ((s : Int) + 1) c := by
          unfold pls
          rw [Rat.divInt_add_divInt _ _ (by omega) (by omega), ← Int.add_mul, Rat.divInt_mul_right (by omega)]
        have et : tms (Rat.divInt ((s : Int) + 1) c) (Rat.divInt ((s : Int) + 1) c) = Rat.divInt (((s : Int) + 1) * ((s : Int) + 1)) (c * c) := by
          unfold tms
          exact Rat.divInt_mul_divInt _ _
        rw [qcmV_eq f2 ha, g2, g1, hr, e1, es, et, cmp_divInt hccp (by omega), e2, e3]
        rw [Int.sign_eq_one_of_pos (by
          have : ((s : Int) + 1) * ((s : Int) + 1) * m = (((s + 1) * (s + 1) * m : Nat) : Int) := by simp
          omega)]
        decide
      rw [decide_eq_true e]
      rfl
theorem rlAll_eq : rlAll K a b c = K true := by
  unfold rlAll
  rw [bne_self_eq_false, cond_false]
  cases h : rtT a b c
  · rfl
  · rw [Bool.not_true, cond_false]
    cases hM : opT ok2 tms (rtN a b c) (rtD a b c) (rtN a b c) (rtD a b c)
    · exact rlU_eq h
    · obtain ⟨hk, hq, hr⟩ := rt_real h
      obtain ⟨s, n, m, e1, e2, e3, s1, s2, hs, hn⟩ := rtI_ok hk
      obtain ⟨ha, ⟨_, _⟩, ⟨hb, _⟩, hc, hc'⟩ := rt_facts hk
      obtain ⟨f1, g1⟩ := op_fit hM
      have hccp : 0 < c * c := Int.mul_pos (by omega) (by omega)
      have et : tms (Rat.divInt (s : Int) c) (Rat.divInt (s : Int) c) = Rat.divInt ((s : Int) * (s : Int)) (c * c) := by
        unfold tms
        exact Rat.divInt_mul_divInt _ _
      have e : ¬ 0 < qcmV (opN ok2 tms (rtN a b c) (rtD a b c) (rtN a b c) (rtD a b c)) (opD ok2 tms (rtN a b c) (rtD a b c) (rtN a b c) (rtD a b c)) a b := by
        rw [qcmV_eq f1 ha, g1, hr, e1, et, cmp_divInt hccp (by omega), e2, e3]
        have hle : (s : Int) * s * m - n ≤ 0 := by
          have : (s : Int) * (s : Int) * m = ((s * s * m : Nat) : Int) := by simp
          omega
        rcases Int.lt_or_eq_of_le hle with h | h
        · rw [Int.sign_eq_neg_one_of_neg h]; decide
        · rw [h]; decide
      rw [decide_eq_false e]
      exact rlU_eq h
end
theorem rt_law : OrcOK NN Tryz.prog 4 lawO1 := by
  obtain ⟨f, hf⟩ := root_draw
  exact OrcOK.of_tale (cR_ok (A := Ash) (fuel := 20) (rlE_ok hf) rfl Tryz.func4 (by kernel_rfl)) fun ρ args H cont r h => by
    unfold lawO1 at h
    split at h
    · rename_i xs
      split at h
      · rename_i hb
        refine (gq4 cont f xs).trans ?_
        by_cases h1 : (1048576 : Int) < List.length (α := Int) xs
        · rw [decide_eq_true h1]; exact h
        · rw [decide_eq_false h1, cond_false, if_pos (rdOk_iff.2 ⟨hb, by omega, by omega, by omega⟩), rlAll_eq]
          exact h
      · contradiction
    · contradiction
end Go.Abs

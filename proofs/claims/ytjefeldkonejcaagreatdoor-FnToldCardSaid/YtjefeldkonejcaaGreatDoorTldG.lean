/-
  A PART OF THE PROOF of TdI (texts TldG TldH TldI TldJ TldK): the claim itself stands in the last text. No conditions beside those of the given row.
-/
import Derived.Test.YtjefeldkonejcaaGreatDoorDrwA
import Derived.Test.YtjefeldkonejcaaGreatDoorBigC
import Derived.Test.YtjefeldkonejcaaGreatDoorLivE
import Derived.Test.YtjefeldkonejcaaGreatDoorRowA
set_option linter.unusedVariables false
set_option linter.unnecessarySimpa false
set_option linter.unusedSimpArgs false
namespace Go.Abs
open Go.Proofs
set_option maxRecDepth 100000
def q3 (v : Int × Int × Bool) : SV := .tup [(true, [.int .i64 v.1, .int .i64 v.2.1]), (false, [.bool v.2.2])]
theorem asciiB_dig {l : List UInt8} (h : digB l = true) : asciiB (bS l) = true := by
  unfold asciiB bS digB at *
  rw [List.all_eq_true] at *
  intro b hb
  have := h b hb
  simp only [Bool.and_eq_true, Nat.ble_eq] at this
  rw [Nat.blt_eq]
  omega
theorem asciiB_cat {l m : List UInt8} (h : asciiB (bS l) = true) (h' : asciiB (bS m) = true) : asciiB (bS (l ++ m)) = true := by
  unfold asciiB bS at *
  show (l ++ m).all _ = true
  rw [List.all_append]
  exact both h h'
theorem size_bS (l : List UInt8) : (bS l).size = l.length := rfl
theorem rd_num {ρ : Type} (cont : SV -> HL -> Option ρ) (neg : Bool) (u : Nat) (h : u <= 1000000000000000000) :
    rdK cont neg (bS (Lib.decDigits u)) = bif decide (u < 1000000000000000000) then enQ cont neg (Rat.divInt u 1) else noQ cont := by
  obtain ⟨h1, h2, h3, h4, h5⟩ := dcd_ok u
  have hl := dec_len h
  have ix : ixT (bS (Lib.decDigits u)) = -1 := ix_no _ h1
  unfold rdK
  rw [if_pos ⟨⟨by rw [size_bS]; omega, by decide⟩, asciiB_dig h1, by decide⟩, ix, decide_eq_false (by decide), cond_false]
  unfold whK
  have e : (bS (Lib.decDigits u)).data.toList = Lib.decDigits u := rfl
  rw [e, if_pos h1, ix]
  have hg := dec_good u
  unfold dgv
  rw [hg]
  cases hu : decide (u < 1000000000000000000)
  · rfl
  · have := of_decide_eq_true hu
    rw [Bool.not_true, cond_false, cond_true, h2, cond_true]
    unfold wiK
    rw [if_pos (by omega)]
    rfl
theorem cut_l (L M : List UInt8) : strCut (bS (L ++ 47 :: M)) (Int.toNat 0) (L.length : Int).toNat = bS L := by
  unfold strCut bS
  congr 1
  show (List.take ((L.length : Int).toNat - 0) (List.drop 0 (L ++ 47 :: M))).toArray = L.toArray
  rw [Int.toNat_natCast, Nat.sub_zero, List.drop_zero, List.take_left]
theorem cut_r (L M : List UInt8) : strCut (bS (L ++ 47 :: M)) ((L.length : Int) + 1).toNat ((L ++ 47 :: M).length : Int).toNat = bS M := by
  unfold strCut bS
  congr 1
  have e1 : ((L.length : Int) + 1).toNat = L.length + 1 := by omega
  have e2 : (((L ++ 47 :: M).length : Int)).toNat = L.length + (M.length + 1) := by rw [Int.toNat_natCast, List.length_append, List.length_cons]
  show (List.take ((((L ++ 47 :: M).length : Int)).toNat - ((L.length : Int) + 1).toNat) (List.drop ((L.length : Int) + 1).toNat (L ++ 47 :: M))).toArray = M.toArray
  rw [e1, e2, show L.length + (M.length + 1) - (L.length + 1) = M.length by omega, <- List.drop_drop, List.drop_left, List.drop_one, List.tail_cons, List.take_length]
theorem rd_frac {ρ : Type} (cont : SV -> HL -> Option ρ) (neg : Bool) (u d : Nat) (hu : u <= 1000000000000000000) (hd : d <= 1000000000000000000) (hd0 : 1 <= d) :
    rdK cont neg (bS (Lib.decDigits u ++ 47 :: Lib.decDigits d)) = bif decide (u < 1000000000000000000) then bif decide (d < 1000000000000000000) then enQ cont neg (Rat.divInt u d) else noQ cont else noQ cont := by
  obtain ⟨h1, h2, h3, h4, h5⟩ := dcd_ok u
  obtain ⟨k1, k2, k3, k4, k5⟩ := dcd_ok d
  have hl := dec_len hu
  have kl := dec_len hd
  have hg := dec_good u
  have kg := dec_good d
  generalize hL : Lib.decDigits u = L at *
  generalize hM : Lib.decDigits d = M at *
  have ix : ixT (bS (L ++ 47 :: M)) = (L.length : Int) := ix_at L M h1
  have hlen : (L ++ 47 :: M).length = L.length + (M.length + 1) := by rw [List.length_append, List.length_cons]
  have hs : sl_ (bS (L ++ 47 :: M)) = ((L ++ 47 :: M).length : Int) := rfl
  have ha : asciiB (bS (L ++ 47 :: M)) = true := asciiB_cat (asciiB_dig h1) (asciiB_cat (l := [47]) (by decide) (asciiB_dig k1))
  have ew : IntKind.i64.wrap ((L.length : Int) + 1) = (L.length : Int) + 1 := i64_in _ (by omega) (by omega)
  unfold rdK
  rw [if_pos ⟨⟨by rw [size_bS, hlen]; omega, by decide⟩, ha, by decide⟩, ix, decide_eq_true (by omega), cond_true, hs, ew, if_pos ⟨by decide, by omega, by rw [hlen]; omega⟩, if_pos ⟨by omega, by rw [hlen]; omega, Int.le_refl _⟩, cut_l, cut_r]
  unfold whK
  have e1 : (bS L).data.toList = L := rfl
  have e2 : (bS M).data.toList = M := rfl
  rw [e1, if_pos h1, ix, decide_eq_true (show (0 : Int) <= (L.length : Int) by omega), cond_true]
  unfold dgv reK dgv
  rw [e2, ix, hg, kg, if_pos k1]
  cases hu' : decide (u < 1000000000000000000)
  · rfl
  · have hu2 := of_decide_eq_true hu'
    rw [Bool.not_true, cond_false, cond_true, cond_true, h2]
    unfold wiK
    rw [if_pos (by omega)]
    cases hd' : decide (d < 1000000000000000000)
    · rfl
    · have hd2 := of_decide_eq_true hd'
      have hx : (bS (L ++ 47 :: M)).data.toList[(L.length : Int).toNat]? = some 47 := by
        show (L ++ 47 :: M)[(L.length : Int).toNat]? = some 47
        rw [Int.toNat_natCast, List.getElem?_append_right (Nat.le_refl _), Nat.sub_self]
        rfl
      have e47 : (((47 : UInt8).toNat : Int) == 47) = true := rfl
      have ed : ((d : Int) == 0) = false := by rw [beq_eq_false_iff_ne]; omega
      rw [Bool.not_true, cond_false, if_pos (by omega), hx, Option.bind_some, e47, cond_true, cond_true, k2, ed, cond_false, if_pos ⟨⟨by omega, by omega⟩, by omega, by omega⟩]
      rfl
theorem cut_neg (r : List UInt8) : cutN (bS (45 :: r)) = bS r /\ cutQ (bS (45 :: r)) = true := ⟨rfl, rfl⟩
theorem cut_pos {b : UInt8} (r : List UInt8) (h : b ≠ 45) : cutN (bS (b :: r)) = bS (b :: r) /\ cutQ (bS (b :: r)) = false := by
  unfold cutN cutQ bS
  constructor
  · show (match b :: r with | 45 :: r => (⟨r.toArray⟩ : ByteArray) | _ => ⟨(b :: r).toArray⟩) = _
    split
    · rename_i heq; cases heq; exact absurd rfl h
    · rfl
  · show (match b :: r with | 45 :: _ => true | _ => false) = false
    split
    · rename_i heq; cases heq; exact absurd rfl h
    · rfl
theorem cut_dig {l : List UInt8} (h : digB l = true) (h1 : 1 <= l.length) (m : List UInt8) : cutN (bS (l ++ m)) = bS (l ++ m) /\ cutQ (bS (l ++ m)) = false := by
  match l, h, h1 with
  | b :: r, h, h1 =>
    refine cut_pos (r ++ m) ?_
    rintro rfl
    unfold digB at h
    simp at h
theorem ok_abs {a b : Int} (h : qOkB a b = true) : qOkB (a.natAbs : Int) b = true := by
  obtain ⟨h1, h2, h3, h4, h5⟩ := qOkB_iff.1 h
  refine qOkB_iff.2 ⟨h1, h2, by omega, by omega, ?_⟩
  unfold Int.gcd at *
  rw [Int.natAbs_natCast]
  exact h5
theorem en_eq {ρ : Type} (cont : SV -> HL -> Option ρ) {a b : Int} (h : qOkB a b = true) : enQ cont (decide (a < 0)) (Rat.divInt (a.natAbs : Int) b) = cont (q3 (a, b, true)) [] := by
  have t : tupQ (Rat.divInt a b) = q3 (a, b, true) := by
    obtain ⟨h1, h2, h3⟩ := ok_fit h
    unfold tupQ
    rw [h1, h2, h3]
    rfl
  unfold enQ
  by_cases ha : a < 0
  · rw [decide_eq_true ha, cond_true, if_pos ((s8_ok (s8_q (ok_abs h))).qq (by omega)), Rat.neg_divInt]
    have : -((a.natAbs : Int)) = a := by omega
    rw [this, t]
  · rw [decide_eq_false ha, cond_false]
    have : ((a.natAbs : Int)) = a := by omega
    rw [this, t]
theorem rd_txt {a b : Int} (h : qOkB a b = true) : ∃ v : Int × Int × Bool, (∀ (ρ : Type) (cont : SV -> HL -> Option ρ), rdK cont (cutQ (bS (txt a b))) (cutN (bS (txt a b))) = cont (q3 v) []) /\
    (-1000000000000000000 < a /\ a < 1000000000000000000 /\ b < 1000000000000000000 -> v = (a, b, true)) := by
  obtain ⟨h1, h2, h3, h4, h5⟩ := qOkB_iff.1 h
  have hb : b = (b.toNat : Int) := by omega
  have ib : Lib.itoa b = Lib.decDigits b.toNat := by unfold Lib.itoa; rw [if_neg (by omega)]
  obtain ⟨D1, _, D3, _, _⟩ := dcd_ok a.natAbs
  have main : ∀ m : List UInt8, (cutN (bS (Lib.itoa a ++ m)) = bS (Lib.decDigits a.natAbs ++ m) /\ cutQ (bS (Lib.itoa a ++ m)) = decide (a < 0)) := fun m => by
    unfold Lib.itoa
    by_cases ha : a < 0
    · rw [if_pos ha, decide_eq_true ha]
      exact cut_neg _
    · rw [if_neg ha, decide_eq_false ha, show a.toNat = a.natAbs by omega]
      exact cut_dig D1 D3 m
  have sm : ∀ {u : Nat}, decide (u < 1000000000000000000) = false -> ¬ u < 1000000000000000000 := fun h => of_decide_eq_false h
  unfold txt
  cases hc : b != 1
  · have hb1 : b = 1 := by simpa using hc
    rw [cond_false]
    obtain ⟨c1, c2⟩ := main []
    rw [List.append_nil, List.append_nil] at c1
    rw [List.append_nil] at c2
    rw [c1, c2]
    cases hu : decide (a.natAbs < 1000000000000000000)
    · exact ⟨(0, 0, false), fun ρ cont => by rw [rd_num cont _ _ (by omega), hu]; rfl, fun hh => absurd (show a.natAbs < 1000000000000000000 by omega) (sm hu)⟩
    · refine ⟨(a, b, true), fun ρ cont => ?_, fun _ => rfl⟩
      rw [rd_num cont _ _ (by omega), hu, cond_true, <- en_eq cont h, hb1]
  · rw [cond_true, ib]
    obtain ⟨c1, c2⟩ := main (47 :: Lib.decDigits b.toNat)
    rw [c1, c2]
    cases hu : decide (a.natAbs < 1000000000000000000)
    · exact ⟨(0, 0, false), fun ρ cont => by rw [rd_frac cont _ _ _ (by omega) (by omega) (by omega), hu]; rfl, fun hh => absurd (show a.natAbs < 1000000000000000000 by omega) (sm hu)⟩
    · cases hd : decide (b.toNat < 1000000000000000000)
      · exact ⟨(0, 0, false), fun ρ cont => by rw [rd_frac cont _ _ _ (by omega) (by omega) (by omega), hu, hd]; rfl, fun hh => absurd (show b.toNat < 1000000000000000000 by omega) (sm hd)⟩
      · refine ⟨(a, b, true), fun ρ cont => ?_, fun _ => rfl⟩
        rw [rd_frac cont _ _ _ (by omega) (by omega) (by omega), hu, hd, cond_true, cond_true, <- hb, en_eq cont h]
end Go.Abs
namespace Go.Abs
open Go.Proofs
set_option maxRecDepth 100000
def GoodT (s : ByteArray) : Prop := ∃ a b, qOkB a b = true /\ s = bS (txt a b)
theorem q3_inj {v w : Int × Int × Bool} (h : q3 v = q3 w) : v = w := by
  obtain ⟨a, b, c⟩ := v
  obtain ⟨d, e, f⟩ := w
  unfold q3 at h
  simp only [SV.tup.injEq, List.cons.injEq, Prod.mk.injEq, Atom.int.injEq, Atom.bool.injEq, and_true, true_and] at h
  obtain ⟨⟨h1, h2⟩, h3⟩ := h
  rw [h1, h2, h3]
theorem rd_ex : ∃ f : ByteArray -> Int × Int × Bool, ∀ a b, qOkB a b = true -> (∀ (ρ : Type) (cont : SV -> HL -> Option ρ), rdK cont (cutQ (bS (txt a b))) (cutN (bS (txt a b))) = cont (q3 (f (bS (txt a b)))) []) /\
    (-1000000000000000000 < a /\ a < 1000000000000000000 /\ b < 1000000000000000000 -> f (bS (txt a b)) = (a, b, true)) := by
  classical
  have h' : ∀ s, ∃ v : Int × Int × Bool, GoodT s -> ∀ (ρ : Type) (cont : SV -> HL -> Option ρ), rdK cont (cutQ s) (cutN s) = cont (q3 v) [] := fun s => by
    by_cases h : GoodT s
    · obtain ⟨a, b, h1, rfl⟩ := h
      obtain ⟨v, h2, _⟩ := rd_txt h1
      exact ⟨v, fun _ => h2⟩
    · exact ⟨(0, 0, false), fun h2 => absurd h2 h⟩
  refine ⟨fun s => (h' s).choose, fun a b h => ?_⟩
  have k := (h' (bS (txt a b))).choose_spec ⟨a, b, h, rfl⟩
  refine ⟨k, fun hs => ?_⟩
  obtain ⟨v, h2, h3⟩ := rd_txt h
  have e1 := k SV fun s _ => some s
  have e2 := h2 SV fun s _ => some s
  have := q3_inj (Option.some.inj (e1.symm.trans e2))
  exact this.trans (h3 hs)
noncomputable def rdF := rd_ex.choose
theorem rdF_small {a b : Int} (h : qOkB a b = true) (hs : -1000000000000000000 < a /\ a < 1000000000000000000 /\ b < 1000000000000000000) : rdF (bS (txt a b)) = (a, b, true) := (rd_ex.choose_spec a b h).2 hs
open Classical in
noncomputable def rdO : Orc := fun ρ args H cont => match args, H with
  | [.v false [.str s]], [] => if GoodT s then cont (q3 (rdF s)) [] else none
  | _, _ => none
theorem orc_rd : OrcOK NN Tryz.prog 10 rdO :=
  OrcOK.of_tale (cR_ok (A := Ash) (fuel := 20) (qsE_ok (gamC orc_cp Tryz.call30 (gamC orc_ix Tryz.call31 (gamC orc_dg Tryz.call32 (gamC orc57 Tryz.call33 (gamC orc_low Tryz.call34 (gamC orc84 Tryz.call38 (gamC orc41 Tryz.call39 (gamN _ _))))))))) rfl Tryz.func10 (by kernel_rfl)) fun ρ args H cont r hr => by
    unfold rdO at hr
    split at hr
    · rename_i s
      split at hr
      · rename_i hg
        obtain ⟨a, b, h1, rfl⟩ := hg
        exact (grd cont _).trans (((rd_ex.choose_spec a b h1).1 ρ cont).trans hr)
      · contradiction
    · contradiction
end Go.Abs
namespace Go.Abs
open Go.Proofs
set_option maxRecDepth 100000
noncomputable def dqE : Env := VL tryT [] [(19, cR rE Ash 5 Tryz.f19), (20, rO shQ anyF)]
noncomputable def dqO : Orc := fun ρ args H cont => match args, H with
  | [.v false [.sl none (.int .u8) xs]], [] => if rdOkB xs 0 = true then cont (shQ (anyF xs 0).1) [] else none
  | _, _ => none
theorem drw24 {ρ : Type} (cont : SV -> HL -> Option ρ) (xs : List Int) : runF dqE Ash 20 Tryz.f6 (bodyOf Tryz.f6) ρ [one (.sl none (.int .u8) xs)] [] cont = if rdOkB xs 0 = true then cont (shQ (anyF xs 0).1) [] else none := by kernel_rfl
theorem orc_dq : OrcOK NN Tryz.prog 6 dqO :=
  OrcOK.of_tale (cR_ok (A := Ash) (fuel := 20) (VL_ok (TabOk.of tryT_ok) (gamC (cR_ok rE_ok rfl Tryz.func19 (by kernel_rfl)) Tryz.call19 (gamC orc_any Tryz.call20 (gamN _ _)))) rfl Tryz.func6 (by kernel_rfl)) fun ρ args H cont r hr => by
    unfold dqO at hr
    split at hr
    · rename_i xs
      exact (drw24 cont xs).trans hr
    · contradiction
def byF (xs : List Int) : Int := match xs with
  | [] => 0
  | x :: _ => (IntKind.i64.wrap x).tmod 50
theorem by_ex : ∃ f, f = byF := ⟨_, rfl⟩
noncomputable def byH := by_ex.choose
theorem byH_eq : byH = byF := by_ex.choose_spec
noncomputable def byO : Orc := fun ρ args H cont => match args, H with
  | [.v false [.sl none (.int .u8) xs], .v false [.int .i64 i], .v false [.int .i64 n]], [] => bif (i == 0) && (n == 50) then cont (shI (byH xs)) [] else none
  | _, _ => none
theorem gby {ρ : Type} (cont : SV -> HL -> Option ρ) (xs : List Int) : runF (qsE []) Ash 20 Tryz.f11 (bodyOf Tryz.f11) ρ [one (.sl none (.int .u8) xs), one (.int .i64 0), one (.int .i64 50)] [] cont =
    bif decide ((xs.length : Int) <= 0) then cont (shI 0) [] else xs[Int.toNat 0]?.bind fun x => cont (shI ((IntKind.i64.wrap x).tmod 50)) [] := by kernel_rfl
theorem orc_by : OrcOK NN Tryz.prog 11 byO :=
  OrcOK.of_tale (cR_ok (A := Ash) (fuel := 20) (qsE_ok (gamN _ _)) rfl Tryz.func11 (by kernel_rfl)) fun ρ args H cont r hr => by
    unfold byO at hr
    split at hr
    · rename_i xs i n
      cases hc : (i == 0) && (n == 50)
      · rw [hc] at hr; contradiction
      · rw [hc, cond_true, byH_eq] at hr
        simp only [Bool.and_eq_true, beq_iff_eq] at hc
        obtain ⟨rfl, rfl⟩ := hc
        refine (gby cont xs).trans ?_
        match xs, hr with
        | [], hr => exact hr
        | x :: r', hr => exact hr
    · contradiction
theorem byF_rng (xs : List Int) (h : ∀ x ∈ xs, 0 <= x /\ x < 256) : 0 <= byF xs /\ byF xs < 50 := by
  match xs, h with
  | [], _ => exact ⟨by decide, by decide⟩
  | x :: r, h =>
    have hx := h x (List.mem_cons_self ..)
    have e : IntKind.i64.wrap x = x := i64_in _ (by omega) (by omega)
    show 0 <= (IntKind.i64.wrap x).tmod 50 /\ (IntKind.i64.wrap x).tmod 50 < 50
    rw [e]
    exact ⟨Int.tmod_nonneg 50 hx.1, Int.tmod_lt_of_pos x (by decide)⟩
end Go.Abs
namespace Go.Abs
open Go.Proofs
set_option maxRecDepth 100000
def fitN : Orc := fun ρ args H cont => match args, H with
  | [.v false [.ip (.pair (.pair .bool (.list (.int .u32))) (.pair .bool (.list (.int .u32)))) D 0]], [] => if rOk D then cont (nm 0 (rV D)) [] else none
  | _, _ => none
theorem orc_fitN : OrcOK NN Tryz.prog 35 fitN :=
  OrcOK.cv (orc93 NN) fun args H cont r h => by
    unfold fitN at h
    split at h
    · rename_i D
      split at h
      · rename_i hc
        exact ⟨_, ratT (rV D), Cv.num0, rfl, h, fun ρ' cont' => by
          show (if rOk D then (if smallQ (rV D) then cont' (ratS (rV D)) [] else cont' (ratB (rV D)) []) else none) = _
          rw [if_pos hc]
          unfold ratT
          split <;> rfl⟩
      · contradiction
    · contradiction
def Mqf : Nat -> List (Nat × Ty) := fun f => bif Nat.beq f 35 then [(0, tR)] else bif Nat.beq f 40 then [(1, tZ), (2, tZ)] else []
noncomputable def qoE : Env := { VL tryT [] [(41, newIntO), (40, setFracO), (35, fitN), (39, rat1 (fun _ => true) tupQ)] with M := Mqf }
theorem qoE_ok : EnvOK NN Tryz.prog qoE :=
  have hv := VL_ok (vs := []) (TabOk.of tryT_ok) (gamC (orc178 NN) Tryz.call41 (gamC (orc159 NN) Tryz.call40 (gamC orc_fitN Tryz.call35 (gamC orc41 Tryz.call39 (gamN _ _)))))
  { T := hv.T, E := hv.E, Γ := hv.Γ, X := hv.X }
theorem gqf {ρ : Type} (cont : SV -> HL -> Option ρ) (a b : Int) : runF qoE Ash 20 Tryz.f12 (bodyOf Tryz.f12) ρ [one (.int .i64 a), one (.int .i64 b)] [] cont =
    bif b == 0 then cont (q3 (0, 0, false)) [] else fmK a (fmK b (if zOk (zD a) /\ zOk (zD b) /\ zV (zD b) ≠ 0 then (if rOk (rD (Rat.divInt (zV (zD a)) (zV (zD b)))) then cont (tupQ (rV (rD (Rat.divInt (zV (zD a)) (zV (zD b)))))) [] else none) else none)) := by kernel_rfl
def smB (a b : Int) : Bool := decide (a.natAbs < 100000000) && decide (b.natAbs < 100000000)
theorem smB_ok {a b : Int} (h : smB a b = true) : a.natAbs < 100000000 /\ b.natAbs < 100000000 := by
  unfold smB at h
  rw [Bool.and_eq_true, decide_eq_true_eq, decide_eq_true_eq] at h
  exact h
theorem qo_eq {ρ : Type} (cont : SV -> HL -> Option ρ) {a b : Int} (hb0 : b ≠ 0) (h : smB a b = true) :
    fmK a (fmK b (if zOk (zD a) /\ zOk (zD b) /\ zV (zD b) ≠ 0 then (if rOk (rD (Rat.divInt (zV (zD a)) (zV (zD b)))) then cont (tupQ (rV (rD (Rat.divInt (zV (zD a)) (zV (zD b)))))) [] else none) else none)) = cont (tupQ (Rat.divInt a b)) [] := by
  obtain ⟨h1, h2⟩ := smB_ok h
  have za : zOk (zD a) := zOk_zD (by have := words_length (n := a.natAbs) (k := 2) (by omega); omega)
  have zb : zOk (zD b) := zOk_zD (by have := words_length (n := b.natAbs) (k := 2) (by omega); omega)
  have hs : szQ (Rat.divInt a b) = true := szQ_of (by have := divInt_le (n := a) (d := b) hb0; omega)
  unfold fmK
  rw [if_pos (by omega), if_pos (by omega), if_pos ⟨za, zb, by rw [zV_zD]; exact hb0⟩, zV_zD, zV_zD, if_pos (szQ_r hs), rV_rD]
def qoI : Orc := fun ρ args H cont => match args, H with
  | [.v false [.int .i64 a], .v false [.int .i64 b]], [] => bif b == 0 then cont (q3 (0, 0, false)) [] else (if smB a b = true then cont (tupQ (Rat.divInt a b)) [] else none)
  | _, _ => none
theorem orc_qoI : OrcOK NN Tryz.prog 12 qoI :=
  OrcOK.of_tale (cR_ok (A := Ash) (fuel := 20) qoE_ok rfl Tryz.func12 (by kernel_rfl)) fun ρ args H cont r hr => by
    unfold qoI at hr
    split at hr
    · rename_i a b
      refine (gqf cont a b).trans ?_
      cases hb : b == 0
      · rw [hb, cond_false] at hr
        rw [cond_false]
        split at hr
        · rename_i hc
          exact (qo_eq cont (beq_eq_false_iff_ne.1 hb) hc).trans hr
        · contradiction
      · rw [hb] at hr; exact hr
    · contradiction
end Go.Abs
namespace Go.Abs
open Go.Proofs
set_option maxRecDepth 100000
noncomputable def tldE : Env := { qsE [(5, cR rE Ash 5 Tryz.f5), (6, dqO), (7, qtO), (8, qOkO), (9, livesO), (10, rdO), (11, byO), (12, qoI)] with E := [(25, 2), (36, 4)] }
theorem tldE_ok : EnvOK NN Tryz.prog tldE :=
  have hv := qsE_ok (gamC (cR_ok rE_ok rfl Tryz.func5 (by kernel_rfl)) Tryz.call5 (gamC orc_dq Tryz.call6 (gamC orc_qt Tryz.call7 (gamC (orc64 NN) Tryz.call8 (gamC lives_ok Tryz.call9 (gamC orc_rd Tryz.call10 (gamC orc_by Tryz.call11 (gamC orc_qoI Tryz.call12 (gamN _ _)))))))))
  { T := hv.T, E := eqT_ok, Γ := hv.Γ, X := hv.X }
def kx (n x : Int) : Int := IntKind.i64.wrap (IntKind.i64.wrap (0 - IntKind.i64.wrap (2 + n)) * x)
section
variable {ρ : Type} (K : Bool -> Option ρ) (a b n : Int)
def qoK : Option ρ := bif kx n b == 0 then K false else if smB (kx n a) (kx n b) = true then (bif qFit (Rat.divInt (kx n a) (kx n b)) then (bif bif true then qNum (Rat.divInt (kx n a) (kx n b)) == a && qDen (Rat.divInt (kx n a) (kx n b)) == b else false then K true else K false) else K false) else none
def smK : Option ρ := bif decide (-1000000 < a) then (bif bif true then decide (a < 1000000) else false then (bif bif true then decide (b < 1000000) else false then qoK K a b n else K true) else K true) else K true
def toK (v : Int × Int × Bool) : Option ρ := bif decide (-1000000000000000000 < a) then (bif bif true then decide (a < 1000000000000000000) else false then (bif bif true then decide (b < 1000000000000000000) else false then
  (bif !v.2.2 then K false else bif bif true then bif false then true else !(v.1 == a && v.2.1 == b) else false then K false else smK K a b n) else smK K a b n) else smK K a b n) else smK K a b n
open Classical in
noncomputable def toldK (s : ByteArray) : Option ρ := bif !qOkB a b then (bif s.data.toList == (bS []).data.toList then K true else K false) else if GoodT s then toK K a b n (rdF s) else none
end
theorem gq5 {ρ : Type} (cont : SV -> HL -> Option ρ) (xs : List Int) : runF tldE Ash 0 Tryz.f3 (bodyOf Tryz.f3) ρ [one (.sl none (.int .u8) xs)] [] cont =
    bif decide (1048576 < (xs.length : Int)) then cont (one (.bool true)) [] else if rdOkB xs 0 = true then
      toldK (fun o => cont (one (.bool o)) []) (anyF xs 0).1.1 (anyF xs 0).1.2 (byH xs) (bif qOkB (anyF xs 0).1.1 (anyF xs 0).1.2 then bS (txtH (anyF xs 0).1.1 (anyF xs 0).1.2) else bS []) else none := by kernel_rfl
theorem kx_eq {n x : Int} (hn : 0 <= n /\ n < 50) (hx : x.natAbs < 1000000) : kx n x = -(2 + n) * x /\ (kx n x).natAbs < 100000000 := by
  have h1 : (2 + n) * x <= 52 * 1000000 /\ -(52 * 1000000) <= (2 + n) * x := by
    have : ((2 + n) * x).natAbs <= 52 * 1000000 := by
      rw [Int.natAbs_mul]
      exact Nat.mul_le_mul (by omega) (by omega)
    omega
  have e : -(2 + n) * x = -((2 + n) * x) := Int.neg_mul ..
  have e2 : IntKind.i64.wrap (0 - IntKind.i64.wrap (2 + n)) = -(2 + n) := by rw [IntKind.wrap_i64, IntKind.wrap_i64]; omega
  unfold kx
  rw [e2, e, IntKind.wrap_i64]
  generalize (2 + n) * x = y at *
  omega
section
variable {ρ : Type} (K : Bool -> Option ρ) {a b n : Int}
theorem smK_eq (h : qOkB a b = true) (hn : 0 <= n /\ n < 50) : smK K a b n = K true := by
  obtain ⟨h1, h2, h3, h4, h5⟩ := qOkB_iff.1 h
  unfold smK
  cases c1 : decide (-1000000 < a)
  · rfl
  cases c2 : decide (a < 1000000)
  · rfl
  cases c3 : decide (b < 1000000)
  · rfl
  have c1 := of_decide_eq_true c1
  have c2 := of_decide_eq_true c2
  have c3 := of_decide_eq_true c3
  obtain ⟨ea, la⟩ := kx_eq hn (show a.natAbs < 1000000 by omega)
  obtain ⟨eb, lb⟩ := kx_eq hn (show b.natAbs < 1000000 by omega)
  have hs : smB (kx n a) (kx n b) = true := by
    unfold smB
    rw [decide_eq_true la, decide_eq_true lb]; rfl
  have hk : -(2 + n) ≠ 0 := by omega
  have hb0 : kx n b ≠ 0 := by rw [eb]; exact Int.mul_ne_zero hk (by omega)
  have hq : Rat.divInt (kx n a) (kx n b) = Rat.divInt a b := by rw [ea, eb]; exact Rat.divInt_mul_left hk
  obtain ⟨f1, f2, f3⟩ := ok_fit h
  show qoK K a b n = K true
  unfold qoK
  rw [beq_eq_false_iff_ne.2 hb0, cond_false, if_pos hs, hq, f1, f2, f3, beq_self_eq_true, beq_self_eq_true]
  rfl
theorem toldK_eq (hn : 0 <= n /\ n < 50) : toldK K a b n (bif qOkB a b then bS (txtH a b) else bS []) = K true := by
  unfold toldK
  cases h : qOkB a b
  · rfl
  · have e := smK_eq K h hn
    rw [Bool.not_true, cond_false, cond_true, txtH_eq, if_pos ⟨a, b, h, rfl⟩]
    unfold toK
    rw [e]
    cases c1 : decide (-1000000000000000000 < a)
    · rfl
    cases c2 : decide (a < 1000000000000000000)
    · rfl
    cases c3 : decide (b < 1000000000000000000)
    · rfl
    rw [rdF_small h ⟨of_decide_eq_true c1, of_decide_eq_true c2, of_decide_eq_true c3⟩]
    dsimp only
    rw [beq_self_eq_true, beq_self_eq_true]
    rfl
end
theorem td_law : OrcOK NN Tryz.prog 3 lawO1 :=
  OrcOK.of_tale (cR_ok (A := Ash) (fuel := 0) tldE_ok rfl Tryz.func3 (by kernel_rfl)) fun ρ args H cont r h => by
    unfold lawO1 at h
    split at h
    · rename_i xs
      split at h
      · rename_i hb
        refine (gq5 cont xs).trans ?_
        by_cases h1 : (1048576 : Int) < List.length (α := Int) xs
        · rw [decide_eq_true h1]; exact h
        · have hy : 0 <= byH xs /\ byH xs < 50 := by
            rw [byH_eq]
            exact byF_rng xs fun x hx => by
              have := List.all_eq_true.1 hb x hx
              simpa using this
          rw [decide_eq_false h1, cond_false, if_pos (rdOk_iff.2 ⟨hb, by omega, by omega, by omega⟩), toldK_eq _ hy]
          exact h
      · contradiction
    · contradiction
end Go.Abs

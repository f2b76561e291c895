/-
  A PART OF THE PROOF of NrI (texts DrwA DrwB FrA BigG BigH RootA RootB RootC RootD RootE FrL RootF RootG BigI BigJ BigK): the claim itself stands in the last text. No conditions beside those of the given row.
-/
import Derived.Test.YteedodijgpinnaaGreatDoorLivE
import Derived.Test.YteedodijgpinnaaGreatDoorRowA
import Derived.Test.YteedodijgpinnaaGreatDoorSpcK
import Derived.Test.YteedodijgpinnaaGreatDoorBigF
set_option linter.unusedVariables false
set_option linter.unnecessarySimpa false
set_option linter.unusedSimpArgs false
namespace Go.Abs
open Go.Proofs
set_option maxRecDepth 100000
def rdH (xs : List Int) (p : Int) : HL := [.var [.sl none (.int .u8) xs, .int .i64 p]]
def rdOkB (xs : List Int) (p : Int) : Bool := bytesB xs && decide (xs.length <= 1048576) && decide (0 <= p) && decide (p <= xs.length)
theorem rdOk_iff {xs : List Int} {p : Int} : rdOkB xs p = true ↔ (bytesB xs = true /\ xs.length <= 1048576 /\ 0 <= p /\ p <= xs.length) := by
  unfold rdOkB
  simp only [Bool.and_eq_true, decide_eq_true_eq]
  constructor
  · rintro ⟨⟨⟨h1, h2⟩, h3⟩, h4⟩; exact ⟨h1, h2, h3, h4⟩
  · rintro ⟨h1, h2, h3, h4⟩; exact ⟨⟨⟨h1, h2⟩, h3⟩, h4⟩
def rO {α : Type} (sh : α -> SV) (f : List Int -> Int -> α × Int) : Orc := fun ρ args H cont => match args, H with
  | [.v false [.ptr 0 0]], [.var [.sl none (.int .u8) xs, .int .i64 p]] => if rdOkB xs p = true then cont (sh (f xs p).1) [.var [.sl none (.int .u8) xs, .int .i64 (f xs p).2]] else none
  | _, _ => none
theorem rO_ok {α : Type} [Inhabited α] {n : Nat} {F : Orc} (hF : OrcOK NN Tryz.prog n F) (sh : α -> SV) (R : α -> Prop)
    (h : ∀ xs p, rdOkB xs p = true -> ∃ a p', R a /\ rdOkB xs p' = true /\ ∀ ρ (cont : SV -> HL -> Option ρ), F ρ [one (.ptr 0 0)] (rdH xs p) cont = cont (sh a) (rdH xs p')) :
    ∃ f : List Int -> Int -> α × Int, OrcOK NN Tryz.prog n (rO sh f) /\ ∀ xs p, rdOkB xs p = true -> R (f xs p).1 /\ rdOkB xs (f xs p).2 = true := by
  classical
  have h' : ∀ xs p, ∃ r : α × Int, rdOkB xs p = true -> R r.1 /\ rdOkB xs r.2 = true /\ ∀ ρ (cont : SV -> HL -> Option ρ), F ρ [one (.ptr 0 0)] (rdH xs p) cont = cont (sh r.1) (rdH xs r.2) := fun xs p => by
    by_cases hc : rdOkB xs p = true
    · obtain ⟨a, p', h1, h2, h3⟩ := h xs p hc
      exact ⟨(a, p'), fun _ => ⟨h1, h2, h3⟩⟩
    · exact ⟨default, fun h => absurd h hc⟩
  refine ⟨fun xs p => (h' xs p).choose, OrcOK.of_tale hF fun ρ args H cont r hr => ?_, fun xs p hc => ⟨((h' xs p).choose_spec hc).1, ((h' xs p).choose_spec hc).2.1⟩⟩
  unfold rO at hr
  split at hr
  · rename_i xs p
    split at hr
    · rename_i hc
      exact (((h' xs p).choose_spec hc).2.2 ρ cont).trans hr
    · contradiction
  · contradiction
noncomputable def rE : Env := VL tryT [] []
theorem rE_ok : EnvOK NN Tryz.prog rE := VL_ok (TabOk.of tryT_ok) (gamN _ _)
theorem drw174 {ρ : Type} (cont : SV -> HL -> Option ρ) (xs : List Int) (p : Int) : runF rE Ash 5 Tryz.f174 (bodyOf Tryz.f174) ρ [one (.ptr 0 0)] (rdH xs p) cont =
    bif decide (xs.length <= p) then cont (one (.int .i64 0)) (rdH xs p) else
    if 0 <= IntKind.i64.wrap (IntKind.i64.wrap (p + 1) - 1) then xs[(IntKind.i64.wrap (IntKind.i64.wrap (p + 1) - 1)).toNat]?.bind fun x => cont (one (.int .i64 (IntKind.i64.wrap x))) (rdH xs (IntKind.i64.wrap (p + 1))) else none := by kernel_rfl
def shI (x : Int) : SV := one (.int .i64 x)
theorem next_ok : ∃ f : List Int -> Int -> Int × Int, OrcOK NN Tryz.prog 174 (rO shI f) /\ ∀ xs p, rdOkB xs p = true -> (0 <= (f xs p).1 /\ (f xs p).1 < 256) /\ rdOkB xs (f xs p).2 = true :=
  rO_ok (cR_ok (A := Ash) (fuel := 5) rE_ok rfl Tryz.func174 (by kernel_rfl)) shI (fun x => 0 <= x /\ x < 256) fun xs p h => by
    obtain ⟨h1, h2, h3, h4⟩ := rdOk_iff.1 h
    by_cases hc : xs.length <= p
    · exact ⟨0, p, by decide, h, fun ρ cont => (drw174 cont xs p).trans (by rw [decide_eq_true hc, cond_true]; rfl)⟩
    · have hl : p.toNat < xs.length := by omega
      have hx := List.all_eq_true.1 h1 (xs[p.toNat]) (List.getElem_mem hl)
      simp only [Bool.and_eq_true, decide_eq_true_eq] at hx
      refine ⟨xs[p.toNat], p + 1, hx, rdOk_iff.2 ⟨h1, h2, by omega, by omega⟩, fun ρ cont => (drw174 cont xs p).trans ?_⟩
      rw [decide_eq_false hc, cond_false, i64_in (p + 1) (by omega) (by omega), i64_in (p + 1 - 1) (by omega) (by omega), if_pos (by omega), show p + 1 - 1 = p from by omega, List.getElem?_eq_getElem hl]
      show cont (one (.int .i64 (IntKind.i64.wrap xs[p.toNat]))) _ = _
      rw [i64_in _ (by omega) (by omega)]; rfl
noncomputable def nextF := next_ok.choose
theorem orc_next : OrcOK NN Tryz.prog 174 (rO shI nextF) := next_ok.choose_spec.1
theorem nextR {xs : List Int} {p : Int} (h : rdOkB xs p = true) : 0 <= (nextF xs p).1 /\ (nextF xs p).1 < 256 := (next_ok.choose_spec.2 xs p h).1
theorem nextP {xs : List Int} {p : Int} (h : rdOkB xs p = true) : rdOkB xs (nextF xs p).2 = true := (next_ok.choose_spec.2 xs p h).2
noncomputable def rE1 : Env := VL tryT [] [(174, rO shI nextF)]
theorem rE1_ok : EnvOK NN Tryz.prog rE1 := VL_ok (TabOk.of tryT_ok) (gamC orc_next Tryz.call174 (gamN _ _))
noncomputable def w8 (xs : List Int) : Nat -> Int -> Int -> Int × Int
  | 0, a, p => (a, p)
  | k + 1, a, p => w8 xs k (bits BinOp.or IntKind.u64 (IntKind.u64.wrap (a * 2 ^ min (Int.toNat 8) IntKind.u64.bits)) (IntKind.u64.wrap (nextF xs p).1)) (nextF xs p).2
def shW (x : Int) : SV := one (.int .u64 x)
noncomputable def w8if {ρ : Type} (cont : SV -> HL -> Option ρ) (xs : List Int) : Nat -> Int -> Int -> Option ρ
  | 0, a, p => cont (shW a) (rdH xs p)
  | k + 1, a, p => if rdOkB xs p = true then w8if cont xs k (bits BinOp.or IntKind.u64 (IntKind.u64.wrap (a * 2 ^ min (Int.toNat 8) IntKind.u64.bits)) (IntKind.u64.wrap (nextF xs p).1)) (nextF xs p).2 else none
theorem drw172 {ρ : Type} (cont : SV -> HL -> Option ρ) (xs : List Int) (p : Int) : runF rE1 Ash 20 Tryz.f172 (bodyOf Tryz.f172) ρ [one (.ptr 0 0)] (rdH xs p) cont = w8if cont xs 8 0 p := by kernel_rfl
theorem w8if_eq {xs : List Int} (k : Nat) : ∀ (a p : Int), rdOkB xs p = true -> rdOkB xs (w8 xs k a p).2 = true /\ ∀ {ρ : Type} (cont : SV -> HL -> Option ρ), w8if cont xs k a p = cont (shW (w8 xs k a p).1) (rdH xs (w8 xs k a p).2) := by
  induction k with
  | zero => exact fun a p h => ⟨h, fun cont => rfl⟩
  | succ k ih =>
    intro a p h
    have := ih (bits BinOp.or IntKind.u64 (IntKind.u64.wrap (a * 2 ^ min (Int.toNat 8) IntKind.u64.bits)) (IntKind.u64.wrap (nextF xs p).1)) (nextF xs p).2 (nextP h)
    refine ⟨this.1, fun cont => ?_⟩
    show (if rdOkB xs p = true then _ else none) = _
    rw [if_pos h]
    exact this.2 cont
theorem word_ok : ∃ f : List Int -> Int -> Int × Int, OrcOK NN Tryz.prog 172 (rO shW f) /\ ∀ xs p, rdOkB xs p = true -> True /\ rdOkB xs (f xs p).2 = true :=
  rO_ok (cR_ok (A := Ash) (fuel := 20) rE1_ok rfl Tryz.func172 (by kernel_rfl)) shW (fun x => True) fun xs p h =>
    ⟨_, _, trivial, (w8if_eq 8 0 p h).1, fun ρ cont => (drw172 cont xs p).trans ((w8if_eq 8 0 p h).2 cont)⟩
noncomputable def wordF := word_ok.choose
theorem orc_word : OrcOK NN Tryz.prog 172 (rO shW wordF) := word_ok.choose_spec.1
theorem wordP {xs : List Int} {p : Int} (h : rdOkB xs p = true) : rdOkB xs (wordF xs p).2 = true := (word_ok.choose_spec.2 xs p h).2
def nO {α : Type} (sh : α -> SV) (f : List Int -> Int -> Int -> α × Int) : Orc := fun ρ args H cont => match args, H with
  | [.v false [.ptr 0 0], .v false [.int .i64 n]], [.var [.sl none (.int .u8) xs, .int .i64 p]] => bif decide (n <= 1) then none else bif decide (n <= 256) then (if rdOkB xs p = true then cont (sh (f xs p n).1) [.var [.sl none (.int .u8) xs, .int .i64 (f xs p n).2]] else none) else none
  | _, _ => none
noncomputable def belowF (xs : List Int) (p n : Int) : Int × Int := ((nextF xs p).1.tmod n, (nextF xs p).2)
theorem drw77 {ρ : Type} (cont : SV -> HL -> Option ρ) (xs : List Int) (p n : Int) : runF rE1 Ash 5 Tryz.f77 (bodyOf Tryz.f77) ρ [one (.ptr 0 0), one (.int .i64 n)] (rdH xs p) cont =
   bif decide (n <= 1) then cont (one (.int .i64 0)) (rdH xs p) else bif decide (n <= 256) then (if rdOkB xs p = true then (if n = 0 then none else cont (shI (belowF xs p n).1) (rdH xs (belowF xs p n).2)) else none) else
   (if rdOkB xs p = true then (if rdOkB xs (nextF xs p).2 = true then (if n = 0 then none else cont (shI ((IntKind.i64.wrap (IntKind.i64.wrap ((nextF xs p).1 * 256) + (nextF xs (nextF xs p).2).1)).tmod n)) (rdH xs (nextF xs (nextF xs p).2).2)) else none) else none) := by kernel_rfl
theorem orc_below : OrcOK NN Tryz.prog 77 (nO shI belowF) :=
  OrcOK.of_tale (cR_ok (A := Ash) (fuel := 5) rE1_ok rfl Tryz.func77 (by kernel_rfl)) fun ρ args H cont r h => by
    unfold nO at h
    split at h
    · rename_i n xs p
      refine (drw77 cont xs p n).trans ?_
      by_cases h1 : n <= 1
      · rw [decide_eq_true h1, cond_true] at h; contradiction
      · rw [decide_eq_false h1, cond_false] at h ⊢
        by_cases h2 : n <= 256
        · rw [decide_eq_true h2, cond_true] at h ⊢
          split at h
          · rename_i hc
            rw [if_pos hc, if_neg (by omega)]; exact h
          · contradiction
        · rw [decide_eq_false h2, cond_false] at h; contradiction
    · contradiction
theorem belowR {xs : List Int} {p : Int} (h : rdOkB xs p = true) {n : Int} (hn : 1 < n) : 0 <= (belowF xs p n).1 /\ (belowF xs p n).1 < n := by
  have := nextR h
  exact ⟨Int.tmod_nonneg _ this.1, Int.tmod_lt_of_pos _ (by omega)⟩
theorem belowP {xs : List Int} {p n : Int} (h : rdOkB xs p = true) : rdOkB xs (belowF xs p n).2 = true := nextP h
noncomputable def rE2 : Env := VL tryT [] [(77, nO shI belowF)]
theorem rE2_ok : EnvOK NN Tryz.prog rE2 := VL_ok (TabOk.of tryT_ok) (gamC orc_below Tryz.call77 (gamN _ _))
def shB (b : Bool) : SV := one (.bool b)
noncomputable def onceF (xs : List Int) (p n : Int) : Bool × Int := ((belowF xs p n).1 == IntKind.i64.wrap (n - 1), (belowF xs p n).2)
theorem drw78 {ρ : Type} (cont : SV -> HL -> Option ρ) (xs : List Int) (p n : Int) : runF rE2 Ash 5 Tryz.f78 (bodyOf Tryz.f78) ρ [one (.ptr 0 0), one (.int .i64 n)] (rdH xs p) cont =
   bif decide (n <= 1) then none else bif decide (n <= 256) then (if rdOkB xs p = true then cont (shB (onceF xs p n).1) (rdH xs (onceF xs p n).2) else none) else none := by kernel_rfl
theorem orc_once : OrcOK NN Tryz.prog 78 (nO shB onceF) :=
  OrcOK.of_tale (cR_ok (A := Ash) (fuel := 5) rE2_ok rfl Tryz.func78 (by kernel_rfl)) fun ρ args H cont r h => by
    unfold nO at h
    split at h
    · rename_i n xs p
      exact (drw78 cont xs p n).trans h
    · contradiction
theorem onceP {xs : List Int} {p n : Int} (h : rdOkB xs p = true) : rdOkB xs (onceF xs p n).2 = true := nextP h
end Go.Abs
namespace Go.Abs
open Go.Proofs
set_option maxRecDepth 100000
def rBigN : Orc := fun ρ args H cont => match args, H with
  | [.v true [.bool s, .sl none (.int .u32) xs], .v true [.bool t, .sl none (.int .u32) ys]], [] => if zOk (s, xs) /\ zOk (t, ys) /\ zV (t, ys) ≠ 0 then cont (nm 1 (Rat.divInt (zV (s, xs)) (zV (t, ys)))) [] else none
  | _, _ => none
theorem orc_rBigN : OrcOK NN Tryz.prog 117 rBigN :=
  OrcOK.cv (orc125 NN) fun args H cont r h => by
    unfold rBigN at h
    split at h
    · rename_i s xs t ys
      split at h
      · rename_i hq
        refine ⟨_, _, Cv.num (isL_ratL _), rfl, h, fun ρ' cont' => ?_⟩
        show (if zOk (s, xs) /\ zOk (t, ys) /\ zV (t, ys) ≠ 0 then ofC cont' (Rat.divInt (zV (s, xs)) (zV (t, ys))) else none) = _
        rw [if_pos hq, ofC_eq]
      · contradiction
    · contradiction
noncomputable def qE : Env := VL tryT [] [(85, zOfO), (117, rBigN), (122, lat1 szQ tupQ)]
theorem qE_ok : EnvOK NN Tryz.prog qE := VL_ok (TabOk.of tryT_ok) (gamC (orc132 NN) Tryz.call85 (gamC orc_rBigN Tryz.call117 (gamC orc30 Tryz.call122 (gamN _ _))))
theorem drw79 {ρ : Type} (cont : SV -> HL -> Option ρ) (a b : Int) : runF qE Ash 20 Tryz.f79 (bodyOf Tryz.f79) ρ [one (.int .i64 a), one (.int .i64 b)] [] cont =
    bif b == 0 then cont (tupB 0 0 false) [] else (if -9223372036854775808 <= a /\ a < 9223372036854775808 then (if -9223372036854775808 <= b /\ b < 9223372036854775808 then
      (if zOk (zD a) /\ zOk (zD b) /\ zV (zD b) ≠ 0 then (if szQ (Rat.divInt (zV (zD a)) (zV (zD b))) = true then cont (tupQ (Rat.divInt (zV (zD a)) (zV (zD b)))) [] else none) else none) else none) else none) := by kernel_rfl
def qofA (a b : Int) : Int := if b = 0 then 0 else qNum (Rat.divInt a b)
def qofB (a b : Int) : Int := if b = 0 then 0 else qDen (Rat.divInt a b)
def qofC (a b : Int) : Bool := if b = 0 then false else qFit (Rat.divInt a b)
def qofO : Orc := fun ρ args H cont => match args, H with
  | [.v false [.int .i64 a], .v false [.int .i64 b]], [] => if (-9223372036854775808 <= a /\ a < 9223372036854775808) /\ (-9223372036854775808 <= b /\ b < 9223372036854775808) then cont (tupB (qofA a b) (qofB a b) (qofC a b)) [] else none
  | _, _ => none
theorem divInt_le {n d : Int} (hd : d ≠ 0) : (Rat.divInt n d).num.natAbs <= n.natAbs /\ (Rat.divInt n d).den <= d.natAbs := by
  rcases Int.lt_trichotomy d 0 with h | h | h
  · have e : Rat.divInt n d = Rat.divInt (-n) (-d) := (Rat.neg_divInt_neg n d).symm
    rw [e]
    have := divInt_pos_le (n := -n) (d := -d) (by omega)
    omega
  · exact absurd h hd
  · exact divInt_pos_le h
theorem szQ_of {q : Rat} (h : q.num.natAbs < 18446744073709551616 /\ q.den < 18446744073709551616) : szQ q = true := by
  unfold szQ
  have h1 := words_small h.1
  have h2 := words_small h.2
  rw [decide_eq_true (by omega), decide_eq_true (by omega)]; rfl
theorem orc_qof : OrcOK NN Tryz.prog 79 qofO :=
  OrcOK.of_tale (cR_ok (A := Ash) (fuel := 20) qE_ok rfl Tryz.func79 (by kernel_rfl)) fun ρ args H cont r h => by
    unfold qofO at h
    split at h
    · rename_i a b
      refine (drw79 cont a b).trans ?_
      split at h
      · rename_i hq
        by_cases hb : b = 0
        · subst hb
          exact h
        · have h1 := words_small (n := a.natAbs) (by omega)
          have h2 := words_small (n := b.natAbs) (by omega)
          have h3 := divInt_le (n := a) hb
          rw [show (b == 0) = false from beq_eq_false_iff_ne.2 hb, cond_false, if_pos hq.1, if_pos hq.2, zV_zD, zV_zD, if_pos ⟨zOk_zD (by omega), zOk_zD (by omega), hb⟩, if_pos (szQ_of ⟨by omega, by omega⟩)]
          unfold qofA qofB qofC at h
          rw [if_neg hb, if_neg hb, if_neg hb] at h
          exact h
      · contradiction
    · contradiction
theorem i64_rng (x : Int) : -9223372036854775808 <= IntKind.i64.wrap x /\ IntKind.i64.wrap x < 9223372036854775808 := by rw [IntKind.wrap_i64]; omega
theorem u64_rng (x : Int) : ¬ IntKind.u64.wrap x < 0 := by rw [IntKind.wrap_u64]; omega
def oddL : List Int := [0, 1, -1, 4611686018427387904, -4611686018427387904, 9223372036854775807, -9223372036854775808, 4294967296, 1000000000000000000, -1000000000000000000, 1000000000000000001, 1000000000]
theorem oddL_rng : ∀ x ∈ oddL, -9223372036854775808 <= x /\ x < 9223372036854775808 := by unfold oddL; simp
noncomputable def rE3 : Env := VL tryT [] [(77, nO shI belowF), (174, rO shI nextF), (172, rO shW wordF)]
theorem rE3_ok : EnvOK NN Tryz.prog rE3 := VL_ok (TabOk.of tryT_ok) (gamC orc_below Tryz.call77 (gamC orc_next Tryz.call174 (gamC orc_word Tryz.call172 (gamN _ _))))
theorem drw171 {ρ : Type} (cont : SV -> HL -> Option ρ) (xs : List Int) (p : Int) : runF rE3 Ash 20 Tryz.f171 (bodyOf Tryz.f171) ρ [one (.ptr 0 0)] (rdH xs p) cont =
  if rdOkB xs p = true then bif (belowF xs p 6).fst == 0 then if rdOkB xs (belowF xs p 6).snd = true then cont (SV.v false [Atom.int IntKind.i64 (IntKind.i64.wrap ((nextF xs (belowF xs p 6).snd).fst - 128))]) [Blk.var [Atom.sl none (Ty.int IntKind.u8) xs, Atom.int IntKind.i64 (nextF xs (belowF xs p 6).snd).snd]] else none else bif (belowF xs p 6).fst == 1 then if rdOkB xs (belowF xs p 6).snd = true
  then if 0 <= (belowF xs (belowF xs p 6).snd 12).fst /\ (belowF xs (belowF xs p 6).snd 12).fst < (oddL.length : Int) then oddL[0 + (belowF xs (belowF xs p 6).snd 12).fst.toNat]?.bind fun x => cont (SV.v false [Atom.int IntKind.i64 x]) [Blk.var [Atom.sl none (Ty.int IntKind.u8) xs, Atom.int IntKind.i64 (belowF xs (belowF xs p 6).snd 12).snd]] else none else none else bif (belowF xs p 6).fst == 2 then
  if rdOkB xs (belowF xs p 6).snd = true then cont (SV.v false [Atom.int IntKind.i64 (IntKind.i64.wrap (wordF xs (belowF xs p 6).snd).fst)]) [Blk.var [Atom.sl none (Ty.int IntKind.u8) xs, Atom.int IntKind.i64 (wordF xs (belowF xs p 6).snd).snd]] else none else bif (belowF xs p 6).fst == 3 then if rdOkB xs (belowF xs p 6).snd = true then if rdOkB xs (wordF xs (belowF xs p 6).snd).snd = true then if
  IntKind.u64.wrap (IntKind.i64.wrap (5 + (belowF xs (wordF xs (belowF xs p 6).snd).snd 55).fst)) < 0 then none else cont (SV.v false [Atom.int IntKind.i64 (IntKind.i64.wrap ((wordF xs (belowF xs p 6).snd).fst.fdiv (2 ^ min (IntKind.u64.wrap (IntKind.i64.wrap (5 + (belowF xs (wordF xs (belowF xs p 6).snd).snd 55).fst))).toNat IntKind.u64.bits)))]) [Blk.var [Atom.sl none (Ty.int IntKind.u8) xs,
  Atom.int IntKind.i64 (belowF xs (wordF xs (belowF xs p 6).snd).snd 55).snd]] else none else none else if rdOkB xs (belowF xs p 6).snd = true then cont (SV.v false [Atom.int IntKind.i64 ((nextF xs (belowF xs p 6).snd).fst.tmod 20)]) [Blk.var [Atom.sl none (Ty.int IntKind.u8) xs, Atom.int IntKind.i64 (nextF xs (belowF xs p 6).snd).snd]] else none else none := by kernel_rfl
theorem int_ok : ∃ f : List Int -> Int -> Int × Int, OrcOK NN Tryz.prog 171 (rO shI f) /\ ∀ xs p, rdOkB xs p = true -> (-9223372036854775808 <= (f xs p).1 /\ (f xs p).1 < 9223372036854775808) /\ rdOkB xs (f xs p).2 = true :=
  rO_ok (cR_ok (A := Ash) (fuel := 20) rE3_ok rfl Tryz.func171 (by kernel_rfl)) shI (fun x => -9223372036854775808 <= x /\ x < 9223372036854775808) fun xs p h => by
    have hb := belowP (n := 6) h
    cases h0 : (belowF xs p 6).fst == 0
    · cases h1 : (belowF xs p 6).fst == 1
      · cases h2 : (belowF xs p 6).fst == 2
        · cases h3 : (belowF xs p 6).fst == 3
          · have hn := nextR hb
            exact ⟨(nextF xs (belowF xs p 6).snd).fst.tmod 20, (nextF xs (belowF xs p 6).snd).snd, by have h1 := Int.tmod_nonneg 20 hn.1; have h2 := Int.tmod_lt_of_pos (nextF xs (belowF xs p 6).snd).fst (show (0 : Int) < 20 by decide); omega, nextP hb, fun ρ cont => (drw171 cont xs p).trans (by
              rw [if_pos h, h0, h1, h2, h3, cond_false, cond_false, cond_false, cond_false, if_pos hb]; rfl)⟩
          · have hw := wordP hb
            exact ⟨_, (belowF xs (wordF xs (belowF xs p 6).snd).snd 55).snd, i64_rng _, belowP hw, fun ρ cont => (drw171 cont xs p).trans (by
              rw [if_pos h, h0, h1, h2, h3, cond_false, cond_false, cond_false, cond_true, if_pos hb, if_pos hw, if_neg (u64_rng _)]; rfl)⟩
        · exact ⟨_, (wordF xs (belowF xs p 6).snd).snd, i64_rng _, wordP hb, fun ρ cont => (drw171 cont xs p).trans (by
            rw [if_pos h, h0, h1, h2, cond_false, cond_false, cond_true, if_pos hb]; rfl)⟩
      · have hn := belowR (n := 12) hb (by decide)
        have hl : 0 + (belowF xs (belowF xs p 6).snd 12).fst.toNat < oddL.length := by
          show _ < 12
          omega
        have hn12 : (belowF xs (belowF xs p 6).snd 12).fst < (oddL.length : Int) := by
          show _ < ((12 : Nat) : Int)
          omega
        exact ⟨oddL[0 + (belowF xs (belowF xs p 6).snd 12).fst.toNat], (belowF xs (belowF xs p 6).snd 12).snd, oddL_rng _ (List.getElem_mem hl), belowP hb, fun ρ cont => (drw171 cont xs p).trans (by
          rw [if_pos h, h0, h1, cond_false, cond_true, if_pos hb, if_pos ⟨hn.1, hn12⟩, List.getElem?_eq_getElem hl]; rfl)⟩
    · exact ⟨_, (nextF xs (belowF xs p 6).snd).snd, i64_rng _, nextP hb, fun ρ cont => (drw171 cont xs p).trans (by
        rw [if_pos h, h0, cond_true, if_pos hb]; rfl)⟩
noncomputable def intF := int_ok.choose
theorem orc_int : OrcOK NN Tryz.prog 171 (rO shI intF) := int_ok.choose_spec.1
theorem intR {xs : List Int} {p : Int} (h : rdOkB xs p = true) : -9223372036854775808 <= (intF xs p).1 /\ (intF xs p).1 < 9223372036854775808 := (int_ok.choose_spec.2 xs p h).1
theorem intP {xs : List Int} {p : Int} (h : rdOkB xs p = true) : rdOkB xs (intF xs p).2 = true := (int_ok.choose_spec.2 xs p h).2
def shQ (q : Int × Int) : SV := sQ q.1 q.2
noncomputable def rE4 : Env := VL tryT [] [(77, nO shI belowF), (78, nO shB onceF), (79, qofO)]
theorem rE4_ok : EnvOK NN Tryz.prog rE4 := VL_ok (TabOk.of tryT_ok) (gamC orc_below Tryz.call77 (gamC orc_once Tryz.call78 (gamC orc_qof Tryz.call79 (gamN _ _))))
theorem drw173 {ρ : Type} (cont : SV -> HL -> Option ρ) (xs : List Int) (p : Int) : runF rE4 Ash 20 Tryz.f173 (bodyOf Tryz.f173) ρ [one (.ptr 0 0)] (rdH xs p) cont =
  if rdOkB xs p = true then bif (onceF xs p 4).fst then if rdOkB xs (onceF xs p 4).snd = true then if rdOkB xs (belowF xs (onceF xs p 4).snd 6).snd = true then if (-9223372036854775808 <= IntKind.i64.wrap ((belowF xs (belowF xs (onceF xs p 4).snd 6).snd 25).fst - 8) /\ IntKind.i64.wrap ((belowF xs (belowF xs (onceF xs p 4).snd 6).snd 25).fst - 8) < 9223372036854775808) /\ -9223372036854775808 <=
  IntKind.i64.wrap (1 + (belowF xs (onceF xs p 4).snd 6).fst) /\ IntKind.i64.wrap (1 + (belowF xs (onceF xs p 4).snd 6).fst) < 9223372036854775808 then cont (SV.v true [Atom.int IntKind.i64 (qofA (IntKind.i64.wrap ((belowF xs (belowF xs (onceF xs p 4).snd 6).snd 25).fst - 8)) (IntKind.i64.wrap (1 + (belowF xs (onceF xs p 4).snd 6).fst))), Atom.int IntKind.i64 (qofB (IntKind.i64.wrap ((belowF xs
  (belowF xs (onceF xs p 4).snd 6).snd 25).fst - 8)) (IntKind.i64.wrap (1 + (belowF xs (onceF xs p 4).snd 6).fst)))]) [Blk.var [Atom.sl none (Ty.int IntKind.u8) xs, Atom.int IntKind.i64 (belowF xs (belowF xs (onceF xs p 4).snd 6).snd 25).snd]] else none else none else none else if rdOkB xs (onceF xs p 4).snd = true then if (-9223372036854775808 <= IntKind.i64.wrap ((belowF xs (onceF xs p 4).snd
  25).fst - 8) /\ IntKind.i64.wrap ((belowF xs (onceF xs p 4).snd 25).fst - 8) < 9223372036854775808) /\ (-9223372036854775808 : Int) <= 1 /\ (1 : Int) < 9223372036854775808 then cont (SV.v true [Atom.int IntKind.i64 (qofA (IntKind.i64.wrap ((belowF xs (onceF xs p 4).snd 25).fst - 8)) 1), Atom.int IntKind.i64 (qofB (IntKind.i64.wrap ((belowF xs (onceF xs p 4).snd 25).fst - 8)) 1)]) [Blk.var [Atom.sl
  none (Ty.int IntKind.u8) xs, Atom.int IntKind.i64 (belowF xs (onceF xs p 4).snd 25).snd]] else none else none else none := by kernel_rfl
theorem one_rng : (-9223372036854775808 : Int) <= 1 /\ (1 : Int) < 9223372036854775808 := by decide
theorem drawQ_ok : ∃ f : List Int -> Int -> (Int × Int) × Int, OrcOK NN Tryz.prog 173 (rO shQ f) /\ ∀ xs p, rdOkB xs p = true -> True /\ rdOkB xs (f xs p).2 = true :=
  rO_ok (cR_ok (A := Ash) (fuel := 20) rE4_ok rfl Tryz.func173 (by kernel_rfl)) shQ (fun x => True) fun xs p h => by
    have ho := onceP (n := 4) h
    cases h0 : (onceF xs p 4).fst
    · exact ⟨(_, _), (belowF xs (onceF xs p 4).snd 25).snd, trivial, belowP ho, fun ρ cont => (drw173 cont xs p).trans (by
        rw [if_pos h, h0, cond_false, if_pos ho, if_pos ⟨i64_rng _, one_rng⟩]; rfl)⟩
    · have hb := belowP (n := 6) ho
      exact ⟨(_, _), (belowF xs (belowF xs (onceF xs p 4).snd 6).snd 25).snd, trivial, belowP hb, fun ρ cont => (drw173 cont xs p).trans (by
        rw [if_pos h, h0, cond_true, if_pos ho, if_pos hb, if_pos ⟨i64_rng _, i64_rng _⟩]; rfl)⟩
noncomputable def drawQF := drawQ_ok.choose
theorem orc_drawQ : OrcOK NN Tryz.prog 173 (rO shQ drawQF) := drawQ_ok.choose_spec.1
theorem drawQP {xs : List Int} {p : Int} (h : rdOkB xs p = true) : rdOkB xs (drawQF xs p).2 = true := (drawQ_ok.choose_spec.2 xs p h).2
noncomputable def rE5 : Env := VL tryT [] [(77, nO shI belowF), (171, rO shI intF), (79, qofO), (172, rO shW wordF), (173, rO shQ drawQF)]
theorem rE5_ok : EnvOK NN Tryz.prog rE5 := VL_ok (TabOk.of tryT_ok) (gamC orc_below Tryz.call77 (gamC orc_int Tryz.call171 (gamC orc_qof Tryz.call79 (gamC orc_word Tryz.call172 (gamC orc_drawQ Tryz.call173 (gamN _ _))))))
theorem drw76 {ρ : Type} (cont : SV -> HL -> Option ρ) (xs : List Int) (p : Int) : runF rE5 Ash 20 Tryz.f76 (bodyOf Tryz.f76) ρ [one (.ptr 0 0)] (rdH xs p) cont =
  if rdOkB xs p = true then bif (belowF xs p 8).fst == 0 then if rdOkB xs (belowF xs p 8).snd = true then if rdOkB xs (intF xs (belowF xs p 8).snd).snd = true then if (-9223372036854775808 <= (intF xs (belowF xs p 8).snd).fst /\ (intF xs (belowF xs p 8).snd).fst < 9223372036854775808) /\ -9223372036854775808 <= (intF xs (intF xs (belowF xs p 8).snd).snd).fst /\ (intF xs (intF xs (belowF xs p
  8).snd).snd).fst < 9223372036854775808 then bif qofC (intF xs (belowF xs p 8).snd).fst (intF xs (intF xs (belowF xs p 8).snd).snd).fst then cont (SV.v true [Atom.int IntKind.i64 (qofA (intF xs (belowF xs p 8).snd).fst (intF xs (intF xs (belowF xs p 8).snd).snd).fst), Atom.int IntKind.i64 (qofB (intF xs (belowF xs p 8).snd).fst (intF xs (intF xs (belowF xs p 8).snd).snd).fst)]) [Blk.var [Atom.sl
  none (Ty.int IntKind.u8) xs, Atom.int IntKind.i64 (intF xs (intF xs (belowF xs p 8).snd).snd).snd]] else cont (SV.v true [Atom.int IntKind.i64 1, Atom.int IntKind.i64 3]) [Blk.var [Atom.sl none (Ty.int IntKind.u8) xs, Atom.int IntKind.i64 (intF xs (intF xs (belowF xs p 8).snd).snd).snd]] else none else none else none else bif (belowF xs p 8).fst == 1 then if rdOkB xs (belowF xs p 8).snd = true
  then if rdOkB xs (intF xs (belowF xs p 8).snd).snd = true then cont (SV.v true [Atom.int IntKind.i64 (intF xs (belowF xs p 8).snd).fst, Atom.int IntKind.i64 (intF xs (intF xs (belowF xs p 8).snd).snd).fst]) [Blk.var [Atom.sl none (Ty.int IntKind.u8) xs, Atom.int IntKind.i64 (intF xs (intF xs (belowF xs p 8).snd).snd).snd]] else none else none else bif (belowF xs p 8).fst == 2 then if rdOkB xs
  (belowF xs p 8).snd = true then if rdOkB xs (wordF xs (belowF xs p 8).snd).snd = true then if rdOkB xs (wordF xs (wordF xs (belowF xs p 8).snd).snd).snd = true then if IntKind.u64.wrap (IntKind.i64.wrap (5 + (belowF xs (wordF xs (wordF xs (belowF xs p 8).snd).snd).snd 50).fst)) < 0 then none else if (-9223372036854775808 <= IntKind.i64.wrap ((wordF xs (belowF xs p 8).snd).fst.fdiv (2 ^ min
  (Int.toNat 5) IntKind.u64.bits)) /\ IntKind.i64.wrap ((wordF xs (belowF xs p 8).snd).fst.fdiv (2 ^ min (Int.toNat 5) IntKind.u64.bits)) < 9223372036854775808) /\ -9223372036854775808 <= IntKind.i64.wrap ((wordF xs (wordF xs (belowF xs p 8).snd).snd).fst.fdiv (2 ^ min (IntKind.u64.wrap (IntKind.i64.wrap (5 + (belowF xs (wordF xs (wordF xs (belowF xs p 8).snd).snd).snd 50).fst))).toNat
  IntKind.u64.bits)) /\ IntKind.i64.wrap ((wordF xs (wordF xs (belowF xs p 8).snd).snd).fst.fdiv (2 ^ min (IntKind.u64.wrap (IntKind.i64.wrap (5 + (belowF xs (wordF xs (wordF xs (belowF xs p 8).snd).snd).snd 50).fst))).toNat IntKind.u64.bits)) < 9223372036854775808 then bif qofC (IntKind.i64.wrap ((wordF xs (belowF xs p 8).snd).fst.fdiv (2 ^ min (Int.toNat 5) IntKind.u64.bits))) (IntKind.i64.wrap
  ((wordF xs (wordF xs (belowF xs p 8).snd).snd).fst.fdiv (2 ^ min (IntKind.u64.wrap (IntKind.i64.wrap (5 + (belowF xs (wordF xs (wordF xs (belowF xs p 8).snd).snd).snd 50).fst))).toNat IntKind.u64.bits))) then cont (SV.v true [Atom.int IntKind.i64 (qofA (IntKind.i64.wrap ((wordF xs (belowF xs p 8).snd).fst.fdiv (2 ^ min (Int.toNat 5) IntKind.u64.bits))) (IntKind.i64.wrap ((wordF xs (wordF xs
  (belowF xs p 8).snd).snd).fst.fdiv (2 ^ min (IntKind.u64.wrap (IntKind.i64.wrap (5 + (belowF xs (wordF xs (wordF xs (belowF xs p 8).snd).snd).snd 50).fst))).toNat IntKind.u64.bits)))), Atom.int IntKind.i64 (qofB (IntKind.i64.wrap ((wordF xs (belowF xs p 8).snd).fst.fdiv (2 ^ min (Int.toNat 5) IntKind.u64.bits))) (IntKind.i64.wrap ((wordF xs (wordF xs (belowF xs p 8).snd).snd).fst.fdiv (2 ^ min
  (IntKind.u64.wrap (IntKind.i64.wrap (5 + (belowF xs (wordF xs (wordF xs (belowF xs p 8).snd).snd).snd 50).fst))).toNat IntKind.u64.bits))))]) [Blk.var [Atom.sl none (Ty.int IntKind.u8) xs, Atom.int IntKind.i64 (belowF xs (wordF xs (wordF xs (belowF xs p 8).snd).snd).snd 50).snd]] else cont (SV.v true [Atom.int IntKind.i64 (-1000000000000000000), Atom.int IntKind.i64 1]) [Blk.var [Atom.sl none
  (Ty.int IntKind.u8) xs, Atom.int IntKind.i64 (belowF xs (wordF xs (wordF xs (belowF xs p 8).snd).snd).snd 50).snd]] else none else none else none else none else if rdOkB xs (belowF xs p 8).snd = true then cont (SV.v true [Atom.int IntKind.i64 (drawQF xs (belowF xs p 8).snd).fst.fst, Atom.int IntKind.i64 (drawQF xs (belowF xs p 8).snd).fst.snd]) [Blk.var [Atom.sl none (Ty.int IntKind.u8) xs,
  Atom.int IntKind.i64 (drawQF xs (belowF xs p 8).snd).snd]] else none else none := by kernel_rfl
theorem any_ok : ∃ f : List Int -> Int -> (Int × Int) × Int, OrcOK NN Tryz.prog 76 (rO shQ f) /\ ∀ xs p, rdOkB xs p = true -> True /\ rdOkB xs (f xs p).2 = true :=
  rO_ok (cR_ok (A := Ash) (fuel := 20) rE5_ok rfl Tryz.func76 (by kernel_rfl)) shQ (fun x => True) fun xs p h => by
    have hb := belowP (n := 8) h
    have hi := intP hb
    have hw := wordP hb
    have hw2 := wordP hw
    cases h0 : (belowF xs p 8).fst == 0
    · cases h1 : (belowF xs p 8).fst == 1
      · cases h2 : (belowF xs p 8).fst == 2
        · exact ⟨(_, _), (drawQF xs (belowF xs p 8).snd).snd, trivial, drawQP hb, fun ρ cont => (drw76 cont xs p).trans (by
            rw [if_pos h, h0, h1, h2, cond_false, cond_false, cond_false, if_pos hb]; rfl)⟩
        · cases h3 : qofC (IntKind.i64.wrap ((wordF xs (belowF xs p 8).snd).fst.fdiv (2 ^ min (Int.toNat 5) IntKind.u64.bits))) (IntKind.i64.wrap ((wordF xs (wordF xs (belowF xs p 8).snd).snd).fst.fdiv (2 ^ min (IntKind.u64.wrap (IntKind.i64.wrap (5 + (belowF xs (wordF xs (wordF xs (belowF xs p 8).snd).snd).snd 50).fst))).toNat IntKind.u64.bits)))
          · exact ⟨(_, _), (belowF xs (wordF xs (wordF xs (belowF xs p 8).snd).snd).snd 50).snd, trivial, belowP hw2, fun ρ cont => (drw76 cont xs p).trans (by
              rw [if_pos h, h0, h1, h2, cond_false, cond_false, cond_true, if_pos hb, if_pos hw, if_pos hw2, if_neg (u64_rng _), if_pos ⟨i64_rng _, i64_rng _⟩, h3, cond_false]; rfl)⟩
          · exact ⟨(_, _), (belowF xs (wordF xs (wordF xs (belowF xs p 8).snd).snd).snd 50).snd, trivial, belowP hw2, fun ρ cont => (drw76 cont xs p).trans (by
              rw [if_pos h, h0, h1, h2, cond_false, cond_false, cond_true, if_pos hb, if_pos hw, if_pos hw2, if_neg (u64_rng _), if_pos ⟨i64_rng _, i64_rng _⟩, h3, cond_true]; rfl)⟩
      · exact ⟨((intF xs (belowF xs p 8).snd).fst, (intF xs (intF xs (belowF xs p 8).snd).snd).fst), (intF xs (intF xs (belowF xs p 8).snd).snd).snd, trivial, intP hi, fun ρ cont => (drw76 cont xs p).trans (by
          rw [if_pos h, h0, h1, cond_false, cond_true, if_pos hb, if_pos hi]; rfl)⟩
    · cases h3 : qofC (intF xs (belowF xs p 8).snd).fst (intF xs (intF xs (belowF xs p 8).snd).snd).fst
      · exact ⟨(_, _), (intF xs (intF xs (belowF xs p 8).snd).snd).snd, trivial, intP hi, fun ρ cont => (drw76 cont xs p).trans (by
          rw [if_pos h, h0, cond_true, if_pos hb, if_pos hi, if_pos ⟨intR hb, intR hi⟩, h3, cond_false]; rfl)⟩
      · exact ⟨(_, _), (intF xs (intF xs (belowF xs p 8).snd).snd).snd, trivial, intP hi, fun ρ cont => (drw76 cont xs p).trans (by
          rw [if_pos h, h0, cond_true, if_pos hb, if_pos hi, if_pos ⟨intR hb, intR hi⟩, h3, cond_true]; rfl)⟩
noncomputable def anyF := any_ok.choose
theorem orc_any : OrcOK NN Tryz.prog 76 (rO shQ anyF) := any_ok.choose_spec.1
theorem anyP {xs : List Int} {p : Int} (h : rdOkB xs p = true) : rdOkB xs (anyF xs p).2 = true := (any_ok.choose_spec.2 xs p h).2
structure Two where
  a : Int
  b : Int
  c : Int
  d : Int
end Go.Abs
namespace Go.Abs
open Go.Proofs
set_option maxRecDepth 100000
theorem szQ_q {a b : Int} (h : qOkB a b = true) : szQ (Rat.divInt a b) = true := by
  obtain ⟨h1, h2, h3, h4, h5⟩ := qOkB_iff.1 h
  have := divInt_le (n := a) (d := b) (by omega)
  exact szQ_of ⟨by omega, by omega⟩
def ok2 (a b c d : Int) : Bool := qOkB a b && qOkB c d
def opN (g : Int -> Int -> Int -> Int -> Bool) (f : Rat -> Rat -> Rat) (a b c d : Int) : Int := bif g a b c d then qNum (f (Rat.divInt a b) (Rat.divInt c d)) else 0
def opD (g : Int -> Int -> Int -> Int -> Bool) (f : Rat -> Rat -> Rat) (a b c d : Int) : Int := bif g a b c d then qDen (f (Rat.divInt a b) (Rat.divInt c d)) else 0
def opT (g : Int -> Int -> Int -> Int -> Bool) (f : Rat -> Rat -> Rat) (a b c d : Int) : Bool := bif g a b c d then qFit (f (Rat.divInt a b) (Rat.divInt c d)) else false
def opO (g : Int -> Int -> Int -> Int -> Bool) (f : Rat -> Rat -> Rat) : Orc := fun ρ args H cont => match args, H with
  | [.v true [.int .i64 a, .int .i64 b], .v true [.int .i64 c, .int .i64 d]], [] => cont (tupB (opN g f a b c d) (opD g f a b c d) (opT g f a b c d)) []
  | _, _ => none
def qcmV (a b c d : Int) : Int := bif ok2 a b c d then cmpQ (Rat.divInt a b) (Rat.divInt c d) else 2
def qcmO : Orc := fun ρ args H cont => match args, H with
  | [.v true [.int .i64 a, .int .i64 b], .v true [.int .i64 c, .int .i64 d]], [] => cont (one (.int .i64 (qcmV a b c d))) []
  | _, _ => none
noncomputable def frE : Env := VL tryT [] [(61, q61), (62, qO 0), (63, rat2 (fun p q => szQ p && szQ q) fun p q => nm 0 (p + q)), (70, rat2 (fun p q => szQ p && szQ q) fun p q => nm 0 (p - q)), (73, rat2 (fun p q => szQ p && szQ q) fun p q => nm 0 (p * q)), (74, rat2 (fun p q => szQ p && szQ q && decide (q ≠ 0)) fun p q => nm 0 (p / q)), (69, rat2 (fun p q => szQ p && szQ q) fun p q => one (.int .i64 (cmpQ p q))), (64, rat1 (fun _ => true) tupQ)]
theorem frE_ok : EnvOK NN Tryz.prog frE := VL_ok (TabOk.of tryT_ok) (gamC q61_ok Tryz.call61 (gamC orc86 Tryz.call62 (gamC orc59 Tryz.call63 (gamC orc37 Tryz.call70 (gamC orc60 Tryz.call73 (gamC orc90 Tryz.call74 (gamC orc58 Tryz.call69 (gamC orc41 Tryz.call64 (gamN _ _)))))))))
def opR {ρ : Type} (cont : SV -> HL -> Option ρ) (f : Rat -> Rat -> Rat) (a b c d : Int) : Option ρ :=
  bif !qOkB a b then cont (tupB 0 0 false) [] else bif !qOkB c d then cont (tupB 0 0 false) [] else
  if qOkB a b = true then (if qOkB c d = true then (if (szQ (Rat.divInt a b) && szQ (Rat.divInt c d)) = true then cont (tupQ (f (Rat.divInt a b) (Rat.divInt c d))) [] else none) else none) else none
theorem opR_eq {ρ : Type} (cont : SV -> HL -> Option ρ) (f : Rat -> Rat -> Rat) (a b c d : Int) : opR cont f a b c d = cont (tupB (opN ok2 f a b c d) (opD ok2 f a b c d) (opT ok2 f a b c d)) [] := by
  unfold opR opN opD opT ok2
  cases h1 : qOkB a b
  · rfl
  · cases h2 : qOkB c d
    · rfl
    · rw [szQ_q h1, szQ_q h2]; rfl
theorem frr14 {ρ : Type} (cont : SV -> HL -> Option ρ) (a b c d : Int) : runF frE Ash 20 Tryz.f14 (bodyOf Tryz.f14) ρ [sQ a b, sQ c d] [] cont = opR cont (fun p q => p + q) a b c d := by kernel_rfl
theorem op_ok {n : Nat} {F : Orc} {f : Rat -> Rat -> Rat} (hF : OrcOK NN Tryz.prog n F) (h : ∀ {ρ : Type} (cont : SV -> HL -> Option ρ) (a b c d : Int), F ρ [sQ a b, sQ c d] [] cont = opR cont f a b c d) : OrcOK NN Tryz.prog n (opO ok2 f) :=
  OrcOK.of_tale hF fun ρ args H cont r hr => by
    unfold opO at hr
    split at hr
    · rename_i a b c d
      exact (h cont a b c d).trans ((opR_eq cont f a b c d).trans hr)
    · contradiction
theorem orc_qadd : OrcOK NN Tryz.prog 14 (opO ok2 fun p q => p + q) := op_ok (cR_ok (A := Ash) (fuel := 20) frE_ok rfl Tryz.func14 (by kernel_rfl)) frr14
theorem q_rt {a b : Int} (h : qOkB a b = true) : (Rat.divInt a b).num = a /\ ((Rat.divInt a b).den : Int) = b := by
  obtain ⟨h1, h2, h3, h4, h5⟩ := qOkB_iff.1 h
  obtain ⟨k1, k2⟩ := divInt_pos a b (by omega)
  rw [h5, Int.natCast_one, Int.ediv_one] at k1 k2
  exact ⟨k1, k2⟩
theorem divInt_ne {a b : Int} (h : qOkB a b = true) : Rat.divInt a b = 0 ↔ a = 0 := by
  obtain ⟨k1, k2⟩ := q_rt h
  constructor
  · intro e; rw [e] at k1; exact k1.symm
  · intro e; subst e; exact Rat.zero_divInt b
theorem frr16 {ρ : Type} (cont : SV -> HL -> Option ρ) (a b c d : Int) : runF frE Ash 20 Tryz.f16 (bodyOf Tryz.f16) ρ [sQ a b, sQ c d] [] cont =
    bif !qOkB a b then cont (one (.int .i64 2)) [] else bif !qOkB c d then cont (one (.int .i64 2)) [] else
    if qOkB a b = true then (if qOkB c d = true then (if (szQ (Rat.divInt a b) && szQ (Rat.divInt c d)) = true then cont (one (.int .i64 (cmpQ (Rat.divInt a b) (Rat.divInt c d)))) [] else none) else none) else none := by kernel_rfl
theorem orc_qcmp : OrcOK NN Tryz.prog 16 qcmO :=
  OrcOK.of_tale (cR_ok (A := Ash) (fuel := 20) frE_ok rfl Tryz.func16 (by kernel_rfl)) fun ρ args H cont r hr => by
    unfold qcmO at hr
    split at hr
    · rename_i a b c d
      refine (frr16 cont a b c d).trans ?_
      unfold qcmV ok2 at hr
      cases h1 : qOkB a b
      · rw [h1] at hr; exact hr
      · cases h2 : qOkB c d
        · rw [h1, h2] at hr; exact hr
        · rw [h1, h2] at hr
          rw [szQ_q h1, szQ_q h2]
          exact hr
    · contradiction
end Go.Abs
namespace Go.Abs
open Go.Proofs
set_option maxRecDepth 100000
def sqN (N : Nat) : Nat -> Nat -> Nat
  | 0, R => R
  | k + 1, R => sqN N k (if (R + 2 ^ k) * (R + 2 ^ k) <= N then R + 2 ^ k else R)
def isq (N : Nat) : Nat := sqN N (16 * (words N).length + 16) 0
end Go.Abs
namespace Go.Abs
open Go.Proofs
set_option maxRecDepth 100000
def sqrtO : Orc := fun ρ args H cont => match args, H with
  | [.v false [.ptr 0 0], .v false [.ptr 0 0]], [.var [.bool b, .sl none (.int .u32) xs]] =>
    if xs = words (val xs).toNat /\ List.length (α := Int) xs < 1000000000 then cont (one (.ptr 0 0)) [zB ((isq (val xs).toNat : Nat) : Int)] else none
  | _, _ => none
def divModO : Orc := fun ρ args H cont => match args, H with
  | [.v false [.ptr 0 0], .v false [.ip (.pair .bool (.list (.int .u32))) d 0], .v false [.ip (.pair .bool (.list (.int .u32))) e 0], .v false [.ptr 1 0]], [.var [.bool b0, .nils], .var [.bool b1, .nils]] =>
    if zOk d /\ zOk e /\ 0 <= zV d /\ 0 < zV e then cont (.tup [(false, [.ptr 0 0]), (false, [.ptr 1 0])]) [zB (Int.tdiv (zV d) (zV e)), .dead] else none
  | _, _ => none
theorem gq248 {ρ : Type} (cont : SV -> HL -> Option ρ) (b0 b1 : Bool) (x y : tZ.den) : runF V9 Ash 0 Tryz.f248 (bodyOf Tryz.f248) ρ [one (.ptr 0 0), one (.ip tZ x 0), one (.ip tZ y 0), one (.ptr 1 0)] [.var [.bool b0, .nils], .var [.bool b1, .nils]] cont =
    if zOk y then (if zOk x /\ zOk y /\ zV y ≠ 0 then (if zOk (zD (Int.tmod (zV x) (zV y))) then
      bif decide (Int.sign (zV (zD (Int.tmod (zV x) (zV y)))) < 0) then (if zOk (zD (zV y)) then none else none) else
      cont (.tup [(false, [.ptr 0 0]), (false, [.ptr 1 0])]) [zB (Int.tdiv (zV x) (zV y)), .dead] else none) else none) else none := by kernel_rfl
theorem orc_divMod (N : NumSem) : OrcOK N Tryz.prog 248 divModO :=
  OrcOK.of_tale (runF_ok (V9_ok N) mixT (A := Ash) (fuel := 0) Tryz.func248 (c := bodyOf Tryz.f248) (by kernel_rfl) (wp_loops (by kernel_rfl))) fun ρ args H cont r h => by
    unfold divModO at h
    split at h
    · rename_i d e b0 b1
      split at h
      · rename_i hc
        obtain ⟨hd, he, h0, h1⟩ := hc
        refine (gq248 cont b0 b1 d e).trans ?_
        have hm : 0 <= Int.tmod (zV d) (zV e) := Int.tmod_nonneg _ h0
        have hlt : Int.tmod (zV d) (zV e) < zV e := Int.tmod_lt_of_pos _ h1
        obtain ⟨m, he1, he2⟩ := zOk_ex he
        have e3 : zV e = m := by rw [he1, zV_zD]
        have hok : zOk (zD (Int.tmod (zV d) (zV e))) := zOk_zD (by
          rw [e3] at hlt h1 ⊢
          have : (Int.tmod (zV d) m).natAbs <= m.natAbs := by rw [e3] at hm; omega
          exact Nat.lt_of_le_of_lt (words_mono this) he2)
        rw [if_pos he, if_pos ⟨hd, he, by omega⟩, if_pos hok, zV_zD, decide_eq_false (by
          intro hs
          rcases Int.lt_or_eq_of_le hm with h | h
          · rw [Int.sign_eq_one_of_pos h] at hs; omega
          · rw [<- h] at hs; exact absurd hs (by decide)), cond_false]
        exact h
      · contradiction
    · contradiction
def divO : Orc := fun ρ args H cont => match args, H with
  | [.v false [.ptr 0 0], .v false [.ip (.pair .bool (.list (.int .u32))) d 0], .v false [.ip (.pair .bool (.list (.int .u32))) e 0]], [.var [.bool b0, .nils]] =>
    if zOk d /\ zOk e /\ 0 <= zV d /\ 0 < zV e then cont (one (.ptr 0 0)) [zB (Int.tdiv (zV d) (zV e))] else none
  | _, _ => none
def Vdm : Env := { T := tryT, E := [], Γ := gamL [(248, divModO)], M := M8 }
theorem Vdm_ok (N : NumSem) : EnvOK N Tryz.prog Vdm := { T := TabOk.of tryT_ok, E := fun p hp => (by cases hp), Γ := gamC (orc_divMod N) Tryz.call248 (gamN N _) }
theorem gq175d {ρ : Type} (cont : SV -> HL -> Option ρ) (b0 : Bool) (x y : tZ.den) : runF Vdm Ash 0 Tryz.f175 (bodyOf Tryz.f175) ρ [one (.ptr 0 0), one (.ip tZ x 0), one (.ip tZ y 0)] [.var [.bool b0, .nils]] cont =
    if zOk x /\ zOk y /\ 0 <= zV x /\ 0 < zV y then cont (one (.ptr 0 0)) [zB (Int.tdiv (zV x) (zV y))] else none := by kernel_rfl
theorem orc_div (N : NumSem) : OrcOK N Tryz.prog 175 divO :=
  OrcOK.of_tale (runF_ok (Vdm_ok N) mixT (A := Ash) (fuel := 0) Tryz.func175 (c := bodyOf Tryz.f175) (by kernel_rfl) (wp_loops (by kernel_rfl))) fun ρ args H cont r h => by
    unfold divO at h
    split at h
    · exact (gq175d cont _ _ _).trans h
    · contradiction
def setIO : Orc := fun ρ args H cont => match args, H with
  | [.v false [.ptr 0 0], .v false [.ip (.pair .bool (.list (.int .u32))) d 0]], [.var [.bool _, .nils, .bool _, .nils]] =>
    if zOk d then cont (one (.ptr 0 0)) [rB (Rat.divInt (zV d) 1).num (Rat.divInt (zV d) 1).den] else none
  | _, _ => none
def Vsi : Env := { T := tryT, E := [], Γ := gamL [(97, newIntO), (96, setFracO)], M := M8 }
theorem Vsi_ok (N : NumSem) : EnvOK N Tryz.prog Vsi := { T := TabOk.of tryT_ok, E := fun p hp => (by cases hp), Γ := gamC (orc178 N) Tryz.call97 (gamC (orc159 N) Tryz.call96 (gamN N _)) }
theorem gq178i {ρ : Type} (cont : SV -> HL -> Option ρ) (b0 b1 : Bool) (x : tZ.den) : runF Vsi Ash 0 Tryz.f178 (bodyOf Tryz.f178) ρ [one (.ptr 0 0), one (.ip tZ x 0)] [.var [.bool b0, .nils, .bool b1, .nils]] cont =
    if zOk x /\ zOk (zD 1) /\ zV (zD 1) ≠ 0 then cont (one (.ptr 0 0)) [rB (Rat.divInt (zV x) (zV (zD 1))).num (Rat.divInt (zV x) (zV (zD 1))).den] else none := by kernel_rfl
theorem orc_setI (N : NumSem) : OrcOK N Tryz.prog 178 setIO :=
  OrcOK.of_tale (runF_ok (Vsi_ok N) mixT (A := Ash) (fuel := 0) Tryz.func178 (c := bodyOf Tryz.f178) (by kernel_rfl) (wp_loops (by kernel_rfl))) fun ρ args H cont r h => by
    unfold setIO at h
    split at h
    · rename_i d b0 b1
      split at h
      · rename_i hc
        refine (gq178i cont b0 b1 d).trans ?_
        rw [if_pos ⟨hc, zOk_zD (by decide), by rw [zV_zD]; decide⟩, zV_zD]
        exact h
      · contradiction
    · contradiction
end Go.Abs
namespace Go.Abs
open Go.Proofs
set_option maxRecDepth 100000
def rat1H (g : Rat -> Bool) (f : SV) (B : Rat -> HL) : Orc := fun ρ args H cont => match args, H with
  | [.v true [.num 0 (some q)]], [] => if g q = true then cont f (B q) else none
  | _, _ => none
theorem rat1H_ok {P : Program} {k : Nat} {F : Orc} {g : Rat -> Bool} {f : SV} {B : Rat -> HL} (hF : OrcOK NN P k F)
    (h : ∀ ρ (cont : SV -> HL -> Option ρ) (q : Rat), g q = true -> F ρ [ratT q] [] cont = cont f (B q)) : OrcOK NN P k (rat1H g f B) := by
  intro ρ args H cont r hr hwf hids
  unfold rat1H at hr
  split at hr
  · rename_i q
    split at hr
    · rename_i hg
      refine ⟨_, _, hr, Nat.zero_le _, fun {G κ w cargs} hrel hargs => ?_⟩
      obtain ⟨s', H', e, _, hcall⟩ := hF (h _ (fun s H => some (s, H)) q hg) hwf (fun s hs i hi => by
        have : s = ratT q := by simpa using hs
        subst this
        rw [ratT_ids] at hi; cases hi)
      simp only [Option.some.injEq, Prod.mk.injEq] at e
      obtain ⟨rfl, rfl⟩ := e
      obtain ⟨v, r', e1, h1, h2⟩ := hargs
      exact hcall hrel ⟨v, r', e1, nm_in h1, h2⟩
    · contradiction
  · contradiction
def Mfl : Nat -> List (Nat × Ty) := fun f => bif Nat.beq f 178 then [(1, tZ)] else bif Nat.beq f 92 then [(0, tR)] else bif Nat.beq f 82 then [(0, tZ)] else []
def Vfl : Env := { T := tranT, E := [], Γ := gamL [(155, bigO), (176, ofR fun q => one (.ip tZ (zD q.num) 0)), (177, ofR fun q => one (.ip tZ (zD q.den) 0)), (175, divO), (178, setIO), (92, fitO)], M := Mfl }
theorem Vfl_ok (N : NumSem) : EnvOK N Tryz.prog Vfl :=
  { T := TT_ok, E := fun p hp => (by cases hp), Γ := gamC (orc95 N) Tryz.call155 (gamC (orc139 N) Tryz.call176 (gamC (orc141 N) Tryz.call177 (gamC (orc_div N) Tryz.call175 (gamC (orc_setI N) Tryz.call178 (gamC (orc93 N) Tryz.call92 (gamN N _)))))) }
def frmI {ρ : Type} (cont : SV -> HL -> Option ρ) (x : tZ.den) : Option ρ :=
  if zOk x then (if rOk (rD (Rat.divInt (zV x) 1)) then (if smallQ (rV (rD (Rat.divInt (zV x) 1))) then cont (ratS (rV (rD (Rat.divInt (zV x) 1)))) [] else cont (ratB (rV (rD (Rat.divInt (zV x) 1)))) []) else none) else none
theorem gq82 {ρ : Type} (cont : SV -> HL -> Option ρ) (x : tZ.den) : runF Vfl Ash 0 Tryz.f82 (bodyOf Tryz.f82) ρ [one (.ip tZ x 0)] [] cont = frmI cont x := by kernel_rfl
def fromIntO : Orc := fun ρ args H cont => match args, H with
  | [.v false [.ip (.pair .bool (.list (.int .u32))) d 0]], [] => if zOk d /\ szQ (Rat.divInt (zV d) 1) = true then cont (nm 0 (Rat.divInt (zV d) 1)) [] else none
  | _, _ => none
theorem orc_fromInt : OrcOK NN Tryz.prog 82 fromIntO :=
  OrcOK.cv (runF_ok (Vfl_ok NN) mixT (A := Ash) (fuel := 0) Tryz.func82 (c := bodyOf Tryz.f82) (by kernel_rfl) (wp_loops (by kernel_rfl))) fun args H cont r h => by
    unfold fromIntO at h
    split at h
    · rename_i d
      split at h
      · rename_i hc
        refine ⟨_, ratT (Rat.divInt (zV d) 1), Cv.num0, rfl, h, fun ρ' cont' => (gq82 cont' d).trans ?_⟩
        unfold frmI ratT
        rw [if_pos hc.1, if_pos (szQ_r hc.2), rV_rD]
        split <;> rfl
      · contradiction
    · contradiction
end Go.Abs
namespace Go.Abs
open Go.Proofs
set_option maxRecDepth 100000
end Go.Abs
namespace Go.Abs
open Go.Proofs
set_option maxRecDepth 100000
end Go.Abs
namespace Go.Abs
open Go.Proofs
set_option maxRecDepth 100000
end Go.Abs
namespace Go.Abs
open Go.Proofs
set_option maxRecDepth 100000
theorem szQ_divI {n d : Int} (hd : d ≠ 0) (h1 : n.natAbs < 4294967296 ^ 8) (h2 : d.natAbs < 4294967296 ^ 8) : szQ (Rat.divInt n d) = true := by
  have h := divInt_le (n := n) hd
  have l1 : (words (Rat.divInt n d).num.natAbs).length <= 8 := words_length (Nat.lt_of_le_of_lt h.1 h1)
  have l2 : (words (Rat.divInt n d).den).length <= 8 := words_length (Nat.lt_of_le_of_lt h.2 h2)
  unfold szQ
  rw [decide_eq_true (by omega), decide_eq_true (by omega)]; rfl
end Go.Abs
namespace Go.Abs
open Go.Proofs
set_option maxRecDepth 100000
def pls (p q : Rat) : Rat := p + q
def mns (p q : Rat) : Rat := p - q
theorem fit_ok {r : Rat} (h : qFit r = true) : qOkB (qNum r) (qDen r) = true /\ Rat.divInt (qNum r) (qDen r) = r := by
  have h' : r.num.natAbs <= 1000000000000000000 /\ r.den <= 1000000000000000000 := of_decide_eq_true h
  have e1 : qNum r = r.num := by unfold qNum; rw [if_pos h']
  have e2 : qDen r = r.den := by unfold qDen; rw [if_pos h']
  have h3 := r.den_pos
  have h4 : Int.gcd r.num r.den = 1 := r.reduced
  rw [e1, e2]
  exact ⟨qOkB_iff.2 ⟨by omega, by omega, by omega, by omega, h4⟩, Rat.num_divInt_den r⟩
section
variable {g : Int -> Int -> Int -> Int -> Bool} {f : Rat -> Rat -> Rat} {a b c d : Int}
theorem opT_g (h : opT g f a b c d = true) : g a b c d = true := by
  unfold opT at h
  cases hg : g a b c d
  · rw [hg] at h; contradiction
  · rfl
theorem op_fit (h : opT g f a b c d = true) : qOkB (opN g f a b c d) (opD g f a b c d) = true /\ Rat.divInt (opN g f a b c d) (opD g f a b c d) = f (Rat.divInt a b) (Rat.divInt c d) := by
  have hg := opT_g h
  unfold opT at h
  unfold opN opD
  rw [hg] at h ⊢
  exact fit_ok h
theorem op_no (h : g a b c d = false) : opT g f a b c d = false /\ opN g f a b c d = 0 /\ opD g f a b c d = 0 := by
  unfold opT opN opD
  rw [h]
  exact ⟨rfl, rfl, rfl⟩
end
theorem ok2_of {a b c d : Int} (h1 : qOkB a b = true) (h2 : qOkB c d = true) : ok2 a b c d = true := by unfold ok2; rw [h1, h2]; rfl
end Go.Abs
namespace Go.Abs
open Go.Proofs
set_option maxRecDepth 100000
noncomputable def belowG (xs : List Int) (p n : Int) : Int × Int := bif decide (n <= 256) then belowF xs p n else
  ((IntKind.i64.wrap (IntKind.i64.wrap ((nextF xs p).1 * 256) + (nextF xs (nextF xs p).2).1)).tmod n, (nextF xs (nextF xs p).2).2)
def nG (f : List Int -> Int -> Int -> Int × Int) : Orc := fun ρ args H cont => match args, H with
  | [.v false [.ptr 0 0], .v false [.int .i64 n]], [.var [.sl none (.int .u8) xs, .int .i64 p]] => bif decide (n <= 1) then none else (if rdOkB xs p = true then cont (shI (f xs p n).1) [.var [.sl none (.int .u8) xs, .int .i64 (f xs p n).2]] else none)
  | _, _ => none
theorem orc_belowG : OrcOK NN Tryz.prog 77 (nG belowG) :=
  OrcOK.of_tale (cR_ok (A := Ash) (fuel := 5) rE1_ok rfl Tryz.func77 (by kernel_rfl)) fun ρ args H cont r h => by
    unfold nG at h
    split at h
    · rename_i n xs p
      refine (drw77 cont xs p n).trans ?_
      by_cases h1 : n <= 1
      · rw [decide_eq_true h1, cond_true] at h; contradiction
      · rw [decide_eq_false h1, cond_false] at h ⊢
        split at h
        · rename_i hc
          unfold belowG at h
          by_cases h2 : n <= 256
          · rw [decide_eq_true h2, cond_true] at h ⊢
            rw [if_pos hc, if_neg (by omega)]; exact h
          · rw [decide_eq_false h2, cond_false] at h ⊢
            rw [if_pos hc, if_pos (nextP hc), if_neg (by omega)]; exact h
        · contradiction
    · contradiction
theorem belowGP {xs : List Int} {p n : Int} (h : rdOkB xs p = true) : rdOkB xs (belowG xs p n).2 = true := by
  unfold belowG
  cases decide (n <= 256)
  · exact nextP (nextP h)
  · exact belowP h
theorem belowGR {xs : List Int} {p : Int} (h : rdOkB xs p = true) {n : Int} (hn : 1 < n) (h2 : n <= 256) : 0 <= (belowG xs p n).1 /\ (belowG xs p n).1 < n := by
  unfold belowG
  rw [decide_eq_true h2]
  exact belowR h hn
noncomputable def rE9 : Env := VL tryT [] [(77, nG belowG), (76, rO shQ anyF), (78, nO shB onceF), (75, cR rE Ash 5 Tryz.f75), (79, qofO)]
theorem rE9_ok : EnvOK NN Tryz.prog rE9 := VL_ok (TabOk.of tryT_ok) (gamC orc_belowG Tryz.call77 (gamC orc_any Tryz.call76 (gamC orc_once Tryz.call78 (gamC (cR_ok rE_ok rfl Tryz.func75 (by kernel_rfl)) Tryz.call75 (gamC orc_qof Tryz.call79 (gamN _ _))))))
structure Thr where
  a : Int
  b : Int
  c : Int
def thrO (f : List Int -> Thr) : Orc := fun ρ args H cont => match args, H with
  | [.v false [.sl none (.int .u8) xs]], [] => if rdOkB xs 0 = true then cont (.tup [(true, [.int .i64 (f xs).a, .int .i64 (f xs).b]), (false, [.int .i64 (f xs).c])]) [] else none
  | _, _ => none
theorem thr_ok {n : Nat} {F : Orc} (hF : OrcOK NN Tryz.prog n F) (h : ∀ xs, rdOkB xs 0 = true -> ∃ t : Thr, ∀ ρ (cont : SV -> HL -> Option ρ), F ρ [one (.sl none (.int .u8) xs)] [] cont = cont (.tup [(true, [.int .i64 t.a, .int .i64 t.b]), (false, [.int .i64 t.c])]) []) :
    ∃ f, OrcOK NN Tryz.prog n (thrO f) := by
  classical
  have h' : ∀ xs, ∃ t : Thr, rdOkB xs 0 = true -> ∀ ρ (cont : SV -> HL -> Option ρ), F ρ [one (.sl none (.int .u8) xs)] [] cont = cont (.tup [(true, [.int .i64 t.a, .int .i64 t.b]), (false, [.int .i64 t.c])]) [] := fun xs => by
    by_cases hc : rdOkB xs 0 = true
    · obtain ⟨t, ht⟩ := h xs hc; exact ⟨t, fun _ => ht⟩
    · exact ⟨⟨0, 0, 0⟩, fun h => absurd h hc⟩
  refine ⟨fun xs => (h' xs).choose, OrcOK.of_tale hF fun ρ args H cont r hr => ?_⟩
  unfold thrO at hr
  split at hr
  · rename_i xs
    split at hr
    · rename_i hc
      exact ((h' xs).choose_spec hc ρ cont).trans hr
    · contradiction
  · contradiction
end Go.Abs
namespace Go.Abs
open Go.Proofs
set_option maxRecDepth 100000
section
variable {ρ : Type} (K : Bool -> Option ρ) (a b c : Int)
end
section
variable {ρ : Type} {K : Bool -> Option ρ} {a b c : Int}
theorem qcmV_eq {x y u v : Int} (h1 : qOkB x y = true) (h2 : qOkB u v = true) : qcmV x y u v = cmpQ (Rat.divInt x y) (Rat.divInt u v) := by
  unfold qcmV; rw [ok2_of h1 h2]; rfl
end
end Go.Abs
namespace Go.Abs
open Go.Proofs
set_option maxRecDepth 100000
def absPO : Orc := fun ρ args H cont => match args, H with
  | [.v false [.ptr 0 0], .v false [.ptr 1 0]], [.var [.bool b0, .nils], .var [.bool b, .sl none (.int .u32) xs]] => if zOk (b, xs) then cont (one (.ptr 0 0)) [zB (zV (b, xs)).natAbs, .var [.bool b, .sl none tW xs]] else none
  | _, _ => none
theorem gq262 {ρ : Type} (cont : SV -> HL -> Option ρ) (b0 b : Bool) (xs : List tW.den) : runF V7 Ash 0 Tryz.f262 (bodyOf Tryz.f262) ρ [one (.ptr 0 0), one (.ptr 1 0)] [.var [.bool b0, .nils], .var [.bool b, .sl none tW xs]] cont =
    (let z : List tW.den := []
     if z.length + List.length (α := tW.den) xs <= 70368744177664 /\ (z.length + List.length (α := tW.den) xs) * 4 <= 70368744177664 then
      cont (one (.ptr 0 0)) [.var [.bool false, .sl none tW (z ++ xs)], .var [.bool b, .sl none tW xs]] else none) := by kernel_rfl
theorem orc_absP (N : NumSem) : OrcOK N Tryz.prog 262 absPO :=
  OrcOK.of_tale (runF_ok (V7_ok N) mixT (A := Ash) (fuel := 0) Tryz.func262 (c := bodyOf Tryz.f262) (by kernel_rfl) (wp_loops (by kernel_rfl))) fun ρ args H cont r h => by
    unfold absPO at h
    split at h
    · rename_i b0 b xs
      split at h
      · rename_i hc
        obtain ⟨n, hn1, hn2⟩ := zOk_ex hc
        simp only [zD, Prod.mk.injEq] at hn1
        obtain ⟨rfl, rfl⟩ := hn1
        refine (gq262 cont b0 _ _).trans ?_
        have e0 : ([] : List tW.den).length = 0 := rfl
        have e : List.length (α := tW.den) (words n.natAbs) = (words n.natAbs).length := rfl
        simp only [e0, e]
        rw [if_pos (by omega), <- h]
        have ev : zV (decide (n < 0), words n.natAbs) = n := zV_zD n
        unfold zB
        rw [ev, Int.natAbs_natCast, decide_eq_false (show ¬ ((n.natAbs : Nat) : Int) < 0 by omega)]
        rfl
      · contradiction
    · contradiction
def subPO : Orc := fun ρ args H cont => match args, H with
  | [.v false [.ptr 0 0], .v false [.ptr 0 0], .v false [.ip (.pair .bool (.list (.int .u32))) e 0]], [.var [.bool b, .sl none (.int .u32) xs]] =>
    if zOk (b, xs) /\ zOk e then cont (one (.ptr 0 0)) [zB (zV (b, xs) - zV e)] else none
  | _, _ => none
def Mdm : Nat -> List (Nat × Ty) := fun f => bif Nat.beq f 112 then [(2, tZ)] else bif Nat.beq f 279 then [(2, tZ)] else bif Nat.beq f 263 then [(1, tZ), (2, tZ)] else bif Nat.beq f 249 then [(1, tZ)] else bif Nat.beq f 200 then [(1, tZ)] else []
def Vs2 : Env := { T := tryT, E := [], Γ := gamL [(112, addO), (200, un1 fun n => -n)], M := Mdm }
theorem Vs2_ok (N : NumSem) : EnvOK N Tryz.prog Vs2 := { T := TabOk.of tryT_ok, E := fun p hp => (by cases hp), Γ := gamC (orc160 N) Tryz.call112 (gamC (orc173 N) Tryz.call200 (gamN N _)) }
theorem gq279 {ρ : Type} (cont : SV -> HL -> Option ρ) (b : Bool) (xs : List tW.den) (x : tZ.den) : runF Vs2 Ash 0 Tryz.f279 (bodyOf Tryz.f279) ρ [one (.ptr 0 0), one (.ptr 0 0), one (.ip tZ x 0)] [.var [.bool b, .sl none tW xs]] cont =
    if zOk x then (if zOk (b, xs) /\ zOk (zD (-zV x)) then cont (one (.ptr 0 0)) [zB (zV (b, xs) + zV (zD (-zV x)))] else none) else none := by kernel_rfl
theorem orc_subP (N : NumSem) : OrcOK N Tryz.prog 279 subPO :=
  OrcOK.of_tale (runF_ok (Vs2_ok N) mixT (A := Ash) (fuel := 0) Tryz.func279 (c := bodyOf Tryz.f279) (by kernel_rfl) (wp_loops (by kernel_rfl))) fun ρ args H cont r h => by
    unfold subPO at h
    split at h
    · rename_i d b xs
      split at h
      · rename_i hc
        obtain ⟨n, hn1, hn2⟩ := zOk_ex hc.2
        have ev : zV d = n := by rw [show (d : tZ.den) = zD n from hn1, zV_zD]
        refine (gq279 cont b xs d).trans ?_
        rw [if_pos hc.2, if_pos ⟨hc.1, by rw [ev]; exact zOk_zD (by rw [Int.natAbs_neg]; exact hn2)⟩, zV_zD, <- h, Int.sub_eq_add_neg]
      · contradiction
    · contradiction
theorem tdiv_ediv {a b : Int} (hb : 0 < b) : (Int.tmod a b < 0 -> Int.tdiv a b - 1 = a / b) /\ (0 <= Int.tmod a b -> Int.tdiv a b = a / b) := by
  have h1 : b * Int.tdiv a b + Int.tmod a b = a := Int.mul_tdiv_add_tmod a b
  have h2 : Int.tmod a b < b := Int.tmod_lt_of_pos a hb
  have h3 : -b < Int.tmod a b := by
    have := Int.tmod_lt_of_pos (-a) hb
    rw [Int.neg_tmod] at this
    omega
  constructor
  · intro h
    refine ((Int.ediv_emod_unique hb (r := Int.tmod a b + b)).2 ⟨?_, by omega, by omega⟩).1.symm
    rw [Int.mul_sub, Int.mul_one]
    omega
  · intro h
    exact ((Int.ediv_emod_unique hb (r := Int.tmod a b)).2 ⟨by omega, h, h2⟩).1.symm
end Go.Abs
namespace Go.Abs
open Go.Proofs
set_option maxRecDepth 100000
def divModG : Orc := fun ρ args H cont => match args, H with
  | [.v false [.ptr 0 0], .v false [.ip (.pair .bool (.list (.int .u32))) d 0], .v false [.ip (.pair .bool (.list (.int .u32))) e 0], .v false [.ptr 1 0]], [.var [.bool b0, .nils], .var [.bool b1, .nils]] =>
    if zOk d /\ zOk e /\ 0 < zV e then cont (.tup [(false, [.ptr 0 0]), (false, [.ptr 1 0])]) [zB (zV d / zV e), zB (zV d % zV e)] else none
  | _, _ => none
def Vd2 : Env := { T := tryT, E := [], Γ := gamL [(263, quoRemO), (199, signO), (262, absPO), (249, un1 fun n => n), (112, addO), (279, subPO), (97, newIntO)], M := Mdm }
theorem Vd2_ok (N : NumSem) : EnvOK N Tryz.prog Vd2 := { T := TabOk.of tryT_ok, E := fun p hp => (by cases hp), Γ := gamC (orc228 N) Tryz.call263 (gamC (orc174 N) Tryz.call199 (gamC (orc_absP N) Tryz.call262 (gamC (orc176 N) Tryz.call249 (gamC (orc160 N) Tryz.call112 (gamC (orc_subP N) Tryz.call279 (gamC (orc178 N) Tryz.call97 (gamN N _))))))) }
theorem gq248g {ρ : Type} (cont : SV -> HL -> Option ρ) (b0 b1 : Bool) (x y : tZ.den) : runF Vd2 Ash 0 Tryz.f248 (bodyOf Tryz.f248) ρ [one (.ptr 0 0), one (.ip tZ x 0), one (.ip tZ y 0), one (.ptr 1 0)] [.var [.bool b0, .nils], .var [.bool b1, .nils]] cont =
    if zOk y then (if zOk x /\ zOk y /\ zV y ≠ 0 then (if zOk (zD (Int.tmod (zV x) (zV y))) then
      bif decide (Int.sign (zV (zD (Int.tmod (zV x) (zV y)))) < 0) then
        (if zOk (zD (zV y)) then (if zOk (zD (Int.tmod (zV x) (zV y))) /\ zOk (zD ((zV (zD (zV y))).natAbs : Int)) then (if zOk (zD (zV y)) then
          (if -9223372036854775808 <= Int.sign (zV (zD (zV y))) /\ Int.sign (zV (zD (zV y))) < 9223372036854775808 then
            (if zOk (zD (Int.tdiv (zV x) (zV y))) /\ zOk (zD (Int.sign (zV (zD (zV y))))) then
              cont (.tup [(false, [.ptr 0 0]), (false, [.ptr 1 0])]) [zB (zV (zD (Int.tdiv (zV x) (zV y))) - zV (zD (Int.sign (zV (zD (zV y)))))), zB (zV (zD (Int.tmod (zV x) (zV y))) + zV (zD ((zV (zD (zV y))).natAbs : Int)))]
            else none) else none) else none) else none) else none)
      else cont (.tup [(false, [.ptr 0 0]), (false, [.ptr 1 0])]) [zB (Int.tdiv (zV x) (zV y)), zB (Int.tmod (zV x) (zV y))] else none) else none) else none := by kernel_rfl
theorem orc_divModG (N : NumSem) : OrcOK N Tryz.prog 248 divModG :=
  OrcOK.of_tale (runF_ok (Vd2_ok N) mixT (A := Ash) (fuel := 0) Tryz.func248 (c := bodyOf Tryz.f248) (by kernel_rfl) (wp_loops (by kernel_rfl))) fun ρ args H cont r h => by
    unfold divModG at h
    split at h
    · rename_i d e b0 b1
      split at h
      · rename_i hc
        obtain ⟨hd, he, h1⟩ := hc
        refine (gq248g cont b0 b1 d e).trans ?_
        obtain ⟨n, hd1, hd2⟩ := zOk_ex hd
        obtain ⟨m, he1, he2⟩ := zOk_ex he
        have e2 : zV d = n := by rw [show (d : tZ.den) = zD n from hd1, zV_zD]
        have e3 : zV e = m := by rw [show (e : tZ.den) = zD m from he1, zV_zD]
        rw [e3] at h1
        rw [e2, e3] at h ⊢
        obtain ⟨t1, t2⟩ := tdiv_ediv (a := n) h1
        have h2 : Int.tmod n m < m := Int.tmod_lt_of_pos n h1
        have h3 : -m < Int.tmod n m := by
          have := Int.tmod_lt_of_pos (-n) h1
          rw [Int.neg_tmod] at this
          omega
        have hm : (Int.tmod n m).natAbs <= m.natAbs := by omega
        have hq : (Int.tdiv n m).natAbs <= n.natAbs := by rw [Int.natAbs_tdiv]; exact Nat.div_le_self ..
        have k1 : zOk (zD (Int.tmod n m)) := zOk_zD (Nat.lt_of_le_of_lt (words_mono hm) he2)
        have k2 : zOk (zD (Int.tdiv n m)) := zOk_zD (Nat.lt_of_le_of_lt (words_mono hq) hd2)
        have k3 : zOk (zD m) := zOk_zD he2
        have k4 : zOk (zD (m.natAbs : Int)) := zOk_zD (by rw [Int.natAbs_natCast]; exact he2)
        have hmm : m * (n / m) + n % m = n := Int.mul_ediv_add_emod n m
        have hmt : m * Int.tdiv n m + Int.tmod n m = n := Int.mul_tdiv_add_tmod n m
        rw [if_pos he, if_pos ⟨hd, he, by omega⟩, if_pos k1]
        simp only [zV_zD]
        rw [Int.sign_eq_one_of_pos h1]
        by_cases hneg : Int.tmod n m < 0
        · have e4 := t1 hneg
          have e5 : Int.tmod n m + (m.natAbs : Int) = n % m := by
            have : m * (n / m) = m * Int.tdiv n m - m := by rw [<- e4, Int.mul_sub, Int.mul_one]
            omega
          rw [Int.sign_eq_neg_one_of_neg hneg, decide_eq_true (by decide), cond_true, if_pos k3, if_pos ⟨k1, k4⟩, if_pos k3, if_pos (by decide), if_pos ⟨k2, zOk_zD (by decide)⟩, e4, e5]
          exact h
        · have e4 := t2 (by omega)
          have e5 : Int.tmod n m = n % m := by rw [e4] at hmt; omega
          rw [decide_eq_false (by
            intro hs
            rcases Int.lt_or_eq_of_le (show 0 <= Int.tmod n m by omega) with h | h
            · rw [Int.sign_eq_one_of_pos h] at hs; omega
            · rw [<- h] at hs; exact absurd hs (by decide)), cond_false, e4, e5]
          exact h
      · contradiction
    · contradiction
def divG : Orc := fun ρ args H cont => match args, H with
  | [.v false [.ptr 0 0], .v false [.ip (.pair .bool (.list (.int .u32))) d 0], .v false [.ip (.pair .bool (.list (.int .u32))) e 0]], [.var [.bool b0, .nils]] =>
    if zOk d /\ zOk e /\ 0 < zV e then cont (one (.ptr 0 0)) [zB (zV d / zV e)] else none
  | _, _ => none
def Vd3 : Env := { T := tryT, E := [], Γ := gamL [(248, divModG)], M := M8 }
theorem Vd3_ok (N : NumSem) : EnvOK N Tryz.prog Vd3 := { T := TabOk.of tryT_ok, E := fun p hp => (by cases hp), Γ := gamC (orc_divModG N) Tryz.call248 (gamN N _) }
theorem gq175g {ρ : Type} (cont : SV -> HL -> Option ρ) (b0 : Bool) (x y : tZ.den) : runF Vd3 Ash 0 Tryz.f175 (bodyOf Tryz.f175) ρ [one (.ptr 0 0), one (.ip tZ x 0), one (.ip tZ y 0)] [.var [.bool b0, .nils]] cont =
    if zOk x /\ zOk y /\ 0 < zV y then cont (one (.ptr 0 0)) [zB (zV x / zV y)] else none := by kernel_rfl
theorem orc_divG (N : NumSem) : OrcOK N Tryz.prog 175 divG :=
  OrcOK.of_tale (runF_ok (Vd3_ok N) mixT (A := Ash) (fuel := 0) Tryz.func175 (c := bodyOf Tryz.f175) (by kernel_rfl) (wp_loops (by kernel_rfl))) fun ρ args H cont r h => by
    unfold divG at h
    split at h
    · exact (gq175g cont _ _ _).trans h
    · contradiction
end Go.Abs
namespace Go.Abs
open Go.Proofs
set_option maxRecDepth 100000
def Vfg : Env := { T := tranT, E := [], Γ := gamL [(155, bigO), (176, ofR fun q => one (.ip tZ (zD q.num) 0)), (177, ofR fun q => one (.ip tZ (zD q.den) 0)), (175, divG)], M := Mfl }
theorem Vfg_ok (N : NumSem) : EnvOK N Tryz.prog Vfg :=
  { T := TT_ok, E := fun p hp => (by cases hp), Γ := gamC (orc95 N) Tryz.call155 (gamC (orc139 N) Tryz.call176 (gamC (orc141 N) Tryz.call177 (gamC (orc_divG N) Tryz.call175 (gamN N _)))) }
def flg {ρ : Type} (cont : SV -> HL -> Option ρ) (D : tR.den) : Option ρ :=
  if rOk D then (if rOk D then (if zOk (zD (rV D).num) /\ zOk (zD ((rV D).den : Int)) /\ 0 < zV (zD ((rV D).den : Int)) then
    cont (one (.ptr 0 0)) [zB (zV (zD (rV D).num) / zV (zD ((rV D).den : Int)))] else none) else none) else none
theorem gq81g {ρ : Type} (cont : SV -> HL -> Option ρ) (a b : Int) : runF Vfg Ash 0 Tryz.f81 (bodyOf Tryz.f81) ρ [rS a b] [] cont =
    if (-9223372036854775808 <= a /\ a < 9223372036854775808) /\ (-9223372036854775808 <= b /\ b < 9223372036854775808) /\ b ≠ 0 then flg cont (rD (Rat.divInt a b)) else none := by kernel_rfl
theorem gq81h {ρ : Type} (cont : SV -> HL -> Option ρ) (D : tR.den) : runF Vfg Ash 0 Tryz.f81 (bodyOf Tryz.f81) ρ [rL D] [] cont = flg cont D := by kernel_rfl
theorem flg_eq {ρ : Type} (cont : SV -> HL -> Option ρ) {q : Rat} (h : szQ q = true) : flg cont (rD q) = cont (one (.ptr 0 0)) [zB (q.num / q.den)] := by
  have hr := szQ_r h
  obtain ⟨z1, z2, _⟩ := rOk_z hr
  have hd := q.den_pos
  unfold flg
  rw [if_pos hr, if_pos hr, rV_rD, zV_zD, zV_zD, if_pos ⟨z1, z2, by omega⟩]
def floorG : Orc := rat1H szQ (one (.ptr 0 0)) fun q => [zB (q.num / q.den)]
theorem orc_floorG : OrcOK NN Tryz.prog 81 floorG :=
  rat1H_ok (runF_ok (Vfg_ok NN) mixT (A := Ash) (fuel := 0) Tryz.func81 (c := bodyOf Tryz.f81) (by kernel_rfl) (wp_loops (by kernel_rfl))) fun ρ cont q hg => by
    by_cases hs : smallQ q
    · have hp := small_pos hs
      rw [ratT_S hs, gq81g, if_pos ⟨by omega, by omega, by omega⟩, Rat.num_divInt_den, flg_eq cont hg]
    · rw [ratT_L hs, gq81h, flg_eq cont hg]
end Go.Abs

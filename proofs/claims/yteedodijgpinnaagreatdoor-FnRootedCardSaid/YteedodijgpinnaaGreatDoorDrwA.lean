/-
  A PART OF THE PROOF of RtI (texts DrwA DrwB FrA BigG BigH RootA RootB): the claim itself stands in the last text. No conditions beside those of the given row.
-/
import Derived.Test.YteedodijgpinnaaGreatDoorLivE
import Derived.Test.YteedodijgpinnaaGreatDoorRowA
import Derived.Test.YteedodijgpinnaaGreatDoorSpcP
import Derived.Test.YteedodijgpinnaaGreatDoorBigF
set_option linter.unusedVariables false
set_option linter.unnecessarySimpa false
set_option linter.unusedSimpArgs false
namespace Go.Abs
open Go.Proofs
set_option linter.unusedVariables false
set_option maxRecDepth 100000
def rdH (xs : List Int) (p : Int) : HL := [.var [.sl none (.int .u8) xs, .int .i64 p]]
def rdOkB (xs : List Int) (p : Int) : Bool := bytesB xs && decide (xs.length ≤ 1048576) && decide (0 ≤ p) && decide (p ≤ xs.length)
theorem rdOk_iff {xs : List Int} {p : Int} : rdOkB xs p = true ↔ (bytesB xs = true ∧ xs.length ≤ 1048576 ∧ 0 ≤ p ∧ p ≤ xs.length) := by
  unfold rdOkB
  simp only [Bool.and_eq_true, decide_eq_true_eq]
  constructor
  · rintro ⟨⟨⟨h1, h2⟩, h3⟩, h4⟩; exact ⟨h1, h2, h3, h4⟩
  · rintro ⟨h1, h2, h3, h4⟩; exact ⟨⟨⟨h1, h2⟩, h3⟩, h4⟩
def rO {α : Type} (sh : α → SV) (f : List Int → Int → α × Int) : Orc := fun ρ args H cont => match args, H with
  | [.v false [.ptr 0 0]], [.var [.sl none (.int .u8) xs, .int .i64 p]] => if rdOkB xs p = true then cont (sh (f xs p).1) [.var [.sl none (.int .u8) xs, .int .i64 (f xs p).2]] else none
  | _, _ => none
theorem rO_ok {α : Type} [Inhabited α] {n : Nat} {F : Orc} (hF : OrcOK NN Tryz.prog n F) (sh : α → SV) (R : α → Prop)
    (h : ∀ xs p, rdOkB xs p = true → ∃ a p', R a ∧ rdOkB xs p' = true ∧ ∀ ρ (cont : SV → HL → Option ρ), F ρ [one (.ptr 0 0)] (rdH xs p) cont = cont (sh a) (rdH xs p')) :
    ∃ f : List Int → Int → α × Int, OrcOK NN Tryz.prog n (rO sh f) ∧ ∀ xs p, rdOkB xs p = true → R (f xs p).1 ∧ rdOkB xs (f xs p).2 = true := by
  classical
  have h' : ∀ xs p, ∃ r : α × Int, rdOkB xs p = true → R r.1 ∧ rdOkB xs r.2 = true ∧ ∀ ρ (cont : SV → HL → Option ρ), F ρ [one (.ptr 0 0)] (rdH xs p) cont = cont (sh r.1) (rdH xs r.2) := fun xs p => by
    by_cases hc : rdOkB xs p = true
    · obtain ⟨a, p', h1, h2, h3⟩ := h xs p hc
      exact ⟨(a, p'), fun _ => ⟨h1, h2, h3⟩⟩
    · exact ⟨default, fun h => absurd h hc⟩
  refine ⟨fun xs p => (h' xs p).choose, OrcOK.of_tale hF fun ρ args H cont r hr => ?_, fun xs p hc => ⟨((h' xs p).choose_spec hc).1, ((h' xs p).choose_spec hc).2.1⟩⟩
  unfold rO at hr
  split at hr
  · rename_i xs p
    split at hr
    · rename_i hc
      exact (((h' xs p).choose_spec hc).2.2 ρ cont).trans hr
    · contradiction
  · contradiction
noncomputable def rE : Env := VL tryT [] []
theorem rE_ok : EnvOK NN Tryz.prog rE := VL_ok (TabOk.of tryT_ok) (gamN _ _)
theorem drw174 {ρ : Type} (cont : SV → HL → Option ρ) (xs : List Int) (p : Int) : runF rE Ash 5 Tryz.f174 (bodyOf Tryz.f174) ρ [one (.ptr 0 0)] (rdH xs p) cont =
    bif decide (xs.length ≤ p) then cont (one (.int .i64 0)) (rdH xs p) else
    if 0 ≤ IntKind.i64.wrap (IntKind.i64.wrap (p + 1) - 1) then xs[(IntKind.i64.wrap (IntKind.i64.wrap (p + 1) - 1)).toNat]?.bind fun x => cont (one (.int .i64 (IntKind.i64.wrap x))) (rdH xs (IntKind.i64.wrap (p + 1))) else none := by kernel_rfl
def shI (x : Int) : SV := one (.int .i64 x)
theorem next_ok : ∃ f : List Int → Int → Int × Int, OrcOK NN Tryz.prog 174 (rO shI f) ∧ ∀ xs p, rdOkB xs p = true → (0 ≤ (f xs p).1 ∧ (f xs p).1 < 256) ∧ rdOkB xs (f xs p).2 = true :=
  rO_ok (cR_ok (A := Ash) (fuel := 5) rE_ok rfl Tryz.func174 (by kernel_rfl)) shI (fun x => 0 ≤ x ∧ x < 256) fun xs p h => by
    obtain ⟨h1, h2, h3, h4⟩ := rdOk_iff.1 h
    by_cases hc : xs.length ≤ p
    · exact ⟨0, p, by decide, h, fun ρ cont => (drw174 cont xs p).trans (by rw [decide_eq_true hc, cond_true]; rfl)⟩
    · have hl : p.toNat < xs.length := by omega
      have hx := List.all_eq_true.1 h1 (xs[p.toNat]) (List.getElem_mem hl)
      simp only [Bool.and_eq_true, decide_eq_true_eq] at hx
      refine ⟨xs[p.toNat], p + 1, hx, rdOk_iff.2 ⟨h1, h2, by omega, by omega⟩, fun ρ cont => (drw174 cont xs p).trans ?_⟩
      rw [decide_eq_false hc, cond_false, i64_in (p + 1) (by omega) (by omega), i64_in (p + 1 - 1) (by omega) (by omega), if_pos (by omega), show p + 1 - 1 = p from by omega, List.getElem?_eq_getElem hl]
      show cont (one (.int .i64 (IntKind.i64.wrap xs[p.toNat]))) _ = _
      rw [i64_in _ (by omega) (by omega)]; rfl
noncomputable def nextF := next_ok.choose
theorem orc_next : OrcOK NN Tryz.prog 174 (rO shI nextF) := next_ok.choose_spec.1
theorem nextR {xs : List Int} {p : Int} (h : rdOkB xs p = true) : 0 ≤ (nextF xs p).1 ∧ (nextF xs p).1 < 256 := (next_ok.choose_spec.2 xs p h).1
theorem nextP {xs : List Int} {p : Int} (h : rdOkB xs p = true) : rdOkB xs (nextF xs p).2 = true := (next_ok.choose_spec.2 xs p h).2
noncomputable def rE1 : Env := VL tryT [] [(174, rO shI nextF)]
theorem rE1_ok : EnvOK NN Tryz.prog rE1 := VL_ok (TabOk.of tryT_ok) (gamC orc_next Tryz.call174 (gamN _ _))
noncomputable def w8 (xs : List Int) : Nat → Int → Int → Int × Int
  | 0, a, p => (a, p)
  | k + 1, a, p => w8 xs k (bits BinOp.or IntKind.u64 (IntKind.u64.wrap (a * 2 ^ min (Int.toNat 8) IntKind.u64.bits)) (IntKind.u64.wrap (nextF xs p).1)) (nextF xs p).2
def shW (x : Int) : SV := one (.int .u64 x)
noncomputable def w8if {ρ : Type} (cont : SV → HL → Option ρ) (xs : List Int) : Nat → Int → Int → Option ρ
  | 0, a, p => cont (shW a) (rdH xs p)
  | k + 1, a, p => if rdOkB xs p = true then w8if cont xs k (bits BinOp.or IntKind.u64 (IntKind.u64.wrap (a * 2 ^ min (Int.toNat 8) IntKind.u64.bits)) (IntKind.u64.wrap (nextF xs p).1)) (nextF xs p).2 else none
theorem drw172 {ρ : Type} (cont : SV → HL → Option ρ) (xs : List Int) (p : Int) : runF rE1 Ash 20 Tryz.f172 (bodyOf Tryz.f172) ρ [one (.ptr 0 0)] (rdH xs p) cont = w8if cont xs 8 0 p := by kernel_rfl
theorem w8if_eq {xs : List Int} (k : Nat) : ∀ (a p : Int), rdOkB xs p = true → rdOkB xs (w8 xs k a p).2 = true ∧ ∀ {ρ : Type} (cont : SV → HL → Option ρ), w8if cont xs k a p = cont (shW (w8 xs k a p).1) (rdH xs (w8 xs k a p).2) := by
  induction k with
  | zero => exact fun a p h => ⟨h, fun cont => rfl⟩
  | succ k ih =>
    intro a p h
    have := ih (bits BinOp.or IntKind.u64 (IntKind.u64.wrap (a * 2 ^ min (Int.toNat 8) IntKind.u64.bits)) (IntKind.u64.wrap (nextF xs p).1)) (nextF xs p).2 (nextP h)
    refine ⟨this.1, fun cont => ?_⟩
    show (if rdOkB xs p = true then _ else none) = _
    rw [if_pos h]
    exact this.2 cont
theorem word_ok : ∃ f : List Int → Int → Int × Int, OrcOK NN Tryz.prog 172 (rO shW f) ∧ ∀ xs p, rdOkB xs p = true → True ∧ rdOkB xs (f xs p).2 = true :=
  rO_ok (cR_ok (A := Ash) (fuel := 20) rE1_ok rfl Tryz.func172 (by kernel_rfl)) shW (fun x => True) fun xs p h =>
    ⟨_, _, trivial, (w8if_eq 8 0 p h).1, fun ρ cont => (drw172 cont xs p).trans ((w8if_eq 8 0 p h).2 cont)⟩
noncomputable def wordF := word_ok.choose
theorem orc_word : OrcOK NN Tryz.prog 172 (rO shW wordF) := word_ok.choose_spec.1
theorem wordP {xs : List Int} {p : Int} (h : rdOkB xs p = true) : rdOkB xs (wordF xs p).2 = true := (word_ok.choose_spec.2 xs p h).2
def nO {α : Type} (sh : α → SV) (f : List Int → Int → Int → α × Int) : Orc := fun ρ args H cont => match args, H with
  | [.v false [.ptr 0 0], .v false [.int .i64 n]], [.var [.sl none (.int .u8) xs, .int .i64 p]] => bif decide (n ≤ 1) then none else bif decide (n ≤ 256) then (if rdOkB xs p = true then cont (sh (f xs p n).1) [.var [.sl none (.int .u8) xs, .int .i64 (f xs p n).2]] else none) else none
  | _, _ => none
def ltR (n x : Int) : Prop := 0 ≤ x ∧ x < n
noncomputable def belowF (xs : List Int) (p n : Int) : Int × Int := ((nextF xs p).1.tmod n, (nextF xs p).2)
theorem drw77 {ρ : Type} (cont : SV → HL → Option ρ) (xs : List Int) (p n : Int) : runF rE1 Ash 5 Tryz.f77 (bodyOf Tryz.f77) ρ [one (.ptr 0 0), one (.int .i64 n)] (rdH xs p) cont =
   bif decide (n ≤ 1) then cont (one (.int .i64 0)) (rdH xs p) else bif decide (n ≤ 256) then (if rdOkB xs p = true then (if n = 0 then none else cont (shI (belowF xs p n).1) (rdH xs (belowF xs p n).2)) else none) else
   (if rdOkB xs p = true then (if rdOkB xs (nextF xs p).2 = true then (if n = 0 then none else cont (shI ((IntKind.i64.wrap (IntKind.i64.wrap ((nextF xs p).1 * 256) + (nextF xs (nextF xs p).2).1)).tmod n)) (rdH xs (nextF xs (nextF xs p).2).2)) else none) else none) := by kernel_rfl
theorem orc_below : OrcOK NN Tryz.prog 77 (nO shI belowF) :=
  OrcOK.of_tale (cR_ok (A := Ash) (fuel := 5) rE1_ok rfl Tryz.func77 (by kernel_rfl)) fun ρ args H cont r h => by
    unfold nO at h
    split at h
    · rename_i n xs p
      refine (drw77 cont xs p n).trans ?_
      by_cases h1 : n ≤ 1
      · rw [decide_eq_true h1, cond_true] at h; contradiction
      · rw [decide_eq_false h1, cond_false] at h ⊢
        by_cases h2 : n ≤ 256
        · rw [decide_eq_true h2, cond_true] at h ⊢
          split at h
          · rename_i hc
            rw [if_pos hc, if_neg (by omega)]; exact h
          · contradiction
        · rw [decide_eq_false h2, cond_false] at h; contradiction
    · contradiction
theorem belowR {xs : List Int} {p : Int} (h : rdOkB xs p = true) {n : Int} (hn : 1 < n) : 0 ≤ (belowF xs p n).1 ∧ (belowF xs p n).1 < n := by
  have := nextR h
  exact ⟨Int.tmod_nonneg _ this.1, Int.tmod_lt_of_pos _ (by omega)⟩
theorem belowP {xs : List Int} {p n : Int} (h : rdOkB xs p = true) : rdOkB xs (belowF xs p n).2 = true := nextP h
noncomputable def rE2 : Env := VL tryT [] [(77, nO shI belowF)]
theorem rE2_ok : EnvOK NN Tryz.prog rE2 := VL_ok (TabOk.of tryT_ok) (gamC orc_below Tryz.call77 (gamN _ _))
def shB (b : Bool) : SV := one (.bool b)
noncomputable def onceF (xs : List Int) (p n : Int) : Bool × Int := ((belowF xs p n).1 == IntKind.i64.wrap (n - 1), (belowF xs p n).2)
theorem drw78 {ρ : Type} (cont : SV → HL → Option ρ) (xs : List Int) (p n : Int) : runF rE2 Ash 5 Tryz.f78 (bodyOf Tryz.f78) ρ [one (.ptr 0 0), one (.int .i64 n)] (rdH xs p) cont =
   bif decide (n ≤ 1) then none else bif decide (n ≤ 256) then (if rdOkB xs p = true then cont (shB (onceF xs p n).1) (rdH xs (onceF xs p n).2) else none) else none := by kernel_rfl
theorem orc_once : OrcOK NN Tryz.prog 78 (nO shB onceF) :=
  OrcOK.of_tale (cR_ok (A := Ash) (fuel := 5) rE2_ok rfl Tryz.func78 (by kernel_rfl)) fun ρ args H cont r h => by
    unfold nO at h
    split at h
    · rename_i n xs p
      exact (drw78 cont xs p n).trans h
    · contradiction
theorem onceP {xs : List Int} {p n : Int} (h : rdOkB xs p = true) : rdOkB xs (onceF xs p n).2 = true := nextP h
end Go.Abs
namespace Go.Abs
open Go.Proofs
set_option linter.unusedVariables false
set_option maxRecDepth 100000
def rBigN : Orc := fun ρ args H cont => match args, H with
  | [.v true [.bool s, .sl none (.int .u32) xs], .v true [.bool t, .sl none (.int .u32) ys]], [] => if zOk (s, xs) ∧ zOk (t, ys) ∧ zV (t, ys) ≠ 0 then cont (nm 1 (Rat.divInt (zV (s, xs)) (zV (t, ys)))) [] else none
  | _, _ => none
theorem orc_rBigN : OrcOK NN Tryz.prog 117 rBigN :=
  OrcOK.cv (orc125 NN) fun args H cont r h => by
    unfold rBigN at h
    split at h
    · rename_i s xs t ys
      split at h
      · rename_i hq
        refine ⟨_, _, Cv.num (isL_ratL _), rfl, h, fun ρ' cont' => ?_⟩
        show (if zOk (s, xs) ∧ zOk (t, ys) ∧ zV (t, ys) ≠ 0 then ofC cont' (Rat.divInt (zV (s, xs)) (zV (t, ys))) else none) = _
        rw [if_pos hq, ofC_eq]
      · contradiction
    · contradiction
noncomputable def qE : Env := VL tryT [] [(85, zOfO), (117, rBigN), (122, lat1 szQ tupQ)]
theorem qE_ok : EnvOK NN Tryz.prog qE := VL_ok (TabOk.of tryT_ok) (gamC (orc132 NN) Tryz.call85 (gamC orc_rBigN Tryz.call117 (gamC orc30 Tryz.call122 (gamN _ _))))
theorem drw79 {ρ : Type} (cont : SV → HL → Option ρ) (a b : Int) : runF qE Ash 20 Tryz.f79 (bodyOf Tryz.f79) ρ [one (.int .i64 a), one (.int .i64 b)] [] cont =
    bif b == 0 then cont (tupB 0 0 false) [] else (if -9223372036854775808 ≤ a ∧ a < 9223372036854775808 then (if -9223372036854775808 ≤ b ∧ b < 9223372036854775808 then
      (if zOk (zD a) ∧ zOk (zD b) ∧ zV (zD b) ≠ 0 then (if szQ (Rat.divInt (zV (zD a)) (zV (zD b))) = true then cont (tupQ (Rat.divInt (zV (zD a)) (zV (zD b)))) [] else none) else none) else none) else none) := by kernel_rfl
def qofA (a b : Int) : Int := if b = 0 then 0 else qNum (Rat.divInt a b)
def qofB (a b : Int) : Int := if b = 0 then 0 else qDen (Rat.divInt a b)
def qofC (a b : Int) : Bool := if b = 0 then false else qFit (Rat.divInt a b)
def qofO : Orc := fun ρ args H cont => match args, H with
  | [.v false [.int .i64 a], .v false [.int .i64 b]], [] => if (-9223372036854775808 ≤ a ∧ a < 9223372036854775808) ∧ (-9223372036854775808 ≤ b ∧ b < 9223372036854775808) then cont (tupB (qofA a b) (qofB a b) (qofC a b)) [] else none
  | _, _ => none
theorem divInt_le {n d : Int} (hd : d ≠ 0) : (Rat.divInt n d).num.natAbs ≤ n.natAbs ∧ (Rat.divInt n d).den ≤ d.natAbs := by
  rcases Int.lt_trichotomy d 0 with h | h | h
  · have e : Rat.divInt n d = Rat.divInt (-n) (-d) := (Rat.neg_divInt_neg n d).symm
    rw [e]
    have := divInt_pos_le (n := -n) (d := -d) (by omega)
    omega
  · exact absurd h hd
  · exact divInt_pos_le h
theorem szQ_of {q : Rat} (h : q.num.natAbs < 18446744073709551616 ∧ q.den < 18446744073709551616) : szQ q = true := by
  unfold szQ
  have h1 := words_small h.1
  have h2 := words_small h.2
  rw [decide_eq_true (by omega), decide_eq_true (by omega)]; rfl
theorem orc_qof : OrcOK NN Tryz.prog 79 qofO :=
  OrcOK.of_tale (cR_ok (A := Ash) (fuel := 20) qE_ok rfl Tryz.func79 (by kernel_rfl)) fun ρ args H cont r h => by
    unfold qofO at h
    split at h
    · rename_i a b
      refine (drw79 cont a b).trans ?_
      split at h
      · rename_i hq
        by_cases hb : b = 0
        · subst hb
          exact h
        · have h1 := words_small (n := a.natAbs) (by omega)
          have h2 := words_small (n := b.natAbs) (by omega)
          have h3 := divInt_le (n := a) hb
          rw [show (b == 0) = false from beq_eq_false_iff_ne.2 hb, cond_false, if_pos hq.1, if_pos hq.2, zV_zD, zV_zD, if_pos ⟨zOk_zD (by omega), zOk_zD (by omega), hb⟩, if_pos (szQ_of ⟨by omega, by omega⟩)]
          unfold qofA qofB qofC at h
          rw [if_neg hb, if_neg hb, if_neg hb] at h
          exact h
      · contradiction
    · contradiction
theorem i64_rng (x : Int) : -9223372036854775808 ≤ IntKind.i64.wrap x ∧ IntKind.i64.wrap x < 9223372036854775808 := by rw [IntKind.wrap_i64]; omega
theorem u64_rng (x : Int) : ¬ IntKind.u64.wrap x < 0 := by rw [IntKind.wrap_u64]; omega
def oddL : List Int := [0, 1, -1, 4611686018427387904, -4611686018427387904, 9223372036854775807, -9223372036854775808, 4294967296, 1000000000000000000, -1000000000000000000, 1000000000000000001, 1000000000]
theorem oddL_rng : ∀ x ∈ oddL, -9223372036854775808 ≤ x ∧ x < 9223372036854775808 := by unfold oddL; simp
noncomputable def rE3 : Env := VL tryT [] [(77, nO shI belowF), (174, rO shI nextF), (172, rO shW wordF)]
theorem rE3_ok : EnvOK NN Tryz.prog rE3 := VL_ok (TabOk.of tryT_ok) (gamC orc_below Tryz.call77 (gamC orc_next Tryz.call174 (gamC orc_word Tryz.call172 (gamN _ _))))
theorem drw171 {ρ : Type} (cont : SV → HL → Option ρ) (xs : List Int) (p : Int) : runF rE3 Ash 20 Tryz.f171 (bodyOf Tryz.f171) ρ [one (.ptr 0 0)] (rdH xs p) cont =
  if rdOkB xs p = true then bif (belowF xs p 6).fst == 0 then if rdOkB xs (belowF xs p 6).snd = true then cont (SV.v false [Atom.int IntKind.i64 (IntKind.i64.wrap ((nextF xs (belowF xs p 6).snd).fst - 128))]) [Blk.var [Atom.sl none (Ty.int IntKind.u8) xs, Atom.int IntKind.i64 (nextF xs (belowF xs p 6).snd).snd]] else none else bif (belowF xs p 6).fst == 1 then if rdOkB xs (belowF xs p 6).snd = true
  then if 0 ≤ (belowF xs (belowF xs p 6).snd 12).fst ∧ (belowF xs (belowF xs p 6).snd 12).fst < (oddL.length : Int) then oddL[0 + (belowF xs (belowF xs p 6).snd 12).fst.toNat]?.bind fun x => cont (SV.v false [Atom.int IntKind.i64 x]) [Blk.var [Atom.sl none (Ty.int IntKind.u8) xs, Atom.int IntKind.i64 (belowF xs (belowF xs p 6).snd 12).snd]] else none else none else bif (belowF xs p 6).fst == 2 then
  if rdOkB xs (belowF xs p 6).snd = true then cont (SV.v false [Atom.int IntKind.i64 (IntKind.i64.wrap (wordF xs (belowF xs p 6).snd).fst)]) [Blk.var [Atom.sl none (Ty.int IntKind.u8) xs, Atom.int IntKind.i64 (wordF xs (belowF xs p 6).snd).snd]] else none else bif (belowF xs p 6).fst == 3 then if rdOkB xs (belowF xs p 6).snd = true then if rdOkB xs (wordF xs (belowF xs p 6).snd).snd = true then if
  IntKind.u64.wrap (IntKind.i64.wrap (5 + (belowF xs (wordF xs (belowF xs p 6).snd).snd 55).fst)) < 0 then none else cont (SV.v false [Atom.int IntKind.i64 (IntKind.i64.wrap ((wordF xs (belowF xs p 6).snd).fst.fdiv (2 ^ min (IntKind.u64.wrap (IntKind.i64.wrap (5 + (belowF xs (wordF xs (belowF xs p 6).snd).snd 55).fst))).toNat IntKind.u64.bits)))]) [Blk.var [Atom.sl none (Ty.int IntKind.u8) xs,
  Atom.int IntKind.i64 (belowF xs (wordF xs (belowF xs p 6).snd).snd 55).snd]] else none else none else if rdOkB xs (belowF xs p 6).snd = true then cont (SV.v false [Atom.int IntKind.i64 ((nextF xs (belowF xs p 6).snd).fst.tmod 20)]) [Blk.var [Atom.sl none (Ty.int IntKind.u8) xs, Atom.int IntKind.i64 (nextF xs (belowF xs p 6).snd).snd]] else none else none := by kernel_rfl
theorem int_ok : ∃ f : List Int → Int → Int × Int, OrcOK NN Tryz.prog 171 (rO shI f) ∧ ∀ xs p, rdOkB xs p = true → (-9223372036854775808 ≤ (f xs p).1 ∧ (f xs p).1 < 9223372036854775808) ∧ rdOkB xs (f xs p).2 = true :=
  rO_ok (cR_ok (A := Ash) (fuel := 20) rE3_ok rfl Tryz.func171 (by kernel_rfl)) shI (fun x => -9223372036854775808 ≤ x ∧ x < 9223372036854775808) fun xs p h => by
    have hb := belowP (n := 6) h
    cases h0 : (belowF xs p 6).fst == 0
    · cases h1 : (belowF xs p 6).fst == 1
      · cases h2 : (belowF xs p 6).fst == 2
        · cases h3 : (belowF xs p 6).fst == 3
          · have hn := nextR hb
            exact ⟨(nextF xs (belowF xs p 6).snd).fst.tmod 20, (nextF xs (belowF xs p 6).snd).snd, by have h1 := Int.tmod_nonneg 20 hn.1; have h2 := Int.tmod_lt_of_pos (nextF xs (belowF xs p 6).snd).fst (show (0 : Int) < 20 by decide); omega, nextP hb, fun ρ cont => (drw171 cont xs p).trans (by
              rw [if_pos h, h0, h1, h2, h3, cond_false, cond_false, cond_false, cond_false, if_pos hb]; rfl)⟩
          · have hw := wordP hb
            exact ⟨_, (belowF xs (wordF xs (belowF xs p 6).snd).snd 55).snd, i64_rng _, belowP hw, fun ρ cont => (drw171 cont xs p).trans (by
              rw [if_pos h, h0, h1, h2, h3, cond_false, cond_false, cond_false, cond_true, if_pos hb, if_pos hw, if_neg (u64_rng _)]; rfl)⟩
        · exact ⟨_, (wordF xs (belowF xs p 6).snd).snd, i64_rng _, wordP hb, fun ρ cont => (drw171 cont xs p).trans (by
            rw [if_pos h, h0, h1, h2, cond_false, cond_false, cond_true, if_pos hb]; rfl)⟩
      · have hn := belowR (n := 12) hb (by decide)
        have hl : 0 + (belowF xs (belowF xs p 6).snd 12).fst.toNat < oddL.length := by
          show _ < 12
          omega
        have hn12 : (belowF xs (belowF xs p 6).snd 12).fst < (oddL.length : Int) := by
          show _ < ((12 : Nat) : Int)
          omega
        exact ⟨oddL[0 + (belowF xs (belowF xs p 6).snd 12).fst.toNat], (belowF xs (belowF xs p 6).snd 12).snd, oddL_rng _ (List.getElem_mem hl), belowP hb, fun ρ cont => (drw171 cont xs p).trans (by
          rw [if_pos h, h0, h1, cond_false, cond_true, if_pos hb, if_pos ⟨hn.1, hn12⟩, List.getElem?_eq_getElem hl]; rfl)⟩
    · exact ⟨_, (nextF xs (belowF xs p 6).snd).snd, i64_rng _, nextP hb, fun ρ cont => (drw171 cont xs p).trans (by
        rw [if_pos h, h0, cond_true, if_pos hb]; rfl)⟩
noncomputable def intF := int_ok.choose
theorem orc_int : OrcOK NN Tryz.prog 171 (rO shI intF) := int_ok.choose_spec.1
theorem intR {xs : List Int} {p : Int} (h : rdOkB xs p = true) : -9223372036854775808 ≤ (intF xs p).1 ∧ (intF xs p).1 < 9223372036854775808 := (int_ok.choose_spec.2 xs p h).1
theorem intP {xs : List Int} {p : Int} (h : rdOkB xs p = true) : rdOkB xs (intF xs p).2 = true := (int_ok.choose_spec.2 xs p h).2
def shQ (q : Int × Int) : SV := sQ q.1 q.2
noncomputable def rE4 : Env := VL tryT [] [(77, nO shI belowF), (78, nO shB onceF), (79, qofO)]
theorem rE4_ok : EnvOK NN Tryz.prog rE4 := VL_ok (TabOk.of tryT_ok) (gamC orc_below Tryz.call77 (gamC orc_once Tryz.call78 (gamC orc_qof Tryz.call79 (gamN _ _))))
theorem drw173 {ρ : Type} (cont : SV → HL → Option ρ) (xs : List Int) (p : Int) : runF rE4 Ash 20 Tryz.f173 (bodyOf Tryz.f173) ρ [one (.ptr 0 0)] (rdH xs p) cont =
  if rdOkB xs p = true then bif (onceF xs p 4).fst then if rdOkB xs (onceF xs p 4).snd = true then if rdOkB xs (belowF xs (onceF xs p 4).snd 6).snd = true then if (-9223372036854775808 ≤ IntKind.i64.wrap ((belowF xs (belowF xs (onceF xs p 4).snd 6).snd 25).fst - 8) ∧ IntKind.i64.wrap ((belowF xs (belowF xs (onceF xs p 4).snd 6).snd 25).fst - 8) < 9223372036854775808) ∧ -9223372036854775808 ≤
  IntKind.i64.wrap (1 + (belowF xs (onceF xs p 4).snd 6).fst) ∧ IntKind.i64.wrap (1 + (belowF xs (onceF xs p 4).snd 6).fst) < 9223372036854775808 then cont (SV.v true [Atom.int IntKind.i64 (qofA (IntKind.i64.wrap ((belowF xs (belowF xs (onceF xs p 4).snd 6).snd 25).fst - 8)) (IntKind.i64.wrap (1 + (belowF xs (onceF xs p 4).snd 6).fst))), Atom.int IntKind.i64 (qofB (IntKind.i64.wrap ((belowF xs
  (belowF xs (onceF xs p 4).snd 6).snd 25).fst - 8)) (IntKind.i64.wrap (1 + (belowF xs (onceF xs p 4).snd 6).fst)))]) [Blk.var [Atom.sl none (Ty.int IntKind.u8) xs, Atom.int IntKind.i64 (belowF xs (belowF xs (onceF xs p 4).snd 6).snd 25).snd]] else none else none else none else if rdOkB xs (onceF xs p 4).snd = true then if (-9223372036854775808 ≤ IntKind.i64.wrap ((belowF xs (onceF xs p 4).snd
  25).fst - 8) ∧ IntKind.i64.wrap ((belowF xs (onceF xs p 4).snd 25).fst - 8) < 9223372036854775808) ∧ (-9223372036854775808 : Int) ≤ 1 ∧ (1 : Int) < 9223372036854775808 then cont (SV.v true [Atom.int IntKind.i64 (qofA (IntKind.i64.wrap ((belowF xs (onceF xs p 4).snd 25).fst - 8)) 1), Atom.int IntKind.i64 (qofB (IntKind.i64.wrap ((belowF xs (onceF xs p 4).snd 25).fst - 8)) 1)]) [Blk.var [Atom.sl
  none (Ty.int IntKind.u8) xs, Atom.int IntKind.i64 (belowF xs (onceF xs p 4).snd 25).snd]] else none else none else none := by kernel_rfl
theorem one_rng : (-9223372036854775808 : Int) ≤ 1 ∧ (1 : Int) < 9223372036854775808 := by decide
theorem drawQ_ok : ∃ f : List Int → Int → (Int × Int) × Int, OrcOK NN Tryz.prog 173 (rO shQ f) ∧ ∀ xs p, rdOkB xs p = true → True ∧ rdOkB xs (f xs p).2 = true :=
  rO_ok (cR_ok (A := Ash) (fuel := 20) rE4_ok rfl Tryz.func173 (by kernel_rfl)) shQ (fun x => True) fun xs p h => by
    have ho := onceP (n := 4) h
    cases h0 : (onceF xs p 4).fst
    · exact ⟨(_, _), (belowF xs (onceF xs p 4).snd 25).snd, trivial, belowP ho, fun ρ cont => (drw173 cont xs p).trans (by
        rw [if_pos h, h0, cond_false, if_pos ho, if_pos ⟨i64_rng _, one_rng⟩]; rfl)⟩
    · have hb := belowP (n := 6) ho
      exact ⟨(_, _), (belowF xs (belowF xs (onceF xs p 4).snd 6).snd 25).snd, trivial, belowP hb, fun ρ cont => (drw173 cont xs p).trans (by
        rw [if_pos h, h0, cond_true, if_pos ho, if_pos hb, if_pos ⟨i64_rng _, i64_rng _⟩]; rfl)⟩
noncomputable def drawQF := drawQ_ok.choose
theorem orc_drawQ : OrcOK NN Tryz.prog 173 (rO shQ drawQF) := drawQ_ok.choose_spec.1
theorem drawQP {xs : List Int} {p : Int} (h : rdOkB xs p = true) : rdOkB xs (drawQF xs p).2 = true := (drawQ_ok.choose_spec.2 xs p h).2
noncomputable def rE5 : Env := VL tryT [] [(77, nO shI belowF), (171, rO shI intF), (79, qofO), (172, rO shW wordF), (173, rO shQ drawQF)]
theorem rE5_ok : EnvOK NN Tryz.prog rE5 := VL_ok (TabOk.of tryT_ok) (gamC orc_below Tryz.call77 (gamC orc_int Tryz.call171 (gamC orc_qof Tryz.call79 (gamC orc_word Tryz.call172 (gamC orc_drawQ Tryz.call173 (gamN _ _))))))
theorem drw76 {ρ : Type} (cont : SV → HL → Option ρ) (xs : List Int) (p : Int) : runF rE5 Ash 20 Tryz.f76 (bodyOf Tryz.f76) ρ [one (.ptr 0 0)] (rdH xs p) cont =
  if rdOkB xs p = true then bif (belowF xs p 8).fst == 0 then if rdOkB xs (belowF xs p 8).snd = true then if rdOkB xs (intF xs (belowF xs p 8).snd).snd = true then if (-9223372036854775808 ≤ (intF xs (belowF xs p 8).snd).fst ∧ (intF xs (belowF xs p 8).snd).fst < 9223372036854775808) ∧ -9223372036854775808 ≤ (intF xs (intF xs (belowF xs p 8).snd).snd).fst ∧ (intF xs (intF xs (belowF xs p
  8).snd).snd).fst < 9223372036854775808 then bif qofC (intF xs (belowF xs p 8).snd).fst (intF xs (intF xs (belowF xs p 8).snd).snd).fst then cont (SV.v true [Atom.int IntKind.i64 (qofA (intF xs (belowF xs p 8).snd).fst (intF xs (intF xs (belowF xs p 8).snd).snd).fst), Atom.int IntKind.i64 (qofB (intF xs (belowF xs p 8).snd).fst (intF xs (intF xs (belowF xs p 8).snd).snd).fst)]) [Blk.var [Atom.sl
  none (Ty.int IntKind.u8) xs, Atom.int IntKind.i64 (intF xs (intF xs (belowF xs p 8).snd).snd).snd]] else cont (SV.v true [Atom.int IntKind.i64 1, Atom.int IntKind.i64 3]) [Blk.var [Atom.sl none (Ty.int IntKind.u8) xs, Atom.int IntKind.i64 (intF xs (intF xs (belowF xs p 8).snd).snd).snd]] else none else none else none else bif (belowF xs p 8).fst == 1 then if rdOkB xs (belowF xs p 8).snd = true
  then if rdOkB xs (intF xs (belowF xs p 8).snd).snd = true then cont (SV.v true [Atom.int IntKind.i64 (intF xs (belowF xs p 8).snd).fst, Atom.int IntKind.i64 (intF xs (intF xs (belowF xs p 8).snd).snd).fst]) [Blk.var [Atom.sl none (Ty.int IntKind.u8) xs, Atom.int IntKind.i64 (intF xs (intF xs (belowF xs p 8).snd).snd).snd]] else none else none else bif (belowF xs p 8).fst == 2 then if rdOkB xs
  (belowF xs p 8).snd = true then if rdOkB xs (wordF xs (belowF xs p 8).snd).snd = true then if rdOkB xs (wordF xs (wordF xs (belowF xs p 8).snd).snd).snd = true then if IntKind.u64.wrap (IntKind.i64.wrap (5 + (belowF xs (wordF xs (wordF xs (belowF xs p 8).snd).snd).snd 50).fst)) < 0 then none else if (-9223372036854775808 ≤ IntKind.i64.wrap ((wordF xs (belowF xs p 8).snd).fst.fdiv (2 ^ min
  (Int.toNat 5) IntKind.u64.bits)) ∧ IntKind.i64.wrap ((wordF xs (belowF xs p 8).snd).fst.fdiv (2 ^ min (Int.toNat 5) IntKind.u64.bits)) < 9223372036854775808) ∧ -9223372036854775808 ≤ IntKind.i64.wrap ((wordF xs (wordF xs (belowF xs p 8).snd).snd).fst.fdiv (2 ^ min (IntKind.u64.wrap (IntKind.i64.wrap (5 + (belowF xs (wordF xs (wordF xs (belowF xs p 8).snd).snd).snd 50).fst))).toNat
  IntKind.u64.bits)) ∧ IntKind.i64.wrap ((wordF xs (wordF xs (belowF xs p 8).snd).snd).fst.fdiv (2 ^ min (IntKind.u64.wrap (IntKind.i64.wrap (5 + (belowF xs (wordF xs (wordF xs (belowF xs p 8).snd).snd).snd 50).fst))).toNat IntKind.u64.bits)) < 9223372036854775808 then bif qofC (IntKind.i64.wrap ((wordF xs (belowF xs p 8).snd).fst.fdiv (2 ^ min (Int.toNat 5) IntKind.u64.bits))) (IntKind.i64.wrap
  ((wordF xs (wordF xs (belowF xs p 8).snd).snd).fst.fdiv (2 ^ min (IntKind.u64.wrap (IntKind.i64.wrap (5 + (belowF xs (wordF xs (wordF xs (belowF xs p 8).snd).snd).snd 50).fst))).toNat IntKind.u64.bits))) then cont (SV.v true [Atom.int IntKind.i64 (qofA (IntKind.i64.wrap ((wordF xs (belowF xs p 8).snd).fst.fdiv (2 ^ min (Int.toNat 5) IntKind.u64.bits))) (IntKind.i64.wrap ((wordF xs (wordF xs
  (belowF xs p 8).snd).snd).fst.fdiv (2 ^ min (IntKind.u64.wrap (IntKind.i64.wrap (5 + (belowF xs (wordF xs (wordF xs (belowF xs p 8).snd).snd).snd 50).fst))).toNat IntKind.u64.bits)))), Atom.int IntKind.i64 (qofB (IntKind.i64.wrap ((wordF xs (belowF xs p 8).snd).fst.fdiv (2 ^ min (Int.toNat 5) IntKind.u64.bits))) (IntKind.i64.wrap ((wordF xs (wordF xs (belowF xs p 8).snd).snd).fst.fdiv (2 ^ min
  (IntKind.u64.wrap (IntKind.i64.wrap (5 + (belowF xs (wordF xs (wordF xs (belowF xs p 8).snd).snd).snd 50).fst))).toNat IntKind.u64.bits))))]) [Blk.var [Atom.sl none (Ty.int IntKind.u8) xs, Atom.int IntKind.i64 (belowF xs (wordF xs (wordF xs (belowF xs p 8).snd).snd).snd 50).snd]] else cont (SV.v true [Atom.int IntKind.i64 (-1000000000000000000), Atom.int IntKind.i64 1]) [Blk.var [Atom.sl none
  (Ty.int IntKind.u8) xs, Atom.int IntKind.i64 (belowF xs (wordF xs (wordF xs (belowF xs p 8).snd).snd).snd 50).snd]] else none else none else none else none else if rdOkB xs (belowF xs p 8).snd = true then cont (SV.v true [Atom.int IntKind.i64 (drawQF xs (belowF xs p 8).snd).fst.fst, Atom.int IntKind.i64 (drawQF xs (belowF xs p 8).snd).fst.snd]) [Blk.var [Atom.sl none (Ty.int IntKind.u8) xs,
  Atom.int IntKind.i64 (drawQF xs (belowF xs p 8).snd).snd]] else none else none := by kernel_rfl
theorem any_ok : ∃ f : List Int → Int → (Int × Int) × Int, OrcOK NN Tryz.prog 76 (rO shQ f) ∧ ∀ xs p, rdOkB xs p = true → True ∧ rdOkB xs (f xs p).2 = true :=
  rO_ok (cR_ok (A := Ash) (fuel := 20) rE5_ok rfl Tryz.func76 (by kernel_rfl)) shQ (fun x => True) fun xs p h => by
    have hb := belowP (n := 8) h
    have hi := intP hb
    have hw := wordP hb
    have hw2 := wordP hw
    cases h0 : (belowF xs p 8).fst == 0
    · cases h1 : (belowF xs p 8).fst == 1
      · cases h2 : (belowF xs p 8).fst == 2
        · exact ⟨(_, _), (drawQF xs (belowF xs p 8).snd).snd, trivial, drawQP hb, fun ρ cont => (drw76 cont xs p).trans (by
            rw [if_pos h, h0, h1, h2, cond_false, cond_false, cond_false, if_pos hb]; rfl)⟩
        · cases h3 : qofC (IntKind.i64.wrap ((wordF xs (belowF xs p 8).snd).fst.fdiv (2 ^ min (Int.toNat 5) IntKind.u64.bits))) (IntKind.i64.wrap ((wordF xs (wordF xs (belowF xs p 8).snd).snd).fst.fdiv (2 ^ min (IntKind.u64.wrap (IntKind.i64.wrap (5 + (belowF xs (wordF xs (wordF xs (belowF xs p 8).snd).snd).snd 50).fst))).toNat IntKind.u64.bits)))
          · exact ⟨(_, _), (belowF xs (wordF xs (wordF xs (belowF xs p 8).snd).snd).snd 50).snd, trivial, belowP hw2, fun ρ cont => (drw76 cont xs p).trans (by
              rw [if_pos h, h0, h1, h2, cond_false, cond_false, cond_true, if_pos hb, if_pos hw, if_pos hw2, if_neg (u64_rng _), if_pos ⟨i64_rng _, i64_rng _⟩, h3, cond_false]; rfl)⟩
          · exact ⟨(_, _), (belowF xs (wordF xs (wordF xs (belowF xs p 8).snd).snd).snd 50).snd, trivial, belowP hw2, fun ρ cont => (drw76 cont xs p).trans (by
              rw [if_pos h, h0, h1, h2, cond_false, cond_false, cond_true, if_pos hb, if_pos hw, if_pos hw2, if_neg (u64_rng _), if_pos ⟨i64_rng _, i64_rng _⟩, h3, cond_true]; rfl)⟩
      · exact ⟨((intF xs (belowF xs p 8).snd).fst, (intF xs (intF xs (belowF xs p 8).snd).snd).fst), (intF xs (intF xs (belowF xs p 8).snd).snd).snd, trivial, intP hi, fun ρ cont => (drw76 cont xs p).trans (by
          rw [if_pos h, h0, h1, cond_false, cond_true, if_pos hb, if_pos hi]; rfl)⟩
    · cases h3 : qofC (intF xs (belowF xs p 8).snd).fst (intF xs (intF xs (belowF xs p 8).snd).snd).fst
      · exact ⟨(_, _), (intF xs (intF xs (belowF xs p 8).snd).snd).snd, trivial, intP hi, fun ρ cont => (drw76 cont xs p).trans (by
          rw [if_pos h, h0, cond_true, if_pos hb, if_pos hi, if_pos ⟨intR hb, intR hi⟩, h3, cond_false]; rfl)⟩
      · exact ⟨(_, _), (intF xs (intF xs (belowF xs p 8).snd).snd).snd, trivial, intP hi, fun ρ cont => (drw76 cont xs p).trans (by
          rw [if_pos h, h0, cond_true, if_pos hb, if_pos hi, if_pos ⟨intR hb, intR hi⟩, h3, cond_true]; rfl)⟩
noncomputable def anyF := any_ok.choose
theorem orc_any : OrcOK NN Tryz.prog 76 (rO shQ anyF) := any_ok.choose_spec.1
theorem anyP {xs : List Int} {p : Int} (h : rdOkB xs p = true) : rdOkB xs (anyF xs p).2 = true := (any_ok.choose_spec.2 xs p h).2
noncomputable def rE6 : Env := VL tryT [] [(76, rO shQ anyF), (78, nO shB onceF), (75, cR rE Ash 5 Tryz.f75)]
theorem rE6_ok : EnvOK NN Tryz.prog rE6 := VL_ok (TabOk.of tryT_ok) (gamC orc_any Tryz.call76 (gamC orc_once Tryz.call78 (gamC (cR_ok rE_ok rfl Tryz.func75 (by kernel_rfl)) Tryz.call75 (gamN _ _))))
theorem drw58 {ρ : Type} (cont : SV → HL → Option ρ) (xs : List Int) : runF rE6 Ash 20 Tryz.f58 (bodyOf Tryz.f58) ρ [one (.sl none (.int .u8) xs)] [] cont =
  if rdOkB xs 0 = true then if rdOkB xs (anyF xs 0).snd = true then if rdOkB xs (anyF xs (anyF xs 0).snd).snd = true then bif (onceF xs (anyF xs (anyF xs 0).snd).snd 8).fst then cont (SV.tup [(true, [Atom.int IntKind.i64 (anyF xs 0).fst.fst, Atom.int IntKind.i64 (anyF xs 0).fst.snd]), (true, [Atom.int IntKind.i64 (anyF xs 0).fst.fst, Atom.int IntKind.i64 (anyF xs 0).fst.snd])]) [] else cont (SV.tup
  [(true, [Atom.int IntKind.i64 (anyF xs 0).fst.fst, Atom.int IntKind.i64 (anyF xs 0).fst.snd]), (true, [Atom.int IntKind.i64 (anyF xs (anyF xs 0).snd).fst.fst, Atom.int IntKind.i64 (anyF xs (anyF xs 0).snd).fst.snd])]) [] else none else none else none := by kernel_rfl
structure Two where
  a : Int
  b : Int
  c : Int
  d : Int
noncomputable def twoF (xs : List Int) : Two :=
  bif (onceF xs (anyF xs (anyF xs 0).snd).snd 8).fst then ⟨(anyF xs 0).1.1, (anyF xs 0).1.2, (anyF xs 0).1.1, (anyF xs 0).1.2⟩ else ⟨(anyF xs 0).1.1, (anyF xs 0).1.2, (anyF xs (anyF xs 0).2).1.1, (anyF xs (anyF xs 0).2).1.2⟩
def twoO (f : List Int → Two) : Orc := fun ρ args H cont => match args, H with
  | [.v false [.sl none (.int .u8) xs]], [] => if rdOkB xs 0 = true then cont (.tup [(true, [.int .i64 (f xs).a, .int .i64 (f xs).b]), (true, [.int .i64 (f xs).c, .int .i64 (f xs).d])]) [] else none
  | _, _ => none
theorem orc_two : OrcOK NN Tryz.prog 58 (twoO twoF) :=
  OrcOK.of_tale (cR_ok (A := Ash) (fuel := 20) rE6_ok rfl Tryz.func58 (by kernel_rfl)) fun ρ args H cont r h => by
    unfold twoO at h
    split at h
    · rename_i xs
      split at h
      · rename_i h0
        refine (drw58 cont xs).trans ?_
        rw [if_pos h0, if_pos (anyP h0), if_pos (anyP (anyP h0))]
        unfold twoF at h
        cases h1 : (onceF xs (anyF xs (anyF xs 0).snd).snd 8).fst
        · rw [h1] at h; rw [cond_false]; exact h
        · rw [h1] at h; rw [cond_true]; exact h
      · contradiction
    · contradiction
noncomputable def rE7 : Env := VL tryT [] [(58, twoO twoF)]
theorem rE7_ok : EnvOK NN Tryz.prog rE7 := VL_ok (TabOk.of tryT_ok) (gamC orc_two Tryz.call58 (gamN _ _))
theorem drw11 {ρ : Type} (cont : SV → HL → Option ρ) (xs : List Int) : runF rE7 Ash 20 Tryz.f11 (bodyOf Tryz.f11) ρ [one (.sl none (.int .u8) xs)] [] cont = twoO twoF ρ [one (.sl none (.int .u8) xs)] [] cont := by kernel_rfl
theorem drw12 {ρ : Type} (cont : SV → HL → Option ρ) (xs : List Int) : runF rE7 Ash 20 Tryz.f12 (bodyOf Tryz.f12) ρ [one (.sl none (.int .u8) xs)] [] cont = twoO twoF ρ [one (.sl none (.int .u8) xs)] [] cont := by kernel_rfl
theorem orc_add2 : OrcOK NN Tryz.prog 11 (twoO twoF) :=
  OrcOK.of_tale (cR_ok (A := Ash) (fuel := 20) rE7_ok rfl Tryz.func11 (by kernel_rfl)) fun ρ args H cont r h => by
    have h' := h
    unfold twoO at h
    split at h
    · exact (drw11 cont _).trans h'
    · contradiction
theorem orc_mul2 : OrcOK NN Tryz.prog 12 (twoO twoF) :=
  OrcOK.of_tale (cR_ok (A := Ash) (fuel := 20) rE7_ok rfl Tryz.func12 (by kernel_rfl)) fun ρ args H cont r h => by
    have h' := h
    unfold twoO at h
    split at h
    · exact (drw12 cont _).trans h'
    · contradiction
end Go.Abs
namespace Go.Abs
open Go.Proofs
set_option linter.unusedVariables false
set_option maxRecDepth 100000
theorem szQ_q {a b : Int} (h : qOkB a b = true) : szQ (Rat.divInt a b) = true := by
  obtain ⟨h1, h2, h3, h4, h5⟩ := qOkB_iff.1 h
  have := divInt_le (n := a) (d := b) (by omega)
  exact szQ_of ⟨by omega, by omega⟩
def ok2 (a b c d : Int) : Bool := qOkB a b && qOkB c d
def ok2z (a b c d : Int) : Bool := qOkB a b && (qOkB c d && !(c == 0))
def opN (g : Int → Int → Int → Int → Bool) (f : Rat → Rat → Rat) (a b c d : Int) : Int := bif g a b c d then qNum (f (Rat.divInt a b) (Rat.divInt c d)) else 0
def opD (g : Int → Int → Int → Int → Bool) (f : Rat → Rat → Rat) (a b c d : Int) : Int := bif g a b c d then qDen (f (Rat.divInt a b) (Rat.divInt c d)) else 0
def opT (g : Int → Int → Int → Int → Bool) (f : Rat → Rat → Rat) (a b c d : Int) : Bool := bif g a b c d then qFit (f (Rat.divInt a b) (Rat.divInt c d)) else false
def opO (g : Int → Int → Int → Int → Bool) (f : Rat → Rat → Rat) : Orc := fun ρ args H cont => match args, H with
  | [.v true [.int .i64 a, .int .i64 b], .v true [.int .i64 c, .int .i64 d]], [] => cont (tupB (opN g f a b c d) (opD g f a b c d) (opT g f a b c d)) []
  | _, _ => none
def qcmV (a b c d : Int) : Int := bif ok2 a b c d then cmpQ (Rat.divInt a b) (Rat.divInt c d) else 2
def qcmO : Orc := fun ρ args H cont => match args, H with
  | [.v true [.int .i64 a, .int .i64 b], .v true [.int .i64 c, .int .i64 d]], [] => cont (one (.int .i64 (qcmV a b c d))) []
  | _, _ => none
noncomputable def frE : Env := VL tryT [] [(61, q61), (62, qO 0), (63, rat2 (fun p q => szQ p && szQ q) fun p q => nm 0 (p + q)), (70, rat2 (fun p q => szQ p && szQ q) fun p q => nm 0 (p - q)), (73, rat2 (fun p q => szQ p && szQ q) fun p q => nm 0 (p * q)), (74, rat2 (fun p q => szQ p && szQ q && decide (q ≠ 0)) fun p q => nm 0 (p / q)), (69, rat2 (fun p q => szQ p && szQ q) fun p q => one (.int .i64 (cmpQ p q))), (64, rat1 (fun _ => true) tupQ)]
theorem frE_ok : EnvOK NN Tryz.prog frE := VL_ok (TabOk.of tryT_ok) (gamC q61_ok Tryz.call61 (gamC orc86 Tryz.call62 (gamC orc59 Tryz.call63 (gamC orc37 Tryz.call70 (gamC orc60 Tryz.call73 (gamC orc90 Tryz.call74 (gamC orc58 Tryz.call69 (gamC orc41 Tryz.call64 (gamN _ _)))))))))
def opR {ρ : Type} (cont : SV → HL → Option ρ) (f : Rat → Rat → Rat) (a b c d : Int) : Option ρ :=
  bif !qOkB a b then cont (tupB 0 0 false) [] else bif !qOkB c d then cont (tupB 0 0 false) [] else
  if qOkB a b = true then (if qOkB c d = true then (if (szQ (Rat.divInt a b) && szQ (Rat.divInt c d)) = true then cont (tupQ (f (Rat.divInt a b) (Rat.divInt c d))) [] else none) else none) else none
theorem opR_eq {ρ : Type} (cont : SV → HL → Option ρ) (f : Rat → Rat → Rat) (a b c d : Int) : opR cont f a b c d = cont (tupB (opN ok2 f a b c d) (opD ok2 f a b c d) (opT ok2 f a b c d)) [] := by
  unfold opR opN opD opT ok2
  cases h1 : qOkB a b
  · rfl
  · cases h2 : qOkB c d
    · rfl
    · rw [szQ_q h1, szQ_q h2]; rfl
theorem frr14 {ρ : Type} (cont : SV → HL → Option ρ) (a b c d : Int) : runF frE Ash 20 Tryz.f14 (bodyOf Tryz.f14) ρ [sQ a b, sQ c d] [] cont = opR cont (fun p q => p + q) a b c d := by kernel_rfl
theorem frr17 {ρ : Type} (cont : SV → HL → Option ρ) (a b c d : Int) : runF frE Ash 20 Tryz.f17 (bodyOf Tryz.f17) ρ [sQ a b, sQ c d] [] cont = opR cont (fun p q => p - q) a b c d := by kernel_rfl
theorem frr19 {ρ : Type} (cont : SV → HL → Option ρ) (a b c d : Int) : runF frE Ash 20 Tryz.f19 (bodyOf Tryz.f19) ρ [sQ a b, sQ c d] [] cont = opR cont (fun p q => p * q) a b c d := by kernel_rfl
theorem op_ok {n : Nat} {F : Orc} {f : Rat → Rat → Rat} (hF : OrcOK NN Tryz.prog n F) (h : ∀ {ρ : Type} (cont : SV → HL → Option ρ) (a b c d : Int), F ρ [sQ a b, sQ c d] [] cont = opR cont f a b c d) : OrcOK NN Tryz.prog n (opO ok2 f) :=
  OrcOK.of_tale hF fun ρ args H cont r hr => by
    unfold opO at hr
    split at hr
    · rename_i a b c d
      exact (h cont a b c d).trans ((opR_eq cont f a b c d).trans hr)
    · contradiction
theorem orc_qadd : OrcOK NN Tryz.prog 14 (opO ok2 fun p q => p + q) := op_ok (cR_ok (A := Ash) (fuel := 20) frE_ok rfl Tryz.func14 (by kernel_rfl)) frr14
theorem orc_qsub : OrcOK NN Tryz.prog 17 (opO ok2 fun p q => p - q) := op_ok (cR_ok (A := Ash) (fuel := 20) frE_ok rfl Tryz.func17 (by kernel_rfl)) frr17
theorem orc_qmul : OrcOK NN Tryz.prog 19 (opO ok2 fun p q => p * q) := op_ok (cR_ok (A := Ash) (fuel := 20) frE_ok rfl Tryz.func19 (by kernel_rfl)) frr19
theorem frr20 {ρ : Type} (cont : SV → HL → Option ρ) (a b c d : Int) : runF frE Ash 20 Tryz.f20 (bodyOf Tryz.f20) ρ [sQ a b, sQ c d] [] cont =
    bif !qOkB a b then cont (tupB 0 0 false) [] else bif !qOkB c d then cont (tupB 0 0 false) [] else bif bif false then true else c == 0 then cont (tupB 0 0 false) [] else
    if qOkB a b = true then (if qOkB c d = true then (if (szQ (Rat.divInt a b) && szQ (Rat.divInt c d) && decide (Rat.divInt c d ≠ 0)) = true then cont (tupQ (Rat.divInt a b / Rat.divInt c d)) [] else none) else none) else none := by kernel_rfl
theorem q_rt {a b : Int} (h : qOkB a b = true) : (Rat.divInt a b).num = a ∧ ((Rat.divInt a b).den : Int) = b := by
  obtain ⟨h1, h2, h3, h4, h5⟩ := qOkB_iff.1 h
  obtain ⟨k1, k2⟩ := divInt_pos a b (by omega)
  rw [h5, Int.natCast_one, Int.ediv_one] at k1 k2
  exact ⟨k1, k2⟩
theorem divInt_ne {a b : Int} (h : qOkB a b = true) : Rat.divInt a b = 0 ↔ a = 0 := by
  obtain ⟨k1, k2⟩ := q_rt h
  constructor
  · intro e; rw [e] at k1; exact k1.symm
  · intro e; subst e; exact Rat.zero_divInt b
theorem orc_qdiv : OrcOK NN Tryz.prog 20 (opO ok2z fun p q => p / q) :=
  OrcOK.of_tale (cR_ok (A := Ash) (fuel := 20) frE_ok rfl Tryz.func20 (by kernel_rfl)) fun ρ args H cont r hr => by
    unfold opO at hr
    split at hr
    · rename_i a b c d
      refine (frr20 cont a b c d).trans ?_
      unfold opN opD opT ok2z at hr
      cases h1 : qOkB a b
      · rw [h1] at hr; exact hr
      · cases h2 : qOkB c d
        · rw [h1, h2] at hr; exact hr
        · cases h3 : c == 0
          · rw [h1, h2, h3] at hr
            rw [szQ_q h1, szQ_q h2, decide_eq_true (show Rat.divInt c d ≠ 0 from fun e => beq_eq_false_iff_ne.1 h3 ((divInt_ne h2).1 e))]
            exact hr
          · rw [h1, h2, h3] at hr; exact hr
    · contradiction
theorem frr16 {ρ : Type} (cont : SV → HL → Option ρ) (a b c d : Int) : runF frE Ash 20 Tryz.f16 (bodyOf Tryz.f16) ρ [sQ a b, sQ c d] [] cont =
    bif !qOkB a b then cont (one (.int .i64 2)) [] else bif !qOkB c d then cont (one (.int .i64 2)) [] else
    if qOkB a b = true then (if qOkB c d = true then (if (szQ (Rat.divInt a b) && szQ (Rat.divInt c d)) = true then cont (one (.int .i64 (cmpQ (Rat.divInt a b) (Rat.divInt c d)))) [] else none) else none) else none := by kernel_rfl
theorem orc_qcmp : OrcOK NN Tryz.prog 16 qcmO :=
  OrcOK.of_tale (cR_ok (A := Ash) (fuel := 20) frE_ok rfl Tryz.func16 (by kernel_rfl)) fun ρ args H cont r hr => by
    unfold qcmO at hr
    split at hr
    · rename_i a b c d
      refine (frr16 cont a b c d).trans ?_
      unfold qcmV ok2 at hr
      cases h1 : qOkB a b
      · rw [h1] at hr; exact hr
      · cases h2 : qOkB c d
        · rw [h1, h2] at hr; exact hr
        · rw [h1, h2] at hr
          rw [szQ_q h1, szQ_q h2]
          exact hr
    · contradiction
noncomputable def lawE : Env := VL tryT [] [(10, cR rE Ash 5 Tryz.f10), (11, twoO twoF), (12, twoO twoF), (13, qOkO), (18, qOkO), (14, opO ok2 fun p q => p + q), (17, opO ok2 fun p q => p - q), (19, opO ok2 fun p q => p * q), (20, opO ok2z fun p q => p / q), (16, qcmO), (15, livesO)]
theorem lawE_ok : EnvOK NN Tryz.prog lawE := VL_ok (TabOk.of tryT_ok) (gamC (cR_ok rE_ok rfl Tryz.func10 (by kernel_rfl)) Tryz.call10 (gamC orc_add2 Tryz.call11 (gamC orc_mul2 Tryz.call12 (gamC (orc64 NN) Tryz.call13 (gamC (orc83 NN) Tryz.call18 (gamC orc_qadd Tryz.call14 (gamC orc_qsub Tryz.call17 (gamC orc_qmul Tryz.call19 (gamC orc_qdiv Tryz.call20 (gamC orc_qcmp Tryz.call16 (gamC lives_ok Tryz.call15 (gamN _ _))))))))))))
end Go.Abs
namespace Go.Abs
open Go.Proofs
set_option linter.unusedVariables false
set_option maxRecDepth 100000
def sqN (N : Nat) : Nat → Nat → Nat
  | 0, R => R
  | k + 1, R => sqN N k (if (R + 2 ^ k) * (R + 2 ^ k) ≤ N then R + 2 ^ k else R)
theorem sqN_ok (N : Nat) : ∀ (k R : Nat), R * R ≤ N → N < (R + 2 ^ k) * (R + 2 ^ k) → sqN N k R * sqN N k R ≤ N ∧ N < (sqN N k R + 1) * (sqN N k R + 1)
  | 0, R, h1, h2 => ⟨h1, h2⟩
  | k + 1, R, h1, h2 => by
    unfold sqN
    have e : 2 ^ (k + 1) = 2 ^ k + 2 ^ k := by rw [Nat.pow_succ]; omega
    rw [e, ← Nat.add_assoc] at h2
    split
    · rename_i h; exact sqN_ok N k _ h h2
    · rename_i h; exact sqN_ok N k _ h1 (by omega)
def isq (N : Nat) : Nat := sqN N (16 * (words N).length + 16) 0
theorem isq_ok (N : Nat) : isq N * isq N ≤ N ∧ N < (isq N + 1) * (isq N + 1) := by
  refine sqN_ok N _ 0 (Nat.zero_le _) ?_
  have h := words_lt N
  rw [Nat.zero_add, ← Nat.pow_add]
  refine Nat.lt_of_lt_of_le h ?_
  rw [show (4294967296 : Nat) = 2 ^ 32 from rfl, ← Nat.pow_mul]
  exact Nat.pow_le_pow_right (by omega) (by omega)
theorem shZ_one (s : Nat) : okW (shZ s [1]) ∧ (val (shZ s [1])).toNat = 2 ^ s := by
  have hs : ((s : Int) / 32).toNat = s / 32 := by omega
  have hr : ((s : Int) % 32).toNat = s % 32 := by omega
  unfold shZ
  rw [hs, hr]
  have hp : (0 : Int) < 2 ^ (s % 32) := Int.pow_pos (by omega)
  have hq : (2 : Int) ^ (s % 32) ≤ 4294967296 := by
    have : 2 ^ (s % 32) ≤ 2 ^ 32 := Nat.pow_le_pow_right (by omega) (by omega)
    have e : ((2 ^ (s % 32) : Nat) : Int) = 2 ^ (s % 32) := by simp
    omega
  refine ⟨okW_append (okW_zero _) (shL_ok _ hp hq 0 [1] (by rw [okW_cons]; exact ⟨by omega, by simp [okW]⟩) (by omega) hp), ?_⟩
  rw [val_append, val_zero, shL_val, List.length_replicate]
  have e : (0 : Int) + 4294967296 ^ (s / 32) * (0 + 2 ^ (s % 32) * val [1]) = ((2 ^ s : Nat) : Int) := by
    have h1 : val [1] = 1 := rfl
    rw [h1, Int.zero_add, Int.zero_add, Int.mul_one, show (4294967296 : Int) = 2 ^ 32 from rfl, ← Int.pow_mul, ← Int.pow_add]
    have : 32 * (s / 32) + s % 32 = s := by omega
    rw [this]; simp
  rw [e, Int.toNat_natCast]
def Msq : Nat → List (Nat × Ty) := fun f => bif Nat.beq f 183 then [(2, tL)] else bif Nat.beq f 180 then [(0, tL)] else bif Nat.beq f 179 then [(0, tL), (1, tL)] else bif Nat.beq f 182 then [(0, tL), (1, tL)] else bif Nat.beq f 181 then [(0, tL), (1, tL)] else []
def Vsq : Env := { T := tryT, E := [], Γ := gamL [(180, shiftMagO), (179, addMagO), (182, mulMagO), (181, cmpMagO), (183, putO)], M := Msq }
theorem Vsq_ok (N : NumSem) : EnvOK N Tryz.prog Vsq :=
  { T := TabOk.of tryT_ok, E := fun p hp => (by cases hp), Γ := gamC (orc246 N) Tryz.call180 (gamC (orc212 N) Tryz.call179 (gamC (orc208 N) Tryz.call182 (gamC (orc209 N) Tryz.call181 (gamC (orc207 N) Tryz.call183 (gamN N _))))) }
def A83 : Ann := { head := ptOf [(3, [0, 1, 5, 6], [5])], out := ptOf [(3, [0, 5], [])], shut := true }
def σ83 (b0 : Bool) (xs ys : List tW.den) (i : Int) : St := ⟨[(0, one (.ptr 0 0)), (1, one (.ptr 0 0)), (5, one (.sl (some false) tW xs)), (6, one (.int .i64 i))], [.var [.bool b0, .sl none tW ys]]⟩
def bitL (i : Int) : List tW.den := List.take (trimTo (shZ (IntKind.u64.wrap i) [1]) (shZ (IntKind.u64.wrap i) [1]).length) (List.drop 0 (shZ (IntKind.u64.wrap i) [1]))
theorem turn83 {ρ : Type} (K : Exit → St → Option ρ) (go : St → Option ρ) (b0 : Bool) (xs ys : List tW.den) (i : Int) :
    turnF Vsq A83 39 1 0 (loopAt Tryz.f83 0) K go (σ83 b0 xs ys i) =
    bif decide (0 ≤ i) then
      (if okW [1] ∧ List.length (α := Int) [1] < 100000000000 ∧ 0 ≤ IntKind.u64.wrap i ∧ IntKind.u64.wrap i < 100000000000 then
        (if xs.length < 1000000000000 ∧ (bitL i).length < 1000000000000 ∧ okW xs ∧ okW (bitL i) then
          (if (words (val xs + val (bitL i)).toNat).length < 1000000000000 ∧ (words (val xs + val (bitL i)).toNat).length < 1000000000000 ∧ okW (words (val xs + val (bitL i)).toNat) ∧ okW (words (val xs + val (bitL i)).toNat) then
            (if (words (val (words (val xs + val (bitL i)).toNat) * val (words (val xs + val (bitL i)).toNat)).toNat).length < 1000000000000 ∧ ys.length < 1000000000000 ∧ okW (words (val (words (val xs + val (bitL i)).toNat) * val (words (val xs + val (bitL i)).toNat)).toNat) ∧ okW ys then
              bif decide (cmpR (words (val (words (val xs + val (bitL i)).toNat) * val (words (val xs + val (bitL i)).toNat)).toNat) ys ≤ 0) then go (σ83 b0 (words (val xs + val (bitL i)).toNat) ys (IntKind.i64.wrap (i - 1)))
              else go (σ83 b0 xs ys (IntKind.i64.wrap (i - 1))) else none) else none) else none) else none)
    else K (.exit 0) ⟨[(0, one (.ptr 0 0)), (5, one (.sl (some false) tW xs))], [.var [.bool b0, .sl none tW ys]]⟩ := by kernel_rfl
theorem bitL_eq (k : Nat) (hk : k < 100000000000) : bitL (k : Int) = words (2 ^ k) := by
  have hw : IntKind.u64.wrap (k : Int) = k := u64_id _ (by omega) (by omega)
  unfold bitL
  rw [hw, List.drop_zero]
  have := trim_words (shZ_one k).1
  rw [(shZ_one k).2] at this
  exact this
theorem words_two (k : Nat) : (words (2 ^ k)).length ≤ k / 32 + 1 := by
  refine words_length ?_
  rw [show (4294967296 : Nat) = 2 ^ 32 from rfl, ← Nat.pow_mul]
  exact Nat.pow_lt_pow_right (by omega) (by omega)
theorem loop83 {ρ : Type} (K : Exit → St → Option ρ) (b0 : Bool) (N : Nat) (hN : (words N).length < 1000000000) : ∀ (k R : Nat), k < 20000000000 → R * R ≤ N →
    itF (turnF Vsq A83 39 1 0 (loopAt Tryz.f83 0) K) (fun _ => none) (k + 1) (σ83 b0 (words R) (words N) ((k : Int) - 1)) =
      K (.exit 0) ⟨[(0, one (.ptr 0 0)), (5, one (.sl (some false) tW (words (sqN N k R))))], [.var [.bool b0, .sl none tW (words N)]]⟩ := by
  intro k
  induction k with
  | zero =>
    intro R hk hR
    rw [itF_succ, turn83]
    rfl
  | succ k ih =>
    intro R hk hR
    have hRN : R ≤ N := Nat.le_trans (Nat.le_mul_self R) hR
    have l1 : (words R).length ≤ (words N).length := words_mono hRN
    have l2 := words_two k
    have l3 := words_add R (2 ^ k)
    have l4 := words_mul (R + 2 ^ k) (R + 2 ^ k)
    have e0 : ((k + 1 : Nat) : Int) - 1 = (k : Int) := by omega
    have e1 : (val (words R) + val (words (2 ^ k))).toNat = R + 2 ^ k := by rw [val_words, val_words, ← Int.natCast_add, Int.toNat_natCast]
    have e2 : (val (words (R + 2 ^ k)) * val (words (R + 2 ^ k))).toNat = (R + 2 ^ k) * (R + 2 ^ k) := by rw [val_words, ← Int.natCast_mul, Int.toNat_natCast]
    have hu : IntKind.u64.wrap (k : Int) = k := u64_id _ (by omega) (by omega)
    have hw : IntKind.i64.wrap ((k : Int) - 1) = (k : Int) - 1 := by rw [IntKind.wrap_i64]; omega
    rw [itF_succ, e0, turn83, decide_eq_true (by omega), cond_true, hu, bitL_eq k (by omega), e1, e2, hw,
      if_pos ⟨by rw [okW_cons]; exact ⟨by omega, by simp [okW]⟩, by show 1 < _; omega, by omega, by omega⟩,
      if_pos ⟨by show (words R).length < _; omega, by show (words (2 ^ k)).length < _; omega, words_ok _, words_ok _⟩,
      if_pos ⟨by show (words (R + 2 ^ k)).length < _; omega, by show (words (R + 2 ^ k)).length < _; omega, words_ok _, words_ok _⟩,
      if_pos ⟨by show (words ((R + 2 ^ k) * (R + 2 ^ k))).length < _; omega, by show (words N).length < _; omega, words_ok _, words_ok _⟩]
    obtain ⟨c1, c2⟩ := cmpR_words ((R + 2 ^ k) * (R + 2 ^ k)) N
    unfold sqN
    by_cases h : (R + 2 ^ k) * (R + 2 ^ k) ≤ N
    · rw [if_pos h, decide_eq_true (by rcases Nat.lt_or_eq_of_le h with h | h
                                       · have := c1.2 h; omega
                                       · have := c2.2 h; omega), cond_true]
      exact ih _ (by omega) h
    · rw [if_neg h, decide_eq_false (by
        intro h'
        rcases Int.lt_or_eq_of_le h' with h' | h'
        · have := c1.1 h'; omega
        · have := c2.1 h'; omega), cond_false]
      exact ih _ (by omega) hR
def S83 : Sum := fun n0 ρ σ K => match n0, σ with
  | 1, ⟨[(0, .v false [.ptr 0 0]), (1, .v false [.ptr 0 0]), (5, .v false [.sl (some false) (.int .u32) xs]), (6, .v false [.int .i64 i])], [.var [.bool b0, .sl none (.int .u32) ys]]⟩ =>
    if xs = [] ∧ ys = words (val ys).toNat ∧ List.length (α := Int) ys < 1000000000 ∧ i = 16 * (List.length (α := Int) ys : Int) + 15 then
      K (.exit 0) ⟨[(0, one (.ptr 0 0)), (5, one (.sl (some false) tW (words (isq (val ys).toNat))))], [.var [.bool b0, .sl none tW ys]]⟩ else none
  | _, _ => none
theorem sum83 (N : NumSem) : SumOK N Tryz.prog 39 (loopAt Tryz.f83 0) S83 :=
  SumOK.of_turns (Vsq_ok N) mixT (A := A83) (SumsOK.none fun _ => rfl) fun n0 ρ σ K r h => by
    unfold S83 at h
    split at h
    · rename_i xs i b0 ys
      split at h
      · rename_i hc
        obtain ⟨rfl, hy, hl, rfl⟩ := hc
        generalize hN : (val ys).toNat = N at *
        have hl' : (words N).length < 1000000000 := by rw [← hy]; exact hl
        have := loop83 K b0 N hl' (16 * (words N).length + 16) 0 (by omega) (Nat.zero_le _)
        refine ⟨16 * (words N).length + 16 + 1, Eq.trans ?_ h⟩
        · have e : (((16 * (words N).length + 16 : Nat) : Int) - 1) = 16 * (List.length (α := Int) ys : Int) + 15 := by rw [show List.length (α := Int) ys = (words N).length from congrArg _ hy]; omega
          rw [e] at this
          have e2 : (words 0 : List tW.den) = [] := rfl
          rw [show σ83 b0 (words 0) (words N) = σ83 b0 [] ys from by rw [← hy]; rfl] at this
          rw [show (List.cons (Blk.var [Atom.bool b0, Atom.sl none tW (words N)]) []) = [.var [.bool b0, .sl none tW ys]] from by rw [← hy]] at this
          exact this
      · contradiction
    · contradiction
end Go.Abs
namespace Go.Abs
open Go.Proofs
set_option linter.unusedVariables false
set_option maxRecDepth 100000
def A83s : Ann := { A83 with sum := fun i => bif Nat.beq i 3 then some S83 else none }
def sqrtO : Orc := fun ρ args H cont => match args, H with
  | [.v false [.ptr 0 0], .v false [.ptr 0 0]], [.var [.bool b, .sl none (.int .u32) xs]] =>
    if xs = words (val xs).toNat ∧ List.length (α := Int) xs < 1000000000 then cont (one (.ptr 0 0)) [zB ((isq (val xs).toNat : Nat) : Int)] else none
  | _, _ => none
theorem gq83 {ρ : Type} (cont : SV → HL → Option ρ) (b0 : Bool) (xs : List tW.den) : runF Vsq A83s 0 Tryz.f83 (bodyOf Tryz.f83) ρ [one (.ptr 0 0), one (.ptr 0 0)] [.var [.bool b0, .sl none tW xs]] cont =
    if ([] : List Int) = [] ∧ xs = words (val xs).toNat ∧ List.length (α := Int) xs < 1000000000 ∧ IntKind.i64.wrap (IntKind.i64.wrap (16 * (List.length (α := Int) xs : Int)) + 15) = 16 * (List.length (α := Int) xs : Int) + 15 then
      cont (one (.ptr 0 0)) [.var [.bool false, .sl none tW (words (isq (val xs).toNat))]] else none := by kernel_rfl
theorem orc_sqrt (N : NumSem) : OrcOK N Tryz.prog 83 sqrtO :=
  OrcOK.of_tale (runF_ok (Vsq_ok N) mixT (A := A83s) (fuel := 0) Tryz.func83 (c := bodyOf Tryz.f83) (by kernel_rfl)
    (SumsOK.ofL (ls := [loopAt Tryz.f83 0]) (by kernel_rfl) ⟨sumL1 (by kernel_rfl) (sum83 N), trivial⟩)) fun ρ args H cont r h => by
    unfold sqrtO at h
    split at h
    · rename_i b xs
      split at h
      · rename_i hc
        refine (gq83 cont b xs).trans ?_
        have hl := hc.2
        rw [if_pos ⟨rfl, hc.1, hc.2, by rw [IntKind.wrap_i64, IntKind.wrap_i64]; omega⟩, ← h]
        unfold zB
        rw [Int.natAbs_natCast, decide_eq_false (by omega)]
      · contradiction
    · contradiction
def divModO : Orc := fun ρ args H cont => match args, H with
  | [.v false [.ptr 0 0], .v false [.ip (.pair .bool (.list (.int .u32))) d 0], .v false [.ip (.pair .bool (.list (.int .u32))) e 0], .v false [.ptr 1 0]], [.var [.bool b0, .nils], .var [.bool b1, .nils]] =>
    if zOk d ∧ zOk e ∧ 0 ≤ zV d ∧ 0 < zV e then cont (.tup [(false, [.ptr 0 0]), (false, [.ptr 1 0])]) [zB (Int.tdiv (zV d) (zV e)), .dead] else none
  | _, _ => none
theorem gq248 {ρ : Type} (cont : SV → HL → Option ρ) (b0 b1 : Bool) (x y : tZ.den) : runF V9 Ash 0 Tryz.f248 (bodyOf Tryz.f248) ρ [one (.ptr 0 0), one (.ip tZ x 0), one (.ip tZ y 0), one (.ptr 1 0)] [.var [.bool b0, .nils], .var [.bool b1, .nils]] cont =
    if zOk y then (if zOk x ∧ zOk y ∧ zV y ≠ 0 then (if zOk (zD (Int.tmod (zV x) (zV y))) then
      bif decide (Int.sign (zV (zD (Int.tmod (zV x) (zV y)))) < 0) then (if zOk (zD (zV y)) then none else none) else
      cont (.tup [(false, [.ptr 0 0]), (false, [.ptr 1 0])]) [zB (Int.tdiv (zV x) (zV y)), .dead] else none) else none) else none := by kernel_rfl
theorem orc_divMod (N : NumSem) : OrcOK N Tryz.prog 248 divModO :=
  OrcOK.of_tale (runF_ok (V9_ok N) mixT (A := Ash) (fuel := 0) Tryz.func248 (c := bodyOf Tryz.f248) (by kernel_rfl) (wp_loops (by kernel_rfl))) fun ρ args H cont r h => by
    unfold divModO at h
    split at h
    · rename_i d e b0 b1
      split at h
      · rename_i hc
        obtain ⟨hd, he, h0, h1⟩ := hc
        refine (gq248 cont b0 b1 d e).trans ?_
        have hm : 0 ≤ Int.tmod (zV d) (zV e) := Int.tmod_nonneg _ h0
        have hlt : Int.tmod (zV d) (zV e) < zV e := Int.tmod_lt_of_pos _ h1
        obtain ⟨m, he1, he2⟩ := zOk_ex he
        have e3 : zV e = m := by rw [he1, zV_zD]
        have hok : zOk (zD (Int.tmod (zV d) (zV e))) := zOk_zD (by
          rw [e3] at hlt h1 ⊢
          have : (Int.tmod (zV d) m).natAbs ≤ m.natAbs := by rw [e3] at hm; omega
          exact Nat.lt_of_le_of_lt (words_mono this) he2)
        rw [if_pos he, if_pos ⟨hd, he, by omega⟩, if_pos hok, zV_zD, decide_eq_false (by
          intro hs
          rcases Int.lt_or_eq_of_le hm with h | h
          · rw [Int.sign_eq_one_of_pos h] at hs; omega
          · rw [← h] at hs; exact absurd hs (by decide)), cond_false]
        exact h
      · contradiction
    · contradiction
def divO : Orc := fun ρ args H cont => match args, H with
  | [.v false [.ptr 0 0], .v false [.ip (.pair .bool (.list (.int .u32))) d 0], .v false [.ip (.pair .bool (.list (.int .u32))) e 0]], [.var [.bool b0, .nils]] =>
    if zOk d ∧ zOk e ∧ 0 ≤ zV d ∧ 0 < zV e then cont (one (.ptr 0 0)) [zB (Int.tdiv (zV d) (zV e))] else none
  | _, _ => none
def Vdm : Env := { T := tryT, E := [], Γ := gamL [(248, divModO)], M := M8 }
theorem Vdm_ok (N : NumSem) : EnvOK N Tryz.prog Vdm := { T := TabOk.of tryT_ok, E := fun p hp => (by cases hp), Γ := gamC (orc_divMod N) Tryz.call248 (gamN N _) }
theorem gq175d {ρ : Type} (cont : SV → HL → Option ρ) (b0 : Bool) (x y : tZ.den) : runF Vdm Ash 0 Tryz.f175 (bodyOf Tryz.f175) ρ [one (.ptr 0 0), one (.ip tZ x 0), one (.ip tZ y 0)] [.var [.bool b0, .nils]] cont =
    if zOk x ∧ zOk y ∧ 0 ≤ zV x ∧ 0 < zV y then cont (one (.ptr 0 0)) [zB (Int.tdiv (zV x) (zV y))] else none := by kernel_rfl
theorem orc_div (N : NumSem) : OrcOK N Tryz.prog 175 divO :=
  OrcOK.of_tale (runF_ok (Vdm_ok N) mixT (A := Ash) (fuel := 0) Tryz.func175 (c := bodyOf Tryz.f175) (by kernel_rfl) (wp_loops (by kernel_rfl))) fun ρ args H cont r h => by
    unfold divO at h
    split at h
    · exact (gq175d cont _ _ _).trans h
    · contradiction
def setIO : Orc := fun ρ args H cont => match args, H with
  | [.v false [.ptr 0 0], .v false [.ip (.pair .bool (.list (.int .u32))) d 0]], [.var [.bool _, .nils, .bool _, .nils]] =>
    if zOk d then cont (one (.ptr 0 0)) [rB (Rat.divInt (zV d) 1).num (Rat.divInt (zV d) 1).den] else none
  | _, _ => none
def Vsi : Env := { T := tryT, E := [], Γ := gamL [(97, newIntO), (96, setFracO)], M := M8 }
theorem Vsi_ok (N : NumSem) : EnvOK N Tryz.prog Vsi := { T := TabOk.of tryT_ok, E := fun p hp => (by cases hp), Γ := gamC (orc178 N) Tryz.call97 (gamC (orc159 N) Tryz.call96 (gamN N _)) }
theorem gq178i {ρ : Type} (cont : SV → HL → Option ρ) (b0 b1 : Bool) (x : tZ.den) : runF Vsi Ash 0 Tryz.f178 (bodyOf Tryz.f178) ρ [one (.ptr 0 0), one (.ip tZ x 0)] [.var [.bool b0, .nils, .bool b1, .nils]] cont =
    if zOk x ∧ zOk (zD 1) ∧ zV (zD 1) ≠ 0 then cont (one (.ptr 0 0)) [rB (Rat.divInt (zV x) (zV (zD 1))).num (Rat.divInt (zV x) (zV (zD 1))).den] else none := by kernel_rfl
theorem orc_setI (N : NumSem) : OrcOK N Tryz.prog 178 setIO :=
  OrcOK.of_tale (runF_ok (Vsi_ok N) mixT (A := Ash) (fuel := 0) Tryz.func178 (c := bodyOf Tryz.f178) (by kernel_rfl) (wp_loops (by kernel_rfl))) fun ρ args H cont r h => by
    unfold setIO at h
    split at h
    · rename_i d b0 b1
      split at h
      · rename_i hc
        refine (gq178i cont b0 b1 d).trans ?_
        rw [if_pos ⟨hc, zOk_zD (by decide), by rw [zV_zD]; decide⟩, zV_zD]
        exact h
      · contradiction
    · contradiction
end Go.Abs
namespace Go.Abs
open Go.Proofs
set_option linter.unusedVariables false
set_option maxRecDepth 100000
def rat1H (g : Rat → Bool) (f : SV) (B : Rat → HL) : Orc := fun ρ args H cont => match args, H with
  | [.v true [.num 0 (some q)]], [] => if g q = true then cont f (B q) else none
  | _, _ => none
theorem rat1H_ok {P : Program} {k : Nat} {F : Orc} {g : Rat → Bool} {f : SV} {B : Rat → HL} (hF : OrcOK NN P k F)
    (h : ∀ ρ (cont : SV → HL → Option ρ) (q : Rat), g q = true → F ρ [ratT q] [] cont = cont f (B q)) : OrcOK NN P k (rat1H g f B) := by
  intro ρ args H cont r hr hwf hids
  unfold rat1H at hr
  split at hr
  · rename_i q
    split at hr
    · rename_i hg
      refine ⟨_, _, hr, Nat.zero_le _, fun {G κ w cargs} hrel hargs => ?_⟩
      obtain ⟨s', H', e, _, hcall⟩ := hF (h _ (fun s H => some (s, H)) q hg) hwf (fun s hs i hi => by
        have : s = ratT q := by simpa using hs
        subst this
        rw [ratT_ids] at hi; cases hi)
      simp only [Option.some.injEq, Prod.mk.injEq] at e
      obtain ⟨rfl, rfl⟩ := e
      obtain ⟨v, r', e1, h1, h2⟩ := hargs
      exact hcall hrel ⟨v, r', e1, nm_in h1, h2⟩
    · contradiction
  · contradiction
def Mfl : Nat → List (Nat × Ty) := fun f => bif Nat.beq f 178 then [(1, tZ)] else bif Nat.beq f 92 then [(0, tR)] else bif Nat.beq f 82 then [(0, tZ)] else []
def Vfl : Env := { T := tranT, E := [], Γ := gamL [(155, bigO), (176, ofR fun q => one (.ip tZ (zD q.num) 0)), (177, ofR fun q => one (.ip tZ (zD q.den) 0)), (175, divO), (178, setIO), (92, fitO)], M := Mfl }
theorem Vfl_ok (N : NumSem) : EnvOK N Tryz.prog Vfl :=
  { T := TT_ok, E := fun p hp => (by cases hp), Γ := gamC (orc95 N) Tryz.call155 (gamC (orc139 N) Tryz.call176 (gamC (orc141 N) Tryz.call177 (gamC (orc_div N) Tryz.call175 (gamC (orc_setI N) Tryz.call178 (gamC (orc93 N) Tryz.call92 (gamN N _)))))) }
def flo {ρ : Type} (cont : SV → HL → Option ρ) (D : tR.den) : Option ρ :=
  if rOk D then (if rOk D then (if zOk (zD (rV D).num) ∧ zOk (zD ((rV D).den : Int)) ∧ 0 ≤ zV (zD (rV D).num) ∧ 0 < zV (zD ((rV D).den : Int)) then
    cont (one (.ptr 0 0)) [zB (Int.tdiv (zV (zD (rV D).num)) (zV (zD ((rV D).den : Int))))] else none) else none) else none
theorem gq81 {ρ : Type} (cont : SV → HL → Option ρ) (a b : Int) : runF Vfl Ash 0 Tryz.f81 (bodyOf Tryz.f81) ρ [rS a b] [] cont =
    if (-9223372036854775808 ≤ a ∧ a < 9223372036854775808) ∧ (-9223372036854775808 ≤ b ∧ b < 9223372036854775808) ∧ b ≠ 0 then flo cont (rD (Rat.divInt a b)) else none := by kernel_rfl
theorem gq81b {ρ : Type} (cont : SV → HL → Option ρ) (D : tR.den) : runF Vfl Ash 0 Tryz.f81 (bodyOf Tryz.f81) ρ [rL D] [] cont = flo cont D := by kernel_rfl
theorem flo_eq {ρ : Type} (cont : SV → HL → Option ρ) {q : Rat} (h : szQ q = true) (h0 : 0 ≤ q.num) : flo cont (rD q) = cont (one (.ptr 0 0)) [zB (Int.tdiv q.num q.den)] := by
  have hr := szQ_r h
  obtain ⟨z1, z2, _⟩ := rOk_z hr
  have hd := q.den_pos
  unfold flo
  rw [if_pos hr, if_pos hr, rV_rD, zV_zD, zV_zD, if_pos ⟨z1, z2, h0, by omega⟩]
def floorO : Orc := rat1H (fun q => szQ q && decide (0 ≤ q.num)) (one (.ptr 0 0)) fun q => [zB (Int.tdiv q.num q.den)]
theorem orc_floor : OrcOK NN Tryz.prog 81 floorO :=
  rat1H_ok (runF_ok (Vfl_ok NN) mixT (A := Ash) (fuel := 0) Tryz.func81 (c := bodyOf Tryz.f81) (by kernel_rfl) (wp_loops (by kernel_rfl))) fun ρ cont q hg => by
    rw [Bool.and_eq_true, decide_eq_true_eq] at hg
    by_cases hs : smallQ q
    · have hp := small_pos hs
      rw [ratT_S hs, gq81, if_pos ⟨by omega, by omega, by omega⟩, Rat.num_divInt_den, flo_eq cont hg.1 hg.2]
    · rw [ratT_L hs, gq81b, flo_eq cont hg.1 hg.2]
def frmI {ρ : Type} (cont : SV → HL → Option ρ) (x : tZ.den) : Option ρ :=
  if zOk x then (if rOk (rD (Rat.divInt (zV x) 1)) then (if smallQ (rV (rD (Rat.divInt (zV x) 1))) then cont (ratS (rV (rD (Rat.divInt (zV x) 1)))) [] else cont (ratB (rV (rD (Rat.divInt (zV x) 1)))) []) else none) else none
theorem gq82 {ρ : Type} (cont : SV → HL → Option ρ) (x : tZ.den) : runF Vfl Ash 0 Tryz.f82 (bodyOf Tryz.f82) ρ [one (.ip tZ x 0)] [] cont = frmI cont x := by kernel_rfl
def fromIntO : Orc := fun ρ args H cont => match args, H with
  | [.v false [.ip (.pair .bool (.list (.int .u32))) d 0]], [] => if zOk d ∧ szQ (Rat.divInt (zV d) 1) = true then cont (nm 0 (Rat.divInt (zV d) 1)) [] else none
  | _, _ => none
theorem orc_fromInt : OrcOK NN Tryz.prog 82 fromIntO :=
  OrcOK.cv (runF_ok (Vfl_ok NN) mixT (A := Ash) (fuel := 0) Tryz.func82 (c := bodyOf Tryz.f82) (by kernel_rfl) (wp_loops (by kernel_rfl))) fun args H cont r h => by
    unfold fromIntO at h
    split at h
    · rename_i d
      split at h
      · rename_i hc
        refine ⟨_, ratT (Rat.divInt (zV d) 1), Cv.num0, rfl, h, fun ρ' cont' => (gq82 cont' d).trans ?_⟩
        unfold frmI ratT
        rw [if_pos hc.1, if_pos (szQ_r hc.2), rV_rD]
        split <;> rfl
      · contradiction
    · contradiction
noncomputable def rtE : Env := { VL tryT [] [(18, qOkO), (62, qO 0), (80, intO 0), (73, rat2 (fun p q => szQ p && szQ q) fun p q => nm 0 (p * q)), (81, floorO), (83, sqrtO), (82, fromIntO), (74, rat2 (fun p q => szQ p && szQ q && decide (q ≠ 0)) fun p q => nm 0 (p / q)), (64, rat1 (fun _ => true) tupQ)] with M := Mfl }
end Go.Abs
namespace Go.Abs
open Go.Proofs
set_option linter.unusedVariables false
set_option maxRecDepth 100000
theorem rtE_ok : EnvOK NN Tryz.prog rtE :=
  have h : EnvOK NN Tryz.prog (VL tryT [] [(18, qOkO), (62, qO 0), (80, intO 0), (73, rat2 (fun p q => szQ p && szQ q) fun p q => nm 0 (p * q)), (81, floorO), (83, sqrtO), (82, fromIntO), (74, rat2 (fun p q => szQ p && szQ q && decide (q ≠ 0)) fun p q => nm 0 (p / q)), (64, rat1 (fun _ => true) tupQ)]) :=
    VL_ok (TabOk.of tryT_ok) (gamC (orc83 NN) Tryz.call18 (gamC orc86 Tryz.call62 (gamC orc57 Tryz.call80 (gamC orc60 Tryz.call73 (gamC orc_floor Tryz.call81 (gamC (orc_sqrt NN) Tryz.call83 (gamC orc_fromInt Tryz.call82 (gamC orc90 Tryz.call74 (gamC orc41 Tryz.call64 (gamN _ _))))))))))
  { T := h.T, E := h.E, Γ := h.Γ, X := h.X }
def rtM (p : Rat) : Nat := (Int.tdiv p.num p.den).natAbs
def rtR {ρ : Type} (cont : SV → HL → Option ρ) (p : Rat) (c : Int) : Option ρ :=
  if (szQ p && decide (0 ≤ p.num)) = true then
    (if words (rtM p) = words (val (words (rtM p))).toNat ∧ List.length (α := Int) (words (rtM p)) < 1000000000 then
      (if zOk (zD ((isq (val (words (rtM p))).toNat : Nat) : Int)) ∧ szQ (Rat.divInt (zV (zD ((isq (val (words (rtM p))).toNat : Nat) : Int))) 1) = true then
        (if -9223372036854775808 < c ∧ c < 9223372036854775808 then
          (if (szQ (Rat.divInt (zV (zD ((isq (val (words (rtM p))).toNat : Nat) : Int))) 1) && szQ (Rat.divInt c 1) && decide (Rat.divInt c 1 ≠ 0)) = true then
            cont (tupQ (Rat.divInt (zV (zD ((isq (val (words (rtM p))).toNat : Nat) : Int))) 1 / Rat.divInt c 1)) [] else none) else none) else none) else none) else none
theorem gq22 {ρ : Type} (cont : SV → HL → Option ρ) (a b c : Int) : runF rtE Ash 0 Tryz.f22 (bodyOf Tryz.f22) ρ [sQ a b, one (.int .i64 c)] [] cont =
    bif !qOkB a b then cont (tupB 0 0 false) [] else bif bif false then true else decide (a < 0) then cont (tupB 0 0 false) [] else bif bif false then true else decide (c < 1) then cont (tupB 0 0 false) [] else
    bif bif false then true else decide (1000000 < c) then cont (tupB 0 0 false) [] else
    if qOkB a b = true then (if -9223372036854775808 < c ∧ c < 9223372036854775808 then (if (szQ (Rat.divInt a b) && szQ (Rat.divInt c 1)) = true then
      (if -9223372036854775808 < c ∧ c < 9223372036854775808 then (if (szQ (Rat.divInt a b * Rat.divInt c 1) && szQ (Rat.divInt c 1)) = true then rtR cont (Rat.divInt a b * Rat.divInt c 1 * Rat.divInt c 1) c else none) else none) else none) else none) else none := by kernel_rfl
end Go.Abs

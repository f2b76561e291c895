/-
  A PART OF THE PROOF of FtI (texts DrwA DrwB FrA BigG BigH RootA RootB RootC RootD RootE FrL BigI BigJ BigK NearA NearB RatO MeetP MeetA MeetB MeetC): the claim itself stands in the last text. No conditions beside those of the given row.
-/
import Derived.Test.YteedodijgpinnaaGreatDoorLivE
import Derived.Test.YteedodijgpinnaaGreatDoorRowA
import Derived.Test.YteedodijgpinnaaGreatDoorSpcP
import Derived.Test.YteedodijgpinnaaGreatDoorBigF
set_option linter.unusedVariables false
set_option linter.unnecessarySimpa false
set_option linter.unusedSimpArgs false
namespace Go.Abs
open Go.Proofs
set_option maxRecDepth 100000
def rdH (xs : List Int) (p : Int) : HL := [.var [.sl none (.int .u8) xs, .int .i64 p]]
def rdOkB (xs : List Int) (p : Int) : Bool := bytesB xs && decide (xs.length <= 1048576) && decide (0 <= p) && decide (p <= xs.length)
theorem rdOk_iff {xs : List Int} {p : Int} : rdOkB xs p = true ↔ (bytesB xs = true /\ xs.length <= 1048576 /\ 0 <= p /\ p <= xs.length) := by
  unfold rdOkB
  simp only [Bool.and_eq_true, decide_eq_true_eq]
  constructor
  · rintro ⟨⟨⟨h1, h2⟩, h3⟩, h4⟩; exact ⟨h1, h2, h3, h4⟩
  · rintro ⟨h1, h2, h3, h4⟩; exact ⟨⟨⟨h1, h2⟩, h3⟩, h4⟩
def rO {α : Type} (sh : α -> SV) (f : List Int -> Int -> α × Int) : Orc := fun ρ args H cont => match args, H with
  | [.v false [.ptr 0 0]], [.var [.sl none (.int .u8) xs, .int .i64 p]] => if rdOkB xs p = true then cont (sh (f xs p).1) [.var [.sl none (.int .u8) xs, .int .i64 (f xs p).2]] else none
  | _, _ => none
theorem rO_ok {α : Type} [Inhabited α] {n : Nat} {F : Orc} (hF : OrcOK NN Tryz.prog n F) (sh : α -> SV) (R : α -> Prop)
    (h : ∀ xs p, rdOkB xs p = true -> ∃ a p', R a /\ rdOkB xs p' = true /\ ∀ ρ (cont : SV -> HL -> Option ρ), F ρ [one (.ptr 0 0)] (rdH xs p) cont = cont (sh a) (rdH xs p')) :
    ∃ f : List Int -> Int -> α × Int, OrcOK NN Tryz.prog n (rO sh f) /\ ∀ xs p, rdOkB xs p = true -> R (f xs p).1 /\ rdOkB xs (f xs p).2 = true := by
  classical
  have h' : ∀ xs p, ∃ r : α × Int, rdOkB xs p = true -> R r.1 /\ rdOkB xs r.2 = true /\ ∀ ρ (cont : SV -> HL -> Option ρ), F ρ [one (.ptr 0 0)] (rdH xs p) cont = cont (sh r.1) (rdH xs r.2) := fun xs p => by
    by_cases hc : rdOkB xs p = true
    · obtain ⟨a, p', h1, h2, h3⟩ := h xs p hc
      exact ⟨(a, p'), fun _ => ⟨h1, h2, h3⟩⟩
    · exact ⟨default, fun h => absurd h hc⟩
  refine ⟨fun xs p => (h' xs p).choose, OrcOK.of_tale hF fun ρ args H cont r hr => ?_, fun xs p hc => ⟨((h' xs p).choose_spec hc).1, ((h' xs p).choose_spec hc).2.1⟩⟩
  unfold rO at hr
  split at hr
  · rename_i xs p
    split at hr
    · rename_i hc
      exact (((h' xs p).choose_spec hc).2.2 ρ cont).trans hr
    · contradiction
  · contradiction
noncomputable def rE : Env := VL tryT [] []
theorem rE_ok : EnvOK NN Tryz.prog rE := VL_ok (TabOk.of tryT_ok) (gamN _ _)
theorem drw174 {ρ : Type} (cont : SV -> HL -> Option ρ) (xs : List Int) (p : Int) : runF rE Ash 5 Tryz.f174 (bodyOf Tryz.f174) ρ [one (.ptr 0 0)] (rdH xs p) cont =
    bif decide (xs.length <= p) then cont (one (.int .i64 0)) (rdH xs p) else
    if 0 <= IntKind.i64.wrap (IntKind.i64.wrap (p + 1) - 1) then xs[(IntKind.i64.wrap (IntKind.i64.wrap (p + 1) - 1)).toNat]?.bind fun x => cont (one (.int .i64 (IntKind.i64.wrap x))) (rdH xs (IntKind.i64.wrap (p + 1))) else none := by kernel_rfl
def shI (x : Int) : SV := one (.int .i64 x)
theorem next_ok : ∃ f : List Int -> Int -> Int × Int, OrcOK NN Tryz.prog 174 (rO shI f) /\ ∀ xs p, rdOkB xs p = true -> (0 <= (f xs p).1 /\ (f xs p).1 < 256) /\ rdOkB xs (f xs p).2 = true :=
  rO_ok (cR_ok (A := Ash) (fuel := 5) rE_ok rfl Tryz.func174 (by kernel_rfl)) shI (fun x => 0 <= x /\ x < 256) fun xs p h => by
    obtain ⟨h1, h2, h3, h4⟩ := rdOk_iff.1 h
    by_cases hc : xs.length <= p
    · exact ⟨0, p, by decide, h, fun ρ cont => (drw174 cont xs p).trans (by rw [decide_eq_true hc, cond_true]; rfl)⟩
    · have hl : p.toNat < xs.length := by omega
      have hx := List.all_eq_true.1 h1 (xs[p.toNat]) (List.getElem_mem hl)
      simp only [Bool.and_eq_true, decide_eq_true_eq] at hx
      refine ⟨xs[p.toNat], p + 1, hx, rdOk_iff.2 ⟨h1, h2, by omega, by omega⟩, fun ρ cont => (drw174 cont xs p).trans ?_⟩
      rw [decide_eq_false hc, cond_false, i64_in (p + 1) (by omega) (by omega), i64_in (p + 1 - 1) (by omega) (by omega), if_pos (by omega), show p + 1 - 1 = p from by omega, List.getElem?_eq_getElem hl]
      show cont (one (.int .i64 (IntKind.i64.wrap xs[p.toNat]))) _ = _
      rw [i64_in _ (by omega) (by omega)]; rfl
noncomputable def nextF := next_ok.choose
theorem orc_next : OrcOK NN Tryz.prog 174 (rO shI nextF) := next_ok.choose_spec.1
theorem nextR {xs : List Int} {p : Int} (h : rdOkB xs p = true) : 0 <= (nextF xs p).1 /\ (nextF xs p).1 < 256 := (next_ok.choose_spec.2 xs p h).1
theorem nextP {xs : List Int} {p : Int} (h : rdOkB xs p = true) : rdOkB xs (nextF xs p).2 = true := (next_ok.choose_spec.2 xs p h).2
noncomputable def rE1 : Env := VL tryT [] [(174, rO shI nextF)]
theorem rE1_ok : EnvOK NN Tryz.prog rE1 := VL_ok (TabOk.of tryT_ok) (gamC orc_next Tryz.call174 (gamN _ _))
noncomputable def w8 (xs : List Int) : Nat -> Int -> Int -> Int × Int
  | 0, a, p => (a, p)
  | k + 1, a, p => w8 xs k (bits BinOp.or IntKind.u64 (IntKind.u64.wrap (a * 2 ^ min (Int.toNat 8) IntKind.u64.bits)) (IntKind.u64.wrap (nextF xs p).1)) (nextF xs p).2
def shW (x : Int) : SV := one (.int .u64 x)
noncomputable def w8if {ρ : Type} (cont : SV -> HL -> Option ρ) (xs : List Int) : Nat -> Int -> Int -> Option ρ
  | 0, a, p => cont (shW a) (rdH xs p)
  | k + 1, a, p => if rdOkB xs p = true then w8if cont xs k (bits BinOp.or IntKind.u64 (IntKind.u64.wrap (a * 2 ^ min (Int.toNat 8) IntKind.u64.bits)) (IntKind.u64.wrap (nextF xs p).1)) (nextF xs p).2 else none
theorem drw172 {ρ : Type} (cont : SV -> HL -> Option ρ) (xs : List Int) (p : Int) : runF rE1 Ash 20 Tryz.f172 (bodyOf Tryz.f172) ρ [one (.ptr 0 0)] (rdH xs p) cont = w8if cont xs 8 0 p := by kernel_rfl
theorem w8if_eq {xs : List Int} (k : Nat) : ∀ (a p : Int), rdOkB xs p = true -> rdOkB xs (w8 xs k a p).2 = true /\ ∀ {ρ : Type} (cont : SV -> HL -> Option ρ), w8if cont xs k a p = cont (shW (w8 xs k a p).1) (rdH xs (w8 xs k a p).2) := by
  induction k with
  | zero => exact fun a p h => ⟨h, fun cont => rfl⟩
  | succ k ih =>
    intro a p h
    have := ih (bits BinOp.or IntKind.u64 (IntKind.u64.wrap (a * 2 ^ min (Int.toNat 8) IntKind.u64.bits)) (IntKind.u64.wrap (nextF xs p).1)) (nextF xs p).2 (nextP h)
    refine ⟨this.1, fun cont => ?_⟩
    show (if rdOkB xs p = true then _ else none) = _
    rw [if_pos h]
    exact this.2 cont
theorem word_ok : ∃ f : List Int -> Int -> Int × Int, OrcOK NN Tryz.prog 172 (rO shW f) /\ ∀ xs p, rdOkB xs p = true -> True /\ rdOkB xs (f xs p).2 = true :=
  rO_ok (cR_ok (A := Ash) (fuel := 20) rE1_ok rfl Tryz.func172 (by kernel_rfl)) shW (fun x => True) fun xs p h =>
    ⟨_, _, trivial, (w8if_eq 8 0 p h).1, fun ρ cont => (drw172 cont xs p).trans ((w8if_eq 8 0 p h).2 cont)⟩
noncomputable def wordF := word_ok.choose
theorem orc_word : OrcOK NN Tryz.prog 172 (rO shW wordF) := word_ok.choose_spec.1
theorem wordP {xs : List Int} {p : Int} (h : rdOkB xs p = true) : rdOkB xs (wordF xs p).2 = true := (word_ok.choose_spec.2 xs p h).2
def nO {α : Type} (sh : α -> SV) (f : List Int -> Int -> Int -> α × Int) : Orc := fun ρ args H cont => match args, H with
  | [.v false [.ptr 0 0], .v false [.int .i64 n]], [.var [.sl none (.int .u8) xs, .int .i64 p]] => bif decide (n <= 1) then none else bif decide (n <= 256) then (if rdOkB xs p = true then cont (sh (f xs p n).1) [.var [.sl none (.int .u8) xs, .int .i64 (f xs p n).2]] else none) else none
  | _, _ => none
noncomputable def belowF (xs : List Int) (p n : Int) : Int × Int := ((nextF xs p).1.tmod n, (nextF xs p).2)
theorem drw77 {ρ : Type} (cont : SV -> HL -> Option ρ) (xs : List Int) (p n : Int) : runF rE1 Ash 5 Tryz.f77 (bodyOf Tryz.f77) ρ [one (.ptr 0 0), one (.int .i64 n)] (rdH xs p) cont =
   bif decide (n <= 1) then cont (one (.int .i64 0)) (rdH xs p) else bif decide (n <= 256) then (if rdOkB xs p = true then (if n = 0 then none else cont (shI (belowF xs p n).1) (rdH xs (belowF xs p n).2)) else none) else
   (if rdOkB xs p = true then (if rdOkB xs (nextF xs p).2 = true then (if n = 0 then none else cont (shI ((IntKind.i64.wrap (IntKind.i64.wrap ((nextF xs p).1 * 256) + (nextF xs (nextF xs p).2).1)).tmod n)) (rdH xs (nextF xs (nextF xs p).2).2)) else none) else none) := by kernel_rfl
theorem orc_below : OrcOK NN Tryz.prog 77 (nO shI belowF) :=
  OrcOK.of_tale (cR_ok (A := Ash) (fuel := 5) rE1_ok rfl Tryz.func77 (by kernel_rfl)) fun ρ args H cont r h => by
    unfold nO at h
    split at h
    · rename_i n xs p
      refine (drw77 cont xs p n).trans ?_
      by_cases h1 : n <= 1
      · rw [decide_eq_true h1, cond_true] at h; contradiction
      · rw [decide_eq_false h1, cond_false] at h ⊢
        by_cases h2 : n <= 256
        · rw [decide_eq_true h2, cond_true] at h ⊢
          split at h
          · rename_i hc
            rw [if_pos hc, if_neg (by omega)]; exact h
          · contradiction
        · rw [decide_eq_false h2, cond_false] at h; contradiction
    · contradiction
theorem belowR {xs : List Int} {p : Int} (h : rdOkB xs p = true) {n : Int} (hn : 1 < n) : 0 <= (belowF xs p n).1 /\ (belowF xs p n).1 < n := by
  have := nextR h
  exact ⟨Int.tmod_nonneg _ this.1, Int.tmod_lt_of_pos _ (by omega)⟩
theorem belowP {xs : List Int} {p n : Int} (h : rdOkB xs p = true) : rdOkB xs (belowF xs p n).2 = true := nextP h
noncomputable def rE2 : Env := VL tryT [] [(77, nO shI belowF)]
theorem rE2_ok : EnvOK NN Tryz.prog rE2 := VL_ok (TabOk.of tryT_ok) (gamC orc_below Tryz.call77 (gamN _ _))
def shB (b : Bool) : SV := one (.bool b)
noncomputable def onceF (xs : List Int) (p n : Int) : Bool × Int := ((belowF xs p n).1 == IntKind.i64.wrap (n - 1), (belowF xs p n).2)
theorem drw78 {ρ : Type} (cont : SV -> HL -> Option ρ) (xs : List Int) (p n : Int) : runF rE2 Ash 5 Tryz.f78 (bodyOf Tryz.f78) ρ [one (.ptr 0 0), one (.int .i64 n)] (rdH xs p) cont =
   bif decide (n <= 1) then none else bif decide (n <= 256) then (if rdOkB xs p = true then cont (shB (onceF xs p n).1) (rdH xs (onceF xs p n).2) else none) else none := by kernel_rfl
theorem orc_once : OrcOK NN Tryz.prog 78 (nO shB onceF) :=
  OrcOK.of_tale (cR_ok (A := Ash) (fuel := 5) rE2_ok rfl Tryz.func78 (by kernel_rfl)) fun ρ args H cont r h => by
    unfold nO at h
    split at h
    · rename_i n xs p
      exact (drw78 cont xs p n).trans h
    · contradiction
theorem onceP {xs : List Int} {p n : Int} (h : rdOkB xs p = true) : rdOkB xs (onceF xs p n).2 = true := nextP h
end Go.Abs
namespace Go.Abs
open Go.Proofs
set_option maxRecDepth 100000
def rBigN : Orc := fun ρ args H cont => match args, H with
  | [.v true [.bool s, .sl none (.int .u32) xs], .v true [.bool t, .sl none (.int .u32) ys]], [] => if zOk (s, xs) /\ zOk (t, ys) /\ zV (t, ys) ≠ 0 then cont (nm 1 (Rat.divInt (zV (s, xs)) (zV (t, ys)))) [] else none
  | _, _ => none
theorem orc_rBigN : OrcOK NN Tryz.prog 117 rBigN :=
  OrcOK.cv (orc125 NN) fun args H cont r h => by
    unfold rBigN at h
    split at h
    · rename_i s xs t ys
      split at h
      · rename_i hq
        refine ⟨_, _, Cv.num (isL_ratL _), rfl, h, fun ρ' cont' => ?_⟩
        show (if zOk (s, xs) /\ zOk (t, ys) /\ zV (t, ys) ≠ 0 then ofC cont' (Rat.divInt (zV (s, xs)) (zV (t, ys))) else none) = _
        rw [if_pos hq, ofC_eq]
      · contradiction
    · contradiction
noncomputable def qE : Env := VL tryT [] [(85, zOfO), (117, rBigN), (122, lat1 szQ tupQ)]
theorem qE_ok : EnvOK NN Tryz.prog qE := VL_ok (TabOk.of tryT_ok) (gamC (orc132 NN) Tryz.call85 (gamC orc_rBigN Tryz.call117 (gamC orc30 Tryz.call122 (gamN _ _))))
theorem drw79 {ρ : Type} (cont : SV -> HL -> Option ρ) (a b : Int) : runF qE Ash 20 Tryz.f79 (bodyOf Tryz.f79) ρ [one (.int .i64 a), one (.int .i64 b)] [] cont =
    bif b == 0 then cont (tupB 0 0 false) [] else (if -9223372036854775808 <= a /\ a < 9223372036854775808 then (if -9223372036854775808 <= b /\ b < 9223372036854775808 then
      (if zOk (zD a) /\ zOk (zD b) /\ zV (zD b) ≠ 0 then (if szQ (Rat.divInt (zV (zD a)) (zV (zD b))) = true then cont (tupQ (Rat.divInt (zV (zD a)) (zV (zD b)))) [] else none) else none) else none) else none) := by kernel_rfl
def qofA (a b : Int) : Int := if b = 0 then 0 else qNum (Rat.divInt a b)
def qofB (a b : Int) : Int := if b = 0 then 0 else qDen (Rat.divInt a b)
def qofC (a b : Int) : Bool := if b = 0 then false else qFit (Rat.divInt a b)
def qofO : Orc := fun ρ args H cont => match args, H with
  | [.v false [.int .i64 a], .v false [.int .i64 b]], [] => if (-9223372036854775808 <= a /\ a < 9223372036854775808) /\ (-9223372036854775808 <= b /\ b < 9223372036854775808) then cont (tupB (qofA a b) (qofB a b) (qofC a b)) [] else none
  | _, _ => none
theorem divInt_le {n d : Int} (hd : d ≠ 0) : (Rat.divInt n d).num.natAbs <= n.natAbs /\ (Rat.divInt n d).den <= d.natAbs := by
  rcases Int.lt_trichotomy d 0 with h | h | h
  · have e : Rat.divInt n d = Rat.divInt (-n) (-d) := (Rat.neg_divInt_neg n d).symm
    rw [e]
    have := divInt_pos_le (n := -n) (d := -d) (by omega)
    omega
  · exact absurd h hd
  · exact divInt_pos_le h
theorem szQ_of {q : Rat} (h : q.num.natAbs < 18446744073709551616 /\ q.den < 18446744073709551616) : szQ q = true := by
  unfold szQ
  have h1 := words_small h.1
  have h2 := words_small h.2
  rw [decide_eq_true (by omega), decide_eq_true (by omega)]; rfl
theorem orc_qof : OrcOK NN Tryz.prog 79 qofO :=
  OrcOK.of_tale (cR_ok (A := Ash) (fuel := 20) qE_ok rfl Tryz.func79 (by kernel_rfl)) fun ρ args H cont r h => by
    unfold qofO at h
    split at h
    · rename_i a b
      refine (drw79 cont a b).trans ?_
      split at h
      · rename_i hq
        by_cases hb : b = 0
        · subst hb
          exact h
        · have h1 := words_small (n := a.natAbs) (by omega)
          have h2 := words_small (n := b.natAbs) (by omega)
          have h3 := divInt_le (n := a) hb
          rw [show (b == 0) = false from beq_eq_false_iff_ne.2 hb, cond_false, if_pos hq.1, if_pos hq.2, zV_zD, zV_zD, if_pos ⟨zOk_zD (by omega), zOk_zD (by omega), hb⟩, if_pos (szQ_of ⟨by omega, by omega⟩)]
          unfold qofA qofB qofC at h
          rw [if_neg hb, if_neg hb, if_neg hb] at h
          exact h
      · contradiction
    · contradiction
theorem i64_rng (x : Int) : -9223372036854775808 <= IntKind.i64.wrap x /\ IntKind.i64.wrap x < 9223372036854775808 := by rw [IntKind.wrap_i64]; omega
theorem u64_rng (x : Int) : ¬ IntKind.u64.wrap x < 0 := by rw [IntKind.wrap_u64]; omega
def oddL : List Int := [0, 1, -1, 4611686018427387904, -4611686018427387904, 9223372036854775807, -9223372036854775808, 4294967296, 1000000000000000000, -1000000000000000000, 1000000000000000001, 1000000000]
theorem oddL_rng : ∀ x ∈ oddL, -9223372036854775808 <= x /\ x < 9223372036854775808 := by unfold oddL; simp
noncomputable def rE3 : Env := VL tryT [] [(77, nO shI belowF), (174, rO shI nextF), (172, rO shW wordF)]
theorem rE3_ok : EnvOK NN Tryz.prog rE3 := VL_ok (TabOk.of tryT_ok) (gamC orc_below Tryz.call77 (gamC orc_next Tryz.call174 (gamC orc_word Tryz.call172 (gamN _ _))))
theorem drw171 {ρ : Type} (cont : SV -> HL -> Option ρ) (xs : List Int) (p : Int) : runF rE3 Ash 20 Tryz.f171 (bodyOf Tryz.f171) ρ [one (.ptr 0 0)] (rdH xs p) cont =
  if rdOkB xs p = true then bif (belowF xs p 6).fst == 0 then if rdOkB xs (belowF xs p 6).snd = true then cont (SV.v false [Atom.int IntKind.i64 (IntKind.i64.wrap ((nextF xs (belowF xs p 6).snd).fst - 128))]) [Blk.var [Atom.sl none (Ty.int IntKind.u8) xs, Atom.int IntKind.i64 (nextF xs (belowF xs p 6).snd).snd]] else none else bif (belowF xs p 6).fst == 1 then if rdOkB xs (belowF xs p 6).snd = true
  then if 0 <= (belowF xs (belowF xs p 6).snd 12).fst /\ (belowF xs (belowF xs p 6).snd 12).fst < (oddL.length : Int) then oddL[0 + (belowF xs (belowF xs p 6).snd 12).fst.toNat]?.bind fun x => cont (SV.v false [Atom.int IntKind.i64 x]) [Blk.var [Atom.sl none (Ty.int IntKind.u8) xs, Atom.int IntKind.i64 (belowF xs (belowF xs p 6).snd 12).snd]] else none else none else bif (belowF xs p 6).fst == 2 then
  if rdOkB xs (belowF xs p 6).snd = true then cont (SV.v false [Atom.int IntKind.i64 (IntKind.i64.wrap (wordF xs (belowF xs p 6).snd).fst)]) [Blk.var [Atom.sl none (Ty.int IntKind.u8) xs, Atom.int IntKind.i64 (wordF xs (belowF xs p 6).snd).snd]] else none else bif (belowF xs p 6).fst == 3 then if rdOkB xs (belowF xs p 6).snd = true then if rdOkB xs (wordF xs (belowF xs p 6).snd).snd = true then if
  IntKind.u64.wrap (IntKind.i64.wrap (5 + (belowF xs (wordF xs (belowF xs p 6).snd).snd 55).fst)) < 0 then none else cont (SV.v false [Atom.int IntKind.i64 (IntKind.i64.wrap ((wordF xs (belowF xs p 6).snd).fst.fdiv (2 ^ min (IntKind.u64.wrap (IntKind.i64.wrap (5 + (belowF xs (wordF xs (belowF xs p 6).snd).snd 55).fst))).toNat IntKind.u64.bits)))]) [Blk.var [Atom.sl none (Ty.int IntKind.u8) xs,
  Atom.int IntKind.i64 (belowF xs (wordF xs (belowF xs p 6).snd).snd 55).snd]] else none else none else if rdOkB xs (belowF xs p 6).snd = true then cont (SV.v false [Atom.int IntKind.i64 ((nextF xs (belowF xs p 6).snd).fst.tmod 20)]) [Blk.var [Atom.sl none (Ty.int IntKind.u8) xs, Atom.int IntKind.i64 (nextF xs (belowF xs p 6).snd).snd]] else none else none := by kernel_rfl
theorem int_ok : ∃ f : List Int -> Int -> Int × Int, OrcOK NN Tryz.prog 171 (rO shI f) /\ ∀ xs p, rdOkB xs p = true -> (-9223372036854775808 <= (f xs p).1 /\ (f xs p).1 < 9223372036854775808) /\ rdOkB xs (f xs p).2 = true :=
  rO_ok (cR_ok (A := Ash) (fuel := 20) rE3_ok rfl Tryz.func171 (by kernel_rfl)) shI (fun x => -9223372036854775808 <= x /\ x < 9223372036854775808) fun xs p h => by
    have hb := belowP (n := 6) h
    cases h0 : (belowF xs p 6).fst == 0
    · cases h1 : (belowF xs p 6).fst == 1
      · cases h2 : (belowF xs p 6).fst == 2
        · cases h3 : (belowF xs p 6).fst == 3
          · have hn := nextR hb
            exact ⟨(nextF xs (belowF xs p 6).snd).fst.tmod 20, (nextF xs (belowF xs p 6).snd).snd, by have h1 := Int.tmod_nonneg 20 hn.1; have h2 := Int.tmod_lt_of_pos (nextF xs (belowF xs p 6).snd).fst (show (0 : Int) < 20 by decide); omega, nextP hb, fun ρ cont => (drw171 cont xs p).trans (by
              rw [if_pos h, h0, h1, h2, h3, cond_false, cond_false, cond_false, cond_false, if_pos hb]; rfl)⟩
          · have hw := wordP hb
            exact ⟨_, (belowF xs (wordF xs (belowF xs p 6).snd).snd 55).snd, i64_rng _, belowP hw, fun ρ cont => (drw171 cont xs p).trans (by
              rw [if_pos h, h0, h1, h2, h3, cond_false, cond_false, cond_false, cond_true, if_pos hb, if_pos hw, if_neg (u64_rng _)]; rfl)⟩
        · exact ⟨_, (wordF xs (belowF xs p 6).snd).snd, i64_rng _, wordP hb, fun ρ cont => (drw171 cont xs p).trans (by
            rw [if_pos h, h0, h1, h2, cond_false, cond_false, cond_true, if_pos hb]; rfl)⟩
      · have hn := belowR (n := 12) hb (by decide)
        have hl : 0 + (belowF xs (belowF xs p 6).snd 12).fst.toNat < oddL.length := by
          show _ < 12
          omega
        have hn12 : (belowF xs (belowF xs p 6).snd 12).fst < (oddL.length : Int) := by
          show _ < ((12 : Nat) : Int)
          omega
        exact ⟨oddL[0 + (belowF xs (belowF xs p 6).snd 12).fst.toNat], (belowF xs (belowF xs p 6).snd 12).snd, oddL_rng _ (List.getElem_mem hl), belowP hb, fun ρ cont => (drw171 cont xs p).trans (by
          rw [if_pos h, h0, h1, cond_false, cond_true, if_pos hb, if_pos ⟨hn.1, hn12⟩, List.getElem?_eq_getElem hl]; rfl)⟩
    · exact ⟨_, (nextF xs (belowF xs p 6).snd).snd, i64_rng _, nextP hb, fun ρ cont => (drw171 cont xs p).trans (by
        rw [if_pos h, h0, cond_true, if_pos hb]; rfl)⟩
noncomputable def intF := int_ok.choose
theorem orc_int : OrcOK NN Tryz.prog 171 (rO shI intF) := int_ok.choose_spec.1
theorem intR {xs : List Int} {p : Int} (h : rdOkB xs p = true) : -9223372036854775808 <= (intF xs p).1 /\ (intF xs p).1 < 9223372036854775808 := (int_ok.choose_spec.2 xs p h).1
theorem intP {xs : List Int} {p : Int} (h : rdOkB xs p = true) : rdOkB xs (intF xs p).2 = true := (int_ok.choose_spec.2 xs p h).2
def shQ (q : Int × Int) : SV := sQ q.1 q.2
noncomputable def rE4 : Env := VL tryT [] [(77, nO shI belowF), (78, nO shB onceF), (79, qofO)]
theorem rE4_ok : EnvOK NN Tryz.prog rE4 := VL_ok (TabOk.of tryT_ok) (gamC orc_below Tryz.call77 (gamC orc_once Tryz.call78 (gamC orc_qof Tryz.call79 (gamN _ _))))
theorem drw173 {ρ : Type} (cont : SV -> HL -> Option ρ) (xs : List Int) (p : Int) : runF rE4 Ash 20 Tryz.f173 (bodyOf Tryz.f173) ρ [one (.ptr 0 0)] (rdH xs p) cont =
  if rdOkB xs p = true then bif (onceF xs p 4).fst then if rdOkB xs (onceF xs p 4).snd = true then if rdOkB xs (belowF xs (onceF xs p 4).snd 6).snd = true then if (-9223372036854775808 <= IntKind.i64.wrap ((belowF xs (belowF xs (onceF xs p 4).snd 6).snd 25).fst - 8) /\ IntKind.i64.wrap ((belowF xs (belowF xs (onceF xs p 4).snd 6).snd 25).fst - 8) < 9223372036854775808) /\ -9223372036854775808 <=
  IntKind.i64.wrap (1 + (belowF xs (onceF xs p 4).snd 6).fst) /\ IntKind.i64.wrap (1 + (belowF xs (onceF xs p 4).snd 6).fst) < 9223372036854775808 then cont (SV.v true [Atom.int IntKind.i64 (qofA (IntKind.i64.wrap ((belowF xs (belowF xs (onceF xs p 4).snd 6).snd 25).fst - 8)) (IntKind.i64.wrap (1 + (belowF xs (onceF xs p 4).snd 6).fst))), Atom.int IntKind.i64 (qofB (IntKind.i64.wrap ((belowF xs
  (belowF xs (onceF xs p 4).snd 6).snd 25).fst - 8)) (IntKind.i64.wrap (1 + (belowF xs (onceF xs p 4).snd 6).fst)))]) [Blk.var [Atom.sl none (Ty.int IntKind.u8) xs, Atom.int IntKind.i64 (belowF xs (belowF xs (onceF xs p 4).snd 6).snd 25).snd]] else none else none else none else if rdOkB xs (onceF xs p 4).snd = true then if (-9223372036854775808 <= IntKind.i64.wrap ((belowF xs (onceF xs p 4).snd
  25).fst - 8) /\ IntKind.i64.wrap ((belowF xs (onceF xs p 4).snd 25).fst - 8) < 9223372036854775808) /\ (-9223372036854775808 : Int) <= 1 /\ (1 : Int) < 9223372036854775808 then cont (SV.v true [Atom.int IntKind.i64 (qofA (IntKind.i64.wrap ((belowF xs (onceF xs p 4).snd 25).fst - 8)) 1), Atom.int IntKind.i64 (qofB (IntKind.i64.wrap ((belowF xs (onceF xs p 4).snd 25).fst - 8)) 1)]) [Blk.var [Atom.sl
  none (Ty.int IntKind.u8) xs, Atom.int IntKind.i64 (belowF xs (onceF xs p 4).snd 25).snd]] else none else none else none := by kernel_rfl
theorem one_rng : (-9223372036854775808 : Int) <= 1 /\ (1 : Int) < 9223372036854775808 := by decide
theorem drawQ_ok : ∃ f : List Int -> Int -> (Int × Int) × Int, OrcOK NN Tryz.prog 173 (rO shQ f) /\ ∀ xs p, rdOkB xs p = true -> True /\ rdOkB xs (f xs p).2 = true :=
  rO_ok (cR_ok (A := Ash) (fuel := 20) rE4_ok rfl Tryz.func173 (by kernel_rfl)) shQ (fun x => True) fun xs p h => by
    have ho := onceP (n := 4) h
    cases h0 : (onceF xs p 4).fst
    · exact ⟨(_, _), (belowF xs (onceF xs p 4).snd 25).snd, trivial, belowP ho, fun ρ cont => (drw173 cont xs p).trans (by
        rw [if_pos h, h0, cond_false, if_pos ho, if_pos ⟨i64_rng _, one_rng⟩]; rfl)⟩
    · have hb := belowP (n := 6) ho
      exact ⟨(_, _), (belowF xs (belowF xs (onceF xs p 4).snd 6).snd 25).snd, trivial, belowP hb, fun ρ cont => (drw173 cont xs p).trans (by
        rw [if_pos h, h0, cond_true, if_pos ho, if_pos hb, if_pos ⟨i64_rng _, i64_rng _⟩]; rfl)⟩
noncomputable def drawQF := drawQ_ok.choose
theorem orc_drawQ : OrcOK NN Tryz.prog 173 (rO shQ drawQF) := drawQ_ok.choose_spec.1
theorem drawQP {xs : List Int} {p : Int} (h : rdOkB xs p = true) : rdOkB xs (drawQF xs p).2 = true := (drawQ_ok.choose_spec.2 xs p h).2
noncomputable def rE5 : Env := VL tryT [] [(77, nO shI belowF), (171, rO shI intF), (79, qofO), (172, rO shW wordF), (173, rO shQ drawQF)]
theorem rE5_ok : EnvOK NN Tryz.prog rE5 := VL_ok (TabOk.of tryT_ok) (gamC orc_below Tryz.call77 (gamC orc_int Tryz.call171 (gamC orc_qof Tryz.call79 (gamC orc_word Tryz.call172 (gamC orc_drawQ Tryz.call173 (gamN _ _))))))
theorem drw76 {ρ : Type} (cont : SV -> HL -> Option ρ) (xs : List Int) (p : Int) : runF rE5 Ash 20 Tryz.f76 (bodyOf Tryz.f76) ρ [one (.ptr 0 0)] (rdH xs p) cont =
  if rdOkB xs p = true then bif (belowF xs p 8).fst == 0 then if rdOkB xs (belowF xs p 8).snd = true then if rdOkB xs (intF xs (belowF xs p 8).snd).snd = true then if (-9223372036854775808 <= (intF xs (belowF xs p 8).snd).fst /\ (intF xs (belowF xs p 8).snd).fst < 9223372036854775808) /\ -9223372036854775808 <= (intF xs (intF xs (belowF xs p 8).snd).snd).fst /\ (intF xs (intF xs (belowF xs p
  8).snd).snd).fst < 9223372036854775808 then bif qofC (intF xs (belowF xs p 8).snd).fst (intF xs (intF xs (belowF xs p 8).snd).snd).fst then cont (SV.v true [Atom.int IntKind.i64 (qofA (intF xs (belowF xs p 8).snd).fst (intF xs (intF xs (belowF xs p 8).snd).snd).fst), Atom.int IntKind.i64 (qofB (intF xs (belowF xs p 8).snd).fst (intF xs (intF xs (belowF xs p 8).snd).snd).fst)]) [Blk.var [Atom.sl
  none (Ty.int IntKind.u8) xs, Atom.int IntKind.i64 (intF xs (intF xs (belowF xs p 8).snd).snd).snd]] else cont (SV.v true [Atom.int IntKind.i64 1, Atom.int IntKind.i64 3]) [Blk.var [Atom.sl none (Ty.int IntKind.u8) xs, Atom.int IntKind.i64 (intF xs (intF xs (belowF xs p 8).snd).snd).snd]] else none else none else none else bif (belowF xs p 8).fst == 1 then if rdOkB xs (belowF xs p 8).snd = true
  then if rdOkB xs (intF xs (belowF xs p 8).snd).snd = true then cont (SV.v true [Atom.int IntKind.i64 (intF xs (belowF xs p 8).snd).fst, Atom.int IntKind.i64 (intF xs (intF xs (belowF xs p 8).snd).snd).fst]) [Blk.var [Atom.sl none (Ty.int IntKind.u8) xs, Atom.int IntKind.i64 (intF xs (intF xs (belowF xs p 8).snd).snd).snd]] else none else none else bif (belowF xs p 8).fst == 2 then if rdOkB xs
  (belowF xs p 8).snd = true then if rdOkB xs (wordF xs (belowF xs p 8).snd).snd = true then if rdOkB xs (wordF xs (wordF xs (belowF xs p 8).snd).snd).snd = true then if IntKind.u64.wrap (IntKind.i64.wrap (5 + (belowF xs (wordF xs (wordF xs (belowF xs p 8).snd).snd).snd 50).fst)) < 0 then none else if (-9223372036854775808 <= IntKind.i64.wrap ((wordF xs (belowF xs p 8).snd).fst.fdiv (2 ^ min
  (Int.toNat 5) IntKind.u64.bits)) /\ IntKind.i64.wrap ((wordF xs (belowF xs p 8).snd).fst.fdiv (2 ^ min (Int.toNat 5) IntKind.u64.bits)) < 9223372036854775808) /\ -9223372036854775808 <= IntKind.i64.wrap ((wordF xs (wordF xs (belowF xs p 8).snd).snd).fst.fdiv (2 ^ min (IntKind.u64.wrap (IntKind.i64.wrap (5 + (belowF xs (wordF xs (wordF xs (belowF xs p 8).snd).snd).snd 50).fst))).toNat
  IntKind.u64.bits)) /\ IntKind.i64.wrap ((wordF xs (wordF xs (belowF xs p 8).snd).snd).fst.fdiv (2 ^ min (IntKind.u64.wrap (IntKind.i64.wrap (5 + (belowF xs (wordF xs (wordF xs (belowF xs p 8).snd).snd).snd 50).fst))).toNat IntKind.u64.bits)) < 9223372036854775808 then bif qofC (IntKind.i64.wrap ((wordF xs (belowF xs p 8).snd).fst.fdiv (2 ^ min (Int.toNat 5) IntKind.u64.bits))) (IntKind.i64.wrap
  ((wordF xs (wordF xs (belowF xs p 8).snd).snd).fst.fdiv (2 ^ min (IntKind.u64.wrap (IntKind.i64.wrap (5 + (belowF xs (wordF xs (wordF xs (belowF xs p 8).snd).snd).snd 50).fst))).toNat IntKind.u64.bits))) then cont (SV.v true [Atom.int IntKind.i64 (qofA (IntKind.i64.wrap ((wordF xs (belowF xs p 8).snd).fst.fdiv (2 ^ min (Int.toNat 5) IntKind.u64.bits))) (IntKind.i64.wrap ((wordF xs (wordF xs
  (belowF xs p 8).snd).snd).fst.fdiv (2 ^ min (IntKind.u64.wrap (IntKind.i64.wrap (5 + (belowF xs (wordF xs (wordF xs (belowF xs p 8).snd).snd).snd 50).fst))).toNat IntKind.u64.bits)))), Atom.int IntKind.i64 (qofB (IntKind.i64.wrap ((wordF xs (belowF xs p 8).snd).fst.fdiv (2 ^ min (Int.toNat 5) IntKind.u64.bits))) (IntKind.i64.wrap ((wordF xs (wordF xs (belowF xs p 8).snd).snd).fst.fdiv (2 ^ min
  (IntKind.u64.wrap (IntKind.i64.wrap (5 + (belowF xs (wordF xs (wordF xs (belowF xs p 8).snd).snd).snd 50).fst))).toNat IntKind.u64.bits))))]) [Blk.var [Atom.sl none (Ty.int IntKind.u8) xs, Atom.int IntKind.i64 (belowF xs (wordF xs (wordF xs (belowF xs p 8).snd).snd).snd 50).snd]] else cont (SV.v true [Atom.int IntKind.i64 (-1000000000000000000), Atom.int IntKind.i64 1]) [Blk.var [Atom.sl none
  (Ty.int IntKind.u8) xs, Atom.int IntKind.i64 (belowF xs (wordF xs (wordF xs (belowF xs p 8).snd).snd).snd 50).snd]] else none else none else none else none else if rdOkB xs (belowF xs p 8).snd = true then cont (SV.v true [Atom.int IntKind.i64 (drawQF xs (belowF xs p 8).snd).fst.fst, Atom.int IntKind.i64 (drawQF xs (belowF xs p 8).snd).fst.snd]) [Blk.var [Atom.sl none (Ty.int IntKind.u8) xs,
  Atom.int IntKind.i64 (drawQF xs (belowF xs p 8).snd).snd]] else none else none := by kernel_rfl
theorem any_ok : ∃ f : List Int -> Int -> (Int × Int) × Int, OrcOK NN Tryz.prog 76 (rO shQ f) /\ ∀ xs p, rdOkB xs p = true -> True /\ rdOkB xs (f xs p).2 = true :=
  rO_ok (cR_ok (A := Ash) (fuel := 20) rE5_ok rfl Tryz.func76 (by kernel_rfl)) shQ (fun x => True) fun xs p h => by
    have hb := belowP (n := 8) h
    have hi := intP hb
    have hw := wordP hb
    have hw2 := wordP hw
    cases h0 : (belowF xs p 8).fst == 0
    · cases h1 : (belowF xs p 8).fst == 1
      · cases h2 : (belowF xs p 8).fst == 2
        · exact ⟨(_, _), (drawQF xs (belowF xs p 8).snd).snd, trivial, drawQP hb, fun ρ cont => (drw76 cont xs p).trans (by
            rw [if_pos h, h0, h1, h2, cond_false, cond_false, cond_false, if_pos hb]; rfl)⟩
        · cases h3 : qofC (IntKind.i64.wrap ((wordF xs (belowF xs p 8).snd).fst.fdiv (2 ^ min (Int.toNat 5) IntKind.u64.bits))) (IntKind.i64.wrap ((wordF xs (wordF xs (belowF xs p 8).snd).snd).fst.fdiv (2 ^ min (IntKind.u64.wrap (IntKind.i64.wrap (5 + (belowF xs (wordF xs (wordF xs (belowF xs p 8).snd).snd).snd 50).fst))).toNat IntKind.u64.bits)))
          · exact ⟨(_, _), (belowF xs (wordF xs (wordF xs (belowF xs p 8).snd).snd).snd 50).snd, trivial, belowP hw2, fun ρ cont => (drw76 cont xs p).trans (by
              rw [if_pos h, h0, h1, h2, cond_false, cond_false, cond_true, if_pos hb, if_pos hw, if_pos hw2, if_neg (u64_rng _), if_pos ⟨i64_rng _, i64_rng _⟩, h3, cond_false]; rfl)⟩
          · exact ⟨(_, _), (belowF xs (wordF xs (wordF xs (belowF xs p 8).snd).snd).snd 50).snd, trivial, belowP hw2, fun ρ cont => (drw76 cont xs p).trans (by
              rw [if_pos h, h0, h1, h2, cond_false, cond_false, cond_true, if_pos hb, if_pos hw, if_pos hw2, if_neg (u64_rng _), if_pos ⟨i64_rng _, i64_rng _⟩, h3, cond_true]; rfl)⟩
      · exact ⟨((intF xs (belowF xs p 8).snd).fst, (intF xs (intF xs (belowF xs p 8).snd).snd).fst), (intF xs (intF xs (belowF xs p 8).snd).snd).snd, trivial, intP hi, fun ρ cont => (drw76 cont xs p).trans (by
          rw [if_pos h, h0, h1, cond_false, cond_true, if_pos hb, if_pos hi]; rfl)⟩
    · cases h3 : qofC (intF xs (belowF xs p 8).snd).fst (intF xs (intF xs (belowF xs p 8).snd).snd).fst
      · exact ⟨(_, _), (intF xs (intF xs (belowF xs p 8).snd).snd).snd, trivial, intP hi, fun ρ cont => (drw76 cont xs p).trans (by
          rw [if_pos h, h0, cond_true, if_pos hb, if_pos hi, if_pos ⟨intR hb, intR hi⟩, h3, cond_false]; rfl)⟩
      · exact ⟨(_, _), (intF xs (intF xs (belowF xs p 8).snd).snd).snd, trivial, intP hi, fun ρ cont => (drw76 cont xs p).trans (by
          rw [if_pos h, h0, cond_true, if_pos hb, if_pos hi, if_pos ⟨intR hb, intR hi⟩, h3, cond_true]; rfl)⟩
noncomputable def anyF := any_ok.choose
theorem orc_any : OrcOK NN Tryz.prog 76 (rO shQ anyF) := any_ok.choose_spec.1
theorem anyP {xs : List Int} {p : Int} (h : rdOkB xs p = true) : rdOkB xs (anyF xs p).2 = true := (any_ok.choose_spec.2 xs p h).2
structure Two where
  a : Int
  b : Int
  c : Int
  d : Int
end Go.Abs
namespace Go.Abs
open Go.Proofs
set_option maxRecDepth 100000
theorem szQ_q {a b : Int} (h : qOkB a b = true) : szQ (Rat.divInt a b) = true := by
  obtain ⟨h1, h2, h3, h4, h5⟩ := qOkB_iff.1 h
  have := divInt_le (n := a) (d := b) (by omega)
  exact szQ_of ⟨by omega, by omega⟩
def ok2 (a b c d : Int) : Bool := qOkB a b && qOkB c d
def opN (g : Int -> Int -> Int -> Int -> Bool) (f : Rat -> Rat -> Rat) (a b c d : Int) : Int := bif g a b c d then qNum (f (Rat.divInt a b) (Rat.divInt c d)) else 0
def opD (g : Int -> Int -> Int -> Int -> Bool) (f : Rat -> Rat -> Rat) (a b c d : Int) : Int := bif g a b c d then qDen (f (Rat.divInt a b) (Rat.divInt c d)) else 0
def opT (g : Int -> Int -> Int -> Int -> Bool) (f : Rat -> Rat -> Rat) (a b c d : Int) : Bool := bif g a b c d then qFit (f (Rat.divInt a b) (Rat.divInt c d)) else false
def opO (g : Int -> Int -> Int -> Int -> Bool) (f : Rat -> Rat -> Rat) : Orc := fun ρ args H cont => match args, H with
  | [.v true [.int .i64 a, .int .i64 b], .v true [.int .i64 c, .int .i64 d]], [] => cont (tupB (opN g f a b c d) (opD g f a b c d) (opT g f a b c d)) []
  | _, _ => none
def qcmV (a b c d : Int) : Int := bif ok2 a b c d then cmpQ (Rat.divInt a b) (Rat.divInt c d) else 2
def qcmO : Orc := fun ρ args H cont => match args, H with
  | [.v true [.int .i64 a, .int .i64 b], .v true [.int .i64 c, .int .i64 d]], [] => cont (one (.int .i64 (qcmV a b c d))) []
  | _, _ => none
theorem q_rt {a b : Int} (h : qOkB a b = true) : (Rat.divInt a b).num = a /\ ((Rat.divInt a b).den : Int) = b := by
  obtain ⟨h1, h2, h3, h4, h5⟩ := qOkB_iff.1 h
  obtain ⟨k1, k2⟩ := divInt_pos a b (by omega)
  rw [h5, Int.natCast_one, Int.ediv_one] at k1 k2
  exact ⟨k1, k2⟩
end Go.Abs
namespace Go.Abs
open Go.Proofs
set_option maxRecDepth 100000
end Go.Abs
namespace Go.Abs
open Go.Proofs
set_option maxRecDepth 100000
end Go.Abs
namespace Go.Abs
open Go.Proofs
set_option maxRecDepth 100000
end Go.Abs
namespace Go.Abs
open Go.Proofs
set_option maxRecDepth 100000
end Go.Abs
namespace Go.Abs
open Go.Proofs
set_option maxRecDepth 100000
end Go.Abs
namespace Go.Abs
open Go.Proofs
set_option maxRecDepth 100000
end Go.Abs
namespace Go.Abs
open Go.Proofs
set_option maxRecDepth 100000
theorem szQ_divI {n d : Int} (hd : d ≠ 0) (h1 : n.natAbs < 4294967296 ^ 8) (h2 : d.natAbs < 4294967296 ^ 8) : szQ (Rat.divInt n d) = true := by
  have h := divInt_le (n := n) hd
  have l1 : (words (Rat.divInt n d).num.natAbs).length <= 8 := words_length (Nat.lt_of_le_of_lt h.1 h1)
  have l2 : (words (Rat.divInt n d).den).length <= 8 := words_length (Nat.lt_of_le_of_lt h.2 h2)
  unfold szQ
  rw [decide_eq_true (by omega), decide_eq_true (by omega)]; rfl
end Go.Abs
namespace Go.Abs
open Go.Proofs
set_option maxRecDepth 100000
def pls (p q : Rat) : Rat := p + q
def mns (p q : Rat) : Rat := p - q
def tms (p q : Rat) : Rat := p * q
theorem fit_ok {r : Rat} (h : qFit r = true) : qOkB (qNum r) (qDen r) = true /\ Rat.divInt (qNum r) (qDen r) = r := by
  have h' : r.num.natAbs <= 1000000000000000000 /\ r.den <= 1000000000000000000 := of_decide_eq_true h
  have e1 : qNum r = r.num := by unfold qNum; rw [if_pos h']
  have e2 : qDen r = r.den := by unfold qDen; rw [if_pos h']
  have h3 := r.den_pos
  have h4 : Int.gcd r.num r.den = 1 := r.reduced
  rw [e1, e2]
  exact ⟨qOkB_iff.2 ⟨by omega, by omega, by omega, by omega, h4⟩, Rat.num_divInt_den r⟩
section
variable {g : Int -> Int -> Int -> Int -> Bool} {f : Rat -> Rat -> Rat} {a b c d : Int}
theorem opT_g (h : opT g f a b c d = true) : g a b c d = true := by
  unfold opT at h
  cases hg : g a b c d
  · rw [hg] at h; contradiction
  · rfl
theorem op_fit (h : opT g f a b c d = true) : qOkB (opN g f a b c d) (opD g f a b c d) = true /\ Rat.divInt (opN g f a b c d) (opD g f a b c d) = f (Rat.divInt a b) (Rat.divInt c d) := by
  have hg := opT_g h
  unfold opT at h
  unfold opN opD
  rw [hg] at h ⊢
  exact fit_ok h
theorem op_no (h : g a b c d = false) : opT g f a b c d = false /\ opN g f a b c d = 0 /\ opD g f a b c d = 0 := by
  unfold opT opN opD
  rw [h]
  exact ⟨rfl, rfl, rfl⟩
end
theorem ok2_of {a b c d : Int} (h1 : qOkB a b = true) (h2 : qOkB c d = true) : ok2 a b c d = true := by unfold ok2; rw [h1, h2]; rfl
theorem of_ok2 {a b c d : Int} (h : ok2 a b c d = true) : qOkB a b = true /\ qOkB c d = true := by unfold ok2 at h; rw [Bool.and_eq_true] at h; exact h
end Go.Abs
namespace Go.Abs
open Go.Proofs
set_option maxRecDepth 100000
end Go.Abs
namespace Go.Abs
open Go.Proofs
set_option maxRecDepth 100000
end Go.Abs
namespace Go.Abs
open Go.Proofs
set_option maxRecDepth 100000
end Go.Abs
namespace Go.Abs
open Go.Proofs
set_option maxRecDepth 100000
end Go.Abs
namespace Go.Abs
open Go.Proofs
set_option maxRecDepth 100000
noncomputable def spE : Env := VL tryT [] [(13, qOkO), (113, qO 1), (120, lat2 (fun p q => szQ p && szQ q) fun p q => nm 1 (p - q)), (121, lat2 (fun p q => szQ p && szQ q) fun p q => one (.int .i64 (cmpQ p q))), (122, lat1 szQ tupQ)]
theorem spE_ok : EnvOK NN Tryz.prog spE := VL_ok (TabOk.of tryT_ok) (gamC (orc64 NN) Tryz.call13 (gamC orc65 Tryz.call113 (gamC orc27 Tryz.call120 (gamC orc51 Tryz.call121 (gamC orc30 Tryz.call122 (gamN _ _))))))
theorem szQ_sub {a b c d : Int} (h1 : qOkB a b = true) (h2 : qOkB c d = true) : szQ (Rat.divInt a b - Rat.divInt c d) = true := by
  obtain ⟨p1, p2, p3, p4, _⟩ := qOkB_iff.1 h1
  obtain ⟨r1, r2, r3, r4, _⟩ := qOkB_iff.1 h2
  have e : Rat.divInt a b - Rat.divInt c d = Rat.divInt (a * d + -c * b) (b * d) := by
    rw [Rat.sub_eq_add_neg, Rat.neg_divInt, Rat.divInt_add_divInt _ _ (by omega) (by omega)]
  have b1 : (a * d).natAbs <= 1000000000000000000 * 1000000000000000000 := by rw [Int.natAbs_mul]; exact Nat.mul_le_mul (by omega) (by omega)
  have b2 : (-c * b).natAbs <= 1000000000000000000 * 1000000000000000000 := by rw [Int.natAbs_mul]; exact Nat.mul_le_mul (by omega) (by omega)
  have b3 : (b * d).natAbs <= 1000000000000000000 * 1000000000000000000 := by rw [Int.natAbs_mul]; exact Nat.mul_le_mul (by omega) (by omega)
  rw [e]
  exact szQ_divI (Int.mul_ne_zero (by omega) (by omega)) (by omega) (by omega)
theorem gq123 {ρ : Type} (cont : SV -> HL -> Option ρ) (a b c d : Int) : runF spE Ash 20 Tryz.f123 (bodyOf Tryz.f123) ρ [sQ a b, sQ c d] [] cont =
    bif !qOkB a b then cont (tupB 0 0 false) [] else bif bif false then true else !qOkB c d then cont (tupB 0 0 false) [] else
    if qOkB a b = true then (if qOkB c d = true then (if (szQ (Rat.divInt a b) && szQ (Rat.divInt c d)) = true then (if szQ (Rat.divInt a b - Rat.divInt c d) = true then
      cont (tupQ (Rat.divInt a b - Rat.divInt c d)) [] else none) else none) else none) else none := by kernel_rfl
theorem orc_ssub : OrcOK NN Tryz.prog 123 (opO ok2 mns) :=
  OrcOK.of_tale (cR_ok (A := Ash) (fuel := 20) spE_ok rfl Tryz.func123 (by kernel_rfl)) fun ρ args H cont r hr => by
    unfold opO at hr
    split at hr
    · rename_i a b c d
      refine (gq123 cont a b c d).trans ?_
      unfold opN opD opT ok2 at hr
      cases h1 : qOkB a b
      · rw [h1] at hr; exact hr
      · cases h2 : qOkB c d
        · rw [h1, h2] at hr; exact hr
        · rw [h1, h2] at hr
          rw [szQ_q h1, szQ_q h2, szQ_sub h1 h2]
          exact hr
    · contradiction
theorem gq42 {ρ : Type} (cont : SV -> HL -> Option ρ) (a b c d : Int) : runF spE Ash 20 Tryz.f42 (bodyOf Tryz.f42) ρ [sQ a b, sQ c d] [] cont =
    bif !qOkB a b then cont (one (.int .i64 2)) [] else bif bif false then true else !qOkB c d then cont (one (.int .i64 2)) [] else
    if qOkB a b = true then (if qOkB c d = true then (if (szQ (Rat.divInt a b) && szQ (Rat.divInt c d)) = true then cont (one (.int .i64 (cmpQ (Rat.divInt a b) (Rat.divInt c d)))) [] else none) else none) else none := by kernel_rfl
theorem orc_scmp : OrcOK NN Tryz.prog 42 qcmO :=
  OrcOK.of_tale (cR_ok (A := Ash) (fuel := 20) spE_ok rfl Tryz.func42 (by kernel_rfl)) fun ρ args H cont r hr => by
    unfold qcmO at hr
    split at hr
    · rename_i a b c d
      refine (gq42 cont a b c d).trans ?_
      unfold qcmV ok2 at hr
      cases h1 : qOkB a b
      · rw [h1] at hr; exact hr
      · cases h2 : qOkB c d
        · rw [h1, h2] at hr; exact hr
        · rw [h1, h2] at hr
          rw [szQ_q h1, szQ_q h2]
          exact hr
    · contradiction
noncomputable def mnE : Env := VL tryT [] [(123, opO ok2 mns)]
theorem mnE_ok : EnvOK NN Tryz.prog mnE := VL_ok (TabOk.of tryT_ok) (gamC orc_ssub Tryz.call123 (gamN _ _))
def minusO : Orc := fun ρ args H cont => match args, H with
  | [.v true [.int .i64 a, .int .i64 b], .v true [.int .i64 c, .int .i64 d]], [] => cont (sQ (opN ok2 mns a b c d) (opD ok2 mns a b c d)) []
  | _, _ => none
theorem gq40 {ρ : Type} (cont : SV -> HL -> Option ρ) (a b c d : Int) : runF mnE Ash 20 Tryz.f40 (bodyOf Tryz.f40) ρ [sQ a b, sQ c d] [] cont = cont (sQ (opN ok2 mns a b c d) (opD ok2 mns a b c d)) [] := by kernel_rfl
theorem orc_minus : OrcOK NN Tryz.prog 40 minusO :=
  OrcOK.of_tale (cR_ok (A := Ash) (fuel := 20) mnE_ok rfl Tryz.func40 (by kernel_rfl)) fun ρ args H cont r hr => by
    unfold minusO at hr
    split at hr
    · exact (gq40 cont _ _ _ _).trans hr
    · contradiction
end Go.Abs
namespace Go.Abs
theorem cmpQ_lt {p q : Rat} : cmpQ p q < 0 ↔ p < q := by
  unfold cmpQ
  rw [Rat.lt_iff, Int.sign_neg_iff]
  omega
theorem cmpQ_gt {p q : Rat} : 0 < cmpQ p q ↔ q < p := by
  unfold cmpQ
  rw [Rat.lt_iff, Int.sign_pos_iff]
  omega
theorem cmpQ_eq {p q : Rat} : cmpQ p q = 0 ↔ p = q := by
  unfold cmpQ
  rw [Int.sign_eq_zero_iff_zero]
  have h1 := @cmpQ_lt p q
  have h2 := @cmpQ_gt p q
  constructor
  · intro h
    have := @Rat.lt_iff p q
    have := @Rat.lt_iff q p
    have := Rat.not_lt (a := p) (b := q)
    have := Rat.not_lt (a := q) (b := p)
    apply Rat.le_antisymm
    · grind
    · grind
  · rintro rfl; omega
theorem sgnQ_lt {p : Rat} : Int.sign p.num < 0 ↔ p < 0 := by
  rw [Int.sign_neg_iff, Rat.lt_iff]; simp
theorem sgnQ_gt {p : Rat} : 0 < Int.sign p.num ↔ 0 < p := by
  rw [Int.sign_pos_iff, Rat.lt_iff]; simp
theorem sgnQ_eq {p : Rat} : Int.sign p.num = 0 ↔ p = 0 := by
  rw [Int.sign_eq_zero_iff_zero]; exact Rat.num_eq_zero
end Go.Abs
namespace Go.Abs
structure Pl where
  x : Rat
  y : Rat
theorem Pl.ext' {p q : Pl} (h1 : p.x = q.x) (h2 : p.y = q.y) : p = q := by cases p; cases q; simp_all
instance : DecidableEq Pl := fun p q => decidable_of_iff (p.x = q.x /\ p.y = q.y) ⟨fun h => Pl.ext' h.1 h.2, fun h => by rw [h]; exact ⟨rfl, rfl⟩⟩
def crP (a b : Pl) : Rat := a.x * b.y - a.y * b.x
def sbP (a b : Pl) : Pl := ⟨a.x - b.x, a.y - b.y⟩
def adP (a b : Pl) : Pl := ⟨a.x + b.x, a.y + b.y⟩
def tmP (a : Pl) (t : Rat) : Pl := ⟨a.x * t, a.y * t⟩
def lxP (a b : Pl) : Prop := a.x < b.x \/ a.x = b.x /\ a.y < b.y
instance (a b : Pl) : Decidable (lxP a b) := by unfold lxP; infer_instance
def loP (a b : Pl) : Pl := if lxP b a then b else a
def hiP (a b : Pl) : Pl := if lxP b a then a else b
def mxP (p x : Pl) : Pl := if lxP p x then x else p
def btw (e a b : Rat) : Prop := (a <= e \/ b <= e) /\ (e <= a \/ e <= b)
instance (e a b : Rat) : Decidable (btw e a b) := by unfold btw; infer_instance
def onP (e a b : Pl) : Prop := btw e.x a.x b.x /\ btw e.y a.y b.y /\ crP (sbP b a) (sbP e a) = 0
instance (e a b : Pl) : Decidable (onP e a b) := by unfold onP; infer_instance
theorem div_ge {a b : Rat} (h : 0 < b) (h' : 0 <= a) : 0 <= a / b := by
  rw [<- Rat.not_lt, Rat.div_lt_iff h]; grind
theorem div_le1 {a b : Rat} (h : 0 < b) (h' : a <= b) : a / b <= 1 := by
  rw [<- Rat.not_lt, Rat.lt_div_iff h]; grind
theorem par1 {e a b : Rat} (h : btw e a b) (hab : a ≠ b) : ∃ t : Rat, 0 <= t /\ t <= 1 /\ e = a + (b - a) * t := by
  unfold btw at h
  have hn : b - a ≠ 0 := by grind
  refine ⟨(e - a) / (b - a), ?_, ?_, by grind⟩
  · rcases (show a < b \/ b < a by grind) with h1 | h1
    · exact div_ge (by grind) (by grind)
    · have : (e - a) / (b - a) = (a - e) / (a - b) := by grind
      rw [this]; exact div_ge (by grind) (by grind)
  · rcases (show a < b \/ b < a by grind) with h1 | h1
    · exact div_le1 (by grind) (by grind)
    · have : (e - a) / (b - a) = (a - e) / (a - b) := by grind
      rw [this]; exact div_le1 (by grind) (by grind)
theorem mul_btw {a b t : Rat} (h0 : 0 <= t) (h1 : t <= 1) : btw (a + (b - a) * t) a b := by
  unfold btw
  rcases (show a <= b \/ b <= a by grind) with h | h
  · have k1 : 0 <= (b - a) * t := Rat.mul_nonneg (by grind) h0
    have k2 : 0 <= (b - a) * (1 - t) := Rat.mul_nonneg (by grind) (by grind)
    grind
  · have k1 : 0 <= (a - b) * t := Rat.mul_nonneg (by grind) h0
    have k2 : 0 <= (a - b) * (1 - t) := Rat.mul_nonneg (by grind) (by grind)
    grind
theorem on_par {e a b : Pl} (hab : a ≠ b) : onP e a b ↔ ∃ t : Rat, 0 <= t /\ t <= 1 /\ e.x = a.x + (b.x - a.x) * t /\ e.y = a.y + (b.y - a.y) * t := by
  constructor
  · rintro ⟨h1, h2, h3⟩
    unfold crP sbP at h3
    simp only at h3
    by_cases hx : a.x = b.x
    · have hy : a.y ≠ b.y := fun h => hab (Pl.ext' hx h)
      obtain ⟨t, t0, t1, te⟩ := par1 h2 hy
      refine ⟨t, t0, t1, ?_, te⟩
      unfold btw at h1
      grind
    · obtain ⟨t, t0, t1, te⟩ := par1 h1 hx
      refine ⟨t, t0, t1, te, ?_⟩
      have hn : b.x - a.x ≠ 0 := by grind
      have : (b.x - a.x) * (e.y - a.y - (b.y - a.y) * t) = 0 := by grind
      rcases Rat.mul_eq_zero.1 this with h | h <;> grind
  · rintro ⟨t, t0, t1, h1, h2⟩
    refine ⟨h1 ▸ mul_btw t0 t1, h2 ▸ mul_btw t0 t1, ?_⟩
    unfold crP sbP
    simp only
    rw [h1, h2]
    grind
def apP (a b c d : Rat) : Prop := (a < c /\ a < d /\ b < c /\ b < d) \/ (c < a /\ c < b /\ d < a /\ d < b)
instance (a b c d : Rat) : Decidable (apP a b c d) := by unfold apP; infer_instance
end Go.Abs
namespace Go.Abs
open Go.Proofs
set_option maxRecDepth 100000
noncomputable def mA : Env := VL tryT [] [(61, q61), (62, qO 0), (138, vO 0), (64, rat1 (fun _ => true) tupQ), (69, rat2 (fun p q => szQ p && szQ q) fun p q => one (.int .i64 (cmpQ p q))), (70, rat2 (fun p q => szQ p && szQ q) fun p q => nm 0 (p - q)), (73, rat2 (fun p q => szQ p && szQ q) fun p q => nm 0 (p * q)), (165, rat1 szQ fun q => one (.int .i64 (Int.sign q.num))),
  (226, pt2 0 fun a b c d => pS 0 (a - c) (b - d))]
theorem mA_ok : EnvOK NN Tryz.prog mA := VL_ok (TabOk.of tryT_ok) (gamC q61_ok Tryz.call61 (gamC orc86 Tryz.call62 (gamC orc135 Tryz.call138 (gamC orc41 Tryz.call64 (gamC orc58 Tryz.call69 (gamC orc37 Tryz.call70 (gamC orc60 Tryz.call73 (gamC orc88 Tryz.call165 (gamC orc36 Tryz.call226 (gamN _ _))))))))))
def seS (k : Nat) (a b c d : Rat) : SV := .v true [.num k (some a), .num k (some b), .num k (some c), .num k (some d)]
def sG (a b c d e f g h : Int) : SV := .v true [.int .i64 a, .int .i64 b, .int .i64 c, .int .i64 d, .int .i64 e, .int .i64 f, .int .i64 g, .int .i64 h]
theorem gq136 {ρ : Type} (cont : SV -> HL -> Option ρ) (a b c d : Int) : runF mA Ash 20 Tryz.f136 (bodyOf Tryz.f136) ρ [sV a b c d] [] cont =
    bif !qOkB a b then cont (one (.bool false)) [] else bif !qOkB c d then cont (one (.bool false)) [] else cont (one (.bool true)) [] := by kernel_rfl
theorem orc_vokI : OrcOK NN Tryz.prog 136 vOkO :=
  OrcOK.of_tale (cR_ok (A := Ash) (fuel := 20) mA_ok rfl Tryz.func136 (by kernel_rfl)) fun ρ args H cont r h => by
    unfold vOkO at h
    split at h
    · rename_i a b c d
      refine (gq136 cont a b c d).trans ?_
      unfold vOkB at h
      cases h1 : qOkB a b <;> cases h2 : qOkB c d <;> rw [h1] at h <;> (try rw [h2] at h) <;> exact h
    · contradiction
def segB (a b c d e f g h : Int) : Bool := bif vOkB a b c d then bif vOkB e f g h then !(a == e && (b == f && (c == g && d == h))) else false else false
def segO : Orc := fun ρ args H cont => match args, H with
  | [.v true [.int .i64 a, .int .i64 b, .int .i64 c, .int .i64 d, .int .i64 e, .int .i64 f, .int .i64 g, .int .i64 h]], [] => cont (one (.bool (segB a b c d e f g h))) []
  | _, _ => none
noncomputable def mB : Env := VL tryT [] [(136, vOkO), (142, vOkO), (138, vO 0), (128, vO 1), (139, pt2 0 fun a b c d => one (.int .i64 (cmpP a b c d))), (69, rat2 (fun p q => szQ p && szQ q) fun p q => one (.int .i64 (cmpQ p q))), (165, rat1 szQ fun q => one (.int .i64 (Int.sign q.num))), (226, pt2 0 fun a b c d => pS 0 (a - c) (b - d)), (267, cR mA Ash 20 Tryz.f267), (225, cR mA Ash 20 Tryz.f225), (148, cR mA Ash 20 Tryz.f148), (230, pt2 1 fun a b c d => one (.int .i64 (cmpP a b c d)))]
theorem mB_ok : EnvOK NN Tryz.prog mB := VL_ok (TabOk.of tryT_ok) (gamC orc_vokI Tryz.call136 (gamC orc162 Tryz.call142 (gamC orc135 Tryz.call138 (gamC orc163 Tryz.call128 (gamC orc98 Tryz.call139 (gamC orc58 Tryz.call69 (gamC orc88 Tryz.call165 (gamC orc36 Tryz.call226 (gamC (cR_ok mA_ok rfl Tryz.func267 (by kernel_rfl)) Tryz.call267
  (gamC (cR_ok mA_ok rfl Tryz.func225 (by kernel_rfl)) Tryz.call225 (gamC (cR_ok mA_ok rfl Tryz.func148 (by kernel_rfl)) Tryz.call148 (gamC orc130 Tryz.call230 (gamN _ _)))))))))))))
def segK {ρ : Type} (cont : SV -> HL -> Option ρ) (a b c d e f g h : Int) : Option ρ :=
  bif vOkB a b c d then (bif bif true then vOkB e f g h else false then cont (one (.bool (bif true then !(a == e && (b == f && (c == g && d == h))) else false))) [] else cont (one (.bool false)) []) else cont (one (.bool false)) []
theorem segK_eq {ρ : Type} (cont : SV -> HL -> Option ρ) (a b c d e f g h : Int) : segK cont a b c d e f g h = cont (one (.bool (segB a b c d e f g h))) [] := by
  unfold segK segB
  cases vOkB a b c d <;> cases vOkB e f g h <;> rfl
theorem gq131 {ρ : Type} (cont : SV -> HL -> Option ρ) (a b c d e f g h : Int) : runF mB Ash 20 Tryz.f131 (bodyOf Tryz.f131) ρ [sG a b c d e f g h] [] cont = segK cont a b c d e f g h := by kernel_rfl
theorem gq125 {ρ : Type} (cont : SV -> HL -> Option ρ) (a b c d e f g h : Int) : runF mB Ash 20 Tryz.f125 (bodyOf Tryz.f125) ρ [sG a b c d e f g h] [] cont = segK cont a b c d e f g h := by kernel_rfl
theorem orc_segI : OrcOK NN Tryz.prog 131 segO :=
  OrcOK.of_tale (cR_ok (A := Ash) (fuel := 20) mB_ok rfl Tryz.func131 (by kernel_rfl)) fun ρ args H cont r h => by
    unfold segO at h
    split at h
    · exact ((gq131 cont _ _ _ _ _ _ _ _).trans (segK_eq ..)).trans h
    · contradiction
theorem orc_segS : OrcOK NN Tryz.prog 125 segO :=
  OrcOK.of_tale (cR_ok (A := Ash) (fuel := 20) mB_ok rfl Tryz.func125 (by kernel_rfl)) fun ρ args H cont r h => by
    unfold segO at h
    split at h
    · exact ((gq125 cont _ _ _ _ _ _ _ _).trans (segK_eq ..)).trans h
    · contradiction
def ap4 : Orc := fun ρ args H cont => match args, H with
  | [.v true [.num 0 (some a)], .v true [.num 0 (some b)], .v true [.num 0 (some c)], .v true [.num 0 (some d)]], [] => if szQ a = true /\ szQ b = true /\ szQ c = true /\ szQ d = true then cont (one (.bool (decide (apP a b c d)))) [] else none
  | _, _ => none
def apR {ρ : Type} (cont : SV -> HL -> Option ρ) (lo hi l h : Rat) : Option ρ :=
  if (szQ hi && szQ l) = true then (bif decide (cmpQ hi l < 0) then cont (one (.bool true)) [] else (if (szQ h && szQ lo) = true then cont (one (.bool (bif false then true else decide (cmpQ h lo < 0)))) [] else none)) else none
theorem apR_eq {ρ : Type} (cont : SV -> HL -> Option ρ) {lo hi l h : Rat} (z1 : szQ lo = true) (z2 : szQ hi = true) (z3 : szQ l = true) (z4 : szQ h = true) : apR cont lo hi l h = cont (one (.bool (decide (hi < l \/ h < lo)))) [] := by
  unfold apR
  rw [if_pos (both z2 z3), if_pos (both z4 z1)]
  by_cases h1 : hi < l
  · rw [decide_eq_true (cmpQ_lt.2 h1), cond_true, decide_eq_true (.inl h1)]
  · rw [decide_eq_false (fun e => h1 (cmpQ_lt.1 e)), cond_false, cond_false]
    by_cases h2 : h < lo
    · rw [decide_eq_true (cmpQ_lt.2 h2), decide_eq_true (.inr h2)]
    · rw [decide_eq_false (fun e => h2 (cmpQ_lt.1 e)), decide_eq_false (fun e => e.elim h1 h2)]
theorem gq224 {ρ : Type} (cont : SV -> HL -> Option ρ) (a b c d : Rat) : runF mB Ash 20 Tryz.f224 (bodyOf Tryz.f224) ρ [nm 0 a, nm 0 b, nm 0 c, nm 0 d] [] cont =
    if (szQ a && szQ b) = true then (bif decide (0 < cmpQ a b) then (if (szQ c && szQ d) = true then (bif decide (0 < cmpQ c d) then apR cont b a d c else apR cont b a c d) else none)
      else (if (szQ c && szQ d) = true then (bif decide (0 < cmpQ c d) then apR cont a b d c else apR cont a b c d) else none)) else none := by kernel_rfl
theorem orc_ap : OrcOK NN Tryz.prog 224 ap4 :=
  OrcOK.of_tale (cR_ok (A := Ash) (fuel := 20) mB_ok rfl Tryz.func224 (by kernel_rfl)) fun ρ args H cont r h => by
    unfold ap4 at h
    split at h
    · rename_i a b c d
      split at h
      · rename_i hc
        obtain ⟨z1, z2, z3, z4⟩ := hc
        refine (gq224 cont a b c d).trans ?_
        rw [if_pos (both z1 z2), if_pos (both z3 z4), if_pos (both z3 z4), apR_eq cont z2 z1 z4 z3, apR_eq cont z2 z1 z3 z4, apR_eq cont z1 z2 z4 z3, apR_eq cont z1 z2 z3 z4]
        refine Eq.trans ?_ h
        have e : ∀ p q : Prop, [Decidable p] -> [Decidable q] -> (p ↔ q) -> cont (one (.bool (decide p))) [] = cont (one (.bool (decide q))) [] := fun p q _ _ h => by rw [decide_eq_decide.2 h]
        by_cases h1 : b < a
        · rw [decide_eq_true (cmpQ_gt.2 h1), cond_true]
          by_cases h2 : d < c
          · rw [decide_eq_true (cmpQ_gt.2 h2), cond_true]
            refine e _ _ ?_
            unfold apP
            grind
          · rw [decide_eq_false (fun e => h2 (cmpQ_gt.1 e)), cond_false]
            refine e _ _ ?_
            unfold apP
            grind
        · rw [decide_eq_false (fun e => h1 (cmpQ_gt.1 e)), cond_false]
          by_cases h2 : d < c
          · rw [decide_eq_true (cmpQ_gt.2 h2), cond_true]
            refine e _ _ ?_
            unfold apP
            grind
          · rw [decide_eq_false (fun e => h2 (cmpQ_gt.1 e)), cond_false]
            refine e _ _ ?_
            unfold apP
            grind
      · contradiction
    · contradiction
def ps8 (k : Nat) : Orc := fun ρ args H cont => match args, H with
  | [.v true [.int .i64 a, .int .i64 b, .int .i64 c, .int .i64 d, .int .i64 e, .int .i64 f, .int .i64 g, .int .i64 h]], [] => if (qOkB a b = true /\ qOkB c d = true) /\ qOkB e f = true /\ qOkB g h = true then cont (seS k (Rat.divInt a b) (Rat.divInt c d) (Rat.divInt e f) (Rat.divInt g h)) [] else none
  | _, _ => none
theorem gq133 {ρ : Type} (cont : SV -> HL -> Option ρ) (a b c d e f g h : Int) : runF mB Ash 20 Tryz.f133 (bodyOf Tryz.f133) ρ [sG a b c d e f g h] [] cont =
    if qOkB a b = true /\ qOkB c d = true then (if qOkB e f = true /\ qOkB g h = true then cont (seS 0 (Rat.divInt a b) (Rat.divInt c d) (Rat.divInt e f) (Rat.divInt g h)) [] else none) else none := by kernel_rfl
theorem orc_psg : OrcOK NN Tryz.prog 133 (ps8 0) :=
  OrcOK.of_tale (cR_ok (A := Ash) (fuel := 20) mB_ok rfl Tryz.func133 (by kernel_rfl)) fun ρ args H cont r h => by
    unfold ps8 at h
    split at h
    · split at h
      · rename_i hc
        refine (gq133 cont _ _ _ _ _ _ _ _).trans ?_
        rw [if_pos hc.1, if_pos hc.2]; exact h
      · contradiction
    · contradiction
end Go.Abs
namespace Go.Abs
open Go.Proofs
set_option maxRecDepth 100000
noncomputable def mC : Env := VL tryT [] [(136, vOkO), (131, segO), (133, ps8 0), (138, vO 0), (139, pt2 0 fun a b c d => one (.int .i64 (cmpP a b c d))), (224, ap4), (153, cR mB Ash 20 Tryz.f153), (142, vOkO), (125, segO), (128, vO 1), (230, pt2 1 fun a b c d => one (.int .i64 (cmpP a b c d)))]
theorem mC_ok : EnvOK NN Tryz.prog mC := VL_ok (TabOk.of tryT_ok) (gamC orc_vokI Tryz.call136 (gamC orc_segI Tryz.call131 (gamC orc_psg Tryz.call133 (gamC orc135 Tryz.call138 (gamC orc98 Tryz.call139 (gamC orc_ap Tryz.call224 (gamC (cR_ok mB_ok rfl Tryz.func153 (by kernel_rfl)) Tryz.call153
  (gamC orc162 Tryz.call142 (gamC orc_segS Tryz.call125 (gamC orc163 Tryz.call128 (gamC orc130 Tryz.call230 (gamN _ _))))))))))))
def s8 (q : Rat) : Bool := decide ((words q.num.natAbs).length < 8) && decide ((words q.den).length < 8)
theorem s8_ok {q : Rat} (h : s8 q = true) : szN 8 q := by simpa [s8, szN] using h
theorem szN.qq {B : Nat} {q : Rat} (h : szN B q) (hB : B <= 100000000) : szQ q = true := (h.mono hB).q
theorem szN.mm {B : Nat} {q : Rat} (h : szN B q) (hB : B <= 1000000) : szM q = true := (h.mono hB).m
theorem s8_q {a b : Int} (h : qOkB a b = true) : s8 (Rat.divInt a b) = true := by
  obtain ⟨h1, h2⟩ := (show (Rat.divInt a b).num.natAbs <= 1000000000000000000 /\ (Rat.divInt a b).den <= 1000000000000000000 by
    obtain ⟨h1, h2, h3, h4, h5⟩ := qOkB_iff.1 h
    have := divInt_le (n := a) (d := b) (by omega)
    exact ⟨by omega, by omega⟩)
  have w1 := words_small (n := (Rat.divInt a b).num.natAbs) (by omega)
  have w2 := words_small (n := (Rat.divInt a b).den) (by omega)
  unfold s8
  rw [decide_eq_true (by omega), decide_eq_true (by omega)]; rfl
def hasO : Orc := fun ρ args H cont => match args, H with
  | [.v true [.num 0 (some a), .num 0 (some b), .num 0 (some c), .num 0 (some d)], .v true [.num 0 (some x), .num 0 (some y)]], [] => if (s8 a = true /\ s8 b = true) /\ (s8 c = true /\ s8 d = true) /\ s8 x = true /\ s8 y = true then cont (one (.bool (decide (onP ⟨x, y⟩ ⟨a, b⟩ ⟨c, d⟩)))) [] else none
  | _, _ => none
theorem gq137 {ρ : Type} (cont : SV -> HL -> Option ρ) (a b c d x y : Rat) : runF mC Ash 20 Tryz.f137 (bodyOf Tryz.f137) ρ [seS 0 a b c d, pS 0 x y] [] cont =
    if szQ a = true /\ szQ c = true /\ szQ x = true /\ szQ x = true then (bif !decide (apP a c x x) then (if szQ b = true /\ szQ d = true /\ szQ y = true /\ szQ y = true then (bif bif true then !decide (apP b d y y) else false then
      (if (0 = 0 /\ 0 = 0 /\ 0 = 0 /\ 0 = 0) /\ szM c = true /\ szM d = true /\ szM a = true /\ szM b = true then (if (0 = 0 /\ 0 = 0 /\ 0 = 0 /\ 0 = 0) /\ szM x = true /\ szM y = true /\ szM a = true /\ szM b = true then
        (if (szQ (c - a) && szQ (y - b)) = true then (if (szQ (d - b) && szQ (x - a)) = true then (if (szQ ((c - a) * (y - b)) && szQ ((d - b) * (x - a))) = true then (if szQ ((c - a) * (y - b) - (d - b) * (x - a)) = true then
          cont (one (.bool (bif true then ((c - a) * (y - b) - (d - b) * (x - a)).num.sign == 0 else false))) [] else none) else none) else none) else none) else none) else none)
      else cont (one (.bool false)) []) else none) else cont (one (.bool false)) []) else none := by kernel_rfl
theorem ap_btw {a c x : Rat} : ¬ apP a c x x ↔ btw x a c := by unfold apP btw; grind
theorem orc_has : OrcOK NN Tryz.prog 137 hasO :=
  OrcOK.of_tale (cR_ok (A := Ash) (fuel := 20) mC_ok rfl Tryz.func137 (by kernel_rfl)) fun ρ args H cont r h => by
    unfold hasO at h
    split at h
    · rename_i a b c d x y
      split at h
      · rename_i hc
        obtain ⟨⟨ha, hb⟩, ⟨hc, hd⟩, hx, hy⟩ := hc
        have ha := s8_ok ha
        have hb := s8_ok hb
        have hc := s8_ok hc
        have hd := s8_ok hd
        have hx := s8_ok hx
        have hy := s8_ok hy
        refine (gq137 cont a b c d x y).trans ?_
        rw [if_pos ⟨ha.qq (by omega), hc.qq (by omega), hx.qq (by omega), hx.qq (by omega)⟩]
        by_cases h1 : btw x a c
        · have e1 : (!decide (apP a c x x)) = true := by rw [decide_eq_false (ap_btw.2 h1)]; rfl
          rw [e1, cond_true, if_pos ⟨hb.qq (by omega), hd.qq (by omega), hy.qq (by omega), hy.qq (by omega)⟩]
          by_cases h2 : btw y b d
          · have e2 : (!decide (apP b d y y)) = true := by rw [decide_eq_false (ap_btw.2 h2)]; rfl
            have q1 := hc.sub ha
            have q2 := hy.sub hb
            have q3 := hd.sub hb
            have q4 := hx.sub ha
            have m1 := q1.mul q2
            have m2 := q3.mul q4
            rw [e2, cond_true, cond_true, if_pos ⟨⟨rfl, rfl, rfl, rfl⟩, hc.mm (by omega), hd.mm (by omega), ha.mm (by omega), hb.mm (by omega)⟩, if_pos ⟨⟨rfl, rfl, rfl, rfl⟩, hx.mm (by omega), hy.mm (by omega), ha.mm (by omega), hb.mm (by omega)⟩,
              if_pos (both (q1.qq (by omega)) (q2.qq (by omega))), if_pos (both (q3.qq (by omega)) (q4.qq (by omega))), if_pos (both (m1.qq (by omega)) (m2.qq (by omega))), if_pos ((m1.sub m2).qq (by omega)), cond_true, beq_dec0]
            have : onP ⟨x, y⟩ ⟨a, b⟩ ⟨c, d⟩ ↔ (((c - a) * (y - b) - (d - b) * (x - a)).num.sign = 0) := by
              rw [sgnQ_eq]
              exact ⟨fun h => h.2.2, fun h => ⟨h1, h2, h⟩⟩
            rw [decide_eq_decide.2 this] at h
            exact h
          · have e2 : (!decide (apP b d y y)) = false := by rw [decide_eq_true (Decidable.not_not.1 fun e => h2 (ap_btw.1 e))]; rfl
            rw [e2, cond_true, cond_false]
            rw [decide_eq_false (fun e : onP ⟨x, y⟩ ⟨a, b⟩ ⟨c, d⟩ => h2 e.2.1)] at h
            exact h
        · have e1 : (!decide (apP a c x x)) = false := by rw [decide_eq_true (Decidable.not_not.1 fun e => h1 (ap_btw.1 e))]; rfl
          rw [e1, cond_false]
          rw [decide_eq_false (fun e : onP ⟨x, y⟩ ⟨a, b⟩ ⟨c, d⟩ => h1 e.1)] at h
          exact h
      · contradiction
    · contradiction
noncomputable def mD : Env := VL tryT [] [(136, vOkO), (131, segO), (133, ps8 0), (138, vO 0), (137, hasO)]
theorem mD_ok : EnvOK NN Tryz.prog mD := VL_ok (TabOk.of tryT_ok) (gamC orc_vokI Tryz.call136 (gamC orc_segI Tryz.call131 (gamC orc_psg Tryz.call133 (gamC orc135 Tryz.call138 (gamC orc_has Tryz.call137 (gamN _ _))))))
def plV (a b c d : Int) : Pl := ⟨Rat.divInt a b, Rat.divInt c d⟩
def onB (p q r s a b c d e f g h : Int) : Bool := bif vOkB p q r s then bif segB a b c d e f g h then decide (onP (plV p q r s) (plV a b c d) (plV e f g h)) else false else false
def onO : Orc := fun ρ args H cont => match args, H with
  | [.v true [.int .i64 p, .int .i64 q, .int .i64 r, .int .i64 s], .v true [.int .i64 a, .int .i64 b, .int .i64 c, .int .i64 d, .int .i64 e, .int .i64 f, .int .i64 g, .int .i64 h]], [] => cont (one (.bool (onB p q r s a b c d e f g h))) []
  | _, _ => none
theorem vOk_q {a b c d : Int} (h : vOkB a b c d = true) : qOkB a b = true /\ qOkB c d = true := by
  unfold vOkB at h
  cases h1 : qOkB a b
  · rw [h1] at h; contradiction
  · rw [h1] at h; exact ⟨rfl, h⟩
theorem seg_q {a b c d e f g h : Int} (hs : segB a b c d e f g h = true) : ((qOkB a b = true /\ qOkB c d = true) /\ qOkB e f = true /\ qOkB g h = true) /\ ¬ (a = e /\ b = f /\ c = g /\ d = h) := by
  unfold segB at hs
  cases h1 : vOkB a b c d
  · rw [h1] at hs; contradiction
  · cases h2 : vOkB e f g h
    · rw [h1, h2] at hs; contradiction
    · rw [h1, h2] at hs
      refine ⟨⟨vOk_q h1, vOk_q h2⟩, ?_⟩
      rintro ⟨rfl, rfl, rfl, rfl⟩
      simp at hs
theorem plV_inj {a b c d e f g h : Int} (h1 : (qOkB a b = true /\ qOkB c d = true) /\ qOkB e f = true /\ qOkB g h = true) (he : plV a b c d = plV e f g h) : a = e /\ b = f /\ c = g /\ d = h := by
  obtain ⟨⟨k1, k2⟩, k3, k4⟩ := h1
  have ex : Rat.divInt a b = Rat.divInt e f := congrArg Pl.x he
  have ey : Rat.divInt c d = Rat.divInt g h := congrArg Pl.y he
  obtain ⟨a1, a2⟩ := q_rt k1
  obtain ⟨b1, b2⟩ := q_rt k2
  obtain ⟨c1, c2⟩ := q_rt k3
  obtain ⟨d1, d2⟩ := q_rt k4
  rw [ex] at a1 a2
  rw [ey] at b1 b2
  omega
theorem gq46 {ρ : Type} (cont : SV -> HL -> Option ρ) (p q r s a b c d e f g h : Int) : runF mD Ash 20 Tryz.f46 (bodyOf Tryz.f46) ρ [sV p q r s, sG a b c d e f g h] [] cont =
    bif vOkB p q r s then (bif bif true then segB a b c d e f g h else false then (if (qOkB a b = true /\ qOkB c d = true) /\ qOkB e f = true /\ qOkB g h = true then (if qOkB p q = true /\ qOkB r s = true then
      (if (s8 (Rat.divInt a b) = true /\ s8 (Rat.divInt c d) = true) /\ (s8 (Rat.divInt e f) = true /\ s8 (Rat.divInt g h) = true) /\ s8 (Rat.divInt p q) = true /\ s8 (Rat.divInt r s) = true then
        cont (one (.bool (bif true then decide (onP (plV p q r s) (plV a b c d) (plV e f g h)) else false))) [] else none) else none) else none) else cont (one (.bool false)) []) else cont (one (.bool false)) [] := by kernel_rfl
theorem orc_on : OrcOK NN Tryz.prog 46 onO :=
  OrcOK.of_tale (cR_ok (A := Ash) (fuel := 20) mD_ok rfl Tryz.func46 (by kernel_rfl)) fun ρ args H cont r hr => by
    unfold onO at hr
    split at hr
    · rename_i p q r s a b c d e f g h
      refine (gq46 cont p q r s a b c d e f g h).trans ?_
      unfold onB at hr
      cases h1 : vOkB p q r s
      · rw [h1] at hr; exact hr
      · cases h2 : segB a b c d e f g h
        · rw [h1, h2] at hr; exact hr
        · rw [h1, h2] at hr
          obtain ⟨k, _⟩ := seg_q h2
          obtain ⟨v1, v2⟩ := vOk_q h1
          rw [cond_true, cond_true, cond_true, if_pos k, if_pos ⟨v1, v2⟩, if_pos ⟨⟨s8_q k.1.1, s8_q k.1.2⟩, ⟨s8_q k.2.1, s8_q k.2.2⟩, s8_q v1, s8_q v2⟩]
          exact hr
    · contradiction
def cmvV (a b c d e f g h : Int) : Int := bif vOkB a b c d then bif vOkB e f g h then cmpP (Rat.divInt a b) (Rat.divInt c d) (Rat.divInt e f) (Rat.divInt g h) else 2 else 2
end Go.Abs
namespace Go.Abs
open Go.Proofs
set_option maxRecDepth 100000
abbrev m4 (p q : Pl) : Prop := (0 = 0 /\ 0 = 0 /\ 0 = 0 /\ 0 = 0) /\ szM p.x = true /\ szM p.y = true /\ szM q.x = true /\ szM q.y = true
section
variable {ρ : Type} (cont : SV -> HL -> Option ρ)
def crC (a b : Pl) (K : Rat -> Option ρ) : Option ρ := if (szQ a.x && szQ b.y) = true then (if (szQ a.y && szQ b.x) = true then (if (szQ (a.x * b.y) && szQ (a.y * b.x)) = true then K (crP a b) else none) else none) else none
end
end Go.Abs

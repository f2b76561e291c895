/-
  A PART OF THE PROOF of TdI (texts DrwA DrwB FrA BigG BigH RootA RootB RootC RootD RootE FrL RatO MeetP MeetA MeetB TldA TldB TldC TldD TldE TldF): the claim itself stands in the last text. No conditions beside those of the given row.
-/
import Derived.Test.YtjefeldkonejcaaGreatDoorLivE
import Derived.Test.YtjefeldkonejcaaGreatDoorRowA
import Derived.Test.YtjefeldkonejcaaGreatDoorSpcK
import Derived.Test.YtjefeldkonejcaaGreatDoorBigF
import Derived.Shelf.Strconv.Itoa4
import Derived.Lib.AppendIntMem
import Derived.Shelf.Strings.IndexAnyAll
import Derived.Test.YtjefeldkonejcaaGreatDoorGeoA
import Derived.Test.YtjefeldkonejcaaGreatDoorRatC
set_option linter.unusedVariables false
set_option linter.unnecessarySimpa false
set_option linter.unusedSimpArgs false
namespace Go.Abs
open Go.Proofs
set_option maxRecDepth 100000
def rdH (xs : List Int) (p : Int) : HL := [.var [.sl none (.int .u8) xs, .int .i64 p]]
def rdOkB (xs : List Int) (p : Int) : Bool := bytesB xs && decide (xs.length <= 1048576) && decide (0 <= p) && decide (p <= xs.length)
theorem rdOk_iff {xs : List Int} {p : Int} : rdOkB xs p = true ↔ (bytesB xs = true /\ xs.length <= 1048576 /\ 0 <= p /\ p <= xs.length) := by
  unfold rdOkB
  simp only [Bool.and_eq_true, decide_eq_true_eq]
  constructor
  · rintro ⟨⟨⟨h1, h2⟩, h3⟩, h4⟩; exact ⟨h1, h2, h3, h4⟩
  · rintro ⟨h1, h2, h3, h4⟩; exact ⟨⟨⟨h1, h2⟩, h3⟩, h4⟩
def rO {α : Type} (sh : α -> SV) (f : List Int -> Int -> α × Int) : Orc := fun ρ args H cont => match args, H with
  | [.v false [.ptr 0 0]], [.var [.sl none (.int .u8) xs, .int .i64 p]] => if rdOkB xs p = true then cont (sh (f xs p).1) [.var [.sl none (.int .u8) xs, .int .i64 (f xs p).2]] else none
  | _, _ => none
theorem rO_ok {α : Type} [Inhabited α] {n : Nat} {F : Orc} (hF : OrcOK NN Tryz.prog n F) (sh : α -> SV) (R : α -> Prop)
    (h : ∀ xs p, rdOkB xs p = true -> ∃ a p', R a /\ rdOkB xs p' = true /\ ∀ ρ (cont : SV -> HL -> Option ρ), F ρ [one (.ptr 0 0)] (rdH xs p) cont = cont (sh a) (rdH xs p')) :
    ∃ f : List Int -> Int -> α × Int, OrcOK NN Tryz.prog n (rO sh f) /\ ∀ xs p, rdOkB xs p = true -> R (f xs p).1 /\ rdOkB xs (f xs p).2 = true := by
  classical
  have h' : ∀ xs p, ∃ r : α × Int, rdOkB xs p = true -> R r.1 /\ rdOkB xs r.2 = true /\ ∀ ρ (cont : SV -> HL -> Option ρ), F ρ [one (.ptr 0 0)] (rdH xs p) cont = cont (sh r.1) (rdH xs r.2) := fun xs p => by
    by_cases hc : rdOkB xs p = true
    · obtain ⟨a, p', h1, h2, h3⟩ := h xs p hc
      exact ⟨(a, p'), fun _ => ⟨h1, h2, h3⟩⟩
    · exact ⟨default, fun h => absurd h hc⟩
  refine ⟨fun xs p => (h' xs p).choose, OrcOK.of_tale hF fun ρ args H cont r hr => ?_, fun xs p hc => ⟨((h' xs p).choose_spec hc).1, ((h' xs p).choose_spec hc).2.1⟩⟩
  unfold rO at hr
  split at hr
  · rename_i xs p
    split at hr
    · rename_i hc
      exact (((h' xs p).choose_spec hc).2.2 ρ cont).trans hr
    · contradiction
  · contradiction
noncomputable def rE : Env := VL tryT [] []
theorem rE_ok : EnvOK NN Tryz.prog rE := VL_ok (TabOk.of tryT_ok) (gamN _ _)
theorem drw174 {ρ : Type} (cont : SV -> HL -> Option ρ) (xs : List Int) (p : Int) : runF rE Ash 5 Tryz.f129 (bodyOf Tryz.f129) ρ [one (.ptr 0 0)] (rdH xs p) cont =
    bif decide (xs.length <= p) then cont (one (.int .i64 0)) (rdH xs p) else
    if 0 <= IntKind.i64.wrap (IntKind.i64.wrap (p + 1) - 1) then xs[(IntKind.i64.wrap (IntKind.i64.wrap (p + 1) - 1)).toNat]?.bind fun x => cont (one (.int .i64 (IntKind.i64.wrap x))) (rdH xs (IntKind.i64.wrap (p + 1))) else none := by kernel_rfl
def shI (x : Int) : SV := one (.int .i64 x)
theorem next_ok : ∃ f : List Int -> Int -> Int × Int, OrcOK NN Tryz.prog 129 (rO shI f) /\ ∀ xs p, rdOkB xs p = true -> (0 <= (f xs p).1 /\ (f xs p).1 < 256) /\ rdOkB xs (f xs p).2 = true :=
  rO_ok (cR_ok (A := Ash) (fuel := 5) rE_ok rfl Tryz.func129 (by kernel_rfl)) shI (fun x => 0 <= x /\ x < 256) fun xs p h => by
    obtain ⟨h1, h2, h3, h4⟩ := rdOk_iff.1 h
    by_cases hc : xs.length <= p
    · exact ⟨0, p, by decide, h, fun ρ cont => (drw174 cont xs p).trans (by rw [decide_eq_true hc, cond_true]; rfl)⟩
    · have hl : p.toNat < xs.length := by omega
      have hx := List.all_eq_true.1 h1 (xs[p.toNat]) (List.getElem_mem hl)
      simp only [Bool.and_eq_true, decide_eq_true_eq] at hx
      refine ⟨xs[p.toNat], p + 1, hx, rdOk_iff.2 ⟨h1, h2, by omega, by omega⟩, fun ρ cont => (drw174 cont xs p).trans ?_⟩
      rw [decide_eq_false hc, cond_false, i64_in (p + 1) (by omega) (by omega), i64_in (p + 1 - 1) (by omega) (by omega), if_pos (by omega), show p + 1 - 1 = p from by omega, List.getElem?_eq_getElem hl]
      show cont (one (.int .i64 (IntKind.i64.wrap xs[p.toNat]))) _ = _
      rw [i64_in _ (by omega) (by omega)]; rfl
noncomputable def nextF := next_ok.choose
theorem orc_next : OrcOK NN Tryz.prog 129 (rO shI nextF) := next_ok.choose_spec.1
theorem nextR {xs : List Int} {p : Int} (h : rdOkB xs p = true) : 0 <= (nextF xs p).1 /\ (nextF xs p).1 < 256 := (next_ok.choose_spec.2 xs p h).1
theorem nextP {xs : List Int} {p : Int} (h : rdOkB xs p = true) : rdOkB xs (nextF xs p).2 = true := (next_ok.choose_spec.2 xs p h).2
noncomputable def rE1 : Env := VL tryT [] [(129, rO shI nextF)]
theorem rE1_ok : EnvOK NN Tryz.prog rE1 := VL_ok (TabOk.of tryT_ok) (gamC orc_next Tryz.call129 (gamN _ _))
noncomputable def w8 (xs : List Int) : Nat -> Int -> Int -> Int × Int
  | 0, a, p => (a, p)
  | k + 1, a, p => w8 xs k (bits BinOp.or IntKind.u64 (IntKind.u64.wrap (a * 2 ^ min (Int.toNat 8) IntKind.u64.bits)) (IntKind.u64.wrap (nextF xs p).1)) (nextF xs p).2
def shW (x : Int) : SV := one (.int .u64 x)
noncomputable def w8if {ρ : Type} (cont : SV -> HL -> Option ρ) (xs : List Int) : Nat -> Int -> Int -> Option ρ
  | 0, a, p => cont (shW a) (rdH xs p)
  | k + 1, a, p => if rdOkB xs p = true then w8if cont xs k (bits BinOp.or IntKind.u64 (IntKind.u64.wrap (a * 2 ^ min (Int.toNat 8) IntKind.u64.bits)) (IntKind.u64.wrap (nextF xs p).1)) (nextF xs p).2 else none
theorem drw172 {ρ : Type} (cont : SV -> HL -> Option ρ) (xs : List Int) (p : Int) : runF rE1 Ash 20 Tryz.f66 (bodyOf Tryz.f66) ρ [one (.ptr 0 0)] (rdH xs p) cont = w8if cont xs 8 0 p := by kernel_rfl
theorem w8if_eq {xs : List Int} (k : Nat) : ∀ (a p : Int), rdOkB xs p = true -> rdOkB xs (w8 xs k a p).2 = true /\ ∀ {ρ : Type} (cont : SV -> HL -> Option ρ), w8if cont xs k a p = cont (shW (w8 xs k a p).1) (rdH xs (w8 xs k a p).2) := by
  induction k with
  | zero => exact fun a p h => ⟨h, fun cont => rfl⟩
  | succ k ih =>
    intro a p h
    have := ih (bits BinOp.or IntKind.u64 (IntKind.u64.wrap (a * 2 ^ min (Int.toNat 8) IntKind.u64.bits)) (IntKind.u64.wrap (nextF xs p).1)) (nextF xs p).2 (nextP h)
    refine ⟨this.1, fun cont => ?_⟩
    show (if rdOkB xs p = true then _ else none) = _
    rw [if_pos h]
    exact this.2 cont
theorem word_ok : ∃ f : List Int -> Int -> Int × Int, OrcOK NN Tryz.prog 66 (rO shW f) /\ ∀ xs p, rdOkB xs p = true -> True /\ rdOkB xs (f xs p).2 = true :=
  rO_ok (cR_ok (A := Ash) (fuel := 20) rE1_ok rfl Tryz.func66 (by kernel_rfl)) shW (fun x => True) fun xs p h =>
    ⟨_, _, trivial, (w8if_eq 8 0 p h).1, fun ρ cont => (drw172 cont xs p).trans ((w8if_eq 8 0 p h).2 cont)⟩
noncomputable def wordF := word_ok.choose
theorem orc_word : OrcOK NN Tryz.prog 66 (rO shW wordF) := word_ok.choose_spec.1
theorem wordP {xs : List Int} {p : Int} (h : rdOkB xs p = true) : rdOkB xs (wordF xs p).2 = true := (word_ok.choose_spec.2 xs p h).2
def nO {α : Type} (sh : α -> SV) (f : List Int -> Int -> Int -> α × Int) : Orc := fun ρ args H cont => match args, H with
  | [.v false [.ptr 0 0], .v false [.int .i64 n]], [.var [.sl none (.int .u8) xs, .int .i64 p]] => bif decide (n <= 1) then none else bif decide (n <= 256) then (if rdOkB xs p = true then cont (sh (f xs p n).1) [.var [.sl none (.int .u8) xs, .int .i64 (f xs p n).2]] else none) else none
  | _, _ => none
noncomputable def belowF (xs : List Int) (p n : Int) : Int × Int := ((nextF xs p).1.tmod n, (nextF xs p).2)
theorem drw77 {ρ : Type} (cont : SV -> HL -> Option ρ) (xs : List Int) (p n : Int) : runF rE1 Ash 5 Tryz.f63 (bodyOf Tryz.f63) ρ [one (.ptr 0 0), one (.int .i64 n)] (rdH xs p) cont =
   bif decide (n <= 1) then cont (one (.int .i64 0)) (rdH xs p) else bif decide (n <= 256) then (if rdOkB xs p = true then (if n = 0 then none else cont (shI (belowF xs p n).1) (rdH xs (belowF xs p n).2)) else none) else
   (if rdOkB xs p = true then (if rdOkB xs (nextF xs p).2 = true then (if n = 0 then none else cont (shI ((IntKind.i64.wrap (IntKind.i64.wrap ((nextF xs p).1 * 256) + (nextF xs (nextF xs p).2).1)).tmod n)) (rdH xs (nextF xs (nextF xs p).2).2)) else none) else none) := by kernel_rfl
theorem orc_below : OrcOK NN Tryz.prog 63 (nO shI belowF) :=
  OrcOK.of_tale (cR_ok (A := Ash) (fuel := 5) rE1_ok rfl Tryz.func63 (by kernel_rfl)) fun ρ args H cont r h => by
    unfold nO at h
    split at h
    · rename_i n xs p
      refine (drw77 cont xs p n).trans ?_
      by_cases h1 : n <= 1
      · rw [decide_eq_true h1, cond_true] at h; contradiction
      · rw [decide_eq_false h1, cond_false] at h ⊢
        by_cases h2 : n <= 256
        · rw [decide_eq_true h2, cond_true] at h ⊢
          split at h
          · rename_i hc
            rw [if_pos hc, if_neg (by omega)]; exact h
          · contradiction
        · rw [decide_eq_false h2, cond_false] at h; contradiction
    · contradiction
theorem belowR {xs : List Int} {p : Int} (h : rdOkB xs p = true) {n : Int} (hn : 1 < n) : 0 <= (belowF xs p n).1 /\ (belowF xs p n).1 < n := by
  have := nextR h
  exact ⟨Int.tmod_nonneg _ this.1, Int.tmod_lt_of_pos _ (by omega)⟩
theorem belowP {xs : List Int} {p n : Int} (h : rdOkB xs p = true) : rdOkB xs (belowF xs p n).2 = true := nextP h
noncomputable def rE2 : Env := VL tryT [] [(63, nO shI belowF)]
theorem rE2_ok : EnvOK NN Tryz.prog rE2 := VL_ok (TabOk.of tryT_ok) (gamC orc_below Tryz.call63 (gamN _ _))
def shB (b : Bool) : SV := one (.bool b)
noncomputable def onceF (xs : List Int) (p n : Int) : Bool × Int := ((belowF xs p n).1 == IntKind.i64.wrap (n - 1), (belowF xs p n).2)
theorem drw78 {ρ : Type} (cont : SV -> HL -> Option ρ) (xs : List Int) (p n : Int) : runF rE2 Ash 5 Tryz.f43 (bodyOf Tryz.f43) ρ [one (.ptr 0 0), one (.int .i64 n)] (rdH xs p) cont =
   bif decide (n <= 1) then none else bif decide (n <= 256) then (if rdOkB xs p = true then cont (shB (onceF xs p n).1) (rdH xs (onceF xs p n).2) else none) else none := by kernel_rfl
theorem orc_once : OrcOK NN Tryz.prog 43 (nO shB onceF) :=
  OrcOK.of_tale (cR_ok (A := Ash) (fuel := 5) rE2_ok rfl Tryz.func43 (by kernel_rfl)) fun ρ args H cont r h => by
    unfold nO at h
    split at h
    · rename_i n xs p
      exact (drw78 cont xs p n).trans h
    · contradiction
theorem onceP {xs : List Int} {p n : Int} (h : rdOkB xs p = true) : rdOkB xs (onceF xs p n).2 = true := nextP h
end Go.Abs
namespace Go.Abs
open Go.Proofs
set_option maxRecDepth 100000
def rBigN : Orc := fun ρ args H cont => match args, H with
  | [.v true [.bool s, .sl none (.int .u32) xs], .v true [.bool t, .sl none (.int .u32) ys]], [] => if zOk (s, xs) /\ zOk (t, ys) /\ zV (t, ys) ≠ 0 then cont (nm 1 (Rat.divInt (zV (s, xs)) (zV (t, ys)))) [] else none
  | _, _ => none
theorem orc_rBigN : OrcOK NN Tryz.prog 130 rBigN :=
  OrcOK.cv (orc125 NN) fun args H cont r h => by
    unfold rBigN at h
    split at h
    · rename_i s xs t ys
      split at h
      · rename_i hq
        refine ⟨_, _, Cv.num (isL_ratL _), rfl, h, fun ρ' cont' => ?_⟩
        show (if zOk (s, xs) /\ zOk (t, ys) /\ zV (t, ys) ≠ 0 then ofC cont' (Rat.divInt (zV (s, xs)) (zV (t, ys))) else none) = _
        rw [if_pos hq, ofC_eq]
      · contradiction
    · contradiction
noncomputable def qE : Env := VL tryT [] [(131, zOfO), (130, rBigN), (121, lat1 szQ tupQ)]
theorem qE_ok : EnvOK NN Tryz.prog qE := VL_ok (TabOk.of tryT_ok) (gamC (orc132 NN) Tryz.call131 (gamC orc_rBigN Tryz.call130 (gamC orc30 Tryz.call121 (gamN _ _))))
theorem drw79 {ρ : Type} (cont : SV -> HL -> Option ρ) (a b : Int) : runF qE Ash 20 Tryz.f65 (bodyOf Tryz.f65) ρ [one (.int .i64 a), one (.int .i64 b)] [] cont =
    bif b == 0 then cont (tupB 0 0 false) [] else (if -9223372036854775808 <= a /\ a < 9223372036854775808 then (if -9223372036854775808 <= b /\ b < 9223372036854775808 then
      (if zOk (zD a) /\ zOk (zD b) /\ zV (zD b) ≠ 0 then (if szQ (Rat.divInt (zV (zD a)) (zV (zD b))) = true then cont (tupQ (Rat.divInt (zV (zD a)) (zV (zD b)))) [] else none) else none) else none) else none) := by kernel_rfl
def qofA (a b : Int) : Int := if b = 0 then 0 else qNum (Rat.divInt a b)
def qofB (a b : Int) : Int := if b = 0 then 0 else qDen (Rat.divInt a b)
def qofC (a b : Int) : Bool := if b = 0 then false else qFit (Rat.divInt a b)
def qofO : Orc := fun ρ args H cont => match args, H with
  | [.v false [.int .i64 a], .v false [.int .i64 b]], [] => if (-9223372036854775808 <= a /\ a < 9223372036854775808) /\ (-9223372036854775808 <= b /\ b < 9223372036854775808) then cont (tupB (qofA a b) (qofB a b) (qofC a b)) [] else none
  | _, _ => none
theorem divInt_le {n d : Int} (hd : d ≠ 0) : (Rat.divInt n d).num.natAbs <= n.natAbs /\ (Rat.divInt n d).den <= d.natAbs := by
  rcases Int.lt_trichotomy d 0 with h | h | h
  · have e : Rat.divInt n d = Rat.divInt (-n) (-d) := (Rat.neg_divInt_neg n d).symm
    rw [e]
    have := divInt_pos_le (n := -n) (d := -d) (by omega)
    omega
  · exact absurd h hd
  · exact divInt_pos_le h
theorem szQ_of {q : Rat} (h : q.num.natAbs < 18446744073709551616 /\ q.den < 18446744073709551616) : szQ q = true := by
  unfold szQ
  have h1 := words_small h.1
  have h2 := words_small h.2
  rw [decide_eq_true (by omega), decide_eq_true (by omega)]; rfl
theorem orc_qof : OrcOK NN Tryz.prog 65 qofO :=
  OrcOK.of_tale (cR_ok (A := Ash) (fuel := 20) qE_ok rfl Tryz.func65 (by kernel_rfl)) fun ρ args H cont r h => by
    unfold qofO at h
    split at h
    · rename_i a b
      refine (drw79 cont a b).trans ?_
      split at h
      · rename_i hq
        by_cases hb : b = 0
        · subst hb
          exact h
        · have h1 := words_small (n := a.natAbs) (by omega)
          have h2 := words_small (n := b.natAbs) (by omega)
          have h3 := divInt_le (n := a) hb
          rw [show (b == 0) = false from beq_eq_false_iff_ne.2 hb, cond_false, if_pos hq.1, if_pos hq.2, zV_zD, zV_zD, if_pos ⟨zOk_zD (by omega), zOk_zD (by omega), hb⟩, if_pos (szQ_of ⟨by omega, by omega⟩)]
          unfold qofA qofB qofC at h
          rw [if_neg hb, if_neg hb, if_neg hb] at h
          exact h
      · contradiction
    · contradiction
theorem i64_rng (x : Int) : -9223372036854775808 <= IntKind.i64.wrap x /\ IntKind.i64.wrap x < 9223372036854775808 := by rw [IntKind.wrap_i64]; omega
theorem u64_rng (x : Int) : ¬ IntKind.u64.wrap x < 0 := by rw [IntKind.wrap_u64]; omega
def oddL : List Int := [0, 1, -1, 4611686018427387904, -4611686018427387904, 9223372036854775807, -9223372036854775808, 4294967296, 1000000000000000000, -1000000000000000000, 1000000000000000001, 1000000000]
theorem oddL_rng : ∀ x ∈ oddL, -9223372036854775808 <= x /\ x < 9223372036854775808 := by unfold oddL; simp
noncomputable def rE3 : Env := VL tryT [] [(63, nO shI belowF), (129, rO shI nextF), (66, rO shW wordF)]
theorem rE3_ok : EnvOK NN Tryz.prog rE3 := VL_ok (TabOk.of tryT_ok) (gamC orc_below Tryz.call63 (gamC orc_next Tryz.call129 (gamC orc_word Tryz.call66 (gamN _ _))))
theorem drw171 {ρ : Type} (cont : SV -> HL -> Option ρ) (xs : List Int) (p : Int) : runF rE3 Ash 20 Tryz.f64 (bodyOf Tryz.f64) ρ [one (.ptr 0 0)] (rdH xs p) cont =
  if rdOkB xs p = true then bif (belowF xs p 6).fst == 0 then if rdOkB xs (belowF xs p 6).snd = true then cont (SV.v false [Atom.int IntKind.i64 (IntKind.i64.wrap ((nextF xs (belowF xs p 6).snd).fst - 128))]) [Blk.var [Atom.sl none (Ty.int IntKind.u8) xs, Atom.int IntKind.i64 (nextF xs (belowF xs p 6).snd).snd]] else none else bif (belowF xs p 6).fst == 1 then if rdOkB xs (belowF xs p 6).snd = true
  then if 0 <= (belowF xs (belowF xs p 6).snd 12).fst /\ (belowF xs (belowF xs p 6).snd 12).fst < (oddL.length : Int) then oddL[0 + (belowF xs (belowF xs p 6).snd 12).fst.toNat]?.bind fun x => cont (SV.v false [Atom.int IntKind.i64 x]) [Blk.var [Atom.sl none (Ty.int IntKind.u8) xs, Atom.int IntKind.i64 (belowF xs (belowF xs p 6).snd 12).snd]] else none else none else bif (belowF xs p 6).fst == 2 then
  if rdOkB xs (belowF xs p 6).snd = true then cont (SV.v false [Atom.int IntKind.i64 (IntKind.i64.wrap (wordF xs (belowF xs p 6).snd).fst)]) [Blk.var [Atom.sl none (Ty.int IntKind.u8) xs, Atom.int IntKind.i64 (wordF xs (belowF xs p 6).snd).snd]] else none else bif (belowF xs p 6).fst == 3 then if rdOkB xs (belowF xs p 6).snd = true then if rdOkB xs (wordF xs (belowF xs p 6).snd).snd = true then if
  IntKind.u64.wrap (IntKind.i64.wrap (5 + (belowF xs (wordF xs (belowF xs p 6).snd).snd 55).fst)) < 0 then none else cont (SV.v false [Atom.int IntKind.i64 (IntKind.i64.wrap ((wordF xs (belowF xs p 6).snd).fst.fdiv (2 ^ min (IntKind.u64.wrap (IntKind.i64.wrap (5 + (belowF xs (wordF xs (belowF xs p 6).snd).snd 55).fst))).toNat IntKind.u64.bits)))]) [Blk.var [Atom.sl none (Ty.int IntKind.u8) xs,
  Atom.int IntKind.i64 (belowF xs (wordF xs (belowF xs p 6).snd).snd 55).snd]] else none else none else if rdOkB xs (belowF xs p 6).snd = true then cont (SV.v false [Atom.int IntKind.i64 ((nextF xs (belowF xs p 6).snd).fst.tmod 20)]) [Blk.var [Atom.sl none (Ty.int IntKind.u8) xs, Atom.int IntKind.i64 (nextF xs (belowF xs p 6).snd).snd]] else none else none := by kernel_rfl
theorem int_ok : ∃ f : List Int -> Int -> Int × Int, OrcOK NN Tryz.prog 64 (rO shI f) /\ ∀ xs p, rdOkB xs p = true -> (-9223372036854775808 <= (f xs p).1 /\ (f xs p).1 < 9223372036854775808) /\ rdOkB xs (f xs p).2 = true :=
  rO_ok (cR_ok (A := Ash) (fuel := 20) rE3_ok rfl Tryz.func64 (by kernel_rfl)) shI (fun x => -9223372036854775808 <= x /\ x < 9223372036854775808) fun xs p h => by
    have hb := belowP (n := 6) h
    cases h0 : (belowF xs p 6).fst == 0
    · cases h1 : (belowF xs p 6).fst == 1
      · cases h2 : (belowF xs p 6).fst == 2
        · cases h3 : (belowF xs p 6).fst == 3
          · have hn := nextR hb
            exact ⟨(nextF xs (belowF xs p 6).snd).fst.tmod 20, (nextF xs (belowF xs p 6).snd).snd, by have h1 := Int.tmod_nonneg 20 hn.1; have h2 := Int.tmod_lt_of_pos (nextF xs (belowF xs p 6).snd).fst (show (0 : Int) < 20 by decide); omega, nextP hb, fun ρ cont => (drw171 cont xs p).trans (by
              rw [if_pos h, h0, h1, h2, h3, cond_false, cond_false, cond_false, cond_false, if_pos hb]; rfl)⟩
          · have hw := wordP hb
            exact ⟨_, (belowF xs (wordF xs (belowF xs p 6).snd).snd 55).snd, i64_rng _, belowP hw, fun ρ cont => (drw171 cont xs p).trans (by
              rw [if_pos h, h0, h1, h2, h3, cond_false, cond_false, cond_false, cond_true, if_pos hb, if_pos hw, if_neg (u64_rng _)]; rfl)⟩
        · exact ⟨_, (wordF xs (belowF xs p 6).snd).snd, i64_rng _, wordP hb, fun ρ cont => (drw171 cont xs p).trans (by
            rw [if_pos h, h0, h1, h2, cond_false, cond_false, cond_true, if_pos hb]; rfl)⟩
      · have hn := belowR (n := 12) hb (by decide)
        have hl : 0 + (belowF xs (belowF xs p 6).snd 12).fst.toNat < oddL.length := by
          show _ < 12
          omega
        have hn12 : (belowF xs (belowF xs p 6).snd 12).fst < (oddL.length : Int) := by
          show _ < ((12 : Nat) : Int)
          omega
        exact ⟨oddL[0 + (belowF xs (belowF xs p 6).snd 12).fst.toNat], (belowF xs (belowF xs p 6).snd 12).snd, oddL_rng _ (List.getElem_mem hl), belowP hb, fun ρ cont => (drw171 cont xs p).trans (by
          rw [if_pos h, h0, h1, cond_false, cond_true, if_pos hb, if_pos ⟨hn.1, hn12⟩, List.getElem?_eq_getElem hl]; rfl)⟩
    · exact ⟨_, (nextF xs (belowF xs p 6).snd).snd, i64_rng _, nextP hb, fun ρ cont => (drw171 cont xs p).trans (by
        rw [if_pos h, h0, cond_true, if_pos hb]; rfl)⟩
noncomputable def intF := int_ok.choose
theorem orc_int : OrcOK NN Tryz.prog 64 (rO shI intF) := int_ok.choose_spec.1
theorem intR {xs : List Int} {p : Int} (h : rdOkB xs p = true) : -9223372036854775808 <= (intF xs p).1 /\ (intF xs p).1 < 9223372036854775808 := (int_ok.choose_spec.2 xs p h).1
theorem intP {xs : List Int} {p : Int} (h : rdOkB xs p = true) : rdOkB xs (intF xs p).2 = true := (int_ok.choose_spec.2 xs p h).2
def shQ (q : Int × Int) : SV := sQ q.1 q.2
noncomputable def rE4 : Env := VL tryT [] [(63, nO shI belowF), (43, nO shB onceF), (65, qofO)]
theorem rE4_ok : EnvOK NN Tryz.prog rE4 := VL_ok (TabOk.of tryT_ok) (gamC orc_below Tryz.call63 (gamC orc_once Tryz.call43 (gamC orc_qof Tryz.call65 (gamN _ _))))
theorem drw173 {ρ : Type} (cont : SV -> HL -> Option ρ) (xs : List Int) (p : Int) : runF rE4 Ash 20 Tryz.f67 (bodyOf Tryz.f67) ρ [one (.ptr 0 0)] (rdH xs p) cont =
  if rdOkB xs p = true then bif (onceF xs p 4).fst then if rdOkB xs (onceF xs p 4).snd = true then if rdOkB xs (belowF xs (onceF xs p 4).snd 6).snd = true then if (-9223372036854775808 <= IntKind.i64.wrap ((belowF xs (belowF xs (onceF xs p 4).snd 6).snd 25).fst - 8) /\ IntKind.i64.wrap ((belowF xs (belowF xs (onceF xs p 4).snd 6).snd 25).fst - 8) < 9223372036854775808) /\ -9223372036854775808 <=
  IntKind.i64.wrap (1 + (belowF xs (onceF xs p 4).snd 6).fst) /\ IntKind.i64.wrap (1 + (belowF xs (onceF xs p 4).snd 6).fst) < 9223372036854775808 then cont (SV.v true [Atom.int IntKind.i64 (qofA (IntKind.i64.wrap ((belowF xs (belowF xs (onceF xs p 4).snd 6).snd 25).fst - 8)) (IntKind.i64.wrap (1 + (belowF xs (onceF xs p 4).snd 6).fst))), Atom.int IntKind.i64 (qofB (IntKind.i64.wrap ((belowF xs
  (belowF xs (onceF xs p 4).snd 6).snd 25).fst - 8)) (IntKind.i64.wrap (1 + (belowF xs (onceF xs p 4).snd 6).fst)))]) [Blk.var [Atom.sl none (Ty.int IntKind.u8) xs, Atom.int IntKind.i64 (belowF xs (belowF xs (onceF xs p 4).snd 6).snd 25).snd]] else none else none else none else if rdOkB xs (onceF xs p 4).snd = true then if (-9223372036854775808 <= IntKind.i64.wrap ((belowF xs (onceF xs p 4).snd
  25).fst - 8) /\ IntKind.i64.wrap ((belowF xs (onceF xs p 4).snd 25).fst - 8) < 9223372036854775808) /\ (-9223372036854775808 : Int) <= 1 /\ (1 : Int) < 9223372036854775808 then cont (SV.v true [Atom.int IntKind.i64 (qofA (IntKind.i64.wrap ((belowF xs (onceF xs p 4).snd 25).fst - 8)) 1), Atom.int IntKind.i64 (qofB (IntKind.i64.wrap ((belowF xs (onceF xs p 4).snd 25).fst - 8)) 1)]) [Blk.var [Atom.sl
  none (Ty.int IntKind.u8) xs, Atom.int IntKind.i64 (belowF xs (onceF xs p 4).snd 25).snd]] else none else none else none := by kernel_rfl
theorem one_rng : (-9223372036854775808 : Int) <= 1 /\ (1 : Int) < 9223372036854775808 := by decide
theorem drawQ_ok : ∃ f : List Int -> Int -> (Int × Int) × Int, OrcOK NN Tryz.prog 67 (rO shQ f) /\ ∀ xs p, rdOkB xs p = true -> True /\ rdOkB xs (f xs p).2 = true :=
  rO_ok (cR_ok (A := Ash) (fuel := 20) rE4_ok rfl Tryz.func67 (by kernel_rfl)) shQ (fun x => True) fun xs p h => by
    have ho := onceP (n := 4) h
    cases h0 : (onceF xs p 4).fst
    · exact ⟨(_, _), (belowF xs (onceF xs p 4).snd 25).snd, trivial, belowP ho, fun ρ cont => (drw173 cont xs p).trans (by
        rw [if_pos h, h0, cond_false, if_pos ho, if_pos ⟨i64_rng _, one_rng⟩]; rfl)⟩
    · have hb := belowP (n := 6) ho
      exact ⟨(_, _), (belowF xs (belowF xs (onceF xs p 4).snd 6).snd 25).snd, trivial, belowP hb, fun ρ cont => (drw173 cont xs p).trans (by
        rw [if_pos h, h0, cond_true, if_pos ho, if_pos hb, if_pos ⟨i64_rng _, i64_rng _⟩]; rfl)⟩
noncomputable def drawQF := drawQ_ok.choose
theorem orc_drawQ : OrcOK NN Tryz.prog 67 (rO shQ drawQF) := drawQ_ok.choose_spec.1
theorem drawQP {xs : List Int} {p : Int} (h : rdOkB xs p = true) : rdOkB xs (drawQF xs p).2 = true := (drawQ_ok.choose_spec.2 xs p h).2
noncomputable def rE5 : Env := VL tryT [] [(63, nO shI belowF), (64, rO shI intF), (65, qofO), (66, rO shW wordF), (67, rO shQ drawQF)]
theorem rE5_ok : EnvOK NN Tryz.prog rE5 := VL_ok (TabOk.of tryT_ok) (gamC orc_below Tryz.call63 (gamC orc_int Tryz.call64 (gamC orc_qof Tryz.call65 (gamC orc_word Tryz.call66 (gamC orc_drawQ Tryz.call67 (gamN _ _))))))
theorem drw76 {ρ : Type} (cont : SV -> HL -> Option ρ) (xs : List Int) (p : Int) : runF rE5 Ash 20 Tryz.f20 (bodyOf Tryz.f20) ρ [one (.ptr 0 0)] (rdH xs p) cont =
  if rdOkB xs p = true then bif (belowF xs p 8).fst == 0 then if rdOkB xs (belowF xs p 8).snd = true then if rdOkB xs (intF xs (belowF xs p 8).snd).snd = true then if (-9223372036854775808 <= (intF xs (belowF xs p 8).snd).fst /\ (intF xs (belowF xs p 8).snd).fst < 9223372036854775808) /\ -9223372036854775808 <= (intF xs (intF xs (belowF xs p 8).snd).snd).fst /\ (intF xs (intF xs (belowF xs p
  8).snd).snd).fst < 9223372036854775808 then bif qofC (intF xs (belowF xs p 8).snd).fst (intF xs (intF xs (belowF xs p 8).snd).snd).fst then cont (SV.v true [Atom.int IntKind.i64 (qofA (intF xs (belowF xs p 8).snd).fst (intF xs (intF xs (belowF xs p 8).snd).snd).fst), Atom.int IntKind.i64 (qofB (intF xs (belowF xs p 8).snd).fst (intF xs (intF xs (belowF xs p 8).snd).snd).fst)]) [Blk.var [Atom.sl
  none (Ty.int IntKind.u8) xs, Atom.int IntKind.i64 (intF xs (intF xs (belowF xs p 8).snd).snd).snd]] else cont (SV.v true [Atom.int IntKind.i64 1, Atom.int IntKind.i64 3]) [Blk.var [Atom.sl none (Ty.int IntKind.u8) xs, Atom.int IntKind.i64 (intF xs (intF xs (belowF xs p 8).snd).snd).snd]] else none else none else none else bif (belowF xs p 8).fst == 1 then if rdOkB xs (belowF xs p 8).snd = true
  then if rdOkB xs (intF xs (belowF xs p 8).snd).snd = true then cont (SV.v true [Atom.int IntKind.i64 (intF xs (belowF xs p 8).snd).fst, Atom.int IntKind.i64 (intF xs (intF xs (belowF xs p 8).snd).snd).fst]) [Blk.var [Atom.sl none (Ty.int IntKind.u8) xs, Atom.int IntKind.i64 (intF xs (intF xs (belowF xs p 8).snd).snd).snd]] else none else none else bif (belowF xs p 8).fst == 2 then if rdOkB xs
  (belowF xs p 8).snd = true then if rdOkB xs (wordF xs (belowF xs p 8).snd).snd = true then if rdOkB xs (wordF xs (wordF xs (belowF xs p 8).snd).snd).snd = true then if IntKind.u64.wrap (IntKind.i64.wrap (5 + (belowF xs (wordF xs (wordF xs (belowF xs p 8).snd).snd).snd 50).fst)) < 0 then none else if (-9223372036854775808 <= IntKind.i64.wrap ((wordF xs (belowF xs p 8).snd).fst.fdiv (2 ^ min
  (Int.toNat 5) IntKind.u64.bits)) /\ IntKind.i64.wrap ((wordF xs (belowF xs p 8).snd).fst.fdiv (2 ^ min (Int.toNat 5) IntKind.u64.bits)) < 9223372036854775808) /\ -9223372036854775808 <= IntKind.i64.wrap ((wordF xs (wordF xs (belowF xs p 8).snd).snd).fst.fdiv (2 ^ min (IntKind.u64.wrap (IntKind.i64.wrap (5 + (belowF xs (wordF xs (wordF xs (belowF xs p 8).snd).snd).snd 50).fst))).toNat
  IntKind.u64.bits)) /\ IntKind.i64.wrap ((wordF xs (wordF xs (belowF xs p 8).snd).snd).fst.fdiv (2 ^ min (IntKind.u64.wrap (IntKind.i64.wrap (5 + (belowF xs (wordF xs (wordF xs (belowF xs p 8).snd).snd).snd 50).fst))).toNat IntKind.u64.bits)) < 9223372036854775808 then bif qofC (IntKind.i64.wrap ((wordF xs (belowF xs p 8).snd).fst.fdiv (2 ^ min (Int.toNat 5) IntKind.u64.bits))) (IntKind.i64.wrap
  ((wordF xs (wordF xs (belowF xs p 8).snd).snd).fst.fdiv (2 ^ min (IntKind.u64.wrap (IntKind.i64.wrap (5 + (belowF xs (wordF xs (wordF xs (belowF xs p 8).snd).snd).snd 50).fst))).toNat IntKind.u64.bits))) then cont (SV.v true [Atom.int IntKind.i64 (qofA (IntKind.i64.wrap ((wordF xs (belowF xs p 8).snd).fst.fdiv (2 ^ min (Int.toNat 5) IntKind.u64.bits))) (IntKind.i64.wrap ((wordF xs (wordF xs
  (belowF xs p 8).snd).snd).fst.fdiv (2 ^ min (IntKind.u64.wrap (IntKind.i64.wrap (5 + (belowF xs (wordF xs (wordF xs (belowF xs p 8).snd).snd).snd 50).fst))).toNat IntKind.u64.bits)))), Atom.int IntKind.i64 (qofB (IntKind.i64.wrap ((wordF xs (belowF xs p 8).snd).fst.fdiv (2 ^ min (Int.toNat 5) IntKind.u64.bits))) (IntKind.i64.wrap ((wordF xs (wordF xs (belowF xs p 8).snd).snd).fst.fdiv (2 ^ min
  (IntKind.u64.wrap (IntKind.i64.wrap (5 + (belowF xs (wordF xs (wordF xs (belowF xs p 8).snd).snd).snd 50).fst))).toNat IntKind.u64.bits))))]) [Blk.var [Atom.sl none (Ty.int IntKind.u8) xs, Atom.int IntKind.i64 (belowF xs (wordF xs (wordF xs (belowF xs p 8).snd).snd).snd 50).snd]] else cont (SV.v true [Atom.int IntKind.i64 (-1000000000000000000), Atom.int IntKind.i64 1]) [Blk.var [Atom.sl none
  (Ty.int IntKind.u8) xs, Atom.int IntKind.i64 (belowF xs (wordF xs (wordF xs (belowF xs p 8).snd).snd).snd 50).snd]] else none else none else none else none else if rdOkB xs (belowF xs p 8).snd = true then cont (SV.v true [Atom.int IntKind.i64 (drawQF xs (belowF xs p 8).snd).fst.fst, Atom.int IntKind.i64 (drawQF xs (belowF xs p 8).snd).fst.snd]) [Blk.var [Atom.sl none (Ty.int IntKind.u8) xs,
  Atom.int IntKind.i64 (drawQF xs (belowF xs p 8).snd).snd]] else none else none := by kernel_rfl
theorem any_ok : ∃ f : List Int -> Int -> (Int × Int) × Int, OrcOK NN Tryz.prog 20 (rO shQ f) /\ ∀ xs p, rdOkB xs p = true -> True /\ rdOkB xs (f xs p).2 = true :=
  rO_ok (cR_ok (A := Ash) (fuel := 20) rE5_ok rfl Tryz.func20 (by kernel_rfl)) shQ (fun x => True) fun xs p h => by
    have hb := belowP (n := 8) h
    have hi := intP hb
    have hw := wordP hb
    have hw2 := wordP hw
    cases h0 : (belowF xs p 8).fst == 0
    · cases h1 : (belowF xs p 8).fst == 1
      · cases h2 : (belowF xs p 8).fst == 2
        · exact ⟨(_, _), (drawQF xs (belowF xs p 8).snd).snd, trivial, drawQP hb, fun ρ cont => (drw76 cont xs p).trans (by
            rw [if_pos h, h0, h1, h2, cond_false, cond_false, cond_false, if_pos hb]; rfl)⟩
        · cases h3 : qofC (IntKind.i64.wrap ((wordF xs (belowF xs p 8).snd).fst.fdiv (2 ^ min (Int.toNat 5) IntKind.u64.bits))) (IntKind.i64.wrap ((wordF xs (wordF xs (belowF xs p 8).snd).snd).fst.fdiv (2 ^ min (IntKind.u64.wrap (IntKind.i64.wrap (5 + (belowF xs (wordF xs (wordF xs (belowF xs p 8).snd).snd).snd 50).fst))).toNat IntKind.u64.bits)))
          · exact ⟨(_, _), (belowF xs (wordF xs (wordF xs (belowF xs p 8).snd).snd).snd 50).snd, trivial, belowP hw2, fun ρ cont => (drw76 cont xs p).trans (by
              rw [if_pos h, h0, h1, h2, cond_false, cond_false, cond_true, if_pos hb, if_pos hw, if_pos hw2, if_neg (u64_rng _), if_pos ⟨i64_rng _, i64_rng _⟩, h3, cond_false]; rfl)⟩
          · exact ⟨(_, _), (belowF xs (wordF xs (wordF xs (belowF xs p 8).snd).snd).snd 50).snd, trivial, belowP hw2, fun ρ cont => (drw76 cont xs p).trans (by
              rw [if_pos h, h0, h1, h2, cond_false, cond_false, cond_true, if_pos hb, if_pos hw, if_pos hw2, if_neg (u64_rng _), if_pos ⟨i64_rng _, i64_rng _⟩, h3, cond_true]; rfl)⟩
      · exact ⟨((intF xs (belowF xs p 8).snd).fst, (intF xs (intF xs (belowF xs p 8).snd).snd).fst), (intF xs (intF xs (belowF xs p 8).snd).snd).snd, trivial, intP hi, fun ρ cont => (drw76 cont xs p).trans (by
          rw [if_pos h, h0, h1, cond_false, cond_true, if_pos hb, if_pos hi]; rfl)⟩
    · cases h3 : qofC (intF xs (belowF xs p 8).snd).fst (intF xs (intF xs (belowF xs p 8).snd).snd).fst
      · exact ⟨(_, _), (intF xs (intF xs (belowF xs p 8).snd).snd).snd, trivial, intP hi, fun ρ cont => (drw76 cont xs p).trans (by
          rw [if_pos h, h0, cond_true, if_pos hb, if_pos hi, if_pos ⟨intR hb, intR hi⟩, h3, cond_false]; rfl)⟩
      · exact ⟨(_, _), (intF xs (intF xs (belowF xs p 8).snd).snd).snd, trivial, intP hi, fun ρ cont => (drw76 cont xs p).trans (by
          rw [if_pos h, h0, cond_true, if_pos hb, if_pos hi, if_pos ⟨intR hb, intR hi⟩, h3, cond_true]; rfl)⟩
noncomputable def anyF := any_ok.choose
theorem orc_any : OrcOK NN Tryz.prog 20 (rO shQ anyF) := any_ok.choose_spec.1
structure Two where
  a : Int
  b : Int
  c : Int
  d : Int
end Go.Abs
namespace Go.Abs
open Go.Proofs
set_option maxRecDepth 100000
theorem q_rt {a b : Int} (h : qOkB a b = true) : (Rat.divInt a b).num = a /\ ((Rat.divInt a b).den : Int) = b := by
  obtain ⟨h1, h2, h3, h4, h5⟩ := qOkB_iff.1 h
  obtain ⟨k1, k2⟩ := divInt_pos a b (by omega)
  rw [h5, Int.natCast_one, Int.ediv_one] at k1 k2
  exact ⟨k1, k2⟩
end Go.Abs
namespace Go.Abs
open Go.Proofs
set_option maxRecDepth 100000
end Go.Abs
namespace Go.Abs
open Go.Proofs
set_option maxRecDepth 100000
end Go.Abs
namespace Go.Abs
open Go.Proofs
set_option maxRecDepth 100000
end Go.Abs
namespace Go.Abs
open Go.Proofs
set_option maxRecDepth 100000
end Go.Abs
namespace Go.Abs
open Go.Proofs
set_option maxRecDepth 100000
end Go.Abs
namespace Go.Abs
open Go.Proofs
set_option maxRecDepth 100000
end Go.Abs
namespace Go.Abs
open Go.Proofs
set_option maxRecDepth 100000
end Go.Abs
namespace Go.Abs
open Go.Proofs
set_option maxRecDepth 100000
theorem ok_fit {a b : Int} (h : qOkB a b = true) : qFit (Rat.divInt a b) = true /\ qNum (Rat.divInt a b) = a /\ qDen (Rat.divInt a b) = b := by
  obtain ⟨h1, h2, h3, h4, h5⟩ := qOkB_iff.1 h
  obtain ⟨k1, k2⟩ := q_rt h
  have h' : (Rat.divInt a b).num.natAbs <= 1000000000000000000 /\ (Rat.divInt a b).den <= 1000000000000000000 := by omega
  unfold qFit qNum qDen
  rw [if_pos h', if_pos h']
  exact ⟨decide_eq_true h', k1, k2⟩
section
variable {g : Int -> Int -> Int -> Int -> Bool} {f : Rat -> Rat -> Rat} {a b c d : Int}
end
end Go.Abs
namespace Go.Abs
end Go.Abs
namespace Go.Abs
structure Pl where
  x : Rat
  y : Rat
theorem Pl.ext' {p q : Pl} (h1 : p.x = q.x) (h2 : p.y = q.y) : p = q := by cases p; cases q; simp_all
instance : DecidableEq Pl := fun p q => decidable_of_iff (p.x = q.x /\ p.y = q.y) ⟨fun h => Pl.ext' h.1 h.2, fun h => by rw [h]; exact ⟨rfl, rfl⟩⟩
def crP (a b : Pl) : Rat := a.x * b.y - a.y * b.x
def sbP (a b : Pl) : Pl := ⟨a.x - b.x, a.y - b.y⟩
def lxP (a b : Pl) : Prop := a.x < b.x \/ a.x = b.x /\ a.y < b.y
instance (a b : Pl) : Decidable (lxP a b) := by unfold lxP; infer_instance
def btw (e a b : Rat) : Prop := (a <= e \/ b <= e) /\ (e <= a \/ e <= b)
instance (e a b : Rat) : Decidable (btw e a b) := by unfold btw; infer_instance
def onP (e a b : Pl) : Prop := btw e.x a.x b.x /\ btw e.y a.y b.y /\ crP (sbP b a) (sbP e a) = 0
instance (e a b : Pl) : Decidable (onP e a b) := by unfold onP; infer_instance
def apP (a b c d : Rat) : Prop := (a < c /\ a < d /\ b < c /\ b < d) \/ (c < a /\ c < b /\ d < a /\ d < b)
instance (a b c d : Rat) : Decidable (apP a b c d) := by unfold apP; infer_instance
end Go.Abs
namespace Go.Abs
open Go.Proofs
set_option maxRecDepth 100000
end Go.Abs
namespace Go.Abs
open Go.Proofs
set_option maxRecDepth 100000
def s8 (q : Rat) : Bool := decide ((words q.num.natAbs).length < 8) && decide ((words q.den).length < 8)
theorem s8_ok {q : Rat} (h : s8 q = true) : szN 8 q := by simpa [s8, szN] using h
theorem szN.qq {B : Nat} {q : Rat} (h : szN B q) (hB : B <= 100000000) : szQ q = true := (h.mono hB).q
theorem s8_q {a b : Int} (h : qOkB a b = true) : s8 (Rat.divInt a b) = true := by
  obtain ⟨h1, h2⟩ := (show (Rat.divInt a b).num.natAbs <= 1000000000000000000 /\ (Rat.divInt a b).den <= 1000000000000000000 by
    obtain ⟨h1, h2, h3, h4, h5⟩ := qOkB_iff.1 h
    have := divInt_le (n := a) (d := b) (by omega)
    exact ⟨by omega, by omega⟩)
  have w1 := words_small (n := (Rat.divInt a b).num.natAbs) (by omega)
  have w2 := words_small (n := (Rat.divInt a b).den) (by omega)
  unfold s8
  rw [decide_eq_true (by omega), decide_eq_true (by omega)]; rfl
end Go.Abs
namespace Go.Proofs
open Go.Shelf
def Tryz.lays173_ren : Go.Shelf.Ren := ⟨fun | 173 => 22 | 246 => 70 | 283 => 132 | 284 => 133 | 285 => 134 | 286 => 135 | 129 => 188 | 317 => 187 | 318 => 189 | 319 => 190 | 320 => 191 | 337 => 214 | 338 => 215 | n => n, fun | 2 => 2 | 3 => 3 | 9 => 9 | 4 => 4 | 171 => 183 | 0 => 0 | 53 => 51 | 37 => 22 | 5 => 5 | 173 => 186 | 212 => 228 | 51 => 212 | 20 => 20 | 213 => 229 | 46 => 124 | 232 => 269 | 233 => 270 | n => n, fun | 17 => 0 | 18 => 2 | 19 => 3 | n => n⟩
theorem Tryz.lays173 : Go.Proofs.LaysM.n173 Tryz.prog Tryz.lays173_ren where
  mixed := by kernel_rfl
  f129 := Tryz.func188.trans (congrArg some (by kernel_rfl))
  f173 := Tryz.func22.trans (congrArg some (by kernel_rfl))
  f246 := Tryz.func70.trans (congrArg some (by kernel_rfl))
  f283 := Tryz.func132.trans (congrArg some (by kernel_rfl))
  f284 := Tryz.func133.trans (congrArg some (by kernel_rfl))
  f285 := Tryz.func134.trans (congrArg some (by kernel_rfl))
  f286 := Tryz.func135.trans (congrArg some (by kernel_rfl))
  f317 := Tryz.func187.trans (congrArg some (by kernel_rfl))
  f318 := Tryz.func189.trans (congrArg some (by kernel_rfl))
  f319 := Tryz.func190.trans (congrArg some (by kernel_rfl))
  f320 := Tryz.func191.trans (congrArg some (by kernel_rfl))
  f337 := Tryz.func214.trans (congrArg some (by kernel_rfl))
  f338 := Tryz.func215.trans (congrArg some (by kernel_rfl))
  t0 := Tryz.underlying0
  a0 := Tryz.isAgg0
  z0 := Tryz.sizeOf0
  v0 := Tryz.zeroValue0
  t2 := Tryz.underlying2
  a2 := Tryz.isAgg2
  z2 := Tryz.sizeOf2
  v2 := Tryz.zeroValue2
  t3 := Tryz.underlying3
  a3 := Tryz.isAgg3
  z3 := Tryz.sizeOf3
  v3 := Tryz.zeroValue3
  t4 := Tryz.underlying4
  a4 := Tryz.isAgg4
  z4 := Tryz.sizeOf4
  v4 := Tryz.zeroValue4
  t5 := Tryz.underlying5
  a5 := Tryz.isAgg5
  z5 := Tryz.sizeOf5
  v5 := Tryz.zeroValue5
  t9 := Tryz.underlying9
  a9 := Tryz.isAgg9
  z9 := Tryz.sizeOf9
  v9 := Tryz.zeroValue9
  t20 := Tryz.underlying20
  a20 := Tryz.isAgg20
  z20 := Tryz.sizeOf20
  v20 := Tryz.zeroValue20
  t37 := Tryz.underlying22
  a37 := Tryz.isAgg22
  z37 := Tryz.sizeOf22
  v37 := Tryz.zeroValue22
  t46 := Tryz.underlying124
  a46 := Tryz.isAgg124
  z46 := Tryz.sizeOf124
  v46 := Tryz.zeroValue124
  t51 := Tryz.underlying212
  a51 := Tryz.isAgg212
  z51 := Tryz.sizeOf212
  v51 := Tryz.zeroValue212
  t53 := Tryz.underlying51
  a53 := Tryz.isAgg51
  z53 := Tryz.sizeOf51
  v53 := Tryz.zeroValue51
  t171 := Tryz.underlying183
  a171 := Tryz.isAgg183
  z171 := Tryz.sizeOf183
  v171 := Tryz.zeroValue183
  t173 := Tryz.underlying186
  a173 := Tryz.isAgg186
  z173 := Tryz.sizeOf186
  v173 := Tryz.zeroValue186
  t212 := Tryz.underlying228
  a212 := Tryz.isAgg228
  z212 := Tryz.sizeOf228
  v212 := Tryz.zeroValue228
  t213 := Tryz.underlying229
  a213 := Tryz.isAgg229
  z213 := Tryz.sizeOf229
  t232 := Tryz.underlying269
  a232 := Tryz.isAgg269
  z232 := Tryz.sizeOf269
  v232 := Tryz.zeroValue269
  t233 := Tryz.underlying270
  a233 := Tryz.isAgg270
  z233 := Tryz.sizeOf270
  v233 := Tryz.zeroValue270
  g17 := by kernel_rfl
  g18 := by kernel_rfl
  g19 := by kernel_rfl
  i0 := by kernel_rfl
  i2 := by kernel_rfl
  i3 := by kernel_rfl
  i4 := by kernel_rfl
  i5 := by kernel_rfl
  i9 := by kernel_rfl
  i20 := by kernel_rfl
  i37 := by kernel_rfl
  i46 := by kernel_rfl
  i51 := by kernel_rfl
  i53 := by kernel_rfl
  i171 := by kernel_rfl
  i173 := by kernel_rfl
  i212 := by kernel_rfl
  i232 := by kernel_rfl
  i233 := by kernel_rfl
  m17 := by kernel_rfl
  m18 := by kernel_rfl
  m19 := by kernel_rfl
def Tryz.lays153_ren : Go.Shelf.Ren := ⟨fun | 153 => 31 | 152 => 84 | 226 => 85 | 227 => 86 | 228 => 87 | 137 => 148 | 119 => 149 | 224 => 150 | 225 => 151 | 217 => 204 | 266 => 233 | n => n, fun | 9 => 9 | 3 => 3 | 4 => 4 | 5 => 5 | 21 => 21 | 117 => 143 | 116 => 142 | 0 => 0 | 46 => 124 | 124 => 205 | n => n, fun | n => n⟩
theorem Tryz.lays153 : Go.Proofs.Lays.n153 Tryz.prog Tryz.lays153_ren where
  mixed := by kernel_rfl
  f119 := Tryz.func149.trans (congrArg some (by kernel_rfl))
  f137 := Tryz.func148.trans (congrArg some (by kernel_rfl))
  f152 := Tryz.func84.trans (congrArg some (by kernel_rfl))
  f153 := Tryz.func31.trans (congrArg some (by kernel_rfl))
  f217 := Tryz.func204.trans (congrArg some (by kernel_rfl))
  f224 := Tryz.func150.trans (congrArg some (by kernel_rfl))
  f225 := Tryz.func151.trans (congrArg some (by kernel_rfl))
  f226 := Tryz.func85.trans (congrArg some (by kernel_rfl))
  f227 := Tryz.func86.trans (congrArg some (by kernel_rfl))
  f228 := Tryz.func87.trans (congrArg some (by kernel_rfl))
  f266 := Tryz.func233.trans (congrArg some (by kernel_rfl))
  t0 := Tryz.underlying0
  a0 := Tryz.isAgg0
  z0 := Tryz.sizeOf0
  v0 := Tryz.zeroValue0
  t3 := Tryz.underlying3
  a3 := Tryz.isAgg3
  z3 := Tryz.sizeOf3
  v3 := Tryz.zeroValue3
  t4 := Tryz.underlying4
  a4 := Tryz.isAgg4
  z4 := Tryz.sizeOf4
  v4 := Tryz.zeroValue4
  t5 := Tryz.underlying5
  a5 := Tryz.isAgg5
  z5 := Tryz.sizeOf5
  v5 := Tryz.zeroValue5
  t9 := Tryz.underlying9
  a9 := Tryz.isAgg9
  z9 := Tryz.sizeOf9
  v9 := Tryz.zeroValue9
  t21 := Tryz.underlying21
  a21 := Tryz.isAgg21
  z21 := Tryz.sizeOf21
  v21 := Tryz.zeroValue21
  t46 := Tryz.underlying124
  a46 := Tryz.isAgg124
  z46 := Tryz.sizeOf124
  v46 := Tryz.zeroValue124
  t116 := Tryz.underlying142
  a116 := Tryz.isAgg142
  z116 := Tryz.sizeOf142
  t117 := Tryz.underlying143
  a117 := Tryz.isAgg143
  z117 := Tryz.sizeOf143
  v117 := Tryz.zeroValue143
  t124 := Tryz.underlying205
  a124 := Tryz.isAgg205
  z124 := Tryz.sizeOf205
  v124 := Tryz.zeroValue205
theorem Tryz.set153 : (Tryz.prog.info? (Tryz.lays153_ren.t 116)).map (fun i => (i.zero, i.size)) = some (some (.agg (Array.replicate 256 (.bool false))), 256) := by kernel_rfl
end Go.Proofs
namespace Go.Abs
open Go.Proofs Go.Shelf
set_option maxRecDepth 100000
theorem Rel.more {N : NumSem} {G : Ghost} {κ : Kap} {h : Hp} {w w' : World} (r : Rel N G κ h w) (hold : ∀ g, g < w.heap.size -> w'.heap[g]? = w.heap[g]?) : Rel N G κ h w' where
  ghost := fun x o v e => by
    have h0 := r.ghost x o v e
    have hx : x < w.heap.size := by
      unfold World.cell? at h0
      split at h0
      · rename_i heq; exact (Array.getElem?_eq_some_iff.1 heq).1
      · contradiction
    rw [<- h0]
    simp only [World.cell?]
    rw [hold x hx]
  blk := fun l b e => (r.blk l b e).keep G.le_refl (hold _ (r.blk l b e).block) rfl fun _ _ _ _ => rfl
  sep := r.sep
  own := r.own
  inv := fun b hb => by
    obtain ⟨x, h1, h2⟩ := r.inv b hb
    exact ⟨x, by rw [hold b (Array.getElem?_eq_some_iff.1 h1).1]; exact h1, h2⟩
  off := r.off
theorem Trans.more {G : Ghost} {κ : Kap} {h : Hp} {w w' : World} (b : RowKit.Below w.heap.size w w') : Trans G κ h w G κ h w' :=
  ⟨G.le_refl, b.size, fun g hg _ => b.block g hg, b.os, b.tape, b.output, fun _ _ _ e => .inl e, fun l hl => .inr ⟨l, hl, rfl⟩⟩
def fmtO : Orc := fun ρ args H cont => match args, H with
  | [.v false [.int .i64 n], .v false [.int .i64 m]], [] => bif m == 10 then (if -9223372036854775808 <= n /\ n < 9223372036854775808 then cont (one (.str ⟨(Lib.itoa n).toArray⟩)) [] else none) else none
  | _, _ => none
theorem toArr2 {a : Array Value} {x y : Value} (h : a.toList = [x, y]) : a = #[x, y] := by rw [<- Array.toArray_toList (xs := a), h]
theorem orc_fmt : OrcOK NN Tryz.prog 22 fmtO := by
  intro ρ args H cont r h hwf hids
  unfold fmtO at h
  split at h
  · rename_i n m
    cases hm : m == 10
    · rw [hm] at h; contradiction
    · rw [hm, cond_true] at h
      have hm := eq_of_beq hm
      subst hm
      split at h
      · rename_i hc
        refine ⟨_, _, h, Nat.le_refl _, fun {G κ w cargs} hr ha => ?_⟩
        obtain ⟨v1, r1, e1, h1, v2, r2, e2, h2, h3⟩ := ha
        have h1 := one_val h1
        have h2 := one_val h2
        simp only [AR, List.cons.injEq, and_true] at h1 h2
        subst h1 h2
        simp only [SvsR] at h3
        subst h3
        rw [toArr2 (e1.trans (by rw [e2]))]
        refine (Any.strconv_FormatInt_10 Tryz.lays173 n hc.1 (by omega) w hr.tab).mono ?_
        rintro e w' ⟨rfl, k, os, rfl⟩
        have b := Lib.below_grow w.heap.size w (Nat.le_refl _) k os
        exact ⟨G, κ, _, rfl, Trans.more b, hr.more fun g hg => b.block g hg, AsR.one rfl, fun _ _ _ => rfl⟩
      · contradiction
  · contradiction
def asciiB (s : ByteArray) : Bool := s.data.toList.all fun b => Nat.blt b.toNat 128
def ixO : Orc := fun ρ args H cont => match args, H with
  | [.v false [.str s], .v false [.str c]], [] => if (s.size < 4294967281 /\ c.size < 4294967281) /\ asciiB s = true /\ asciiB c = true then cont (one (.int .i64 (Lib.indexAny s.data.toList c.data.toList))) [] else none
  | _, _ => none
theorem asciiB_ok {s : ByteArray} (h : asciiB s = true) : ∀ (j : Nat) (b : UInt8), s.data.toList[j]? = some b -> b.toNat < 128 := fun j b hb => by
  have := List.all_eq_true.1 h b (List.mem_of_getElem? hb)
  simpa using this
theorem orc_ix : OrcOK NN Tryz.prog 31 ixO := by
  intro ρ args H cont r h hwf hids
  unfold ixO at h
  split at h
  · rename_i s c
    split at h
    · rename_i hc
      refine ⟨_, _, h, Nat.le_refl _, fun {G κ w cargs} hr ha => ?_⟩
      obtain ⟨v1, r1, e1, h1, v2, r2, e2, h2, h3⟩ := ha
      have h1 := one_val h1
      have h2 := one_val h2
      simp only [AR, List.cons.injEq, and_true] at h1 h2
      subst h1 h2
      simp only [SvsR] at h3
      subst h3
      rw [toArr2 (e1.trans (by rw [e2]))]
      refine (Any.strings_IndexAny_laid Tryz.lays153 Tryz.set153 s c w hc.1.1 hc.1.2 (asciiB_ok hc.2.1) (asciiB_ok hc.2.2)).mono ?_
      rintro e w' ⟨rfl, b⟩
      exact ⟨G, κ, _, rfl, Trans.more b, hr.more fun g hg => b.block g hg, AsR.one rfl, fun _ _ _ => rfl⟩
    · contradiction
  · contradiction
end Go.Abs
namespace Go.Abs
open Go.Proofs
set_option maxRecDepth 100000
noncomputable def qtE (l : List (Nat × Orc)) : Env := { T := tryT, E := [], Γ := gamL l, X := xopL tryT { xtT with vs := [] } }
theorem qtE_ok {l : List (Nat × Orc)} (h : GamOK NN Tryz.prog (gamL l)) : EnvOK NN Tryz.prog (qtE l) := { T := TabOk.of tryT_ok, E := fun p hp => (by cases hp), Γ := h, X := xopL_ok (TabOk.of tryT_ok) (xtT_ok []) }
section
variable {ρ : Type} (l : List UInt8) (bad : Option ρ) (ok : Int -> Option ρ)
def dgW (v : Int) (z : UInt8) : Int := IntKind.i64.wrap (IntKind.i64.wrap (v * 10) + IntKind.i64.wrap (IntKind.u8.wrap ((z.toNat : Int) - 48)))
def dgK : Nat -> Int -> Int -> Option ρ
  | 0, _, _ => none
  | f + 1, i, v => bif decide (i < l.length) then (l[i.toNat]?.bind fun x => bif decide ((x.toNat : Int) < 48) then bad else l[i.toNat]?.bind fun y => bif bif false then true else decide (57 < (y.toNat : Int)) then bad else
      l[i.toNat]?.bind fun z => dgK f (IntKind.i64.wrap (i + 1)) (dgW v z)) else ok v
end
def tnB (n : Int) (b : Bool) : SV := .tup [(false, [.int .i64 n]), (false, [.bool b])]
theorem gdg {ρ : Type} (cont : SV -> HL -> Option ρ) (s : ByteArray) : runF (qtE []) Ash 20 Tryz.f32 (bodyOf Tryz.f32) ρ [one (.str s)] [] cont =
    bif decide ((s.data.toList.length : Int) < 1) then cont (tnB 0 false) [] else bif bif false then true else decide (18 < (s.data.toList.length : Int)) then cont (tnB 0 false) [] else
      dgK s.data.toList (cont (tnB 0 false) []) (fun v => cont (tnB v true) []) 20 0 0 := by kernel_rfl
def digB (l : List UInt8) : Bool := l.all fun b => Nat.ble 48 b.toNat && Nat.ble b.toNat 57
def valD (l : List UInt8) (v : Int) : Int := l.foldl (fun v b => v * 10 + ((b.toNat : Int) - 48)) v
theorem valD_B : ∀ (l : List UInt8) (v : Int) (k : Nat), digB l = true -> 0 <= v -> v < 10 ^ k -> 0 <= valD l v /\ valD l v < 10 ^ (k + l.length)
  | [], v, k, h, h0, h1 => ⟨h0, h1⟩
  | b :: r, v, k, h, h0, h1 => by
    unfold digB at h
    simp only [List.all_cons, Bool.and_eq_true] at h
    have hb1 := Nat.le_of_ble_eq_true h.1.1
    have hb2 := Nat.le_of_ble_eq_true h.1.2
    have := valD_B r (v * 10 + ((b.toNat : Int) - 48)) (k + 1) h.2 (by omega) (by rw [Int.pow_succ]; omega)
    rw [List.length_cons]
    have e : k + (r.length + 1) = k + 1 + r.length := by omega
    rw [e]
    exact this
theorem dgK_eq {ρ : Type} (l : List UInt8) (hd : digB l = true) (h18 : l.length <= 18) (bad : Option ρ) (ok : Int -> Option ρ) : ∀ (f i : Nat), i <= l.length -> l.length < f + i -> dgK l bad ok f (i : Int) (valD (l.take i) 0) = ok (valD l 0)
  | 0, i, hi, hf => by omega
  | f + 1, i, hi, hf => by
    unfold dgK
    by_cases h : i = l.length
    · rw [decide_eq_false (by omega), cond_false, h, List.take_length]
    · have hlt : i < l.length := by omega
      have hx : l[(i : Int).toNat]? = some l[i] := by rw [Int.toNat_natCast]; exact List.getElem?_eq_getElem hlt
      have hm := List.all_eq_true.1 hd l[i] (List.getElem_mem hlt)
      simp only [Bool.and_eq_true] at hm
      have hb1 := Nat.le_of_ble_eq_true hm.1
      have hb2 := Nat.le_of_ble_eq_true hm.2
      rw [decide_eq_true (by omega), cond_true, hx, Option.bind_some, decide_eq_false (by omega), cond_false, Option.bind_some, cond_false, decide_eq_false (by omega), cond_false, Option.bind_some]
      have ht : digB (l.take i) = true := by
        unfold digB
        rw [List.all_eq_true]
        exact fun x hx => List.all_eq_true.1 hd x (List.mem_of_mem_take hx)
      have hB := valD_B (l.take i) 0 0 ht (by omega) (by decide)
      have hlen : (l.take i).length = i := by rw [List.length_take]; omega
      rw [hlen, Nat.zero_add] at hB
      have hp : (10 : Int) ^ i <= 10 ^ 17 := by
        have := Nat.pow_le_pow_right (n := 10) (by decide) (show i <= 17 by omega)
        have h2 : ((10 ^ i : Nat) : Int) <= ((10 ^ 17 : Nat) : Int) := by omega
        simpa using h2
      have hp17 : (10 : Int) ^ 17 = 100000000000000000 := by decide
      have ev : dgW (valD (l.take i) 0) l[i] = valD (l.take (i + 1)) 0 := by
        have e1 : IntKind.u8.wrap ((l[i].toNat : Int) - 48) = (l[i].toNat : Int) - 48 := by rw [IntKind.wrap_u8]; omega
        unfold dgW
        rw [e1, i64_in (valD (l.take i) 0 * 10) (by omega) (by omega), i64_in ((l[i].toNat : Int) - 48) (by omega) (by omega), i64_in (valD (l.take i) 0 * 10 + ((l[i].toNat : Int) - 48)) (by omega) (by omega), List.take_add_one, List.getElem?_eq_getElem hlt]
        unfold valD
        rw [List.foldl_append]
        rfl
      have ei : IntKind.i64.wrap ((i : Int) + 1) = ((i + 1 : Nat) : Int) := by rw [i64_in _ (by omega) (by omega)]; rfl
      rw [ev, ei]
      exact dgK_eq l hd h18 bad ok f (i + 1) (by omega) (by omega)
def dgGood (l : List UInt8) : Bool := Nat.ble 1 l.length && Nat.ble l.length 18
def dgO : Orc := fun ρ args H cont => match args, H with
  | [.v false [.str s]], [] => if digB s.data.toList = true then cont (tnB (bif dgGood s.data.toList then valD s.data.toList 0 else 0) (dgGood s.data.toList)) [] else none
  | _, _ => none
theorem orc_dg : OrcOK NN Tryz.prog 32 dgO :=
  OrcOK.of_tale (cR_ok (A := Ash) (fuel := 20) (qtE_ok (gamN _ _)) rfl Tryz.func32 (by kernel_rfl)) fun ρ args H cont r hr => by
    unfold dgO at hr
    split at hr
    · rename_i s
      split at hr
      · rename_i hd
        refine (gdg cont s).trans ?_
        generalize s.data.toList = l at *
        unfold dgGood at hr
        by_cases h1 : l.length < 1
        · have : Nat.ble 1 l.length = false := by rw [<- Bool.not_eq_true, Nat.ble_eq]; omega
          rw [this] at hr
          rw [decide_eq_true (by omega)]
          exact hr
        · have e1 : Nat.ble 1 l.length = true := by rw [Nat.ble_eq]; omega
          rw [decide_eq_false (by omega), cond_false, cond_false]
          by_cases h2 : 18 < l.length
          · have : Nat.ble l.length 18 = false := by rw [<- Bool.not_eq_true, Nat.ble_eq]; omega
            rw [e1, this] at hr
            rw [decide_eq_true (by omega)]
            exact hr
          · have e2 : Nat.ble l.length 18 = true := by rw [Nat.ble_eq]; omega
            rw [e1, e2] at hr
            rw [decide_eq_false (by omega), cond_false]
            have := dgK_eq l hd (by omega) (cont (tnB 0 false) []) (fun v => cont (tnB v true) []) 20 0 (by omega) (by omega)
            exact this.trans hr
      · contradiction
    · contradiction
end Go.Abs
namespace Go.Abs
open Go.Proofs
set_option maxRecDepth 100000
theorem digB_append {l m : List UInt8} (h1 : digB l = true) (h2 : digB m = true) : digB (l ++ m) = true := by
  unfold digB at *
  rw [List.all_append, h1, h2]; rfl
theorem valD_append (l m : List UInt8) (v : Int) : valD (l ++ m) v = valD m (valD l v) := by unfold valD; rw [List.foldl_append]
theorem dig_byte {k : Nat} (h : k < 10) : (UInt8.ofNat (48 + k)).toNat = 48 + k := by
  rw [UInt8.toNat_ofNat']
  omega
theorem dcd_ok (u : Nat) : digB (Lib.decDigits u) = true /\ valD (Lib.decDigits u) 0 = u /\ 1 <= (Lib.decDigits u).length /\ u < 10 ^ (Lib.decDigits u).length /\ (1 <= u -> 10 ^ ((Lib.decDigits u).length - 1) <= u) := by
  induction u using Nat.strongRecOn with
  | _ u ih =>
    by_cases h : u < 10
    · rw [Lib.decDigits, dif_pos h]
      have hb := dig_byte h
      refine ⟨?_, ?_, Nat.le_refl _, by simpa using h, fun h1 => by simpa using h1⟩
      · unfold digB
        simp only [List.all_cons, List.all_nil, Bool.and_true, hb, Bool.and_eq_true, Nat.ble_eq]
        omega
      · unfold valD
        simp only [List.foldl_cons, List.foldl_nil, hb]
        omega
    · have hlt : u / 10 < u := by omega
      obtain ⟨h1, h2, h3, h4, h5⟩ := ih (u / 10) hlt
      have hb := dig_byte (show u % 10 < 10 by omega)
      rw [Lib.decDigits, dif_neg h]
      have hl : (Lib.decDigits (u / 10) ++ [UInt8.ofNat (48 + u % 10)]).length = (Lib.decDigits (u / 10)).length + 1 := by rw [List.length_append]; rfl
      rw [hl]
      refine ⟨digB_append h1 ?_, ?_, by omega, ?_, fun _ => ?_⟩
      · unfold digB
        simp only [List.all_cons, List.all_nil, Bool.and_true, hb, Bool.and_eq_true, Nat.ble_eq]
        omega
      · rw [valD_append, h2]
        unfold valD
        simp only [List.foldl_cons, List.foldl_nil, hb]
        omega
      · rw [Nat.pow_succ]; omega
      · rw [Nat.add_sub_cancel]
        have h6 := h5 (by omega)
        obtain ⟨k, hk⟩ : ∃ k, (Lib.decDigits (u / 10)).length = k + 1 := ⟨(Lib.decDigits (u / 10)).length - 1, by omega⟩
        rw [hk] at h6 ⊢
        rw [Nat.add_sub_cancel] at h6
        rw [Nat.pow_succ]
        omega
theorem dec_good (u : Nat) : dgGood (Lib.decDigits u) = decide (u < 1000000000000000000) := by
  by_cases hu0 : u = 0
  · subst hu0
    rw [Lib.decDigits, dif_pos (by decide)]
    rfl
  obtain ⟨_, _, h3, h4, h5⟩ := dcd_ok u
  unfold dgGood
  rw [show Nat.ble 1 (Lib.decDigits u).length = true by rw [Nat.ble_eq]; exact h3, Bool.true_and]
  generalize (Lib.decDigits u).length = n at *
  have e18 : (10 : Nat) ^ 18 = 1000000000000000000 := by decide
  by_cases h : n <= 18
  · rw [show Nat.ble n 18 = true by rw [Nat.ble_eq]; exact h]
    have := Nat.pow_le_pow_right (n := 10) (by decide) h
    rw [decide_eq_true (by omega)]
  · rw [show Nat.ble n 18 = false by rw [<- Bool.not_eq_true, Nat.ble_eq]; exact h]
    have := Nat.pow_le_pow_right (n := 10) (by decide) (show 18 <= n - 1 by omega)
    have := h5 (by omega)
    rw [decide_eq_false (by omega)]
theorem ix_no : ∀ (l : List UInt8), digB l = true -> Lib.indexAny l [47, 46] = -1
  | [], _ => rfl
  | b :: r, h => by
    unfold digB at h
    simp only [List.all_cons, Bool.and_eq_true] at h
    have hb1 := Nat.le_of_ble_eq_true h.1.1
    have h2 : ([47, 46] : List UInt8).contains b = false := by
      rw [<- Bool.not_eq_true]
      intro hc
      simp only [List.contains_eq_mem, List.mem_cons, List.not_mem_nil, or_false, decide_eq_true_eq] at hc
      rcases hc with rfl | rfl <;> exact absurd hb1 (by decide)
    have ih := ix_no r h.2
    rw [Lib.indexAny, h2, ih]
    rfl
theorem ix_at : ∀ (l m : List UInt8), digB l = true -> Lib.indexAny (l ++ 47 :: m) [47, 46] = (l.length : Int)
  | [], m, _ => by rw [List.nil_append, Lib.indexAny]; rfl
  | b :: r, m, h => by
    unfold digB at h
    simp only [List.all_cons, Bool.and_eq_true] at h
    have hb1 := Nat.le_of_ble_eq_true h.1.1
    have h2 : ([47, 46] : List UInt8).contains b = false := by
      rw [<- Bool.not_eq_true]
      intro hc
      simp only [List.contains_eq_mem, List.mem_cons, List.not_mem_nil, or_false, decide_eq_true_eq] at hc
      rcases hc with rfl | rfl <;> exact absurd hb1 (by decide)
    have ih := ix_at r m h.2
    rw [List.cons_append, Lib.indexAny, h2, ih]
    have : ((r.length : Int) == -1) = false := by rw [beq_eq_false_iff_ne]; omega
    rw [this, List.length_cons]
    simp
end Go.Abs
namespace Go.Abs
open Go.Proofs
set_option maxRecDepth 100000
def xopT (T : Tab) (X : XT) (H : HL) (nid : Nat) (ev : Operand -> SV) (op : Op) : Option Eff :=
  match op with
  | .binOp _ _ _ _ _ => none
  | _ => xopL T X H nid ev op
theorem xopT_ok {T : Tab} (hT : TabOk Tryz.prog T) {X : XT} (hX : XTOK Tryz.prog X) : XOK NN Tryz.prog (xopT T X) := by
  intro H nid ev o e h
  unfold xopT at h
  split at h
  · contradiction
  · exact fun {G κ hf w a next Q} => xopL_ok hT hX h
noncomputable def qsE (l : List (Nat × Orc)) : Env := { T := tryT, E := [], Γ := gamL l, X := xopT tryT { xtT with vs := [] } }
theorem qsE_ok {l : List (Nat × Orc)} (h : GamOK NN Tryz.prog (gamL l)) : EnvOK NN Tryz.prog (qsE l) := { T := TabOk.of tryT_ok, E := fun p hp => (by cases hp), Γ := h, X := xopT_ok (TabOk.of tryT_ok) (xtT_ok []) }
def strB (s : ByteArray) (b : Bool) : SV := .tup [(false, [.str s]), (false, [.bool b])]
abbrev sl_ (s : ByteArray) : Int := (s.data.toList.length : Int)
theorem gcp {ρ : Type} (cont : SV -> HL -> Option ρ) (s p : ByteArray) : runF (qsE [(147, cR (qsE []) Ash 20 Tryz.f147)]) Ash 20 Tryz.f83 (bodyOf Tryz.f83) ρ [one (.str s), one (.str p)] [] cont =
    bif decide (sl_ p <= sl_ s) then (if (0 : Int) <= 0 /\ 0 <= sl_ p /\ sl_ p <= sl_ s then
      (bif !bif true then (strCut s (Int.toNat 0) (sl_ p).toNat).data.toList == p.data.toList else false then cont (strB s false) [] else
        if 0 <= sl_ p /\ sl_ p <= sl_ s /\ sl_ s <= sl_ s then cont (strB (strCut s (sl_ p).toNat (sl_ s).toNat) true) [] else none) else none) else cont (strB s false) [] := by kernel_rfl
def bS (l : List UInt8) : ByteArray := ⟨l.toArray⟩
def cutN (s : ByteArray) : ByteArray := match s.data.toList with
  | 45 :: r => bS r
  | _ => s
def cutQ (s : ByteArray) : Bool := match s.data.toList with
  | 45 :: _ => true
  | _ => false
def cpO : Orc := fun ρ args H cont => match args, H with
  | [.v false [.str s], .v false [.str p]], [] => if p.data.toList = [45] then cont (strB (cutN s) (cutQ s)) [] else none
  | _, _ => none
theorem orc_cp0 : OrcOK NN Tryz.prog 83 cpO :=
  OrcOK.of_tale (cR_ok (A := Ash) (fuel := 20) (qsE_ok (gamC (cR_ok (qsE_ok (gamN _ _)) rfl Tryz.func147 (by kernel_rfl)) Tryz.call147 (gamN _ _))) rfl Tryz.func83 (by kernel_rfl)) fun ρ args H cont r hr => by
    unfold cpO at hr
    split at hr
    · rename_i s p
      split at hr
      · rename_i hp
        refine (gcp cont s p).trans ?_
        have lp : sl_ p = 1 := by unfold sl_; rw [hp]; rfl
        rw [lp, hp]
        obtain ⟨⟨l⟩⟩ := s
        unfold cutN cutQ at hr
        unfold strCut sl_
        dsimp only at hr ⊢
        match l, hr with
        | [], hr => exact hr
        | b :: m, hr =>
          have h1 : (1 : Int) <= ((b :: m).length : Int) := by rw [List.length_cons]; omega
          rw [decide_eq_true h1, cond_true, if_pos ⟨Int.le_refl _, by decide, h1⟩]
          by_cases hb : b = 45
          · subst hb
            have e2 : (((45 :: m : List UInt8).length : Int)).toNat - (1 : Int).toNat = m.length := by rw [List.length_cons]; omega
            have e3 : List.take m.length (List.drop (1 : Int).toNat (45 :: m)) = m := by
              show List.take m.length (List.drop 1 (45 :: m)) = m
              rw [List.drop_one, List.tail_cons, List.take_length]
            have e4 : (List.take ((1 : Int).toNat - (0 : Int).toNat) (List.drop (0 : Int).toNat (45 :: m)) == [45]) = true := rfl
            rw [if_pos ⟨by decide, h1, Int.le_refl _⟩, e2, e3]
            exact hr
          · have e4 : ([b] == ([45] : List UInt8)) = false := by simp [hb]
            have e5 : (List.take ((1 : Int).toNat - (0 : Int).toNat) (List.drop (0 : Int).toNat (b :: m))) = [b] := rfl
            rw [e5, e4]
            split at hr
            · rename_i heq
              cases heq
              exact absurd rfl hb
            · exact hr
      · contradiction
    · contradiction
theorem gcp2 {ρ : Type} (cont : SV -> HL -> Option ρ) (s p : ByteArray) : runF (qsE [(83, cpO)]) Ash 20 Tryz.f30 (bodyOf Tryz.f30) ρ [one (.str s), one (.str p)] [] cont = cpO ρ [one (.str s), one (.str p)] [] cont := by kernel_rfl
theorem orc_cp : OrcOK NN Tryz.prog 30 cpO :=
  OrcOK.of_tale (cR_ok (A := Ash) (fuel := 20) (qsE_ok (gamC orc_cp0 Tryz.call83 (gamN _ _))) rfl Tryz.func30 (by kernel_rfl)) fun ρ args H cont r hr => by
    unfold cpO at hr
    split at hr
    · rename_i s p
      exact (gcp2 cont s p).trans hr
    · contradiction
end Go.Abs
namespace Go.Abs
open Go.Proofs
set_option maxRecDepth 100000
def txt (a b : Int) : List UInt8 := bif b != 1 then Lib.itoa a ++ 47 :: Lib.itoa b else Lib.itoa a
theorem txt_ex : ∃ f, f = txt := ⟨_, rfl⟩
noncomputable def txtH := txt_ex.choose
theorem txtH_eq : txtH = txt := txt_ex.choose_spec
noncomputable def qtO : Orc := fun ρ args H cont => match args, H with
  | [.v true [.int .i64 a, .int .i64 b]], [] => cont (one (.str (bif qOkB a b then bS (txtH a b) else bS []))) []
  | _, _ => none
section
variable {ρ : Type} (cont : SV -> HL -> Option ρ)
def fmK (n : Int) (r : Option ρ) : Option ρ := if -9223372036854775808 <= n /\ n < 9223372036854775808 then r else none
theorem gqt (a b : Int) : runF (qsE [(21, qOkO), (22, fmtO)]) Ash 20 Tryz.f7 (bodyOf Tryz.f7) ρ [.v true [.int .i64 a, .int .i64 b]] [] cont =
    bif !qOkB a b then cont (one (.str (bS []))) [] else fmK a (bif b != 1 then fmK b (if [(47 : UInt8)].length + (Lib.itoa b).length <= 1000000 then (if (Lib.itoa a).length + (47 :: Lib.itoa b).length <= 1000000 then cont (one (.str (bS (Lib.itoa a ++ 47 :: Lib.itoa b)))) [] else none) else none)
      else cont (one (.str (bS (Lib.itoa a)))) []) := by kernel_rfl
end
theorem dec_len {u : Nat} (h : u <= 1000000000000000000) : (Lib.decDigits u).length <= 19 := by
  by_cases hu : u = 0
  · subst hu
    rw [Lib.decDigits, dif_pos (by decide)]
    decide
  obtain ⟨_, _, h3, h4, h5⟩ := dcd_ok u
  have := h5 (by omega)
  rcases Nat.lt_or_ge 19 (Lib.decDigits u).length with h6 | h6
  · have h7 := Nat.pow_le_pow_right (n := 10) (by decide) (show 19 <= (Lib.decDigits u).length - 1 by omega)
    have e : (10 : Nat) ^ 19 = 10000000000000000000 := by decide
    omega
  · exact h6
theorem itoa_len {n : Int} (h : n.natAbs <= 1000000000000000000) : (Lib.itoa n).length <= 20 := by
  unfold Lib.itoa
  split
  · have := dec_len h
    rw [List.length_cons]; omega
  · have := dec_len (u := n.toNat) (by omega)
    omega
theorem orc_qt : OrcOK NN Tryz.prog 7 qtO :=
  OrcOK.of_tale (cR_ok (A := Ash) (fuel := 20) (qsE_ok (gamC (orc83 NN) Tryz.call21 (gamC orc_fmt Tryz.call22 (gamN _ _)))) rfl Tryz.func7 (by kernel_rfl)) fun ρ args H cont r hr => by
    unfold qtO at hr
    split at hr
    · rename_i a b
      refine (gqt cont a b).trans ?_
      rw [txtH_eq] at hr
      cases hq : qOkB a b
      · rw [hq] at hr; exact hr
      · rw [hq] at hr
        obtain ⟨h1, h2, h3, h4, h5⟩ := qOkB_iff.1 hq
        have l1 := itoa_len (n := a) (by omega)
        have l2 := itoa_len (n := b) (by omega)
        unfold fmK
        rw [Bool.not_true, cond_false, if_pos (by omega)]
        unfold txt at hr
        cases hb : b != 1
        · rw [hb] at hr; exact hr
        · rw [hb] at hr
          rw [cond_true, if_pos (by omega), if_pos (by rw [List.length_singleton]; omega), if_pos (by rw [List.length_cons]; omega)]
          exact hr
    · contradiction
end Go.Abs
namespace Go.Abs
open Go.Proofs
set_option maxRecDepth 100000
def lowN : Orc := fun ρ args H cont => match args, H with
  | [.v false [.int .i64 n], .v false [.int .i64 d]], [] => if (-9223372036854775808 < n /\ n < 9223372036854775808) /\ 0 < d /\ d < 9223372036854775808 then cont (nm 0 (Rat.divInt n d)) [] else none
  | _, _ => none
theorem orc_low : OrcOK NN Tryz.prog 34 lowN :=
  OrcOK.cv (orc92 NN) fun args H cont r h => by
    unfold lowN at h
    split at h
    · rename_i n d
      split at h
      · rename_i hc
        exact ⟨_, ratS (Rat.divInt n d), by rw [show ratS (Rat.divInt n d) = ratT (Rat.divInt n d) from (ratT_S (small_divInt hc.1 hc.2)).symm]; exact Cv.num0, rfl, h, fun ρ' cont' => if_pos hc⟩
      · contradiction
    · contradiction
def dgv (l : List UInt8) : Int := bif dgGood l then valD l 0 else 0
def sep : ByteArray := ⟨#[47, 46]⟩
def ixT (t : ByteArray) : Int := Lib.indexAny t.data.toList sep.data.toList
noncomputable def rdE : Env := qsE [(30, cpO), (31, ixO), (32, dgO), (33, intO 0), (34, lowN), (38, rat1 szQ fun q => nm 0 (-q)), (39, rat1 (fun _ => true) tupQ)]
section
variable {ρ : Type} (cont : SV -> HL -> Option ρ)
def noQ : Option ρ := cont (.tup [(true, [.int .i64 0, .int .i64 0]), (false, [.bool false])]) []
def enQ (neg : Bool) (r : Rat) : Option ρ := bif neg then (if szQ r = true then cont (tupQ (-r)) [] else none) else cont (tupQ r) []
def wiK (v : Int) (r : Option ρ) : Option ρ := if -9223372036854775808 < v /\ v < 9223372036854775808 then r else none
def reK (neg : Bool) (t b : ByteArray) (v : Int) : Option ρ :=
  if digB b.data.toList = true then bif !dgGood b.data.toList then noQ cont else if 0 <= ixT t then (t.data.toList[(ixT t).toNat]?.bind fun x => bif (x.toNat : Int) == 47 then (bif dgv b.data.toList == 0 then noQ cont else
    if (-9223372036854775808 < v /\ v < 9223372036854775808) /\ 0 < dgv b.data.toList /\ dgv b.data.toList < 9223372036854775808 then enQ cont neg (Rat.divInt v (dgv b.data.toList)) else none) else none) else none else none
def whK (neg : Bool) (t a b : ByteArray) : Option ρ :=
  if digB a.data.toList = true then bif !dgGood a.data.toList then noQ cont else wiK (dgv a.data.toList) (bif decide (0 <= ixT t) then reK cont neg t b (dgv a.data.toList) else enQ cont neg (Rat.divInt (dgv a.data.toList) 1)) else none
def rdK (neg : Bool) (t : ByteArray) : Option ρ :=
  if (t.size < 4294967281 /\ sep.size < 4294967281) /\ asciiB t = true /\ asciiB sep = true then
    bif decide (0 <= ixT t) then (if (0 : Int) <= 0 /\ 0 <= ixT t /\ ixT t <= sl_ t then (if 0 <= IntKind.i64.wrap (ixT t + 1) /\ IntKind.i64.wrap (ixT t + 1) <= sl_ t /\ sl_ t <= sl_ t then
      whK cont neg t (strCut t (Int.toNat 0) (ixT t).toNat) (strCut t (IntKind.i64.wrap (ixT t + 1)).toNat (sl_ t).toNat) else none) else none)
    else whK cont neg t t (bS []) else none
theorem grd (s : ByteArray) : runF rdE Ash 20 Tryz.f10 (bodyOf Tryz.f10) ρ [one (.str s)] [] cont = rdK cont (cutQ s) (cutN s) := by kernel_rfl
end
end Go.Abs

/-
  A PART OF THE PROOF of AbI (texts DrwA DrwB FrA BigG BigH RootA RootB RootC RootD RootE FrL BigI BigJ BigK NearA NearB RatO MeetP MeetA): the claim itself stands in the last text. No conditions beside those of the given row.
-/
import Derived.Test.YtjefeldkonejcaaGreatDoorLivE
import Derived.Test.YtjefeldkonejcaaGreatDoorRowA
import Derived.Test.YtjefeldkonejcaaGreatDoorSpcK
import Derived.Test.YtjefeldkonejcaaGreatDoorBigF
set_option linter.unusedVariables false
set_option linter.unnecessarySimpa false
set_option linter.unusedSimpArgs false
namespace Go.Abs
open Go.Proofs
set_option maxRecDepth 100000
def rdH (xs : List Int) (p : Int) : HL := [.var [.sl none (.int .u8) xs, .int .i64 p]]
def rdOkB (xs : List Int) (p : Int) : Bool := bytesB xs && decide (xs.length <= 1048576) && decide (0 <= p) && decide (p <= xs.length)
theorem rdOk_iff {xs : List Int} {p : Int} : rdOkB xs p = true ↔ (bytesB xs = true /\ xs.length <= 1048576 /\ 0 <= p /\ p <= xs.length) := by
  unfold rdOkB; simp only [Bool.and_eq_true, decide_eq_true_eq]; constructor
  · rintro ⟨⟨⟨h1, h2⟩, h3⟩, h4⟩; exact ⟨h1, h2, h3, h4⟩
  · rintro ⟨h1, h2, h3, h4⟩; exact ⟨⟨⟨h1, h2⟩, h3⟩, h4⟩
def rO {α : Type} (sh : α -> SV) (f : List Int -> Int -> α × Int) : Orc := fun ρ args H cont => match args, H with
  | [.v false [.ptr 0 0]], [.var [.sl none (.int .u8) xs, .int .i64 p]] => if rdOkB xs p = true then cont (sh (f xs p).1) [.var [.sl none (.int .u8) xs, .int .i64 (f xs p).2]] else none
  | _, _ => none
theorem rO_ok {α : Type} [Inhabited α] {n : Nat} {F : Orc} (hF : OrcOK NN Tryz.prog n F) (sh : α -> SV) (R : α -> Prop)
    (h : ∀ xs p, rdOkB xs p = true -> ∃ a p', R a /\ rdOkB xs p' = true /\ ∀ ρ (cont : SV -> HL -> Option ρ), F ρ [one (.ptr 0 0)] (rdH xs p) cont = cont (sh a) (rdH xs p')) :
    ∃ f : List Int -> Int -> α × Int, OrcOK NN Tryz.prog n (rO sh f) /\ ∀ xs p, rdOkB xs p = true -> R (f xs p).1 /\ rdOkB xs (f xs p).2 = true := by
  classical
  have h' : ∀ xs p, ∃ r : α × Int, rdOkB xs p = true -> R r.1 /\ rdOkB xs r.2 = true /\ ∀ ρ (cont : SV -> HL -> Option ρ), F ρ [one (.ptr 0 0)] (rdH xs p) cont = cont (sh r.1) (rdH xs r.2) := fun xs p => by
    by_cases hc : rdOkB xs p = true
    · obtain ⟨a, p', h1, h2, h3⟩ := h xs p hc; exact ⟨(a, p'), fun _ => ⟨h1, h2, h3⟩⟩
    · exact ⟨default, fun h => absurd h hc⟩
  refine ⟨fun xs p => (h' xs p).choose, OrcOK.of_tale hF fun ρ args H cont r hr => ?_, fun xs p hc => ⟨((h' xs p).choose_spec hc).1, ((h' xs p).choose_spec hc).2.1⟩⟩; unfold rO at hr; split at hr
  · rename_i xs p; split at hr
    · rename_i hc; exact (((h' xs p).choose_spec hc).2.2 ρ cont).trans hr
    · contradiction
  · contradiction
noncomputable def rE : Env := VL tryT [] []
theorem rE_ok : EnvOK NN Tryz.prog rE := VL_ok (TabOk.of tryT_ok) (gamN _ _)
theorem drw174 {ρ : Type} (cont : SV -> HL -> Option ρ) (xs : List Int) (p : Int) : runF rE Ash 5 Tryz.f129 (bodyOf Tryz.f129) ρ [one (.ptr 0 0)] (rdH xs p) cont =
    bif decide (xs.length <= p) then cont (one (.int .i64 0)) (rdH xs p) else
    if 0 <= IntKind.i64.wrap (IntKind.i64.wrap (p + 1) - 1) then xs[(IntKind.i64.wrap (IntKind.i64.wrap (p + 1) - 1)).toNat]?.bind fun x => cont (one (.int .i64 (IntKind.i64.wrap x))) (rdH xs (IntKind.i64.wrap (p + 1))) else none := by kernel_rfl
def shI (x : Int) : SV := one (.int .i64 x)
theorem next_ok : ∃ f : List Int -> Int -> Int × Int, OrcOK NN Tryz.prog 129 (rO shI f) /\ ∀ xs p, rdOkB xs p = true -> (0 <= (f xs p).1 /\ (f xs p).1 < 256) /\ rdOkB xs (f xs p).2 = true :=
  rO_ok (cR_ok (A := Ash) (fuel := 5) rE_ok rfl Tryz.func129 (by kernel_rfl)) shI (fun x => 0 <= x /\ x < 256) fun xs p h => by
    obtain ⟨h1, h2, h3, h4⟩ := rdOk_iff.1 h
    by_cases hc : xs.length <= p
    · exact ⟨0, p, by decide, h, fun ρ cont => (drw174 cont xs p).trans (by rw [decide_eq_true hc, cond_true]; rfl)⟩
    · have hl : p.toNat < xs.length := by omega
      have hx := List.all_eq_true.1 h1 (xs[p.toNat]) (List.getElem_mem hl); simp only [Bool.and_eq_true, decide_eq_true_eq] at hx; refine ⟨xs[p.toNat], p + 1, hx, rdOk_iff.2 ⟨h1, h2, by omega, by omega⟩, fun ρ cont => (drw174 cont xs p).trans ?_⟩; rw [decide_eq_false hc, cond_false, i64_in (p + 1) (by omega) (by omega), i64_in (p + 1 - 1) (by omega) (by omega), if_pos (by omega), show p + 1 - 1 = p from by omega, List.getElem?_eq_getElem hl]; show cont (one (.int .i64 (IntKind.i64.wrap xs[p.toNat]))) _ = _; rw [i64_in _ (by omega) (by omega)]; rfl
noncomputable def nextF := next_ok.choose
theorem orc_next : OrcOK NN Tryz.prog 129 (rO shI nextF) := next_ok.choose_spec.1
theorem nextR {xs : List Int} {p : Int} (h : rdOkB xs p = true) : 0 <= (nextF xs p).1 /\ (nextF xs p).1 < 256 := (next_ok.choose_spec.2 xs p h).1
theorem nextP {xs : List Int} {p : Int} (h : rdOkB xs p = true) : rdOkB xs (nextF xs p).2 = true := (next_ok.choose_spec.2 xs p h).2
noncomputable def rE1 : Env := VL tryT [] [(129, rO shI nextF)]
theorem rE1_ok : EnvOK NN Tryz.prog rE1 := VL_ok (TabOk.of tryT_ok) (gamC orc_next Tryz.call129 (gamN _ _))
noncomputable def w8 (xs : List Int) : Nat -> Int -> Int -> Int × Int
  | 0, a, p => (a, p)
  | k + 1, a, p => w8 xs k (bits BinOp.or IntKind.u64 (IntKind.u64.wrap (a * 2 ^ min (Int.toNat 8) IntKind.u64.bits)) (IntKind.u64.wrap (nextF xs p).1)) (nextF xs p).2
def shW (x : Int) : SV := one (.int .u64 x)
noncomputable def w8if {ρ : Type} (cont : SV -> HL -> Option ρ) (xs : List Int) : Nat -> Int -> Int -> Option ρ
  | 0, a, p => cont (shW a) (rdH xs p)
  | k + 1, a, p => if rdOkB xs p = true then w8if cont xs k (bits BinOp.or IntKind.u64 (IntKind.u64.wrap (a * 2 ^ min (Int.toNat 8) IntKind.u64.bits)) (IntKind.u64.wrap (nextF xs p).1)) (nextF xs p).2 else none
theorem drw172 {ρ : Type} (cont : SV -> HL -> Option ρ) (xs : List Int) (p : Int) : runF rE1 Ash 20 Tryz.f66 (bodyOf Tryz.f66) ρ [one (.ptr 0 0)] (rdH xs p) cont = w8if cont xs 8 0 p := by kernel_rfl
theorem w8if_eq {xs : List Int} (k : Nat) : ∀ (a p : Int), rdOkB xs p = true -> rdOkB xs (w8 xs k a p).2 = true /\ ∀ {ρ : Type} (cont : SV -> HL -> Option ρ), w8if cont xs k a p = cont (shW (w8 xs k a p).1) (rdH xs (w8 xs k a p).2) := by
  induction k with
  | zero => exact fun a p h => ⟨h, fun cont => rfl⟩
  | succ k ih =>
    intro a p h; have := ih (bits BinOp.or IntKind.u64 (IntKind.u64.wrap (a * 2 ^ min (Int.toNat 8) IntKind.u64.bits)) (IntKind.u64.wrap (nextF xs p).1)) (nextF xs p).2 (nextP h); refine ⟨this.1, fun cont => ?_⟩; show (if rdOkB xs p = true then _ else none) = _; rw [if_pos h]; exact this.2 cont
theorem word_ok : ∃ f : List Int -> Int -> Int × Int, OrcOK NN Tryz.prog 66 (rO shW f) /\ ∀ xs p, rdOkB xs p = true -> True /\ rdOkB xs (f xs p).2 = true :=
  rO_ok (cR_ok (A := Ash) (fuel := 20) rE1_ok rfl Tryz.func66 (by kernel_rfl)) shW (fun x => True) fun xs p h =>
    ⟨_, _, trivial, (w8if_eq 8 0 p h).1, fun ρ cont => (drw172 cont xs p).trans ((w8if_eq 8 0 p h).2 cont)⟩
noncomputable def wordF := word_ok.choose
theorem orc_word : OrcOK NN Tryz.prog 66 (rO shW wordF) := word_ok.choose_spec.1
theorem wordP {xs : List Int} {p : Int} (h : rdOkB xs p = true) : rdOkB xs (wordF xs p).2 = true := (word_ok.choose_spec.2 xs p h).2
def nO {α : Type} (sh : α -> SV) (f : List Int -> Int -> Int -> α × Int) : Orc := fun ρ args H cont => match args, H with
  | [.v false [.ptr 0 0], .v false [.int .i64 n]], [.var [.sl none (.int .u8) xs, .int .i64 p]] => bif decide (n <= 1) then none else bif decide (n <= 256) then (if rdOkB xs p = true then cont (sh (f xs p n).1) [.var [.sl none (.int .u8) xs, .int .i64 (f xs p n).2]] else none) else none
  | _, _ => none
noncomputable def belowF (xs : List Int) (p n : Int) : Int × Int := ((nextF xs p).1.tmod n, (nextF xs p).2)
theorem drw77 {ρ : Type} (cont : SV -> HL -> Option ρ) (xs : List Int) (p n : Int) : runF rE1 Ash 5 Tryz.f63 (bodyOf Tryz.f63) ρ [one (.ptr 0 0), one (.int .i64 n)] (rdH xs p) cont =
   bif decide (n <= 1) then cont (one (.int .i64 0)) (rdH xs p) else bif decide (n <= 256) then (if rdOkB xs p = true then (if n = 0 then none else cont (shI (belowF xs p n).1) (rdH xs (belowF xs p n).2)) else none) else
   (if rdOkB xs p = true then (if rdOkB xs (nextF xs p).2 = true then (if n = 0 then none else cont (shI ((IntKind.i64.wrap (IntKind.i64.wrap ((nextF xs p).1 * 256) + (nextF xs (nextF xs p).2).1)).tmod n)) (rdH xs (nextF xs (nextF xs p).2).2)) else none) else none) := by kernel_rfl
theorem orc_below : OrcOK NN Tryz.prog 63 (nO shI belowF) :=
  OrcOK.of_tale (cR_ok (A := Ash) (fuel := 5) rE1_ok rfl Tryz.func63 (by kernel_rfl)) fun ρ args H cont r h => by
    unfold nO at h; split at h
    · rename_i n xs p; refine (drw77 cont xs p n).trans ?_
      by_cases h1 : n <= 1
      · rw [decide_eq_true h1, cond_true] at h; contradiction
      · rw [decide_eq_false h1, cond_false] at h ⊢
        by_cases h2 : n <= 256
        · rw [decide_eq_true h2, cond_true] at h ⊢; split at h
          · rename_i hc; rw [if_pos hc, if_neg (by omega)]; exact h
          · contradiction
        · rw [decide_eq_false h2, cond_false] at h; contradiction
    · contradiction
theorem belowR {xs : List Int} {p : Int} (h : rdOkB xs p = true) {n : Int} (hn : 1 < n) : 0 <= (belowF xs p n).1 /\ (belowF xs p n).1 < n := by
  have := nextR h; exact ⟨Int.tmod_nonneg _ this.1, Int.tmod_lt_of_pos _ (by omega)⟩
theorem belowP {xs : List Int} {p n : Int} (h : rdOkB xs p = true) : rdOkB xs (belowF xs p n).2 = true := nextP h
noncomputable def rE2 : Env := VL tryT [] [(63, nO shI belowF)]
theorem rE2_ok : EnvOK NN Tryz.prog rE2 := VL_ok (TabOk.of tryT_ok) (gamC orc_below Tryz.call63 (gamN _ _))
def shB (b : Bool) : SV := one (.bool b)
noncomputable def onceF (xs : List Int) (p n : Int) : Bool × Int := ((belowF xs p n).1 == IntKind.i64.wrap (n - 1), (belowF xs p n).2)
theorem drw78 {ρ : Type} (cont : SV -> HL -> Option ρ) (xs : List Int) (p n : Int) : runF rE2 Ash 5 Tryz.f43 (bodyOf Tryz.f43) ρ [one (.ptr 0 0), one (.int .i64 n)] (rdH xs p) cont =
   bif decide (n <= 1) then none else bif decide (n <= 256) then (if rdOkB xs p = true then cont (shB (onceF xs p n).1) (rdH xs (onceF xs p n).2) else none) else none := by kernel_rfl
theorem orc_once : OrcOK NN Tryz.prog 43 (nO shB onceF) :=
  OrcOK.of_tale (cR_ok (A := Ash) (fuel := 5) rE2_ok rfl Tryz.func43 (by kernel_rfl)) fun ρ args H cont r h => by
    unfold nO at h; split at h
    · rename_i n xs p; exact (drw78 cont xs p n).trans h
    · contradiction
theorem onceP {xs : List Int} {p n : Int} (h : rdOkB xs p = true) : rdOkB xs (onceF xs p n).2 = true := nextP h
end Go.Abs
namespace Go.Abs
open Go.Proofs
set_option maxRecDepth 100000
def rBigN : Orc := fun ρ args H cont => match args, H with
  | [.v true [.bool s, .sl none (.int .u32) xs], .v true [.bool t, .sl none (.int .u32) ys]], [] => if zOk (s, xs) /\ zOk (t, ys) /\ zV (t, ys) ≠ 0 then cont (nm 1 (Rat.divInt (zV (s, xs)) (zV (t, ys)))) [] else none
  | _, _ => none
theorem orc_rBigN : OrcOK NN Tryz.prog 130 rBigN :=
  OrcOK.cv (orc125 NN) fun args H cont r h => by
    unfold rBigN at h; split at h
    · rename_i s xs t ys; split at h
      · rename_i hq; refine ⟨_, _, Cv.num (isL_ratL _), rfl, h, fun ρ' cont' => ?_⟩; show (if zOk (s, xs) /\ zOk (t, ys) /\ zV (t, ys) ≠ 0 then ofC cont' (Rat.divInt (zV (s, xs)) (zV (t, ys))) else none) = _; rw [if_pos hq, ofC_eq]
      · contradiction
    · contradiction
noncomputable def qE : Env := VL tryT [] [(131, zOfO), (130, rBigN), (121, lat1 szQ tupQ)]
theorem qE_ok : EnvOK NN Tryz.prog qE := VL_ok (TabOk.of tryT_ok) (gamC (orc132 NN) Tryz.call131 (gamC orc_rBigN Tryz.call130 (gamC orc30 Tryz.call121 (gamN _ _))))
theorem drw79 {ρ : Type} (cont : SV -> HL -> Option ρ) (a b : Int) : runF qE Ash 20 Tryz.f65 (bodyOf Tryz.f65) ρ [one (.int .i64 a), one (.int .i64 b)] [] cont =
    bif b == 0 then cont (tupB 0 0 false) [] else (if -9223372036854775808 <= a /\ a < 9223372036854775808 then (if -9223372036854775808 <= b /\ b < 9223372036854775808 then
      (if zOk (zD a) /\ zOk (zD b) /\ zV (zD b) ≠ 0 then (if szQ (Rat.divInt (zV (zD a)) (zV (zD b))) = true then cont (tupQ (Rat.divInt (zV (zD a)) (zV (zD b)))) [] else none) else none) else none) else none) := by kernel_rfl
def qofA (a b : Int) : Int := if b = 0 then 0 else qNum (Rat.divInt a b)
def qofB (a b : Int) : Int := if b = 0 then 0 else qDen (Rat.divInt a b)
def qofC (a b : Int) : Bool := if b = 0 then false else qFit (Rat.divInt a b)
def qofO : Orc := fun ρ args H cont => match args, H with
  | [.v false [.int .i64 a], .v false [.int .i64 b]], [] => if (-9223372036854775808 <= a /\ a < 9223372036854775808) /\ (-9223372036854775808 <= b /\ b < 9223372036854775808) then cont (tupB (qofA a b) (qofB a b) (qofC a b)) [] else none
  | _, _ => none
theorem divInt_le {n d : Int} (hd : d ≠ 0) : (Rat.divInt n d).num.natAbs <= n.natAbs /\ (Rat.divInt n d).den <= d.natAbs := by
  rcases Int.lt_trichotomy d 0 with h | h | h
  · have e : Rat.divInt n d = Rat.divInt (-n) (-d) := (Rat.neg_divInt_neg n d).symm; rw [e]; have := divInt_pos_le (n := -n) (d := -d) (by omega); omega
  · exact absurd h hd
  · exact divInt_pos_le h
theorem szQ_of {q : Rat} (h : q.num.natAbs < 18446744073709551616 /\ q.den < 18446744073709551616) : szQ q = true := by
  unfold szQ; have h1 := words_small h.1; have h2 := words_small h.2; rw [decide_eq_true (by omega), decide_eq_true (by omega)]; rfl
theorem orc_qof : OrcOK NN Tryz.prog 65 qofO :=
  OrcOK.of_tale (cR_ok (A := Ash) (fuel := 20) qE_ok rfl Tryz.func65 (by kernel_rfl)) fun ρ args H cont r h => by
    unfold qofO at h; split at h
    · rename_i a b; refine (drw79 cont a b).trans ?_; split at h
      · rename_i hq
        by_cases hb : b = 0
        · subst hb; exact h
        · have h1 := words_small (n := a.natAbs) (by omega); have h2 := words_small (n := b.natAbs) (by omega); have h3 := divInt_le (n := a) hb; rw [show (b == 0) = false from beq_eq_false_iff_ne.2 hb, cond_false, if_pos hq.1, if_pos hq.2, zV_zD, zV_zD, if_pos ⟨zOk_zD (by omega), zOk_zD (by omega), hb⟩, if_pos (szQ_of ⟨by omega, by omega⟩)]; unfold qofA qofB qofC at h; rw [if_neg hb, if_neg hb, if_neg hb] at h; exact h
      · contradiction
    · contradiction
theorem i64_rng (x : Int) : -9223372036854775808 <= IntKind.i64.wrap x /\ IntKind.i64.wrap x < 9223372036854775808 := by rw [IntKind.wrap_i64]; omega
theorem u64_rng (x : Int) : ¬ IntKind.u64.wrap x < 0 := by rw [IntKind.wrap_u64]; omega
def oddL : List Int := [0, 1, -1, 4611686018427387904, -4611686018427387904, 9223372036854775807, -9223372036854775808, 4294967296, 1000000000000000000, -1000000000000000000, 1000000000000000001, 1000000000]
theorem oddL_rng : ∀ x ∈ oddL, -9223372036854775808 <= x /\ x < 9223372036854775808 := by unfold oddL; simp
noncomputable def rE3 : Env := VL tryT [] [(63, nO shI belowF), (129, rO shI nextF), (66, rO shW wordF)]
theorem rE3_ok : EnvOK NN Tryz.prog rE3 := VL_ok (TabOk.of tryT_ok) (gamC orc_below Tryz.call63 (gamC orc_next Tryz.call129 (gamC orc_word Tryz.call66 (gamN _ _))))
theorem drw171 {ρ : Type} (cont : SV -> HL -> Option ρ) (xs : List Int) (p : Int) : runF rE3 Ash 20 Tryz.f64 (bodyOf Tryz.f64) ρ [one (.ptr 0 0)] (rdH xs p) cont =
  if rdOkB xs p = true then bif (belowF xs p 6).fst == 0 then if rdOkB xs (belowF xs p 6).snd = true then cont (SV.v false [Atom.int IntKind.i64 (IntKind.i64.wrap ((nextF xs (belowF xs p 6).snd).fst - 128))]) [Blk.var [Atom.sl none (Ty.int IntKind.u8) xs, Atom.int IntKind.i64 (nextF xs (belowF xs p 6).snd).snd]] else none else bif (belowF xs p 6).fst == 1 then if rdOkB xs (belowF xs p 6).snd = true
  then if 0 <= (belowF xs (belowF xs p 6).snd 12).fst /\ (belowF xs (belowF xs p 6).snd 12).fst < (oddL.length : Int) then oddL[0 + (belowF xs (belowF xs p 6).snd 12).fst.toNat]?.bind fun x => cont (SV.v false [Atom.int IntKind.i64 x]) [Blk.var [Atom.sl none (Ty.int IntKind.u8) xs, Atom.int IntKind.i64 (belowF xs (belowF xs p 6).snd 12).snd]] else none else none else bif (belowF xs p 6).fst == 2 then
  if rdOkB xs (belowF xs p 6).snd = true then cont (SV.v false [Atom.int IntKind.i64 (IntKind.i64.wrap (wordF xs (belowF xs p 6).snd).fst)]) [Blk.var [Atom.sl none (Ty.int IntKind.u8) xs, Atom.int IntKind.i64 (wordF xs (belowF xs p 6).snd).snd]] else none else bif (belowF xs p 6).fst == 3 then if rdOkB xs (belowF xs p 6).snd = true then if rdOkB xs (wordF xs (belowF xs p 6).snd).snd = true then if
  IntKind.u64.wrap (IntKind.i64.wrap (5 + (belowF xs (wordF xs (belowF xs p 6).snd).snd 55).fst)) < 0 then none else cont (SV.v false [Atom.int IntKind.i64 (IntKind.i64.wrap ((wordF xs (belowF xs p 6).snd).fst.fdiv (2 ^ min (IntKind.u64.wrap (IntKind.i64.wrap (5 + (belowF xs (wordF xs (belowF xs p 6).snd).snd 55).fst))).toNat IntKind.u64.bits)))]) [Blk.var [Atom.sl none (Ty.int IntKind.u8) xs,
  Atom.int IntKind.i64 (belowF xs (wordF xs (belowF xs p 6).snd).snd 55).snd]] else none else none else if rdOkB xs (belowF xs p 6).snd = true then cont (SV.v false [Atom.int IntKind.i64 ((nextF xs (belowF xs p 6).snd).fst.tmod 20)]) [Blk.var [Atom.sl none (Ty.int IntKind.u8) xs, Atom.int IntKind.i64 (nextF xs (belowF xs p 6).snd).snd]] else none else none := by kernel_rfl
theorem int_ok : ∃ f : List Int -> Int -> Int × Int, OrcOK NN Tryz.prog 64 (rO shI f) /\ ∀ xs p, rdOkB xs p = true -> (-9223372036854775808 <= (f xs p).1 /\ (f xs p).1 < 9223372036854775808) /\ rdOkB xs (f xs p).2 = true :=
  rO_ok (cR_ok (A := Ash) (fuel := 20) rE3_ok rfl Tryz.func64 (by kernel_rfl)) shI (fun x => -9223372036854775808 <= x /\ x < 9223372036854775808) fun xs p h => by
    have hb := belowP (n := 6) h; cases h0 : (belowF xs p 6).fst == 0
    · cases h1 : (belowF xs p 6).fst == 1
      · cases h2 : (belowF xs p 6).fst == 2
        · cases h3 : (belowF xs p 6).fst == 3
          · have hn := nextR hb; exact ⟨(nextF xs (belowF xs p 6).snd).fst.tmod 20, (nextF xs (belowF xs p 6).snd).snd, by have h1 := Int.tmod_nonneg 20 hn.1; have h2 := Int.tmod_lt_of_pos (nextF xs (belowF xs p 6).snd).fst (show (0 : Int) < 20 by decide); omega, nextP hb, fun ρ cont => (drw171 cont xs p).trans (by
              rw [if_pos h, h0, h1, h2, h3, cond_false, cond_false, cond_false, cond_false, if_pos hb]; rfl)⟩
          · have hw := wordP hb; exact ⟨_, (belowF xs (wordF xs (belowF xs p 6).snd).snd 55).snd, i64_rng _, belowP hw, fun ρ cont => (drw171 cont xs p).trans (by
              rw [if_pos h, h0, h1, h2, h3, cond_false, cond_false, cond_false, cond_true, if_pos hb, if_pos hw, if_neg (u64_rng _)]; rfl)⟩
        · exact ⟨_, (wordF xs (belowF xs p 6).snd).snd, i64_rng _, wordP hb, fun ρ cont => (drw171 cont xs p).trans (by
            rw [if_pos h, h0, h1, h2, cond_false, cond_false, cond_true, if_pos hb]; rfl)⟩
      · have hn := belowR (n := 12) hb (by decide); have hl : 0 + (belowF xs (belowF xs p 6).snd 12).fst.toNat < oddL.length := by
          show _ < 12; omega
        have hn12 : (belowF xs (belowF xs p 6).snd 12).fst < (oddL.length : Int) := by
          show _ < ((12 : Nat) : Int); omega
        exact ⟨oddL[0 + (belowF xs (belowF xs p 6).snd 12).fst.toNat], (belowF xs (belowF xs p 6).snd 12).snd, oddL_rng _ (List.getElem_mem hl), belowP hb, fun ρ cont => (drw171 cont xs p).trans (by
          rw [if_pos h, h0, h1, cond_false, cond_true, if_pos hb, if_pos ⟨hn.1, hn12⟩, List.getElem?_eq_getElem hl]; rfl)⟩
    · exact ⟨_, (nextF xs (belowF xs p 6).snd).snd, i64_rng _, nextP hb, fun ρ cont => (drw171 cont xs p).trans (by
        rw [if_pos h, h0, cond_true, if_pos hb]; rfl)⟩
noncomputable def intF := int_ok.choose
theorem orc_int : OrcOK NN Tryz.prog 64 (rO shI intF) := int_ok.choose_spec.1
theorem intR {xs : List Int} {p : Int} (h : rdOkB xs p = true) : -9223372036854775808 <= (intF xs p).1 /\ (intF xs p).1 < 9223372036854775808 := (int_ok.choose_spec.2 xs p h).1
theorem intP {xs : List Int} {p : Int} (h : rdOkB xs p = true) : rdOkB xs (intF xs p).2 = true := (int_ok.choose_spec.2 xs p h).2
def shQ (q : Int × Int) : SV := sQ q.1 q.2
noncomputable def rE4 : Env := VL tryT [] [(63, nO shI belowF), (43, nO shB onceF), (65, qofO)]
theorem rE4_ok : EnvOK NN Tryz.prog rE4 := VL_ok (TabOk.of tryT_ok) (gamC orc_below Tryz.call63 (gamC orc_once Tryz.call43 (gamC orc_qof Tryz.call65 (gamN _ _))))
theorem drw173 {ρ : Type} (cont : SV -> HL -> Option ρ) (xs : List Int) (p : Int) : runF rE4 Ash 20 Tryz.f67 (bodyOf Tryz.f67) ρ [one (.ptr 0 0)] (rdH xs p) cont =
  if rdOkB xs p = true then bif (onceF xs p 4).fst then if rdOkB xs (onceF xs p 4).snd = true then if rdOkB xs (belowF xs (onceF xs p 4).snd 6).snd = true then if (-9223372036854775808 <= IntKind.i64.wrap ((belowF xs (belowF xs (onceF xs p 4).snd 6).snd 25).fst - 8) /\ IntKind.i64.wrap ((belowF xs (belowF xs (onceF xs p 4).snd 6).snd 25).fst - 8) < 9223372036854775808) /\ -9223372036854775808 <=
  IntKind.i64.wrap (1 + (belowF xs (onceF xs p 4).snd 6).fst) /\ IntKind.i64.wrap (1 + (belowF xs (onceF xs p 4).snd 6).fst) < 9223372036854775808 then cont (SV.v true [Atom.int IntKind.i64 (qofA (IntKind.i64.wrap ((belowF xs (belowF xs (onceF xs p 4).snd 6).snd 25).fst - 8)) (IntKind.i64.wrap (1 + (belowF xs (onceF xs p 4).snd 6).fst))), Atom.int IntKind.i64 (qofB (IntKind.i64.wrap ((belowF xs
  (belowF xs (onceF xs p 4).snd 6).snd 25).fst - 8)) (IntKind.i64.wrap (1 + (belowF xs (onceF xs p 4).snd 6).fst)))]) [Blk.var [Atom.sl none (Ty.int IntKind.u8) xs, Atom.int IntKind.i64 (belowF xs (belowF xs (onceF xs p 4).snd 6).snd 25).snd]] else none else none else none else if rdOkB xs (onceF xs p 4).snd = true then if (-9223372036854775808 <= IntKind.i64.wrap ((belowF xs (onceF xs p 4).snd
  25).fst - 8) /\ IntKind.i64.wrap ((belowF xs (onceF xs p 4).snd 25).fst - 8) < 9223372036854775808) /\ (-9223372036854775808 : Int) <= 1 /\ (1 : Int) < 9223372036854775808 then cont (SV.v true [Atom.int IntKind.i64 (qofA (IntKind.i64.wrap ((belowF xs (onceF xs p 4).snd 25).fst - 8)) 1), Atom.int IntKind.i64 (qofB (IntKind.i64.wrap ((belowF xs (onceF xs p 4).snd 25).fst - 8)) 1)]) [Blk.var [Atom.sl
  none (Ty.int IntKind.u8) xs, Atom.int IntKind.i64 (belowF xs (onceF xs p 4).snd 25).snd]] else none else none else none := by kernel_rfl
theorem one_rng : (-9223372036854775808 : Int) <= 1 /\ (1 : Int) < 9223372036854775808 := by decide
theorem drawQ_ok : ∃ f : List Int -> Int -> (Int × Int) × Int, OrcOK NN Tryz.prog 67 (rO shQ f) /\ ∀ xs p, rdOkB xs p = true -> True /\ rdOkB xs (f xs p).2 = true :=
  rO_ok (cR_ok (A := Ash) (fuel := 20) rE4_ok rfl Tryz.func67 (by kernel_rfl)) shQ (fun x => True) fun xs p h => by
    have ho := onceP (n := 4) h; cases h0 : (onceF xs p 4).fst
    · exact ⟨(_, _), (belowF xs (onceF xs p 4).snd 25).snd, trivial, belowP ho, fun ρ cont => (drw173 cont xs p).trans (by
        rw [if_pos h, h0, cond_false, if_pos ho, if_pos ⟨i64_rng _, one_rng⟩]; rfl)⟩
    · have hb := belowP (n := 6) ho; exact ⟨(_, _), (belowF xs (belowF xs (onceF xs p 4).snd 6).snd 25).snd, trivial, belowP hb, fun ρ cont => (drw173 cont xs p).trans (by
        rw [if_pos h, h0, cond_true, if_pos ho, if_pos hb, if_pos ⟨i64_rng _, i64_rng _⟩]; rfl)⟩
noncomputable def drawQF := drawQ_ok.choose
theorem orc_drawQ : OrcOK NN Tryz.prog 67 (rO shQ drawQF) := drawQ_ok.choose_spec.1
theorem drawQP {xs : List Int} {p : Int} (h : rdOkB xs p = true) : rdOkB xs (drawQF xs p).2 = true := (drawQ_ok.choose_spec.2 xs p h).2
noncomputable def rE5 : Env := VL tryT [] [(63, nO shI belowF), (64, rO shI intF), (65, qofO), (66, rO shW wordF), (67, rO shQ drawQF)]
theorem rE5_ok : EnvOK NN Tryz.prog rE5 := VL_ok (TabOk.of tryT_ok) (gamC orc_below Tryz.call63 (gamC orc_int Tryz.call64 (gamC orc_qof Tryz.call65 (gamC orc_word Tryz.call66 (gamC orc_drawQ Tryz.call67 (gamN _ _))))))
theorem drw76 {ρ : Type} (cont : SV -> HL -> Option ρ) (xs : List Int) (p : Int) : runF rE5 Ash 20 Tryz.f20 (bodyOf Tryz.f20) ρ [one (.ptr 0 0)] (rdH xs p) cont =
  if rdOkB xs p = true then bif (belowF xs p 8).fst == 0 then if rdOkB xs (belowF xs p 8).snd = true then if rdOkB xs (intF xs (belowF xs p 8).snd).snd = true then if (-9223372036854775808 <= (intF xs (belowF xs p 8).snd).fst /\ (intF xs (belowF xs p 8).snd).fst < 9223372036854775808) /\ -9223372036854775808 <= (intF xs (intF xs (belowF xs p 8).snd).snd).fst /\ (intF xs (intF xs (belowF xs p
  8).snd).snd).fst < 9223372036854775808 then bif qofC (intF xs (belowF xs p 8).snd).fst (intF xs (intF xs (belowF xs p 8).snd).snd).fst then cont (SV.v true [Atom.int IntKind.i64 (qofA (intF xs (belowF xs p 8).snd).fst (intF xs (intF xs (belowF xs p 8).snd).snd).fst), Atom.int IntKind.i64 (qofB (intF xs (belowF xs p 8).snd).fst (intF xs (intF xs (belowF xs p 8).snd).snd).fst)]) [Blk.var [Atom.sl
  none (Ty.int IntKind.u8) xs, Atom.int IntKind.i64 (intF xs (intF xs (belowF xs p 8).snd).snd).snd]] else cont (SV.v true [Atom.int IntKind.i64 1, Atom.int IntKind.i64 3]) [Blk.var [Atom.sl none (Ty.int IntKind.u8) xs, Atom.int IntKind.i64 (intF xs (intF xs (belowF xs p 8).snd).snd).snd]] else none else none else none else bif (belowF xs p 8).fst == 1 then if rdOkB xs (belowF xs p 8).snd = true
  then if rdOkB xs (intF xs (belowF xs p 8).snd).snd = true then cont (SV.v true [Atom.int IntKind.i64 (intF xs (belowF xs p 8).snd).fst, Atom.int IntKind.i64 (intF xs (intF xs (belowF xs p 8).snd).snd).fst]) [Blk.var [Atom.sl none (Ty.int IntKind.u8) xs, Atom.int IntKind.i64 (intF xs (intF xs (belowF xs p 8).snd).snd).snd]] else none else none else bif (belowF xs p 8).fst == 2 then if rdOkB xs
  (belowF xs p 8).snd = true then if rdOkB xs (wordF xs (belowF xs p 8).snd).snd = true then if rdOkB xs (wordF xs (wordF xs (belowF xs p 8).snd).snd).snd = true then if IntKind.u64.wrap (IntKind.i64.wrap (5 + (belowF xs (wordF xs (wordF xs (belowF xs p 8).snd).snd).snd 50).fst)) < 0 then none else if (-9223372036854775808 <= IntKind.i64.wrap ((wordF xs (belowF xs p 8).snd).fst.fdiv (2 ^ min
  (Int.toNat 5) IntKind.u64.bits)) /\ IntKind.i64.wrap ((wordF xs (belowF xs p 8).snd).fst.fdiv (2 ^ min (Int.toNat 5) IntKind.u64.bits)) < 9223372036854775808) /\ -9223372036854775808 <= IntKind.i64.wrap ((wordF xs (wordF xs (belowF xs p 8).snd).snd).fst.fdiv (2 ^ min (IntKind.u64.wrap (IntKind.i64.wrap (5 + (belowF xs (wordF xs (wordF xs (belowF xs p 8).snd).snd).snd 50).fst))).toNat
  IntKind.u64.bits)) /\ IntKind.i64.wrap ((wordF xs (wordF xs (belowF xs p 8).snd).snd).fst.fdiv (2 ^ min (IntKind.u64.wrap (IntKind.i64.wrap (5 + (belowF xs (wordF xs (wordF xs (belowF xs p 8).snd).snd).snd 50).fst))).toNat IntKind.u64.bits)) < 9223372036854775808 then bif qofC (IntKind.i64.wrap ((wordF xs (belowF xs p 8).snd).fst.fdiv (2 ^ min (Int.toNat 5) IntKind.u64.bits))) (IntKind.i64.wrap
  ((wordF xs (wordF xs (belowF xs p 8).snd).snd).fst.fdiv (2 ^ min (IntKind.u64.wrap (IntKind.i64.wrap (5 + (belowF xs (wordF xs (wordF xs (belowF xs p 8).snd).snd).snd 50).fst))).toNat IntKind.u64.bits))) then cont (SV.v true [Atom.int IntKind.i64 (qofA (IntKind.i64.wrap ((wordF xs (belowF xs p 8).snd).fst.fdiv (2 ^ min (Int.toNat 5) IntKind.u64.bits))) (IntKind.i64.wrap ((wordF xs (wordF xs
  (belowF xs p 8).snd).snd).fst.fdiv (2 ^ min (IntKind.u64.wrap (IntKind.i64.wrap (5 + (belowF xs (wordF xs (wordF xs (belowF xs p 8).snd).snd).snd 50).fst))).toNat IntKind.u64.bits)))), Atom.int IntKind.i64 (qofB (IntKind.i64.wrap ((wordF xs (belowF xs p 8).snd).fst.fdiv (2 ^ min (Int.toNat 5) IntKind.u64.bits))) (IntKind.i64.wrap ((wordF xs (wordF xs (belowF xs p 8).snd).snd).fst.fdiv (2 ^ min
  (IntKind.u64.wrap (IntKind.i64.wrap (5 + (belowF xs (wordF xs (wordF xs (belowF xs p 8).snd).snd).snd 50).fst))).toNat IntKind.u64.bits))))]) [Blk.var [Atom.sl none (Ty.int IntKind.u8) xs, Atom.int IntKind.i64 (belowF xs (wordF xs (wordF xs (belowF xs p 8).snd).snd).snd 50).snd]] else cont (SV.v true [Atom.int IntKind.i64 (-1000000000000000000), Atom.int IntKind.i64 1]) [Blk.var [Atom.sl none
  (Ty.int IntKind.u8) xs, Atom.int IntKind.i64 (belowF xs (wordF xs (wordF xs (belowF xs p 8).snd).snd).snd 50).snd]] else none else none else none else none else if rdOkB xs (belowF xs p 8).snd = true then cont (SV.v true [Atom.int IntKind.i64 (drawQF xs (belowF xs p 8).snd).fst.fst, Atom.int IntKind.i64 (drawQF xs (belowF xs p 8).snd).fst.snd]) [Blk.var [Atom.sl none (Ty.int IntKind.u8) xs,
  Atom.int IntKind.i64 (drawQF xs (belowF xs p 8).snd).snd]] else none else none := by kernel_rfl
theorem any_ok : ∃ f : List Int -> Int -> (Int × Int) × Int, OrcOK NN Tryz.prog 20 (rO shQ f) /\ ∀ xs p, rdOkB xs p = true -> True /\ rdOkB xs (f xs p).2 = true :=
  rO_ok (cR_ok (A := Ash) (fuel := 20) rE5_ok rfl Tryz.func20 (by kernel_rfl)) shQ (fun x => True) fun xs p h => by
    have hb := belowP (n := 8) h; have hi := intP hb; have hw := wordP hb; have hw2 := wordP hw; cases h0 : (belowF xs p 8).fst == 0
    · cases h1 : (belowF xs p 8).fst == 1
      · cases h2 : (belowF xs p 8).fst == 2
        · exact ⟨(_, _), (drawQF xs (belowF xs p 8).snd).snd, trivial, drawQP hb, fun ρ cont => (drw76 cont xs p).trans (by
            rw [if_pos h, h0, h1, h2, cond_false, cond_false, cond_false, if_pos hb]; rfl)⟩
        · cases h3 : qofC (IntKind.i64.wrap ((wordF xs (belowF xs p 8).snd).fst.fdiv (2 ^ min (Int.toNat 5) IntKind.u64.bits))) (IntKind.i64.wrap ((wordF xs (wordF xs (belowF xs p 8).snd).snd).fst.fdiv (2 ^ min (IntKind.u64.wrap (IntKind.i64.wrap (5 + (belowF xs (wordF xs (wordF xs (belowF xs p 8).snd).snd).snd 50).fst))).toNat IntKind.u64.bits)))
          · exact ⟨(_, _), (belowF xs (wordF xs (wordF xs (belowF xs p 8).snd).snd).snd 50).snd, trivial, belowP hw2, fun ρ cont => (drw76 cont xs p).trans (by
              rw [if_pos h, h0, h1, h2, cond_false, cond_false, cond_true, if_pos hb, if_pos hw, if_pos hw2, if_neg (u64_rng _), if_pos ⟨i64_rng _, i64_rng _⟩, h3, cond_false]; rfl)⟩
          · exact ⟨(_, _), (belowF xs (wordF xs (wordF xs (belowF xs p 8).snd).snd).snd 50).snd, trivial, belowP hw2, fun ρ cont => (drw76 cont xs p).trans (by
              rw [if_pos h, h0, h1, h2, cond_false, cond_false, cond_true, if_pos hb, if_pos hw, if_pos hw2, if_neg (u64_rng _), if_pos ⟨i64_rng _, i64_rng _⟩, h3, cond_true]; rfl)⟩
      · exact ⟨((intF xs (belowF xs p 8).snd).fst, (intF xs (intF xs (belowF xs p 8).snd).snd).fst), (intF xs (intF xs (belowF xs p 8).snd).snd).snd, trivial, intP hi, fun ρ cont => (drw76 cont xs p).trans (by
          rw [if_pos h, h0, h1, cond_false, cond_true, if_pos hb, if_pos hi]; rfl)⟩
    · cases h3 : qofC (intF xs (belowF xs p 8).snd).fst (intF xs (intF xs (belowF xs p 8).snd).snd).fst
      · exact ⟨(_, _), (intF xs (intF xs (belowF xs p 8).snd).snd).snd, trivial, intP hi, fun ρ cont => (drw76 cont xs p).trans (by
          rw [if_pos h, h0, cond_true, if_pos hb, if_pos hi, if_pos ⟨intR hb, intR hi⟩, h3, cond_false]; rfl)⟩
      · exact ⟨(_, _), (intF xs (intF xs (belowF xs p 8).snd).snd).snd, trivial, intP hi, fun ρ cont => (drw76 cont xs p).trans (by
          rw [if_pos h, h0, cond_true, if_pos hb, if_pos hi, if_pos ⟨intR hb, intR hi⟩, h3, cond_true]; rfl)⟩
noncomputable def anyF := any_ok.choose
theorem orc_any : OrcOK NN Tryz.prog 20 (rO shQ anyF) := any_ok.choose_spec.1
theorem anyP {xs : List Int} {p : Int} (h : rdOkB xs p = true) : rdOkB xs (anyF xs p).2 = true := (any_ok.choose_spec.2 xs p h).2
structure Two where
  a : Int
  b : Int
  c : Int
  d : Int
end Go.Abs
namespace Go.Abs
open Go.Proofs
set_option maxRecDepth 100000
theorem szQ_q {a b : Int} (h : qOkB a b = true) : szQ (Rat.divInt a b) = true := by
  obtain ⟨h1, h2, h3, h4, h5⟩ := qOkB_iff.1 h; have := divInt_le (n := a) (d := b) (by omega); exact szQ_of ⟨by omega, by omega⟩
def ok2 (a b c d : Int) : Bool := qOkB a b && qOkB c d
def opN (g : Int -> Int -> Int -> Int -> Bool) (f : Rat -> Rat -> Rat) (a b c d : Int) : Int := bif g a b c d then qNum (f (Rat.divInt a b) (Rat.divInt c d)) else 0
def opD (g : Int -> Int -> Int -> Int -> Bool) (f : Rat -> Rat -> Rat) (a b c d : Int) : Int := bif g a b c d then qDen (f (Rat.divInt a b) (Rat.divInt c d)) else 0
def opT (g : Int -> Int -> Int -> Int -> Bool) (f : Rat -> Rat -> Rat) (a b c d : Int) : Bool := bif g a b c d then qFit (f (Rat.divInt a b) (Rat.divInt c d)) else false
def opO (g : Int -> Int -> Int -> Int -> Bool) (f : Rat -> Rat -> Rat) : Orc := fun ρ args H cont => match args, H with
  | [.v true [.int .i64 a, .int .i64 b], .v true [.int .i64 c, .int .i64 d]], [] => cont (tupB (opN g f a b c d) (opD g f a b c d) (opT g f a b c d)) []
  | _, _ => none
theorem q_rt {a b : Int} (h : qOkB a b = true) : (Rat.divInt a b).num = a /\ ((Rat.divInt a b).den : Int) = b := by
  obtain ⟨h1, h2, h3, h4, h5⟩ := qOkB_iff.1 h; obtain ⟨k1, k2⟩ := divInt_pos a b (by omega); rw [h5, Int.natCast_one, Int.ediv_one] at k1 k2; exact ⟨k1, k2⟩
end Go.Abs
namespace Go.Abs
open Go.Proofs
set_option maxRecDepth 100000
end Go.Abs
namespace Go.Abs
open Go.Proofs
set_option maxRecDepth 100000
end Go.Abs
namespace Go.Abs
open Go.Proofs
set_option maxRecDepth 100000
end Go.Abs
namespace Go.Abs
open Go.Proofs
set_option maxRecDepth 100000
end Go.Abs
namespace Go.Abs
open Go.Proofs
set_option maxRecDepth 100000
end Go.Abs
namespace Go.Abs
open Go.Proofs
set_option maxRecDepth 100000
end Go.Abs
namespace Go.Abs
open Go.Proofs
set_option maxRecDepth 100000
end Go.Abs
namespace Go.Abs
open Go.Proofs
set_option maxRecDepth 100000
def pls (p q : Rat) : Rat := p + q
theorem fit_ok {r : Rat} (h : qFit r = true) : qOkB (qNum r) (qDen r) = true /\ Rat.divInt (qNum r) (qDen r) = r := by
  have h' : r.num.natAbs <= 1000000000000000000 /\ r.den <= 1000000000000000000 := of_decide_eq_true h; have e1 : qNum r = r.num := by unfold qNum; rw [if_pos h']
  have e2 : qDen r = r.den := by unfold qDen; rw [if_pos h']
  have h3 := r.den_pos; have h4 : Int.gcd r.num r.den = 1 := r.reduced; rw [e1, e2]; exact ⟨qOkB_iff.2 ⟨by omega, by omega, by omega, by omega, h4⟩, Rat.num_divInt_den r⟩
theorem ok_fit {a b : Int} (h : qOkB a b = true) : qFit (Rat.divInt a b) = true /\ qNum (Rat.divInt a b) = a /\ qDen (Rat.divInt a b) = b := by
  obtain ⟨h1, h2, h3, h4, h5⟩ := qOkB_iff.1 h; obtain ⟨k1, k2⟩ := q_rt h; have h' : (Rat.divInt a b).num.natAbs <= 1000000000000000000 /\ (Rat.divInt a b).den <= 1000000000000000000 := by omega
  unfold qFit qNum qDen; rw [if_pos h', if_pos h']; exact ⟨decide_eq_true h', k1, k2⟩
section
variable {g : Int -> Int -> Int -> Int -> Bool} {f : Rat -> Rat -> Rat} {a b c d : Int}
end
end Go.Abs
namespace Go.Abs
open Go.Proofs
set_option maxRecDepth 100000
end Go.Abs
namespace Go.Abs
open Go.Proofs
set_option maxRecDepth 100000
end Go.Abs
namespace Go.Abs
open Go.Proofs
set_option maxRecDepth 100000
end Go.Abs
namespace Go.Abs
open Go.Proofs
set_option maxRecDepth 100000
end Go.Abs
namespace Go.Abs
open Go.Proofs
set_option maxRecDepth 100000
end Go.Abs
namespace Go.Abs
theorem cmpQ_lt {p q : Rat} : cmpQ p q < 0 ↔ p < q := by
  unfold cmpQ; rw [Rat.lt_iff, Int.sign_neg_iff]; omega
theorem cmpQ_gt {p q : Rat} : 0 < cmpQ p q ↔ q < p := by
  unfold cmpQ; rw [Rat.lt_iff, Int.sign_pos_iff]; omega
theorem cmpQ_eq {p q : Rat} : cmpQ p q = 0 ↔ p = q := by
  unfold cmpQ; rw [Int.sign_eq_zero_iff_zero]; have h1 := @cmpQ_lt p q; have h2 := @cmpQ_gt p q; constructor
  · intro h; have := @Rat.lt_iff p q; have := @Rat.lt_iff q p; have := Rat.not_lt (a := p) (b := q); have := Rat.not_lt (a := q) (b := p); apply Rat.le_antisymm
    · grind
    · grind
  · rintro rfl; omega
theorem sgnQ_lt {p : Rat} : Int.sign p.num < 0 ↔ p < 0 := by
  rw [Int.sign_neg_iff, Rat.lt_iff]; simp
theorem sgnQ_eq {p : Rat} : Int.sign p.num = 0 ↔ p = 0 := by
  rw [Int.sign_eq_zero_iff_zero]; exact Rat.num_eq_zero
end Go.Abs
namespace Go.Abs
structure Pl where
  x : Rat
  y : Rat
theorem Pl.ext' {p q : Pl} (h1 : p.x = q.x) (h2 : p.y = q.y) : p = q := by cases p; cases q; simp_all
instance : DecidableEq Pl := fun p q => decidable_of_iff (p.x = q.x /\ p.y = q.y) ⟨fun h => Pl.ext' h.1 h.2, fun h => by rw [h]; exact ⟨rfl, rfl⟩⟩
def crP (a b : Pl) : Rat := a.x * b.y - a.y * b.x
def sbP (a b : Pl) : Pl := ⟨a.x - b.x, a.y - b.y⟩
def adP (a b : Pl) : Pl := ⟨a.x + b.x, a.y + b.y⟩
def tmP (a : Pl) (t : Rat) : Pl := ⟨a.x * t, a.y * t⟩
def lxP (a b : Pl) : Prop := a.x < b.x \/ a.x = b.x /\ a.y < b.y
instance (a b : Pl) : Decidable (lxP a b) := by unfold lxP; infer_instance
theorem lx_tri (a b : Pl) : lxP a b \/ a = b \/ lxP b a := by
  have : a = b ↔ a.x = b.x /\ a.y = b.y := ⟨fun h => by rw [h]; exact ⟨rfl, rfl⟩, fun h => Pl.ext' h.1 h.2⟩; unfold lxP; grind
theorem lx_irr (a : Pl) : ¬ lxP a a := by unfold lxP; grind
theorem lx_trans {a b c : Pl} (h : lxP a b) (h' : lxP b c) : lxP a c := by unfold lxP at *; grind
theorem lx_asym {a b : Pl} (h : lxP a b) : ¬ lxP b a := by unfold lxP at *; grind
def loP (a b : Pl) : Pl := if lxP b a then b else a
def hiP (a b : Pl) : Pl := if lxP b a then a else b
def mxP (p x : Pl) : Pl := if lxP p x then x else p
def mnP (q y : Pl) : Pl := if lxP y q then y else q
def mtT (a b c d : Pl) : Rat := crP (sbP c a) (sbP d c) / crP (sbP b a) (sbP d c)
def mtS (a b c d : Pl) : Rat := crP (sbP c a) (sbP b a) / crP (sbP b a) (sbP d c)
def mtP (a b c d : Pl) : Option (Bool × Pl × Pl) :=
  if crP (sbP b a) (sbP d c) = 0 then (if crP (sbP b a) (sbP c a) = 0 then
    (if lxP (mnP (hiP a b) (hiP c d)) (mxP (loP a b) (loP c d)) then none else if mxP (loP a b) (loP c d) = mnP (hiP a b) (hiP c d) then some (false, mxP (loP a b) (loP c d), mxP (loP a b) (loP c d)) else some (true, mxP (loP a b) (loP c d), mnP (hiP a b) (hiP c d))) else none)
  else if mtT a b c d < 0 \/ mtS a b c d < 0 \/ 1 < mtT a b c d \/ 1 < mtS a b c d then none else some (false, adP a (tmP (sbP b a) (mtT a b c d)), adP a (tmP (sbP b a) (mtT a b c d)))
def btw (e a b : Rat) : Prop := (a <= e \/ b <= e) /\ (e <= a \/ e <= b)
instance (e a b : Rat) : Decidable (btw e a b) := by unfold btw; infer_instance
def onP (e a b : Pl) : Prop := btw e.x a.x b.x /\ btw e.y a.y b.y /\ crP (sbP b a) (sbP e a) = 0
instance (e a b : Pl) : Decidable (onP e a b) := by unfold onP; infer_instance
theorem div_ge {a b : Rat} (h : 0 < b) (h' : 0 <= a) : 0 <= a / b := by
  rw [<- Rat.not_lt, Rat.div_lt_iff h]; grind
theorem div_le1 {a b : Rat} (h : 0 < b) (h' : a <= b) : a / b <= 1 := by
  rw [<- Rat.not_lt, Rat.lt_div_iff h]; grind
theorem par1 {e a b : Rat} (h : btw e a b) (hab : a ≠ b) : ∃ t : Rat, 0 <= t /\ t <= 1 /\ e = a + (b - a) * t := by
  unfold btw at h; have hn : b - a ≠ 0 := by grind
  refine ⟨(e - a) / (b - a), ?_, ?_, by grind⟩
  · rcases (show a < b \/ b < a by grind) with h1 | h1
    · exact div_ge (by grind) (by grind)
    · have : (e - a) / (b - a) = (a - e) / (a - b) := by grind
      rw [this]; exact div_ge (by grind) (by grind)
  · rcases (show a < b \/ b < a by grind) with h1 | h1
    · exact div_le1 (by grind) (by grind)
    · have : (e - a) / (b - a) = (a - e) / (a - b) := by grind
      rw [this]; exact div_le1 (by grind) (by grind)
theorem mul_btw {a b t : Rat} (h0 : 0 <= t) (h1 : t <= 1) : btw (a + (b - a) * t) a b := by
  unfold btw; rcases (show a <= b \/ b <= a by grind) with h | h
  · have k1 : 0 <= (b - a) * t := Rat.mul_nonneg (by grind) h0; have k2 : 0 <= (b - a) * (1 - t) := Rat.mul_nonneg (by grind) (by grind)
    grind
  · have k1 : 0 <= (a - b) * t := Rat.mul_nonneg (by grind) h0; have k2 : 0 <= (a - b) * (1 - t) := Rat.mul_nonneg (by grind) (by grind)
    grind
theorem on_par {e a b : Pl} (hab : a ≠ b) : onP e a b ↔ ∃ t : Rat, 0 <= t /\ t <= 1 /\ e.x = a.x + (b.x - a.x) * t /\ e.y = a.y + (b.y - a.y) * t := by
  constructor
  · rintro ⟨h1, h2, h3⟩
    unfold crP sbP at h3; simp only at h3
    by_cases hx : a.x = b.x
    · have hy : a.y ≠ b.y := fun h => hab (Pl.ext' hx h)
      obtain ⟨t, t0, t1, te⟩ := par1 h2 hy; refine ⟨t, t0, t1, ?_, te⟩; unfold btw at h1
      grind
    · obtain ⟨t, t0, t1, te⟩ := par1 h1 hx; refine ⟨t, t0, t1, te, ?_⟩; have hn : b.x - a.x ≠ 0 := by grind
      have : (b.x - a.x) * (e.y - a.y - (b.y - a.y) * t) = 0 := by grind
      rcases Rat.mul_eq_zero.1 this with h | h <;> grind
  · rintro ⟨t, t0, t1, h1, h2⟩
    refine ⟨h1 ▸ mul_btw t0 t1, h2 ▸ mul_btw t0 t1, ?_⟩; unfold crP sbP; simp only; rw [h1, h2]
    grind
theorem crs {a b c : Pl} : crP (sbP b a) (sbP c a) = (b.x - a.x) * (c.y - a.y) - (b.y - a.y) * (c.x - a.x) := rfl
theorem on_lx {e a b : Pl} (hab : lxP a b) : onP e a b ↔ crP (sbP b a) (sbP e a) = 0 /\ ¬ lxP e a /\ ¬ lxP b e := by
  have hne : a ≠ b := fun h => by rw [h] at hab; exact lx_irr _ hab
  constructor
  · intro h; refine ⟨h.2.2, ?_⟩; obtain ⟨t, t0, t1, h1, h2⟩ := (on_par hne).1 h; unfold lxP at *; rcases hab with h | ⟨h, h'⟩
    · have k1 : 0 <= (b.x - a.x) * t := Rat.mul_nonneg (by grind) t0; have k2 : 0 <= (b.x - a.x) * (1 - t) := Rat.mul_nonneg (by grind) (by grind); have k3 : e.x = a.x -> t = 0 := fun he => by
        have : (b.x - a.x) * t = 0 := by grind
        rcases Rat.mul_eq_zero.1 this with h | h <;> grind
      have k4 : e.x = b.x -> t = 1 := fun he => by
        have : (b.x - a.x) * (1 - t) = 0 := by grind
        rcases Rat.mul_eq_zero.1 this with h | h <;> grind
      constructor
      · rintro (h3 | ⟨h3, h4⟩)
        · grind
        · have := k3 h3; grind
      · rintro (h3 | ⟨h3, h4⟩)
        · grind
        · have := k4 h3.symm; grind
    · have k1 : 0 <= (b.y - a.y) * t := Rat.mul_nonneg (by grind) t0; have k2 : 0 <= (b.y - a.y) * (1 - t) := Rat.mul_nonneg (by grind) (by grind)
      grind
  · rintro ⟨h1, h2, h3⟩
    refine (on_par hne).2 ?_; rw [crs] at h1; unfold lxP at hab h2 h3; rcases hab with h | ⟨h, h'⟩
    · have hb : btw e.x a.x b.x := by unfold btw; grind
      obtain ⟨t, t0, t1, te⟩ := par1 hb (by grind); refine ⟨t, t0, t1, te, ?_⟩; have : (b.x - a.x) * (e.y - a.y - (b.y - a.y) * t) = 0 := by grind
      rcases Rat.mul_eq_zero.1 this with h | h <;> grind
    · have hx : e.x = a.x := by
        have : (b.y - a.y) * (e.x - a.x) = 0 := by grind
        rcases Rat.mul_eq_zero.1 this with h | h <;> grind
      have hb : btw e.y a.y b.y := by unfold btw; grind
      obtain ⟨t, t0, t1, te⟩ := par1 hb (by grind); exact ⟨t, t0, t1, by grind, te⟩
theorem on_sym {e a b : Pl} (hab : a ≠ b) : onP e a b ↔ onP e b a := by
  have key : ∀ a b : Pl, a ≠ b -> onP e a b -> onP e b a := fun a b hab h => by
    obtain ⟨t, t0, t1, h1, h2⟩ := (on_par hab).1 h; exact (on_par hab.symm).2 ⟨1 - t, by grind, by grind, by grind, by grind⟩
  exact ⟨key a b hab, key b a hab.symm⟩
theorem on_lohi {e a b : Pl} (hab : a ≠ b) : onP e a b ↔ crP (sbP b a) (sbP e a) = 0 /\ ¬ lxP e (loP a b) /\ ¬ lxP (hiP a b) e := by
  unfold loP hiP; rcases lx_tri a b with h | h | h
  · rw [if_neg (lx_asym h), if_neg (lx_asym h)]; exact on_lx h
  · exact absurd h hab
  · rw [if_pos h, if_pos h, on_sym hab, on_lx h]; have : crP (sbP a b) (sbP e b) = 0 ↔ crP (sbP b a) (sbP e a) = 0 := by unfold crP sbP; grind
    rw [this]
theorem lohi_cr {a b : Pl} : crP (sbP b a) (sbP (loP a b) a) = 0 /\ crP (sbP b a) (sbP (hiP a b) a) = 0 := by
  unfold loP hiP; split <;> (unfold crP sbP; grind)
theorem mx_is (p x : Pl) : mxP p x = p \/ mxP p x = x := by unfold mxP; split <;> simp
theorem mn_is (p x : Pl) : mnP p x = p \/ mnP p x = x := by unfold mnP; split <;> simp
theorem mx_ge (p x : Pl) : ¬ lxP (mxP p x) p /\ ¬ lxP (mxP p x) x := by
  unfold mxP; split
  · rename_i h; exact ⟨lx_asym h, lx_irr _⟩
  · rename_i h; exact ⟨lx_irr _, h⟩
theorem mn_le (q y : Pl) : ¬ lxP q (mnP q y) /\ ¬ lxP y (mnP q y) := by
  unfold mnP; split
  · rename_i h; exact ⟨lx_asym h, lx_irr _⟩
  · rename_i h; exact ⟨lx_irr _, h⟩
theorem lx_le {a b c : Pl} (h : ¬ lxP b a) (h' : ¬ lxP c b) : ¬ lxP c a := by
  intro h3; rcases lx_tri a b with h4 | h4 | h4
  · exact h' (lx_trans h3 h4)
  · subst h4; exact h' h3
  · exact h h4
theorem par_w {a b c d : Pl} (hab : a ≠ b) (h : crP (sbP b a) (sbP d c) = 0) (h' : crP (sbP b a) (sbP c a) = 0) : ∀ e, crP (sbP b a) (sbP e a) = 0 -> crP (sbP d c) (sbP e c) = 0 := by
  intro e he; unfold crP sbP at *; simp only at *
  by_cases hx : b.x = a.x
  · have hy : b.y - a.y ≠ 0 := fun h => hab (Pl.ext' hx.symm (by grind))
    have k1 : (b.y - a.y) * (d.x - c.x) = 0 := by grind
    have k2 : (b.y - a.y) * (c.x - a.x) = 0 := by grind
    have k3 : (b.y - a.y) * (e.x - a.x) = 0 := by grind
    have := (Rat.mul_eq_zero.1 k1).resolve_left hy; have := (Rat.mul_eq_zero.1 k2).resolve_left hy; have := (Rat.mul_eq_zero.1 k3).resolve_left hy
    grind
  · have hn : b.x - a.x ≠ 0 := by grind
    have : (b.x - a.x) * ((d.x - c.x) * (e.y - c.y) - (d.y - c.y) * (e.x - c.x)) = 0 := by grind
    exact (Rat.mul_eq_zero.1 this).resolve_left hn
theorem par_w' {a b c d : Pl} (hcd : c ≠ d) (h : crP (sbP b a) (sbP d c) = 0) (h' : crP (sbP d c) (sbP a c) = 0) : ∀ e, crP (sbP d c) (sbP e c) = 0 -> crP (sbP b a) (sbP e a) = 0 :=
  par_w hcd (by unfold crP sbP at *; grind) h'
theorem cr_self (a b : Pl) : crP (sbP b a) (sbP a a) = 0 := by unfold crP sbP; grind
theorem cram {a b c d : Pl} (h : crP (sbP b a) (sbP d c) ≠ 0) : adP a (tmP (sbP b a) (mtT a b c d)) = adP c (tmP (sbP d c) (mtS a b c d)) := by
  have h1 : mtT a b c d * crP (sbP b a) (sbP d c) = crP (sbP c a) (sbP d c) := by unfold mtT; rw [Rat.div_mul_cancel h]
  have h2 : mtS a b c d * crP (sbP b a) (sbP d c) = crP (sbP c a) (sbP b a) := by unfold mtS; rw [Rat.div_mul_cancel h]
  generalize mtT a b c d = t at *; generalize mtS a b c d = s at *; have e : ∀ x : Rat, x * crP (sbP b a) (sbP d c) = 0 -> x = 0 := fun x hx => (Rat.mul_eq_zero.1 hx).resolve_right h
  apply Pl.ext'
  · have := e (a.x + (b.x - a.x) * t - (c.x + (d.x - c.x) * s)) (by unfold crP sbP at *; grind); show a.x + (b.x - a.x) * t = c.x + (d.x - c.x) * s
    grind
  · have := e (a.y + (b.y - a.y) * t - (c.y + (d.y - c.y) * s)) (by unfold crP sbP at *; grind); show a.y + (b.y - a.y) * t = c.y + (d.y - c.y) * s
    grind
theorem mt_on {a b c d : Pl} (hab : a ≠ b) (hcd : c ≠ d) {o : Bool} {p q : Pl} (h : mtP a b c d = some (o, p, q)) : (onP p a b /\ onP p c d) /\ (onP q a b /\ onP q c d) /\ (bif o then lxP p q else p = q) := by
  unfold mtP at h
  by_cases hz : crP (sbP b a) (sbP d c) = 0
  · rw [if_pos hz] at h
    by_cases hw : crP (sbP b a) (sbP c a) = 0
    · rw [if_pos hw] at h; generalize hlo : mxP (loP a b) (loP c d) = lo at h; generalize hhi : mnP (hiP a b) (hiP c d) = hi at h
      by_cases hl : lxP hi lo
      · rw [if_pos hl] at h; cases h
      · rw [if_neg hl] at h; have W := par_w hab hz hw; have hca := W a (cr_self a b); have W' := par_w' hcd hz hca; have Llo : crP (sbP b a) (sbP lo a) = 0 := by
          rcases mx_is (loP a b) (loP c d) with e | e
          · rw [<- hlo, e]; exact lohi_cr.1
          · rw [<- hlo, e]; exact W' _ lohi_cr.1
        have Lhi : crP (sbP b a) (sbP hi a) = 0 := by
          rcases mn_is (hiP a b) (hiP c d) with e | e
          · rw [<- hhi, e]; exact lohi_cr.2
          · rw [<- hhi, e]; exact W' _ lohi_cr.2
        have g1 := mx_ge (loP a b) (loP c d); have g2 := mn_le (hiP a b) (hiP c d); rw [hlo] at g1; rw [hhi] at g2; have onlo : onP lo a b /\ onP lo c d := ⟨(on_lohi hab).2 ⟨Llo, g1.1, lx_le hl g2.1⟩, (on_lohi hcd).2 ⟨W _ Llo, g1.2, lx_le hl g2.2⟩⟩; have onhi : onP hi a b /\ onP hi c d := ⟨(on_lohi hab).2 ⟨Lhi, lx_le g1.1 hl, g2.1⟩, (on_lohi hcd).2 ⟨W _ Lhi, lx_le g1.2 hl, g2.2⟩⟩
        by_cases he : lo = hi
        · rw [if_pos he] at h; cases h; exact ⟨onlo, onlo, rfl⟩
        · rw [if_neg he] at h; have hlt : lxP lo hi := by
            rcases lx_tri lo hi with k | k | k
            · exact k
            · exact absurd k he
            · exact absurd k hl
          cases h; exact ⟨onlo, onhi, hlt⟩
    · rw [if_neg hw] at h; cases h
  · rw [if_neg hz] at h
    by_cases hc : mtT a b c d < 0 \/ mtS a b c d < 0 \/ 1 < mtT a b c d \/ 1 < mtS a b c d
    · rw [if_pos hc] at h; cases h
    · rw [if_neg hc] at h; have e := cram hz; have k1 : onP (adP a (tmP (sbP b a) (mtT a b c d))) a b := (on_par hab).2 ⟨mtT a b c d, by grind, by grind, rfl, rfl⟩; have k2 : onP (adP a (tmP (sbP b a) (mtT a b c d))) c d := by
        rw [e]; exact (on_par hcd).2 ⟨mtS a b c d, by grind, by grind, rfl, rfl⟩
      cases h; exact ⟨⟨k1, k2⟩, ⟨k1, k2⟩, rfl⟩
def apP (a b c d : Rat) : Prop := (a < c /\ a < d /\ b < c /\ b < d) \/ (c < a /\ c < b /\ d < a /\ d < b)
instance (a b c d : Rat) : Decidable (apP a b c d) := by unfold apP; infer_instance
theorem mt_apart {a b c d : Pl} (hab : a ≠ b) (hcd : c ≠ d) (h : apP a.x b.x c.x d.x \/ apP a.y b.y c.y d.y) : mtP a b c d = none := by
  cases hm : mtP a b c d with
  | none => rfl
  | some v =>
    obtain ⟨o, p, q⟩ := v; obtain ⟨⟨h1, h2⟩, _⟩ := mt_on hab hcd hm; unfold onP btw at h1 h2; unfold apP at h
    grind
end Go.Abs
namespace Go.Abs
open Go.Proofs
set_option maxRecDepth 100000
noncomputable def mA : Env := VL tryT [] [(71, q61), (72, qO 0), (50, vO 0), (39, rat1 (fun _ => true) tupQ), (51, rat2 (fun p q => szQ p && szQ q) fun p q => one (.int .i64 (cmpQ p q))), (105, rat2 (fun p q => szQ p && szQ q) fun p q => nm 0 (p - q)), (106, rat2 (fun p q => szQ p && szQ q) fun p q => nm 0 (p * q)), (108, rat1 szQ fun q => one (.int .i64 (Int.sign q.num))), (126, pt2 0 fun a b c d => pS 0 (a - c) (b - d))]
theorem mA_ok : EnvOK NN Tryz.prog mA := VL_ok (TabOk.of tryT_ok) (gamC q61_ok Tryz.call71 (gamC orc86 Tryz.call72 (gamC orc135 Tryz.call50 (gamC orc41 Tryz.call39 (gamC orc58 Tryz.call51 (gamC orc37 Tryz.call105 (gamC orc60 Tryz.call106 (gamC orc88 Tryz.call108 (gamC orc36 Tryz.call126 (gamN _ _))))))))))
def seS (k : Nat) (a b c d : Rat) : SV := .v true [.num k (some a), .num k (some b), .num k (some c), .num k (some d)]
def sG (a b c d e f g h : Int) : SV := .v true [.int .i64 a, .int .i64 b, .int .i64 c, .int .i64 d, .int .i64 e, .int .i64 f, .int .i64 g, .int .i64 h]
theorem gq136 {ρ : Type} (cont : SV -> HL -> Option ρ) (a b c d : Int) : runF mA Ash 20 Tryz.f47 (bodyOf Tryz.f47) ρ [sV a b c d] [] cont =
    bif !qOkB a b then cont (one (.bool false)) [] else bif !qOkB c d then cont (one (.bool false)) [] else cont (one (.bool true)) [] := by kernel_rfl
theorem orc_vokI : OrcOK NN Tryz.prog 47 vOkO :=
  OrcOK.of_tale (cR_ok (A := Ash) (fuel := 20) mA_ok rfl Tryz.func47 (by kernel_rfl)) fun ρ args H cont r h => by
    unfold vOkO at h; split at h
    · rename_i a b c d; refine (gq136 cont a b c d).trans ?_; unfold vOkB at h; cases h1 : qOkB a b <;> cases h2 : qOkB c d <;> rw [h1] at h <;> (try rw [h2] at h) <;> exact h
    · contradiction
def segB (a b c d e f g h : Int) : Bool := bif vOkB a b c d then bif vOkB e f g h then !(a == e && (b == f && (c == g && d == h))) else false else false
def segO : Orc := fun ρ args H cont => match args, H with
  | [.v true [.int .i64 a, .int .i64 b, .int .i64 c, .int .i64 d, .int .i64 e, .int .i64 f, .int .i64 g, .int .i64 h]], [] => cont (one (.bool (segB a b c d e f g h))) []
  | _, _ => none
noncomputable def mB : Env := VL tryT [] [(47, vOkO), (54, vOkO), (50, vO 0), (56, vO 1), (61, pt2 0 fun a b c d => one (.int .i64 (cmpP a b c d))), (51, rat2 (fun p q => szQ p && szQ q) fun p q => one (.int .i64 (cmpQ p q))), (108, rat1 szQ fun q => one (.int .i64 (Int.sign q.num))), (126, pt2 0 fun a b c d => pS 0 (a - c) (b - d)), (181, cR mA Ash 20 Tryz.f181), (125, cR mA Ash 20 Tryz.f125), (124, cR mA Ash 20 Tryz.f124), (169, pt2 1 fun a b c d => one (.int .i64 (cmpP a b c d)))]
theorem mB_ok : EnvOK NN Tryz.prog mB := VL_ok (TabOk.of tryT_ok) (gamC orc_vokI Tryz.call47 (gamC orc162 Tryz.call54 (gamC orc135 Tryz.call50 (gamC orc163 Tryz.call56 (gamC orc98 Tryz.call61 (gamC orc58 Tryz.call51 (gamC orc88 Tryz.call108 (gamC orc36 Tryz.call126 (gamC (cR_ok mA_ok rfl Tryz.func181 (by kernel_rfl)) Tryz.call181
  (gamC (cR_ok mA_ok rfl Tryz.func125 (by kernel_rfl)) Tryz.call125 (gamC (cR_ok mA_ok rfl Tryz.func124 (by kernel_rfl)) Tryz.call124 (gamC orc130 Tryz.call169 (gamN _ _)))))))))))))
def segK {ρ : Type} (cont : SV -> HL -> Option ρ) (a b c d e f g h : Int) : Option ρ :=
  bif vOkB a b c d then (bif bif true then vOkB e f g h else false then cont (one (.bool (bif true then !(a == e && (b == f && (c == g && d == h))) else false))) [] else cont (one (.bool false)) []) else cont (one (.bool false)) []
theorem segK_eq {ρ : Type} (cont : SV -> HL -> Option ρ) (a b c d e f g h : Int) : segK cont a b c d e f g h = cont (one (.bool (segB a b c d e f g h))) [] := by
  unfold segK segB; cases vOkB a b c d <;> cases vOkB e f g h <;> rfl
theorem gq131 {ρ : Type} (cont : SV -> HL -> Option ρ) (a b c d e f g h : Int) : runF mB Ash 20 Tryz.f59 (bodyOf Tryz.f59) ρ [sG a b c d e f g h] [] cont = segK cont a b c d e f g h := by kernel_rfl
theorem gq125 {ρ : Type} (cont : SV -> HL -> Option ρ) (a b c d e f g h : Int) : runF mB Ash 20 Tryz.f112 (bodyOf Tryz.f112) ρ [sG a b c d e f g h] [] cont = segK cont a b c d e f g h := by kernel_rfl
theorem orc_segI : OrcOK NN Tryz.prog 59 segO :=
  OrcOK.of_tale (cR_ok (A := Ash) (fuel := 20) mB_ok rfl Tryz.func59 (by kernel_rfl)) fun ρ args H cont r h => by
    unfold segO at h; split at h
    · exact ((gq131 cont _ _ _ _ _ _ _ _).trans (segK_eq ..)).trans h
    · contradiction
theorem orc_segS : OrcOK NN Tryz.prog 112 segO :=
  OrcOK.of_tale (cR_ok (A := Ash) (fuel := 20) mB_ok rfl Tryz.func112 (by kernel_rfl)) fun ρ args H cont r h => by
    unfold segO at h; split at h
    · exact ((gq125 cont _ _ _ _ _ _ _ _).trans (segK_eq ..)).trans h
    · contradiction
def ap4 : Orc := fun ρ args H cont => match args, H with
  | [.v true [.num 0 (some a)], .v true [.num 0 (some b)], .v true [.num 0 (some c)], .v true [.num 0 (some d)]], [] => if szQ a = true /\ szQ b = true /\ szQ c = true /\ szQ d = true then cont (one (.bool (decide (apP a b c d)))) [] else none
  | _, _ => none
def apR {ρ : Type} (cont : SV -> HL -> Option ρ) (lo hi l h : Rat) : Option ρ :=
  if (szQ hi && szQ l) = true then (bif decide (cmpQ hi l < 0) then cont (one (.bool true)) [] else (if (szQ h && szQ lo) = true then cont (one (.bool (bif false then true else decide (cmpQ h lo < 0)))) [] else none)) else none
theorem apR_eq {ρ : Type} (cont : SV -> HL -> Option ρ) {lo hi l h : Rat} (z1 : szQ lo = true) (z2 : szQ hi = true) (z3 : szQ l = true) (z4 : szQ h = true) : apR cont lo hi l h = cont (one (.bool (decide (hi < l \/ h < lo)))) [] := by
  unfold apR; rw [if_pos (both z2 z3), if_pos (both z4 z1)]
  by_cases h1 : hi < l
  · rw [decide_eq_true (cmpQ_lt.2 h1), cond_true, decide_eq_true (.inl h1)]
  · rw [decide_eq_false (fun e => h1 (cmpQ_lt.1 e)), cond_false, cond_false]
    by_cases h2 : h < lo
    · rw [decide_eq_true (cmpQ_lt.2 h2), decide_eq_true (.inr h2)]
    · rw [decide_eq_false (fun e => h2 (cmpQ_lt.1 e)), decide_eq_false (fun e => e.elim h1 h2)]
theorem gq224 {ρ : Type} (cont : SV -> HL -> Option ρ) (a b c d : Rat) : runF mB Ash 20 Tryz.f122 (bodyOf Tryz.f122) ρ [nm 0 a, nm 0 b, nm 0 c, nm 0 d] [] cont =
    if (szQ a && szQ b) = true then (bif decide (0 < cmpQ a b) then (if (szQ c && szQ d) = true then (bif decide (0 < cmpQ c d) then apR cont b a d c else apR cont b a c d) else none)
      else (if (szQ c && szQ d) = true then (bif decide (0 < cmpQ c d) then apR cont a b d c else apR cont a b c d) else none)) else none := by kernel_rfl
theorem orc_ap : OrcOK NN Tryz.prog 122 ap4 :=
  OrcOK.of_tale (cR_ok (A := Ash) (fuel := 20) mB_ok rfl Tryz.func122 (by kernel_rfl)) fun ρ args H cont r h => by
    unfold ap4 at h; split at h
    · rename_i a b c d; split at h
      · rename_i hc; obtain ⟨z1, z2, z3, z4⟩ := hc; refine (gq224 cont a b c d).trans ?_; rw [if_pos (both z1 z2), if_pos (both z3 z4), if_pos (both z3 z4), apR_eq cont z2 z1 z4 z3, apR_eq cont z2 z1 z3 z4, apR_eq cont z1 z2 z4 z3, apR_eq cont z1 z2 z3 z4]; refine Eq.trans ?_ h; have e : ∀ p q : Prop, [Decidable p] -> [Decidable q] -> (p ↔ q) -> cont (one (.bool (decide p))) [] = cont (one (.bool (decide q))) [] := fun p q _ _ h => by rw [decide_eq_decide.2 h]
        by_cases h1 : b < a
        · rw [decide_eq_true (cmpQ_gt.2 h1), cond_true]
          by_cases h2 : d < c
          · rw [decide_eq_true (cmpQ_gt.2 h2), cond_true]; refine e _ _ ?_; unfold apP
            grind
          · rw [decide_eq_false (fun e => h2 (cmpQ_gt.1 e)), cond_false]; refine e _ _ ?_; unfold apP
            grind
        · rw [decide_eq_false (fun e => h1 (cmpQ_gt.1 e)), cond_false]
          by_cases h2 : d < c
          · rw [decide_eq_true (cmpQ_gt.2 h2), cond_true]; refine e _ _ ?_; unfold apP
            grind
          · rw [decide_eq_false (fun e => h2 (cmpQ_gt.1 e)), cond_false]; refine e _ _ ?_; unfold apP
            grind
      · contradiction
    · contradiction
def ps8 (k : Nat) : Orc := fun ρ args H cont => match args, H with
  | [.v true [.int .i64 a, .int .i64 b, .int .i64 c, .int .i64 d, .int .i64 e, .int .i64 f, .int .i64 g, .int .i64 h]], [] => if (qOkB a b = true /\ qOkB c d = true) /\ qOkB e f = true /\ qOkB g h = true then cont (seS k (Rat.divInt a b) (Rat.divInt c d) (Rat.divInt e f) (Rat.divInt g h)) [] else none
  | _, _ => none
theorem gq133 {ρ : Type} (cont : SV -> HL -> Option ρ) (a b c d e f g h : Int) : runF mB Ash 20 Tryz.f48 (bodyOf Tryz.f48) ρ [sG a b c d e f g h] [] cont =
    if qOkB a b = true /\ qOkB c d = true then (if qOkB e f = true /\ qOkB g h = true then cont (seS 0 (Rat.divInt a b) (Rat.divInt c d) (Rat.divInt e f) (Rat.divInt g h)) [] else none) else none := by kernel_rfl
theorem orc_psg : OrcOK NN Tryz.prog 48 (ps8 0) :=
  OrcOK.of_tale (cR_ok (A := Ash) (fuel := 20) mB_ok rfl Tryz.func48 (by kernel_rfl)) fun ρ args H cont r h => by
    unfold ps8 at h; split at h
    · split at h
      · rename_i hc; refine (gq133 cont _ _ _ _ _ _ _ _).trans ?_; rw [if_pos hc.1, if_pos hc.2]; exact h
      · contradiction
    · contradiction
def up4 : Orc := fun ρ args H cont => match args, H with
  | [.v true [.num 0 (some a), .num 0 (some b), .num 0 (some c), .num 0 (some d)]], [] => if szM a = true /\ szM b = true /\ szM c = true /\ szM d = true then cont (seS 0 (loP ⟨a, b⟩ ⟨c, d⟩).x (loP ⟨a, b⟩ ⟨c, d⟩).y (hiP ⟨a, b⟩ ⟨c, d⟩).x (hiP ⟨a, b⟩ ⟨c, d⟩).y) [] else none
  | _, _ => none
theorem cmpP_lt {a b : Pl} : cmpP a.x a.y b.x b.y < 0 ↔ lxP a b := by
  unfold cmpP lxP; have h1 := @cmpQ_lt a.x b.x; have h2 := @cmpQ_eq a.x b.x; have h3 := @cmpQ_lt a.y b.y; split <;> grind
theorem cmpP_gt {a b : Pl} : 0 < cmpP a.x a.y b.x b.y ↔ lxP b a := by
  unfold cmpP lxP; have h1 := @cmpQ_gt a.x b.x; have h2 := @cmpQ_eq a.x b.x; have h3 := @cmpQ_gt a.y b.y; split <;> grind
theorem cmpP_eq {a b : Pl} : cmpP a.x a.y b.x b.y = 0 ↔ a = b := by
  have h1 := @cmpP_lt a b; have h2 := @cmpP_gt a b; constructor
  · intro h; rcases lx_tri a b with k | k | k
    · have := h1.2 k; omega
    · exact k
    · have := h2.2 k; omega
  · rintro rfl
    have k := lx_irr a; have : ¬ cmpP a.x a.y a.x a.y < 0 := fun e => k (h1.1 e)
    have : ¬ 0 < cmpP a.x a.y a.x a.y := fun e => k (h2.1 e)
    omega
theorem gq227 {ρ : Type} (cont : SV -> HL -> Option ρ) (a b c d : Rat) : runF mB Ash 20 Tryz.f103 (bodyOf Tryz.f103) ρ [seS 0 a b c d] [] cont =
    if (0 = 0 /\ 0 = 0 /\ 0 = 0 /\ 0 = 0) /\ szM a = true /\ szM b = true /\ szM c = true /\ szM d = true then (bif decide (0 < cmpP a b c d) then cont (seS 0 c d a b) [] else cont (seS 0 a b c d) []) else none := by kernel_rfl
theorem orc_up : OrcOK NN Tryz.prog 103 up4 :=
  OrcOK.of_tale (cR_ok (A := Ash) (fuel := 20) mB_ok rfl Tryz.func103 (by kernel_rfl)) fun ρ args H cont r h => by
    unfold up4 at h; split at h
    · rename_i a b c d; split at h
      · rename_i hc; refine (gq227 cont a b c d).trans ?_; rw [if_pos ⟨⟨rfl, rfl, rfl, rfl⟩, hc⟩]; unfold loP hiP at h
        by_cases hl : lxP ⟨c, d⟩ ⟨a, b⟩
        · rw [if_pos hl, if_pos hl] at h; rw [decide_eq_true (cmpP_gt (a := ⟨a, b⟩) (b := ⟨c, d⟩).2 hl), cond_true]; exact h
        · rw [if_neg hl, if_neg hl] at h; rw [decide_eq_false (fun e => hl (cmpP_gt (a := ⟨a, b⟩) (b := ⟨c, d⟩).1 e)), cond_false]; exact h
      · contradiction
    · contradiction
end Go.Abs

/-
  A PART OF THE PROOF of LtI (texts DrwA DrwB FrA BigG BigH RootA RootB RootC RootD RootE FrL RootF BigI BigJ BigK NearA NearB NearC RatO NearP NearD MeetP MeetA MeetB MeetC MeetD MeetE MeetF MeetG DrwC DrwD DrwE MeetH MeetI LifA LifB LifC LifD LifE): the claim itself stands in the last text. No conditions beside those of the given row.
-/
import Derived.Test.YteedodijgpinnaaGreatDoorLivE
import Derived.Test.YteedodijgpinnaaGreatDoorRowA
import Derived.Test.YteedodijgpinnaaGreatDoorSpcK
import Derived.Test.YteedodijgpinnaaGreatDoorBigF
set_option linter.unusedVariables false
set_option linter.unnecessarySimpa false
set_option linter.unusedSimpArgs false
namespace Go.Abs
open Go.Proofs
set_option maxRecDepth 100000
def rdH (xs : List Int) (p : Int) : HL := [.var [.sl none (.int .u8) xs, .int .i64 p]]
def rdOkB (xs : List Int) (p : Int) : Bool := bytesB xs && decide (xs.length <= 1048576) && decide (0 <= p) && decide (p <= xs.length)
theorem rdOk_iff {xs : List Int} {p : Int} : rdOkB xs p = true ↔ (bytesB xs = true /\ xs.length <= 1048576 /\ 0 <= p /\ p <= xs.length) := by
  unfold rdOkB
  simp only [Bool.and_eq_true, decide_eq_true_eq]
  constructor
  · rintro ⟨⟨⟨h1, h2⟩, h3⟩, h4⟩; exact ⟨h1, h2, h3, h4⟩
  · rintro ⟨h1, h2, h3, h4⟩; exact ⟨⟨⟨h1, h2⟩, h3⟩, h4⟩
def rO {α : Type} (sh : α -> SV) (f : List Int -> Int -> α × Int) : Orc := fun ρ args H cont => match args, H with
  | [.v false [.ptr 0 0]], [.var [.sl none (.int .u8) xs, .int .i64 p]] => if rdOkB xs p = true then cont (sh (f xs p).1) [.var [.sl none (.int .u8) xs, .int .i64 (f xs p).2]] else none
  | _, _ => none
theorem rO_ok {α : Type} [Inhabited α] {n : Nat} {F : Orc} (hF : OrcOK NN Tryz.prog n F) (sh : α -> SV) (R : α -> Prop)
    (h : ∀ xs p, rdOkB xs p = true -> ∃ a p', R a /\ rdOkB xs p' = true /\ ∀ ρ (cont : SV -> HL -> Option ρ), F ρ [one (.ptr 0 0)] (rdH xs p) cont = cont (sh a) (rdH xs p')) :
    ∃ f : List Int -> Int -> α × Int, OrcOK NN Tryz.prog n (rO sh f) /\ ∀ xs p, rdOkB xs p = true -> R (f xs p).1 /\ rdOkB xs (f xs p).2 = true := by
  classical
  have h' : ∀ xs p, ∃ r : α × Int, rdOkB xs p = true -> R r.1 /\ rdOkB xs r.2 = true /\ ∀ ρ (cont : SV -> HL -> Option ρ), F ρ [one (.ptr 0 0)] (rdH xs p) cont = cont (sh r.1) (rdH xs r.2) := fun xs p => by
    by_cases hc : rdOkB xs p = true
    · obtain ⟨a, p', h1, h2, h3⟩ := h xs p hc
      exact ⟨(a, p'), fun _ => ⟨h1, h2, h3⟩⟩
    · exact ⟨default, fun h => absurd h hc⟩
  refine ⟨fun xs p => (h' xs p).choose, OrcOK.of_tale hF fun ρ args H cont r hr => ?_, fun xs p hc => ⟨((h' xs p).choose_spec hc).1, ((h' xs p).choose_spec hc).2.1⟩⟩
  unfold rO at hr
  split at hr
  · rename_i xs p
    split at hr
    · rename_i hc
      exact (((h' xs p).choose_spec hc).2.2 ρ cont).trans hr
    · contradiction
  · contradiction
noncomputable def rE : Env := VL tryT [] []
theorem rE_ok : EnvOK NN Tryz.prog rE := VL_ok (TabOk.of tryT_ok) (gamN _ _)
theorem drw174 {ρ : Type} (cont : SV -> HL -> Option ρ) (xs : List Int) (p : Int) : runF rE Ash 5 Tryz.f174 (bodyOf Tryz.f174) ρ [one (.ptr 0 0)] (rdH xs p) cont =
    bif decide (xs.length <= p) then cont (one (.int .i64 0)) (rdH xs p) else
    if 0 <= IntKind.i64.wrap (IntKind.i64.wrap (p + 1) - 1) then xs[(IntKind.i64.wrap (IntKind.i64.wrap (p + 1) - 1)).toNat]?.bind fun x => cont (one (.int .i64 (IntKind.i64.wrap x))) (rdH xs (IntKind.i64.wrap (p + 1))) else none := by kernel_rfl
def shI (x : Int) : SV := one (.int .i64 x)
theorem next_ok : ∃ f : List Int -> Int -> Int × Int, OrcOK NN Tryz.prog 174 (rO shI f) /\ ∀ xs p, rdOkB xs p = true -> (0 <= (f xs p).1 /\ (f xs p).1 < 256) /\ rdOkB xs (f xs p).2 = true :=
  rO_ok (cR_ok (A := Ash) (fuel := 5) rE_ok rfl Tryz.func174 (by kernel_rfl)) shI (fun x => 0 <= x /\ x < 256) fun xs p h => by
    obtain ⟨h1, h2, h3, h4⟩ := rdOk_iff.1 h
    by_cases hc : xs.length <= p
    · exact ⟨0, p, by decide, h, fun ρ cont => (drw174 cont xs p).trans (by rw [decide_eq_true hc, cond_true]; rfl)⟩
    · have hl : p.toNat < xs.length := by omega
      have hx := List.all_eq_true.1 h1 (xs[p.toNat]) (List.getElem_mem hl)
      simp only [Bool.and_eq_true, decide_eq_true_eq] at hx
      refine ⟨xs[p.toNat], p + 1, hx, rdOk_iff.2 ⟨h1, h2, by omega, by omega⟩, fun ρ cont => (drw174 cont xs p).trans ?_⟩
      rw [decide_eq_false hc, cond_false, i64_in (p + 1) (by omega) (by omega), i64_in (p + 1 - 1) (by omega) (by omega), if_pos (by omega), show p + 1 - 1 = p from by omega, List.getElem?_eq_getElem hl]
      show cont (one (.int .i64 (IntKind.i64.wrap xs[p.toNat]))) _ = _
      rw [i64_in _ (by omega) (by omega)]; rfl
noncomputable def nextF := next_ok.choose
theorem orc_next : OrcOK NN Tryz.prog 174 (rO shI nextF) := next_ok.choose_spec.1
theorem nextR {xs : List Int} {p : Int} (h : rdOkB xs p = true) : 0 <= (nextF xs p).1 /\ (nextF xs p).1 < 256 := (next_ok.choose_spec.2 xs p h).1
theorem nextP {xs : List Int} {p : Int} (h : rdOkB xs p = true) : rdOkB xs (nextF xs p).2 = true := (next_ok.choose_spec.2 xs p h).2
noncomputable def rE1 : Env := VL tryT [] [(174, rO shI nextF)]
theorem rE1_ok : EnvOK NN Tryz.prog rE1 := VL_ok (TabOk.of tryT_ok) (gamC orc_next Tryz.call174 (gamN _ _))
noncomputable def w8 (xs : List Int) : Nat -> Int -> Int -> Int × Int
  | 0, a, p => (a, p)
  | k + 1, a, p => w8 xs k (bits BinOp.or IntKind.u64 (IntKind.u64.wrap (a * 2 ^ min (Int.toNat 8) IntKind.u64.bits)) (IntKind.u64.wrap (nextF xs p).1)) (nextF xs p).2
def shW (x : Int) : SV := one (.int .u64 x)
noncomputable def w8if {ρ : Type} (cont : SV -> HL -> Option ρ) (xs : List Int) : Nat -> Int -> Int -> Option ρ
  | 0, a, p => cont (shW a) (rdH xs p)
  | k + 1, a, p => if rdOkB xs p = true then w8if cont xs k (bits BinOp.or IntKind.u64 (IntKind.u64.wrap (a * 2 ^ min (Int.toNat 8) IntKind.u64.bits)) (IntKind.u64.wrap (nextF xs p).1)) (nextF xs p).2 else none
theorem drw172 {ρ : Type} (cont : SV -> HL -> Option ρ) (xs : List Int) (p : Int) : runF rE1 Ash 20 Tryz.f172 (bodyOf Tryz.f172) ρ [one (.ptr 0 0)] (rdH xs p) cont = w8if cont xs 8 0 p := by kernel_rfl
theorem w8if_eq {xs : List Int} (k : Nat) : ∀ (a p : Int), rdOkB xs p = true -> rdOkB xs (w8 xs k a p).2 = true /\ ∀ {ρ : Type} (cont : SV -> HL -> Option ρ), w8if cont xs k a p = cont (shW (w8 xs k a p).1) (rdH xs (w8 xs k a p).2) := by
  induction k with
  | zero => exact fun a p h => ⟨h, fun cont => rfl⟩
  | succ k ih =>
    intro a p h
    have := ih (bits BinOp.or IntKind.u64 (IntKind.u64.wrap (a * 2 ^ min (Int.toNat 8) IntKind.u64.bits)) (IntKind.u64.wrap (nextF xs p).1)) (nextF xs p).2 (nextP h)
    refine ⟨this.1, fun cont => ?_⟩
    show (if rdOkB xs p = true then _ else none) = _
    rw [if_pos h]
    exact this.2 cont
theorem word_ok : ∃ f : List Int -> Int -> Int × Int, OrcOK NN Tryz.prog 172 (rO shW f) /\ ∀ xs p, rdOkB xs p = true -> True /\ rdOkB xs (f xs p).2 = true :=
  rO_ok (cR_ok (A := Ash) (fuel := 20) rE1_ok rfl Tryz.func172 (by kernel_rfl)) shW (fun x => True) fun xs p h =>
    ⟨_, _, trivial, (w8if_eq 8 0 p h).1, fun ρ cont => (drw172 cont xs p).trans ((w8if_eq 8 0 p h).2 cont)⟩
noncomputable def wordF := word_ok.choose
theorem orc_word : OrcOK NN Tryz.prog 172 (rO shW wordF) := word_ok.choose_spec.1
theorem wordP {xs : List Int} {p : Int} (h : rdOkB xs p = true) : rdOkB xs (wordF xs p).2 = true := (word_ok.choose_spec.2 xs p h).2
def nO {α : Type} (sh : α -> SV) (f : List Int -> Int -> Int -> α × Int) : Orc := fun ρ args H cont => match args, H with
  | [.v false [.ptr 0 0], .v false [.int .i64 n]], [.var [.sl none (.int .u8) xs, .int .i64 p]] => bif decide (n <= 1) then none else bif decide (n <= 256) then (if rdOkB xs p = true then cont (sh (f xs p n).1) [.var [.sl none (.int .u8) xs, .int .i64 (f xs p n).2]] else none) else none
  | _, _ => none
noncomputable def belowF (xs : List Int) (p n : Int) : Int × Int := ((nextF xs p).1.tmod n, (nextF xs p).2)
theorem drw77 {ρ : Type} (cont : SV -> HL -> Option ρ) (xs : List Int) (p n : Int) : runF rE1 Ash 5 Tryz.f77 (bodyOf Tryz.f77) ρ [one (.ptr 0 0), one (.int .i64 n)] (rdH xs p) cont =
   bif decide (n <= 1) then cont (one (.int .i64 0)) (rdH xs p) else bif decide (n <= 256) then (if rdOkB xs p = true then (if n = 0 then none else cont (shI (belowF xs p n).1) (rdH xs (belowF xs p n).2)) else none) else
   (if rdOkB xs p = true then (if rdOkB xs (nextF xs p).2 = true then (if n = 0 then none else cont (shI ((IntKind.i64.wrap (IntKind.i64.wrap ((nextF xs p).1 * 256) + (nextF xs (nextF xs p).2).1)).tmod n)) (rdH xs (nextF xs (nextF xs p).2).2)) else none) else none) := by kernel_rfl
theorem orc_below : OrcOK NN Tryz.prog 77 (nO shI belowF) :=
  OrcOK.of_tale (cR_ok (A := Ash) (fuel := 5) rE1_ok rfl Tryz.func77 (by kernel_rfl)) fun ρ args H cont r h => by
    unfold nO at h
    split at h
    · rename_i n xs p
      refine (drw77 cont xs p n).trans ?_
      by_cases h1 : n <= 1
      · rw [decide_eq_true h1, cond_true] at h; contradiction
      · rw [decide_eq_false h1, cond_false] at h ⊢
        by_cases h2 : n <= 256
        · rw [decide_eq_true h2, cond_true] at h ⊢
          split at h
          · rename_i hc
            rw [if_pos hc, if_neg (by omega)]; exact h
          · contradiction
        · rw [decide_eq_false h2, cond_false] at h; contradiction
    · contradiction
theorem belowR {xs : List Int} {p : Int} (h : rdOkB xs p = true) {n : Int} (hn : 1 < n) : 0 <= (belowF xs p n).1 /\ (belowF xs p n).1 < n := by
  have := nextR h
  exact ⟨Int.tmod_nonneg _ this.1, Int.tmod_lt_of_pos _ (by omega)⟩
theorem belowP {xs : List Int} {p n : Int} (h : rdOkB xs p = true) : rdOkB xs (belowF xs p n).2 = true := nextP h
noncomputable def rE2 : Env := VL tryT [] [(77, nO shI belowF)]
theorem rE2_ok : EnvOK NN Tryz.prog rE2 := VL_ok (TabOk.of tryT_ok) (gamC orc_below Tryz.call77 (gamN _ _))
def shB (b : Bool) : SV := one (.bool b)
noncomputable def onceF (xs : List Int) (p n : Int) : Bool × Int := ((belowF xs p n).1 == IntKind.i64.wrap (n - 1), (belowF xs p n).2)
theorem drw78 {ρ : Type} (cont : SV -> HL -> Option ρ) (xs : List Int) (p n : Int) : runF rE2 Ash 5 Tryz.f78 (bodyOf Tryz.f78) ρ [one (.ptr 0 0), one (.int .i64 n)] (rdH xs p) cont =
   bif decide (n <= 1) then none else bif decide (n <= 256) then (if rdOkB xs p = true then cont (shB (onceF xs p n).1) (rdH xs (onceF xs p n).2) else none) else none := by kernel_rfl
theorem orc_once : OrcOK NN Tryz.prog 78 (nO shB onceF) :=
  OrcOK.of_tale (cR_ok (A := Ash) (fuel := 5) rE2_ok rfl Tryz.func78 (by kernel_rfl)) fun ρ args H cont r h => by
    unfold nO at h
    split at h
    · rename_i n xs p
      exact (drw78 cont xs p n).trans h
    · contradiction
theorem onceP {xs : List Int} {p n : Int} (h : rdOkB xs p = true) : rdOkB xs (onceF xs p n).2 = true := nextP h
end Go.Abs
namespace Go.Abs
open Go.Proofs
set_option maxRecDepth 100000
structure Two where
  a : Int
  b : Int
  c : Int
  d : Int
end Go.Abs
namespace Go.Abs
open Go.Proofs
set_option maxRecDepth 100000
end Go.Abs
namespace Go.Abs
open Go.Proofs
set_option maxRecDepth 100000
end Go.Abs
namespace Go.Abs
open Go.Proofs
set_option maxRecDepth 100000
end Go.Abs
namespace Go.Abs
open Go.Proofs
set_option maxRecDepth 100000
end Go.Abs
namespace Go.Abs
open Go.Proofs
set_option maxRecDepth 100000
end Go.Abs
namespace Go.Abs
open Go.Proofs
set_option maxRecDepth 100000
end Go.Abs
namespace Go.Abs
open Go.Proofs
set_option maxRecDepth 100000
end Go.Abs
namespace Go.Abs
open Go.Proofs
set_option maxRecDepth 100000
end Go.Abs
namespace Go.Abs
open Go.Proofs
set_option maxRecDepth 100000
section
variable {g : Int -> Int -> Int -> Int -> Bool} {f : Rat -> Rat -> Rat} {a b c d : Int}
end
end Go.Abs
namespace Go.Abs
open Go.Proofs
set_option maxRecDepth 100000
noncomputable def belowG (xs : List Int) (p n : Int) : Int × Int := bif decide (n <= 256) then belowF xs p n else
  ((IntKind.i64.wrap (IntKind.i64.wrap ((nextF xs p).1 * 256) + (nextF xs (nextF xs p).2).1)).tmod n, (nextF xs (nextF xs p).2).2)
def nG (f : List Int -> Int -> Int -> Int × Int) : Orc := fun ρ args H cont => match args, H with
  | [.v false [.ptr 0 0], .v false [.int .i64 n]], [.var [.sl none (.int .u8) xs, .int .i64 p]] => bif decide (n <= 1) then none else (if rdOkB xs p = true then cont (shI (f xs p n).1) [.var [.sl none (.int .u8) xs, .int .i64 (f xs p n).2]] else none)
  | _, _ => none
theorem orc_belowG : OrcOK NN Tryz.prog 77 (nG belowG) :=
  OrcOK.of_tale (cR_ok (A := Ash) (fuel := 5) rE1_ok rfl Tryz.func77 (by kernel_rfl)) fun ρ args H cont r h => by
    unfold nG at h
    split at h
    · rename_i n xs p
      refine (drw77 cont xs p n).trans ?_
      by_cases h1 : n <= 1
      · rw [decide_eq_true h1, cond_true] at h; contradiction
      · rw [decide_eq_false h1, cond_false] at h ⊢
        split at h
        · rename_i hc
          unfold belowG at h
          by_cases h2 : n <= 256
          · rw [decide_eq_true h2, cond_true] at h ⊢
            rw [if_pos hc, if_neg (by omega)]; exact h
          · rw [decide_eq_false h2, cond_false] at h ⊢
            rw [if_pos hc, if_pos (nextP hc), if_neg (by omega)]; exact h
        · contradiction
    · contradiction
theorem belowGP {xs : List Int} {p n : Int} (h : rdOkB xs p = true) : rdOkB xs (belowG xs p n).2 = true := by
  unfold belowG
  cases decide (n <= 256)
  · exact nextP (nextP h)
  · exact belowP h
theorem belowGR {xs : List Int} {p : Int} (h : rdOkB xs p = true) {n : Int} (hn : 1 < n) (h2 : n <= 256) : 0 <= (belowG xs p n).1 /\ (belowG xs p n).1 < n := by
  unfold belowG
  rw [decide_eq_true h2]
  exact belowR h hn
structure Thr where
  a : Int
  b : Int
  c : Int
end Go.Abs
namespace Go.Abs
open Go.Proofs
set_option maxRecDepth 100000
end Go.Abs
namespace Go.Abs
open Go.Proofs
set_option maxRecDepth 100000
end Go.Abs
namespace Go.Abs
open Go.Proofs
set_option maxRecDepth 100000
end Go.Abs
namespace Go.Abs
open Go.Proofs
set_option maxRecDepth 100000
end Go.Abs
namespace Go.Abs
open Go.Proofs
set_option maxRecDepth 100000
end Go.Abs
namespace Go.Abs
open Go.Proofs
set_option maxRecDepth 100000
end Go.Abs
namespace Go.Abs
end Go.Abs
namespace Go.Abs
end Go.Abs
namespace Go.Abs
open Go.Proofs
set_option maxRecDepth 100000
theorem Rel.view {N : NumSem} {G : Ghost} {κ : Kap} {hf : Hp} {w : World} (h : Rel N G κ hf w) {l : Nat} {xs ys : List Atom} (hl : hf l = some (.var xs)) (hm : isMk xs = false) (hm' : isMk ys = false)
    (hv : ∀ cs, AsR N G κ xs cs -> AsR N G κ ys cs) : Rel N G κ (hf.set l (.var ys)) w where
  ghost := h.ghost
  blk := fun l' b e => by
    by_cases hll : l' = l
    · subst hll
      simp only [Hp.set, if_true, Blk.opt, Option.some.injEq] at e
      subst e
      obtain ⟨o, cs, h1, h2, h3⟩ := h.blk l' _ hl
      exact ⟨o, cs, h1, by rw [hm']; rw [hm] at h2; exact h2, hv cs h3⟩
    · simp only [Hp.set, if_neg hll] at e
      exact h.blk l' b e
  sep := fun l1 l2 e1 e2 => by
    have key : ∀ l', (hf.set l (.var ys)) l' ≠ none -> hf l' ≠ none := fun l' e => by
      by_cases hll : l' = l
      · subst hll; rw [hl]; simp
      · simpa only [Hp.set, if_neg hll] using e
    exact h.sep l1 l2 (key l1 e1) (key l2 e2)
  own := fun l' b e o v hg => by
    by_cases hll : l' = l
    · subst hll
      exact (h.own l' _ hl o v hg).elim
    · simp only [Hp.set, if_neg hll] at e
      exact h.own l' b e o v hg
end Go.Abs
namespace Go.Abs
structure Pl where
  x : Rat
  y : Rat
theorem Pl.ext' {p q : Pl} (h1 : p.x = q.x) (h2 : p.y = q.y) : p = q := by cases p; cases q; simp_all
instance : DecidableEq Pl := fun p q => decidable_of_iff (p.x = q.x /\ p.y = q.y) ⟨fun h => Pl.ext' h.1 h.2, fun h => by rw [h]; exact ⟨rfl, rfl⟩⟩
def crP (a b : Pl) : Rat := a.x * b.y - a.y * b.x
def sbP (a b : Pl) : Pl := ⟨a.x - b.x, a.y - b.y⟩
def lxP (a b : Pl) : Prop := a.x < b.x \/ a.x = b.x /\ a.y < b.y
instance (a b : Pl) : Decidable (lxP a b) := by unfold lxP; infer_instance
def loP (a b : Pl) : Pl := if lxP b a then b else a
def hiP (a b : Pl) : Pl := if lxP b a then a else b
def mxP (p x : Pl) : Pl := if lxP p x then x else p
def btw (e a b : Rat) : Prop := (a <= e \/ b <= e) /\ (e <= a \/ e <= b)
instance (e a b : Rat) : Decidable (btw e a b) := by unfold btw; infer_instance
def onP (e a b : Pl) : Prop := btw e.x a.x b.x /\ btw e.y a.y b.y /\ crP (sbP b a) (sbP e a) = 0
instance (e a b : Pl) : Decidable (onP e a b) := by unfold onP; infer_instance
def apP (a b c d : Rat) : Prop := (a < c /\ a < d /\ b < c /\ b < d) \/ (c < a /\ c < b /\ d < a /\ d < b)
instance (a b c d : Rat) : Decidable (apP a b c d) := by unfold apP; infer_instance
end Go.Abs
namespace Go.Abs
open Go.Proofs
set_option maxRecDepth 100000
def sG (a b c d e f g h : Int) : SV := .v true [.int .i64 a, .int .i64 b, .int .i64 c, .int .i64 d, .int .i64 e, .int .i64 f, .int .i64 g, .int .i64 h]
def segB (a b c d e f g h : Int) : Bool := bif vOkB a b c d then bif vOkB e f g h then !(a == e && (b == f && (c == g && d == h))) else false else false
end Go.Abs
namespace Go.Abs
open Go.Proofs
set_option maxRecDepth 100000
def s8 (q : Rat) : Bool := decide ((words q.num.natAbs).length < 8) && decide ((words q.den).length < 8)
theorem s8_ok {q : Rat} (h : s8 q = true) : szN 8 q := by simpa [s8, szN] using h
theorem szN.qq {B : Nat} {q : Rat} (h : szN B q) (hB : B <= 100000000) : szQ q = true := (h.mono hB).q
def plV (a b c d : Int) : Pl := ⟨Rat.divInt a b, Rat.divInt c d⟩
def onB (p q r s a b c d e f g h : Int) : Bool := bif vOkB p q r s then bif segB a b c d e f g h then decide (onP (plV p q r s) (plV a b c d) (plV e f g h)) else false else false
def cmvV (a b c d e f g h : Int) : Int := bif vOkB a b c d then bif vOkB e f g h then cmpP (Rat.divInt a b) (Rat.divInt c d) (Rat.divInt e f) (Rat.divInt g h) else 2 else 2
end Go.Abs
namespace Go.Abs
open Go.Proofs
set_option maxRecDepth 100000
abbrev m4 (p q : Pl) : Prop := (0 = 0 /\ 0 = 0 /\ 0 = 0 /\ 0 = 0) /\ szM p.x = true /\ szM p.y = true /\ szM q.x = true /\ szM q.y = true
section
variable {ρ : Type} (cont : SV -> HL -> Option ρ)
end
end Go.Abs
namespace Go.Abs
open Go.Proofs
set_option maxRecDepth 100000
def szP (B : Nat) (p : Pl) : Prop := szN B p.x /\ szN B p.y
theorem szP.sub {B : Nat} {p q : Pl} (hp : szP B p) (hq : szP B q) : szP (2 * B) (sbP p q) := ⟨hp.1.sub hq.1, hp.2.sub hq.2⟩
theorem szN.inv {B : Nat} {q : Rat} (h : szN B q) (h0 : q ≠ 0) : szN B q⁻¹ := by
  obtain ⟨h1, h2⟩ := inv_parts h0
  have e1 : q⁻¹.num.natAbs = q.den := by rw [h1]; split <;> omega
  have e2 : q⁻¹.den = q.num.natAbs := by split at h2 <;> omega
  unfold szN
  rw [e1, e2]
  exact ⟨h.2, h.1⟩
theorem szN.div {B : Nat} {p q : Rat} (hp : szN B p) (hq : szN B q) (h0 : q ≠ 0) : szN (2 * B) (p / q) := by
  rw [Rat.div_def]
  exact hp.mul (hq.inv h0)
section
variable {ρ : Type} (cont : SV -> HL -> Option ρ)
theorem szP.lo {B : Nat} {a b : Pl} (h1 : szP B a) (h2 : szP B b) : szP B (loP a b) := by unfold loP; split <;> assumption
theorem szP.hi {B : Nat} {a b : Pl} (h1 : szP B a) (h2 : szP B b) : szP B (hiP a b) := by unfold hiP; split <;> assumption
theorem szP.mx {B : Nat} {a b : Pl} (h1 : szP B a) (h2 : szP B b) : szP B (mxP a b) := by unfold mxP; split <;> assumption
end
end Go.Abs
namespace Go.Abs
open Go.Proofs
set_option maxRecDepth 100000
abbrev n4 (p q : Pl) : Prop := (1 = 1 /\ 1 = 1 /\ 1 = 1 /\ 1 = 1) /\ szM p.x = true /\ szM p.y = true /\ szM q.x = true /\ szM q.y = true
section
variable {ρ : Type} (cont : SV -> HL -> Option ρ)
end
end Go.Abs
namespace Go.Abs
open Go.Proofs
set_option maxRecDepth 100000
section
variable {ρ : Type} (cont : SV -> HL -> Option ρ)
end
end Go.Abs
namespace Go.Abs
open Go.Proofs
set_option maxRecDepth 100000
structure S8 where
  a : Int
  b : Int
  c : Int
  d : Int
  e : Int
  f : Int
  g : Int
  h : Int
def S8.p (s : S8) : Pl := plV s.a s.b s.c s.d
def S8.q (s : S8) : Pl := plV s.e s.f s.g s.h
def S8.ok (s : S8) : Bool := segB s.a s.b s.c s.d s.e s.f s.g s.h
def S8.sv (s : S8) : SV := sG s.a s.b s.c s.d s.e s.f s.g s.h
def mvT (k a b c d e f g h : Int) : SV := .tup [(false, [.int .i64 k]), (true, [.int .i64 a, .int .i64 b, .int .i64 c, .int .i64 d]), (true, [.int .i64 e, .int .i64 f, .int .i64 g, .int .i64 h])]
section
variable {ρ : Type} (cont : SV -> HL -> Option ρ)
end
structure M9 where
  k : Int
  a : Int
  b : Int
  c : Int
  d : Int
  e : Int
  f : Int
  g : Int
  h : Int
def M9.sv (m : M9) : SV := mvT m.k m.a m.b m.c m.d m.e m.f m.g m.h
section
variable {ρ : Type} (cont : SV -> HL -> Option ρ)
end
end Go.Abs
namespace Go.Abs
open Go.Proofs
set_option maxRecDepth 100000
structure W4 where
  a : Int
  b : Int
  c : Int
  d : Int
instance : Inhabited W4 := ⟨⟨0, 0, 0, 0⟩⟩
instance : Inhabited S8 := ⟨⟨0, 0, 0, 0, 0, 0, 0, 0⟩⟩
def W4.sv (v : W4) : SV := sV v.a v.b v.c v.d
def Ends {α : Type} (xs : List Int) (sh : α -> SV) (X : ∀ ρ, (SV -> HL -> Option ρ) -> Option ρ) : Prop := ∃ a p', True /\ rdOkB xs p' = true /\ ∀ ρ cont, X ρ cont = cont (sh a) (rdH xs p')
section
variable {α : Type} {xs : List Int} {sh : α -> SV} {X Y : ∀ ρ, (SV -> HL -> Option ρ) -> Option ρ}
theorem Ends.bif {b : Bool} (h1 : Ends xs sh X) (h2 : Ends xs sh Y) : Ends xs sh fun ρ cont => bif b then X ρ cont else Y ρ cont := by
  cases b
  · exact h2
  · exact h1
theorem Ends.ite {c : Prop} [Decidable c] (hc : c) (h1 : Ends xs sh X) : Ends xs sh fun ρ cont => if c then X ρ cont else Y ρ cont := by
  obtain ⟨a, p, h2, h3, h4⟩ := h1
  exact ⟨a, p, h2, h3, fun ρ cont => (if_pos hc).trans (h4 ρ cont)⟩
theorem Ends.fin (a : α) {p : Int} (h : rdOkB xs p = true) : Ends xs sh fun ρ cont => cont (sh a) (rdH xs p) := ⟨a, p, trivial, h, fun _ _ => rfl⟩
theorem Ends.eq (h : Ends xs sh Y) (e : ∀ ρ cont, X ρ cont = Y ρ cont) : Ends xs sh X := by
  obtain ⟨a, p, h2, h3, h4⟩ := h
  exact ⟨a, p, h2, h3, fun ρ cont => (e ρ cont).trans (h4 ρ cont)⟩
end
end Go.Abs
namespace Go.Abs
open Go.Proofs
set_option maxRecDepth 100000
section
variable {ρ : Type} (cont : SV -> HL -> Option ρ) (xs : List Int)
end
end Go.Abs
namespace Go.Abs
open Go.Proofs
set_option maxRecDepth 100000
def rfO : Orc := fun ρ args H cont => match args, H with
  | [.v false [.int .i64 n], .v false [.int .i64 d]], [] => if (-2147483648 < n /\ n < 2147483648) /\ 0 < d /\ d < 2147483648 then cont (nm 1 (Rat.divInt n d)) [] else none
  | _, _ => none
def S8.ats (s : S8) : List Atom := [.int .i64 s.a, .int .i64 s.b, .int .i64 s.c, .int .i64 s.d, .int .i64 s.e, .int .i64 s.f, .int .i64 s.g, .int .i64 s.h]
def bO {α : Type} (sh : α -> SV) (f : List Int -> α) : Orc := fun ρ args H cont => match args, H with
  | [.v false [.sl none (.int .u8) xs]], [] => if rdOkB xs 0 = true then cont (sh (f xs)) [] else none
  | _, _ => none
def End0 {α : Type} (sh : α -> SV) (X : ∀ ρ, (SV -> HL -> Option ρ) -> Option ρ) : Prop := ∃ a, ∀ ρ cont, X ρ cont = cont (sh a) []
section
variable {α : Type} {sh : α -> SV} {X Y : ∀ ρ, (SV -> HL -> Option ρ) -> Option ρ}
theorem End0.bif {b : Bool} (h1 : End0 sh X) (h2 : End0 sh Y) : End0 sh fun ρ cont => bif b then X ρ cont else Y ρ cont := by
  cases b
  · exact h2
  · exact h1
theorem End0.ite {c : Prop} [Decidable c] (hc : c) (h1 : End0 sh X) : End0 sh fun ρ cont => if c then X ρ cont else Y ρ cont := by
  obtain ⟨a, h4⟩ := h1
  exact ⟨a, fun ρ cont => (if_pos hc).trans (h4 ρ cont)⟩
theorem End0.fin (a : α) : End0 sh fun ρ cont => cont (sh a) [] := ⟨a, fun _ _ => rfl⟩
theorem End0.eq (h : End0 sh Y) (e : ∀ ρ cont, X ρ cont = Y ρ cont) : End0 sh X := by
  obtain ⟨a, h4⟩ := h
  exact ⟨a, fun ρ cont => (e ρ cont).trans (h4 ρ cont)⟩
end
structure D2 where
  s : S8
  t : S8
instance : Inhabited D2 := ⟨⟨default, default⟩⟩
def D2.sv (d : D2) : SV := .tup [(true, d.s.ats), (true, d.t.ats)]
section
variable {ρ : Type} (cont : SV -> HL -> Option ρ) (xs : List Int)
end
end Go.Abs
namespace Go.Abs
open Go.Proofs
set_option maxRecDepth 100000
def onS (v : W4) (s : S8) : Bool := onB v.a v.b v.c v.d s.a s.b s.c s.d s.e s.f s.g s.h
def cmW (v w : W4) : Int := cmvV v.a v.b v.c v.d w.a w.b w.c w.d
def M9.A (m : M9) : W4 := ⟨m.a, m.b, m.c, m.d⟩
def M9.B (m : M9) : W4 := ⟨m.e, m.f, m.g, m.h⟩
def S8.P (s : S8) : W4 := ⟨s.a, s.b, s.c, s.d⟩
def S8.Q (s : S8) : W4 := ⟨s.e, s.f, s.g, s.h⟩
def W4.ats (v : W4) : List Atom := [.int .i64 v.a, .int .i64 v.b, .int .i64 v.c, .int .i64 v.d]
section
variable {ρ : Type} (K : Exit -> St -> Option ρ) (go : St -> Option ρ) (f : List Int -> D2) (s t : S8) (k : Int) (a b x y z w : W4)
def good8 (v : W4) : Prop := onS v s = true -> onS v t = true -> k ≠ 0 /\ ¬ cmW v a < 0 /\ ¬ 0 < cmW v b
instance (v : W4) : Decidable (good8 s t k a b v) := by unfold good8; infer_instance
end
section
variable {ρ : Type} (K : Bool -> Option ρ) (s t : S8) (m n : M9)
end
end Go.Abs
namespace Go.Abs
open Go.Proofs
set_option maxRecDepth 100000
def W4.pl (v : W4) : Pl := plV v.a v.b v.c v.d
def W4.ok (v : W4) : Bool := vOkB v.a v.b v.c v.d
end Go.Abs
namespace Go.Abs
open Go.Proofs
set_option maxRecDepth 100000
theorem OpOK.weakB {N : NumSem} {P : Program} {H : Hp} {nid : Nat} {ev : Operand -> SV} {o : Oper} {v : SV} {xs ys : List Atom} (h : OpOK N P H nid ev o { val := v, sets := [(nid, .var xs)], new := 1 })
    (hm : isMk xs = false) (hm' : isMk ys = false) (hv : ∀ {G : Ghost} {κ : Kap} {cs : List Value}, AsR N G κ xs cs -> AsR N G κ ys cs) : OpOK N P H nid ev o { val := v, sets := [(nid, .var ys)], new := 1 } := by
  intro G κ hf w a next Q hH hfr hnm hmv hr hev hn
  refine h hH hfr hnm (fun i hi => by cases hi) hr hev fun u G' κ' w' t r s k => hn u G' κ' w' ?_ ?_ s k
  · refine t.drop fun l hl => ?_
    show (hf.set nid (.var xs)) l ≠ none
    by_cases e : l = nid
    · subst e; rw [Hp.set_same]; simp [Blk.opt]
    · rw [Hp.set_other _ _ e]
      have : (hf.set nid (.var ys)) l ≠ none := hl
      rwa [Hp.set_other _ _ e] at this
  · have r' := Rel.view (l := nid) r (xs := xs) (ys := ys) (by show (hf.set nid (.var xs)) nid = _; rw [Hp.set_same]; rfl) hm hm' fun cs => hv
    have e : (Eff.app { val := v, sets := [(nid, .var xs)], new := 1 } hf).set nid (.var ys) = hf.set nid (.var ys) := Hp.set_set hf nid (.var xs) (.var ys)
    rw [e] at r'
    exact r'
def xAllocZ (nid : Nat) (op : Op) : Option Eff :=
  match op with
  | .alloc 119 => opAlloc tranT nid 119 fun e => (match e with
    | ⟨s, [(n, .var [.bool false, .nils])], 1, []⟩ => bif Nat.beq n nid then some { val := s, sets := [(nid, .var [.bool false, .sl none tW []])], new := 1 } else none
    | _ => none)
  | _ => none
theorem nils_sl {N : NumSem} {G : Ghost} {κ : Kap} {cs : List Value} (h : AsR N G κ [.bool false, .nils] cs) : AsR N G κ [.bool false, .sl none tW []] cs := by
  obtain ⟨c, d, e, h1, c2, d2, e2, h2, h3⟩ := h
  exact ⟨c, d, e, h1, c2, d2, e2, ⟨_, h2, .inl ⟨rfl, rfl⟩, by simp, by simp⟩, h3⟩
theorem xAllocZ_ok {H : Hp} {nid : Nat} {ev : Operand -> SV} {o : Oper} {e : Eff} (h : xAllocZ nid o.op = some e) : OpOK NN Tryz.prog H nid ev o e := by
  unfold xAllocZ at h
  split at h
  · rename_i ho
    obtain ⟨e', he, hok⟩ := opAlloc_ok (N := NN) (P := Tryz.prog) (H := H) (ev := ev) (TabOk.of tranT_ok) ho h
    split at he
    · rename_i s n
      cases hb : Nat.beq n nid with
      | false => rw [hb] at he; contradiction
      | true =>
        rw [hb] at he
        have := Nat.eq_of_beq_eq_true hb
        subst this
        simp only [cond_true, Option.some.injEq] at he
        subst he
        exact @OpOK.weakB _ _ _ _ _ _ _ _ _ @hok rfl rfl fun {G κ cs} h => nils_sl h
    · contradiction
  · contradiction
def intsA : List Atom -> Option (List Int)
  | [] => some []
  | .int .i64 n :: r => (match intsA r with | some l => some (n :: l) | none => none)
  | _ => none
theorem intsA_ok {N : NumSem} {G : Ghost} {κ : Kap} : ∀ (xs : List Atom) {l : List Int}, intsA xs = some l -> ∀ {cs : List Value}, AsR N G κ xs cs -> cs = l.map (Value.int .i64)
  | [], l, h, cs, hc => by simp only [intsA, Option.some.injEq] at h; subst h; exact hc
  | a :: r, l, h, cs, hc => by
    unfold intsA at h
    split at h
    · contradiction
    · rename_i n r' he
      cases he
      split at h
      · rename_i l' hl
        simp only [Option.some.injEq] at h
        subst h
        obtain ⟨c, d, e, h1, h2⟩ := hc
        simp only [AR] at h1
        subst h1
        rw [e, intsA_ok _ hl h2]; rfl
      · contradiction
    · contradiction
theorem run_sliceW {P : Program} {n el : Nat} {t : Nat} (hu : P.underlying t = some (.array n el)) (hsz : ∀ w, (sizeOf el).run P w = .ok 1 w) (hn : 0 < n) {o : Oper} {ax : Operand} (ho : o.op = .slice t ax none none none) {a : Act} {b : Nat} (ha : a.eval ax = .pointer (some ⟨b, 0, none⟩)) (w : World) :
    (execOp a.eval o).run P w = .ok (.value (.slice (some ⟨b, 0, none⟩) n n)) w := by
  have hsb : (Instr.sliceBounds false n n none none none).run P w = .ok (0, n, n) w := by
    simp [Instr.sliceBounds]
  have hne : ¬ (n = 0) := by omega
  have hadd : (⟨b, 0, none⟩ : Addr).add (0 * 1) = ⟨b, 0, none⟩ := Addr.add_lit _ _ _
  simp only [execOp, ho, ha, Option.map_none, Instr.sliceAt, Instr.sureAddr, Sem.run_bind, Sem.run_pure, Result.andThen_ok, run_underlying hu, hsb, hsz, hne, if_false, hadd, Nat.sub_zero]
def arr3B (P : Program) : Bool := match P.underlying 144 with
  | some (.array n el) => Nat.beq n 3 && (match P.info? el with | some i => Nat.beq i.size 1 | none => false)
  | _ => false
theorem arr3_ok : ∃ el, Tryz.prog.underlying 144 = some (.array 3 el) /\ ∀ w, (sizeOf el).run Tryz.prog w = .ok 1 w := by
  have h : arr3B Tryz.prog = true := by kernel_rfl
  unfold arr3B at h
  split at h
  · rename_i n el hu
    simp only [Bool.and_eq_true] at h
    have hn := Nat.eq_of_beq_eq_true h.1
    subst hn
    refine ⟨el, hu, fun w => ?_⟩
    cases hi : Tryz.prog.info? el with
    | none => simp [hi] at h
    | some i =>
      simp only [hi] at h
      have := Nat.eq_of_beq_eq_true h.2
      simp [sizeOf, typeInfo, hi, this]
  · contradiction
def xSl3 (H : HL) (ev : Operand -> SV) (op : Op) : Option Eff :=
  match op with
  | .slice 144 x none none none => (match ev x with
    | .v false [.ptr l 0] => (match hget H l with
      | .var [.int .i64 a, .int .i64 b, .int .i64 c] => some { val := one (.sl (some false) (.int .i64) [a, b, c]), sets := [(l, .dead)] }
      | _ => none)
    | _ => none)
  | _ => none
def xSlA (H : HL) (ev : Operand -> SV) (op : Op) : Option Eff :=
  match op with
  | .slice 144 x none none none => (match ev x with
    | .v false [.ptr l 0] => (match hget H l with
      | .var [.int .i64 a, .int .i64 b, .int .i64 c] => some { val := one (.asl l 0 3 3) }
      | _ => none)
    | _ => none)
  | _ => none
theorem xSlA_ok {H : HL} {nid : Nat} {ev : Operand -> SV} {o : Oper} {e : Eff} (h : xSlA H ev o.op = some e) : OpOK NN Tryz.prog (hmap H) nid ev o e := by
  unfold xSlA at h
  split at h
  · rename_i x ho
    split at h
    · rename_i l hx
      split at h
      · rename_i a b c hl
        simp only [Option.some.injEq] at h
        subst h
        obtain ⟨el, hu, hsz⟩ := arr3_ok
        refine @OpOK.pure _ _ _ _ _ _ _ fun {G κ hf w ac} hH hr hev => ?_
        have h1 := hev x
        rw [hx] at h1
        have h1 := one_val h1
        simp only [AR, List.cons.injEq, and_true] at h1
        exact ⟨_, run_sliceW hu hsz (by omega) ho h1 w, AsR.one rfl⟩
      · contradiction
    · contradiction
  · contradiction
theorem xSl3_ok {H : HL} {nid : Nat} {ev : Operand -> SV} {o : Oper} {e : Eff} (h : xSl3 H ev o.op = some e) : OpOK NN Tryz.prog (hmap H) nid ev o e := by
  unfold xSl3 at h
  split at h
  · rename_i x ho
    split at h
    · rename_i l hx
      split at h
      · rename_i a b c hl
        simp only [Option.some.injEq] at h
        subst h
        obtain ⟨el, hu, hsz⟩ := arr3_ok
        intro G κ hf w ac next Q hH hfr hnm hmv hr hev hn
        have h1 := hev x
        rw [hx] at h1
        have h1 := one_val h1
        simp only [AR, List.cons.injEq, and_true] at h1
        have hfl := hH l _ (hmap_mk hl (by simp))
        obtain ⟨cs, ty, hw, hcs⟩ := (hr.blk l _ hfl).cells rfl
        obtain ⟨G1, t1, r1, hat⟩ := seal_one hr l (.var [.int .i64 a, .int .i64 b, .int .i64 c]) hfl
        obtain ⟨cs', ty', hw', hat⟩ := hat _ rfl rfl
        have hcs' : cs' = cs := by rw [hw] at hw'; cases hw'; rfl
        subst hcs'
        have hci := intsA_ok _ (l := [a, b, c]) rfl hcs
        unfold Oper.wp
        rw [run_sliceW hu hsz (by omega) ho h1 w]
        refine hn _ G1 κ w t1 r1 (AsR.one ⟨_, rfl, .inr ⟨(κ l).1, 0, 3, rfl, by simp, fun i y hy => ?_⟩, by simp, by simp⟩) fun _ _ _ => rfl
        refine ⟨[.int .i64 y], rfl, rfl, fun j v hj => ?_⟩
        rw [hci] at hat
        have hj0 : j = 0 /\ v = .int .i64 y := by
          cases j with
          | zero => exact ⟨rfl, by simpa using hj.symm⟩
          | succ j => simp at hj
        obtain ⟨rfl, rfl⟩ := hj0
        have hm : ([a, b, c].map (Value.int .i64))[i]? = some (.int .i64 y) := by
          rw [List.getElem?_map, hy]; rfl
        have := hat i _ hm
        simpa [Ty.w] using this
      · contradiction
    · contradiction
  · contradiction
end Go.Abs
namespace Go.Abs
open Go.Proofs
set_option maxRecDepth 100000
def xAppA (T : Tab) (H : HL) (nid : Nat) (ev : Operand -> SV) (op : Op) : Option Eff :=
  match op with
  | .call ⟨.builtin .append, args, tys⟩ => (match args.toList, tys.toList with
    | [s, x], [98, 98] => (match ev s with
      | .v false [.asl l 0 n c] => bif Nat.beq n c then (match hget H l with
        | .var zs => bif isMk zs then none else (match intsA zs with
          | some xs => bif Nat.beq xs.length n then tfind T 98 fun e => (match e.kind with
            | .slice el by' (.int .i64) => one? (ev x) fun xa => srcOf H (.int .i64) xa fun ys => (match ys with
              | [y] => if n <= 1000 then some { val := one (.wsl nid 1), sets := [(nid, .arr el (.int .i64) (xs ++ [y]) false true)], new := 1 } else none
              | _ => none)
            | _ => none) else none
          | none => none)
        | _ => none) else none
      | _ => none)
    | _, _ => none)
  | _ => none
theorem xAppA_ok {T : Tab} (hT : TabOk Tryz.prog T) {H : HL} {nid : Nat} {ev : Operand -> SV} {o : Oper} {e : Eff} (h : xAppA T H nid ev o.op = some e) : OpOK NN Tryz.prog (hmap H) nid ev o e := by
  unfold xAppA at h
  split at h
  · rename_i args tys ho
    split at h
    · rename_i s x h1 h2
      have e1 := toList_two h1
      have e2 := toList_two h2
      subst e1 e2
      split at h
      · rename_i l n c hs
        cases hnc : Nat.beq n c with
        | false => rw [hnc] at h; contradiction
        | true =>
          have := Nat.eq_of_beq_eq_true hnc
          subst this
          rw [hnc] at h
          simp only [cond_true] at h
          split at h
          · rename_i xs hl
            cases hmk : isMk xs with
            | true => rw [hmk] at h; contradiction
            | false =>
              rw [hmk] at h
              simp only [cond_false] at h
              split at h
              · rename_i is hi
                cases hlen : Nat.beq is.length n with
                | false => rw [hlen] at h; contradiction
                | true =>
                  have hlen := Nat.eq_of_beq_eq_true hlen
                  subst hlen
                  rw [Nat.beq_refl] at h
                  simp only [cond_true] at h
                  obtain ⟨te, he, h⟩ := tfind_ok hT h
                  have hkk := te_kind he
                  split at h
                  · rename_i el by' hk
                    rw [hk] at hkk
                    obtain ⟨hu, i, z, hi', hsz, hby, hb4, hw0, hz, hzs⟩ := slice_row hkk
                    obtain ⟨xa, hxa, h⟩ := one?_ok h
                    obtain ⟨ys, h, hsrc⟩ := srcOf_ok h
                    split at h
                    · rename_i y
                      split at h
                      · rename_i hn
                        simp only [Option.some.injEq] at h
                        subst h
                        refine @newArr_ok _ _ _ _ _ _ _ (.int .i64) (is ++ [y]) fun {G κ hf w a} hH hr hev => ?_
                        have g1 := hev s
                        have g2 := hev x
                        rw [hs] at g1
                        rw [hxa] at g2
                        have g1 := one_val g1
                        have g2 := one_val g2
                        simp only [AR, List.cons.injEq, and_true] at g1
                        have hfl := hH l _ (hmap_mk hl (by simp))
                        obtain ⟨cs, ty, hw, hcs⟩ := (hr.blk l _ hfl).cells hmk
                        have hci := intsA_ok _ hi hcs
                        have g3 := hsrc hH hr g2
                        rcases g3 with ⟨_, g3⟩ | ⟨b, o', cc, news, g3, hnl, hnews, hone, hnE⟩
                        · cases g3
                        · have hadd : ∀ (b' o'' j : Nat), (⟨b', o'', none⟩ : Addr).add j = ⟨b', o'' + j, none⟩ := fun b' o'' j => Addr.add_lit b' o'' j
                          have hsz1 : i.size = 1 := hsz
                          have hlo : (is.map (Value.int .i64)).length = is.length * i.size := by rw [hsz1, Nat.mul_one, List.length_map]
                          have hnl' : news.length = 1 * i.size := by rw [hnl]; rw [hsz1]; rfl
                          have hold : ∀ j v, (is.map (Value.int .i64))[j]? = some v -> w.cell? ((⟨(κ l).1, 0, none⟩ : Addr).add j) = some v := fun j v hj => by
                            rw [hadd, cell_of_heap hw, Nat.zero_add, <- Array.getElem?_toList, hci]
                            exact hj
                          have hrun := run_append_grow (P := Tryz.prog) w 98 o.type el i z hu hi' hz ⟨(κ l).1, 0, none⟩ is.length is.length (is.map (Value.int .i64)) hlo hold ⟨b, o', none⟩ 1 cc news hnl' (fun j u hj => by rw [hadd]; exact hnews j u hj) (by omega) (by omega)
                            (growslice_fits (by omega) (by
                              have : (is.length + 1) * i.bytes <= 1001 * 4096 := Nat.mul_le_mul (by omega) (by omega)
                              omega))
                          have hge := grownCap_ge w (is.length + 1) is.length el
                          have hcm := grownCap_le_maxLen w (is.length + 1) is.length el (by unfold maxLen; omega)
                          generalize grownCap w (is.length + 1) is.length el = cap at *
                          have hll : List.length (α := (Ty.int IntKind.i64).den) (is ++ [y]) = is.length + 1 := by simp
                          have hl1 : news.length = 1 := by rw [hnl', hsz1]
                          have hzs1 : z.cells.size = 1 := hzs
                          refine ⟨_, cap, w.drew, exec_append ho (by rw [g1, g3, hll]; exact hrun), rfl, rfl, rfl, rfl, ?_, by omega, hcm, ?_⟩
                          · simp only [Array.size_append, List.size_toArray, size_zeroCells, hzs1, List.length_map, hl1]
                            show _ = cap * 1
                            omega
                          · intro q xx hq
                            show ∃ vs : List Value, vs = [Value.int .i64 xx] /\ _
                            refine ⟨_, rfl, fun j v hj => ?_⟩
                            have hj0 : j = 0 /\ v = .int .i64 xx := by
                              cases j with
                              | zero => exact ⟨rfl, by simpa using hj.symm⟩
                              | succ j => simp at hj
                            obtain ⟨rfl, rfl⟩ := hj0
                            show _ = some _
                            simp only [Array.toList_append, Ty.w, Nat.mul_one, Nat.add_zero]
                            by_cases hqi : q < is.length
                            · have hq' : is[q]? = some xx := by rwa [List.getElem?_append_left hqi] at hq
                              rw [List.getElem?_append_left (by simp; omega), List.getElem?_append_left (by simp; omega)]
                              simp [hq']
                            · have hq1 : q = is.length := by
                                have := (List.getElem?_eq_some_iff.1 hq).1
                                omega
                              subst hq1
                              have hx : xx = y := by
                                rw [List.getElem?_append_right (by omega)] at hq
                                simpa using hq.symm
                              subst hx
                              obtain ⟨vs, hd, hv⟩ := hnE 0 xx rfl
                              have hd : vs = [.int .i64 xx] := hd
                              subst hd
                              have h0 := hv 0 _ rfl
                              rw [List.getElem?_append_left (by simp; omega), List.getElem?_append_right (by simp)]
                              simpa using h0
                      · contradiction
                    · contradiction
                  · contradiction
              · contradiction
          · contradiction
      · contradiction
    · contradiction
  · contradiction
end Go.Abs
namespace Go.Abs
open Go.Proofs
set_option maxRecDepth 100000
abbrev tRw : Ty := .list (.ip tZ)
def detT : Tab := (231, ⟨1, false, [.nils], .slice 232 24 tRw⟩) :: (232, ⟨1, false, [.nils], .slice 99 8 (.ip tZ)⟩) :: tryT
theorem detT_ok : TabOk Tryz.prog detT := by
  have h1 : teOk Tryz.prog 231 ⟨1, false, [.nils], .slice 232 24 tRw⟩ = true := by kernel_rfl
  have h2 : teOk Tryz.prog 232 ⟨1, false, [.nils], .slice 99 8 (.ip tZ)⟩ = true := by kernel_rfl
  intro p hp
  rcases List.mem_cons.1 hp with rfl | hp
  · exact h1
  · rcases List.mem_cons.1 hp with rfl | hp
    · exact h2
    · exact TabOk.of tryT_ok p hp
def xopD (T : Tab) (X : XT) (H : HL) (nid : Nat) (ev : Operand -> SV) (op : Op) : Option Eff :=
  match xAllocZ nid op with
  | some e => some e
  | none => xopL T X H nid ev op
theorem xopD_ok {T : Tab} (hT : TabOk Tryz.prog T) {X : XT} (hX : XTOK Tryz.prog X) : XOK NN Tryz.prog (xopD T X) := by
  intro H nid ev o e h
  unfold xopD at h
  split at h
  · rename_i e' he
    simp only [Option.some.injEq] at h
    subst h
    exact fun {G κ hf w a next Q} => xAllocZ_ok he
  · exact fun {G κ hf w a next Q} => xopL_ok hT hX h
def Mdt : Nat -> List (Nat × Ty) := fun f => bif Nat.beq f 196 then [(1, tZ), (2, tZ)] else bif Nat.beq f 112 then [(2, tZ)] else bif Nat.beq f 204 then [(0, .list tRw)] else []
noncomputable def dtE (l : List (Nat × Orc)) : Env := { T := detT, E := [], Γ := gamL l, M := Mdt, X := xopD detT { xtT with vs := [] } }
theorem dtE_ok {l : List (Nat × Orc)} (h : GamOK NN Tryz.prog (gamL l)) : EnvOK NN Tryz.prog (dtE l) := { T := detT_ok, E := fun p hp => (by cases hp), Γ := h, X := xopD_ok detT_ok (xtT_ok []) }
def mulZO : Orc := un2 (fun _ _ => true) fun n m => n * m
def Adt : Ann := { shut := true, res := [(0, tZ)] }
def rwS (b : Option Bool) (rows : List (List tZ.den)) : SV := one (.sl b tRw rows)
def s0D : tZ.den := (false, [])
section
variable {ρ : Type} (K : tZ.den -> Option ρ)
def evD (s x D : tZ.den) : Option ρ := if zOk x /\ zOk D /\ true = true then (if zOk s /\ zOk (zD (zV x * zV D)) then K (zD (zV s + zV (zD (zV x * zV D)))) else none) else none
def odD (s x D : tZ.den) : Option ρ := if zOk x /\ zOk D /\ true = true then (if zOk (zD (zV x * zV D)) then (if zOk s /\ zOk (zD (-(zV (zD (zV x * zV D))))) then K (zD (zV s + zV (zD (-(zV (zD (zV x * zV D))))))) else none) else none) else none
end
def okE (x : tZ.den) : Prop := zOk x /\ (zV x).natAbs < 4611686018427387904
instance (x : tZ.den) : Decidable (okE x) := by unfold okE; infer_instance
def dt2 (x y z w : Int) : Int := x * w - y * z
def dt3 (a b c d e f g h i : Int) : Int := a * dt2 e f h i - b * dt2 d f g i + c * dt2 d e g h
def dt4 (a b c d e f g h i j k l m n o p : Int) : Int := a * dt3 f g h j k l n o p - b * dt3 e g h i k l m o p + c * dt3 e f h i j l m n p - d * dt3 e f g i j k m n o
def ipS (x : tZ.den) : SV := one (.ip tZ x 0)
def dO1 : Orc := fun ρ args H cont => match args, H with
  | [.v false [.sl b (.list (.ip (.pair .bool (.list (.int .u32))))) [[x]]]], [] => cont (ipS x) []
  | _, _ => none
section
variable {ρ : Type}
def g2 (x y z w : tZ.den) (K : tZ.den -> Option ρ) : Option ρ := if (okE x /\ okE y) /\ okE z /\ okE w then K (zD (dt2 (zV x) (zV y) (zV z) (zV w))) else none
def g33 (a b c d e f g h i : tZ.den) (K : tZ.den -> Option ρ) : Option ρ := if ((okE a /\ okE b /\ okE c) /\ okE d /\ okE e /\ okE f) /\ okE g /\ okE h /\ okE i then K (zD (dt3 (zV a) (zV b) (zV c) (zV d) (zV e) (zV f) (zV g) (zV h) (zV i))) else none
end
def dO2 : Orc := fun ρ args H cont => match args, H with
  | [.v false [.sl b (.list (.ip (.pair .bool (.list (.int .u32))))) [[x, y], [z, w]]]], [] => g2 x y z w fun D => cont (ipS D) []
  | _, _ => none
def dO3 : Orc := fun ρ args H cont => match args, H with
  | [.v false [.sl _ (.list (.ip (.pair .bool (.list (.int .u32))))) [[a, b, c], [d, e, f], [g, h, i]]]], [] => g33 a b c d e f g h i fun D => cont (ipS D) []
  | _, _ => none
noncomputable def dE1 : Env := dtE []
noncomputable def dE2 : Env := dtE [(204, dO1), (196, mulZO), (200, negO), (112, addO)]
noncomputable def dE3 : Env := dtE [(204, dO2), (196, mulZO), (200, negO), (112, addO)]
noncomputable def dE4 : Env := dtE [(204, dO3), (196, mulZO), (200, negO), (112, addO)]
theorem gd1 {ρ : Type} (cont : SV -> HL -> Option ρ) (b : Option Bool) (x : tZ.den) : runF dE1 Adt 10 Tryz.f204 (bodyOf Tryz.f204) ρ [rwS b [[x]]] [] cont = cont (ipS x) [] := by kernel_rfl
theorem gd2 {ρ : Type} (cont : SV -> HL -> Option ρ) (b : Option Bool) (x y z w : tZ.den) : runF dE2 Adt 10 Tryz.f204 (bodyOf Tryz.f204) ρ [rwS b [[x, y], [z, w]]] [] cont = evD (fun s => odD (fun s => cont (ipS s) []) s y z) s0D x w := by kernel_rfl
theorem gd3 {ρ : Type} (cont : SV -> HL -> Option ρ) (b' : Option Bool) (a b c d e f g h i : tZ.den) : runF dE3 Adt 10 Tryz.f204 (bodyOf Tryz.f204) ρ [rwS b' [[a, b, c], [d, e, f], [g, h, i]]] [] cont =
    g2 e f h i fun D => evD (fun s => g2 d f g i fun D => odD (fun s => g2 d e g h fun D => evD (fun s => cont (ipS s) []) s c D) s b D) s0D a D := by kernel_rfl
theorem gd4 {ρ : Type} (cont : SV -> HL -> Option ρ) (b' : Option Bool) (a b c d e f g h i j k l m n o p : tZ.den) : runF dE4 Adt 10 Tryz.f204 (bodyOf Tryz.f204) ρ [rwS b' [[a, b, c, d], [e, f, g, h], [i, j, k, l], [m, n, o, p]]] [] cont =
    g33 f g h j k l n o p fun D => evD (fun s => g33 e g h i k l m o p fun D => odD (fun s => g33 e f h i j l m n p fun D => evD (fun s => g33 e f g i j k m n o fun D => odD (fun s => cont (ipS s) []) s d D) s c D) s b D) s0D a D := by kernel_rfl
end Go.Abs
namespace Go.Abs
open Go.Proofs
set_option maxRecDepth 100000
theorem zOkB {n : Int} (h : n.natAbs < 4294967296 ^ 20) : zOk (zD n) := zOk_zD (by have := words_length h; omega)
theorem mulB {x y : Int} {A B : Nat} (h1 : x.natAbs <= A) (h2 : y.natAbs <= B) : (x * y).natAbs <= A * B := by rw [Int.natAbs_mul]; exact Nat.mul_le_mul h1 h2
def b1 : Nat := 4611686018427387904
theorem s0D_eq : s0D = zD 0 := by
  have h := val_words 0
  have : (words 0) = [] := by
    have h2 : (words (0 : Int).natAbs).length <= 0 := words_length (by decide)
    exact List.eq_nil_of_length_eq_zero (by have : (0 : Int).natAbs = 0 := rfl; rw [this] at h2; omega)
  unfold s0D zD
  show _ = (decide ((0 : Int) < 0), words 0)
  rw [this]
  rfl
section
variable {ρ : Type} (K : tZ.den -> Option ρ)
theorem evD_eq {x : tZ.den} {s d : Int} (hx : okE x) (hs : s.natAbs < 4294967296 ^ 18) (hd : d.natAbs < 4294967296 ^ 16) : evD K (zD s) x (zD d) = K (zD (s + zV x * d)) := by
  have m := mulB (x := zV x) (y := d) (A := 4611686018427387904) (B := 4294967296 ^ 16) (by have := hx.2; omega) (by omega)
  unfold evD
  rw [zV_zD, zV_zD, zV_zD, if_pos ⟨hx.1, zOkB (by omega), rfl⟩, if_pos ⟨zOkB (by omega), zOkB (by omega)⟩]
theorem odD_eq {x : tZ.den} {s d : Int} (hx : okE x) (hs : s.natAbs < 4294967296 ^ 18) (hd : d.natAbs < 4294967296 ^ 16) : odD K (zD s) x (zD d) = K (zD (s - zV x * d)) := by
  have m := mulB (x := zV x) (y := d) (A := 4611686018427387904) (B := 4294967296 ^ 16) (by have := hx.2; omega) (by omega)
  unfold odD
  rw [zV_zD, zV_zD, zV_zD, zV_zD, if_pos ⟨hx.1, zOkB (by omega), rfl⟩, if_pos (zOkB (by omega)), if_pos ⟨zOkB (by omega), zOkB (by rw [Int.natAbs_neg]; omega)⟩, Int.sub_eq_add_neg]
end
theorem dt2_B {x y z w : Int} {A B : Nat} (h1 : x.natAbs <= A) (h2 : y.natAbs <= A) (h3 : z.natAbs <= B) (h4 : w.natAbs <= B) : (dt2 x y z w).natAbs <= 2 * (A * B) := by
  have := mulB h1 h4
  have := mulB h2 h3
  unfold dt2
  generalize x * w = p at *
  generalize y * z = q at *
  generalize A * B = c at *
  omega
theorem dt3_B {a b c d e f g h i : Int} {A B C : Nat} (h1 : a.natAbs <= A /\ b.natAbs <= A /\ c.natAbs <= A) (h2 : d.natAbs <= B /\ e.natAbs <= B /\ f.natAbs <= B) (h3 : g.natAbs <= C /\ h.natAbs <= C /\ i.natAbs <= C) : (dt3 a b c d e f g h i).natAbs <= 3 * (A * (2 * (B * C))) := by
  have k1 := mulB h1.1 (dt2_B h2.2.1 h2.2.2 h3.2.1 h3.2.2)
  have k2 := mulB h1.2.1 (dt2_B h2.1 h2.2.2 h3.1 h3.2.2)
  have k3 := mulB h1.2.2 (dt2_B h2.1 h2.2.1 h3.1 h3.2.1)
  unfold dt3
  generalize a * dt2 e f h i = p at *
  generalize b * dt2 d f g i = q at *
  generalize c * dt2 d e g h = r at *
  generalize A * (2 * (B * C)) = m at *
  omega
theorem okE_le {x : tZ.den} (h : okE x) : (zV x).natAbs <= 4611686018427387904 := by have := h.2; omega
section
variable {ρ : Type} (K : tZ.den -> Option ρ)
theorem g2_eq {x y z w : tZ.den} (h : (okE x /\ okE y) /\ okE z /\ okE w) : g2 x y z w K = K (zD (dt2 (zV x) (zV y) (zV z) (zV w))) := if_pos h
theorem g33_eq {a b c d e f g h i : tZ.den} (hh : ((okE a /\ okE b /\ okE c) /\ okE d /\ okE e /\ okE f) /\ okE g /\ okE h /\ okE i) : g33 a b c d e f g h i K = K (zD (dt3 (zV a) (zV b) (zV c) (zV d) (zV e) (zV f) (zV g) (zV h) (zV i))) := if_pos hh
end
section
theorem orc_d1 : OrcOK NN Tryz.prog 204 dO1 :=
  OrcOK.of_tale (cR_ok (A := Adt) (fuel := 10) (dtE_ok (gamN _ _)) rfl Tryz.func204 (by kernel_rfl)) fun ρ args H cont r h => by
    unfold dO1 at h
    split at h
    · exact (gd1 cont _ _).trans h
    · contradiction
theorem orc_d2 : OrcOK NN Tryz.prog 204 dO2 :=
  OrcOK.of_tale (cR_ok (A := Adt) (fuel := 10) (dtE_ok (gamC orc_d1 Tryz.call204 (gamC (orc157 NN) Tryz.call196 (gamC (orc173n NN) Tryz.call200 (gamC (orc160 NN) Tryz.call112 (gamN _ _)))))) rfl Tryz.func204 (by kernel_rfl)) fun ρ args H cont r h => by
    unfold dO2 at h
    split at h
    · rename_i b x y z w
      unfold g2 at h
      split at h
      · rename_i hc
        obtain ⟨⟨h1, h2⟩, h3, h4⟩ := hc
        refine (gd2 cont b x y z w).trans ?_
        have m := mulB (okE_le h1) (okE_le h4)
        have ew : w = zD (zV w) := h4.1.1
        have ez : z = zD (zV z) := h3.1.1
        have k3 := okE_le h3
        have k4 := okE_le h4
        rw [s0D_eq, ew, ez, evD_eq _ h1 (by decide) (by omega), Int.zero_add, odD_eq _ h2 (by omega) (by omega)]
        have : (dt2 (zV x) (zV y) (zV z) (zV w)) = zV x * zV w - zV y * zV z := rfl
        rw [this] at h
        exact h
      · contradiction
    · contradiction
theorem orc_d3 : OrcOK NN Tryz.prog 204 dO3 :=
  OrcOK.of_tale (cR_ok (A := Adt) (fuel := 10) (dtE_ok (gamC orc_d2 Tryz.call204 (gamC (orc157 NN) Tryz.call196 (gamC (orc173n NN) Tryz.call200 (gamC (orc160 NN) Tryz.call112 (gamN _ _)))))) rfl Tryz.func204 (by kernel_rfl)) fun ρ args H cont r hr => by
    unfold dO3 at hr
    split at hr
    · rename_i b' a b c d e f g h i
      unfold g33 at hr
      split at hr
      · rename_i hc
        obtain ⟨⟨⟨ha, hb, hc⟩, hd, he, hf⟩, hg, hh, hi⟩ := hc
        refine (gd3 cont b' a b c d e f g h i).trans ?_
        have D0 := dt2_B (okE_le he) (okE_le hf) (okE_le hh) (okE_le hi)
        have D1 := dt2_B (okE_le hd) (okE_le hf) (okE_le hg) (okE_le hi)
        have D2 := dt2_B (okE_le hd) (okE_le he) (okE_le hg) (okE_le hh)
        have m0 := mulB (okE_le ha) D0
        have m1 := mulB (okE_le hb) D1
        rw [g2_eq _ ⟨⟨he, hf⟩, hh, hi⟩, s0D_eq, evD_eq _ ha (by decide) (by omega), Int.zero_add, g2_eq _ ⟨⟨hd, hf⟩, hg, hi⟩, odD_eq _ hb (by omega) (by omega), g2_eq _ ⟨⟨hd, he⟩, hg, hh⟩, evD_eq _ hc (by omega) (by omega)]
        exact hr
      · contradiction
    · contradiction
def dO4 : Orc := fun ρ args H cont => match args, H with
  | [.v false [.sl _ (.list (.ip (.pair .bool (.list (.int .u32))))) [[a, b, c, d], [e, f, g, h], [i, j, k, l], [m, n, o, p]]]], [] =>
    if (((okE a /\ okE b /\ okE c /\ okE d) /\ okE e /\ okE f /\ okE g /\ okE h) /\ okE i /\ okE j /\ okE k /\ okE l) /\ okE m /\ okE n /\ okE o /\ okE p then
      cont (ipS (zD (dt4 (zV a) (zV b) (zV c) (zV d) (zV e) (zV f) (zV g) (zV h) (zV i) (zV j) (zV k) (zV l) (zV m) (zV n) (zV o) (zV p)))) [] else none
  | _, _ => none
theorem orc_d4 : OrcOK NN Tryz.prog 204 dO4 :=
  OrcOK.of_tale (cR_ok (A := Adt) (fuel := 10) (dtE_ok (gamC orc_d3 Tryz.call204 (gamC (orc157 NN) Tryz.call196 (gamC (orc173n NN) Tryz.call200 (gamC (orc160 NN) Tryz.call112 (gamN _ _)))))) rfl Tryz.func204 (by kernel_rfl)) fun ρ args H cont r hr => by
    unfold dO4 at hr
    split at hr
    · rename_i b' a b c d e f g h i j k l m n o p
      split at hr
      · rename_i hc
        obtain ⟨⟨⟨⟨ha, hb, hc, hd⟩, he, hf, hg, hh⟩, hi, hj, hk, hl⟩, hm, hn, ho, hp⟩ := hc
        refine (gd4 cont b' a b c d e f g h i j k l m n o p).trans ?_
        have D0 := dt3_B ⟨okE_le hf, okE_le hg, okE_le hh⟩ ⟨okE_le hj, okE_le hk, okE_le hl⟩ ⟨okE_le hn, okE_le ho, okE_le hp⟩
        have D1 := dt3_B ⟨okE_le he, okE_le hg, okE_le hh⟩ ⟨okE_le hi, okE_le hk, okE_le hl⟩ ⟨okE_le hm, okE_le ho, okE_le hp⟩
        have D2 := dt3_B ⟨okE_le he, okE_le hf, okE_le hh⟩ ⟨okE_le hi, okE_le hj, okE_le hl⟩ ⟨okE_le hm, okE_le hn, okE_le hp⟩
        have D3 := dt3_B ⟨okE_le he, okE_le hf, okE_le hg⟩ ⟨okE_le hi, okE_le hj, okE_le hk⟩ ⟨okE_le hm, okE_le hn, okE_le ho⟩
        have m0 := mulB (okE_le ha) D0
        have m1 := mulB (okE_le hb) D1
        have m2 := mulB (okE_le hc) D2
        rw [g33_eq _ ⟨⟨⟨hf, hg, hh⟩, hj, hk, hl⟩, hn, ho, hp⟩, s0D_eq, evD_eq _ ha (by decide) (by omega), Int.zero_add, g33_eq _ ⟨⟨⟨he, hg, hh⟩, hi, hk, hl⟩, hm, ho, hp⟩, odD_eq _ hb (by omega) (by omega), g33_eq _ ⟨⟨⟨he, hf, hh⟩, hi, hj, hl⟩, hm, hn, hp⟩, evD_eq _ hc (by omega) (by omega),
          g33_eq _ ⟨⟨⟨he, hf, hg⟩, hi, hj, hk⟩, hm, hn, ho⟩, odD_eq _ hd (by omega) (by omega)]
        exact hr
      · contradiction
    · contradiction
end
end Go.Abs
namespace Go.Abs
open Go.Proofs
set_option maxRecDepth 100000
abbrev i6 : Ty := .int .i64
abbrev tP2 : Ty := .pair i6 i6
abbrev tP3 : Ty := .pair i6 tP2
def Mds : Nat -> List (Nat × Ty) := fun f => bif Nat.beq f 204 then [(0, .list tRw)] else bif Nat.beq f 199 then [(0, tZ)] else bif Nat.beq f 101 then [(0, .list (.list i6))] else bif Nat.beq f 99 then [(0, .list tP2)] else bif Nat.beq f 107 then [(0, .list tP3)] else []
noncomputable def dsE (l : List (Nat × Orc)) : Env := { T := detT, E := [], Γ := gamL l, M := Mds, X := xopD detT { xtT with vs := [] } }
theorem dsE_ok {l : List (Nat × Orc)} (h : GamOK NN Tryz.prog (gamL l)) : EnvOK NN Tryz.prog (dsE l) := { T := detT_ok, E := fun p hp => (by cases hp), Γ := h, X := xopD_ok detT_ok (xtT_ok []) }
section
variable {ρ : Type}
def iK (a : Int) (r : Option ρ) : Option ρ := if -9223372036854775808 <= a /\ a < 9223372036854775808 then r else none
theorem iK_eq {a : Int} {r : Option ρ} (h : a.natAbs < 4611686018427387904) : iK a r = r := if_pos (by omega)
def sgK (D : tZ.den) (cont : SV -> HL -> Option ρ) : Option ρ := if zOk D then cont (one (.int .i64 (zV D).sign)) [] else none
end
def eO (n : Int) : Prop := n.natAbs < 4611686018427387904
instance (n : Int) : Decidable (eO n) := by unfold eO; infer_instance
theorem eO_okE {n : Int} (h : eO n) : okE (zD n) := ⟨zOkB (by unfold eO at h; omega), by rw [zV_zD]; exact h⟩
def ds3 : Orc := fun ρ args H cont => match args, H with
  | [.v false [.sl _ (.list (.int .i64)) [[a, b, c], [d, e, f], [g, h, i]]]], [] =>
    if ((eO a /\ eO b /\ eO c) /\ eO d /\ eO e /\ eO f) /\ eO g /\ eO h /\ eO i then cont (one (.int .i64 (dt3 a b c d e f g h i).sign)) [] else none
  | _, _ => none
def ds4 : Orc := fun ρ args H cont => match args, H with
  | [.v false [.sl _ (.list (.int .i64)) [[a, b, c, d], [e, f, g, h], [i, j, k, l], [m, n, o, p]]]], [] =>
    if (((eO a /\ eO b /\ eO c /\ eO d) /\ eO e /\ eO f /\ eO g /\ eO h) /\ eO i /\ eO j /\ eO k /\ eO l) /\ eO m /\ eO n /\ eO o /\ eO p then cont (one (.int .i64 (dt4 a b c d e f g h i j k l m n o p).sign)) [] else none
  | _, _ => none
section
variable {ρ : Type} (cont : SV -> HL -> Option ρ)
def k4 (a b c d e f g h i j k l m n o p : tZ.den) (K : tZ.den -> Option ρ) : Option ρ := if (((okE a /\ okE b /\ okE c /\ okE d) /\ okE e /\ okE f /\ okE g /\ okE h) /\ okE i /\ okE j /\ okE k /\ okE l) /\ okE m /\ okE n /\ okE o /\ okE p then
      K (zD (dt4 (zV a) (zV b) (zV c) (zV d) (zV e) (zV f) (zV g) (zV h) (zV i) (zV j) (zV k) (zV l) (zV m) (zV n) (zV o) (zV p))) else none
theorem gs3 (z : Option Bool) (a b c d e f g h i : Int) : runF (dsE [(97, newIntO), (204, dO3), (199, signO)]) { shut := true } 12 Tryz.f101 (bodyOf Tryz.f101) ρ [one (.sl z (.list i6) [[a,b,c],[d,e,f],[g,h,i]])] [] cont =
    iK a (iK b (iK c (iK d (iK e (iK f (iK g (iK h (iK i (g33 (zD a) (zD b) (zD c) (zD d) (zD e) (zD f) (zD g) (zD h) (zD i) fun D => sgK D cont))))))))) := by kernel_rfl
theorem gs4 (z : Option Bool) (a b c d e f g h i j k l m n o p : Int) : runF (dsE [(97, newIntO), (204, dO4), (199, signO)]) { shut := true } 12 Tryz.f101 (bodyOf Tryz.f101) ρ [one (.sl z (.list i6) [[a,b,c,d],[e,f,g,h],[i,j,k,l],[m,n,o,p]])] [] cont =
    iK a (iK b (iK c (iK d (iK e (iK f (iK g (iK h (iK i (iK j (iK k (iK l (iK m (iK n (iK o (iK p (k4 (zD a) (zD b) (zD c) (zD d) (zD e) (zD f) (zD g) (zD h) (zD i) (zD j) (zD k) (zD l) (zD m) (zD n) (zD o) (zD p) fun D => sgK D cont)))))))))))))))) := by kernel_rfl
end
theorem orc_ds3 : OrcOK NN Tryz.prog 101 ds3 :=
  OrcOK.of_tale (cR_ok (A := { shut := true }) (fuel := 12) (dsE_ok (gamC (orc178 NN) Tryz.call97 (gamC orc_d3 Tryz.call204 (gamC (orc174 NN) Tryz.call199 (gamN _ _))))) rfl Tryz.func101 (by kernel_rfl)) fun ρ args H cont r hr => by
    unfold ds3 at hr
    split at hr
    · rename_i z a b c d e f g h i
      split at hr
      · rename_i hc
        obtain ⟨⟨⟨ha, hb, hc⟩, hd, he, hf⟩, hg, hh, hi⟩ := hc
        refine (gs3 cont z a b c d e f g h i).trans ?_
        rw [iK_eq ha, iK_eq hb, iK_eq hc, iK_eq hd, iK_eq he, iK_eq hf, iK_eq hg, iK_eq hh, iK_eq hi, g33_eq _ ⟨⟨⟨eO_okE ha, eO_okE hb, eO_okE hc⟩, eO_okE hd, eO_okE he, eO_okE hf⟩, eO_okE hg, eO_okE hh, eO_okE hi⟩]
        simp only [zV_zD]
        unfold eO at *
        have B := dt3_B (A := 4611686018427387904) (B := 4611686018427387904) (C := 4611686018427387904) (a := a) (b := b) (c := c) (d := d) (e := e) (f := f) (g := g) (h := h) (i := i) ⟨by omega, by omega, by omega⟩ ⟨by omega, by omega, by omega⟩ ⟨by omega, by omega, by omega⟩
        unfold sgK
        rw [if_pos (zOkB (by omega)), zV_zD]
        exact hr
      · contradiction
    · contradiction
theorem k4_eq {ρ : Type} (K : tZ.den -> Option ρ) {a b c d e f g h i j k l m n o p : tZ.den} (hh : (((okE a /\ okE b /\ okE c /\ okE d) /\ okE e /\ okE f /\ okE g /\ okE h) /\ okE i /\ okE j /\ okE k /\ okE l) /\ okE m /\ okE n /\ okE o /\ okE p) :
    k4 a b c d e f g h i j k l m n o p K = K (zD (dt4 (zV a) (zV b) (zV c) (zV d) (zV e) (zV f) (zV g) (zV h) (zV i) (zV j) (zV k) (zV l) (zV m) (zV n) (zV o) (zV p))) := if_pos hh
theorem dt4_B {a b c d e f g h i j k l m n o p : Int} {A B C D : Nat} (h1 : a.natAbs <= A /\ b.natAbs <= A /\ c.natAbs <= A /\ d.natAbs <= A) (h2 : e.natAbs <= B /\ f.natAbs <= B /\ g.natAbs <= B /\ h.natAbs <= B)
    (h3 : i.natAbs <= C /\ j.natAbs <= C /\ k.natAbs <= C /\ l.natAbs <= C) (h4 : m.natAbs <= D /\ n.natAbs <= D /\ o.natAbs <= D /\ p.natAbs <= D) : (dt4 a b c d e f g h i j k l m n o p).natAbs <= 4 * (A * (3 * (B * (2 * (C * D))))) := by
  have k1 := mulB h1.1 (dt3_B (B := C) (C := D) h2.2 h3.2 h4.2)
  have k2 := mulB h1.2.1 (dt3_B (B := C) (C := D) ⟨h2.1, h2.2.2⟩ ⟨h3.1, h3.2.2⟩ ⟨h4.1, h4.2.2⟩)
  have k3 := mulB h1.2.2.1 (dt3_B (B := C) (C := D) ⟨h2.1, h2.2.1, h2.2.2.2⟩ ⟨h3.1, h3.2.1, h3.2.2.2⟩ ⟨h4.1, h4.2.1, h4.2.2.2⟩)
  have k4 := mulB h1.2.2.2 (dt3_B (B := C) (C := D) ⟨h2.1, h2.2.1, h2.2.2.1⟩ ⟨h3.1, h3.2.1, h3.2.2.1⟩ ⟨h4.1, h4.2.1, h4.2.2.1⟩)
  unfold dt4
  generalize a * dt3 f g h j k l n o p = x at *
  generalize b * dt3 e g h i k l m o p = y at *
  generalize c * dt3 e f h i j l m n p = z at *
  generalize d * dt3 e f g i j k m n o = w at *
  generalize A * (3 * (B * (2 * (C * D)))) = q at *
  omega
theorem orc_ds4 : OrcOK NN Tryz.prog 101 ds4 :=
  OrcOK.of_tale (cR_ok (A := { shut := true }) (fuel := 12) (dsE_ok (gamC (orc178 NN) Tryz.call97 (gamC orc_d4 Tryz.call204 (gamC (orc174 NN) Tryz.call199 (gamN _ _))))) rfl Tryz.func101 (by kernel_rfl)) fun ρ args H cont r hr => by
    unfold ds4 at hr
    split at hr
    · rename_i z a b c d e f g h i j k l m n o p
      split at hr
      · rename_i hc
        obtain ⟨⟨⟨⟨ha, hb, hc, hd⟩, he, hf, hg, hh⟩, hi, hj, hk, hl⟩, hm, hn, ho, hp⟩ := hc
        refine (gs4 cont z a b c d e f g h i j k l m n o p).trans ?_
        rw [iK_eq ha, iK_eq hb, iK_eq hc, iK_eq hd, iK_eq he, iK_eq hf, iK_eq hg, iK_eq hh, iK_eq hi, iK_eq hj, iK_eq hk, iK_eq hl, iK_eq hm, iK_eq hn, iK_eq ho, iK_eq hp, k4_eq _ ⟨⟨⟨⟨eO_okE ha, eO_okE hb, eO_okE hc, eO_okE hd⟩, eO_okE he, eO_okE hf, eO_okE hg, eO_okE hh⟩, eO_okE hi, eO_okE hj, eO_okE hk, eO_okE hl⟩, eO_okE hm, eO_okE hn, eO_okE ho, eO_okE hp⟩]
        simp only [zV_zD]
        unfold eO at *
        have B := dt4_B (A := 4611686018427387904) (B := 4611686018427387904) (C := 4611686018427387904) (D := 4611686018427387904) (a := a) (b := b) (c := c) (d := d) (e := e) (f := f) (g := g) (h := h) (i := i) (j := j) (k := k) (l := l) (m := m) (n := n) (o := o) (p := p) ⟨by omega, by omega, by omega, by omega⟩ ⟨by omega, by omega, by omega, by omega⟩ ⟨by omega, by omega, by omega, by omega⟩ ⟨by omega, by omega, by omega, by omega⟩
        unfold sgK
        rw [if_pos (zOkB (by omega)), zV_zD]
        exact hr
      · contradiction
    · contradiction
end Go.Abs

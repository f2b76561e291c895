/-
  A PART OF THE PROOF of AbI (texts AbvP AbvA AbvB AbvC AbvE): the claim itself stands in the last text. No conditions beside those of the given row.
-/
import Derived.Test.YtjefeldkonejcaaGreatDoorDrwA
import Derived.Test.YtjefeldkonejcaaGreatDoorMeetB
set_option linter.unusedVariables false
set_option linter.unnecessarySimpa false
set_option linter.unusedSimpArgs false
namespace Go.Abs
def upP (a b p : Pl) : Option Rat :=
  if p.x < a.x \/ b.x < p.x then none
  else if a.x = b.x then (if (if a.y < p.y then p.y else a.y) <= b.y then some (if a.y < p.y then p.y else a.y) else none)
  else if p.y <= a.y + (b.y - a.y) * (p.x - a.x) / (b.x - a.x) then some (a.y + (b.y - a.y) * (p.x - a.x) / (b.x - a.x)) else none
theorem lohi_cases {a b : Pl} (hab : a ≠ b) : (loP a b = a /\ hiP a b = b /\ lxP a b) \/ (loP a b = b /\ hiP a b = a /\ lxP b a) := by
  unfold loP hiP; rcases lx_tri a b with h | h | h
  · exact .inl ⟨if_neg (lx_asym h), if_neg (lx_asym h), h⟩
  · exact absurd h hab
  · exact .inr ⟨if_pos h, if_pos h, h⟩
theorem up_on0 {a b p : Pl} (h : lxP a b) {y : Rat} (hy : upP a b p = some y) : onP ⟨p.x, y⟩ a b /\ p.y <= y := by
  unfold upP at hy; split at hy
  · cases hy
  · rename_i hx; split at hy
    · rename_i he; generalize hz : (if a.y < p.y then p.y else a.y) = z at hy; have hz' : (a.y < p.y /\ z = p.y) \/ (¬ a.y < p.y /\ z = a.y) := by
        by_cases h : a.y < p.y
        · rw [if_pos h] at hz; exact .inl ⟨h, hz.symm⟩
        · rw [if_neg h] at hz; exact .inr ⟨h, hz.symm⟩
      by_cases hc : z <= b.y
      · rw [if_pos hc] at hy; have hy := Option.some.inj hy; subst hy; unfold onP btw crP sbP lxP at *; dsimp only
        grind
      · rw [if_neg hc] at hy; cases hy
    · rename_i he; split at hy
      · rename_i hc; cases hy; refine ⟨?_, hc⟩; have hl : a.x < b.x := by unfold lxP at h; grind
        have hd : (0 : Rat) < b.x - a.x := by grind
        have t0 : 0 <= (p.x - a.x) / (b.x - a.x) := div_ge hd (by grind); have t1 : (p.x - a.x) / (b.x - a.x) <= 1 := div_le1 hd (by grind); refine (on_par (by rintro rfl; exact lx_irr _ h)).2 ⟨(p.x - a.x) / (b.x - a.x), t0, t1, ?_, ?_⟩
        · dsimp only; grind
        · dsimp only; grind
      · cases hy
theorem up_on {a b p : Pl} (hab : a ≠ b) {y : Rat} (hy : upP (loP a b) (hiP a b) p = some y) : onP ⟨p.x, y⟩ a b /\ p.y <= y := by
  rcases lohi_cases hab with ⟨h1, h2, h3⟩ | ⟨h1, h2, h3⟩
  · rw [h1, h2] at hy; exact up_on0 h3 hy
  · rw [h1, h2] at hy; exact ⟨(on_sym hab).2 (up_on0 h3 hy).1, (up_on0 h3 hy).2⟩
theorem up_le0 {a b e p : Pl} (h : lxP a b) (ho : onP e a b) (hx : e.x = p.x) (hy : p.y <= e.y) : ∃ y, upP a b p = some y /\ y <= e.y := by
  obtain ⟨t, t0, t1, ex, ey⟩ := (on_par (by rintro rfl; exact lx_irr _ h)).1 ho; have hb := ho.1; have hc := ho.2.1; unfold upP; have hl : a.x <= b.x := by unfold lxP at h; grind
  rw [if_neg (by unfold btw at hb; grind)]
  by_cases he : a.x = b.x
  · rw [if_pos he]; have hab : a.y < b.y := by unfold lxP at h; grind
    by_cases hp : a.y < p.y
    · rw [if_pos hp, if_pos (by unfold btw at hc; grind)]; exact ⟨_, rfl, hy⟩
    · rw [if_neg hp, if_pos (by grind)]; exact ⟨_, rfl, by unfold btw at hc; grind⟩
  · rw [if_neg he]; have hd : b.x - a.x ≠ 0 := by grind
    have ht : t = (p.x - a.x) / (b.x - a.x) := by grind
    have e1 : a.y + (b.y - a.y) * (p.x - a.x) / (b.x - a.x) = e.y := by rw [ey, ht]; grind
    rw [e1, if_pos hy]; exact ⟨_, rfl, Rat.le_refl⟩
theorem up_le {a b e p : Pl} (hab : a ≠ b) (ho : onP e a b) (hx : e.x = p.x) (hy : p.y <= e.y) : ∃ y, upP (loP a b) (hiP a b) p = some y /\ y <= e.y := by
  rcases lohi_cases hab with ⟨h1, h2, h3⟩ | ⟨h1, h2, h3⟩
  · rw [h1, h2]; exact up_le0 h3 ho hx hy
  · rw [h1, h2]; exact up_le0 h3 ((on_sym hab).1 ho) hx hy
def stpU (p : Pl) (i : Nat) (s : Pl × Pl) (st : Option (Nat × Rat)) : Option (Nat × Rat) := match upP (loP s.1 s.2) (hiP s.1 s.2) p with
  | none => st
  | some y => (match st with
    | none => some (i, y)
    | some (j, z) => if y < z then some (i, y) else some (j, z))
def foldU (p : Pl) : Nat -> List (Pl × Pl) -> Option (Nat × Rat) -> Option (Nat × Rat)
  | _, [], st => st
  | i, s :: r, st => foldU p (i + 1) r (stpU p i s st)
def metU (p : Pl) (l : List (Pl × Pl)) (n : Nat) (st : Option (Nat × Rat)) : Prop :=
  (∀ j z, st = some (j, z) -> ∃ s, l[j]? = some s /\ upP (loP s.1 s.2) (hiP s.1 s.2) p = some z) /\
  ∀ k s y, k < n -> l[k]? = some s -> upP (loP s.1 s.2) (hiP s.1 s.2) p = some y -> ∃ j z, st = some (j, z) /\ z <= y
theorem metU_step {p : Pl} {l : List (Pl × Pl)} {n : Nat} {st : Option (Nat × Rat)} {s : Pl × Pl} (h : metU p l n st) (hs : l[n]? = some s) : metU p l (n + 1) (stpU p n s st) := by
  obtain ⟨h1, h2⟩ := h; have old : ∀ {k s' y}, k < n + 1 -> l[k]? = some s' -> upP (loP s'.1 s'.2) (hiP s'.1 s'.2) p = some y -> (∃ j z, st = some (j, z) /\ z <= y) \/ (k = n /\ s' = s) := fun {k s' y} hk hl hu => by
    rcases Nat.lt_or_ge k n with h | h
    · exact .inl (h2 k s' y h hl hu)
    · have : k = n := by omega
      subst this; rw [hs] at hl; cases hl; exact .inr ⟨rfl, rfl⟩
  unfold stpU; cases hu : upP (loP s.1 s.2) (hiP s.1 s.2) p with
  | none =>
    refine ⟨h1, fun k s' y hk hl hu' => ?_⟩; rcases old hk hl hu' with h | ⟨_, rfl⟩
    · exact h
    · rw [hu] at hu'; cases hu'
  | some y0 =>
    cases st with
    | none =>
      refine ⟨fun j z e => ?_, fun k s' y hk hl hu' => ⟨n, y0, rfl, ?_⟩⟩
      · cases e; exact ⟨s, hs, hu⟩
      · rcases old hk hl hu' with ⟨j, z, e, _⟩ | ⟨_, rfl⟩
        · cases e
        · rw [hu] at hu'; cases hu'; exact Rat.le_refl
    | some v =>
      obtain ⟨j0, z0⟩ := v; dsimp only
      by_cases hlt : y0 < z0
      · rw [if_pos hlt]; refine ⟨fun j z e => ?_, fun k s' y hk hl hu' => ⟨n, y0, rfl, ?_⟩⟩
        · cases e; exact ⟨s, hs, hu⟩
        · rcases old hk hl hu' with ⟨j, z, e, hz⟩ | ⟨_, rfl⟩
          · cases e; grind
          · rw [hu] at hu'; cases hu'; exact Rat.le_refl
      · rw [if_neg hlt]; refine ⟨h1, fun k s' y hk hl hu' => ⟨j0, z0, rfl, ?_⟩⟩; rcases old hk hl hu' with ⟨j, z, e, hz⟩ | ⟨_, rfl⟩
        · cases e; exact hz
        · rw [hu] at hu'; cases hu'; grind
theorem metU_fold {p : Pl} {l : List (Pl × Pl)} : ∀ {r : List (Pl × Pl)} {n : Nat} {st : Option (Nat × Rat)}, metU p l n st -> l.drop n = r -> n + r.length = l.length -> metU p l l.length (foldU p n r st)
  | [], n, st, h, _, hl => by
    have : n = l.length := by simpa using hl
    subst this; exact h
  | s :: r, n, st, h, hd, hl => by
    have hs : l[n]? = some s := by
      have := congrArg (fun x => x[0]?) hd
      simpa using this
    refine metU_fold (n := n + 1) (metU_step h hs) ?_ (by simp at hl; omega); rw [<- List.drop_drop, hd]; rfl
def firstU (p : Pl) (l : List (Pl × Pl)) : Option (Nat × Rat) := foldU p 0 l none
theorem firstU_ok (p : Pl) (l : List (Pl × Pl)) : metU p l l.length (firstU p l) :=
  metU_fold ⟨fun j z e => (by cases e), fun k s y hk => absurd hk (Nat.not_lt_zero k)⟩ rfl (by simp)
theorem first_meet {p : Pl} {l : List (Pl × Pl)} {j : Nat} {y : Rat} (h : firstU p l = some (j, y)) (hne : (⟨p.x, y⟩ : Pl) ≠ p) {s : Pl × Pl} (hs : s ∈ l) (hab : s.1 ≠ s.2) {e : Pl} (h1 : onP e p ⟨p.x, y⟩) (h2 : onP e s.1 s.2) (hpy : p.y <= y) : e = ⟨p.x, y⟩ := by
  obtain ⟨k, hk⟩ := List.mem_iff_getElem?.1 hs; have ex : e.x = p.x := by
    have := h1.1; unfold btw at this; dsimp only at this
    grind
  have ey : p.y <= e.y /\ e.y <= y := by
    have := h1.2.1; unfold btw at this; dsimp only at this
    grind
  obtain ⟨y', u1, u2⟩ := up_le hab h2 ex ey.1; obtain ⟨j', z, e1, e2⟩ := (firstU_ok p l).2 k s y' (by
    have := (List.getElem?_eq_some_iff.1 hk).1; exact this) hk u1
  rw [h] at e1; cases e1; refine Pl.ext' ex ?_; show e.y = y
  grind
end Go.Abs
namespace Go.Abs
open Go.Proofs
set_option maxRecDepth 100000
abbrev tS8 : Ty := .pair tW4 tW4
def dS (x : tS8.den) : S8 := ⟨x.1.1.1, x.1.1.2, x.1.2.1, x.1.2.2, x.2.1.1, x.2.1.2, x.2.2.1, x.2.2.2⟩
noncomputable def aA : Env := VL tryT [] [(59, segO), (112, segO)]
theorem aA_ok : EnvOK NN Tryz.prog aA := VL_ok (TabOk.of tryT_ok) (gamC orc_segI Tryz.call59 (gamC orc_segS Tryz.call112 (gamN _ _)))
def allS (xs : List tS8.den) : Bool := xs.all fun x => (dS x).ok
def A500 : Ann := { head := ptOf [(4, [8, 9, 10], [])], out := ptOf [(4, [2], [])] }
def σ500 (xs : List tS8.den) (i : Int) : St := ⟨[(8, one (.sl none tS8 xs)), (9, one (.int .i64 xs.length)), (10, one (.int .i64 i))], []⟩
def A502 : Ann := { head := ptOf [(4, [0, 3], [])], out := ptOf [(4, [2], [])] }
def σ502 (xs : List tS8.den) (i : Int) : St := ⟨[(0, one (.sl none tS8 xs)), (3, one (.int .i64 i))], []⟩
def outF : St := ⟨[(2, one (.bool false))], []⟩
def outU : St := ⟨[(2, .undef)], []⟩
section
variable {ρ : Type} (K : Exit -> St -> Option ρ) (go : St -> Option ρ)
theorem turn500 (xs : List tS8.den) (i : Int) : turnF aA A500 18 0 0 (loopAt Tryz.f46 0) K go (σ500 xs i) =
    bif decide (i < (xs.length : Int)) then (if 0 <= i then xs[i.toNat]?.bind (fun x => bif !(dS x).ok then K .ret outF else go (σ500 xs (IntKind.i64.wrap (i + 1)))) else none) else K (.exit 0) outU := by kernel_rfl
theorem turn502 (xs : List tS8.den) (i : Int) : turnF aA A502 19 0 0 (loopAt Tryz.f53 0) K go (σ502 xs i) =
    bif decide (i < (xs.length : Int)) then (if 0 <= i then xs[i.toNat]?.bind (fun x => bif !(dS x).ok then K .ret outF else go (σ502 xs (IntKind.i64.wrap (i + 1)))) else none) else K (.exit 0) outU := by kernel_rfl
theorem all_run (K : Exit -> St -> Option ρ) : ∀ (xs : List tS8.den) (i : Int), runL (fun _ (x : tS8.den) (_ : Unit) go => bif !(dS x).ok then K .ret outF else go ()) (fun _ => K (.exit 0) outU) xs i () = bif allS xs then K (.exit 0) outU else K .ret outF
  | [], i => rfl
  | x :: r, i => by
    show (bif !(dS x).ok then K .ret outF else _) = _; unfold allS; rw [List.all_cons]; cases hx : (dS x).ok
    · rfl
    · exact all_run K r (i + 1)
end
def S500 : Sum := fun n0 ρ σ K => match n0, σ with
  | 0, ⟨[(8, .v false [.sl none (.pair (.pair (.pair (.int .i64) (.int .i64)) (.pair (.int .i64) (.int .i64))) (.pair (.pair (.int .i64) (.int .i64)) (.pair (.int .i64) (.int .i64)))) xs]), (9, .v false [.int .i64 n]), (10, .v false [.int .i64 i])], []⟩ =>
    if n = List.length (α := tS8.den) xs /\ i = 0 /\ n <= 60 then (bif allS xs then K (.exit 0) outU else K .ret outF) else none
  | _, _ => none
def S502 : Sum := fun n0 ρ σ K => match n0, σ with
  | 0, ⟨[(0, .v false [.sl none (.pair (.pair (.pair (.int .i64) (.int .i64)) (.pair (.int .i64) (.int .i64))) (.pair (.pair (.int .i64) (.int .i64)) (.pair (.int .i64) (.int .i64)))) xs]), (3, .v false [.int .i64 i])], []⟩ =>
    if i = 0 /\ (List.length (α := tS8.den) xs : Int) <= 60 then (bif allS xs then K (.exit 0) outU else K .ret outF) else none
  | _, _ => none
theorem sum500 : SumOK NN Tryz.prog 18 (loopAt Tryz.f46 0) S500 :=
  SumOK.of_turns aA_ok mixT (A := A500) (SumsOK.none fun _ => rfl) fun n0 ρ σ K r h => by
    unfold S500 at h; split at h
    · rename_i xs n i; split at h
      · rename_i hc; obtain ⟨rfl, rfl, hn⟩ := hc; exact ⟨_, (itF_list0 (α := tS8.den) (xs := xs) (s := fun i (_ : Unit) => σ500 xs i) (fun go _ => (turn500 K go xs _).trans (lst_out ..)) (fun go i hi _ => (turn500 K go xs i).trans ((lst_in hi ..).trans (by rw [lst_wrap (by omega) hi]))) ()).trans ((all_run K xs 0).trans h)⟩
      · contradiction
    · contradiction
theorem sum502 : SumOK NN Tryz.prog 19 (loopAt Tryz.f53 0) S502 :=
  SumOK.of_turns aA_ok mixT (A := A502) (SumsOK.none fun _ => rfl) fun n0 ρ σ K r h => by
    unfold S502 at h; split at h
    · rename_i xs i; split at h
      · rename_i hc; obtain ⟨rfl, hn⟩ := hc; exact ⟨_, (itF_list0 (α := tS8.den) (xs := xs) (s := fun i (_ : Unit) => σ502 xs i) (fun go _ => (turn502 K go xs _).trans (lst_out ..)) (fun go i hi _ => (turn502 K go xs i).trans ((lst_in hi ..).trans (by rw [lst_wrap (by omega) hi]))) ()).trans ((all_run K xs 0).trans h)⟩
      · contradiction
    · contradiction
def A500s : Ann := { A500 with sum := fun i => bif Nat.beq i 4 then some S500 else none }
def A502s : Ann := { A502 with sum := fun i => bif Nat.beq i 4 then some S502 else none }
def okS (xs : List tS8.den) : Bool := bif decide (60 < (xs.length : Int)) then false else allS xs
def segsO : Orc := fun ρ args H cont => match args, H with
  | [.v false [.sl none (.pair (.pair (.pair (.int .i64) (.int .i64)) (.pair (.int .i64) (.int .i64))) (.pair (.pair (.int .i64) (.int .i64)) (.pair (.int .i64) (.int .i64)))) xs]], [] => cont (one (.bool (okS xs))) []
  | _, _ => none
theorem gq500 {ρ : Type} (cont : SV -> HL -> Option ρ) (xs : List tS8.den) : runF aA A500s 0 Tryz.f46 (bodyOf Tryz.f46) ρ [one (.sl none tS8 xs)] [] cont =
    bif decide (60 < (xs.length : Int)) then cont (one (.bool false)) [] else if (xs.length : Int) = (xs.length : Int) /\ (0 : Int) = 0 /\ (xs.length : Int) <= 60 then (bif allS xs then cont (one (.bool true)) [] else cont (one (.bool false)) []) else none := by kernel_rfl
theorem gq502 {ρ : Type} (cont : SV -> HL -> Option ρ) (xs : List tS8.den) : runF aA A502s 0 Tryz.f53 (bodyOf Tryz.f53) ρ [one (.sl none tS8 xs)] [] cont =
    bif decide (60 < (xs.length : Int)) then cont (one (.bool false)) [] else if (0 : Int) = 0 /\ (xs.length : Int) <= 60 then (bif allS xs then cont (one (.bool true)) [] else cont (one (.bool false)) []) else none := by kernel_rfl
theorem okS_eq {ρ : Type} (K : Bool -> Option ρ) (xs : List tS8.den) {p : Prop} [Decidable p] (hp : (xs.length : Int) <= 60 -> p) :
    (bif decide (60 < (xs.length : Int)) then K false else if p then (bif allS xs then K true else K false) else none) = K (okS xs) := by
  unfold okS; cases h : decide (60 < (xs.length : Int))
  · have := of_decide_eq_false h; rw [cond_false, if_pos (hp (by omega))]; cases allS xs <;> rfl
  · rfl
theorem orc_segsI : OrcOK NN Tryz.prog 46 segsO :=
  OrcOK.of_tale (runF_ok aA_ok mixT (A := A500s) (fuel := 0) Tryz.func46 (c := bodyOf Tryz.f46) (by kernel_rfl) (SumsOK.ofL (ls := [loopAt Tryz.f46 0]) (by kernel_rfl) ⟨sumL1 (by kernel_rfl) sum500, trivial⟩)) fun ρ args H cont r h => by
    unfold segsO at h; split at h
    · rename_i xs; exact ((gq500 cont xs).trans (okS_eq (fun b => cont (one (.bool b)) []) xs fun h => ⟨rfl, rfl, by omega⟩)).trans h
    · contradiction
theorem orc_segsS : OrcOK NN Tryz.prog 53 segsO :=
  OrcOK.of_tale (runF_ok aA_ok mixT (A := A502s) (fuel := 0) Tryz.func53 (c := bodyOf Tryz.f53) (by kernel_rfl) (SumsOK.ofL (ls := [loopAt Tryz.f53 0]) (by kernel_rfl) ⟨sumL1 (by kernel_rfl) sum502, trivial⟩)) fun ρ args H cont r h => by
    unfold segsO at h; split at h
    · rename_i xs; exact ((gq502 cont xs).trans (okS_eq (fun b => cont (one (.bool b)) []) xs fun h => ⟨rfl, by omega⟩)).trans h
    · contradiction
end Go.Abs
namespace Go.Abs
open Go.Proofs
set_option maxRecDepth 100000
noncomputable def eqE : Env := VL tryT [] [(51, rat2 (fun p q => szQ p && szQ q) fun p q => one (.int .i64 (cmpQ p q)))]
theorem eqE_ok : EnvOK NN Tryz.prog eqE := VL_ok (TabOk.of tryT_ok) (gamC orc58 Tryz.call51 (gamN _ _))
noncomputable def ovE : Env := VL tryT [] [(103, up4), (51, rat2 (fun p q => szQ p && szQ q) fun p q => one (.int .i64 (cmpQ p q))), (104, cR eqE Ash 20 Tryz.f104), (73, rat2 (fun p q => szQ p && szQ q) fun p q => nm 0 (p + q)), (105, rat2 (fun p q => szQ p && szQ q) fun p q => nm 0 (p - q)), (106, rat2 (fun p q => szQ p && szQ q) fun p q => nm 0 (p * q)), (107, rat2 (fun p q => szQ p && szQ q && decide (q ≠ 0)) fun p q => nm 0 (p / q))]
theorem ovE_ok : EnvOK NN Tryz.prog ovE := VL_ok (TabOk.of tryT_ok) (gamC orc_up Tryz.call103 (gamC orc58 Tryz.call51 (gamC (cR_ok eqE_ok rfl Tryz.func104 (by kernel_rfl)) Tryz.call104 (gamC orc59 Tryz.call73 (gamC orc37 Tryz.call105 (gamC orc60 Tryz.call106 (gamC orc90 Tryz.call107 (gamN _ _))))))))
section
variable {ρ : Type} (cont : SV -> HL -> Option ρ)
def cmC (p q : Rat) (K : Int -> Option ρ) : Option ρ := if (szQ p && szQ q) = true then K (cmpQ p q) else none
def oT (k : Nat) (x y : Rat) (b : Bool) : SV := .tup [(true, [.num k (some x), .num k (some y)]), (false, [.bool b])]
def oN (k : Nat) : SV := .tup [(true, [.num k none, .num k none]), (false, [.bool false])]
def slC (lo hi c : Pl) (K : Rat -> Option ρ) : Option ρ :=
  if (szQ hi.y && szQ lo.y) = true then (if (szQ c.x && szQ lo.x) = true then (if (szQ (hi.y - lo.y) && szQ (c.x - lo.x)) = true then (if (szQ hi.x && szQ lo.x) = true then (if (szQ ((hi.y - lo.y) * (c.x - lo.x)) && szQ (hi.x - lo.x) && decide (hi.x - lo.x ≠ 0)) = true then
    (if (szQ lo.y && szQ ((hi.y - lo.y) * (c.x - lo.x) / (hi.x - lo.x))) = true then K (lo.y + (hi.y - lo.y) * (c.x - lo.x) / (hi.x - lo.x)) else none) else none) else none) else none) else none) else none
def ovC (lo hi c : Pl) : Option ρ := cmC c.x lo.x fun k => bif decide (k < 0) then cont (oN 0) [] else cmC c.x hi.x fun k => bif bif false then true else decide (0 < k) then cont (oN 0) [] else
  cmC lo.x hi.x fun k => bif k == 0 then (cmC lo.y c.y fun k => bif decide (k < 0) then (cmC c.y hi.y fun k => cont (oT 0 c.x c.y (decide (k <= 0))) []) else (cmC lo.y hi.y fun k => cont (oT 0 c.x lo.y (decide (k <= 0))) []))
    else slC lo hi c fun y => cmC y c.y fun k => cont (oT 0 c.x y (decide (0 <= k))) []
end
theorem cmC_eq {ρ : Type} {p q : Rat} (K : Int -> Option ρ) (hp : szQ p = true) (hq : szQ q = true) : cmC p q K = K (cmpQ p q) := by
  unfold cmC; rw [if_pos (both hp hq)]
theorem cmpQ_ge {p q : Rat} : 0 <= cmpQ p q ↔ q <= p := by
  have h1 := @cmpQ_lt p q; have h2 : 0 <= cmpQ p q ↔ ¬ cmpQ p q < 0 := by omega
  rw [h2, h1, Rat.not_lt]
theorem cmpQ_le {p q : Rat} : cmpQ p q <= 0 ↔ p <= q := by
  have h1 := @cmpQ_gt p q; have h2 : cmpQ p q <= 0 ↔ ¬ 0 < cmpQ p q := by omega
  rw [h2, h1, Rat.not_lt]
theorem up_sz {lo hi c : Pl} (h1 : szP 8 lo) (h2 : szP 8 hi) (h3 : szP 8 c) (h0 : hi.x - lo.x ≠ 0) : szN 64 ((hi.y - lo.y) * (c.x - lo.x) / (hi.x - lo.x)) /\ szN 1000 (lo.y + (hi.y - lo.y) * (c.x - lo.x) / (hi.x - lo.x)) := by
  have a := (h2.2.sub h1.2).mul (h3.1.sub h1.1); have b := (h2.1.sub h1.1).mono (show 2 * 8 <= 2 * (2 * 8) by omega); have d := a.div b h0; exact ⟨d.mono (by omega), ((h1.2.mono (by omega : 8 <= 64)).add (d.mono (by omega))).mono (by omega)⟩
theorem up_szN {lo hi c : Pl} (h1 : szP 8 lo) (h2 : szP 8 hi) (h3 : szP 8 c) {y : Rat} (h : upP lo hi c = some y) : szN 1000 y := by
  unfold upP at h; split at h
  · cases h
  · split at h
    · by_cases hs : lo.y < c.y
      · rw [if_pos hs] at h; split at h
        · cases h; exact h3.2.mono (by omega)
        · cases h
      · rw [if_neg hs] at h; split at h
        · cases h; exact h1.2.mono (by omega)
        · cases h
    · rename_i he; split at h
      · cases h; exact (up_sz h1 h2 h3 (by grind)).2
      · cases h
section
variable {ρ : Type}
theorem ovC_eq {tk : SV -> Option ρ} {old : Option ρ} (h0 : tk (oN 0) = old) (hF : ∀ x y, tk (oT 0 x y false) = old) {lo hi c : Pl} (h1 : szP 8 lo) (h2 : szP 8 hi) (h3 : szP 8 c) :
    ovC (fun s _ => tk s) lo hi c = (match upP lo hi c with | some y => tk (oT 0 c.x y true) | none => old) := by
  have q : ∀ {x : Rat}, szN 8 x -> szQ x = true := fun h => h.qq (by omega)
  unfold ovC upP; rw [cmC_eq _ (q h3.1) (q h1.1), cmC_eq _ (q h3.1) (q h2.1), cmC_eq _ (q h1.1) (q h2.1)]
  by_cases c1 : c.x < lo.x
  · rw [decide_eq_true (cmpQ_lt.2 c1), cond_true, if_pos (.inl c1)]; exact h0
  · rw [decide_eq_false (fun e => c1 (cmpQ_lt.1 e)), cond_false, cond_false]
    by_cases c2 : hi.x < c.x
    · rw [decide_eq_true (cmpQ_gt.2 c2), cond_true, if_pos (.inr c2)]; exact h0
    · rw [decide_eq_false (fun e => c2 (cmpQ_gt.1 e)), cond_false, if_neg (fun e => e.elim c1 c2), beqI, decide_eq_decide.2 cmpQ_eq]
      by_cases c3 : lo.x = hi.x
      · rw [decide_eq_true c3, cond_true, if_pos c3, cmC_eq _ (q h1.2) (q h3.2), cmC_eq _ (q h3.2) (q h2.2), cmC_eq _ (q h1.2) (q h2.2)]
        by_cases c4 : lo.y < c.y
        · rw [decide_eq_true (cmpQ_lt.2 c4), cond_true, if_pos c4]
          by_cases c5 : c.y <= hi.y
          · rw [decide_eq_true (cmpQ_le.2 c5), if_pos c5]
          · rw [decide_eq_false (fun e => c5 (cmpQ_le.1 e)), if_neg c5]; exact hF ..
        · rw [decide_eq_false (fun e => c4 (cmpQ_lt.1 e)), cond_false, if_neg c4]
          by_cases c5 : lo.y <= hi.y
          · rw [decide_eq_true (cmpQ_le.2 c5), if_pos c5]
          · rw [decide_eq_false (fun e => c5 (cmpQ_le.1 e)), if_neg c5]; exact hF ..
      · have hd : hi.x - lo.x ≠ 0 := by grind
        obtain ⟨z1, z2⟩ := up_sz h1 h2 h3 hd; rw [decide_eq_false c3, cond_false, if_neg c3]; unfold slC; rw [if_pos (both (q h2.2) (q h1.2)), if_pos (both (q h3.1) (q h1.1)), if_pos (both ((h2.2.sub h1.2).qq (by omega)) ((h3.1.sub h1.1).qq (by omega))), if_pos (both (q h2.1) (q h1.1)),
          if_pos (both (both (((h2.2.sub h1.2).mul (h3.1.sub h1.1)).qq (by omega)) ((h2.1.sub h1.1).qq (by omega))) (decide_eq_true hd)), if_pos (both (q h1.2) (z1.qq (by omega)))]
        show cmC (lo.y + (hi.y - lo.y) * (c.x - lo.x) / (hi.x - lo.x)) c.y (fun k => tk (oT 0 c.x (lo.y + (hi.y - lo.y) * (c.x - lo.x) / (hi.x - lo.x)) (decide (0 <= k)))) = _; rw [cmC_eq _ (z2.qq (by omega)) (q h3.2)]
        by_cases c5 : c.y <= lo.y + (hi.y - lo.y) * (c.x - lo.x) / (hi.x - lo.x)
        · rw [decide_eq_true (cmpQ_ge.2 c5), if_pos c5]
        · rw [decide_eq_false (fun e => c5 (cmpQ_ge.1 e)), if_neg c5]; exact hF ..
end
end Go.Abs
namespace Go.Abs
open Go.Proofs
set_option maxRecDepth 100000
noncomputable def abE : Env := VL tryT [] [(46, segsO), (47, vOkO), (48, ps8 0), (50, vO 0), (49, cR ovE Ash 20 Tryz.f49), (51, rat2 (fun p q => szQ p && szQ q) fun p q => one (.int .i64 (cmpQ p q))), (52, toV 0)]
theorem abE_ok' : EnvOK NN Tryz.prog abE := VL_ok (TabOk.of tryT_ok) (gamC orc_segsI Tryz.call46 (gamC orc_vokI Tryz.call47 (gamC orc_psg Tryz.call48 (gamC orc135 Tryz.call50 (gamC (cR_ok ovE_ok rfl Tryz.func49 (by kernel_rfl)) Tryz.call49 (gamC orc58 Tryz.call51 (gamC orc103 Tryz.call52 (gamN _ _))))))))
def A497 : Ann := { head := ptOf [(6, [3, 5, 7, 8, 24, 25, 26], [])], out := ptOf [(6, [5, 7, 8], [])], shut := true }
def zV4 : List Atom := [.int .i64 0, .int .i64 0, .int .i64 0, .int .i64 0]
def σ497 (v : W4) (xs : List tS8.den) (b : Int) (x y : Option Rat) (i : Int) : St := ⟨[(3, one (.ptr 0 0)), (5, one (.ptr 1 0)), (7, one (.int .i64 b)), (8, one (.ptr 2 0)), (24, one (.sl none tS8 xs)), (25, one (.int .i64 xs.length)), (26, one (.int .i64 i))], [.var v.ats, .var zV4, .var [.num 0 x, .num 0 y]]⟩
def o497 (k : Nat) (b : Int) (x y : Option Rat) : St := ⟨[(5, one (.ptr 0 0)), (7, one (.int .i64 b)), (8, one (.ptr 1 0))], [.var zV4, .var [.num k x, .num k y]]⟩
section
variable {ρ : Type} (K : Exit -> St -> Option ρ)
def tkA (old : Option ρ) (new : Rat -> Rat -> Option ρ) : SV -> Option ρ
  | .tup [(true, [.num _ (some x), .num _ (some y)]), (false, [.bool b])] => bif b then new x y else old
  | _ => old
abbrev m4' (p q : Pl) : Prop := szM p.x = true /\ szM p.y = true /\ szM q.x = true /\ szM q.y = true
theorem turn497n (go : St -> Option ρ) (v : W4) (xs : List tS8.den) (i : Int) : turnF abE A497 68 0 0 (loopAt Tryz.f14 0) K go (σ497 v xs (-1) none none i) =
    bif decide (i < (xs.length : Int)) then (if 0 <= i then xs[i.toNat]?.bind (fun x => if okQ (dS x) then (if okV v.a v.b v.c v.d then (if m4' (dS x).p (dS x).q then
      ovC (fun s _ => tkA (go (σ497 v xs (-1) none none (IntKind.i64.wrap (i + 1)))) (fun x y => go (σ497 v xs i (some x) (some y) (IntKind.i64.wrap (i + 1)))) s) (loP (dS x).p (dS x).q) (hiP (dS x).p (dS x).q) v.pl
      else none) else none) else none) else none) else K (.exit 0) (o497 0 (-1) none none) := by kernel_rfl
theorem turn497s (go : St -> Option ρ) (v : W4) (xs : List tS8.den) (b : Int) (x0 z : Rat) (i : Int) : turnF abE A497 68 0 0 (loopAt Tryz.f14 0) K go (σ497 v xs b (some x0) (some z) i) =
    bif decide (i < (xs.length : Int)) then (if 0 <= i then xs[i.toNat]?.bind (fun x => if okQ (dS x) then (if okV v.a v.b v.c v.d then (if m4' (dS x).p (dS x).q then
      ovC (fun s _ => tkA (go (σ497 v xs b (some x0) (some z) (IntKind.i64.wrap (i + 1)))) (fun x y => bif decide (b < 0) then go (σ497 v xs i (some x) (some y) (IntKind.i64.wrap (i + 1))) else
        if (szQ y && szQ z) = true then (bif bif true then bif false then true else decide (cmpQ y z < 0) else false then go (σ497 v xs i (some x) (some y) (IntKind.i64.wrap (i + 1))) else go (σ497 v xs b (some x0) (some z) (IntKind.i64.wrap (i + 1)))) else none) s)
        (loP (dS x).p (dS x).q) (hiP (dS x).p (dS x).q) v.pl
      else none) else none) else none) else none) else K (.exit 0) (o497 0 b (some x0) (some z)) := by kernel_rfl
end
abbrev StU := Option (Nat × Rat)
def σ497s (v : W4) (xs : List tS8.den) (i : Int) : StU -> St
  | none => σ497 v xs (-1) none none i
  | some (j, z) => σ497 v xs (j : Int) (some v.pl.x) (some z) i
def o497s (k : Nat) (v : W4) : StU -> St
  | none => o497 k (-1) none none
  | some (j, z) => o497 k (j : Int) (some v.pl.x) (some z)
def sgP (x : tS8.den) : Pl × Pl := ((dS x).p, (dS x).q)
def stpV (v : W4) (i : Nat) (x : tS8.den) (st : StU) : StU := stpU v.pl i (sgP x) st
def goodU (st : StU) : Prop := ∀ j z, st = some (j, z) -> szN 1000 z
theorem szP_lo {a b : Pl} (ha : szP 8 a) (hb : szP 8 b) : szP 8 (loP a b) /\ szP 8 (hiP a b) := ⟨ha.lo hb, ha.hi hb⟩
theorem okW_sz {v : W4} (h : v.ok = true) : szP 8 v.pl := by
  obtain ⟨h1, h2⟩ := vOk_q h; exact ⟨s8_ok (s8_q h1), s8_ok (s8_q h2)⟩
theorem okS8_sz {s : S8} (h : s.ok = true) : szP 8 s.p /\ szP 8 s.q := ⟨s8P_ok (okQ_sz (okQ_of h).1).1, s8P_ok (okQ_sz (okQ_of h).1).2⟩
theorem stpV_good {v : W4} {x : tS8.den} (h1 : (dS x).ok = true) (h2 : v.ok = true) (i : Nat) {st : StU} (h : goodU st) : goodU (stpV v i x st) := by
  obtain ⟨z1, z2⟩ := okS8_sz h1; have z3 := okW_sz h2; unfold stpV stpU sgP; dsimp only; cases hu : upP (loP (dS x).p (dS x).q) (hiP (dS x).p (dS x).q) v.pl with
  | none => exact h
  | some y =>
    have zy := up_szN (szP_lo z1 z2).1 (szP_lo z1 z2).2 z3 hu; cases st with
    | none => intro j z e; cases e; exact zy
    | some q =>
      obtain ⟨j0, z0⟩ := q; dsimp only; split
      · intro j z e; cases e; exact zy
      · exact h
section
variable {ρ : Type} (K : Exit -> St -> Option ρ) (go : St -> Option ρ) (v : W4) (xs : List tS8.den)
theorem step497 (hl : xs.length < 4611686018427387904) (i : Nat) (hi : i < xs.length) (h1 : (dS xs[i]).ok = true) (h2 : v.ok = true) (st : StU) (h : goodU st) :
    turnF abE A497 68 0 0 (loopAt Tryz.f14 0) K go (σ497s v xs (i : Int) st) = go (σ497s v xs ((i + 1 : Nat) : Int) (stpV v i xs[i] st)) := by
  obtain ⟨z1, z2⟩ := okS8_sz h1; have z3 := okW_sz h2; have hm : m4' (dS xs[i]).p (dS xs[i]).q := ⟨z1.1.mm (by omega), z1.2.mm (by omega), z2.1.mm (by omega), z2.2.mm (by omega)⟩; unfold stpV stpU sgP; dsimp only; cases st with
  | none =>
    refine (turn497n K go v xs i).trans ((lst_in hi ..).trans ?_); rw [if_pos (okQ_of h1).1, if_pos (vOk_q h2), if_pos hm, ovC_eq (old := go (σ497 v xs (-1) none none (IntKind.i64.wrap ((i : Int) + 1)))) rfl (fun _ _ => rfl) (szP_lo z1 z2).1 (szP_lo z1 z2).2 z3, lst_wrap hl hi]; cases hu : upP (loP (dS xs[i]).p (dS xs[i]).q) (hiP (dS xs[i]).p (dS xs[i]).q) v.pl with
    | none => rfl
    | some y => rfl
  | some q =>
    obtain ⟨j, z⟩ := q; refine (turn497s K go v xs j v.pl.x z i).trans ((lst_in hi ..).trans ?_); rw [if_pos (okQ_of h1).1, if_pos (vOk_q h2), if_pos hm, ovC_eq (old := go (σ497 v xs j (some v.pl.x) (some z) (IntKind.i64.wrap ((i : Int) + 1)))) rfl (fun _ _ => rfl) (szP_lo z1 z2).1 (szP_lo z1 z2).2 z3, lst_wrap hl hi]; cases hu : upP (loP (dS xs[i]).p (dS xs[i]).q) (hiP (dS xs[i]).p (dS xs[i]).q) v.pl with
    | none => rfl
    | some y =>
      have zy := (up_szN (szP_lo z1 z2).1 (szP_lo z1 z2).2 z3 hu).qq (by omega); show (bif decide ((j : Int) < 0) then go (σ497 v xs (i : Int) (some v.pl.x) (some y) ((i + 1 : Nat) : Int)) else if (szQ y && szQ z) = true then (bif bif true then bif false then true else decide (cmpQ y z < 0) else false then go (σ497 v xs (i : Int) (some v.pl.x) (some y) ((i + 1 : Nat) : Int)) else go (σ497 v xs (j : Int) (some v.pl.x) (some z) ((i + 1 : Nat) : Int))) else none) = _; rw [decide_eq_false (by omega), cond_false, if_pos (both zy ((h j z rfl).qq (by omega))), cond_true, cond_false]; dsimp only
      by_cases hlt : y < z
      · rw [decide_eq_true (cmpQ_lt.2 hlt), cond_true, if_pos hlt]; rfl
      · rw [decide_eq_false (fun e => hlt (cmpQ_lt.1 e)), cond_false, if_neg hlt]; rfl
end
theorem foldV (v : W4) : ∀ (xs : List tS8.den) (i : Nat) (st : StU), foldI (stpV v) xs i st = foldU v.pl i (xs.map sgP) st
  | [], i, st => rfl
  | x :: r, i, st => foldV v r (i + 1) _
theorem allS_at {xs : List tS8.den} (h : allS xs = true) {i : Nat} (hi : i < xs.length) : (dS xs[i]).ok = true := List.all_eq_true.1 h _ (List.getElem_mem hi)
theorem run497 {ρ : Type} (K : Exit -> St -> Option ρ) (v : W4) (xs : List tS8.den) (hl : xs.length < 4611686018427387904) (h1 : allS xs = true) (h2 : v.ok = true) :
    itF (turnF abE A497 68 0 0 (loopAt Tryz.f14 0) K) (fun _ => none) (xs.length + 1) (σ497s v xs 0 none) = K (.exit 0) (o497s 0 v (firstU v.pl (xs.map sgP))) /\ goodU (firstU v.pl (xs.map sgP)) := by
  have h := itF_fold (T := turnF abE A497 68 0 0 (loopAt Tryz.f14 0) K) (xs := xs) (s := σ497s v xs) (stp := stpV v) (fin := fun st => K (.exit 0) (o497s 0 v st)) (I := goodU)
    (fun go st _ => by
      cases st with
      | none => exact (turn497n K go v xs _).trans (lst_out ..)
      | some q => exact (turn497s K go v xs _ _ _ _).trans (lst_out ..))
    (fun go i hi st hg => ⟨step497 K go v xs hl i hi (allS_at h1 hi) h2 st hg, stpV_good (allS_at h1 hi) h2 i hg⟩) xs.length 0 none (by omega) (fun j z e => by cases e)
  rw [List.drop_zero, foldV] at h; exact h
def fuV (v : W4) (xs : List tS8.den) : Bool × Int × Rat := match firstU v.pl (xs.map sgP) with
  | none => (true, -1, 0)
  | some (j, y) => (false, (j : Int), y)
theorem fu_ex (v : W4) (xs : List tS8.den) : ∃ x, x = fuV v xs := ⟨_, rfl⟩
noncomputable def fuX (v : W4) (xs : List tS8.den) : Bool × Int × Rat := (fu_ex v xs).choose
theorem fuX_eq (v : W4) (xs : List tS8.den) : fuX v xs = fuV v xs := (fu_ex v xs).choose_spec
noncomputable def outU2 {ρ : Type} (K : Exit -> St -> Option ρ) (k : Nat) (v : W4) (xs : List tS8.den) : Option ρ :=
  bif (fuX v xs).1 then K (.exit 0) (o497 k (-1) none none) else K (.exit 0) (o497 k (fuX v xs).2.1 (some v.pl.x) (some (fuX v xs).2.2))
theorem outU2_eq {ρ : Type} (K : Exit -> St -> Option ρ) (k : Nat) (v : W4) (xs : List tS8.den) : outU2 K k v xs = K (.exit 0) (o497s k v (firstU v.pl (xs.map sgP))) := by
  unfold outU2; rw [fuX_eq]; unfold fuV; cases firstU v.pl (xs.map sgP) with
  | none => rfl
  | some q => rfl
noncomputable def S497 : Sum := fun n0 ρ σ K => match n0, σ with
  | 0, ⟨[(3, .v false [.ptr 0 0]), (5, .v false [.ptr 1 0]), (7, .v false [.int .i64 b]), (8, .v false [.ptr 2 0]), (24, .v false [.sl none (.pair (.pair (.pair (.int .i64) (.int .i64)) (.pair (.int .i64) (.int .i64))) (.pair (.pair (.int .i64) (.int .i64)) (.pair (.int .i64) (.int .i64)))) xs]), (25, .v false [.int .i64 n]), (26, .v false [.int .i64 i])],
      [.var [.int .i64 c, .int .i64 d, .int .i64 e, .int .i64 f], .var [.int .i64 z0, .int .i64 z1, .int .i64 z2, .int .i64 z3], .var [.num 0 none, .num 0 none]]⟩ =>
    if ((b = -1 /\ n = List.length (α := tS8.den) xs /\ i = 0) /\ z0 = 0 /\ z1 = 0 /\ z2 = 0 /\ z3 = 0) /\ n <= 60 /\ allS xs = true /\ (⟨c, d, e, f⟩ : W4).ok = true then outU2 K 0 ⟨c, d, e, f⟩ xs else none
  | _, _ => none
theorem sum497 : SumOK NN Tryz.prog 68 (loopAt Tryz.f14 0) S497 :=
  SumOK.of_turns abE_ok' mixT (A := A497) (SumsOK.none fun _ => rfl) fun n0 ρ σ K r h => by
    unfold S497 at h; split at h
    · rename_i b xs n i c d e f z0 z1 z2 z3; split at h
      · rename_i hc; obtain ⟨⟨⟨rfl, rfl, rfl⟩, rfl, rfl, rfl, rfl⟩, h1, h2, h3⟩ := hc; rw [outU2_eq] at h; exact ⟨_, (run497 K ⟨c, d, e, f⟩ xs (by omega) h2 h3).1.trans h⟩
      · contradiction
    · contradiction
noncomputable def A497s : Ann := { A497 with sum := fun i => bif Nat.beq i 6 then some S497 else none }
def noA : SV := .tup [(false, [.int .i64 (-1)]), (true, zV4), (false, [.bool false])]
def abT (i a b c d : Int) : SV := .tup [(false, [.int .i64 i]), (true, [.int .i64 a, .int .i64 b, .int .i64 c, .int .i64 d]), (false, [.bool true])]
section
variable {ρ : Type} (cont : SV -> HL -> Option ρ) (v : W4) (xs : List tS8.den)
noncomputable def endA (k : Nat) : Option ρ := bif (fuX v xs).1 then cont noA [] else bif decide ((fuX v xs).2.1 < 0) then cont noA [] else
  if tvG k ⟨v.pl.x, (fuX v xs).2.2⟩ then (bif !vFit v.pl.x (fuX v xs).2.2 then cont noA [] else cont (abT (fuX v xs).2.1 (vI v.pl.x (fuX v xs).2.2 (qNum v.pl.x)) (vI v.pl.x (fuX v xs).2.2 (qDen v.pl.x)) (vI v.pl.x (fuX v xs).2.2 (qNum (fuX v xs).2.2)) (vI v.pl.x (fuX v xs).2.2 (qDen (fuX v xs).2.2))) []) else none
theorem gq497 : runF abE A497s 0 Tryz.f14 (bodyOf Tryz.f14) ρ [one (.sl none tS8 xs), v.sv] [] cont =
    bif !okS xs then cont noA [] else bif bif false then true else !v.ok then cont noA [] else
    if (((-1 : Int) = -1 /\ (xs.length : Int) = (xs.length : Int) /\ (0 : Int) = 0) /\ (0 : Int) = 0 /\ (0 : Int) = 0 /\ (0 : Int) = 0 /\ (0 : Int) = 0) /\ (xs.length : Int) <= 60 /\ allS xs = true /\ v.ok = true then endA cont v xs 0 else none := by kernel_rfl
end
structure A6 where
  i : Int
  w : W4
  ok : Bool
def A6.sv (r : A6) : SV := .tup [(false, [.int .i64 r.i]), (true, [.int .i64 r.w.a, .int .i64 r.w.b, .int .i64 r.w.c, .int .i64 r.w.d]), (false, [.bool r.ok])]
def A6.bad : A6 := ⟨-1, ⟨0, 0, 0, 0⟩, false⟩
def abV (v : W4) (xs : List tS8.den) : A6 := if okS xs = true /\ v.ok = true then (match firstU v.pl (xs.map sgP) with
  | none => A6.bad
  | some (j, y) => if fitP ⟨v.pl.x, y⟩ = true then ⟨(j : Int), ⟨qNum v.pl.x, qDen v.pl.x, qNum y, qDen y⟩, true⟩ else A6.bad) else A6.bad
theorem ab_ex (v : W4) (xs : List tS8.den) : ∃ x, x = abV v xs := ⟨_, rfl⟩
noncomputable def abF (v : W4) (xs : List tS8.den) : A6 := (ab_ex v xs).choose
theorem abF_eq (v : W4) (xs : List tS8.den) : abF v xs = abV v xs := (ab_ex v xs).choose_spec
noncomputable def aboveO : Orc := fun ρ args H cont => match args, H with
  | [.v false [.sl none (.pair (.pair (.pair (.int .i64) (.int .i64)) (.pair (.int .i64) (.int .i64))) (.pair (.pair (.int .i64) (.int .i64)) (.pair (.int .i64) (.int .i64)))) xs], .v true [.int .i64 a, .int .i64 b, .int .i64 c, .int .i64 d]], [] => cont (abF ⟨a, b, c, d⟩ xs).sv []
  | _, _ => none
theorem okS_ok {xs : List tS8.den} (h : okS xs = true) : xs.length <= 60 /\ allS xs = true := by
  unfold okS at h; cases hd : decide (60 < (xs.length : Int))
  · rw [hd] at h; have := of_decide_eq_false hd; exact ⟨by omega, h⟩
  · rw [hd] at h; cases h
theorem first_good {v : W4} {xs : List tS8.den} (h1 : allS xs = true) (h2 : v.ok = true) (hl : xs.length < 4611686018427387904) : goodU (firstU v.pl (xs.map sgP)) :=
  (run497 (ρ := Unit) (fun _ _ => none) v xs hl h1 h2).2
section
variable {ρ : Type} (cont : SV -> HL -> Option ρ)
theorem endA_eq {v : W4} {xs : List tS8.den} (k : Nat) (h1 : okS xs = true) (h2 : v.ok = true) : endA cont v xs k = cont (abF v xs).sv [] := by
  obtain ⟨hl, ha⟩ := okS_ok h1; have hg := first_good ha h2 (by omega); rw [abF_eq]; have eV : abV v xs = (match firstU v.pl (xs.map sgP) with
    | none => A6.bad
    | some (j, y) => if fitP ⟨v.pl.x, y⟩ = true then ⟨(j : Int), ⟨qNum v.pl.x, qDen v.pl.x, qNum y, qDen y⟩, true⟩ else A6.bad) := if_pos ⟨h1, h2⟩
  rw [eV]; unfold endA; rw [fuX_eq]; unfold fuV; cases hf : firstU v.pl (xs.map sgP) with
  | none => rfl
  | some q =>
    obtain ⟨j, y⟩ := q; have zy := hg j y hf; have zx := (okW_sz h2).1; dsimp only; rw [cond_false, decide_eq_false (by omega), cond_false, if_pos ⟨⟨rfl, rfl⟩, zx.qq (by omega), zy.qq (by omega)⟩]; cases hv : vFit v.pl.x y
    · rw [Bool.not_false, cond_true, if_neg (fun e : fitP ⟨v.pl.x, y⟩ = true => by unfold fitP at e; rw [hv] at e; cases e)]; rfl
    · rw [Bool.not_true, cond_false, if_pos (show fitP ⟨v.pl.x, y⟩ = true from hv)]; unfold vI; rw [hv]; rfl
theorem above_eq {v : W4} {xs : List tS8.den} {X : Option ρ} (hX : okS xs = true -> v.ok = true -> X = cont (abF v xs).sv []) : (bif !okS xs then cont noA [] else bif bif false then true else !v.ok then cont noA [] else X) = cont (abF v xs).sv [] := by
  have no : ¬ (okS xs = true /\ v.ok = true) -> cont noA [] = cont (abF v xs).sv [] := fun h => by
    rw [abF_eq]; unfold abV; rw [if_neg h]; rfl
  cases h1 : okS xs
  · exact no (fun e => by rw [h1] at e; cases e.1)
  · cases h2 : v.ok
    · exact no (fun e => by rw [h2] at e; cases e.2)
    · exact hX h1 h2
end
theorem orc_aboveI : OrcOK NN Tryz.prog 14 aboveO :=
  OrcOK.of_tale (runF_ok abE_ok' mixT (A := A497s) (fuel := 0) Tryz.func14 (c := bodyOf Tryz.f14) (by kernel_rfl) (SumsOK.ofL (ls := [loopAt Tryz.f14 0]) (by kernel_rfl) ⟨sumL1 (by kernel_rfl) sum497, trivial⟩)) fun ρ args H cont r hr => by
    unfold aboveO at hr; split at hr
    · rename_i xs a b c d; refine (gq497 cont ⟨a, b, c, d⟩ xs).trans ((above_eq cont fun h1 h2 => ?_).trans hr); obtain ⟨hl, ha⟩ := okS_ok h1; rw [if_pos ⟨⟨⟨rfl, rfl, rfl⟩, rfl, rfl, rfl, rfl⟩, by omega, ha, h2⟩, endA_eq cont 0 h1 h2]
    · contradiction
end Go.Abs
namespace Go.Abs
open Go.Proofs
set_option maxRecDepth 100000
noncomputable def upE : Env := VL tryT [] [(113, or2), (57, lat2 (fun p q => szQ p && szQ q) fun p q => one (.int .i64 (cmpQ p q))), (115, lat2 (fun p q => szQ p && szQ q) fun p q => nm 1 (p - q)), (114, lat2 (fun p q => szQ p && szQ q && decide (q ≠ 0)) fun p q => nm 1 (p / q)), (116, cR atE Ash 20 Tryz.f116)]
theorem upE_ok : EnvOK NN Tryz.prog upE := VL_ok (TabOk.of tryT_ok) (gamC orc_order Tryz.call113 (gamC orc51 Tryz.call57 (gamC orc27 Tryz.call115 (gamC orc73 Tryz.call114 (gamC (cR_ok atE_ok rfl Tryz.func116 (by kernel_rfl)) Tryz.call116 (gamN _ _))))))
section
variable {ρ : Type} (cont : SV -> HL -> Option ρ)
def slS (lo hi c : Pl) (K : Rat -> Option ρ) : Option ρ :=
  if (szQ c.x && szQ lo.x) = true then (if (szQ hi.x && szQ lo.x) = true then (if (szQ (c.x - lo.x) && szQ (hi.x - lo.x) && decide (hi.x - lo.x ≠ 0)) = true then (if n4 hi lo then
    (if (1 = 1 /\ 1 = 1 /\ 1 = 1) /\ szM (hi.x - lo.x) = true /\ szM (hi.y - lo.y) = true /\ szM ((c.x - lo.x) / (hi.x - lo.x)) = true then
      (if n4 lo (tmP (sbP hi lo) ((c.x - lo.x) / (hi.x - lo.x))) then K (lo.y + (hi.y - lo.y) * ((c.x - lo.x) / (hi.x - lo.x))) else none) else none) else none) else none) else none) else none
def ovL (lo hi c : Pl) : Option ρ := cmC c.x lo.x fun k => bif decide (k < 0) then cont (oN 1) [] else cmC c.x hi.x fun k => bif bif false then true else decide (0 < k) then cont (oN 1) [] else
  cmC lo.x hi.x fun k => bif k == 0 then (cmC lo.y c.y fun k => bif decide (0 <= k) then cont (oT 1 lo.x lo.y true) [] else (cmC hi.y c.y fun k => cont (oT 1 c.x c.y (decide (0 <= k))) []))
    else slS lo hi c fun y => cmC y c.y fun k => cont (oT 1 c.x y (decide (0 <= k))) []
theorem ovL_eq {tk : SV -> Option ρ} {old : Option ρ} (h0 : tk (oN 1) = old) (hF : ∀ x y, tk (oT 1 x y false) = old) {lo hi c : Pl} (h1 : szP 8 lo) (h2 : szP 8 hi) (h3 : szP 8 c) (hl : ¬ lxP hi lo) :
    ovL (fun s _ => tk s) lo hi c = (match upP lo hi c with | some y => tk (oT 1 c.x y true) | none => old) := by
  have q : ∀ {x : Rat}, szN 8 x -> szQ x = true := fun h => h.qq (by omega)
  unfold ovL upP; rw [cmC_eq _ (q h3.1) (q h1.1), cmC_eq _ (q h3.1) (q h2.1), cmC_eq _ (q h1.1) (q h2.1)]
  by_cases c1 : c.x < lo.x
  · rw [decide_eq_true (cmpQ_lt.2 c1), cond_true, if_pos (.inl c1)]; exact h0
  · rw [decide_eq_false (fun e => c1 (cmpQ_lt.1 e)), cond_false, cond_false]
    by_cases c2 : hi.x < c.x
    · rw [decide_eq_true (cmpQ_gt.2 c2), cond_true, if_pos (.inr c2)]; exact h0
    · rw [decide_eq_false (fun e => c2 (cmpQ_gt.1 e)), cond_false, if_neg (fun e => e.elim c1 c2), beqI, decide_eq_decide.2 cmpQ_eq]
      by_cases c3 : lo.x = hi.x
      · have ex : lo.x = c.x := by grind
        have ey : lo.y <= hi.y := by unfold lxP at hl; grind
        rw [decide_eq_true c3, cond_true, if_pos c3, cmC_eq _ (q h1.2) (q h3.2), cmC_eq _ (q h2.2) (q h3.2)]
        by_cases c4 : lo.y < c.y
        · rw [decide_eq_false (fun e => absurd (cmpQ_ge.1 e) (by grind)), cond_false, if_pos c4]
          by_cases c5 : c.y <= hi.y
          · rw [decide_eq_true (cmpQ_ge.2 c5), if_pos c5]
          · rw [decide_eq_false (fun e => c5 (cmpQ_ge.1 e)), if_neg c5]; exact hF ..
        · rw [decide_eq_true (cmpQ_ge.2 (by grind)), cond_true, if_neg c4, if_pos ey, <- ex]
      · have hd : hi.x - lo.x ≠ 0 := by grind
        have a := (h3.1.sub h1.1).div (h2.1.sub h1.1) hd; have b := ((h2.1.sub h1.1).mono (show 2 * 8 <= 32 by omega)).mul (a.mono (by omega)); have d := ((h2.2.sub h1.2).mono (show 2 * 8 <= 32 by omega)).mul (a.mono (by omega)); obtain ⟨z1, z2⟩ := up_sz h1 h2 h3 hd; have e : lo.y + (hi.y - lo.y) * ((c.x - lo.x) / (hi.x - lo.x)) = lo.y + (hi.y - lo.y) * (c.x - lo.x) / (hi.x - lo.x) := by grind
        rw [decide_eq_false c3, cond_false, if_neg c3]; unfold slS; rw [if_pos (both (q h3.1) (q h1.1)), if_pos (both (q h2.1) (q h1.1)), if_pos (both (both ((h3.1.sub h1.1).qq (by omega)) ((h2.1.sub h1.1).qq (by omega))) (decide_eq_true hd)), if_pos (n4_ok h2 h1 (by omega)),
          if_pos ⟨⟨rfl, rfl, rfl⟩, (h2.1.sub h1.1).mm (by omega), (h2.2.sub h1.2).mm (by omega), a.mm (by omega)⟩,
          if_pos (n4_ok (B := 64) ⟨h1.1.mono (by omega), h1.2.mono (by omega)⟩ (show szP 64 (tmP (sbP hi lo) ((c.x - lo.x) / (hi.x - lo.x))) from ⟨b, d⟩) (by omega)), e]
        show cmC (lo.y + (hi.y - lo.y) * (c.x - lo.x) / (hi.x - lo.x)) c.y (fun k => tk (oT 1 c.x (lo.y + (hi.y - lo.y) * (c.x - lo.x) / (hi.x - lo.x)) (decide (0 <= k)))) = _; rw [cmC_eq _ (z2.qq (by omega)) (q h3.2)]
        by_cases c5 : c.y <= lo.y + (hi.y - lo.y) * (c.x - lo.x) / (hi.x - lo.x)
        · rw [decide_eq_true (cmpQ_ge.2 c5), if_pos c5]
        · rw [decide_eq_false (fun e => c5 (cmpQ_ge.1 e)), if_neg c5]; exact hF ..
end
noncomputable def asE : Env := VL tryT [] [(53, segsO), (54, vOkO), (56, vO 1), (55, cR upE Ash 20 Tryz.f55), (57, lat2 (fun p q => szQ p && szQ q) fun p q => one (.int .i64 (cmpQ p q))), (58, toV 1)]
theorem asE_ok' : EnvOK NN Tryz.prog asE := VL_ok (TabOk.of tryT_ok) (gamC orc_segsS Tryz.call53 (gamC orc162 Tryz.call54 (gamC orc163 Tryz.call56 (gamC (cR_ok upE_ok rfl Tryz.func55 (by kernel_rfl)) Tryz.call55 (gamC orc51 Tryz.call57 (gamC orc76 Tryz.call58 (gamN _ _)))))))
def A498 : Ann := { head := ptOf [(6, [0, 3, 5, 7, 8, 9], [])], out := ptOf [(6, [5, 7, 8], [])], shut := true }
def σ498 (v : W4) (xs : List tS8.den) (b : Int) (x y : Option Rat) (i : Int) : St := ⟨[(0, one (.sl none tS8 xs)), (3, one (.ptr 0 0)), (5, one (.ptr 1 0)), (7, one (.int .i64 b)), (8, one (.ptr 2 0)), (9, one (.int .i64 i))], [.var v.ats, .var zV4, .var [.num 1 x, .num 1 y]]⟩
section
variable {ρ : Type} (K : Exit -> St -> Option ρ)
abbrev l4' (p q : Pl) : Prop := (szM p.x = true /\ szM p.y = true) /\ szM q.x = true /\ szM q.y = true
def tw2 (xs : List tS8.den) (i : Int) (v : W4) (f : tS8.den -> tS8.den -> Option ρ) : Option ρ :=
  if okV v.a v.b v.c v.d then (if 0 <= i then xs[i.toNat]?.bind (fun x => if okV (dS x).a (dS x).b (dS x).c (dS x).d then (if 0 <= i then xs[i.toNat]?.bind (fun y => if okV (dS y).e (dS y).f (dS y).g (dS y).h then f x y else none) else none) else none) else none) else none
theorem turn498n (go : St -> Option ρ) (v : W4) (xs : List tS8.den) (i : Int) : turnF asE A498 76 0 0 (loopAt Tryz.f15 0) K go (σ498 v xs (-1) none none i) =
    bif decide (i < (xs.length : Int)) then tw2 xs i v (fun x y => if l4' (dS x).p (dS y).q then
      ovL (fun s _ => tkA (go (σ498 v xs (-1) none none (IntKind.i64.wrap (i + 1)))) (fun x y => go (σ498 v xs i (some x) (some y) (IntKind.i64.wrap (i + 1)))) s) (loP (dS x).p (dS y).q) (hiP (dS x).p (dS y).q) v.pl
      else none) else K (.exit 0) (o497 1 (-1) none none) := by kernel_rfl
theorem turn498s (go : St -> Option ρ) (v : W4) (xs : List tS8.den) (b : Int) (x0 z : Rat) (i : Int) : turnF asE A498 76 0 0 (loopAt Tryz.f15 0) K go (σ498 v xs b (some x0) (some z) i) =
    bif decide (i < (xs.length : Int)) then tw2 xs i v (fun x y => if l4' (dS x).p (dS y).q then
      ovL (fun s _ => tkA (go (σ498 v xs b (some x0) (some z) (IntKind.i64.wrap (i + 1)))) (fun x y => bif decide (b < 0) then go (σ498 v xs i (some x) (some y) (IntKind.i64.wrap (i + 1))) else
        if (szQ y && szQ z) = true then (bif bif true then bif false then true else decide (cmpQ y z < 0) else false then go (σ498 v xs i (some x) (some y) (IntKind.i64.wrap (i + 1))) else go (σ498 v xs b (some x0) (some z) (IntKind.i64.wrap (i + 1)))) else none) s)
        (loP (dS x).p (dS y).q) (hiP (dS x).p (dS y).q) v.pl
      else none) else K (.exit 0) (o497 1 b (some x0) (some z)) := by kernel_rfl
end
theorem tw2_in {ρ : Type} {xs : List tS8.den} {v : W4} {i : Nat} (hi : i < xs.length) (h1 : (dS xs[i]).ok = true) (h2 : v.ok = true) (f : tS8.den -> tS8.den -> Option ρ) : tw2 xs (i : Int) v f = f xs[i] xs[i] := by
  obtain ⟨⟨a, b⟩, _⟩ := seg_q h1; unfold tw2; rw [if_pos (vOk_q h2), lst_at hi, if_pos a, lst_at hi, if_pos b]
def σ498s (v : W4) (xs : List tS8.den) (i : Int) : StU -> St
  | none => σ498 v xs (-1) none none i
  | some (j, z) => σ498 v xs (j : Int) (some v.pl.x) (some z) i
theorem lohi_nlt (a b : Pl) : ¬ lxP (hiP a b) (loP a b) := by
  unfold loP hiP; split
  · rename_i h; exact lx_asym h
  · rename_i h; exact h
section
variable {ρ : Type} (K : Exit -> St -> Option ρ) (go : St -> Option ρ) (v : W4) (xs : List tS8.den)
theorem step498 (hl : xs.length < 4611686018427387904) (i : Nat) (hi : i < xs.length) (h1 : (dS xs[i]).ok = true) (h2 : v.ok = true) (st : StU) (h : goodU st) :
    turnF asE A498 76 0 0 (loopAt Tryz.f15 0) K go (σ498s v xs (i : Int) st) = go (σ498s v xs ((i + 1 : Nat) : Int) (stpV v i xs[i] st)) := by
  obtain ⟨z1, z2⟩ := okS8_sz h1; have z3 := okW_sz h2; have hm : l4' (dS xs[i]).p (dS xs[i]).q := ⟨⟨z1.1.mm (by omega), z1.2.mm (by omega)⟩, z2.1.mm (by omega), z2.2.mm (by omega)⟩; have hd : decide ((i : Int) < (xs.length : Int)) = true := decide_eq_true (by omega); unfold stpV stpU sgP; dsimp only; cases st with
  | none =>
    refine (turn498n K go v xs i).trans ?_; rw [hd, cond_true, tw2_in hi h1 h2, if_pos hm, ovL_eq (old := go (σ498 v xs (-1) none none (IntKind.i64.wrap ((i : Int) + 1)))) rfl (fun _ _ => rfl) (szP_lo z1 z2).1 (szP_lo z1 z2).2 z3 (lohi_nlt _ _), lst_wrap hl hi]; cases hu : upP (loP (dS xs[i]).p (dS xs[i]).q) (hiP (dS xs[i]).p (dS xs[i]).q) v.pl with
    | none => rfl
    | some y => rfl
  | some q =>
    obtain ⟨j, z⟩ := q; refine (turn498s K go v xs j v.pl.x z i).trans ?_; rw [hd, cond_true, tw2_in hi h1 h2, if_pos hm, ovL_eq (old := go (σ498 v xs j (some v.pl.x) (some z) (IntKind.i64.wrap ((i : Int) + 1)))) rfl (fun _ _ => rfl) (szP_lo z1 z2).1 (szP_lo z1 z2).2 z3 (lohi_nlt _ _), lst_wrap hl hi]; cases hu : upP (loP (dS xs[i]).p (dS xs[i]).q) (hiP (dS xs[i]).p (dS xs[i]).q) v.pl with
    | none => rfl
    | some y =>
      have zy := (up_szN (szP_lo z1 z2).1 (szP_lo z1 z2).2 z3 hu).qq (by omega); show (bif decide ((j : Int) < 0) then go (σ498 v xs (i : Int) (some v.pl.x) (some y) ((i + 1 : Nat) : Int)) else if (szQ y && szQ z) = true then (bif bif true then bif false then true else decide (cmpQ y z < 0) else false then go (σ498 v xs (i : Int) (some v.pl.x) (some y) ((i + 1 : Nat) : Int)) else go (σ498 v xs (j : Int) (some v.pl.x) (some z) ((i + 1 : Nat) : Int))) else none) = _; rw [decide_eq_false (by omega), cond_false, if_pos (both zy ((h j z rfl).qq (by omega))), cond_true, cond_false]; dsimp only
      by_cases hlt : y < z
      · rw [decide_eq_true (cmpQ_lt.2 hlt), cond_true, if_pos hlt]; rfl
      · rw [decide_eq_false (fun e => hlt (cmpQ_lt.1 e)), cond_false, if_neg hlt]; rfl
end
theorem run498 {ρ : Type} (K : Exit -> St -> Option ρ) (v : W4) (xs : List tS8.den) (hl : xs.length < 4611686018427387904) (h1 : allS xs = true) (h2 : v.ok = true) :
    itF (turnF asE A498 76 0 0 (loopAt Tryz.f15 0) K) (fun _ => none) (xs.length + 1) (σ498s v xs 0 none) = K (.exit 0) (o497s 1 v (firstU v.pl (xs.map sgP))) := by
  have h := (itF_fold (T := turnF asE A498 76 0 0 (loopAt Tryz.f15 0) K) (xs := xs) (s := σ498s v xs) (stp := stpV v) (fin := fun st => K (.exit 0) (o497s 1 v st)) (I := goodU)
    (fun go st _ => by
      cases st with
      | none => exact (turn498n K go v xs _).trans (lst_out ..)
      | some q => exact (turn498s K go v xs _ _ _ _).trans (lst_out ..))
    (fun go i hi st hg => ⟨step498 K go v xs hl i hi (allS_at h1 hi) h2 st hg, stpV_good (allS_at h1 hi) h2 i hg⟩) xs.length 0 none (by omega) (fun j z e => by cases e)).1
  rw [List.drop_zero, foldV] at h; exact h
noncomputable def S498 : Sum := fun n0 ρ σ K => match n0, σ with
  | 0, ⟨[(0, .v false [.sl none (.pair (.pair (.pair (.int .i64) (.int .i64)) (.pair (.int .i64) (.int .i64))) (.pair (.pair (.int .i64) (.int .i64)) (.pair (.int .i64) (.int .i64)))) xs]), (3, .v false [.ptr 0 0]), (5, .v false [.ptr 1 0]), (7, .v false [.int .i64 b]), (8, .v false [.ptr 2 0]), (9, .v false [.int .i64 i])],
      [.var [.int .i64 c, .int .i64 d, .int .i64 e, .int .i64 f], .var [.int .i64 z0, .int .i64 z1, .int .i64 z2, .int .i64 z3], .var [.num 1 none, .num 1 none]]⟩ =>
    if ((b = -1 /\ i = 0) /\ z0 = 0 /\ z1 = 0 /\ z2 = 0 /\ z3 = 0) /\ (List.length (α := tS8.den) xs : Int) <= 60 /\ allS xs = true /\ (⟨c, d, e, f⟩ : W4).ok = true then outU2 K 1 ⟨c, d, e, f⟩ xs else none
  | _, _ => none
theorem sum498 : SumOK NN Tryz.prog 76 (loopAt Tryz.f15 0) S498 :=
  SumOK.of_turns asE_ok' mixT (A := A498) (SumsOK.none fun _ => rfl) fun n0 ρ σ K r h => by
    unfold S498 at h; split at h
    · rename_i xs b i c d e f z0 z1 z2 z3; split at h
      · rename_i hc; obtain ⟨⟨⟨rfl, rfl⟩, rfl, rfl, rfl, rfl⟩, h1, h2, h3⟩ := hc; rw [outU2_eq] at h; exact ⟨_, (run498 K ⟨c, d, e, f⟩ xs (by omega) h2 h3).trans h⟩
      · contradiction
    · contradiction
noncomputable def A498s : Ann := { A498 with sum := fun i => bif Nat.beq i 6 then some S498 else none }
theorem gq498 {ρ : Type} (cont : SV -> HL -> Option ρ) (v : W4) (xs : List tS8.den) : runF asE A498s 0 Tryz.f15 (bodyOf Tryz.f15) ρ [one (.sl none tS8 xs), v.sv] [] cont =
    bif !okS xs then cont noA [] else bif bif false then true else !v.ok then cont noA [] else
    if (((-1 : Int) = -1 /\ (0 : Int) = 0) /\ (0 : Int) = 0 /\ (0 : Int) = 0 /\ (0 : Int) = 0 /\ (0 : Int) = 0) /\ (xs.length : Int) <= 60 /\ allS xs = true /\ v.ok = true then endA cont v xs 1 else none := by kernel_rfl
theorem orc_aboveS : OrcOK NN Tryz.prog 15 aboveO :=
  OrcOK.of_tale (runF_ok asE_ok' mixT (A := A498s) (fuel := 0) Tryz.func15 (c := bodyOf Tryz.f15) (by kernel_rfl) (SumsOK.ofL (ls := [loopAt Tryz.f15 0]) (by kernel_rfl) ⟨sumL1 (by kernel_rfl) sum498, trivial⟩)) fun ρ args H cont r hr => by
    unfold aboveO at hr; split at hr
    · rename_i xs a b c d; refine (gq498 cont ⟨a, b, c, d⟩ xs).trans ((above_eq cont fun h1 h2 => ?_).trans hr); obtain ⟨hl, ha⟩ := okS_ok h1; rw [if_pos ⟨⟨⟨rfl, rfl⟩, rfl, rfl, rfl, rfl⟩, by omega, ha, h2⟩, endA_eq cont 1 h1 h2]
    · contradiction
end Go.Abs

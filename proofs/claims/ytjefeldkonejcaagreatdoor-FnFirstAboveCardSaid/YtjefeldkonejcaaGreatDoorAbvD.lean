/-
  A PART OF THE PROOF of AbI (texts AbvD AbvF): the claim itself stands in the last text. No conditions beside those of the given row.
-/
import Derived.Test.YtjefeldkonejcaaGreatDoorAbvP
import Derived.Test.YtjefeldkonejcaaGreatDoorMeetB
set_option linter.unusedVariables false
set_option linter.unnecessarySimpa false
set_option linter.unusedSimpArgs false
namespace Go.Abs
open Go.Proofs
set_option maxRecDepth 100000
noncomputable def szE : Env := VL tryT [] [(63, cR rE1 Ash 5 Tryz.f63)]
theorem szE_ok : EnvOK NN Tryz.prog szE := VL_ok (TabOk.of tryT_ok) (gamC (cR_ok rE1_ok rfl Tryz.func63 (by kernel_rfl)) Tryz.call63 (gamN _ _))
def szC (xs : List Int) : Int := IntKind.i64.wrap (1 + IntKind.i64.wrap ((xs.length : Int).tdiv 8))
section
variable {ρ : Type} (cont : SV -> HL -> Option ρ) (xs : List Int) (p : Int)
noncomputable def szW : Option ρ := if rdOkB xs p = true then (if rdOkB xs (nextF xs p).2 = true then (if szC xs = 0 then none else cont (shI (IntKind.i64.wrap (1 + (IntKind.i64.wrap (IntKind.i64.wrap ((nextF xs p).1 * 256) + (nextF xs (nextF xs p).2).1)).tmod (szC xs)))) (rdH xs (nextF xs (nextF xs p).2).2)) else none) else none
theorem drw504 : runF szE Ash 20 Tryz.f100 (bodyOf Tryz.f100) ρ [one (.ptr 0 0), one (.int .i64 8), one (.int .i64 9)] (rdH xs p) cont =
    bif decide (9 < szC xs) then (if rdOkB xs p = true then cont (shI (IntKind.i64.wrap (1 + (nextF xs p).1.tmod 9))) (rdH xs (nextF xs p).2) else none) else
    bif decide (szC xs <= 1) then cont (shI (IntKind.i64.wrap (1 + 0))) (rdH xs p) else bif decide (szC xs <= 256) then (if rdOkB xs p = true then (if szC xs = 0 then none else cont (shI (IntKind.i64.wrap (1 + (nextF xs p).1.tmod (szC xs)))) (rdH xs (nextF xs p).2)) else none) else szW cont xs p := by kernel_rfl
end
def szO (f : List Int -> Int -> Int × Int) : Orc := fun ρ args H cont => match args, H with
  | [.v false [.ptr 0 0], .v false [.int .i64 a], .v false [.int .i64 b]], [.var [.sl none (.int .u8) xs, .int .i64 p]] => if (a = 8 /\ b = 9) /\ rdOkB xs p = true then cont (shI (f xs p).1) [.var [.sl none (.int .u8) xs, .int .i64 (f xs p).2]] else none
  | _, _ => none
theorem size_ok : ∃ f : List Int -> Int -> Int × Int, OrcOK NN Tryz.prog 100 (szO f) /\ ∀ xs p, rdOkB xs p = true -> (1 <= (f xs p).1 /\ (f xs p).1 <= 9) /\ rdOkB xs (f xs p).2 = true := by
  classical
  have h' : ∀ xs p, ∃ r : Int × Int, rdOkB xs p = true -> ((1 <= r.1 /\ r.1 <= 9) /\ rdOkB xs r.2 = true) /\ ∀ ρ (cont : SV -> HL -> Option ρ), runF szE Ash 20 Tryz.f100 (bodyOf Tryz.f100) ρ [one (.ptr 0 0), one (.int .i64 8), one (.int .i64 9)] (rdH xs p) cont = cont (shI r.1) (rdH xs r.2) := fun xs p => by
    by_cases hc : rdOkB xs p = true
    · obtain ⟨_, hl, _, _⟩ := rdOk_iff.1 hc; have hn := nextR hc; have hp := nextP hc; have ht : (xs.length : Int).tdiv 8 = (xs.length : Int) / 8 := Int.tdiv_eq_ediv_of_nonneg (by omega); have hs : szC xs = 1 + (xs.length : Int) / 8 := by
        unfold szC; rw [ht, IntKind.wrap_i64, IntKind.wrap_i64]; omega
      have tm : ∀ n : Int, 0 < n -> n <= 9 -> 0 <= (nextF xs p).1.tmod n /\ (nextF xs p).1.tmod n < n := fun n h1 h2 => ⟨Int.tmod_nonneg _ hn.1, Int.tmod_lt_of_pos _ h1⟩
      by_cases h9 : 9 < szC xs
      · have := tm 9 (by omega) (by omega); refine ⟨(1 + (nextF xs p).1.tmod 9, (nextF xs p).2), fun _ => ⟨⟨⟨by dsimp only; omega, by dsimp only; omega⟩, hp⟩, fun ρ cont => ?_⟩⟩; rw [drw504, decide_eq_true h9, cond_true, if_pos hc, show IntKind.i64.wrap (1 + (nextF xs p).1.tmod 9) = 1 + (nextF xs p).1.tmod 9 by rw [IntKind.wrap_i64]; omega]
      · by_cases h1 : szC xs <= 1
        · refine ⟨(1, p), fun _ => ⟨⟨⟨by dsimp only; omega, by dsimp only; omega⟩, hc⟩, fun ρ cont => ?_⟩⟩; rw [drw504, decide_eq_false h9, cond_false, decide_eq_true h1, cond_true]; rfl
        · have := tm (szC xs) (by omega) (by omega); refine ⟨(1 + (nextF xs p).1.tmod (szC xs), (nextF xs p).2), fun _ => ⟨⟨⟨by dsimp only; omega, by dsimp only; omega⟩, hp⟩, fun ρ cont => ?_⟩⟩; rw [drw504, decide_eq_false h9, cond_false, decide_eq_false h1, cond_false, decide_eq_true (show szC xs <= 256 by omega), cond_true, if_pos hc, if_neg (by omega),
            show IntKind.i64.wrap (1 + (nextF xs p).1.tmod (szC xs)) = 1 + (nextF xs p).1.tmod (szC xs) by rw [IntKind.wrap_i64]; omega]
    · exact ⟨(1, 0), fun h => absurd h hc⟩
  refine ⟨fun xs p => (h' xs p).choose, OrcOK.of_tale (cR_ok (A := Ash) (fuel := 20) szE_ok rfl Tryz.func100 (by kernel_rfl)) fun ρ args H cont r hr => ?_, fun xs p hp => ((h' xs p).choose_spec hp).1⟩; unfold szO at hr; split at hr
  · rename_i a b xs p; split at hr
    · rename_i hc; obtain ⟨⟨rfl, rfl⟩, hc⟩ := hc; exact (((h' xs p).choose_spec hc).2 ρ cont).trans hr
    · contradiction
  · contradiction
noncomputable def sizeF := size_ok.choose
theorem orc_size : OrcOK NN Tryz.prog 100 (szO sizeF) := size_ok.choose_spec.1
theorem sizeR {xs : List Int} {p : Int} (h : rdOkB xs p = true) : 1 <= (sizeF xs p).1 /\ (sizeF xs p).1 <= 9 := (size_ok.choose_spec.2 xs p h).1
theorem sizeP {xs : List Int} {p : Int} (h : rdOkB xs p = true) : rdOkB xs (sizeF xs p).2 = true := (size_ok.choose_spec.2 xs p h).2
noncomputable def dgE : Env := VL tryT [] [(100, szO sizeF), (45, nO W4.sv gridF), (101, movO), (63, nO shI belowF), (43, nO shB onceF), (102, rO S8.sv segF)]
theorem dgE_ok : EnvOK NN Tryz.prog dgE := VL_ok (TabOk.of tryT_ok) (gamC orc_size Tryz.call100 (gamC orc_grid Tryz.call45 (gamC orc_mov Tryz.call101 (gamC orc_below Tryz.call63 (gamC orc_once Tryz.call43 (gamC orc_seg Tryz.call102 (gamN _ _)))))))
def A499 : Ann := { head := ptOf [(4, [0, 3, 4, 5], []), (16, [0, 4], [])], out := ptOf [(4, [0, 4], []), (16, [0, 4], [])], shut := true }
def σ499 (xs : List Int) (p n : Int) (vs : List tS8.den) (i : Int) : St := ⟨[(0, one (.ptr 0 0)), (3, one (.int .i64 n)), (4, one (.wsl 1 8)), (5, one (.int .i64 i))], [.var [.sl none (.int .u8) xs, .int .i64 p], .arr 43 tS8 vs false true]⟩
def τ499 (xs : List Int) (p : Int) (vs : List tS8.den) : St := ⟨[(0, one (.ptr 0 0)), (4, one (.wsl 1 8))], [.var [.sl none (.int .u8) xs, .int .i64 p], .arr 43 tS8 vs false true]⟩
def apC {ρ : Type} (n : Nat) (r : Option ρ) : Option ρ := if n + 1 <= 70368744177664 /\ (n + 1) * 64 <= 70368744177664 then r else none
def dnS (v w : W4) : tS8.den := (v.dn, w.dn)
def eqW (v w : W4) : Bool := v.a == w.a && (v.b == w.b && (v.c == w.c && v.d == w.d))
def kS (k : Int) : tS8.den := (((IntKind.i64.wrap (3 * k), 1), (0, 1)), ((IntKind.i64.wrap (IntKind.i64.wrap (3 * k) + 1), 1), (1, 1)))
section
variable {ρ : Type} (K : Exit -> St -> Option ρ) (go : St -> Option ρ) (xs : List Int)
theorem turn499a (p n : Int) (vs : List tS8.den) (i : Int) : turnF dgE A499 77 1 0 (loopAt Tryz.f42 0) K go (σ499 xs p n vs i) =
    bif decide (i < n) then (if rdOkB xs p = true then (if rdOkB xs (gridF xs p 6).2 = true then
      (bif eqW (gridF xs p 6).1 (gridF xs (gridF xs p 6).2 6).1 then apC vs.length (go (σ499 xs (gridF xs (gridF xs p 6).2 6).2 n (vs ++ [dnS (gridF xs p 6).1 (movF (gridF xs p 6).1 2)]) (IntKind.i64.wrap (i + 1))))
        else apC vs.length (go (σ499 xs (gridF xs (gridF xs p 6).2 6).2 n (vs ++ [dnS (gridF xs p 6).1 (gridF xs (gridF xs p 6).2 6).1]) (IntKind.i64.wrap (i + 1))))) else none) else none) else K (.exit 0) (τ499 xs p vs) := by kernel_rfl
theorem turn499b (p : Int) (vs : List tS8.den) : turnF dgE A499 77 1 0 (loopAt Tryz.f42 1) K go (τ499 xs p vs) =
    if rdOkB xs p = true then (bif decide ((vs.length : Int) < IntKind.i64.wrap (60 + (belowF xs p 2).1)) then apC vs.length (go (τ499 xs (belowF xs p 2).2 (vs ++ [kS vs.length]))) else K (.exit 2) (τ499 xs (belowF xs p 2).2 vs)) else none := by kernel_rfl
end
theorem apC_eq {ρ : Type} {n : Nat} (h : n <= 1000000) (r : Option ρ) : apC n r = r := by
  unfold apC; rw [if_pos ⟨by omega, by omega⟩]
theorem loop499a (xs : List Int) (n : Int) (hn : n <= 1000) : ∀ (m : Nat) (i p : Int) (vs : List tS8.den), i + m = n -> -1000 <= i -> vs.length + m <= 1000000 -> rdOkB xs p = true ->
    ∃ r : List tS8.den × Int, (r.1.length = vs.length + m /\ rdOkB xs r.2 = true) /\ ∀ (ρ : Type) (K : Exit -> St -> Option ρ), itF (turnF dgE A499 77 1 0 (loopAt Tryz.f42 0) K) (fun _ => none) (m + 1) (σ499 xs p n vs i) = K (.exit 0) (τ499 xs r.2 r.1)
  | 0, i, p, vs, h, hi, hl, hp => ⟨(vs, p), ⟨rfl, hp⟩, fun ρ K => by
      show turnF _ _ _ _ _ _ _ _ _ = _; rw [turn499a, decide_eq_false (by omega), cond_false]⟩
  | m + 1, i, p, vs, h, hi, hl, hp => by
    have g1 := gridP (n := 6) hp; have g2 := gridP (n := 6) g1; have hw : IntKind.i64.wrap (i + 1) = i + 1 := by rw [IntKind.wrap_i64]; omega
    have main : ∀ x : tS8.den, (∀ (ρ : Type) (K : Exit -> St -> Option ρ) go, turnF dgE A499 77 1 0 (loopAt Tryz.f42 0) K go (σ499 xs p n vs i) = go (σ499 xs (gridF xs (gridF xs p 6).2 6).2 n (vs ++ [x]) (i + 1))) ->
        ∃ r : List tS8.den × Int, (r.1.length = vs.length + (m + 1) /\ rdOkB xs r.2 = true) /\ ∀ (ρ : Type) (K : Exit -> St -> Option ρ), itF (turnF dgE A499 77 1 0 (loopAt Tryz.f42 0) K) (fun _ => none) (m + 1 + 1) (σ499 xs p n vs i) = K (.exit 0) (τ499 xs r.2 r.1) := fun x hx => by
      obtain ⟨r, ⟨h1, h2⟩, h3⟩ := loop499a xs n hn m (i + 1) (gridF xs (gridF xs p 6).2 6).2 (vs ++ [x]) (by omega) (by omega) (by rw [List.length_append, List.length_singleton]; omega) g2; rw [List.length_append, List.length_singleton] at h1; exact ⟨r, ⟨by omega, h2⟩, fun ρ K => (hx ρ K _).trans (h3 ρ K)⟩
    cases he : eqW (gridF xs p 6).1 (gridF xs (gridF xs p 6).2 6).1
    · exact main (dnS (gridF xs p 6).1 (gridF xs (gridF xs p 6).2 6).1) fun ρ K go => by
        rw [turn499a, decide_eq_true (by omega), cond_true, if_pos hp, if_pos g1, he, cond_false, apC_eq (by omega), hw]
    · exact main (dnS (gridF xs p 6).1 (movF (gridF xs p 6).1 2)) fun ρ K go => by
        rw [turn499a, decide_eq_true (by omega), cond_true, if_pos hp, if_pos g1, he, cond_true, apC_eq (by omega), hw]
theorem loop499b (xs : List Int) : ∀ (m : Nat) (p : Int) (vs : List tS8.den), vs.length <= 1000000 -> 62 <= vs.length + m -> rdOkB xs p = true ->
    ∃ (t : Nat) (r : List tS8.den × Int), (r.1.length <= vs.length + m /\ rdOkB xs r.2 = true) /\ ∀ (ρ : Type) (K : Exit -> St -> Option ρ), itF (turnF dgE A499 77 1 0 (loopAt Tryz.f42 1) K) (fun _ => none) t (τ499 xs p vs) = K (.exit 2) (τ499 xs r.2 r.1) := by
  intro m
  induction m with
  | zero =>
    intro p vs hl h hp; have b := belowR hp (n := 2) (by decide); have hw : IntKind.i64.wrap (60 + (belowF xs p 2).1) = 60 + (belowF xs p 2).1 := by rw [IntKind.wrap_i64]; omega
    exact ⟨1, (vs, (belowF xs p 2).2), ⟨Nat.le_refl _, belowP (n := 2) hp⟩, fun ρ K => by
      show turnF _ _ _ _ _ _ _ _ _ = _; rw [turn499b, if_pos hp, hw, decide_eq_false (by omega), cond_false]⟩
  | succ m ih =>
    intro p vs hl h hp; have b := belowR hp (n := 2) (by decide); have hw : IntKind.i64.wrap (60 + (belowF xs p 2).1) = 60 + (belowF xs p 2).1 := by rw [IntKind.wrap_i64]; omega
    by_cases hlt : (vs.length : Int) < 60 + (belowF xs p 2).1
    · obtain ⟨t, r, ⟨h1, h2⟩, h3⟩ := ih (belowF xs p 2).2 (vs ++ [kS vs.length]) (by rw [List.length_append, List.length_singleton]; omega) (by rw [List.length_append, List.length_singleton]; omega) (belowP hp); rw [List.length_append, List.length_singleton] at h1; exact ⟨t + 1, r, ⟨by omega, h2⟩, fun ρ K => by
        show turnF _ _ _ _ _ _ _ _ _ = _; rw [turn499b, if_pos hp, hw, decide_eq_true hlt, cond_true, apC_eq (by omega)]; exact h3 ρ K⟩
    · exact ⟨1, (vs, (belowF xs p 2).2), ⟨by dsimp only; omega, belowP (n := 2) hp⟩, fun ρ K => by
        show turnF _ _ _ _ _ _ _ _ _ = _; rw [turn499b, if_pos hp, hw, decide_eq_false hlt, cond_false]⟩
theorem la_ex : ∃ f : List Int -> Int -> Int -> List tS8.den × Int, ∀ xs p n, (0 <= n /\ n <= 1000) /\ rdOkB xs p = true -> ((f xs p n).1.length = n.toNat /\ rdOkB xs (f xs p n).2 = true) /\
    ∀ (ρ : Type) (K : Exit -> St -> Option ρ), itF (turnF dgE A499 77 1 0 (loopAt Tryz.f42 0) K) (fun _ => none) (n.toNat + 1) (σ499 xs p n [] 0) = K (.exit 0) (τ499 xs (f xs p n).2 (f xs p n).1) := by
  classical
  have h' : ∀ xs p n, ∃ r : List tS8.den × Int, (0 <= n /\ n <= 1000) /\ rdOkB xs p = true -> (r.1.length = n.toNat /\ rdOkB xs r.2 = true) /\
      ∀ (ρ : Type) (K : Exit -> St -> Option ρ), itF (turnF dgE A499 77 1 0 (loopAt Tryz.f42 0) K) (fun _ => none) (n.toNat + 1) (σ499 xs p n [] 0) = K (.exit 0) (τ499 xs r.2 r.1) := fun xs p n => by
    by_cases hc : (0 <= n /\ n <= 1000) /\ rdOkB xs p = true
    · obtain ⟨r, ⟨h1, h2⟩, h3⟩ := loop499a xs n (by omega) n.toNat 0 p [] (by omega) (by omega) (by simp; omega) hc.2; exact ⟨r, fun _ => ⟨⟨by simpa using h1, h2⟩, h3⟩⟩
    · exact ⟨([], 0), fun h => absurd h hc⟩
  exact ⟨fun xs p n => (h' xs p n).choose, fun xs p n h => (h' xs p n).choose_spec h⟩
noncomputable def laF := la_ex.choose
theorem laF_ok {xs : List Int} {p n : Int} (h : (0 <= n /\ n <= 1000) /\ rdOkB xs p = true) : ((laF xs p n).1.length = n.toNat /\ rdOkB xs (laF xs p n).2 = true) /\
    ∀ (ρ : Type) (K : Exit -> St -> Option ρ), itF (turnF dgE A499 77 1 0 (loopAt Tryz.f42 0) K) (fun _ => none) (n.toNat + 1) (σ499 xs p n [] 0) = K (.exit 0) (τ499 xs (laF xs p n).2 (laF xs p n).1) := la_ex.choose_spec xs p n h
theorem lb_ex : ∃ f : List Int -> Int -> List tS8.den -> List tS8.den × Int, ∀ xs p vs, vs.length <= 1000 /\ rdOkB xs p = true -> ((f xs p vs).1.length <= 2000 /\ rdOkB xs (f xs p vs).2 = true) /\
    ∃ t, ∀ (ρ : Type) (K : Exit -> St -> Option ρ), itF (turnF dgE A499 77 1 0 (loopAt Tryz.f42 1) K) (fun _ => none) t (τ499 xs p vs) = K (.exit 2) (τ499 xs (f xs p vs).2 (f xs p vs).1) := by
  classical
  have h' : ∀ xs p vs, ∃ r : List tS8.den × Int, vs.length <= 1000 /\ rdOkB xs p = true -> (r.1.length <= 2000 /\ rdOkB xs r.2 = true) /\
      ∃ t, ∀ (ρ : Type) (K : Exit -> St -> Option ρ), itF (turnF dgE A499 77 1 0 (loopAt Tryz.f42 1) K) (fun _ => none) t (τ499 xs p vs) = K (.exit 2) (τ499 xs r.2 r.1) := fun xs p vs => by
    by_cases hc : vs.length <= 1000 /\ rdOkB xs p = true
    · obtain ⟨t, r, ⟨h1, h2⟩, h3⟩ := loop499b xs 62 p vs (by omega) (by omega) hc.2; exact ⟨r, fun _ => ⟨⟨by omega, h2⟩, t, h3⟩⟩
    · exact ⟨([], 0), fun h => absurd h hc⟩
  exact ⟨fun xs p vs => (h' xs p vs).choose, fun xs p vs h => (h' xs p vs).choose_spec h⟩
noncomputable def lbF := lb_ex.choose
theorem lbF_ok {xs : List Int} {p : Int} {vs : List tS8.den} (h : vs.length <= 1000 /\ rdOkB xs p = true) : ((lbF xs p vs).1.length <= 2000 /\ rdOkB xs (lbF xs p vs).2 = true) /\
    ∃ t, ∀ (ρ : Type) (K : Exit -> St -> Option ρ), itF (turnF dgE A499 77 1 0 (loopAt Tryz.f42 1) K) (fun _ => none) t (τ499 xs p vs) = K (.exit 2) (τ499 xs (lbF xs p vs).2 (lbF xs p vs).1) := lb_ex.choose_spec xs p vs h
noncomputable def S499a : Sum := fun n0 ρ σ K => match n0, σ with
  | 1, ⟨[(0, .v false [.ptr 0 0]), (3, .v false [.int .i64 n]), (4, .v false [.wsl 1 8]), (5, .v false [.int .i64 i])], [.var [.sl none (.int .u8) xs, .int .i64 p], .arr 43 (.pair (.pair (.pair (.int .i64) (.int .i64)) (.pair (.int .i64) (.int .i64))) (.pair (.pair (.int .i64) (.int .i64)) (.pair (.int .i64) (.int .i64)))) [] false true]⟩ =>
    if i = 0 /\ (0 <= n /\ n <= 1000) /\ rdOkB xs p = true then K (.exit 0) (τ499 xs (laF xs p n).2 (laF xs p n).1) else none
  | _, _ => none
noncomputable def S499b : Sum := fun n0 ρ σ K => match n0, σ with
  | 1, ⟨[(0, .v false [.ptr 0 0]), (4, .v false [.wsl 1 8])], [.var [.sl none (.int .u8) xs, .int .i64 p], .arr 43 (.pair (.pair (.pair (.int .i64) (.int .i64)) (.pair (.int .i64) (.int .i64))) (.pair (.pair (.int .i64) (.int .i64)) (.pair (.int .i64) (.int .i64)))) vs false true]⟩ =>
    if List.length (α := tS8.den) vs <= 1000 /\ rdOkB xs p = true then K (.exit 2) (τ499 xs (lbF xs p vs).2 (lbF xs p vs).1) else none
  | _, _ => none
theorem sum499a : SumOK NN Tryz.prog 77 (loopAt Tryz.f42 0) S499a :=
  SumOK.of_turns dgE_ok mixT (A := A499) (SumsOK.none fun _ => rfl) fun n0 ρ σ K r h => by
    unfold S499a at h; split at h
    · rename_i n i xs p; split at h
      · rename_i hc; obtain ⟨rfl, hc⟩ := hc; exact ⟨_, ((laF_ok hc).2 ρ K).trans h⟩
      · contradiction
    · contradiction
theorem sum499b : SumOK NN Tryz.prog 77 (loopAt Tryz.f42 1) S499b :=
  SumOK.of_turns dgE_ok mixT (A := A499) (SumsOK.none fun _ => rfl) fun n0 ρ σ K r h => by
    unfold S499b at h; split at h
    · rename_i xs p vs; split at h
      · rename_i hc; obtain ⟨t, ht⟩ := (lbF_ok (vs := vs) hc).2; exact ⟨t, (ht ρ K).trans h⟩
      · contradiction
    · contradiction
noncomputable def A499s : Ann := { A499 with sum := fun i => bif Nat.beq i 4 then some S499a else bif Nat.beq i 16 then some S499b else none }
def slS8 (vs : List tS8.den) : SV := one (.sl (some false) tS8 vs)
def S8.dn (s : S8) : tS8.den := (((s.a, s.b), (s.c, s.d)), ((s.e, s.f), (s.g, s.h)))
section
variable {ρ : Type} (cont : SV -> HL -> Option ρ) (xs : List Int)
noncomputable def tlB (vs : List tS8.den) (p : Int) : Option ρ := if rdOkB xs p = true then (bif (onceF xs p 40).1 then (if vs.length <= 1000 /\ rdOkB xs (onceF xs p 40).2 = true then cont (slS8 (lbF xs (onceF xs p 40).2 vs).1) (rdH xs (lbF xs (onceF xs p 40).2 vs).2) else none)
  else cont (slS8 vs) (rdH xs (onceF xs p 40).2)) else none
noncomputable def tlA (vs : List tS8.den) (p : Int) : Option ρ := if rdOkB xs p = true then (bif (onceF xs p 5).1 then (bif bif true then decide (1 < (vs.length : Int)) else false then (if (0 : Int) <= 1 /\ 1 < (vs.length : Int) then vs[0 + Int.toNat 1]?.bind (fun x => if (0 : Int) <= 0 /\ 0 < (vs.length : Int) then vs[0 + Int.toNat 0]?.bind (fun _ =>
  tlB cont xs (vs.set (0 + Int.toNat 0) (((x.1.1.1, x.1.1.2), (x.1.2.1, x.1.2.2)), ((x.2.1.1, x.2.1.2), (x.2.2.1, x.2.2.2)))) (onceF xs p 5).2) else none) else none) else tlB cont xs vs (onceF xs p 5).2) else tlB cont xs vs (onceF xs p 5).2) else none
noncomputable def tl0 (vs : List tS8.den) (p : Int) : Option ρ := if rdOkB xs p = true then (bif (onceF xs p 3).1 then (if rdOkB xs (onceF xs p 3).2 = true then apC vs.length (tlA cont xs (vs ++ [(segF xs (onceF xs p 3).2).1.dn]) (segF xs (onceF xs p 3).2).2) else none) else tlA cont xs vs (onceF xs p 3).2) else none
theorem gq499 (p : Int) : runF dgE A499s 0 Tryz.f42 (bodyOf Tryz.f42) ρ [one (.ptr 0 0)] (rdH xs p) cont =
    if ((8 : Int) = 8 /\ (9 : Int) = 9) /\ rdOkB xs p = true then (if (0 : Int) = 0 /\ (0 <= (sizeF xs p).1 /\ (sizeF xs p).1 <= 1000) /\ rdOkB xs (sizeF xs p).2 = true then
      tl0 cont xs (laF xs (sizeF xs p).2 (sizeF xs p).1).1 (laF xs (sizeF xs p).2 (sizeF xs p).1).2 else none) else none := by kernel_rfl
end
theorem tlB_ends {xs : List Int} {vs : List tS8.den} {p : Int} (hl : vs.length <= 1000) (h : rdOkB xs p = true) : Ends xs slS8 fun ρ cont => tlB cont xs vs p :=
  have h1 := onceP (n := 40) h
  Ends.ite h (Ends.bif (Ends.ite ⟨hl, h1⟩ (Ends.fin _ (lbF_ok (vs := vs) ⟨hl, h1⟩).1.2)) (Ends.fin _ h1))
theorem tlA_ends {xs : List Int} {vs : List tS8.den} {p : Int} (hl : vs.length <= 1000) (h : rdOkB xs p = true) : Ends xs slS8 fun ρ cont => tlA cont xs vs p := by
  have h1 := onceP (n := 5) h; refine Ends.ite h (Ends.bif ?_ (tlB_ends hl h1)); cases hb : decide (1 < (vs.length : Int))
  · exact Ends.eq (tlB_ends hl h1) fun ρ cont => rfl
  · have hk := of_decide_eq_true hb; have e1 : vs[0 + Int.toNat 1]? = some vs[1] := List.getElem?_eq_getElem (by omega); have e0 : vs[0 + Int.toNat 0]? = some vs[0] := List.getElem?_eq_getElem (by omega); refine Ends.eq (tlB_ends (vs := vs.set (0 + Int.toNat 0) (((vs[1].1.1.1, vs[1].1.1.2), (vs[1].1.2.1, vs[1].1.2.2)), ((vs[1].2.1.1, vs[1].2.1.2), (vs[1].2.2.1, vs[1].2.2.2)))) (by rw [List.length_set]; exact hl) h1) fun ρ cont => ?_
    rw [cond_true, cond_true, if_pos ⟨by decide, hk⟩, e1, Option.bind_some, if_pos ⟨by decide, by omega⟩, e0, Option.bind_some]
theorem tl0_ends {xs : List Int} {vs : List tS8.den} {p : Int} (hl : vs.length <= 999) (h : rdOkB xs p = true) : Ends xs slS8 fun ρ cont => tl0 cont xs vs p := by
  have h1 := onceP (n := 3) h; refine Ends.ite h (Ends.bif (Ends.ite h1 ?_) (tlA_ends (by omega) h1)); exact Ends.eq (tlA_ends (vs := vs ++ [(segF xs (onceF xs p 3).2).1.dn]) (by rw [List.length_append, List.length_singleton]; omega) (segP h1)) fun ρ cont => apC_eq (by omega) _
theorem segs_ok : ∃ f : List Int -> Int -> List tS8.den × Int, OrcOK NN Tryz.prog 42 (rO slS8 f) /\ ∀ xs p, rdOkB xs p = true -> rdOkB xs (f xs p).2 = true :=
  rO_ends (runF_ok dgE_ok mixT (A := A499s) (fuel := 0) Tryz.func42 (c := bodyOf Tryz.f42) (by kernel_rfl) (SumsOK.ofL (ls := [loopAt Tryz.f42 0, loopAt Tryz.f42 1]) (by kernel_rfl) ⟨sumL1 (by kernel_rfl) sum499a, sumL1 (by kernel_rfl) sum499b, trivial⟩)) slS8 fun xs p h => by
    have hr := sizeR h; have hp := sizeP h; have hc : (0 <= (sizeF xs p).1 /\ (sizeF xs p).1 <= 1000) /\ rdOkB xs (sizeF xs p).2 = true := ⟨⟨by omega, by omega⟩, hp⟩; have hl := (laF_ok hc).1; exact Ends.eq (Ends.ite ⟨⟨rfl, rfl⟩, h⟩ (Ends.ite ⟨rfl, hc⟩ (tl0_ends (by omega) hl.2))) fun ρ cont => gq499 cont xs p
noncomputable def segsF := segs_ok.choose
theorem orc_segs : OrcOK NN Tryz.prog 42 (rO slS8 segsF) := segs_ok.choose_spec.1
theorem segsP {xs : List Int} {p : Int} (h : rdOkB xs p = true) : rdOkB xs (segsF xs p).2 = true := segs_ok.choose_spec.2 xs p h
structure DA where
  vs : List tS8.den
  v : W4
instance : Inhabited DA := ⟨⟨[], default⟩⟩
def DA.sv (d : DA) : SV := .tup [(false, [.sl none tS8 d.vs]), (true, d.v.ats)]
noncomputable def daE : Env := VL tryT [] [(19, cR rE Ash 5 Tryz.f19), (42, rO slS8 segsF), (43, nO shB onceF), (44, rO W4.sv drawVF), (45, nO W4.sv gridF)]
theorem daE_ok : EnvOK NN Tryz.prog daE := VL_ok (TabOk.of tryT_ok) (gamC (cR_ok rE_ok rfl Tryz.func19 (by kernel_rfl)) Tryz.call19 (gamC orc_segs Tryz.call42 (gamC orc_once Tryz.call43 (gamC orc_drawV Tryz.call44 (gamC orc_grid Tryz.call45 (gamN _ _))))))
noncomputable def daR : Orc := fun ρ args H cont => cR daE Ash 20 Tryz.f13 ρ args H fun s H' => cont (plSV tS8 s) H'
theorem drw496 {ρ : Type} (cont : SV -> HL -> Option ρ) (xs : List Int) : daR ρ [one (.sl none (.int .u8) xs)] [] cont =
    if rdOkB xs 0 = true then (if rdOkB xs (segsF xs 0).2 = true then (bif (onceF xs (segsF xs 0).2 3).1 then (if rdOkB xs (onceF xs (segsF xs 0).2 3).2 = true then cont (DA.sv ⟨(segsF xs 0).1, (drawVF xs (onceF xs (segsF xs 0).2 3).2).1⟩) [] else none)
      else (if rdOkB xs (onceF xs (segsF xs 0).2 3).2 = true then cont (DA.sv ⟨(segsF xs 0).1, (gridF xs (onceF xs (segsF xs 0).2 3).2 6).1⟩) [] else none)) else none) else none := by kernel_rfl
theorem above_draw : ∃ f, OrcOK NN Tryz.prog 13 (bO DA.sv f) :=
  bO_ok (F := daR) (OrcOK.pl (cR_ok (A := Ash) (fuel := 20) daE_ok rfl Tryz.func13 (by kernel_rfl)) tS8) DA.sv fun xs h => by
    have h1 := segsP h; have h2 := onceP (n := 3) h1; exact End0.eq (End0.ite h (End0.ite h1 (End0.bif (End0.ite h2 (End0.fin ⟨_, _⟩)) (End0.ite h2 (End0.fin ⟨_, _⟩))))) fun ρ cont => drw496 cont xs
end Go.Abs
namespace Go.Abs
open Go.Proofs
set_option maxRecDepth 100000
noncomputable def lbvE (f : List Int -> DA) : Env := VL tryT [] [(5, cR rE Ash 5 Tryz.f5), (13, bO DA.sv f), (14, aboveO), (15, aboveO), (16, onO), (17, cmvO), (18, meetO), (9, livesO)]
theorem lbvE_ok {f : List Int -> DA} (hf : OrcOK NN Tryz.prog 13 (bO DA.sv f)) : EnvOK NN Tryz.prog (lbvE f) := VL_ok (TabOk.of tryT_ok) (gamC (cR_ok rE_ok rfl Tryz.func5 (by kernel_rfl)) Tryz.call5 (gamC hf Tryz.call13 (gamC orc_aboveI Tryz.call14 (gamC orc_aboveS Tryz.call15
  (gamC orc_on Tryz.call16 (gamC orc_cmv Tryz.call17 (gamC orc_meetI Tryz.call18 (gamC lives_ok Tryz.call9 (gamN _ _)))))))))
def A495 : Ann := { head := ptOf [(15, [3, 4, 6, 11], [])], out := ptOf [(15, [2], [])], shut := true }
def σ495 (vs : List tS8.den) (v p : W4) (i : Int) : St := ⟨[(3, one (.sl none tS8 vs)), (4, one (.ptr 0 0)), (6, one (.ptr 1 0)), (11, one (.int .i64 i))], [.var v.ats, .var p.ats]⟩
section
variable {ρ : Type} (K : Exit -> St -> Option ρ) (go : St -> Option ρ) (f : List Int -> DA)
noncomputable def bdM (m : M9) (p : W4) (R G : Option ρ) : Option ρ := bif m.k == 2 then R else bif m.k == 1 then (bif bif false then true else bif true then m.A.ne' p else false then R else G) else G
theorem turn495 (vs : List tS8.den) (v p : W4) (i : Int) : turnF (lbvE f) A495 105 0 0 (loopAt Tryz.f4 0) K go (σ495 vs v p i) =
    bif decide (i < (vs.length : Int)) then (if 0 <= i then vs[i.toNat]?.bind (fun x => bdM (mvF (mk8 v p) (dS x)) p (K .ret outF) (go (σ495 vs v p (IntKind.i64.wrap (i + 1))))) else none) else K (.exit 0) outU := by kernel_rfl
end
noncomputable def gM (v p : W4) (x : tS8.den) : Bool := bif (mvF (mk8 v p) (dS x)).k == 2 then false else bif (mvF (mk8 v p) (dS x)).k == 1 then !((mvF (mk8 v p) (dS x)).A.ne' p) else true
noncomputable def allG (vs : List tS8.den) (v p : W4) : Bool := vs.all (gM v p)
theorem bdM_eq {ρ : Type} {v p : W4} {x : tS8.den} (h : gM v p x = true) (R G : Option ρ) : bdM (mvF (mk8 v p) (dS x)) p R G = G := by
  unfold gM at h; unfold bdM; cases h2 : (mvF (mk8 v p) (dS x)).k == 2
  · rw [h2] at h; cases h1 : (mvF (mk8 v p) (dS x)).k == 1
    · rfl
    · rw [h1] at h; cases h3 : (mvF (mk8 v p) (dS x)).A.ne' p
      · rfl
      · rw [h3] at h; cases h
  · rw [h2] at h; cases h
noncomputable def S495 : Sum := fun n0 ρ σ K => match n0, σ with
  | 0, ⟨[(3, .v false [.sl none (.pair (.pair (.pair (.int .i64) (.int .i64)) (.pair (.int .i64) (.int .i64))) (.pair (.pair (.int .i64) (.int .i64)) (.pair (.int .i64) (.int .i64)))) vs]), (4, .v false [.ptr 0 0]), (6, .v false [.ptr 1 0]), (11, .v false [.int .i64 i])],
      [.var [.int .i64 a, .int .i64 b, .int .i64 c, .int .i64 d], .var [.int .i64 e, .int .i64 f, .int .i64 g, .int .i64 h]]⟩ =>
    if i = 0 /\ (List.length (α := tS8.den) vs : Int) <= 60 /\ allG vs ⟨a, b, c, d⟩ ⟨e, f, g, h⟩ = true then K (.exit 0) outU else none
  | _, _ => none
theorem sum495 {f : List Int -> DA} (hf : OrcOK NN Tryz.prog 13 (bO DA.sv f)) : SumOK NN Tryz.prog 105 (loopAt Tryz.f4 0) S495 :=
  SumOK.of_turns (lbvE_ok hf) mixT (A := A495) (SumsOK.none fun _ => rfl) fun n0 ρ σ K r h => by
    unfold S495 at h; split at h
    · rename_i vs i a b c d e f' g h'; split at h
      · rename_i hc; obtain ⟨rfl, hl, hg⟩ := hc; have k := (itF_fold (T := turnF (lbvE f) A495 105 0 0 (loopAt Tryz.f4 0) K) (xs := vs) (s := fun i (_ : Unit) => σ495 vs ⟨a, b, c, d⟩ ⟨e, f', g, h'⟩ i) (stp := fun _ _ st => st) (fin := fun _ => K (.exit 0) outU) (I := fun _ => True)
          (fun go st _ => (turn495 K go f vs _ _ _).trans (lst_out ..))
          (fun go i hi st _ => ⟨(turn495 K go f vs _ _ _).trans ((lst_in hi ..).trans ((bdM_eq (List.all_eq_true.1 hg _ (List.getElem_mem hi)) _ _).trans (by rw [lst_wrap (by omega) hi]))), trivial⟩) vs.length 0 () (by omega) trivial).1
        exact ⟨_, k.trans h⟩
      · contradiction
    · contradiction
noncomputable def A495s : Ann := { A495 with sum := fun i => bif Nat.beq i 15 then some S495 else none }
section
variable {ρ : Type} (K : Bool -> Option ρ) (vs : List tS8.den) (v : W4) (r : A6)
noncomputable def fin5 : Option ρ := if (0 : Int) = 0 /\ (vs.length : Int) <= 60 /\ allG vs v r.w = true then K true else none
noncomputable def at5 (x : tS8.den) : Option ρ := bif !onS r.w (dS x) then K false else bif bif false then true else !(r.w.a == v.a && r.w.b == v.b) then K false else bif bif false then true else decide (0 < cmW v r.w) then K false else
  bif eqW r.w v then K true else fin5 K vs v r
noncomputable def law5 : Option ρ := bif r.ok != r.ok then K false else bif bif false then true else r.i != r.i then K false else bif !r.ok then K (bif true then r.i == -1 else false) else
  if 0 <= r.i then vs[r.i.toNat]?.bind (fun x => at5 K vs v r x) else none
end
theorem gq495 {ρ : Type} (cont : SV -> HL -> Option ρ) (f : List Int -> DA) (xs : List Int) : runF (lbvE f) A495s 0 Tryz.f4 (bodyOf Tryz.f4) ρ [one (.sl none (.int .u8) xs)] [] cont =
    bif decide (1048576 < (xs.length : Int)) then cont (one (.bool true)) [] else if rdOkB xs 0 = true then law5 (fun o => cont (one (.bool o)) []) (f xs).vs (f xs).v (abF (f xs).v (f xs).vs) else none := by kernel_rfl
theorem W4.ext_pl {v w : W4} (hv : v.ok = true) (hw : w.ok = true) (h : v.pl = w.pl) : v = w := by
  obtain ⟨h1, h2, h3, h4⟩ := plV_inj ⟨vOk_q hv, vOk_q hw⟩ h; cases v; cases w; simp only [W4.mk.injEq]; exact ⟨h1, h2, h3, h4⟩
theorem eqW_iff {v w : W4} : eqW v w = true ↔ v = w := by
  cases v; cases w; unfold eqW; simp only [Bool.and_eq_true, beq_iff_eq, W4.mk.injEq]
theorem law5_eq {ρ : Type} (K : Bool -> Option ρ) (vs : List tS8.den) (v : W4) : law5 K vs v (abF v vs) = K true := by
  unfold law5; rw [bne_self_eq_false, cond_false, cond_false, bne_self_eq_false, cond_false]; have bad : abF v vs = A6.bad -> (bif !(abF v vs).ok then K (bif true then (abF v vs).i == -1 else false) else if 0 <= (abF v vs).i then vs[(abF v vs).i.toNat]?.bind (fun x => at5 K vs v (abF v vs) x) else none) = K true := fun e => by
    rw [e]; rfl
  by_cases hok : okS vs = true /\ v.ok = true
  · obtain ⟨h1, h2⟩ := hok; obtain ⟨hl, ha⟩ := okS_ok h1; cases hf : firstU v.pl (vs.map sgP) with
    | none => exact bad (by rw [abF_eq]; unfold abV; rw [if_pos ⟨h1, h2⟩, hf])
    | some q =>
      obtain ⟨j, y⟩ := q
      by_cases hfit : fitP ⟨v.pl.x, y⟩ = true
      · have e : abF v vs = ⟨(j : Int), ⟨qNum v.pl.x, qDen v.pl.x, qNum y, qDen y⟩, true⟩ := by
          rw [abF_eq]; unfold abV; rw [if_pos ⟨h1, h2⟩, hf]; exact if_pos hfit
        obtain ⟨pok, ppl⟩ := fit_pl hfit; dsimp only at pok ppl; obtain ⟨m1, _⟩ := firstU_ok v.pl (vs.map sgP); obtain ⟨s, hs, hu⟩ := m1 j y hf; obtain ⟨hj, hs'⟩ := List.getElem?_eq_some_iff.1 hs; rw [List.length_map] at hj; have es : s = sgP vs[j] := by rw [<- hs', List.getElem_map]
        subst es; have sok := allS_at ha hj; obtain ⟨on1, le1⟩ := up_on (okQ_of sok).2 hu; rw [e]; dsimp only; generalize hw : (⟨qNum v.pl.x, qDen v.pl.x, qNum y, qDen y⟩ : W4) = w at *; rw [Bool.not_true, cond_false, lst_at hj]; unfold at5; dsimp only; have c1 : onS w (dS vs[j]) = true := onS_iff.2 ⟨pok, sok, by rw [ppl]; exact on1⟩; have c2 : (w.a == v.a && w.b == v.b) = true := by
          have q1 := ok_fit (vOk_q h2).1; have ea : w.a = v.a := by rw [<- hw]; exact q1.2.1
          have eb : w.b = v.b := by rw [<- hw]; exact q1.2.2
          rw [ea, eb, beq_self_eq_true, beq_self_eq_true]; rfl
        have c3 : ¬ 0 < cmW v w := by
          rw [cmW_eq h2 pok, cmpP_gt, ppl]; unfold lxP; dsimp only
          grind
        rw [c1, c2, decide_eq_false c3]; cases c4 : eqW w v
        · have hne : w.pl ≠ v.pl := fun e => by
            have := eqW_iff.2 (W4.ext_pl pok h2 e); rw [c4] at this; cases this
          have hne' : (⟨v.pl.x, y⟩ : Pl) ≠ v.pl := fun e => hne (by rw [ppl]; exact e)
          have hg : allG vs v w = true := by
            unfold allG; rw [List.all_eq_true]; intro x hx; have xok : (dS x).ok = true := List.all_eq_true.1 ha _ hx; have key : ∀ u : Pl, onP u v.pl w.pl -> onP u (dS x).p (dS x).q -> u = w.pl := fun u k1 k2 => by
              rw [ppl] at k1 ⊢; exact first_meet hf hne' (s := sgP x) (List.mem_map_of_mem hx) (okQ_of xok).2 k1 k2 le1
            unfold gM; rcases mv_cases (mk8 v w) (dS x) with k | ⟨⟨t1, t2⟩, ⟨k, _⟩ | ⟨o, p, q, hm, hk, ⟨a1, a2⟩, ⟨b1, b2⟩, _⟩⟩
            · rw [k]; rfl
            · rw [k]; rfl
            · obtain ⟨⟨p1, p2⟩, ⟨q1, q2⟩, hpq⟩ := mt_on (okQ_of t1).2 (okQ_of t2).2 hm; have ep := key p p1 p2; have eq := key q q1 q2; rw [hk]; cases o
              · have ew : (mvF (mk8 v w) (dS x)).A = w := W4.ext_pl a1 pok (by rw [a2, ep]); rw [ew, W4.ne_self]; rfl
              · exact absurd (show lxP p q from hpq) (by rw [ep, eq]; exact lx_irr _)
          show fin5 K vs v ⟨(j : Int), w, true⟩ = K true; unfold fin5; rw [if_pos ⟨rfl, by omega, hg⟩]
        · rfl
      · exact bad (by rw [abF_eq]; unfold abV; rw [if_pos ⟨h1, h2⟩, hf]; exact if_neg hfit)
  · exact bad (by rw [abF_eq]; unfold abV; rw [if_neg hok])
theorem ab_law : OrcOK NN Tryz.prog 4 lawO1 := by
  obtain ⟨f, hf⟩ := above_draw; exact OrcOK.of_tale (runF_ok (lbvE_ok hf) mixT (A := A495s) (fuel := 0) Tryz.func4 (c := bodyOf Tryz.f4) (by kernel_rfl)
    (SumsOK.ofL (ls := [loopAt Tryz.f4 0]) (by kernel_rfl) ⟨sumL1 (by kernel_rfl) (sum495 hf), trivial⟩)) fun ρ args H cont r h => by
    unfold lawO1 at h; split at h
    · rename_i xs; split at h
      · rename_i hb; refine (gq495 cont f xs).trans ?_
        by_cases h1 : (1048576 : Int) < List.length (α := Int) xs
        · rw [decide_eq_true h1]; exact h
        · rw [decide_eq_false h1, cond_false, if_pos (rdOk_iff.2 ⟨hb, by omega, by omega, by omega⟩), law5_eq]; exact h
      · contradiction
    · contradiction
end Go.Abs

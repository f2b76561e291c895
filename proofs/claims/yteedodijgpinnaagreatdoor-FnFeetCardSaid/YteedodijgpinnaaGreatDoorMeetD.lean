/-
  A PART OF THE PROOF of FtI (texts MeetD MeetE MeetF MeetG DrwC DrwD DrwE MeetH MeetI FeetP FeetA FeetB FeetC FeetD): the claim itself stands in the last text. No conditions beside those of the given row.
-/
import Derived.Test.YteedodijgpinnaaGreatDoorDrwA
set_option linter.unusedVariables false
set_option linter.unnecessarySimpa false
set_option linter.unusedSimpArgs false
namespace Go.Abs
open Go.Proofs
set_option maxRecDepth 100000
def szP (B : Nat) (p : Pl) : Prop := szN B p.x /\ szN B p.y
theorem szP.sub {B : Nat} {p q : Pl} (hp : szP B p) (hq : szP B q) : szP (2 * B) (sbP p q) := ⟨hp.1.sub hq.1, hp.2.sub hq.2⟩
theorem szP.cr {B : Nat} {p q : Pl} (hp : szP B p) (hq : szP B q) : szN (2 * (2 * B)) (crP p q) := (hp.1.mul hq.2).sub (hp.2.mul hq.1)
theorem szN.inv {B : Nat} {q : Rat} (h : szN B q) (h0 : q ≠ 0) : szN B q⁻¹ := by
  obtain ⟨h1, h2⟩ := inv_parts h0
  have e1 : q⁻¹.num.natAbs = q.den := by rw [h1]; split <;> omega
  have e2 : q⁻¹.den = q.num.natAbs := by split at h2 <;> omega
  unfold szN
  rw [e1, e2]
  exact ⟨h.2, h.1⟩
theorem szN.div {B : Nat} {p q : Rat} (hp : szN B p) (hq : szN B q) (h0 : q ≠ 0) : szN (2 * B) (p / q) := by
  rw [Rat.div_def]
  exact hp.mul (hq.inv h0)
theorem one_one : Rat.divInt 1 1 = 1 := by decide +kernel
theorem m4_ok {B : Nat} {p q : Pl} (hp : szP B p) (hq : szP B q) (hB : B <= 1000000) : m4 p q := ⟨⟨rfl, rfl, rfl, rfl⟩, hp.1.mm hB, hp.2.mm hB, hq.1.mm hB, hq.2.mm hB⟩
section
variable {ρ : Type} (cont : SV -> HL -> Option ρ)
theorem crC_eq {B : Nat} {a b : Pl} (K : Rat -> Option ρ) (ha : szP B a) (hb : szP B b) (hB : 2 * B <= 100000000) : crC a b K = K (crP a b) := by
  unfold crC
  rw [if_pos (both (ha.1.qq (by omega)) (hb.2.qq (by omega))), if_pos (both (ha.2.qq (by omega)) (hb.1.qq (by omega))), if_pos (both ((ha.1.mul hb.2).qq hB) ((ha.2.mul hb.1).qq hB))]
theorem szP.lo {B : Nat} {a b : Pl} (h1 : szP B a) (h2 : szP B b) : szP B (loP a b) := by unfold loP; split <;> assumption
theorem szP.hi {B : Nat} {a b : Pl} (h1 : szP B a) (h2 : szP B b) : szP B (hiP a b) := by unfold hiP; split <;> assumption
theorem szP.mx {B : Nat} {a b : Pl} (h1 : szP B a) (h2 : szP B b) : szP B (mxP a b) := by unfold mxP; split <;> assumption
end
end Go.Abs
namespace Go.Abs
open Go.Proofs
set_option maxRecDepth 100000
abbrev n4 (p q : Pl) : Prop := (1 = 1 /\ 1 = 1 /\ 1 = 1 /\ 1 = 1) /\ szM p.x = true /\ szM p.y = true /\ szM q.x = true /\ szM q.y = true
section
variable {ρ : Type} (cont : SV -> HL -> Option ρ)
end
end Go.Abs
namespace Go.Abs
open Go.Proofs
set_option maxRecDepth 100000
theorem n4_ok {B : Nat} {p q : Pl} (hp : szP B p) (hq : szP B q) (hB : B <= 1000000) : n4 p q := ⟨⟨rfl, rfl, rfl, rfl⟩, hp.1.mm hB, hp.2.mm hB, hq.1.mm hB, hq.2.mm hB⟩
section
variable {ρ : Type} (cont : SV -> HL -> Option ρ)
end
def s8P (p : Pl) : Bool := s8 p.x && s8 p.y
theorem s8P_ok {p : Pl} (h : s8P p = true) : szP 8 p := by
  unfold s8P at h
  rw [Bool.and_eq_true] at h
  exact ⟨s8_ok h.1, s8_ok h.2⟩
end Go.Abs
namespace Go.Abs
open Go.Proofs
set_option maxRecDepth 100000
structure S8 where
  a : Int
  b : Int
  c : Int
  d : Int
  e : Int
  f : Int
  g : Int
  h : Int
def S8.p (s : S8) : Pl := plV s.a s.b s.c s.d
def S8.q (s : S8) : Pl := plV s.e s.f s.g s.h
def S8.ok (s : S8) : Bool := segB s.a s.b s.c s.d s.e s.f s.g s.h
def S8.sv (s : S8) : SV := sG s.a s.b s.c s.d s.e s.f s.g s.h
def mvT (k a b c d e f g h : Int) : SV := .tup [(false, [.int .i64 k]), (true, [.int .i64 a, .int .i64 b, .int .i64 c, .int .i64 d]), (true, [.int .i64 e, .int .i64 f, .int .i64 g, .int .i64 h])]
section
variable {ρ : Type} (cont : SV -> HL -> Option ρ)
abbrev tvG (k : Nat) (p : Pl) : Prop := (k = k /\ k = k) /\ szQ p.x = true /\ szQ p.y = true
abbrev okQ (s : S8) : Prop := (qOkB s.a s.b = true /\ qOkB s.c s.d = true) /\ qOkB s.e s.f = true /\ qOkB s.g s.h = true
abbrev okV (a b c d : Int) : Prop := qOkB a b = true /\ qOkB c d = true
end
structure M9 where
  k : Int
  a : Int
  b : Int
  c : Int
  d : Int
  e : Int
  f : Int
  g : Int
  h : Int
def M9.sv (m : M9) : SV := mvT m.k m.a m.b m.c m.d m.e m.f m.g m.h
def fitP (p : Pl) : Bool := vFit p.x p.y
theorem okQ_of {s : S8} (h : s.ok = true) : okQ s /\ s.p ≠ s.q := by
  obtain ⟨h1, h2⟩ := seg_q h
  exact ⟨h1, fun e => h2 (plV_inj h1 e)⟩
theorem okQ_sz {s : S8} (h : okQ s) : s8P s.p = true /\ s8P s.q = true := ⟨both (s8_q h.1.1) (s8_q h.1.2), both (s8_q h.2.1) (s8_q h.2.2)⟩
section
variable {ρ : Type} (cont : SV -> HL -> Option ρ)
end
end Go.Abs
namespace Go.Abs
open Go.Proofs
set_option maxRecDepth 100000
noncomputable def dA : Env := VL tryT [] [(77, nO shI belowF), (78, nO shB onceF), (79, qofO), (173, rO shQ drawQF), (76, rO shQ anyF)]
theorem dA_ok : EnvOK NN Tryz.prog dA := VL_ok (TabOk.of tryT_ok) (gamC orc_below Tryz.call77 (gamC orc_once Tryz.call78 (gamC orc_qof Tryz.call79 (gamC orc_drawQ Tryz.call173 (gamC orc_any Tryz.call76 (gamN _ _))))))
structure W4 where
  a : Int
  b : Int
  c : Int
  d : Int
instance : Inhabited W4 := ⟨⟨0, 0, 0, 0⟩⟩
instance : Inhabited S8 := ⟨⟨0, 0, 0, 0, 0, 0, 0, 0⟩⟩
def W4.sv (v : W4) : SV := sV v.a v.b v.c v.d
abbrev rng (x : Int) : Prop := -9223372036854775808 <= x /\ x < 9223372036854775808
def Ends {α : Type} (xs : List Int) (sh : α -> SV) (X : ∀ ρ, (SV -> HL -> Option ρ) -> Option ρ) : Prop := ∃ a p', True /\ rdOkB xs p' = true /\ ∀ ρ cont, X ρ cont = cont (sh a) (rdH xs p')
section
variable {α : Type} {xs : List Int} {sh : α -> SV} {X Y : ∀ ρ, (SV -> HL -> Option ρ) -> Option ρ}
theorem Ends.bif {b : Bool} (h1 : Ends xs sh X) (h2 : Ends xs sh Y) : Ends xs sh fun ρ cont => bif b then X ρ cont else Y ρ cont := by
  cases b
  · exact h2
  · exact h1
theorem Ends.ite {c : Prop} [Decidable c] (hc : c) (h1 : Ends xs sh X) : Ends xs sh fun ρ cont => if c then X ρ cont else Y ρ cont := by
  obtain ⟨a, p, h2, h3, h4⟩ := h1
  exact ⟨a, p, h2, h3, fun ρ cont => (if_pos hc).trans (h4 ρ cont)⟩
theorem Ends.fin (a : α) {p : Int} (h : rdOkB xs p = true) : Ends xs sh fun ρ cont => cont (sh a) (rdH xs p) := ⟨a, p, trivial, h, fun _ _ => rfl⟩
theorem Ends.eq (h : Ends xs sh Y) (e : ∀ ρ cont, X ρ cont = Y ρ cont) : Ends xs sh X := by
  obtain ⟨a, p, h2, h3, h4⟩ := h
  exact ⟨a, p, h2, h3, fun ρ cont => (e ρ cont).trans (h4 ρ cont)⟩
end
theorem rO_ends {α : Type} [Inhabited α] {n : Nat} {F : Orc} (hF : OrcOK NN Tryz.prog n F) (sh : α -> SV) (h : ∀ xs p, rdOkB xs p = true -> Ends xs sh fun ρ cont => F ρ [one (.ptr 0 0)] (rdH xs p) cont) :
    ∃ f : List Int -> Int -> α × Int, OrcOK NN Tryz.prog n (rO sh f) /\ ∀ xs p, rdOkB xs p = true -> rdOkB xs (f xs p).2 = true := by
  obtain ⟨f, h1, h2⟩ := rO_ok hF sh (fun _ => True) h
  exact ⟨f, h1, fun xs p hp => (h2 xs p hp).2⟩
theorem belowRng {xs : List Int} {p : Int} (h : rdOkB xs p = true) {n : Int} (hn : 1 < n) (h2 : n <= 256) : rng (belowF xs p n).1 := by
  have := belowR h hn
  exact ⟨by omega, by omega⟩
theorem drw130 {ρ : Type} (cont : SV -> HL -> Option ρ) (xs : List Int) (p : Int) : runF dA Ash 20 Tryz.f130 (bodyOf Tryz.f130) ρ [one (.ptr 0 0)] (rdH xs p) cont =
    if rdOkB xs p = true then (if rdOkB xs (drawQF xs p).2 = true then cont (W4.sv ⟨(drawQF xs p).1.1, (drawQF xs p).1.2, (drawQF xs (drawQF xs p).2).1.1, (drawQF xs (drawQF xs p).2).1.2⟩) (rdH xs (drawQF xs (drawQF xs p).2).2) else none) else none := by kernel_rfl
theorem drawV_ok : ∃ f : List Int -> Int -> W4 × Int, OrcOK NN Tryz.prog 130 (rO W4.sv f) /\ ∀ xs p, rdOkB xs p = true -> rdOkB xs (f xs p).2 = true :=
  rO_ends (cR_ok (A := Ash) (fuel := 20) dA_ok rfl Tryz.func130 (by kernel_rfl)) W4.sv fun xs p h => Ends.eq (Ends.ite h (Ends.ite (drawQP h) (Ends.fin _ (drawQP (drawQP h))))) fun ρ cont => drw130 cont xs p
noncomputable def drawVF := drawV_ok.choose
theorem orc_drawV : OrcOK NN Tryz.prog 130 (rO W4.sv drawVF) := drawV_ok.choose_spec.1
theorem drawVP {xs : List Int} {p : Int} (h : rdOkB xs p = true) : rdOkB xs (drawVF xs p).2 = true := drawV_ok.choose_spec.2 xs p h
noncomputable def gridF (xs : List Int) (p n : Int) : W4 × Int := (⟨qofA (belowF xs p n).1 1, qofB (belowF xs p n).1 1, qofA (belowF xs (belowF xs p n).2 n).1 1, qofB (belowF xs (belowF xs p n).2 n).1 1⟩, (belowF xs (belowF xs p n).2 n).2)
theorem drw218 {ρ : Type} (cont : SV -> HL -> Option ρ) (xs : List Int) (p n : Int) : runF dA Ash 20 Tryz.f218 (bodyOf Tryz.f218) ρ [one (.ptr 0 0), one (.int .i64 n)] (rdH xs p) cont =
    bif decide (n <= 1) then none else bif decide (n <= 256) then (if rdOkB xs p = true then (if rng (belowF xs p n).1 /\ rng 1 then (bif decide (n <= 1) then none else bif decide (n <= 256) then (if rdOkB xs (belowF xs p n).2 = true then (if rng (belowF xs (belowF xs p n).2 n).1 /\ rng 1 then
      cont (gridF xs p n).1.sv (rdH xs (gridF xs p n).2) else none) else none) else none) else none) else none) else none := by kernel_rfl
theorem orc_grid : OrcOK NN Tryz.prog 218 (nO W4.sv gridF) :=
  OrcOK.of_tale (cR_ok (A := Ash) (fuel := 20) dA_ok rfl Tryz.func218 (by kernel_rfl)) fun ρ args H cont r h => by
    unfold nO at h
    split at h
    · rename_i n xs p
      refine (drw218 cont xs p n).trans ?_
      cases h1 : decide (n <= 1)
      · cases h2 : decide (n <= 256)
        · rw [h1, h2] at h; exact h
        · rw [h1, h2, cond_false, cond_true] at h
          have k1 := of_decide_eq_false h1
          have k2 := of_decide_eq_true h2
          split at h
          · rename_i hc
            rw [cond_false, cond_true, cond_false, cond_true, if_pos hc, if_pos ⟨belowRng hc (by omega) k2, one_rng⟩, if_pos (belowP hc), if_pos ⟨belowRng (belowP hc) (by omega) k2, one_rng⟩]
            exact h
          · contradiction
      · rw [h1] at h; contradiction
    · contradiction
theorem gridP {xs : List Int} {p n : Int} (h : rdOkB xs p = true) : rdOkB xs (gridF xs p n).2 = true := belowP (n := n) (belowP (n := n) h)
noncomputable def dB : Env := VL tryT [] [(78, nO shB onceF), (218, nO W4.sv gridF), (76, rO shQ anyF), (130, rO W4.sv drawVF)]
theorem dB_ok : EnvOK NN Tryz.prog dB := VL_ok (TabOk.of tryT_ok) (gamC orc_once Tryz.call78 (gamC orc_grid Tryz.call218 (gamC orc_any Tryz.call76 (gamC orc_drawV Tryz.call130 (gamN _ _)))))
theorem drw220 {ρ : Type} (cont : SV -> HL -> Option ρ) (xs : List Int) (p : Int) : runF dB Ash 20 Tryz.f220 (bodyOf Tryz.f220) ρ [one (.ptr 0 0)] (rdH xs p) cont =
    if rdOkB xs p = true then (bif (onceF xs p 3).1 then (if rdOkB xs (onceF xs p 3).2 = true then cont (gridF xs (onceF xs p 3).2 5).1.sv (rdH xs (gridF xs (onceF xs p 3).2 5).2) else none) else
      (if rdOkB xs (onceF xs p 3).2 = true then (bif (onceF xs (onceF xs p 3).2 4).1 then (if rdOkB xs (onceF xs (onceF xs p 3).2 4).2 = true then (if rdOkB xs (anyF xs (onceF xs (onceF xs p 3).2 4).2).2 = true then
        cont (W4.sv ⟨(anyF xs (onceF xs (onceF xs p 3).2 4).2).1.1, (anyF xs (onceF xs (onceF xs p 3).2 4).2).1.2, (anyF xs (anyF xs (onceF xs (onceF xs p 3).2 4).2).2).1.1, (anyF xs (anyF xs (onceF xs (onceF xs p 3).2 4).2).2).1.2⟩) (rdH xs (anyF xs (anyF xs (onceF xs (onceF xs p 3).2 4).2).2).2) else none) else none)
        else (if rdOkB xs (onceF xs (onceF xs p 3).2 4).2 = true then cont (drawVF xs (onceF xs (onceF xs p 3).2 4).2).1.sv (rdH xs (drawVF xs (onceF xs (onceF xs p 3).2 4).2).2) else none)) else none)) else none := by kernel_rfl
theorem anyV_ok : ∃ f : List Int -> Int -> W4 × Int, OrcOK NN Tryz.prog 220 (rO W4.sv f) /\ ∀ xs p, rdOkB xs p = true -> rdOkB xs (f xs p).2 = true :=
  rO_ends (cR_ok (A := Ash) (fuel := 20) dB_ok rfl Tryz.func220 (by kernel_rfl)) W4.sv fun xs p h =>
    have h1 := onceP (n := 3) h
    have h2 := onceP (n := 4) h1
    Ends.eq (Ends.ite h (Ends.bif (Ends.ite h1 (Ends.fin _ (gridP h1))) (Ends.ite h1 (Ends.bif (Ends.ite h2 (Ends.ite (anyP h2) (Ends.fin _ (anyP (anyP h2))))) (Ends.ite h2 (Ends.fin _ (drawVP h2))))))) fun ρ cont => drw220 cont xs p
noncomputable def anyVF := anyV_ok.choose
theorem orc_anyV : OrcOK NN Tryz.prog 220 (rO W4.sv anyVF) := anyV_ok.choose_spec.1
theorem anyVP {xs : List Int} {p : Int} (h : rdOkB xs p = true) : rdOkB xs (anyVF xs p).2 = true := anyV_ok.choose_spec.2 xs p h
end Go.Abs
namespace Go.Abs
open Go.Proofs
set_option maxRecDepth 100000
noncomputable def saE : Env := VL tryT [] [(13, qOkO), (113, qO 1), (207, lat2 (fun p q => szQ p && szQ q) fun p q => nm 1 (p + q)), (122, lat1 szQ tupQ)]
theorem saE_ok : EnvOK NN Tryz.prog saE := VL_ok (TabOk.of tryT_ok) (gamC (orc64 NN) Tryz.call13 (gamC orc65 Tryz.call113 (gamC orc70 Tryz.call207 (gamC orc30 Tryz.call122 (gamN _ _)))))
theorem szQ_addq {a b c d : Int} (h1 : qOkB a b = true) (h2 : qOkB c d = true) : szQ (Rat.divInt a b + Rat.divInt c d) = true := ((s8_ok (s8_q h1)).add (s8_ok (s8_q h2))).qq (by omega)
theorem gq151 {ρ : Type} (cont : SV -> HL -> Option ρ) (a b c d : Int) : runF saE Ash 20 Tryz.f151 (bodyOf Tryz.f151) ρ [sQ a b, sQ c d] [] cont =
    bif !qOkB a b then cont (tupB 0 0 false) [] else bif bif false then true else !qOkB c d then cont (tupB 0 0 false) [] else
    if qOkB a b = true then (if qOkB c d = true then (if (szQ (Rat.divInt a b) && szQ (Rat.divInt c d)) = true then (if szQ (Rat.divInt a b + Rat.divInt c d) = true then
      cont (tupQ (Rat.divInt a b + Rat.divInt c d)) [] else none) else none) else none) else none := by kernel_rfl
theorem orc_sadd : OrcOK NN Tryz.prog 151 (opO ok2 pls) :=
  OrcOK.of_tale (cR_ok (A := Ash) (fuel := 20) saE_ok rfl Tryz.func151 (by kernel_rfl)) fun ρ args H cont r hr => by
    unfold opO at hr
    split at hr
    · rename_i a b c d
      refine (gq151 cont a b c d).trans ?_
      unfold opN opD opT ok2 at hr
      cases h1 : qOkB a b
      · rw [h1] at hr; exact hr
      · cases h2 : qOkB c d
        · rw [h1, h2] at hr; exact hr
        · rw [h1, h2] at hr
          rw [szQ_q h1, szQ_q h2, szQ_addq h1 h2]
          exact hr
    · contradiction
noncomputable def mvE2 : Env := VL tryT [] [(151, opO ok2 pls)]
theorem mvE2_ok : EnvOK NN Tryz.prog mvE2 := VL_ok (TabOk.of tryT_ok) (gamC orc_sadd Tryz.call151 (gamN _ _))
theorem mov_ex (v : W4) (n : Int) : ∃ w : W4, ∀ ρ (cont : SV -> HL -> Option ρ), runF mvE2 Ash 20 Tryz.f219 (bodyOf Tryz.f219) ρ [v.sv, one (.int .i64 n)] [] cont = cont w.sv [] := by
  have e : ∀ ρ (cont : SV -> HL -> Option ρ), runF mvE2 Ash 20 Tryz.f219 (bodyOf Tryz.f219) ρ [v.sv, one (.int .i64 n)] [] cont = bif !opT ok2 pls v.a v.b n 1 then cont v.sv [] else cont (W4.sv ⟨opN ok2 pls v.a v.b n 1, opD ok2 pls v.a v.b n 1, v.c, v.d⟩) [] := fun ρ cont => by kernel_rfl
  cases h : opT ok2 pls v.a v.b n 1
  · exact ⟨v, fun ρ cont => (e ρ cont).trans (by rw [h]; rfl)⟩
  · exact ⟨⟨opN ok2 pls v.a v.b n 1, opD ok2 pls v.a v.b n 1, v.c, v.d⟩, fun ρ cont => (e ρ cont).trans (by rw [h]; rfl)⟩
noncomputable def movF (v : W4) (n : Int) : W4 := (mov_ex v n).choose
noncomputable def movO : Orc := fun ρ args H cont => match args, H with
  | [.v true [.int .i64 a, .int .i64 b, .int .i64 c, .int .i64 d], .v false [.int .i64 n]], [] => cont (movF ⟨a, b, c, d⟩ n).sv []
  | _, _ => none
theorem orc_mov : OrcOK NN Tryz.prog 219 movO :=
  OrcOK.of_tale (cR_ok (A := Ash) (fuel := 20) mvE2_ok rfl Tryz.func219 (by kernel_rfl)) fun ρ args H cont r hr => by
    unfold movO at hr
    split at hr
    · rename_i a b c d n
      exact ((mov_ex ⟨a, b, c, d⟩ n).choose_spec ρ cont).trans hr
    · contradiction
noncomputable def dC : Env := VL tryT [] [(78, nO shB onceF), (218, nO W4.sv gridF), (219, movO), (220, rO W4.sv anyVF)]
theorem dC_ok : EnvOK NN Tryz.prog dC := VL_ok (TabOk.of tryT_ok) (gamC orc_once Tryz.call78 (gamC orc_grid Tryz.call218 (gamC orc_mov Tryz.call219 (gamC orc_anyV Tryz.call220 (gamN _ _)))))
def mk8 (v w : W4) : S8 := ⟨v.a, v.b, v.c, v.d, w.a, w.b, w.c, w.d⟩
def W4.ne (v w : W4) : Bool := !(v.a == w.a && (v.b == w.b && (v.c == w.c && v.d == w.d)))
section
variable {ρ : Type} (cont : SV -> HL -> Option ρ) (xs : List Int)
noncomputable def segX (v w : W4) (p : Int) : Option ρ := bif v.ne w then cont (mk8 v w).sv (rdH xs p) else (if rdOkB xs p = true then (bif bif false then true else (onceF xs p 10).1 then cont (mk8 v w).sv (rdH xs (onceF xs p 10).2) else cont (mk8 v (movF v 1)).sv (rdH xs (onceF xs p 10).2)) else none)
theorem drw124 (p : Int) : runF dC Ash 20 Tryz.f124 (bodyOf Tryz.f124) ρ [one (.ptr 0 0)] (rdH xs p) cont =
    if rdOkB xs p = true then (bif (onceF xs p 2).1 then (if rdOkB xs (onceF xs p 2).2 = true then (if rdOkB xs (gridF xs (onceF xs p 2).2 6).2 = true then
        segX cont xs (gridF xs (onceF xs p 2).2 6).1 (gridF xs (gridF xs (onceF xs p 2).2 6).2 6).1 (gridF xs (gridF xs (onceF xs p 2).2 6).2 6).2 else none) else none)
      else (if rdOkB xs (onceF xs p 2).2 = true then (if rdOkB xs (anyVF xs (onceF xs p 2).2).2 = true then cont (mk8 (anyVF xs (onceF xs p 2).2).1 (anyVF xs (anyVF xs (onceF xs p 2).2).2).1).sv (rdH xs (anyVF xs (anyVF xs (onceF xs p 2).2).2).2) else none) else none)) else none := by kernel_rfl
end
theorem segX_ends {xs : List Int} {p : Int} (v w : W4) (h : rdOkB xs p = true) : Ends xs S8.sv fun ρ cont => segX cont xs v w p :=
  Ends.bif (Ends.fin _ h) (Ends.ite h (Ends.bif (Ends.fin _ (onceP h)) (Ends.fin _ (onceP h))))
theorem seg_ok : ∃ f : List Int -> Int -> S8 × Int, OrcOK NN Tryz.prog 124 (rO S8.sv f) /\ ∀ xs p, rdOkB xs p = true -> rdOkB xs (f xs p).2 = true :=
  rO_ends (cR_ok (A := Ash) (fuel := 20) dC_ok rfl Tryz.func124 (by kernel_rfl)) S8.sv fun xs p h =>
    have h1 := onceP (n := 2) h
    have g1 := gridP (n := 6) h1
    Ends.eq (Ends.ite h (Ends.bif (Ends.ite h1 (Ends.ite g1 (segX_ends _ _ (gridP g1)))) (Ends.ite h1 (Ends.ite (anyVP h1) (Ends.fin _ (anyVP (anyVP h1))))))) fun ρ cont => drw124 cont xs p
noncomputable def segF := seg_ok.choose
theorem orc_seg : OrcOK NN Tryz.prog 124 (rO S8.sv segF) := seg_ok.choose_spec.1
theorem segP {xs : List Int} {p : Int} (h : rdOkB xs p = true) : rdOkB xs (segF xs p).2 = true := seg_ok.choose_spec.2 xs p h
end Go.Abs
namespace Go.Abs
open Go.Proofs
set_option maxRecDepth 100000
def rfO : Orc := fun ρ args H cont => match args, H with
  | [.v false [.int .i64 n], .v false [.int .i64 d]], [] => if (-2147483648 < n /\ n < 2147483648) /\ 0 < d /\ d < 2147483648 then cont (nm 1 (Rat.divInt n d)) [] else none
  | _, _ => none
theorem orc_rf : OrcOK NN Tryz.prog 129 rfO :=
  OrcOK.cv (orc123 NN) fun args H cont r h => by
    unfold rfO at h
    split at h
    · rename_i n d
      split at h
      · rename_i hc
        exact ⟨_, lS n d, Cv.num (isL_S hc.1 hc.2), rfl, h, fun ρ' cont' => by
          unfold rOfO
          show (if _ then _ else _) = _
          rw [if_pos ⟨⟨by omega, by omega⟩, by omega, by omega⟩, if_pos ⟨hc.1, hc.2.2⟩]⟩
      · contradiction
    · contradiction
noncomputable def atE : Env := VL tryT [] [(145, pt2 1 fun a b c d => pS 1 (a - c) (b - d)), (222, pt1 1 fun a b c => pS 1 (a * c) (b * c)), (221, pt2 1 fun a b c d => pS 1 (a + c) (b + d))]
theorem atE_ok : EnvOK NN Tryz.prog atE := VL_ok (TabOk.of tryT_ok) (gamC orc66 Tryz.call145 (gamC orc129 Tryz.call222 (gamC orc128 Tryz.call221 (gamN _ _))))
def atP (a b : Pl) (t : Rat) : Pl := adP a (tmP (sbP b a) t)
def atO : Orc := fun ρ args H cont => match args, H with
  | [.v true [.num 1 (some a), .num 1 (some b)], .v true [.num 1 (some c), .num 1 (some d)], .v true [.num 1 (some t)]], [] => if (s8P ⟨a, b⟩ = true /\ s8P ⟨c, d⟩ = true) /\ s8 t = true then cont (pS 1 (atP ⟨a, b⟩ ⟨c, d⟩ t).x (atP ⟨a, b⟩ ⟨c, d⟩ t).y) [] else none
  | _, _ => none
theorem gq127 {ρ : Type} (cont : SV -> HL -> Option ρ) (a b : Pl) (t : Rat) : runF atE Ash 20 Tryz.f127 (bodyOf Tryz.f127) ρ [pS 1 a.x a.y, pS 1 b.x b.y, nm 1 t] [] cont =
    if n4 b a then (if (1 = 1 /\ 1 = 1 /\ 1 = 1) /\ szM (sbP b a).x = true /\ szM (sbP b a).y = true /\ szM t = true then (if n4 a (tmP (sbP b a) t) then cont (pS 1 (atP a b t).x (atP a b t).y) [] else none) else none) else none := by kernel_rfl
theorem at_sz {a b : Pl} {t : Rat} (ha : szP 8 a) (hb : szP 8 b) (ht : szN 8 t) : szP 32 (tmP (sbP b a) t) /\ szP 64 (atP a b t) := by
  have u := hb.sub ha
  have t16 : szN 16 t := ht.mono (by omega)
  have k : szP 32 (tmP (sbP b a) t) := ⟨u.1.mul t16, u.2.mul t16⟩
  have k1 : szN 32 a.x := ha.1.mono (by omega)
  have k2 : szN 32 a.y := ha.2.mono (by omega)
  exact ⟨k, k1.add k.1, k2.add k.2⟩
theorem orc_at : OrcOK NN Tryz.prog 127 atO :=
  OrcOK.of_tale (cR_ok (A := Ash) (fuel := 20) atE_ok rfl Tryz.func127 (by kernel_rfl)) fun ρ args H cont r hr => by
    unfold atO at hr
    split at hr
    · rename_i a b c d t
      split at hr
      · rename_i hc
        obtain ⟨⟨h1, h2⟩, h3⟩ := hc
        have h1 := s8P_ok h1
        have h2 := s8P_ok h2
        have h3 := s8_ok h3
        have u := h2.sub h1
        refine (gq127 cont ⟨a, b⟩ ⟨c, d⟩ t).trans ?_
        have h1' : szP 32 (⟨a, b⟩ : Pl) := ⟨h1.1.mono (by omega), h1.2.mono (by omega)⟩
        rw [if_pos (n4_ok h2 h1 (by omega)), if_pos ⟨⟨rfl, rfl, rfl⟩, u.1.mm (by omega), u.2.mm (by omega), h3.mm (by omega)⟩, if_pos (n4_ok h1' (at_sz h1 h2 h3).1 (by omega))]
        exact hr
      · contradiction
    · contradiction
def S8.ats (s : S8) : List Atom := [.int .i64 s.a, .int .i64 s.b, .int .i64 s.c, .int .i64 s.d, .int .i64 s.e, .int .i64 s.f, .int .i64 s.g, .int .i64 s.h]
def bO {α : Type} (sh : α -> SV) (f : List Int -> α) : Orc := fun ρ args H cont => match args, H with
  | [.v false [.sl none (.int .u8) xs]], [] => if rdOkB xs 0 = true then cont (sh (f xs)) [] else none
  | _, _ => none
def End0 {α : Type} (sh : α -> SV) (X : ∀ ρ, (SV -> HL -> Option ρ) -> Option ρ) : Prop := ∃ a, ∀ ρ cont, X ρ cont = cont (sh a) []
section
variable {α : Type} {sh : α -> SV} {X Y : ∀ ρ, (SV -> HL -> Option ρ) -> Option ρ}
theorem End0.bif {b : Bool} (h1 : End0 sh X) (h2 : End0 sh Y) : End0 sh fun ρ cont => bif b then X ρ cont else Y ρ cont := by
  cases b
  · exact h2
  · exact h1
theorem End0.bifc {b : Bool} (h1 : b = true -> End0 sh X) (h2 : End0 sh Y) : End0 sh fun ρ cont => bif b then X ρ cont else Y ρ cont := by
  cases b
  · exact h2
  · exact h1 rfl
theorem End0.ite {c : Prop} [Decidable c] (hc : c) (h1 : End0 sh X) : End0 sh fun ρ cont => if c then X ρ cont else Y ρ cont := by
  obtain ⟨a, h4⟩ := h1
  exact ⟨a, fun ρ cont => (if_pos hc).trans (h4 ρ cont)⟩
theorem End0.fin (a : α) : End0 sh fun ρ cont => cont (sh a) [] := ⟨a, fun _ _ => rfl⟩
theorem End0.eq (h : End0 sh Y) (e : ∀ ρ cont, X ρ cont = Y ρ cont) : End0 sh X := by
  obtain ⟨a, h4⟩ := h
  exact ⟨a, fun ρ cont => (e ρ cont).trans (h4 ρ cont)⟩
end
theorem bO_ok {α : Type} [Inhabited α] {n : Nat} {F : Orc} (hF : OrcOK NN Tryz.prog n F) (sh : α -> SV) (h : ∀ xs, rdOkB xs 0 = true -> End0 sh fun ρ cont => F ρ [one (.sl none (.int .u8) xs)] [] cont) : ∃ f, OrcOK NN Tryz.prog n (bO sh f) := by
  classical
  have h' : ∀ xs, ∃ a : α, rdOkB xs 0 = true -> ∀ ρ (cont : SV -> HL -> Option ρ), F ρ [one (.sl none (.int .u8) xs)] [] cont = cont (sh a) [] := fun xs => by
    by_cases hc : rdOkB xs 0 = true
    · obtain ⟨t, ht⟩ := h xs hc; exact ⟨t, fun _ => ht⟩
    · exact ⟨default, fun h => absurd h hc⟩
  refine ⟨fun xs => (h' xs).choose, OrcOK.of_tale hF fun ρ args H cont r hr => ?_⟩
  unfold bO at hr
  split at hr
  · rename_i xs
    split at hr
    · rename_i hc
      exact ((h' xs).choose_spec hc ρ cont).trans hr
    · contradiction
  · contradiction
structure D2 where
  s : S8
  t : S8
instance : Inhabited D2 := ⟨⟨default, default⟩⟩
def D2.sv (d : D2) : SV := .tup [(true, d.s.ats), (true, d.t.ats)]
def wOf (p : Pl) : W4 := ⟨vI p.x p.y (qNum p.x), vI p.x p.y (qDen p.x), vI p.x p.y (qNum p.y), vI p.x p.y (qDen p.y)⟩
section
variable {ρ : Type} (cont : SV -> HL -> Option ρ) (xs : List Int)
noncomputable def tOf (p : Int) : Rat := Rat.divInt (IntKind.i64.wrap ((belowF xs p 9).1 - 2)) 4
noncomputable def gdX (s : S8) (p : Int) (K : Pl -> Option ρ) : Option ρ :=
  if okV s.a s.b s.c s.d then (if okV s.e s.f s.g s.h then (if rdOkB xs p = true then (if (-2147483648 < IntKind.i64.wrap ((belowF xs p 9).1 - 2) /\ IntKind.i64.wrap ((belowF xs p 9).1 - 2) < 2147483648) /\ (0 : Int) < 4 /\ (4 : Int) < 2147483648 then
    (if (s8P s.p = true /\ s8P s.q = true) /\ s8 (tOf xs p) = true then (if (1 = 1 /\ 1 = 1) /\ szQ (atP s.p s.q (tOf xs p)).x = true /\ szQ (atP s.p s.q (tOf xs p)).y = true then K (atP s.p s.q (tOf xs p)) else none) else none) else none) else none) else none) else none
end
theorem tOf_s8 {xs : List Int} {p : Int} (h : rdOkB xs p = true) : (-2147483648 < IntKind.i64.wrap ((belowF xs p 9).1 - 2) /\ IntKind.i64.wrap ((belowF xs p 9).1 - 2) < 2147483648) /\ s8 (tOf xs p) = true := by
  have := belowR h (n := 9) (by decide)
  have e : IntKind.i64.wrap ((belowF xs p 9).1 - 2) = (belowF xs p 9).1 - 2 := by rw [IntKind.wrap_i64]; omega
  unfold tOf
  rw [e]
  refine ⟨by omega, ?_⟩
  have hl := divInt_le (n := (belowF xs p 9).1 - 2) (d := 4) (by decide)
  have w1 := words_small (n := (Rat.divInt ((belowF xs p 9).1 - 2) 4).num.natAbs) (by omega)
  have w2 := words_small (n := (Rat.divInt ((belowF xs p 9).1 - 2) 4).den) (by omega)
  unfold s8
  rw [decide_eq_true (by omega), decide_eq_true (by omega)]; rfl
theorem gdX_end {α : Type} {sh : α -> SV} {xs : List Int} {s : S8} {p : Int} {X : ∀ ρ, (SV -> HL -> Option ρ) -> Pl -> Option ρ} (hs : s.ok = true) (hp : rdOkB xs p = true) (h : ∀ a, End0 sh fun ρ cont => X ρ cont a) : End0 sh fun ρ cont => gdX xs s p (X ρ cont) := by
  obtain ⟨t1, t2⟩ := tOf_s8 hp
  obtain ⟨o1, _⟩ := okQ_of hs
  obtain ⟨z1, z2⟩ := okQ_sz o1
  obtain ⟨_, k⟩ := at_sz (s8P_ok z1) (s8P_ok z2) (s8_ok t2)
  exact End0.ite o1.1 (End0.ite o1.2 (End0.ite hp (End0.ite ⟨t1, by decide, by decide⟩ (End0.ite ⟨⟨z1, z2⟩, t2⟩ (End0.ite ⟨⟨rfl, rfl⟩, k.1.qq (by omega), k.2.qq (by omega)⟩ (h _))))))
end Go.Abs
namespace Go.Abs
open Go.Proofs
set_option maxRecDepth 100000
def onS (v : W4) (s : S8) : Bool := onB v.a v.b v.c v.d s.a s.b s.c s.d s.e s.f s.g s.h
def cmW (v w : W4) : Int := cmvV v.a v.b v.c v.d w.a w.b w.c w.d
def M9.A (m : M9) : W4 := ⟨m.a, m.b, m.c, m.d⟩
def M9.B (m : M9) : W4 := ⟨m.e, m.f, m.g, m.h⟩
def S8.P (s : S8) : W4 := ⟨s.a, s.b, s.c, s.d⟩
def S8.Q (s : S8) : W4 := ⟨s.e, s.f, s.g, s.h⟩
def W4.ats (v : W4) : List Atom := [.int .i64 v.a, .int .i64 v.b, .int .i64 v.c, .int .i64 v.d]
section
variable {ρ : Type} (K : Exit -> St -> Option ρ) (go : St -> Option ρ) (f : List Int -> D2) (s t : S8) (k : Int) (a b x y z w : W4)
def good8 (v : W4) : Prop := onS v s = true -> onS v t = true -> k ≠ 0 /\ ¬ cmW v a < 0 /\ ¬ 0 < cmW v b
instance (v : W4) : Decidable (good8 s t k a b v) := by unfold good8; infer_instance
end
section
variable {ρ : Type} (K : Bool -> Option ρ) (s t : S8) (m n : M9)
end
end Go.Abs
namespace Go.Abs
open Go.Proofs
set_option maxRecDepth 100000
def W4.pl (v : W4) : Pl := plV v.a v.b v.c v.d
def W4.ok (v : W4) : Bool := vOkB v.a v.b v.c v.d
theorem onS_iff {v : W4} {s : S8} : onS v s = true ↔ v.ok = true /\ s.ok = true /\ onP v.pl s.p s.q := by
  unfold onS onB W4.ok S8.ok
  cases h1 : vOkB v.a v.b v.c v.d
  · exact ⟨fun h => (by cases h), fun h => (by cases h.1)⟩
  · cases h2 : segB s.a s.b s.c s.d s.e s.f s.g s.h
    · exact ⟨fun h => (by cases h), fun h => (by cases h.2.1)⟩
    · exact ⟨fun h => ⟨rfl, rfl, of_decide_eq_true h⟩, fun h => decide_eq_true h.2.2⟩
theorem fit_pl {p : Pl} (h : fitP p = true) : (⟨qNum p.x, qDen p.x, qNum p.y, qDen p.y⟩ : W4).ok = true /\ (⟨qNum p.x, qDen p.x, qNum p.y, qDen p.y⟩ : W4).pl = p := by
  unfold fitP vFit at h
  cases h1 : qFit p.x
  · rw [h1] at h; contradiction
  · rw [h1] at h
    obtain ⟨a1, a2⟩ := fit_ok h1
    obtain ⟨b1, b2⟩ := fit_ok (show qFit p.y = true from h)
    refine ⟨?_, Pl.ext' a2 b2⟩
    unfold W4.ok vOkB
    show (bif qOkB (qNum p.x) (qDen p.x) then qOkB (qNum p.y) (qDen p.y) else false) = true
    rw [a1, b1]; rfl
end Go.Abs
namespace Go.Abs
def dtP (a b : Pl) : Rat := a.x * b.x + a.y * b.y
def ftP (p a b : Pl) : Rat := dtP (sbP p a) (sbP b a) / dtP (sbP b a) (sbP b a)
def wayP (a b : Pl) (t : Rat) : Pl := adP a (tmP (sbP b a) t)
def nrP (p a b : Pl) : Pl := if ftP p a b <= 0 then a else if 1 <= ftP p a b then b else wayP a b (ftP p a b)
def dsP (a b : Pl) : Rat := dtP (sbP a b) (sbP a b)
theorem sq_nn (x : Rat) : 0 <= x * x := by
  rcases (show 0 <= x \/ 0 <= -x by grind) with h | h
  · exact Rat.mul_nonneg h h
  · have := Rat.mul_nonneg h h
    grind
theorem dt_pos {a b : Pl} (hab : a ≠ b) : 0 < dtP (sbP b a) (sbP b a) := by
  unfold dtP sbP
  simp only
  have k1 := sq_nn (b.x - a.x)
  have k2 := sq_nn (b.y - a.y)
  have k3 : (b.x - a.x) * (b.x - a.x) + (b.y - a.y) * (b.y - a.y) ≠ 0 := fun h => by
    have h1 : (b.x - a.x) * (b.x - a.x) = 0 := by grind
    have h2 : (b.y - a.y) * (b.y - a.y) = 0 := by grind
    have h3 : b.x - a.x = 0 := by rcases Rat.mul_eq_zero.1 h1 with h | h <;> exact h
    have h4 : b.y - a.y = 0 := by rcases Rat.mul_eq_zero.1 h2 with h | h <;> exact h
    exact hab (Pl.ext' (by grind) (by grind))
  grind
theorem ft_mul {p a b : Pl} (hab : a ≠ b) : ftP p a b * dtP (sbP b a) (sbP b a) = dtP (sbP p a) (sbP b a) := by
  have := dt_pos hab
  unfold ftP
  exact Rat.div_mul_cancel (by grind)
theorem way_0 (a b : Pl) : wayP a b 0 = a := Pl.ext' (show a.x + (b.x - a.x) * 0 = a.x by grind) (show a.y + (b.y - a.y) * 0 = a.y by grind)
theorem way_1 (a b : Pl) : wayP a b 1 = b := Pl.ext' (show a.x + (b.x - a.x) * 1 = b.x by grind) (show a.y + (b.y - a.y) * 1 = b.y by grind)
theorem way_on {a b : Pl} (hab : a ≠ b) {t : Rat} (h0 : 0 <= t) (h1 : t <= 1) : onP (wayP a b t) a b := (on_par hab).2 ⟨t, h0, h1, rfl, rfl⟩
theorem nr_way (p a b : Pl) : ∃ t : Rat, 0 <= t /\ t <= 1 /\ nrP p a b = wayP a b t /\ ((t = 0 /\ ftP p a b <= 0) \/ (t = 1 /\ 1 <= ftP p a b) \/ t = ftP p a b) := by
  unfold nrP
  by_cases h : ftP p a b <= 0
  · exact ⟨0, by grind, by grind, by rw [if_pos h, way_0], .inl ⟨rfl, h⟩⟩
  · by_cases h' : 1 <= ftP p a b
    · exact ⟨1, by grind, by grind, by rw [if_neg h, if_pos h', way_1], .inr (.inl ⟨rfl, h'⟩)⟩
    · exact ⟨ftP p a b, by grind, by grind, by rw [if_neg h, if_neg h'], .inr (.inr rfl)⟩
theorem nr_on {p a b : Pl} (hab : a ≠ b) : onP (nrP p a b) a b := by
  obtain ⟨t, h0, h1, e, _⟩ := nr_way p a b
  rw [e]; exact way_on hab h0 h1
theorem ds_way (p a b : Pl) (t : Rat) : dsP p (wayP a b t) = dsP p a - t * 2 * dtP (sbP p a) (sbP b a) + t * t * dtP (sbP b a) (sbP b a) := by
  unfold dsP dtP sbP wayP adP tmP sbP
  simp only
  grind
theorem nr_min {p a b : Pl} (hab : a ≠ b) : dsP p (nrP p a b) <= dsP p a /\ dsP p (nrP p a b) <= dsP p b := by
  have hD := dt_pos hab
  have hf := ft_mul (p := p) hab
  obtain ⟨t, h0, h1, e, hc⟩ := nr_way p a b
  have e1 : dsP p b = dsP p (wayP a b 1) := by rw [way_1]
  rw [e, e1, ds_way, ds_way, <- hf]
  generalize dtP (sbP b a) (sbP b a) = D at *
  generalize ftP p a b = f at *
  generalize dsP p a = A at *
  have m : ∀ x : Rat, 0 <= x -> 0 <= x * D := fun x hx => Rat.mul_nonneg hx (by grind)
  rcases hc with ⟨rfl, hc⟩ | ⟨rfl, hc⟩ | rfl
  · have := m (1 - 2 * f) (by grind)
    constructor <;> grind
  · have := m (2 * f - 1) (by grind)
    constructor <;> grind
  · have k1 := m (t * t) (sq_nn t)
    have k2 := m ((1 - t) * (1 - t)) (sq_nn _)
    constructor <;> grind
theorem foot_up {p a b : Pl} (hab : a ≠ b) : dtP (sbP (wayP a b (ftP p a b)) p) (sbP b a) = 0 := by
  have hf := ft_mul (p := p) hab
  have : dtP (sbP (wayP a b (ftP p a b)) p) (sbP b a) = ftP p a b * dtP (sbP b a) (sbP b a) - dtP (sbP p a) (sbP b a) := by
    generalize ftP p a b = f
    unfold dtP sbP wayP adP tmP sbP
    simp only
    grind
  rw [this, hf]; grind
theorem foot_line (p a b : Pl) : crP (sbP b a) (sbP (wayP a b (ftP p a b)) a) = 0 := by
  generalize ftP p a b = f
  unfold crP sbP wayP adP tmP sbP
  simp only
  grind
end Go.Abs
namespace Go.Abs
open Go.Proofs
set_option maxRecDepth 100000
theorem nr_ex (p a b : Pl) : ∃ x : Pl, x = nrP p a b := ⟨_, rfl⟩
noncomputable def nrX (p a b : Pl) : Pl := (nr_ex p a b).choose
theorem nrX_eq (p a b : Pl) : nrX p a b = nrP p a b := (nr_ex p a b).choose_spec
abbrev g3 (p a b : Pl) : Prop := (s8P p = true /\ s8P a = true) /\ s8P b = true /\ a ≠ b
theorem szP.dt {B : Nat} {p q : Pl} (hp : szP B p) (hq : szP B q) : szN (2 * (2 * B)) (dtP p q) := (hp.1.mul hq.1).add (hp.2.mul hq.2)
theorem ft_sz {p a b : Pl} (h : g3 p a b) : szN 128 (ftP p a b) := by
  obtain ⟨⟨h1, h2⟩, h3, h4⟩ := h
  have h1 := s8P_ok h1
  have h2 := s8P_ok h2
  have h3 := s8P_ok h3
  have u := h3.sub h2
  have w := h1.sub h2
  have := dt_pos h4
  exact (w.dt u).div (u.dt u) (by grind)
theorem way_sz {a b : Pl} {t : Rat} (h1 : szP 8 a) (h2 : szP 8 b) (ht : szN 128 t) : szP 256 (tmP (sbP b a) t) /\ szP 512 (wayP a b t) := by
  have u := h2.sub h1
  have k1 : szN 128 (sbP b a).x := u.1.mono (by omega)
  have k2 : szN 128 (sbP b a).y := u.2.mono (by omega)
  have k : szP 256 (tmP (sbP b a) t) := ⟨k1.mul ht, k2.mul ht⟩
  have a1 : szN 256 a.x := h1.1.mono (by omega)
  have a2 : szN 256 a.y := h1.2.mono (by omega)
  exact ⟨k, a1.add k.1, a2.add k.2⟩
theorem nr_sz {p a b : Pl} (h : g3 p a b) : szP 512 (nrP p a b) := by
  have h1 := s8P_ok h.1.2
  have h2 := s8P_ok h.2.1
  unfold nrP
  split
  · exact ⟨h1.1.mono (by omega), h1.2.mono (by omega)⟩
  · split
    · exact ⟨h2.1.mono (by omega), h2.2.mono (by omega)⟩
    · exact (way_sz h1 h2 (ft_sz h)).2
def ftO0 : Orc := fun ρ args H cont => match args, H with
  | [.v true [.num 0 (some a), .num 0 (some b), .num 0 (some c), .num 0 (some d)], .v true [.num 0 (some x), .num 0 (some y)]], [] => if g3 ⟨x, y⟩ ⟨a, b⟩ ⟨c, d⟩ then cont (nm 0 (ftP ⟨x, y⟩ ⟨a, b⟩ ⟨c, d⟩)) [] else none
  | _, _ => none
noncomputable def nrO0 : Orc := fun ρ args H cont => match args, H with
  | [.v true [.num 0 (some a), .num 0 (some b), .num 0 (some c), .num 0 (some d)], .v true [.num 0 (some x), .num 0 (some y)]], [] => if g3 ⟨x, y⟩ ⟨a, b⟩ ⟨c, d⟩ then cont (pS 0 (nrX ⟨x, y⟩ ⟨a, b⟩ ⟨c, d⟩).x (nrX ⟨x, y⟩ ⟨a, b⟩ ⟨c, d⟩).y) [] else none
  | _, _ => none
noncomputable def fA : Env := VL tryT [] [(148, cR mA Ash 20 Tryz.f148), (226, pt2 0 fun a b c d => pS 0 (a - c) (b - d)), (233, pt2 0 fun a b c d => nm 0 (a * c + b * d)), (74, rat2 (fun p q => szQ p && szQ q && decide (q ≠ 0)) fun p q => nm 0 (p / q))]
theorem fA_ok : EnvOK NN Tryz.prog fA := VL_ok (TabOk.of tryT_ok) (gamC (cR_ok mA_ok rfl Tryz.func148 (by kernel_rfl)) Tryz.call148 (gamC orc36 Tryz.call226 (gamC orc87 Tryz.call233 (gamC orc90 Tryz.call74 (gamN _ _)))))
theorem gq150 {ρ : Type} (cont : SV -> HL -> Option ρ) (p a b : Pl) : runF fA Ash 20 Tryz.f150 (bodyOf Tryz.f150) ρ [seS 0 a.x a.y b.x b.y, pS 0 p.x p.y] [] cont =
    if m4 b a then (if m4 p a then (if m4 (sbP p a) (sbP b a) then (if m4 (sbP b a) (sbP b a) then (if (szQ (dtP (sbP p a) (sbP b a)) && szQ (dtP (sbP b a) (sbP b a)) && decide (dtP (sbP b a) (sbP b a) ≠ 0)) = true then cont (nm 0 (ftP p a b)) [] else none) else none) else none) else none) else none := by kernel_rfl
theorem orc_ftI : OrcOK NN Tryz.prog 150 ftO0 :=
  OrcOK.of_tale (cR_ok (A := Ash) (fuel := 20) fA_ok rfl Tryz.func150 (by kernel_rfl)) fun ρ args H cont r hr => by
    unfold ftO0 at hr
    split at hr
    · rename_i a b c d x y
      split at hr
      · rename_i hc
        refine (gq150 cont ⟨x, y⟩ ⟨a, b⟩ ⟨c, d⟩).trans ?_
        obtain ⟨⟨h1, h2⟩, h3, h4⟩ := hc
        have h1 := s8P_ok h1
        have h2 := s8P_ok h2
        have h3 := s8P_ok h3
        have u := h3.sub h2
        have w := h1.sub h2
        have hp := dt_pos h4
        rw [if_pos (m4_ok h3 h2 (by omega)), if_pos (m4_ok h1 h2 (by omega)), if_pos (m4_ok w u (by omega)), if_pos (m4_ok u u (by omega)), if_pos (both (both ((w.dt u).qq (by omega)) ((u.dt u).qq (by omega))) (decide_eq_true (by grind)))]
        exact hr
      · contradiction
    · contradiction
noncomputable def fB : Env := VL tryT [] [(150, ftO0), (165, rat1 szQ fun q => one (.int .i64 (Int.sign q.num))), (80, intO 0), (69, rat2 (fun p q => szQ p && szQ q) fun p q => one (.int .i64 (cmpQ p q))), (148, cR mA Ash 20 Tryz.f148), (149, pt1 0 fun a b c => pS 0 (a * c) (b * c)), (147, pt2 0 fun a b c d => pS 0 (a + c) (b + d))]
theorem fB_ok : EnvOK NN Tryz.prog fB := VL_ok (TabOk.of tryT_ok) (gamC orc_ftI Tryz.call150 (gamC orc88 Tryz.call165 (gamC orc57 Tryz.call80 (gamC orc58 Tryz.call69 (gamC (cR_ok mA_ok rfl Tryz.func148 (by kernel_rfl)) Tryz.call148 (gamC orc85 Tryz.call149 (gamC orc89 Tryz.call147 (gamN _ _))))))))
abbrev gw (k : Nat) (a b : Pl) (t : Rat) : Prop := (k = k /\ k = k /\ k = k) /\ szM (sbP b a).x = true /\ szM (sbP b a).y = true /\ szM t = true
def wayC {ρ : Type} (cont : SV -> HL -> Option ρ) (a b : Pl) (t : Rat) : Option ρ := if m4 b a then (if gw 0 a b t then (if m4 a (tmP (sbP b a) t) then cont (pS 0 (wayP a b t).x (wayP a b t).y) [] else none) else none) else none
theorem wayC_eq {ρ : Type} (cont : SV -> HL -> Option ρ) {a b : Pl} {t : Rat} (h1 : szP 8 a) (h2 : szP 8 b) (ht : szN 128 t) : wayC cont a b t = cont (pS 0 (wayP a b t).x (wayP a b t).y) [] := by
  have u := h2.sub h1
  have a' : szP 256 a := ⟨h1.1.mono (by omega), h1.2.mono (by omega)⟩
  unfold wayC
  rw [if_pos (m4_ok h2 h1 (by omega)), if_pos ⟨⟨rfl, rfl, rfl⟩, u.1.mm (by omega), u.2.mm (by omega), ht.mm (by omega)⟩, if_pos (m4_ok a' (way_sz h1 h2 ht).1 (by omega))]
theorem gq141 {ρ : Type} (cont : SV -> HL -> Option ρ) (p a b : Pl) : runF fB Ash 20 Tryz.f141 (bodyOf Tryz.f141) ρ [seS 0 a.x a.y b.x b.y, pS 0 p.x p.y] [] cont =
    if g3 p a b then (if szQ (ftP p a b) = true then (bif decide ((ftP p a b).num.sign <= 0) then cont (pS 0 a.x a.y) [] else (if (szQ (ftP p a b) && szQ (Rat.divInt 1 1)) = true then (bif decide (0 <= cmpQ (ftP p a b) (Rat.divInt 1 1)) then cont (pS 0 b.x b.y) [] else wayC cont a b (ftP p a b)) else none)) else none) else none := by kernel_rfl
theorem sgnQ_le {p : Rat} : Int.sign p.num <= 0 ↔ p <= 0 := by
  rw [<- Rat.not_lt, <- @sgnQ_gt p]
  omega
theorem cmpQ_ge {p q : Rat} : 0 <= cmpQ p q ↔ q <= p := by
  rw [<- Rat.not_lt, <- @cmpQ_lt p q]
  omega
theorem orc_nrI : OrcOK NN Tryz.prog 141 nrO0 :=
  OrcOK.of_tale (cR_ok (A := Ash) (fuel := 20) fB_ok rfl Tryz.func141 (by kernel_rfl)) fun ρ args H cont r hr => by
    unfold nrO0 at hr
    split at hr
    · rename_i a b c d x y
      split at hr
      · rename_i hc
        refine (gq141 cont ⟨x, y⟩ ⟨a, b⟩ ⟨c, d⟩).trans ?_
        have z := ft_sz hc
        have h1 : szQ (Rat.divInt 1 1) = true := by decide +kernel
        rw [nrX_eq] at hr
        rw [if_pos hc, if_pos (z.qq (by omega)), if_pos (both (z.qq (by omega)) h1), one_one, wayC_eq cont (s8P_ok hc.1.2) (s8P_ok hc.2.1) z, decide_eq_decide.2 sgnQ_le, decide_eq_decide.2 cmpQ_ge]
        unfold nrP at hr
        by_cases c1 : ftP ⟨x, y⟩ ⟨a, b⟩ ⟨c, d⟩ <= 0
        · rw [if_pos c1] at hr
          rw [decide_eq_true c1]; exact hr
        · rw [if_neg c1] at hr
          rw [decide_eq_false c1, cond_false]
          by_cases c2 : 1 <= ftP ⟨x, y⟩ ⟨a, b⟩ ⟨c, d⟩
          · rw [if_pos c2] at hr
            rw [decide_eq_true c2]; exact hr
          · rw [if_neg c2] at hr
            rw [decide_eq_false c2]; exact hr
      · contradiction
    · contradiction
end Go.Abs
namespace Go.Abs
open Go.Proofs
set_option maxRecDepth 100000
def sWd (q : Rat) : Bool := decide ((words q.num.natAbs).length < 128) && decide ((words q.den).length < 128)
theorem sWd_ok {q : Rat} (h : sWd q = true) : szN 128 q := by simpa [sWd, szN] using h
theorem szN.w {q : Rat} (h : szN 128 q) : sWd q = true := by unfold sWd; rw [decide_eq_true h.1, decide_eq_true h.2]; rfl
def dtO1 : Orc := pt2 1 fun a b c d => nm 1 (a * c + b * d)
noncomputable def fC : Env := VL tryT [] [(115, lat2 (fun p q => szQ p && szQ q) fun p q => nm 1 (p * q)), (207, lat2 (fun p q => szQ p && szQ q) fun p q => nm 1 (p + q)), (145, pt2 1 fun a b c d => pS 1 (a - c) (b - d)), (222, pt1 1 fun a b c => pS 1 (a * c) (b * c)), (221, pt2 1 fun a b c d => pS 1 (a + c) (b + d))]
theorem fC_ok : EnvOK NN Tryz.prog fC := VL_ok (TabOk.of tryT_ok) (gamC orc68 Tryz.call115 (gamC orc70 Tryz.call207 (gamC orc66 Tryz.call145 (gamC orc129 Tryz.call222 (gamC orc128 Tryz.call221 (gamN _ _))))))
theorem gq146 {ρ : Type} (cont : SV -> HL -> Option ρ) (a b c d : Rat) : runF fC Ash 20 Tryz.f146 (bodyOf Tryz.f146) ρ [pS 1 a b, pS 1 c d] [] cont =
    if (szQ a && szQ c) = true then (if (szQ b && szQ d) = true then (if (szQ (a * c) && szQ (b * d)) = true then cont (nm 1 (a * c + b * d)) [] else none) else none) else none := by kernel_rfl
theorem orc_dtS : OrcOK NN Tryz.prog 146 dtO1 :=
  pt2_ok (cR_ok (A := Ash) (fuel := 20) fC_ok rfl Tryz.func146 (by kernel_rfl)) fun ρ cont a b c d h1 h2 h3 h4 => by
    refine (gq146 cont a b c d).trans ?_
    rw [if_pos (both (szM_Q h1) (szM_Q h3)), if_pos (both (szM_Q h2) (szM_Q h4)), if_pos (both (szM_mul h1 h3) (szM_mul h2 h4))]
def waO : Orc := fun ρ args H cont => match args, H with
  | [.v true [.num 1 (some a), .num 1 (some b)], .v true [.num 1 (some c), .num 1 (some d)], .v true [.num 1 (some t)]], [] => if (s8P ⟨a, b⟩ = true /\ s8P ⟨c, d⟩ = true) /\ sWd t = true then cont (pS 1 (wayP ⟨a, b⟩ ⟨c, d⟩ t).x (wayP ⟨a, b⟩ ⟨c, d⟩ t).y) [] else none
  | _, _ => none
theorem gq127w {ρ : Type} (cont : SV -> HL -> Option ρ) (a b : Pl) (t : Rat) : runF fC Ash 20 Tryz.f127 (bodyOf Tryz.f127) ρ [pS 1 a.x a.y, pS 1 b.x b.y, nm 1 t] [] cont =
    if n4 b a then (if (1 = 1 /\ 1 = 1 /\ 1 = 1) /\ szM (sbP b a).x = true /\ szM (sbP b a).y = true /\ szM t = true then (if n4 a (tmP (sbP b a) t) then cont (pS 1 (wayP a b t).x (wayP a b t).y) [] else none) else none) else none := by kernel_rfl
theorem orc_way : OrcOK NN Tryz.prog 127 waO :=
  OrcOK.of_tale (cR_ok (A := Ash) (fuel := 20) fC_ok rfl Tryz.func127 (by kernel_rfl)) fun ρ args H cont r hr => by
    unfold waO at hr
    split at hr
    · rename_i a b c d t
      split at hr
      · rename_i hc
        obtain ⟨⟨h1, h2⟩, h3⟩ := hc
        have h1 := s8P_ok h1
        have h2 := s8P_ok h2
        have h3 := sWd_ok h3
        have u := h2.sub h1
        refine (gq127w cont ⟨a, b⟩ ⟨c, d⟩ t).trans ?_
        have h1' : szP 256 (⟨a, b⟩ : Pl) := ⟨h1.1.mono (by omega), h1.2.mono (by omega)⟩
        rw [if_pos (n4_ok h2 h1 (by omega)), if_pos ⟨⟨rfl, rfl, rfl⟩, u.1.mm (by omega), u.2.mm (by omega), h3.mm (by omega)⟩, if_pos (n4_ok h1' (way_sz h1 h2 h3).1 (by omega))]
        exact hr
      · contradiction
    · contradiction
def ftO1 : Orc := fun ρ args H cont => match args, H with
  | [.v true [.num 1 (some x), .num 1 (some y)], .v true [.num 1 (some a), .num 1 (some b)], .v true [.num 1 (some c), .num 1 (some d)]], [] => if g3 ⟨x, y⟩ ⟨a, b⟩ ⟨c, d⟩ then cont (nm 1 (ftP ⟨x, y⟩ ⟨a, b⟩ ⟨c, d⟩)) [] else none
  | _, _ => none
noncomputable def nrO1 : Orc := fun ρ args H cont => match args, H with
  | [.v true [.num 1 (some x), .num 1 (some y)], .v true [.num 1 (some a), .num 1 (some b)], .v true [.num 1 (some c), .num 1 (some d)]], [] => if g3 ⟨x, y⟩ ⟨a, b⟩ ⟨c, d⟩ then cont (pS 1 (nrX ⟨x, y⟩ ⟨a, b⟩ ⟨c, d⟩).x (nrX ⟨x, y⟩ ⟨a, b⟩ ⟨c, d⟩).y) [] else none
  | _, _ => none
noncomputable def fD : Env := VL tryT [] [(145, pt2 1 fun a b c d => pS 1 (a - c) (b - d)), (146, dtO1), (231, lat2 (fun p q => szQ p && szQ q && decide (q ≠ 0)) fun p q => nm 1 (p / q))]
theorem fD_ok : EnvOK NN Tryz.prog fD := VL_ok (TabOk.of tryT_ok) (gamC orc66 Tryz.call145 (gamC orc_dtS Tryz.call146 (gamC orc73 Tryz.call231 (gamN _ _))))
theorem gq232 {ρ : Type} (cont : SV -> HL -> Option ρ) (p a b : Pl) : runF fD Ash 20 Tryz.f232 (bodyOf Tryz.f232) ρ [pS 1 p.x p.y, pS 1 a.x a.y, pS 1 b.x b.y] [] cont =
    if n4 b a then (if n4 p a then (if n4 (sbP p a) (sbP b a) then (if n4 (sbP b a) (sbP b a) then (if (szQ (dtP (sbP p a) (sbP b a)) && szQ (dtP (sbP b a) (sbP b a)) && decide (dtP (sbP b a) (sbP b a) ≠ 0)) = true then cont (nm 1 (ftP p a b)) [] else none) else none) else none) else none) else none := by kernel_rfl
theorem orc_ftS : OrcOK NN Tryz.prog 232 ftO1 :=
  OrcOK.of_tale (cR_ok (A := Ash) (fuel := 20) fD_ok rfl Tryz.func232 (by kernel_rfl)) fun ρ args H cont r hr => by
    unfold ftO1 at hr
    split at hr
    · rename_i x y a b c d
      split at hr
      · rename_i hc
        refine (gq232 cont ⟨x, y⟩ ⟨a, b⟩ ⟨c, d⟩).trans ?_
        obtain ⟨⟨h1, h2⟩, h3, h4⟩ := hc
        have h1 := s8P_ok h1
        have h2 := s8P_ok h2
        have h3 := s8P_ok h3
        have u := h3.sub h2
        have w := h1.sub h2
        have hp := dt_pos h4
        rw [if_pos (n4_ok h3 h2 (by omega)), if_pos (n4_ok h1 h2 (by omega)), if_pos (n4_ok w u (by omega)), if_pos (n4_ok u u (by omega)), if_pos (both (both ((w.dt u).qq (by omega)) ((u.dt u).qq (by omega))) (decide_eq_true (by grind)))]
        exact hr
      · contradiction
    · contradiction
noncomputable def fE : Env := VL tryT [] [(232, ftO1), (103, lat1 szQ fun q => one (.int .i64 (Int.sign q.num))), (116, intO 1), (121, lat2 (fun p q => szQ p && szQ q) fun p q => one (.int .i64 (cmpQ p q))), (127, waO)]
theorem fE_ok : EnvOK NN Tryz.prog fE := VL_ok (TabOk.of tryT_ok) (gamC orc_ftS Tryz.call232 (gamC orc71 Tryz.call103 (gamC orc69 Tryz.call116 (gamC orc51 Tryz.call121 (gamC orc_way Tryz.call127 (gamN _ _))))))
theorem gq143 {ρ : Type} (cont : SV -> HL -> Option ρ) (p a b : Pl) : runF fE Ash 20 Tryz.f143 (bodyOf Tryz.f143) ρ [pS 1 p.x p.y, pS 1 a.x a.y, pS 1 b.x b.y] [] cont =
    if g3 p a b then (if szQ (ftP p a b) = true then (bif decide ((ftP p a b).num.sign < 0) then cont (pS 1 a.x a.y) [] else (if (szQ (ftP p a b) && szQ (Rat.divInt 1 1)) = true then (bif decide (0 < cmpQ (ftP p a b) (Rat.divInt 1 1)) then cont (pS 1 b.x b.y) [] else
      (if (s8P a = true /\ s8P b = true) /\ sWd (ftP p a b) = true then cont (pS 1 (wayP a b (ftP p a b)).x (wayP a b (ftP p a b)).y) [] else none)) else none)) else none) else none := by kernel_rfl
theorem orc_nrS : OrcOK NN Tryz.prog 143 nrO1 :=
  OrcOK.of_tale (cR_ok (A := Ash) (fuel := 20) fE_ok rfl Tryz.func143 (by kernel_rfl)) fun ρ args H cont r hr => by
    unfold nrO1 at hr
    split at hr
    · rename_i x y a b c d
      split at hr
      · rename_i hc
        refine (gq143 cont ⟨x, y⟩ ⟨a, b⟩ ⟨c, d⟩).trans ?_
        have z := ft_sz hc
        have h1 : szQ (Rat.divInt 1 1) = true := by decide +kernel
        rw [nrX_eq] at hr
        rw [if_pos hc, if_pos (z.qq (by omega)), if_pos (both (z.qq (by omega)) h1), one_one, if_pos ⟨⟨hc.1.2, hc.2.1⟩, z.w⟩, decide_eq_decide.2 sgnQ_lt, decide_eq_decide.2 cmpQ_gt]
        have w0 := way_0 ⟨a, b⟩ ⟨c, d⟩
        have w1 := way_1 ⟨a, b⟩ ⟨c, d⟩
        have hn : nrP ⟨x, y⟩ ⟨a, b⟩ ⟨c, d⟩ = if ftP ⟨x, y⟩ ⟨a, b⟩ ⟨c, d⟩ < 0 then ⟨a, b⟩ else if 1 < ftP ⟨x, y⟩ ⟨a, b⟩ ⟨c, d⟩ then ⟨c, d⟩ else wayP ⟨a, b⟩ ⟨c, d⟩ (ftP ⟨x, y⟩ ⟨a, b⟩ ⟨c, d⟩) := by
          unfold nrP
          by_cases c1 : ftP ⟨x, y⟩ ⟨a, b⟩ ⟨c, d⟩ < 0
          · rw [if_pos c1, if_pos (by grind)]
          · rw [if_neg c1]
            by_cases c2 : 1 < ftP ⟨x, y⟩ ⟨a, b⟩ ⟨c, d⟩
            · rw [if_pos c2, if_neg (by grind), if_pos (by grind)]
            · rw [if_neg c2]
              by_cases c3 : ftP ⟨x, y⟩ ⟨a, b⟩ ⟨c, d⟩ = 0
              · rw [if_pos (by grind), c3, w0]
              · rw [if_neg (by grind)]
                by_cases c4 : ftP ⟨x, y⟩ ⟨a, b⟩ ⟨c, d⟩ = 1
                · rw [if_pos (by grind), c4, w1]
                · rw [if_neg (by grind)]
        rw [hn] at hr
        by_cases c1 : ftP ⟨x, y⟩ ⟨a, b⟩ ⟨c, d⟩ < 0
        · rw [if_pos c1] at hr
          rw [decide_eq_true c1]; exact hr
        · rw [if_neg c1] at hr
          rw [decide_eq_false c1, cond_false]
          by_cases c2 : 1 < ftP ⟨x, y⟩ ⟨a, b⟩ ⟨c, d⟩
          · rw [if_pos c2] at hr
            rw [decide_eq_true c2]; exact hr
          · rw [if_neg c2] at hr
            rw [decide_eq_false c2]; exact hr
      · contradiction
    · contradiction
end Go.Abs
namespace Go.Abs
open Go.Proofs
set_option maxRecDepth 100000
noncomputable def fF : Env := VL tryT [] [(226, pt2 0 fun a b c d => pS 0 (a - c) (b - d)), (233, pt2 0 fun a b c d => nm 0 (a * c + b * d))]
theorem fF_ok : EnvOK NN Tryz.prog fF := VL_ok (TabOk.of tryT_ok) (gamC orc36 Tryz.call226 (gamC orc87 Tryz.call233 (gamN _ _)))
noncomputable def fG : Env := VL tryT [] [(136, vOkO), (131, segO), (133, ps8 0), (138, vO 0), (141, nrO0), (134, toV 0), (144, cR fF Ash 20 Tryz.f144), (64, rat1 (fun _ => true) tupQ), (142, vOkO), (125, segO), (128, vO 1), (143, nrO1), (126, toV 1), (145, pt2 1 fun a b c d => pS 1 (a - c) (b - d)), (146, dtO1), (122, lat1 szQ tupQ),
  (148, cR mA Ash 20 Tryz.f148), (150, ftO0), (149, pt1 0 fun a b c => pS 0 (a * c) (b * c)), (147, pt2 0 fun a b c d => pS 0 (a + c) (b + d)), (153, cR mB Ash 20 Tryz.f153)]
theorem fG_ok : EnvOK NN Tryz.prog fG := VL_ok (TabOk.of tryT_ok) (gamC orc_vokI Tryz.call136 (gamC orc_segI Tryz.call131 (gamC orc_psg Tryz.call133 (gamC orc135 Tryz.call138 (gamC orc_nrI Tryz.call141 (gamC orc103 Tryz.call134 (gamC (cR_ok fF_ok rfl Tryz.func144 (by kernel_rfl)) Tryz.call144 (gamC orc41 Tryz.call64
  (gamC orc162 Tryz.call142 (gamC orc_segS Tryz.call125 (gamC orc163 Tryz.call128 (gamC orc_nrS Tryz.call143 (gamC orc76 Tryz.call126 (gamC orc66 Tryz.call145 (gamC orc_dtS Tryz.call146 (gamC orc30 Tryz.call122
  (gamC (cR_ok mA_ok rfl Tryz.func148 (by kernel_rfl)) Tryz.call148 (gamC orc_ftI Tryz.call150 (gamC orc85 Tryz.call149 (gamC orc89 Tryz.call147 (gamC (cR_ok mB_ok rfl Tryz.func153 (by kernel_rfl)) Tryz.call153 (gamN _ _))))))))))))))))))))))
section
variable {ρ : Type} (cont : SV -> HL -> Option ρ)
abbrev okVw (v : W4) : Prop := okV v.a v.b v.c v.d
def vsX (v : W4) (s : S8) (Z X : Option ρ) : Option ρ := bif !v.ok then Z else bif bif false then true else !s.ok then Z else X
def zV5 : SV := .tup [(true, [.int .i64 0, .int .i64 0, .int .i64 0, .int .i64 0]), (false, [.bool false])]
theorem gq49 (v : W4) (s : S8) : runF fG Ash 20 Tryz.f49 (bodyOf Tryz.f49) ρ [v.sv, s.sv] [] cont = vsX v s (cont zV5 []) (if okQ s then (if okVw v then (if g3 v.pl s.p s.q then (if tvG 0 (nrX v.pl s.p s.q) then cont (tupV (nrX v.pl s.p s.q).x (nrX v.pl s.p s.q).y) [] else none) else none) else none) else none) := by kernel_rfl
theorem gq50 (v : W4) (s : S8) : runF fG Ash 20 Tryz.f50 (bodyOf Tryz.f50) ρ [v.sv, s.sv] [] cont = vsX v s (cont zV5 []) (if okVw v then (if okV s.a s.b s.c s.d then (if okV s.e s.f s.g s.h then (if g3 v.pl s.p s.q then (if tvG 1 (nrX v.pl s.p s.q) then cont (tupV (nrX v.pl s.p s.q).x (nrX v.pl s.p s.q).y) [] else none) else none) else none) else none) else none) := by kernel_rfl
theorem gq51 (v : W4) (s : S8) : runF fG Ash 20 Tryz.f51 (bodyOf Tryz.f51) ρ [v.sv, s.sv] [] cont = vsX v s (cont (tupB 0 0 false) []) (if okVw v then (if okQ s then (if okVw v then (if g3 v.pl s.p s.q then
    (if m4 v.pl (nrX v.pl s.p s.q) then (if m4 (sbP v.pl (nrX v.pl s.p s.q)) (sbP v.pl (nrX v.pl s.p s.q)) then cont (tupQ (dsP v.pl (nrX v.pl s.p s.q))) [] else none) else none) else none) else none) else none) else none) := by kernel_rfl
theorem gq52 (v : W4) (s : S8) : runF fG Ash 20 Tryz.f52 (bodyOf Tryz.f52) ρ [v.sv, s.sv] [] cont = vsX v s (cont (tupB 0 0 false) []) (if okVw v then (if okV s.a s.b s.c s.d then (if okV s.e s.f s.g s.h then (if g3 v.pl s.p s.q then (if okVw v then
    (if n4 (nrX v.pl s.p s.q) v.pl then (if n4 (sbP (nrX v.pl s.p s.q) v.pl) (sbP (nrX v.pl s.p s.q) v.pl) then (if szQ (dsP (nrX v.pl s.p s.q) v.pl) = true then cont (tupQ (dsP (nrX v.pl s.p s.q) v.pl)) [] else none) else none) else none) else none) else none) else none) else none) else none) := by kernel_rfl
theorem gq54 (v : W4) (s : S8) : runF fG Ash 20 Tryz.f54 (bodyOf Tryz.f54) ρ [v.sv, s.sv] [] cont = vsX v s (cont zV5 []) (if okQ s then (if m4 s.q s.p then (if okVw v then (if g3 v.pl s.p s.q then (if gw 0 s.p s.q (ftP v.pl s.p s.q) then (if m4 s.p (tmP (sbP s.q s.p) (ftP v.pl s.p s.q)) then
    (if tvG 0 (wayP s.p s.q (ftP v.pl s.p s.q)) then cont (tupV (wayP s.p s.q (ftP v.pl s.p s.q)).x (wayP s.p s.q (ftP v.pl s.p s.q)).y) [] else none) else none) else none) else none) else none) else none) else none) := by kernel_rfl
theorem gq57 (a b c : W4) : runF fG Ash 20 Tryz.f57 (bodyOf Tryz.f57) ρ [a.sv, b.sv, c.sv] [] cont =
    bif !a.ok then cont (one (.int .i64 2)) [] else bif bif false then true else !b.ok then cont (one (.int .i64 2)) [] else bif bif false then true else !c.ok then cont (one (.int .i64 2)) [] else
    if okVw a then (if okVw b then (if okVw c then (if m4 b.pl a.pl then (if m4 c.pl a.pl then crC (sbP b.pl a.pl) (sbP c.pl a.pl) (fun k => if szQ k = true then cont (one (.int .i64 k.num.sign)) [] else none) else none) else none) else none) else none) else none := by kernel_rfl
end
end Go.Abs
namespace Go.Abs
open Go.Proofs
set_option maxRecDepth 100000
structure N5 where
  w : W4
  t : Bool
structure N3 where
  a : Int
  b : Int
  t : Bool
def N5.sv (n : N5) : SV := .tup [(true, n.w.ats), (false, [.bool n.t])]
def N3.sv (n : N3) : SV := tupB n.a n.b n.t
def N5.of (p : Pl) : N5 := ⟨wOf p, fitP p⟩
def N3.of (q : Rat) : N3 := ⟨qNum q, qDen q, qFit q⟩
def vsV {α : Type} (z : α) (v : W4) (s : S8) (a : α) : α := if v.ok = true /\ s.ok = true then a else z
def nvV (v : W4) (s : S8) : N5 := vsV ⟨⟨0, 0, 0, 0⟩, false⟩ v s (N5.of (nrP v.pl s.p s.q))
def fvV (v : W4) (s : S8) : N5 := vsV ⟨⟨0, 0, 0, 0⟩, false⟩ v s (N5.of (wayP s.p s.q (ftP v.pl s.p s.q)))
def dqV (v : W4) (s : S8) : N3 := vsV ⟨0, 0, false⟩ v s (N3.of (dsP v.pl (nrP v.pl s.p s.q)))
theorem vs_ex {α : Type} (F : W4 -> S8 -> α) (v : W4) (s : S8) : ∃ x : α, x = F v s := ⟨_, rfl⟩
noncomputable def vsH {α : Type} (F : W4 -> S8 -> α) (v : W4) (s : S8) : α := (vs_ex F v s).choose
theorem vsH_eq {α : Type} (F : W4 -> S8 -> α) (v : W4) (s : S8) : vsH F v s = F v s := (vs_ex F v s).choose_spec
noncomputable def vsO {α : Type} (sh : α -> SV) (F : W4 -> S8 -> α) : Orc := fun ρ args H cont => match args, H with
  | [.v true [.int .i64 p, .int .i64 q, .int .i64 r, .int .i64 t], .v true [.int .i64 a, .int .i64 b, .int .i64 c, .int .i64 d, .int .i64 e, .int .i64 f, .int .i64 g, .int .i64 h]], [] => cont (sh (vsH F ⟨p, q, r, t⟩ ⟨a, b, c, d, e, f, g, h⟩)) []
  | _, _ => none
theorem vsO_ok {α : Type} {n : Nat} {F0 : Orc} {sh : α -> SV} {F : W4 -> S8 -> α} (hF : OrcOK NN Tryz.prog n F0) (h : ∀ ρ (cont : SV -> HL -> Option ρ) v s, F0 ρ [v.sv, s.sv] [] cont = cont (sh (F v s)) []) : OrcOK NN Tryz.prog n (vsO sh F) :=
  OrcOK.of_tale hF fun ρ args H cont r hr => by
    unfold vsO at hr
    split at hr
    · rw [vsH_eq] at hr
      exact (h ρ cont ⟨_, _, _, _⟩ ⟨_, _, _, _, _, _, _, _⟩).trans hr
    · contradiction
theorem g3_of {v : W4} {s : S8} (h1 : v.ok = true) (h2 : s.ok = true) : okVw v /\ okQ s /\ g3 v.pl s.p s.q := by
  obtain ⟨k1, k2⟩ := okQ_of h2
  have kv := vOk_q h1
  obtain ⟨z1, z2⟩ := okQ_sz k1
  exact ⟨kv, k1, ⟨both (s8_q kv.1) (s8_q kv.2), z1⟩, z2, k2⟩
theorem vsX_eq {ρ : Type} {cont : SV -> HL -> Option ρ} {α : Type} {sh : α -> SV} {v : W4} {s : S8} {z a : α} {X : Option ρ} (h : v.ok = true -> s.ok = true -> X = cont (sh a) []) : vsX v s (cont (sh z) []) X = cont (sh (vsV z v s a)) [] := by
  unfold vsX vsV
  cases h1 : v.ok
  · rfl
  · cases h2 : s.ok
    · rfl
    · rw [if_pos ⟨rfl, rfl⟩]
      exact h h1 h2
section
variable {ρ : Type} (cont : SV -> HL -> Option ρ)
theorem near_sz {v : W4} {s : S8} (h1 : v.ok = true) (h2 : s.ok = true) : szP 512 (nrP v.pl s.p s.q) := nr_sz (g3_of h1 h2).2.2
end
theorem orc_nearVI : OrcOK NN Tryz.prog 49 (vsO N5.sv nvV) :=
  vsO_ok (cR_ok (A := Ash) (fuel := 20) fG_ok rfl Tryz.func49 (by kernel_rfl)) fun ρ cont v s => (gq49 cont v s).trans (vsX_eq (sh := N5.sv) (z := ⟨⟨0, 0, 0, 0⟩, false⟩) fun h1 h2 => by
    obtain ⟨o1, o2, o3⟩ := g3_of h1 h2
    have z := near_sz h1 h2
    rw [if_pos o2, if_pos o1, if_pos o3, nrX_eq, if_pos ⟨⟨rfl, rfl⟩, z.1.qq (by omega), z.2.qq (by omega)⟩]
    rfl)
theorem orc_nearVS : OrcOK NN Tryz.prog 50 (vsO N5.sv nvV) :=
  vsO_ok (cR_ok (A := Ash) (fuel := 20) fG_ok rfl Tryz.func50 (by kernel_rfl)) fun ρ cont v s => (gq50 cont v s).trans (vsX_eq (sh := N5.sv) (z := ⟨⟨0, 0, 0, 0⟩, false⟩) fun h1 h2 => by
    obtain ⟨o1, o2, o3⟩ := g3_of h1 h2
    have z := near_sz h1 h2
    rw [if_pos o1, if_pos o2.1, if_pos o2.2, if_pos o3, nrX_eq, if_pos ⟨⟨rfl, rfl⟩, z.1.qq (by omega), z.2.qq (by omega)⟩]
    rfl)
theorem orc_footV : OrcOK NN Tryz.prog 54 (vsO N5.sv fvV) :=
  vsO_ok (cR_ok (A := Ash) (fuel := 20) fG_ok rfl Tryz.func54 (by kernel_rfl)) fun ρ cont v s => (gq54 cont v s).trans (vsX_eq (sh := N5.sv) (z := ⟨⟨0, 0, 0, 0⟩, false⟩) fun h1 h2 => by
    obtain ⟨o1, o2, o3⟩ := g3_of h1 h2
    have z := ft_sz o3
    have k1 := s8P_ok o3.1.2
    have k2 := s8P_ok o3.2.1
    have u := k2.sub k1
    obtain ⟨w1, w2⟩ := way_sz k1 k2 z
    have a' : szP 256 s.p := ⟨k1.1.mono (by omega), k1.2.mono (by omega)⟩
    rw [if_pos o2, if_pos (m4_ok k2 k1 (by omega)), if_pos o1, if_pos o3, if_pos ⟨⟨rfl, rfl, rfl⟩, u.1.mm (by omega), u.2.mm (by omega), z.mm (by omega)⟩, if_pos (m4_ok a' w1 (by omega)), if_pos ⟨⟨rfl, rfl⟩, w2.1.qq (by omega), w2.2.qq (by omega)⟩]
    rfl)
theorem ds_sym (a b : Pl) : dsP a b = dsP b a := by
  unfold dsP dtP sbP
  simp only
  grind
theorem orc_distI : OrcOK NN Tryz.prog 51 (vsO N3.sv dqV) :=
  vsO_ok (cR_ok (A := Ash) (fuel := 20) fG_ok rfl Tryz.func51 (by kernel_rfl)) fun ρ cont v s => (gq51 cont v s).trans (vsX_eq (sh := N3.sv) (z := ⟨0, 0, false⟩) fun h1 h2 => by
    obtain ⟨o1, o2, o3⟩ := g3_of h1 h2
    have z := near_sz h1 h2
    have k := s8P_ok o3.1.1
    have v' : szP 512 v.pl := ⟨k.1.mono (by omega), k.2.mono (by omega)⟩
    have u := v'.sub z
    rw [if_pos o1, if_pos o2, if_pos o1, if_pos o3, nrX_eq, if_pos (m4_ok v' z (by omega)), if_pos (m4_ok u u (by omega))]
    rfl)
theorem orc_distS : OrcOK NN Tryz.prog 52 (vsO N3.sv dqV) :=
  vsO_ok (cR_ok (A := Ash) (fuel := 20) fG_ok rfl Tryz.func52 (by kernel_rfl)) fun ρ cont v s => (gq52 cont v s).trans (vsX_eq (sh := N3.sv) (z := ⟨0, 0, false⟩) fun h1 h2 => by
    obtain ⟨o1, o2, o3⟩ := g3_of h1 h2
    have z := near_sz h1 h2
    have k := s8P_ok o3.1.1
    have v' : szP 512 v.pl := ⟨k.1.mono (by omega), k.2.mono (by omega)⟩
    have u := z.sub v'
    rw [if_pos o1, if_pos o2.1, if_pos o2.2, if_pos o3, if_pos o1, nrX_eq, if_pos (n4_ok z v' (by omega)), if_pos (n4_ok u u (by omega)), if_pos (show szQ (dsP (nrP v.pl s.p s.q) v.pl) = true from (u.dt u).qq (by omega)), ds_sym]
    rfl)
def trV (a b c : W4) : Int := if a.ok = true /\ b.ok = true /\ c.ok = true then (crP (sbP b.pl a.pl) (sbP c.pl a.pl)).num.sign else 2
theorem tr_ex (a b c : W4) : ∃ x : Int, x = trV a b c := ⟨_, rfl⟩
noncomputable def trF (a b c : W4) : Int := (tr_ex a b c).choose
theorem trF_eq (a b c : W4) : trF a b c = trV a b c := (tr_ex a b c).choose_spec
noncomputable def trO : Orc := fun ρ args H cont => match args, H with
  | [.v true [.int .i64 a, .int .i64 b, .int .i64 c, .int .i64 d], .v true [.int .i64 e, .int .i64 f, .int .i64 g, .int .i64 h], .v true [.int .i64 i, .int .i64 j, .int .i64 k, .int .i64 l]], [] => cont (one (.int .i64 (trF ⟨a, b, c, d⟩ ⟨e, f, g, h⟩ ⟨i, j, k, l⟩))) []
  | _, _ => none
theorem orc_turn : OrcOK NN Tryz.prog 57 trO :=
  OrcOK.of_tale (cR_ok (A := Ash) (fuel := 20) fG_ok rfl Tryz.func57 (by kernel_rfl)) fun ρ args H cont r hr => by
    unfold trO at hr
    split at hr
    · rename_i a b c d e f g h i j k l
      refine (gq57 cont ⟨a, b, c, d⟩ ⟨e, f, g, h⟩ ⟨i, j, k, l⟩).trans ?_
      generalize (⟨a, b, c, d⟩ : W4) = x at *
      generalize (⟨e, f, g, h⟩ : W4) = y at *
      generalize (⟨i, j, k, l⟩ : W4) = z at *
      rw [trF_eq] at hr
      unfold trV at hr
      cases h1 : x.ok
      · rw [if_neg (fun e => by rw [h1] at e; exact absurd e.1 (by decide))] at hr; exact hr
      · cases h2 : y.ok
        · rw [if_neg (fun e => by rw [h2] at e; exact absurd e.2.1 (by decide))] at hr; exact hr
        · cases h3 : z.ok
          · rw [if_neg (fun e => by rw [h3] at e; exact absurd e.2.2 (by decide))] at hr; exact hr
          · rw [if_pos ⟨h1, h2, h3⟩] at hr
            have k1 := vOk_q h1
            have k2 := vOk_q h2
            have k3 := vOk_q h3
            have s1 : szP 8 x.pl := ⟨s8_ok (s8_q k1.1), s8_ok (s8_q k1.2)⟩
            have s2 : szP 8 y.pl := ⟨s8_ok (s8_q k2.1), s8_ok (s8_q k2.2)⟩
            have s3 : szP 8 z.pl := ⟨s8_ok (s8_q k3.1), s8_ok (s8_q k3.2)⟩
            rw [Bool.not_true, cond_false, cond_false, if_pos k1, if_pos k2, if_pos k3, if_pos (m4_ok s2 s1 (by omega)), if_pos (m4_ok s3 s1 (by omega)), crC_eq _ (s2.sub s1) (s3.sub s1) (by omega), if_pos (((s2.sub s1).cr (s3.sub s1)).qq (by omega))]
            exact hr
    · contradiction
end Go.Abs

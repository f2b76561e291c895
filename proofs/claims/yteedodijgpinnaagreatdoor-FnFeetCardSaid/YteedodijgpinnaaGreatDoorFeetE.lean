/-
  A PART OF THE PROOF of FtI (texts FeetE FeetF FeetG): the claim itself stands in the last text. No conditions beside those of the given row.
-/
import Derived.Test.YteedodijgpinnaaGreatDoorMeetD
set_option linter.unusedVariables false
set_option linter.unnecessarySimpa false
set_option linter.unusedSimpArgs false
namespace Go.Abs
open Go.Proofs
set_option maxRecDepth 100000
noncomputable def smE : Env := VL tryT [] [(13, qOkO), (113, qO 1), (115, lat2 (fun p q => szQ p && szQ q) fun p q => nm 1 (p * q)), (122, lat1 szQ tupQ)]
theorem smE_ok : EnvOK NN Tryz.prog smE := VL_ok (TabOk.of tryT_ok) (gamC (orc64 NN) Tryz.call13 (gamC orc65 Tryz.call113 (gamC orc68 Tryz.call115 (gamC orc30 Tryz.call122 (gamN _ _)))))
theorem szQ_mulq {a b c d : Int} (h1 : qOkB a b = true) (h2 : qOkB c d = true) : szQ (Rat.divInt a b * Rat.divInt c d) = true := ((s8_ok (s8_q h1)).mul (s8_ok (s8_q h2))).qq (by omega)
theorem gq152 {ρ : Type} (cont : SV -> HL -> Option ρ) (a b c d : Int) : runF smE Ash 20 Tryz.f152 (bodyOf Tryz.f152) ρ [sQ a b, sQ c d] [] cont =
    bif !qOkB a b then cont (tupB 0 0 false) [] else bif bif false then true else !qOkB c d then cont (tupB 0 0 false) [] else
    if qOkB a b = true then (if qOkB c d = true then (if (szQ (Rat.divInt a b) && szQ (Rat.divInt c d)) = true then (if szQ (Rat.divInt a b * Rat.divInt c d) = true then
      cont (tupQ (Rat.divInt a b * Rat.divInt c d)) [] else none) else none) else none) else none := by kernel_rfl
theorem orc_smul : OrcOK NN Tryz.prog 152 (opO ok2 tms) :=
  OrcOK.of_tale (cR_ok (A := Ash) (fuel := 20) smE_ok rfl Tryz.func152 (by kernel_rfl)) fun ρ args H cont r hr => by
    unfold opO at hr
    split at hr
    · rename_i a b c d
      refine (gq152 cont a b c d).trans ?_
      unfold opN opD opT ok2 at hr
      cases h1 : qOkB a b
      · rw [h1] at hr; exact hr
      · cases h2 : qOkB c d
        · rw [h1, h2] at hr; exact hr
        · rw [h1, h2] at hr
          rw [szQ_q h1, szQ_q h2, szQ_mulq h1 h2]
          exact hr
    · contradiction
def op2 (f : Rat -> Rat -> Rat) (x y : Int × Int) : Int × Int := (opN ok2 f x.1 x.2 y.1 y.2, opD ok2 f x.1 x.2 y.1 y.2)
def qqO (f : Rat -> Rat -> Rat) : Orc := fun ρ args H cont => match args, H with
  | [.v true [.int .i64 a, .int .i64 b], .v true [.int .i64 c, .int .i64 d]], [] => cont (shQ (op2 f (a, b) (c, d))) []
  | _, _ => none
noncomputable def ptE : Env := VL tryT [] [(151, opO ok2 pls), (152, opO ok2 tms)]
theorem ptE_ok : EnvOK NN Tryz.prog ptE := VL_ok (TabOk.of tryT_ok) (gamC orc_sadd Tryz.call151 (gamC orc_smul Tryz.call152 (gamN _ _)))
theorem gq55 {ρ : Type} (cont : SV -> HL -> Option ρ) (a b c d : Int) : runF ptE Ash 20 Tryz.f55 (bodyOf Tryz.f55) ρ [sQ a b, sQ c d] [] cont = cont (shQ (op2 pls (a, b) (c, d))) [] := by kernel_rfl
theorem gq56 {ρ : Type} (cont : SV -> HL -> Option ρ) (a b c d : Int) : runF ptE Ash 20 Tryz.f56 (bodyOf Tryz.f56) ρ [sQ a b, sQ c d] [] cont = cont (shQ (op2 tms (a, b) (c, d))) [] := by kernel_rfl
theorem orc_plus : OrcOK NN Tryz.prog 55 (qqO pls) :=
  OrcOK.of_tale (cR_ok (A := Ash) (fuel := 20) ptE_ok rfl Tryz.func55 (by kernel_rfl)) fun ρ args H cont r hr => by
    unfold qqO at hr
    split at hr
    · exact (gq55 cont _ _ _ _).trans hr
    · contradiction
theorem orc_times : OrcOK NN Tryz.prog 56 (qqO tms) :=
  OrcOK.of_tale (cR_ok (A := Ash) (fuel := 20) ptE_ok rfl Tryz.func56 (by kernel_rfl)) fun ρ args H cont r hr => by
    unfold qqO at hr
    split at hr
    · exact (gq56 cont _ _ _ _).trans hr
    · contradiction
theorem orc_minus2 : OrcOK NN Tryz.prog 40 (qqO mns) :=
  OrcOK.of_tale orc_minus fun ρ args H cont r hr => by
    unfold qqO at hr
    split at hr
    · exact hr
    · contradiction
def W4.x (v : W4) : Int × Int := (v.a, v.b)
def W4.y (v : W4) : Int × Int := (v.c, v.d)
def diQ (a b : W4) : Int × Int := op2 pls (op2 tms (op2 mns a.x b.x) (op2 mns a.x b.x)) (op2 tms (op2 mns a.y b.y) (op2 mns a.y b.y))
def diV (a b : W4) (d : Int × Int) (more : Int) : Bool := bif !qOkB (diQ a b).1 (diQ a b).2 then true else bif qcmV (diQ a b).1 (diQ a b).2 d.1 d.2 == 0 then true else qcmV (diQ a b).1 (diQ a b).2 d.1 d.2 == more
theorem di_ex (a b : W4) (d : Int × Int) (m : Int) : ∃ x : Bool, x = diV a b d m := ⟨_, rfl⟩
noncomputable def diF (a b : W4) (d : Int × Int) (m : Int) : Bool := (di_ex a b d m).choose
theorem diF_eq (a b : W4) (d : Int × Int) (m : Int) : diF a b d m = diV a b d m := (di_ex a b d m).choose_spec
noncomputable def diO : Orc := fun ρ args H cont => match args, H with
  | [.v true [.int .i64 a, .int .i64 b, .int .i64 c, .int .i64 d], .v true [.int .i64 e, .int .i64 f, .int .i64 g, .int .i64 h], .v true [.int .i64 i, .int .i64 j], .v false [.int .i64 m]], [] => cont (one (.bool (diF ⟨a, b, c, d⟩ ⟨e, f, g, h⟩ (i, j) m))) []
  | _, _ => none
noncomputable def diE : Env := VL tryT [] [(40, qqO mns), (55, qqO pls), (56, qqO tms), (13, qOkO), (42, qcmO)]
theorem diE_ok : EnvOK NN Tryz.prog diE := VL_ok (TabOk.of tryT_ok) (gamC orc_minus2 Tryz.call40 (gamC orc_plus Tryz.call55 (gamC orc_times Tryz.call56 (gamC (orc64 NN) Tryz.call13 (gamC orc_scmp Tryz.call42 (gamN _ _))))))
theorem gq53 {ρ : Type} (cont : SV -> HL -> Option ρ) (a b : W4) (d : Int × Int) (m : Int) : runF diE Ash 20 Tryz.f53 (bodyOf Tryz.f53) ρ [a.sv, b.sv, shQ d, one (.int .i64 m)] [] cont =
    bif !qOkB (diQ a b).1 (diQ a b).2 then cont (one (.bool true)) [] else bif qcmV (diQ a b).1 (diQ a b).2 d.1 d.2 == 0 then cont (one (.bool true)) [] else cont (one (.bool (bif false then true else qcmV (diQ a b).1 (diQ a b).2 d.1 d.2 == m))) [] := by kernel_rfl
theorem orc_dist : OrcOK NN Tryz.prog 53 diO :=
  OrcOK.of_tale (cR_ok (A := Ash) (fuel := 20) diE_ok rfl Tryz.func53 (by kernel_rfl)) fun ρ args H cont r hr => by
    unfold diO at hr
    split at hr
    · rename_i a b c d e f g h i j m
      refine (gq53 cont ⟨a, b, c, d⟩ ⟨e, f, g, h⟩ (i, j) m).trans ?_
      rw [diF_eq] at hr
      unfold diV at hr
      cases h1 : qOkB (diQ ⟨a, b, c, d⟩ ⟨e, f, g, h⟩).1 (diQ ⟨a, b, c, d⟩ ⟨e, f, g, h⟩).2
      · rw [h1] at hr; exact hr
      · rw [h1] at hr
        cases h2 : qcmV (diQ ⟨a, b, c, d⟩ ⟨e, f, g, h⟩).1 (diQ ⟨a, b, c, d⟩ ⟨e, f, g, h⟩).2 i j == 0
        · rw [h2] at hr; exact hr
        · rw [h2] at hr; exact hr
    · contradiction
theorem op_fitQ {g : Int -> Int -> Int -> Int -> Bool} {f : Rat -> Rat -> Rat} {a b c d : Int} (h : qOkB (opN g f a b c d) (opD g f a b c d) = true) : opT g f a b c d = true := by
  cases hg : g a b c d
  · exact absurd h (by rw [(op_no hg).2.1, (op_no hg).2.2]; decide)
  · unfold opT opN opD at *
    rw [hg] at h ⊢
    cases hf : qFit (f (Rat.divInt a b) (Rat.divInt c d))
    · have hf' : ¬ ((f (Rat.divInt a b) (Rat.divInt c d)).num.natAbs <= 1000000000000000000 /\ (f (Rat.divInt a b) (Rat.divInt c d)).den <= 1000000000000000000) := of_decide_eq_false hf
      exact absurd h (by unfold qNum qDen; rw [if_neg hf', if_neg hf']; decide)
    · rfl
theorem qcm_eq {x y u v : Int} (h1 : qOkB x y = true) (h2 : qOkB u v = true) : qcmV x y u v = cmpQ (Rat.divInt x y) (Rat.divInt u v) := by
  unfold qcmV; rw [ok2_of h1 h2]; rfl
theorem op2_val {f : Rat -> Rat -> Rat} {x y : Int × Int} (h : qOkB (op2 f x y).1 (op2 f x y).2 = true) : (qOkB x.1 x.2 = true /\ qOkB y.1 y.2 = true) /\ Rat.divInt (op2 f x y).1 (op2 f x y).2 = f (Rat.divInt x.1 x.2) (Rat.divInt y.1 y.2) := by
  have hT := op_fitQ h
  exact ⟨of_ok2 (opT_g hT), (op_fit hT).2⟩
theorem diQ_val {a b : W4} (h : qOkB (diQ a b).1 (diQ a b).2 = true) : Rat.divInt (diQ a b).1 (diQ a b).2 = dsP a.pl b.pl := by
  obtain ⟨⟨h1, h2⟩, e⟩ := op2_val h
  obtain ⟨⟨h3, _⟩, e1⟩ := op2_val h1
  obtain ⟨⟨h4, _⟩, e2⟩ := op2_val h2
  obtain ⟨_, e3⟩ := op2_val h3
  obtain ⟨_, e4⟩ := op2_val h4
  rw [show Rat.divInt (diQ a b).1 (diQ a b).2 = _ from e, e1, e2, e3, e4]
  rfl
theorem di_0 {a b : W4} {d : Int × Int} (hd : qOkB d.1 d.2 = true) (h : dsP a.pl b.pl = Rat.divInt d.1 d.2) : diF a b d 0 = true := by
  rw [diF_eq]
  unfold diV
  cases hq : qOkB (diQ a b).1 (diQ a b).2
  · rfl
  · rw [qcm_eq hq hd, diQ_val hq, h, cmpQ_eq.2 rfl]
    rfl
theorem cmpQ_one {p q : Rat} (h : q < p) : cmpQ p q = 1 := by
  have := cmpQ_gt.2 h
  unfold cmpQ at *
  rw [Int.sign_eq_one_of_pos (Int.sign_pos_iff.1 this)]
theorem di_1 {a b : W4} {d : Int × Int} (hd : qOkB d.1 d.2 = true) (h : Rat.divInt d.1 d.2 <= dsP a.pl b.pl) : diF a b d 1 = true := by
  rw [diF_eq]
  unfold diV
  cases hq : qOkB (diQ a b).1 (diQ a b).2
  · rfl
  · rw [qcm_eq hq hd, diQ_val hq]
    by_cases he : dsP a.pl b.pl = Rat.divInt d.1 d.2
    · rw [cmpQ_eq.2 he]; rfl
    · rw [cmpQ_one (by grind)]; rfl
end Go.Abs
namespace Go.Abs
open Go.Proofs
set_option maxRecDepth 100000
structure D1 where
  v : W4
  s : S8
instance : Inhabited D1 := ⟨⟨default, default⟩⟩
def D1.sv (d : D1) : SV := .tup [(true, d.v.ats), (true, d.s.ats)]
noncomputable def dF : Env := VL tryT [] [(75, cR rE Ash 5 Tryz.f75), (124, rO S8.sv segF), (220, rO W4.sv anyVF), (78, nO shB onceF), (125, segO), (128, vO 1), (77, nO shI belowF), (129, rfO), (127, atO), (126, toV 1)]
theorem dF_ok : EnvOK NN Tryz.prog dF := VL_ok (TabOk.of tryT_ok) (gamC (cR_ok rE_ok rfl Tryz.func75 (by kernel_rfl)) Tryz.call75 (gamC orc_seg Tryz.call124 (gamC orc_anyV Tryz.call220 (gamC orc_once Tryz.call78 (gamC orc_segS Tryz.call125 (gamC orc163 Tryz.call128 (gamC orc_below Tryz.call77 (gamC orc_rf Tryz.call129
  (gamC orc_at Tryz.call127 (gamC orc76 Tryz.call126 (gamN _ _)))))))))))
section
variable {ρ : Type} (cont : SV -> HL -> Option ρ) (xs : List Int)
noncomputable def dsX (s : S8) (v : W4) (p : Int) : Option ρ := gdX xs s p fun a => bif fitP a then cont (D1.sv ⟨wOf a, s⟩) [] else cont (D1.sv ⟨v, s⟩) []
theorem drw140 : runF dF Ash 20 Tryz.f140 (bodyOf Tryz.f140) ρ [one (.sl none (.int .u8) xs)] [] cont =
    if rdOkB xs 0 = true then (if rdOkB xs (segF xs 0).2 = true then (if rdOkB xs (anyVF xs (segF xs 0).2).2 = true then
      (bif (onceF xs (anyVF xs (segF xs 0).2).2 2).1 then (bif bif true then (segF xs 0).1.ok else false then dsX cont xs (segF xs 0).1 (anyVF xs (segF xs 0).2).1 (onceF xs (anyVF xs (segF xs 0).2).2 2).2 else cont (D1.sv ⟨(anyVF xs (segF xs 0).2).1, (segF xs 0).1⟩) [])
        else cont (D1.sv ⟨(anyVF xs (segF xs 0).2).1, (segF xs 0).1⟩) []) else none) else none) else none := by kernel_rfl
end
theorem onseg_draw : ∃ f, OrcOK NN Tryz.prog 140 (bO D1.sv f) :=
  bO_ok (cR_ok (A := Ash) (fuel := 20) dF_ok rfl Tryz.func140 (by kernel_rfl)) D1.sv fun xs h => by
    have h1 := segP h
    have h2 := anyVP h1
    have h3 := onceP (n := 2) h2
    exact End0.eq (End0.ite h (End0.ite h1 (End0.ite h2 (End0.bif (End0.bifc (fun hs : (segF xs 0).1.ok = true => gdX_end hs h3 fun a => End0.bif (End0.fin _) (End0.fin _)) (End0.fin _)) (End0.fin _))))) fun ρ cont => drw140 cont xs
noncomputable def dG (f : List Int -> D1) : Env := VL tryT [] [(140, bO D1.sv f)]
theorem near_draw2 : ∃ f, OrcOK NN Tryz.prog 48 (bO D1.sv f) := by
  obtain ⟨f, hf⟩ := onseg_draw
  have hV : EnvOK NN Tryz.prog (dG f) := VL_ok (TabOk.of tryT_ok) (gamC hf Tryz.call140 (gamN _ _))
  refine bO_ok (cR_ok (A := Ash) (fuel := 20) hV rfl Tryz.func48 (by kernel_rfl)) D1.sv fun xs h => ?_
  have e : ∀ ρ (cont : SV -> HL -> Option ρ), runF (dG f) Ash 20 Tryz.f48 (bodyOf Tryz.f48) ρ [one (.sl none (.int .u8) xs)] [] cont = if rdOkB xs 0 = true then cont (f xs).sv [] else none := fun ρ cont => by kernel_rfl
  exact End0.eq (End0.ite h (End0.fin _)) e
noncomputable def lE9 (f : List Int -> D1) : Env := VL tryT [] [(10, cR rE Ash 5 Tryz.f10), (48, bO D1.sv f), (49, vsO N5.sv nvV), (50, vsO N5.sv nvV), (51, vsO N3.sv dqV), (52, vsO N3.sv dqV), (54, vsO N5.sv fvV), (46, onO), (53, diO), (40, qqO mns), (55, qqO pls), (56, qqO tms), (13, qOkO), (57, trO), (15, livesO)]
theorem lE9_ok {f : List Int -> D1} (hf : OrcOK NN Tryz.prog 48 (bO D1.sv f)) : EnvOK NN Tryz.prog (lE9 f) := VL_ok (TabOk.of tryT_ok) (gamC (cR_ok rE_ok rfl Tryz.func10 (by kernel_rfl)) Tryz.call10 (gamC hf Tryz.call48 (gamC orc_nearVI Tryz.call49 (gamC orc_nearVS Tryz.call50 (gamC orc_distI Tryz.call51 (gamC orc_distS Tryz.call52
  (gamC orc_footV Tryz.call54 (gamC orc_on Tryz.call46 (gamC orc_dist Tryz.call53 (gamC orc_minus2 Tryz.call40 (gamC orc_plus Tryz.call55 (gamC orc_times Tryz.call56 (gamC (orc64 NN) Tryz.call13 (gamC orc_turn Tryz.call57 (gamC lives_ok Tryz.call15 (gamN _ _))))))))))))))))
section
variable {ρ : Type} (K : Bool -> Option ρ) (v : W4) (s : S8) (n : N5) (q : N3) (f : N5)
def dot9 : Int × Int := op2 pls (op2 tms (op2 mns f.w.x v.x) (op2 mns s.Q.x s.P.x)) (op2 tms (op2 mns f.w.y v.y) (op2 mns s.Q.y s.P.y))
noncomputable def end9 : Option ρ := bif !qOkB (dot9 v s f).1 (dot9 v s f).2 then K (bif true then trF s.P s.Q f.w == 0 else false) else bif bif true then bif false then true else (dot9 v s f).1 == 0 else false then K (bif true then trF s.P s.Q f.w == 0 else false) else K false
noncomputable def all9 : Option ρ :=
  bif n.t != n.t then K false else bif q.t != q.t then K false else bif !n.t then K true else bif bif false then true else !q.t then K true else
  bif !onS n.w s then K false else bif bif false then true else !diF v n.w (q.a, q.b) 0 then K false else bif bif false then true else !diF v s.P (q.a, q.b) 1 then K false else bif bif false then true else !diF v s.Q (q.a, q.b) 1 then K false else
  bif !f.t then K true else end9 K v s f
end
theorem gq9 {ρ : Type} (cont : SV -> HL -> Option ρ) (f : List Int -> D1) (xs : List Int) : runF (lE9 f) Ash 0 Tryz.f9 (bodyOf Tryz.f9) ρ [one (.sl none (.int .u8) xs)] [] cont =
    bif decide (1048576 < (xs.length : Int)) then cont (one (.bool true)) [] else if rdOkB xs 0 = true then all9 (fun o => cont (one (.bool o)) []) (f xs).v (f xs).s (vsH nvV (f xs).v (f xs).s) (vsH dqV (f xs).v (f xs).s) (vsH fvV (f xs).v (f xs).s) else none := by kernel_rfl
end Go.Abs
namespace Go.Abs
open Go.Proofs
set_option maxRecDepth 100000
theorem of_pl {p : Pl} (h : fitP p = true) : (N5.of p).w.ok = true /\ (N5.of p).w.pl = p := by
  have k := fit_pl h
  have e : (N5.of p).w = ⟨qNum p.x, qDen p.x, qNum p.y, qDen p.y⟩ := by
    unfold N5.of wOf vI
    unfold fitP at h
    rw [h]; rfl
  rw [e]; exact k
theorem vs_real {v : W4} {s : S8} {F : Pl} (h : (vsV (⟨⟨0, 0, 0, 0⟩, false⟩ : N5) v s (N5.of F)).t = true) : (v.ok = true /\ s.ok = true) /\ fitP F = true /\ vsV (⟨⟨0, 0, 0, 0⟩, false⟩ : N5) v s (N5.of F) = N5.of F := by
  unfold vsV at h ⊢
  by_cases hk : v.ok = true /\ s.ok = true
  · rw [if_pos hk] at h ⊢
    exact ⟨hk, h, rfl⟩
  · rw [if_neg hk] at h
    cases h
theorem S8.okP {s : S8} (h : s.ok = true) : (s.P.ok = true /\ s.P.pl = s.p) /\ s.Q.ok = true /\ s.Q.pl = s.q := by
  have h' : segB s.a s.b s.c s.d s.e s.f s.g s.h = true := h
  unfold segB at h'
  cases h1 : vOkB s.a s.b s.c s.d
  · rw [h1] at h'; contradiction
  · cases h2 : vOkB s.e s.f s.g s.h
    · rw [h1, h2] at h'; contradiction
    · exact ⟨⟨h1, rfl⟩, h2, rfl⟩
theorem end9_eq {ρ : Type} (K : Bool -> Option ρ) (v : W4) (s : S8) (h : (vsH fvV v s).t = true) : end9 K v s (vsH fvV v s) = K true := by
  rw [vsH_eq] at h ⊢
  obtain ⟨⟨h1, h2⟩, hf, e⟩ := vs_real (F := wayP s.p s.q (ftP v.pl s.p s.q)) h
  have e' : fvV v s = N5.of (wayP s.p s.q (ftP v.pl s.p s.q)) := e
  rw [e']
  obtain ⟨f1, f2⟩ := of_pl hf
  obtain ⟨⟨p1, p2⟩, q1, q2⟩ := S8.okP h2
  have hne := (okQ_of h2).2
  have ht : trF s.P s.Q (N5.of (wayP s.p s.q (ftP v.pl s.p s.q))).w = 0 := by
    rw [trF_eq]
    unfold trV
    rw [if_pos ⟨p1, q1, f1⟩, f2, p2, q2, foot_line]
    rfl
  unfold end9
  rw [ht]
  generalize hd : dot9 v s (N5.of (wayP s.p s.q (ftP v.pl s.p s.q))) = d
  cases hq : qOkB d.1 d.2
  · rfl
  · have hq' := hq
    rw [<- hd] at hq'
    obtain ⟨⟨k1, k2⟩, v0⟩ := op2_val hq'
    obtain ⟨⟨k3, k4⟩, v1⟩ := op2_val k1
    obtain ⟨⟨k5, k6⟩, v2⟩ := op2_val k2
    obtain ⟨_, v3⟩ := op2_val k3
    obtain ⟨_, v4⟩ := op2_val k4
    obtain ⟨_, v5⟩ := op2_val k5
    obtain ⟨_, v6⟩ := op2_val k6
    rw [v1, v2, v3, v4, v5, v6] at v0
    have hv : Rat.divInt d.1 d.2 = 0 := by
      rw [<- hd]
      refine Eq.trans v0 ?_
      have := foot_up (p := v.pl) hne
      rw [<- f2] at this
      exact this
    have h0 : d.1 = 0 := by
      obtain ⟨r1, _⟩ := q_rt hq
      rw [hv] at r1
      exact r1.symm
    rw [h0]
    rfl
theorem all9_eq {ρ : Type} (K : Bool -> Option ρ) (v : W4) (s : S8) : all9 K v s (vsH nvV v s) (vsH dqV v s) (vsH fvV v s) = K true := by
  unfold all9
  rw [bne_self_eq_false, bne_self_eq_false, cond_false, cond_false]
  have hend : (bif !(vsH fvV v s).t then K true else end9 K v s (vsH fvV v s)) = K true := by
    cases h : (vsH fvV v s).t
    · rfl
    · rw [Bool.not_true, cond_false]; exact end9_eq K v s h
  rw [hend]
  cases hn : (vsH nvV v s).t
  · rfl
  · cases hq : (vsH dqV v s).t
    · rfl
    · rw [vsH_eq] at hn hq ⊢
      rw [vsH_eq]
      obtain ⟨⟨h1, h2⟩, hf, e⟩ := vs_real (F := nrP v.pl s.p s.q) hn
      have e' : nvV v s = N5.of (nrP v.pl s.p s.q) := e
      have eq' : dqV v s = N3.of (dsP v.pl (nrP v.pl s.p s.q)) := if_pos ⟨h1, h2⟩
      rw [eq'] at hq ⊢
      rw [e']
      obtain ⟨f1, f2⟩ := of_pl hf
      obtain ⟨⟨p1, p2⟩, q1, q2⟩ := S8.okP h2
      have hne := (okQ_of h2).2
      obtain ⟨d1, d2⟩ := fit_ok (show qFit (dsP v.pl (nrP v.pl s.p s.q)) = true from hq)
      obtain ⟨m1, m2⟩ := nr_min (p := v.pl) hne
      have t1 : onS (N5.of (nrP v.pl s.p s.q)).w s = true := onS_iff.2 ⟨f1, h2, by rw [f2]; exact nr_on hne⟩
      have t2 : diF v (N5.of (nrP v.pl s.p s.q)).w (qNum (dsP v.pl (nrP v.pl s.p s.q)), qDen (dsP v.pl (nrP v.pl s.p s.q))) 0 = true := di_0 d1 (by rw [f2]; exact d2.symm)
      have t3 : diF v s.P (qNum (dsP v.pl (nrP v.pl s.p s.q)), qDen (dsP v.pl (nrP v.pl s.p s.q))) 1 = true := di_1 d1 (by rw [p2]; show Rat.divInt (qNum (dsP v.pl (nrP v.pl s.p s.q))) (qDen (dsP v.pl (nrP v.pl s.p s.q))) <= _; rw [d2]; exact m1)
      have t4 : diF v s.Q (qNum (dsP v.pl (nrP v.pl s.p s.q)), qDen (dsP v.pl (nrP v.pl s.p s.q))) 1 = true := di_1 d1 (by rw [q2]; show Rat.divInt (qNum (dsP v.pl (nrP v.pl s.p s.q))) (qDen (dsP v.pl (nrP v.pl s.p s.q))) <= _; rw [d2]; exact m2)
      show (bif !onS (N5.of (nrP v.pl s.p s.q)).w s then K false else bif bif false then true else !diF v (N5.of (nrP v.pl s.p s.q)).w (qNum (dsP v.pl (nrP v.pl s.p s.q)), qDen (dsP v.pl (nrP v.pl s.p s.q))) 0 then K false else
        bif bif false then true else !diF v s.P (qNum (dsP v.pl (nrP v.pl s.p s.q)), qDen (dsP v.pl (nrP v.pl s.p s.q))) 1 then K false else bif bif false then true else !diF v s.Q (qNum (dsP v.pl (nrP v.pl s.p s.q)), qDen (dsP v.pl (nrP v.pl s.p s.q))) 1 then K false else K true) = K true
      rw [t1, t2, t3, t4]
      rfl
theorem fe_law : OrcOK NN Tryz.prog 9 lawO1 := by
  obtain ⟨f, hf⟩ := near_draw2
  exact OrcOK.of_tale (cR_ok (A := Ash) (fuel := 0) (lE9_ok hf) rfl Tryz.func9 (by kernel_rfl)) fun ρ args H cont r h => by
    unfold lawO1 at h
    split at h
    · rename_i xs
      split at h
      · rename_i hb
        refine (gq9 cont f xs).trans ?_
        by_cases h1 : (1048576 : Int) < List.length (α := Int) xs
        · rw [decide_eq_true h1]; exact h
        · rw [decide_eq_false h1, cond_false, if_pos (rdOk_iff.2 ⟨hb, by omega, by omega, by omega⟩), all9_eq]
          exact h
      · contradiction
    · contradiction
end Go.Abs

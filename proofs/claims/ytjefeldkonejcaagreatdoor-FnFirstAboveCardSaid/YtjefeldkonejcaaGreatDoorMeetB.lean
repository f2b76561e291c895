/-
  A PART OF THE PROOF of AbI (texts MeetB MeetC MeetD MeetE MeetF MeetG DrwC DrwD DrwE MeetH MeetI LstA): the claim itself stands in the last text. No conditions beside those of the given row.
-/
import Derived.Test.YtjefeldkonejcaaGreatDoorDrwA
import Derived.Test.YtjefeldkonejcaaGreatDoorTryA
set_option linter.unusedVariables false
set_option linter.unnecessarySimpa false
set_option linter.unusedSimpArgs false
namespace Go.Abs
open Go.Proofs
set_option maxRecDepth 100000
noncomputable def mC : Env := VL tryT [] [(47, vOkO), (59, segO), (48, ps8 0), (50, vO 0), (61, pt2 0 fun a b c d => one (.int .i64 (cmpP a b c d))), (122, ap4), (123, cR mB Ash 20 Tryz.f123), (54, vOkO), (112, segO), (56, vO 1), (169, pt2 1 fun a b c d => one (.int .i64 (cmpP a b c d)))]
theorem mC_ok : EnvOK NN Tryz.prog mC := VL_ok (TabOk.of tryT_ok) (gamC orc_vokI Tryz.call47 (gamC orc_segI Tryz.call59 (gamC orc_psg Tryz.call48 (gamC orc135 Tryz.call50 (gamC orc98 Tryz.call61 (gamC orc_ap Tryz.call122 (gamC (cR_ok mB_ok rfl Tryz.func123 (by kernel_rfl)) Tryz.call123
  (gamC orc162 Tryz.call54 (gamC orc_segS Tryz.call112 (gamC orc163 Tryz.call56 (gamC orc130 Tryz.call169 (gamN _ _))))))))))))
def s8 (q : Rat) : Bool := decide ((words q.num.natAbs).length < 8) && decide ((words q.den).length < 8)
theorem s8_ok {q : Rat} (h : s8 q = true) : szN 8 q := by simpa [s8, szN] using h
theorem szN.qq {B : Nat} {q : Rat} (h : szN B q) (hB : B <= 100000000) : szQ q = true := (h.mono hB).q
theorem szN.mm {B : Nat} {q : Rat} (h : szN B q) (hB : B <= 1000000) : szM q = true := (h.mono hB).m
theorem s8_q {a b : Int} (h : qOkB a b = true) : s8 (Rat.divInt a b) = true := by
  obtain ⟨h1, h2⟩ := (show (Rat.divInt a b).num.natAbs <= 1000000000000000000 /\ (Rat.divInt a b).den <= 1000000000000000000 by
    obtain ⟨h1, h2, h3, h4, h5⟩ := qOkB_iff.1 h; have := divInt_le (n := a) (d := b) (by omega); exact ⟨by omega, by omega⟩)
  have w1 := words_small (n := (Rat.divInt a b).num.natAbs) (by omega); have w2 := words_small (n := (Rat.divInt a b).den) (by omega); unfold s8; rw [decide_eq_true (by omega), decide_eq_true (by omega)]; rfl
def hasO : Orc := fun ρ args H cont => match args, H with
  | [.v true [.num 0 (some a), .num 0 (some b), .num 0 (some c), .num 0 (some d)], .v true [.num 0 (some x), .num 0 (some y)]], [] => if (s8 a = true /\ s8 b = true) /\ (s8 c = true /\ s8 d = true) /\ s8 x = true /\ s8 y = true then cont (one (.bool (decide (onP ⟨x, y⟩ ⟨a, b⟩ ⟨c, d⟩)))) [] else none
  | _, _ => none
theorem gq137 {ρ : Type} (cont : SV -> HL -> Option ρ) (a b c d x y : Rat) : runF mC Ash 20 Tryz.f60 (bodyOf Tryz.f60) ρ [seS 0 a b c d, pS 0 x y] [] cont =
    if szQ a = true /\ szQ c = true /\ szQ x = true /\ szQ x = true then (bif !decide (apP a c x x) then (if szQ b = true /\ szQ d = true /\ szQ y = true /\ szQ y = true then (bif bif true then !decide (apP b d y y) else false then
      (if (0 = 0 /\ 0 = 0 /\ 0 = 0 /\ 0 = 0) /\ szM c = true /\ szM d = true /\ szM a = true /\ szM b = true then (if (0 = 0 /\ 0 = 0 /\ 0 = 0 /\ 0 = 0) /\ szM x = true /\ szM y = true /\ szM a = true /\ szM b = true then
        (if (szQ (c - a) && szQ (y - b)) = true then (if (szQ (d - b) && szQ (x - a)) = true then (if (szQ ((c - a) * (y - b)) && szQ ((d - b) * (x - a))) = true then (if szQ ((c - a) * (y - b) - (d - b) * (x - a)) = true then
          cont (one (.bool (bif true then ((c - a) * (y - b) - (d - b) * (x - a)).num.sign == 0 else false))) [] else none) else none) else none) else none) else none) else none)
      else cont (one (.bool false)) []) else none) else cont (one (.bool false)) []) else none := by kernel_rfl
theorem ap_btw {a c x : Rat} : ¬ apP a c x x ↔ btw x a c := by unfold apP btw; grind
theorem orc_has : OrcOK NN Tryz.prog 60 hasO :=
  OrcOK.of_tale (cR_ok (A := Ash) (fuel := 20) mC_ok rfl Tryz.func60 (by kernel_rfl)) fun ρ args H cont r h => by
    unfold hasO at h; split at h
    · rename_i a b c d x y; split at h
      · rename_i hc; obtain ⟨⟨ha, hb⟩, ⟨hc, hd⟩, hx, hy⟩ := hc; have ha := s8_ok ha; have hb := s8_ok hb; have hc := s8_ok hc; have hd := s8_ok hd; have hx := s8_ok hx; have hy := s8_ok hy; refine (gq137 cont a b c d x y).trans ?_; rw [if_pos ⟨ha.qq (by omega), hc.qq (by omega), hx.qq (by omega), hx.qq (by omega)⟩]
        by_cases h1 : btw x a c
        · have e1 : (!decide (apP a c x x)) = true := by rw [decide_eq_false (ap_btw.2 h1)]; rfl
          rw [e1, cond_true, if_pos ⟨hb.qq (by omega), hd.qq (by omega), hy.qq (by omega), hy.qq (by omega)⟩]
          by_cases h2 : btw y b d
          · have e2 : (!decide (apP b d y y)) = true := by rw [decide_eq_false (ap_btw.2 h2)]; rfl
            have q1 := hc.sub ha; have q2 := hy.sub hb; have q3 := hd.sub hb; have q4 := hx.sub ha; have m1 := q1.mul q2; have m2 := q3.mul q4; rw [e2, cond_true, cond_true, if_pos ⟨⟨rfl, rfl, rfl, rfl⟩, hc.mm (by omega), hd.mm (by omega), ha.mm (by omega), hb.mm (by omega)⟩, if_pos ⟨⟨rfl, rfl, rfl, rfl⟩, hx.mm (by omega), hy.mm (by omega), ha.mm (by omega), hb.mm (by omega)⟩,
              if_pos (both (q1.qq (by omega)) (q2.qq (by omega))), if_pos (both (q3.qq (by omega)) (q4.qq (by omega))), if_pos (both (m1.qq (by omega)) (m2.qq (by omega))), if_pos ((m1.sub m2).qq (by omega)), cond_true, beq_dec0]
            have : onP ⟨x, y⟩ ⟨a, b⟩ ⟨c, d⟩ ↔ (((c - a) * (y - b) - (d - b) * (x - a)).num.sign = 0) := by
              rw [sgnQ_eq]; exact ⟨fun h => h.2.2, fun h => ⟨h1, h2, h⟩⟩
            rw [decide_eq_decide.2 this] at h; exact h
          · have e2 : (!decide (apP b d y y)) = false := by rw [decide_eq_true (Decidable.not_not.1 fun e => h2 (ap_btw.1 e))]; rfl
            rw [e2, cond_true, cond_false]; rw [decide_eq_false (fun e : onP ⟨x, y⟩ ⟨a, b⟩ ⟨c, d⟩ => h2 e.2.1)] at h; exact h
        · have e1 : (!decide (apP a c x x)) = false := by rw [decide_eq_true (Decidable.not_not.1 fun e => h1 (ap_btw.1 e))]; rfl
          rw [e1, cond_false]; rw [decide_eq_false (fun e : onP ⟨x, y⟩ ⟨a, b⟩ ⟨c, d⟩ => h1 e.1)] at h; exact h
      · contradiction
    · contradiction
noncomputable def mD : Env := VL tryT [] [(47, vOkO), (59, segO), (48, ps8 0), (50, vO 0), (60, hasO)]
theorem mD_ok : EnvOK NN Tryz.prog mD := VL_ok (TabOk.of tryT_ok) (gamC orc_vokI Tryz.call47 (gamC orc_segI Tryz.call59 (gamC orc_psg Tryz.call48 (gamC orc135 Tryz.call50 (gamC orc_has Tryz.call60 (gamN _ _))))))
def plV (a b c d : Int) : Pl := ⟨Rat.divInt a b, Rat.divInt c d⟩
def onB (p q r s a b c d e f g h : Int) : Bool := bif vOkB p q r s then bif segB a b c d e f g h then decide (onP (plV p q r s) (plV a b c d) (plV e f g h)) else false else false
def onO : Orc := fun ρ args H cont => match args, H with
  | [.v true [.int .i64 p, .int .i64 q, .int .i64 r, .int .i64 s], .v true [.int .i64 a, .int .i64 b, .int .i64 c, .int .i64 d, .int .i64 e, .int .i64 f, .int .i64 g, .int .i64 h]], [] => cont (one (.bool (onB p q r s a b c d e f g h))) []
  | _, _ => none
theorem vOk_q {a b c d : Int} (h : vOkB a b c d = true) : qOkB a b = true /\ qOkB c d = true := by
  unfold vOkB at h; cases h1 : qOkB a b
  · rw [h1] at h; contradiction
  · rw [h1] at h; exact ⟨rfl, h⟩
theorem seg_q {a b c d e f g h : Int} (hs : segB a b c d e f g h = true) : ((qOkB a b = true /\ qOkB c d = true) /\ qOkB e f = true /\ qOkB g h = true) /\ ¬ (a = e /\ b = f /\ c = g /\ d = h) := by
  unfold segB at hs; cases h1 : vOkB a b c d
  · rw [h1] at hs; contradiction
  · cases h2 : vOkB e f g h
    · rw [h1, h2] at hs; contradiction
    · rw [h1, h2] at hs; refine ⟨⟨vOk_q h1, vOk_q h2⟩, ?_⟩
      rintro ⟨rfl, rfl, rfl, rfl⟩
      simp at hs
theorem plV_inj {a b c d e f g h : Int} (h1 : (qOkB a b = true /\ qOkB c d = true) /\ qOkB e f = true /\ qOkB g h = true) (he : plV a b c d = plV e f g h) : a = e /\ b = f /\ c = g /\ d = h := by
  obtain ⟨⟨k1, k2⟩, k3, k4⟩ := h1; have ex : Rat.divInt a b = Rat.divInt e f := congrArg Pl.x he; have ey : Rat.divInt c d = Rat.divInt g h := congrArg Pl.y he; obtain ⟨a1, a2⟩ := q_rt k1; obtain ⟨b1, b2⟩ := q_rt k2; obtain ⟨c1, c2⟩ := q_rt k3; obtain ⟨d1, d2⟩ := q_rt k4; rw [ex] at a1 a2; rw [ey] at b1 b2; omega
theorem gq46 {ρ : Type} (cont : SV -> HL -> Option ρ) (p q r s a b c d e f g h : Int) : runF mD Ash 20 Tryz.f16 (bodyOf Tryz.f16) ρ [sV p q r s, sG a b c d e f g h] [] cont =
    bif vOkB p q r s then (bif bif true then segB a b c d e f g h else false then (if (qOkB a b = true /\ qOkB c d = true) /\ qOkB e f = true /\ qOkB g h = true then (if qOkB p q = true /\ qOkB r s = true then
      (if (s8 (Rat.divInt a b) = true /\ s8 (Rat.divInt c d) = true) /\ (s8 (Rat.divInt e f) = true /\ s8 (Rat.divInt g h) = true) /\ s8 (Rat.divInt p q) = true /\ s8 (Rat.divInt r s) = true then
        cont (one (.bool (bif true then decide (onP (plV p q r s) (plV a b c d) (plV e f g h)) else false))) [] else none) else none) else none) else cont (one (.bool false)) []) else cont (one (.bool false)) [] := by kernel_rfl
theorem orc_on : OrcOK NN Tryz.prog 16 onO :=
  OrcOK.of_tale (cR_ok (A := Ash) (fuel := 20) mD_ok rfl Tryz.func16 (by kernel_rfl)) fun ρ args H cont r hr => by
    unfold onO at hr; split at hr
    · rename_i p q r s a b c d e f g h; refine (gq46 cont p q r s a b c d e f g h).trans ?_; unfold onB at hr; cases h1 : vOkB p q r s
      · rw [h1] at hr; exact hr
      · cases h2 : segB a b c d e f g h
        · rw [h1, h2] at hr; exact hr
        · rw [h1, h2] at hr; obtain ⟨k, _⟩ := seg_q h2; obtain ⟨v1, v2⟩ := vOk_q h1; rw [cond_true, cond_true, cond_true, if_pos k, if_pos ⟨v1, v2⟩, if_pos ⟨⟨s8_q k.1.1, s8_q k.1.2⟩, ⟨s8_q k.2.1, s8_q k.2.2⟩, s8_q v1, s8_q v2⟩]; exact hr
    · contradiction
def cmvV (a b c d e f g h : Int) : Int := bif vOkB a b c d then bif vOkB e f g h then cmpP (Rat.divInt a b) (Rat.divInt c d) (Rat.divInt e f) (Rat.divInt g h) else 2 else 2
def cmvO : Orc := fun ρ args H cont => match args, H with
  | [.v true [.int .i64 a, .int .i64 b, .int .i64 c, .int .i64 d], .v true [.int .i64 e, .int .i64 f, .int .i64 g, .int .i64 h]], [] => cont (one (.int .i64 (cmvV a b c d e f g h))) []
  | _, _ => none
theorem gq47 {ρ : Type} (cont : SV -> HL -> Option ρ) (a b c d e f g h : Int) : runF mC Ash 20 Tryz.f17 (bodyOf Tryz.f17) ρ [sV a b c d, sV e f g h] [] cont =
    bif !vOkB a b c d then cont (one (.int .i64 2)) [] else bif bif false then true else !vOkB e f g h then cont (one (.int .i64 2)) [] else
    if qOkB a b = true /\ qOkB c d = true then (if qOkB e f = true /\ qOkB g h = true then (if (0 = 0 /\ 0 = 0 /\ 0 = 0 /\ 0 = 0) /\ szM (Rat.divInt a b) = true /\ szM (Rat.divInt c d) = true /\ szM (Rat.divInt e f) = true /\ szM (Rat.divInt g h) = true then
      cont (one (.int .i64 (cmpP (Rat.divInt a b) (Rat.divInt c d) (Rat.divInt e f) (Rat.divInt g h)))) [] else none) else none) else none := by kernel_rfl
theorem s8_M {q : Rat} (h : s8 q = true) : szM q = true := (s8_ok h).mm (by omega)
theorem orc_cmv : OrcOK NN Tryz.prog 17 cmvO :=
  OrcOK.of_tale (cR_ok (A := Ash) (fuel := 20) mC_ok rfl Tryz.func17 (by kernel_rfl)) fun ρ args H cont r hr => by
    unfold cmvO at hr; split at hr
    · rename_i a b c d e f g h; refine (gq47 cont a b c d e f g h).trans ?_; unfold cmvV at hr; cases h1 : vOkB a b c d
      · rw [h1] at hr; exact hr
      · cases h2 : vOkB e f g h
        · rw [h1, h2] at hr; exact hr
        · rw [h1, h2] at hr; obtain ⟨v1, v2⟩ := vOk_q h1; obtain ⟨w1, w2⟩ := vOk_q h2; rw [Bool.not_true, cond_false, cond_false, cond_false, if_pos ⟨v1, v2⟩, if_pos ⟨w1, w2⟩, if_pos ⟨⟨rfl, rfl, rfl, rfl⟩, s8_M (s8_q v1), s8_M (s8_q v2), s8_M (s8_q w1), s8_M (s8_q w2)⟩]; exact hr
    · contradiction
end Go.Abs
namespace Go.Abs
open Go.Proofs
set_option maxRecDepth 100000
noncomputable def mE : Env := VL tryT [] [(122, ap4), (124, cR mA Ash 20 Tryz.f124), (125, cR mA Ash 20 Tryz.f125), (126, pt2 0 fun a b c d => pS 0 (a - c) (b - d)), (108, rat1 szQ fun q => one (.int .i64 (Int.sign q.num))), (103, up4), (61, pt2 0 fun a b c d => one (.int .i64 (cmpP a b c d))), (107, rat2 (fun p q => szQ p && szQ q && decide (q ≠ 0)) fun p q => nm 0 (p / q)), (33, intO 0), (51, rat2 (fun p q => szQ p && szQ q) fun p q => one (.int .i64 (cmpQ p q))), (128, pt1 0 fun a b c => pS 0 (a * c) (b * c)), (127, pt2 0 fun a b c d => pS 0 (a + c) (b + d))]
theorem mE_ok : EnvOK NN Tryz.prog mE := VL_ok (TabOk.of tryT_ok) (gamC orc_ap Tryz.call122 (gamC (cR_ok mA_ok rfl Tryz.func124 (by kernel_rfl)) Tryz.call124 (gamC (cR_ok mA_ok rfl Tryz.func125 (by kernel_rfl)) Tryz.call125 (gamC orc36 Tryz.call126 (gamC orc88 Tryz.call108 (gamC orc_up Tryz.call103 (gamC orc98 Tryz.call61
  (gamC orc90 Tryz.call107 (gamC orc57 Tryz.call33 (gamC orc58 Tryz.call51 (gamC orc85 Tryz.call128 (gamC orc89 Tryz.call127 (gamN _ _)))))))))))))
def ptT (k : Nat) (p : Pl) : Bool × List Atom := (true, [.num k (some p.x), .num k (some p.y)])
def noT (k : Nat) : SV := .tup [(false, [.int .i64 0]), (true, [.num k none, .num k none]), (true, [.num k none, .num k none])]
def kT (k : Nat) (n : Int) (p q : Pl) : SV := .tup [(false, [.int .i64 n]), ptT k p, ptT k q]
abbrev m4 (p q : Pl) : Prop := (0 = 0 /\ 0 = 0 /\ 0 = 0 /\ 0 = 0) /\ szM p.x = true /\ szM p.y = true /\ szM q.x = true /\ szM q.y = true
section
variable {ρ : Type} (cont : SV -> HL -> Option ρ)
def crC (a b : Pl) (K : Rat -> Option ρ) : Option ρ := if (szQ a.x && szQ b.y) = true then (if (szQ a.y && szQ b.x) = true then (if (szQ (a.x * b.y) && szQ (a.y * b.x)) = true then K (crP a b) else none) else none) else none
def tsC (t : Rat) (K : Option ρ) : Option ρ := if szQ t = true then (bif decide (t.num.sign < 0) then cont (noT 0) [] else (if (szQ t && szQ (Rat.divInt 1 1)) = true then (bif bif false then true else decide (0 < cmpQ t (Rat.divInt 1 1)) then cont (noT 0) [] else K) else none)) else none
def fiC (lo hi : Pl) : Option ρ := if m4 lo hi then (bif cmpP lo.x lo.y hi.x hi.y == -1 then cont (kT 0 2 lo hi) [] else bif cmpP lo.x lo.y hi.x hi.y == 0 then cont (kT 0 1 lo lo) [] else cont (noT 0) []) else none
def miC (lo hi y : Pl) : Option ρ := if m4 y hi then (bif decide (cmpP y.x y.y hi.x hi.y < 0) then fiC cont lo y else fiC cont lo hi) else none
def toC (p q x y : Pl) : Option ρ := if m4 x p then (bif decide (0 < cmpP x.x x.y p.x p.y) then miC cont x q y else miC cont p q y) else none
def paC (a b c d : Pl) : Option ρ := crC (sbP b a) (sbP c a) fun k => if szQ k = true then (bif k.num.sign != 0 then cont (noT 0) [] else (if szM a.x = true /\ szM a.y = true /\ szM b.x = true /\ szM b.y = true then (if szM c.x = true /\ szM c.y = true /\ szM d.x = true /\ szM d.y = true then
  toC cont (loP a b) (hiP a b) (loP c d) (hiP c d) else none) else none)) else none
def enC (a b : Pl) (t : Rat) : Option ρ := if (0 = 0 /\ 0 = 0 /\ 0 = 0) /\ szM (sbP b a).x = true /\ szM (sbP b a).y = true /\ szM t = true then (if m4 a (tmP (sbP b a) t) then cont (kT 0 1 (adP a (tmP (sbP b a) t)) (adP a (tmP (sbP b a) t))) [] else none) else none
def neC (a b c d : Pl) (den : Rat) : Option ρ := crC (sbP c a) (sbP d c) fun wv => if (szQ wv && szQ den && decide (den ≠ 0)) = true then tsC cont (wv / den) (crC (sbP c a) (sbP b a) fun wu => if (szQ wu && szQ den && decide (den ≠ 0)) = true then tsC cont (wu / den) (enC cont a b (wv / den)) else none) else none
def mtC (a b c d : Pl) : Option ρ :=
  if szQ a.x = true /\ szQ b.x = true /\ szQ c.x = true /\ szQ d.x = true then (bif decide (apP a.x b.x c.x d.x) then cont (noT 0) [] else
  if szQ a.y = true /\ szQ b.y = true /\ szQ c.y = true /\ szQ d.y = true then (bif bif false then true else decide (apP a.y b.y c.y d.y) then cont (noT 0) [] else
  if m4 b a then (if m4 d c then crC (sbP b a) (sbP d c) fun den => if m4 c a then (if szQ den = true then (bif den.num.sign == 0 then paC cont a b c d else neC cont a b c d den) else none) else none else none) else none) else none) else none
theorem gq132 (a b c d : Pl) : runF mE Ash 20 Tryz.f62 (bodyOf Tryz.f62) ρ [seS 0 a.x a.y b.x b.y, seS 0 c.x c.y d.x d.y] [] cont = mtC cont a b c d := by kernel_rfl
end
end Go.Abs
namespace Go.Abs
open Go.Proofs
set_option maxRecDepth 100000
def szP (B : Nat) (p : Pl) : Prop := szN B p.x /\ szN B p.y
theorem szP.sub {B : Nat} {p q : Pl} (hp : szP B p) (hq : szP B q) : szP (2 * B) (sbP p q) := ⟨hp.1.sub hq.1, hp.2.sub hq.2⟩
theorem szP.cr {B : Nat} {p q : Pl} (hp : szP B p) (hq : szP B q) : szN (2 * (2 * B)) (crP p q) := (hp.1.mul hq.2).sub (hp.2.mul hq.1)
theorem szN.inv {B : Nat} {q : Rat} (h : szN B q) (h0 : q ≠ 0) : szN B q⁻¹ := by
  obtain ⟨h1, h2⟩ := inv_parts h0; have e1 : q⁻¹.num.natAbs = q.den := by rw [h1]; split <;> omega
  have e2 : q⁻¹.den = q.num.natAbs := by split at h2 <;> omega
  unfold szN; rw [e1, e2]; exact ⟨h.2, h.1⟩
theorem szN.div {B : Nat} {p q : Rat} (hp : szN B p) (hq : szN B q) (h0 : q ≠ 0) : szN (2 * B) (p / q) := by
  rw [Rat.div_def]; exact hp.mul (hq.inv h0)
theorem one_one : Rat.divInt 1 1 = 1 := by decide +kernel
theorem m4_ok {B : Nat} {p q : Pl} (hp : szP B p) (hq : szP B q) (hB : B <= 1000000) : m4 p q := ⟨⟨rfl, rfl, rfl, rfl⟩, hp.1.mm hB, hp.2.mm hB, hq.1.mm hB, hq.2.mm hB⟩
section
variable {ρ : Type} (cont : SV -> HL -> Option ρ)
theorem crC_eq {B : Nat} {a b : Pl} (K : Rat -> Option ρ) (ha : szP B a) (hb : szP B b) (hB : 2 * B <= 100000000) : crC a b K = K (crP a b) := by
  unfold crC; rw [if_pos (both (ha.1.qq (by omega)) (hb.2.qq (by omega))), if_pos (both (ha.2.qq (by omega)) (hb.1.qq (by omega))), if_pos (both ((ha.1.mul hb.2).qq hB) ((ha.2.mul hb.1).qq hB))]
theorem tsC_eq {t : Rat} (K : Option ρ) (h : szQ t = true) : tsC cont t K = if t < 0 \/ 1 < t then cont (noT 0) [] else K := by
  have h1 : szQ (Rat.divInt 1 1) = true := by decide +kernel
  unfold tsC; rw [if_pos h, if_pos (both h h1), one_one]
  by_cases c1 : t < 0
  · rw [decide_eq_true (sgnQ_lt.2 c1), cond_true, if_pos (.inl c1)]
  · rw [decide_eq_false (fun e => c1 (sgnQ_lt.1 e)), cond_false, cond_false]
    by_cases c2 : 1 < t
    · rw [decide_eq_true (cmpQ_gt.2 c2), cond_true, if_pos (.inr c2)]
    · rw [decide_eq_false (fun e => c2 (cmpQ_gt.1 e)), cond_false, if_neg (fun e => e.elim c1 c2)]
def ansC (k : Nat) (m : Option (Bool × Pl × Pl)) : Option ρ := match m with
  | none => cont (noT k) []
  | some (o, p, q) => cont (kT k (bif o then 2 else 1) p q) []
theorem beqI {x y : Int} : (x == y) = decide (x = y) := by
  by_cases h : x = y
  · rw [decide_eq_true h, beq_iff_eq.2 h]
  · rw [decide_eq_false h, beq_eq_false_iff_ne.2 h]
theorem cmpP_neg {a b : Pl} : cmpP a.x a.y b.x b.y = -1 ↔ lxP a b := by
  rw [<- cmpP_lt]; unfold cmpP cmpQ; have k : ∀ x : Int, x.sign = -1 ↔ x.sign < 0 := fun x => by
    rcases Int.lt_trichotomy x 0 with h | h | h
    · rw [Int.sign_eq_neg_one_of_neg h]; omega
    · rw [h]; decide
    · rw [Int.sign_eq_one_of_pos h]; omega
  split <;> exact k _
theorem fiC_eq {lo hi : Pl} (h1 : szP 8 lo) (h2 : szP 8 hi) : fiC cont lo hi = ansC cont 0 (if lxP hi lo then none else if lo = hi then some (false, lo, lo) else some (true, lo, hi)) := by
  unfold fiC; rw [if_pos (m4_ok h1 h2 (by omega)), beqI, beqI, decide_eq_decide.2 cmpP_neg, decide_eq_decide.2 cmpP_eq]; rcases lx_tri lo hi with h | h | h
  · rw [decide_eq_true h, cond_true, if_neg (lx_asym h), if_neg (fun e => by subst e; exact lx_irr _ h)]; rfl
  · rw [decide_eq_false (fun e => by subst h; exact lx_irr _ e), cond_false, decide_eq_true h, cond_true, if_neg (fun e => by subst h; exact lx_irr _ e), if_pos h]; rfl
  · rw [decide_eq_false (lx_asym h), cond_false, decide_eq_false (fun e => by subst e; exact lx_irr _ h), cond_false, if_pos h]; rfl
theorem miC_eq {lo hi y : Pl} (h1 : szP 8 lo) (h2 : szP 8 hi) (h3 : szP 8 y) : miC cont lo hi y = fiC cont lo (mnP hi y) := by
  unfold miC mnP; rw [if_pos (m4_ok h3 h2 (by omega)), decide_eq_decide.2 cmpP_lt]
  by_cases h : lxP y hi
  · rw [decide_eq_true h, if_pos h]; rfl
  · rw [decide_eq_false h, if_neg h]; rfl
theorem toC_eq {p q x y : Pl} (h1 : szP 8 p) (h2 : szP 8 q) (h3 : szP 8 x) (h4 : szP 8 y) : toC cont p q x y = fiC cont (mxP p x) (mnP q y) := by
  unfold toC mxP; rw [if_pos (m4_ok h3 h1 (by omega)), miC_eq cont h3 h2 h4, miC_eq cont h1 h2 h4, decide_eq_decide.2 cmpP_gt]
  by_cases h : lxP p x
  · rw [decide_eq_true h, if_pos h]; rfl
  · rw [decide_eq_false h, if_neg h]; rfl
theorem szP.lo {B : Nat} {a b : Pl} (h1 : szP B a) (h2 : szP B b) : szP B (loP a b) := by unfold loP; split <;> assumption
theorem szP.hi {B : Nat} {a b : Pl} (h1 : szP B a) (h2 : szP B b) : szP B (hiP a b) := by unfold hiP; split <;> assumption
theorem szP.mx {B : Nat} {a b : Pl} (h1 : szP B a) (h2 : szP B b) : szP B (mxP a b) := by unfold mxP; split <;> assumption
theorem szP.mn {B : Nat} {a b : Pl} (h1 : szP B a) (h2 : szP B b) : szP B (mnP a b) := by unfold mnP; split <;> assumption
theorem paC_eq {a b c d : Pl} (ha : szP 8 a) (hb : szP 8 b) (hc : szP 8 c) (hd : szP 8 d) : paC cont a b c d = ansC cont 0 (if crP (sbP b a) (sbP c a) = 0 then
    (if lxP (mnP (hiP a b) (hiP c d)) (mxP (loP a b) (loP c d)) then none else if mxP (loP a b) (loP c d) = mnP (hiP a b) (hiP c d) then some (false, mxP (loP a b) (loP c d), mxP (loP a b) (loP c d)) else some (true, mxP (loP a b) (loP c d), mnP (hiP a b) (hiP c d))) else none) := by
  unfold paC; rw [crC_eq _ (hb.sub ha) (hc.sub ha) (by omega), if_pos (((hb.sub ha).cr (hc.sub ha)).qq (by omega))]
  by_cases h : crP (sbP b a) (sbP c a) = 0
  · rw [bne_eq_false_iff_eq.2 (sgnQ_eq.2 h), cond_false, if_pos h, if_pos ⟨ha.1.mm (by omega), ha.2.mm (by omega), hb.1.mm (by omega), hb.2.mm (by omega)⟩, if_pos ⟨hc.1.mm (by omega), hc.2.mm (by omega), hd.1.mm (by omega), hd.2.mm (by omega)⟩,
      toC_eq cont (ha.lo hb) (ha.hi hb) (hc.lo hd) (hc.hi hd), fiC_eq cont ((ha.lo hb).mx (hc.lo hd)) ((ha.hi hb).mn (hc.hi hd))]
  · rw [bne_iff_ne.2 (fun e => h (sgnQ_eq.1 e)), cond_true, if_neg h]; rfl
theorem neC_eq {a b c d : Pl} (ha : szP 8 a) (hb : szP 8 b) (hc : szP 8 c) (hd : szP 8 d) (h0 : crP (sbP b a) (sbP d c) ≠ 0) : neC cont a b c d (crP (sbP b a) (sbP d c)) =
    ansC cont 0 (if mtT a b c d < 0 \/ mtS a b c d < 0 \/ 1 < mtT a b c d \/ 1 < mtS a b c d then none else some (false, adP a (tmP (sbP b a) (mtT a b c d)), adP a (tmP (sbP b a) (mtT a b c d)))) := by
  have u := hb.sub ha; have v := hd.sub hc; have w := hc.sub ha; have k1 := w.cr v; have k2 := w.cr u; have k0 := u.cr v; have t1 := k1.div k0 h0; have t2 := k2.div k0 h0; unfold neC; rw [crC_eq _ w v (by omega), if_pos (both (both (k1.qq (by omega)) (k0.qq (by omega))) (decide_eq_true h0)), tsC_eq cont _ (t1.qq (by omega)), crC_eq _ w u (by omega), if_pos (both (both (k2.qq (by omega)) (k0.qq (by omega))) (decide_eq_true h0)), tsC_eq cont _ (t2.qq (by omega))]; have e : enC cont a b (mtT a b c d) = cont (kT 0 1 (adP a (tmP (sbP b a) (mtT a b c d))) (adP a (tmP (sbP b a) (mtT a b c d)))) [] := by
    have t1' : szN (2 * (2 * (2 * (2 * 8)))) (mtT a b c d) := t1; unfold enC; rw [if_pos ⟨⟨rfl, rfl, rfl⟩, u.1.mm (by omega), u.2.mm (by omega), t1'.mm (by omega)⟩]; have q : szP (2 * (2 * (2 * (2 * (2 * 8))))) (tmP (sbP b a) (mtT a b c d)) := ⟨(u.1.mono (by omega)).mul t1', (u.2.mono (by omega)).mul t1'⟩; have ha' : szP (2 * (2 * (2 * (2 * (2 * 8))))) a := ⟨ha.1.mono (by omega), ha.2.mono (by omega)⟩; rw [if_pos (m4_ok ha' q (by omega))]
  change (if mtT a b c d < 0 \/ 1 < mtT a b c d then cont (noT 0) [] else if mtS a b c d < 0 \/ 1 < mtS a b c d then cont (noT 0) [] else enC cont a b (mtT a b c d)) = _; rw [e]
  by_cases c1 : mtT a b c d < 0 \/ 1 < mtT a b c d
  · rw [if_pos c1, if_pos (by grind)]; rfl
  · rw [if_neg c1]
    by_cases c2 : mtS a b c d < 0 \/ 1 < mtS a b c d
    · rw [if_pos c2, if_pos (by grind)]; rfl
    · rw [if_neg c2, if_neg (by grind)]; rfl
theorem mtC_eq {a b c d : Pl} (hab : a ≠ b) (hcd : c ≠ d) (ha : szP 8 a) (hb : szP 8 b) (hc : szP 8 c) (hd : szP 8 d) : mtC cont a b c d = ansC cont 0 (mtP a b c d) := by
  have no : apP a.x b.x c.x d.x \/ apP a.y b.y c.y d.y -> cont (noT 0) [] = ansC cont 0 (mtP a b c d) := fun h => by rw [mt_apart hab hcd h]; rfl
  unfold mtC; rw [if_pos ⟨ha.1.qq (by omega), hb.1.qq (by omega), hc.1.qq (by omega), hd.1.qq (by omega)⟩, if_pos ⟨ha.2.qq (by omega), hb.2.qq (by omega), hc.2.qq (by omega), hd.2.qq (by omega)⟩]
  by_cases h1 : apP a.x b.x c.x d.x
  · rw [decide_eq_true h1, cond_true]; exact no (.inl h1)
  · rw [decide_eq_false h1, cond_false, cond_false]
    by_cases h2 : apP a.y b.y c.y d.y
    · rw [decide_eq_true h2, cond_true]; exact no (.inr h2)
    · rw [decide_eq_false h2, cond_false, if_pos (m4_ok hb ha (by omega)), if_pos (m4_ok hd hc (by omega)), crC_eq _ (hb.sub ha) (hd.sub hc) (by omega), if_pos (m4_ok hc ha (by omega)), if_pos (((hb.sub ha).cr (hd.sub hc)).qq (by omega)), beqI, decide_eq_decide.2 sgnQ_eq]; unfold mtP
      by_cases h3 : crP (sbP b a) (sbP d c) = 0
      · rw [decide_eq_true h3, cond_true, if_pos h3, paC_eq cont ha hb hc hd]
      · rw [decide_eq_false h3, cond_false, if_neg h3, neC_eq cont ha hb hc hd h3]
end
end Go.Abs
namespace Go.Abs
open Go.Proofs
set_option maxRecDepth 100000
abbrev n4 (p q : Pl) : Prop := (1 = 1 /\ 1 = 1 /\ 1 = 1 /\ 1 = 1) /\ szM p.x = true /\ szM p.y = true /\ szM q.x = true /\ szM q.y = true
def or2 : Orc := fun ρ args H cont => match args, H with
  | [.v true [.num 1 (some a), .num 1 (some b)], .v true [.num 1 (some c), .num 1 (some d)]], [] => if (szM a = true /\ szM b = true) /\ szM c = true /\ szM d = true then cont (.tup [ptT 1 (loP ⟨a, b⟩ ⟨c, d⟩), ptT 1 (hiP ⟨a, b⟩ ⟨c, d⟩)]) [] else none
  | _, _ => none
noncomputable def sA : Env := VL tryT [] [(169, pt2 1 fun a b c d => one (.int .i64 (cmpP a b c d)))]
theorem sA_ok : EnvOK NN Tryz.prog sA := VL_ok (TabOk.of tryT_ok) (gamC orc130 Tryz.call169 (gamN _ _))
theorem gq229 {ρ : Type} (cont : SV -> HL -> Option ρ) (a b : Pl) : runF sA Ash 20 Tryz.f113 (bodyOf Tryz.f113) ρ [pS 1 a.x a.y, pS 1 b.x b.y] [] cont =
    if n4 a b then (bif decide (0 < cmpP a.x a.y b.x b.y) then cont (.tup [ptT 1 b, ptT 1 a]) [] else cont (.tup [ptT 1 a, ptT 1 b]) []) else none := by kernel_rfl
theorem orc_order : OrcOK NN Tryz.prog 113 or2 :=
  OrcOK.of_tale (cR_ok (A := Ash) (fuel := 20) sA_ok rfl Tryz.func113 (by kernel_rfl)) fun ρ args H cont r h => by
    unfold or2 at h; split at h
    · rename_i a b c d; split at h
      · rename_i hc; refine (gq229 cont ⟨a, b⟩ ⟨c, d⟩).trans ?_; rw [if_pos ⟨⟨rfl, rfl, rfl, rfl⟩, hc.1.1, hc.1.2, hc.2.1, hc.2.2⟩, decide_eq_decide.2 cmpP_gt]; unfold loP hiP at h
        by_cases hl : lxP ⟨c, d⟩ ⟨a, b⟩
        · rw [if_pos hl, if_pos hl] at h; rw [decide_eq_true hl, cond_true]; exact h
        · rw [if_neg hl, if_neg hl] at h; rw [decide_eq_false hl, cond_false]; exact h
      · contradiction
    · contradiction
section
variable {ρ : Type} (cont : SV -> HL -> Option ρ)
end
end Go.Abs
namespace Go.Abs
open Go.Proofs
set_option maxRecDepth 100000
theorem n4_ok {B : Nat} {p q : Pl} (hp : szP B p) (hq : szP B q) (hB : B <= 1000000) : n4 p q := ⟨⟨rfl, rfl, rfl, rfl⟩, hp.1.mm hB, hp.2.mm hB, hq.1.mm hB, hq.2.mm hB⟩
section
variable {ρ : Type} (cont : SV -> HL -> Option ρ)
end
def mtK0 (m : Option (Bool × Pl × Pl)) : Int := match m with
  | some (o, _, _) => bif o then 2 else 1
  | none => 0
def mtA0 (m : Option (Bool × Pl × Pl)) : Pl := match m with
  | some (_, p, _) => p
  | none => ⟨0, 0⟩
def mtB0 (m : Option (Bool × Pl × Pl)) : Pl := match m with
  | some (_, _, q) => q
  | none => ⟨0, 0⟩
theorem mt_ex (a b c d : Pl) : ∃ x : Bool × Int × Pl × Pl, x = ((mtP a b c d).isNone, mtK0 (mtP a b c d), mtA0 (mtP a b c d), mtB0 (mtP a b c d)) := ⟨_, rfl⟩
noncomputable def mtX (a b c d : Pl) : Bool × Int × Pl × Pl := (mt_ex a b c d).choose
theorem mtX_eq (a b c d : Pl) : mtX a b c d = ((mtP a b c d).isNone, mtK0 (mtP a b c d), mtA0 (mtP a b c d), mtB0 (mtP a b c d)) := (mt_ex a b c d).choose_spec
noncomputable def ansX {ρ : Type} (cont : SV -> HL -> Option ρ) (k : Nat) (a b c d : Pl) : Option ρ := bif (mtX a b c d).1 then cont (noT k) [] else cont (kT k (mtX a b c d).2.1 (mtX a b c d).2.2.1 (mtX a b c d).2.2.2) []
theorem ansX_eq {ρ : Type} (cont : SV -> HL -> Option ρ) (k : Nat) (a b c d : Pl) : ansX cont k a b c d = ansC cont k (mtP a b c d) := by
  unfold ansX; rw [mtX_eq]; cases mtP a b c d with
  | none => rfl
  | some v => rfl
def s8P (p : Pl) : Bool := s8 p.x && s8 p.y
theorem s8P_ok {p : Pl} (h : s8P p = true) : szP 8 p := by
  unfold s8P at h; rw [Bool.and_eq_true] at h; exact ⟨s8_ok h.1, s8_ok h.2⟩
noncomputable def mtO0 : Orc := fun ρ args H cont => match args, H with
  | [.v true [.num 0 (some a), .num 0 (some b), .num 0 (some c), .num 0 (some d)], .v true [.num 0 (some e), .num 0 (some f), .num 0 (some g), .num 0 (some h)]], [] =>
    if ((s8P ⟨a, b⟩ = true /\ s8P ⟨c, d⟩ = true) /\ s8P ⟨e, f⟩ = true /\ s8P ⟨g, h⟩ = true) /\ (⟨a, b⟩ : Pl) ≠ ⟨c, d⟩ /\ (⟨e, f⟩ : Pl) ≠ ⟨g, h⟩ then ansX cont 0 ⟨a, b⟩ ⟨c, d⟩ ⟨e, f⟩ ⟨g, h⟩ else none
  | _, _ => none
theorem orc_mtI : OrcOK NN Tryz.prog 62 mtO0 :=
  OrcOK.of_tale (cR_ok (A := Ash) (fuel := 20) mE_ok rfl Tryz.func62 (by kernel_rfl)) fun ρ args H cont r hr => by
    unfold mtO0 at hr; split at hr
    · split at hr
      · rename_i hc; obtain ⟨⟨⟨h1, h2⟩, h3, h4⟩, h5, h6⟩ := hc; exact ((gq132 cont ⟨_, _⟩ ⟨_, _⟩ ⟨_, _⟩ ⟨_, _⟩).trans ((mtC_eq cont h5 h6 (s8P_ok h1) (s8P_ok h2) (s8P_ok h3) (s8P_ok h4)).trans (ansX_eq ..).symm)).trans hr
      · contradiction
    · contradiction
end Go.Abs
namespace Go.Abs
open Go.Proofs
set_option maxRecDepth 100000
structure S8 where
  a : Int
  b : Int
  c : Int
  d : Int
  e : Int
  f : Int
  g : Int
  h : Int
def S8.p (s : S8) : Pl := plV s.a s.b s.c s.d
def S8.q (s : S8) : Pl := plV s.e s.f s.g s.h
def S8.ok (s : S8) : Bool := segB s.a s.b s.c s.d s.e s.f s.g s.h
def S8.sv (s : S8) : SV := sG s.a s.b s.c s.d s.e s.f s.g s.h
noncomputable def mF : Env := VL tryT [] [(59, segO), (48, ps8 0), (62, mtO0), (52, toV 0), (112, segO), (56, vO 1), (58, toV 1)]
theorem mF_ok : EnvOK NN Tryz.prog mF := VL_ok (TabOk.of tryT_ok) (gamC orc_segI Tryz.call59 (gamC orc_psg Tryz.call48 (gamC orc_mtI Tryz.call62 (gamC orc103 Tryz.call52 (gamC orc_segS Tryz.call112 (gamC orc163 Tryz.call56 (gamC orc76 Tryz.call58 (gamN _ _))))))))
def mvT (k a b c d e f g h : Int) : SV := .tup [(false, [.int .i64 k]), (true, [.int .i64 a, .int .i64 b, .int .i64 c, .int .i64 d]), (true, [.int .i64 e, .int .i64 f, .int .i64 g, .int .i64 h])]
section
variable {ρ : Type} (cont : SV -> HL -> Option ρ)
abbrev tvG (k : Nat) (p : Pl) : Prop := (k = k /\ k = k) /\ szQ p.x = true /\ szQ p.y = true
def vwT (n : Int) (p q : Pl) : SV := mvT n (vI p.x p.y (qNum p.x)) (vI p.x p.y (qDen p.x)) (vI p.x p.y (qNum p.y)) (vI p.x p.y (qDen p.y)) (vI q.x q.y (qNum q.x)) (vI q.x q.y (qDen q.x)) (vI q.x q.y (qNum q.y)) (vI q.x q.y (qDen q.y))
def mvE (k : Nat) (n : Int) (p q : Pl) : Option ρ := bif n == 0 then cont (mvT n 0 0 0 0 0 0 0 0) [] else if tvG k p then (if tvG k q then (bif !vFit p.x p.y then cont (mvT 3 0 0 0 0 0 0 0 0) [] else bif bif false then true else !vFit q.x q.y then cont (mvT 3 0 0 0 0 0 0 0 0) [] else cont (vwT n p q) []) else none) else none
noncomputable def mvA (k : Nat) (s t : S8) : Option ρ := bif (mtX s.p s.q t.p t.q).1 then cont (mvT 0 0 0 0 0 0 0 0 0) [] else mvE cont k (mtX s.p s.q t.p t.q).2.1 (mtX s.p s.q t.p t.q).2.2.1 (mtX s.p s.q t.p t.q).2.2.2
abbrev okQ (s : S8) : Prop := (qOkB s.a s.b = true /\ qOkB s.c s.d = true) /\ qOkB s.e s.f = true /\ qOkB s.g s.h = true
theorem gq44 (s t : S8) : runF mF Ash 20 Tryz.f18 (bodyOf Tryz.f18) ρ [s.sv, t.sv] [] cont =
    bif !s.ok then cont (mvT 3 0 0 0 0 0 0 0 0) [] else bif bif false then true else !t.ok then cont (mvT 3 0 0 0 0 0 0 0 0) [] else
    if okQ s then (if okQ t then (if ((s8P s.p = true /\ s8P s.q = true) /\ s8P t.p = true /\ s8P t.q = true) /\ s.p ≠ s.q /\ t.p ≠ t.q then mvA cont 0 s t else none) else none) else none := by kernel_rfl
abbrev okV (a b c d : Int) : Prop := qOkB a b = true /\ qOkB c d = true
end
theorem mt_sz {a b c d p q : Pl} {o : Bool} (ha : szP 8 a) (hb : szP 8 b) (hc : szP 8 c) (hd : szP 8 d) (h : mtP a b c d = some (o, p, q)) : szP 1000 p /\ szP 1000 q := by
  have up : ∀ {x : Pl}, szP 8 x -> szP 1000 x := fun h => ⟨h.1.mono (by omega), h.2.mono (by omega)⟩
  unfold mtP at h
  by_cases hz : crP (sbP b a) (sbP d c) = 0
  · rw [if_pos hz] at h; split at h
    · split at h
      · cases h
      · split at h
        · cases h; exact ⟨up ((ha.lo hb).mx (hc.lo hd)), up ((ha.lo hb).mx (hc.lo hd))⟩
        · cases h; exact ⟨up ((ha.lo hb).mx (hc.lo hd)), up ((ha.hi hb).mn (hc.hi hd))⟩
    · cases h
  · rw [if_neg hz] at h; split at h
    · cases h
    · have u := hb.sub ha; have v := hd.sub hc; have w := hc.sub ha; have t1 : szN (2 * (2 * (2 * (2 * 8)))) (mtT a b c d) := (w.cr v).div (u.cr v) hz; have q1 := ((ha.1.mono (by omega)).add ((u.1.mono (by omega)).mul t1) : szN _ (a.x + (b.x - a.x) * mtT a b c d)); have q2 := ((ha.2.mono (by omega)).add ((u.2.mono (by omega)).mul t1) : szN _ (a.y + (b.y - a.y) * mtT a b c d)); cases h; have k : szP 1000 (adP a (tmP (sbP b a) (mtT a b c d))) := ⟨q1.mono (by omega), q2.mono (by omega)⟩; exact ⟨k, k⟩
structure M9 where
  k : Int
  a : Int
  b : Int
  c : Int
  d : Int
  e : Int
  f : Int
  g : Int
  h : Int
def M9.bad (k : Int) : M9 := ⟨k, 0, 0, 0, 0, 0, 0, 0, 0⟩
def M9.sv (m : M9) : SV := mvT m.k m.a m.b m.c m.d m.e m.f m.g m.h
def fitP (p : Pl) : Bool := vFit p.x p.y
def mvV (s t : S8) : M9 := if s.ok = true /\ t.ok = true then (match mtP s.p s.q t.p t.q with
  | none => M9.bad 0
  | some (o, p, q) => if fitP p = true /\ fitP q = true then ⟨bif o then 2 else 1, qNum p.x, qDen p.x, qNum p.y, qDen p.y, qNum q.x, qDen q.x, qNum q.y, qDen q.y⟩ else M9.bad 3) else M9.bad 3
theorem mv_ex (s t : S8) : ∃ m : M9, m = mvV s t := ⟨_, rfl⟩
noncomputable def mvF (s t : S8) : M9 := (mv_ex s t).choose
theorem mvF_eq (s t : S8) : mvF s t = mvV s t := (mv_ex s t).choose_spec
noncomputable def meetO : Orc := fun ρ args H cont => match args, H with
  | [.v true [.int .i64 a, .int .i64 b, .int .i64 c, .int .i64 d, .int .i64 e, .int .i64 f, .int .i64 g, .int .i64 h], .v true [.int .i64 a', .int .i64 b', .int .i64 c', .int .i64 d', .int .i64 e', .int .i64 f', .int .i64 g', .int .i64 h']], [] =>
    cont (mvF ⟨a, b, c, d, e, f, g, h⟩ ⟨a', b', c', d', e', f', g', h'⟩).sv []
  | _, _ => none
theorem okQ_of {s : S8} (h : s.ok = true) : okQ s /\ s.p ≠ s.q := by
  obtain ⟨h1, h2⟩ := seg_q h; exact ⟨h1, fun e => h2 (plV_inj h1 e)⟩
theorem okQ_sz {s : S8} (h : okQ s) : s8P s.p = true /\ s8P s.q = true := ⟨both (s8_q h.1.1) (s8_q h.1.2), both (s8_q h.2.1) (s8_q h.2.2)⟩
section
variable {ρ : Type} (cont : SV -> HL -> Option ρ)
theorem mvA_eq (k : Nat) {s t : S8} (hs : s.ok = true) (ht : t.ok = true) : mvA cont k s t = cont (mvF s t).sv [] := by
  have q1 := okQ_sz (okQ_of hs).1; have q2 := okQ_sz (okQ_of ht).1; rw [mvF_eq]; unfold mvA mvV; rw [mtX_eq, if_pos ⟨hs, ht⟩]; cases hm : mtP s.p s.q t.p t.q with
  | none => rfl
  | some v =>
    obtain ⟨o, p, q⟩ := v; obtain ⟨z1, z2⟩ := mt_sz (s8P_ok q1.1) (s8P_ok q1.2) (s8P_ok q2.1) (s8P_ok q2.2) hm; have ho : ((bif o then (2 : Int) else 1) == 0) = false := by cases o <;> rfl
    show mvE cont k (bif o then 2 else 1) p q = cont (if fitP p = true /\ fitP q = true then (⟨bif o then 2 else 1, qNum p.x, qDen p.x, qNum p.y, qDen p.y, qNum q.x, qDen q.x, qNum q.y, qDen q.y⟩ : M9) else M9.bad 3).sv []; unfold mvE; rw [ho, cond_false, if_pos ⟨⟨rfl, rfl⟩, z1.1.qq (by omega), z1.2.qq (by omega)⟩, if_pos ⟨⟨rfl, rfl⟩, z2.1.qq (by omega), z2.2.qq (by omega)⟩]; cases h1 : vFit p.x p.y
    · rw [Bool.not_false, cond_true, if_neg (fun e : fitP p = true /\ fitP q = true => by have := e.1; unfold fitP at this; rw [h1] at this; contradiction)]; rfl
    · rw [Bool.not_true, cond_false, cond_false]; cases h2 : vFit q.x q.y
      · rw [Bool.not_false, cond_true, if_neg (fun e : fitP p = true /\ fitP q = true => by have := e.2; unfold fitP at this; rw [h2] at this; contradiction)]; rfl
      · rw [Bool.not_true, cond_false, if_pos ⟨h1, h2⟩]; unfold vwT vI; rw [h1, h2]; rfl
theorem meet_no {K X : Option ρ} {s t : S8} (h : ¬ (s.ok = true /\ t.ok = true)) : (bif !s.ok then K else bif bif false then true else !t.ok then K else X) = K := by
  cases h1 : s.ok
  · rfl
  · cases h2 : t.ok
    · rfl
    · exact absurd ⟨h1, h2⟩ h
theorem meet_yes {K X : Option ρ} {s t : S8} (h : s.ok = true /\ t.ok = true) : (bif !s.ok then K else bif bif false then true else !t.ok then K else X) = X := by
  rw [h.1, h.2]; rfl
theorem bad_eq {s t : S8} (h : ¬ (s.ok = true /\ t.ok = true)) : mvF s t = M9.bad 3 := by
  rw [mvF_eq]; unfold mvV; rw [if_neg h]
end
theorem orc_meetI : OrcOK NN Tryz.prog 18 meetO :=
  OrcOK.of_tale (cR_ok (A := Ash) (fuel := 20) mF_ok rfl Tryz.func18 (by kernel_rfl)) fun ρ args H cont r hr => by
    unfold meetO at hr; split at hr
    · rename_i a b c d e f g h a' b' c' d' e' f' g' h'; refine (gq44 cont ⟨a, b, c, d, e, f, g, h⟩ ⟨a', b', c', d', e', f', g', h'⟩).trans ?_; generalize (⟨a, b, c, d, e, f, g, h⟩ : S8) = s at *; generalize (⟨a', b', c', d', e', f', g', h'⟩ : S8) = t at *
      by_cases hk : s.ok = true /\ t.ok = true
      · obtain ⟨o1, n1⟩ := okQ_of hk.1; obtain ⟨o2, n2⟩ := okQ_of hk.2; rw [meet_yes hk, if_pos o1, if_pos o2, if_pos ⟨⟨okQ_sz o1, okQ_sz o2⟩, n1, n2⟩, mvA_eq cont 0 hk.1 hk.2]; exact hr
      · rw [meet_no hk]; rw [bad_eq hk] at hr; exact hr
    · contradiction
end Go.Abs
namespace Go.Abs
open Go.Proofs
set_option maxRecDepth 100000
noncomputable def dA : Env := VL tryT [] [(63, nO shI belowF), (43, nO shB onceF), (65, qofO), (67, rO shQ drawQF), (20, rO shQ anyF)]
theorem dA_ok : EnvOK NN Tryz.prog dA := VL_ok (TabOk.of tryT_ok) (gamC orc_below Tryz.call63 (gamC orc_once Tryz.call43 (gamC orc_qof Tryz.call65 (gamC orc_drawQ Tryz.call67 (gamC orc_any Tryz.call20 (gamN _ _))))))
structure W4 where
  a : Int
  b : Int
  c : Int
  d : Int
instance : Inhabited W4 := ⟨⟨0, 0, 0, 0⟩⟩
instance : Inhabited S8 := ⟨⟨0, 0, 0, 0, 0, 0, 0, 0⟩⟩
def W4.sv (v : W4) : SV := sV v.a v.b v.c v.d
abbrev rng (x : Int) : Prop := -9223372036854775808 <= x /\ x < 9223372036854775808
def Ends {α : Type} (xs : List Int) (sh : α -> SV) (X : ∀ ρ, (SV -> HL -> Option ρ) -> Option ρ) : Prop := ∃ a p', True /\ rdOkB xs p' = true /\ ∀ ρ cont, X ρ cont = cont (sh a) (rdH xs p')
section
variable {α : Type} {xs : List Int} {sh : α -> SV} {X Y : ∀ ρ, (SV -> HL -> Option ρ) -> Option ρ}
theorem Ends.bif {b : Bool} (h1 : Ends xs sh X) (h2 : Ends xs sh Y) : Ends xs sh fun ρ cont => bif b then X ρ cont else Y ρ cont := by
  cases b
  · exact h2
  · exact h1
theorem Ends.ite {c : Prop} [Decidable c] (hc : c) (h1 : Ends xs sh X) : Ends xs sh fun ρ cont => if c then X ρ cont else Y ρ cont := by
  obtain ⟨a, p, h2, h3, h4⟩ := h1; exact ⟨a, p, h2, h3, fun ρ cont => (if_pos hc).trans (h4 ρ cont)⟩
theorem Ends.fin (a : α) {p : Int} (h : rdOkB xs p = true) : Ends xs sh fun ρ cont => cont (sh a) (rdH xs p) := ⟨a, p, trivial, h, fun _ _ => rfl⟩
theorem Ends.eq (h : Ends xs sh Y) (e : ∀ ρ cont, X ρ cont = Y ρ cont) : Ends xs sh X := by
  obtain ⟨a, p, h2, h3, h4⟩ := h; exact ⟨a, p, h2, h3, fun ρ cont => (e ρ cont).trans (h4 ρ cont)⟩
end
theorem rO_ends {α : Type} [Inhabited α] {n : Nat} {F : Orc} (hF : OrcOK NN Tryz.prog n F) (sh : α -> SV) (h : ∀ xs p, rdOkB xs p = true -> Ends xs sh fun ρ cont => F ρ [one (.ptr 0 0)] (rdH xs p) cont) :
    ∃ f : List Int -> Int -> α × Int, OrcOK NN Tryz.prog n (rO sh f) /\ ∀ xs p, rdOkB xs p = true -> rdOkB xs (f xs p).2 = true := by
  obtain ⟨f, h1, h2⟩ := rO_ok hF sh (fun _ => True) h; exact ⟨f, h1, fun xs p hp => (h2 xs p hp).2⟩
theorem belowRng {xs : List Int} {p : Int} (h : rdOkB xs p = true) {n : Int} (hn : 1 < n) (h2 : n <= 256) : rng (belowF xs p n).1 := by
  have := belowR h hn; exact ⟨by omega, by omega⟩
theorem drw130 {ρ : Type} (cont : SV -> HL -> Option ρ) (xs : List Int) (p : Int) : runF dA Ash 20 Tryz.f44 (bodyOf Tryz.f44) ρ [one (.ptr 0 0)] (rdH xs p) cont =
    if rdOkB xs p = true then (if rdOkB xs (drawQF xs p).2 = true then cont (W4.sv ⟨(drawQF xs p).1.1, (drawQF xs p).1.2, (drawQF xs (drawQF xs p).2).1.1, (drawQF xs (drawQF xs p).2).1.2⟩) (rdH xs (drawQF xs (drawQF xs p).2).2) else none) else none := by kernel_rfl
theorem drawV_ok : ∃ f : List Int -> Int -> W4 × Int, OrcOK NN Tryz.prog 44 (rO W4.sv f) /\ ∀ xs p, rdOkB xs p = true -> rdOkB xs (f xs p).2 = true :=
  rO_ends (cR_ok (A := Ash) (fuel := 20) dA_ok rfl Tryz.func44 (by kernel_rfl)) W4.sv fun xs p h => Ends.eq (Ends.ite h (Ends.ite (drawQP h) (Ends.fin _ (drawQP (drawQP h))))) fun ρ cont => drw130 cont xs p
noncomputable def drawVF := drawV_ok.choose
theorem orc_drawV : OrcOK NN Tryz.prog 44 (rO W4.sv drawVF) := drawV_ok.choose_spec.1
theorem drawVP {xs : List Int} {p : Int} (h : rdOkB xs p = true) : rdOkB xs (drawVF xs p).2 = true := drawV_ok.choose_spec.2 xs p h
noncomputable def gridF (xs : List Int) (p n : Int) : W4 × Int := (⟨qofA (belowF xs p n).1 1, qofB (belowF xs p n).1 1, qofA (belowF xs (belowF xs p n).2 n).1 1, qofB (belowF xs (belowF xs p n).2 n).1 1⟩, (belowF xs (belowF xs p n).2 n).2)
theorem drw218 {ρ : Type} (cont : SV -> HL -> Option ρ) (xs : List Int) (p n : Int) : runF dA Ash 20 Tryz.f45 (bodyOf Tryz.f45) ρ [one (.ptr 0 0), one (.int .i64 n)] (rdH xs p) cont =
    bif decide (n <= 1) then none else bif decide (n <= 256) then (if rdOkB xs p = true then (if rng (belowF xs p n).1 /\ rng 1 then (bif decide (n <= 1) then none else bif decide (n <= 256) then (if rdOkB xs (belowF xs p n).2 = true then (if rng (belowF xs (belowF xs p n).2 n).1 /\ rng 1 then
      cont (gridF xs p n).1.sv (rdH xs (gridF xs p n).2) else none) else none) else none) else none) else none) else none := by kernel_rfl
theorem orc_grid : OrcOK NN Tryz.prog 45 (nO W4.sv gridF) :=
  OrcOK.of_tale (cR_ok (A := Ash) (fuel := 20) dA_ok rfl Tryz.func45 (by kernel_rfl)) fun ρ args H cont r h => by
    unfold nO at h; split at h
    · rename_i n xs p; refine (drw218 cont xs p n).trans ?_; cases h1 : decide (n <= 1)
      · cases h2 : decide (n <= 256)
        · rw [h1, h2] at h; exact h
        · rw [h1, h2, cond_false, cond_true] at h; have k1 := of_decide_eq_false h1; have k2 := of_decide_eq_true h2; split at h
          · rename_i hc; rw [cond_false, cond_true, cond_false, cond_true, if_pos hc, if_pos ⟨belowRng hc (by omega) k2, one_rng⟩, if_pos (belowP hc), if_pos ⟨belowRng (belowP hc) (by omega) k2, one_rng⟩]; exact h
          · contradiction
      · rw [h1] at h; contradiction
    · contradiction
theorem gridP {xs : List Int} {p n : Int} (h : rdOkB xs p = true) : rdOkB xs (gridF xs p n).2 = true := belowP (n := n) (belowP (n := n) h)
noncomputable def dB : Env := VL tryT [] [(43, nO shB onceF), (45, nO W4.sv gridF), (20, rO shQ anyF), (44, rO W4.sv drawVF)]
theorem dB_ok : EnvOK NN Tryz.prog dB := VL_ok (TabOk.of tryT_ok) (gamC orc_once Tryz.call43 (gamC orc_grid Tryz.call45 (gamC orc_any Tryz.call20 (gamC orc_drawV Tryz.call44 (gamN _ _)))))
theorem drw220 {ρ : Type} (cont : SV -> HL -> Option ρ) (xs : List Int) (p : Int) : runF dB Ash 20 Tryz.f163 (bodyOf Tryz.f163) ρ [one (.ptr 0 0)] (rdH xs p) cont =
    if rdOkB xs p = true then (bif (onceF xs p 3).1 then (if rdOkB xs (onceF xs p 3).2 = true then cont (gridF xs (onceF xs p 3).2 5).1.sv (rdH xs (gridF xs (onceF xs p 3).2 5).2) else none) else
      (if rdOkB xs (onceF xs p 3).2 = true then (bif (onceF xs (onceF xs p 3).2 4).1 then (if rdOkB xs (onceF xs (onceF xs p 3).2 4).2 = true then (if rdOkB xs (anyF xs (onceF xs (onceF xs p 3).2 4).2).2 = true then
        cont (W4.sv ⟨(anyF xs (onceF xs (onceF xs p 3).2 4).2).1.1, (anyF xs (onceF xs (onceF xs p 3).2 4).2).1.2, (anyF xs (anyF xs (onceF xs (onceF xs p 3).2 4).2).2).1.1, (anyF xs (anyF xs (onceF xs (onceF xs p 3).2 4).2).2).1.2⟩) (rdH xs (anyF xs (anyF xs (onceF xs (onceF xs p 3).2 4).2).2).2) else none) else none)
        else (if rdOkB xs (onceF xs (onceF xs p 3).2 4).2 = true then cont (drawVF xs (onceF xs (onceF xs p 3).2 4).2).1.sv (rdH xs (drawVF xs (onceF xs (onceF xs p 3).2 4).2).2) else none)) else none)) else none := by kernel_rfl
theorem anyV_ok : ∃ f : List Int -> Int -> W4 × Int, OrcOK NN Tryz.prog 163 (rO W4.sv f) /\ ∀ xs p, rdOkB xs p = true -> rdOkB xs (f xs p).2 = true :=
  rO_ends (cR_ok (A := Ash) (fuel := 20) dB_ok rfl Tryz.func163 (by kernel_rfl)) W4.sv fun xs p h =>
    have h1 := onceP (n := 3) h; have h2 := onceP (n := 4) h1
    Ends.eq (Ends.ite h (Ends.bif (Ends.ite h1 (Ends.fin _ (gridP h1))) (Ends.ite h1 (Ends.bif (Ends.ite h2 (Ends.ite (anyP h2) (Ends.fin _ (anyP (anyP h2))))) (Ends.ite h2 (Ends.fin _ (drawVP h2))))))) fun ρ cont => drw220 cont xs p
noncomputable def anyVF := anyV_ok.choose
theorem orc_anyV : OrcOK NN Tryz.prog 163 (rO W4.sv anyVF) := anyV_ok.choose_spec.1
theorem anyVP {xs : List Int} {p : Int} (h : rdOkB xs p = true) : rdOkB xs (anyVF xs p).2 = true := anyV_ok.choose_spec.2 xs p h
end Go.Abs
namespace Go.Abs
open Go.Proofs
set_option maxRecDepth 100000
noncomputable def saE : Env := VL tryT [] [(8, qOkO), (117, qO 1), (171, lat2 (fun p q => szQ p && szQ q) fun p q => nm 1 (p + q)), (121, lat1 szQ tupQ)]
theorem saE_ok : EnvOK NN Tryz.prog saE := VL_ok (TabOk.of tryT_ok) (gamC (orc64 NN) Tryz.call8 (gamC orc65 Tryz.call117 (gamC orc70 Tryz.call171 (gamC orc30 Tryz.call121 (gamN _ _)))))
theorem szQ_addq {a b c d : Int} (h1 : qOkB a b = true) (h2 : qOkB c d = true) : szQ (Rat.divInt a b + Rat.divInt c d) = true := ((s8_ok (s8_q h1)).add (s8_ok (s8_q h2))).qq (by omega)
theorem gq151 {ρ : Type} (cont : SV -> HL -> Option ρ) (a b c d : Int) : runF saE Ash 20 Tryz.f162 (bodyOf Tryz.f162) ρ [sQ a b, sQ c d] [] cont =
    bif !qOkB a b then cont (tupB 0 0 false) [] else bif bif false then true else !qOkB c d then cont (tupB 0 0 false) [] else
    if qOkB a b = true then (if qOkB c d = true then (if (szQ (Rat.divInt a b) && szQ (Rat.divInt c d)) = true then (if szQ (Rat.divInt a b + Rat.divInt c d) = true then
      cont (tupQ (Rat.divInt a b + Rat.divInt c d)) [] else none) else none) else none) else none := by kernel_rfl
theorem orc_sadd : OrcOK NN Tryz.prog 162 (opO ok2 pls) :=
  OrcOK.of_tale (cR_ok (A := Ash) (fuel := 20) saE_ok rfl Tryz.func162 (by kernel_rfl)) fun ρ args H cont r hr => by
    unfold opO at hr; split at hr
    · rename_i a b c d; refine (gq151 cont a b c d).trans ?_; unfold opN opD opT ok2 at hr; cases h1 : qOkB a b
      · rw [h1] at hr; exact hr
      · cases h2 : qOkB c d
        · rw [h1, h2] at hr; exact hr
        · rw [h1, h2] at hr; rw [szQ_q h1, szQ_q h2, szQ_addq h1 h2]; exact hr
    · contradiction
noncomputable def mvE2 : Env := VL tryT [] [(162, opO ok2 pls)]
theorem mvE2_ok : EnvOK NN Tryz.prog mvE2 := VL_ok (TabOk.of tryT_ok) (gamC orc_sadd Tryz.call162 (gamN _ _))
theorem mov_ex (v : W4) (n : Int) : ∃ w : W4, ∀ ρ (cont : SV -> HL -> Option ρ), runF mvE2 Ash 20 Tryz.f101 (bodyOf Tryz.f101) ρ [v.sv, one (.int .i64 n)] [] cont = cont w.sv [] := by
  have e : ∀ ρ (cont : SV -> HL -> Option ρ), runF mvE2 Ash 20 Tryz.f101 (bodyOf Tryz.f101) ρ [v.sv, one (.int .i64 n)] [] cont = bif !opT ok2 pls v.a v.b n 1 then cont v.sv [] else cont (W4.sv ⟨opN ok2 pls v.a v.b n 1, opD ok2 pls v.a v.b n 1, v.c, v.d⟩) [] := fun ρ cont => by kernel_rfl
  cases h : opT ok2 pls v.a v.b n 1
  · exact ⟨v, fun ρ cont => (e ρ cont).trans (by rw [h]; rfl)⟩
  · exact ⟨⟨opN ok2 pls v.a v.b n 1, opD ok2 pls v.a v.b n 1, v.c, v.d⟩, fun ρ cont => (e ρ cont).trans (by rw [h]; rfl)⟩
noncomputable def movF (v : W4) (n : Int) : W4 := (mov_ex v n).choose
noncomputable def movO : Orc := fun ρ args H cont => match args, H with
  | [.v true [.int .i64 a, .int .i64 b, .int .i64 c, .int .i64 d], .v false [.int .i64 n]], [] => cont (movF ⟨a, b, c, d⟩ n).sv []
  | _, _ => none
theorem orc_mov : OrcOK NN Tryz.prog 101 movO :=
  OrcOK.of_tale (cR_ok (A := Ash) (fuel := 20) mvE2_ok rfl Tryz.func101 (by kernel_rfl)) fun ρ args H cont r hr => by
    unfold movO at hr; split at hr
    · rename_i a b c d n; exact ((mov_ex ⟨a, b, c, d⟩ n).choose_spec ρ cont).trans hr
    · contradiction
noncomputable def dC : Env := VL tryT [] [(43, nO shB onceF), (45, nO W4.sv gridF), (101, movO), (163, rO W4.sv anyVF)]
theorem dC_ok : EnvOK NN Tryz.prog dC := VL_ok (TabOk.of tryT_ok) (gamC orc_once Tryz.call43 (gamC orc_grid Tryz.call45 (gamC orc_mov Tryz.call101 (gamC orc_anyV Tryz.call163 (gamN _ _)))))
def mk8 (v w : W4) : S8 := ⟨v.a, v.b, v.c, v.d, w.a, w.b, w.c, w.d⟩
def W4.ne (v w : W4) : Bool := !(v.a == w.a && (v.b == w.b && (v.c == w.c && v.d == w.d)))
section
variable {ρ : Type} (cont : SV -> HL -> Option ρ) (xs : List Int)
noncomputable def segX (v w : W4) (p : Int) : Option ρ := bif v.ne w then cont (mk8 v w).sv (rdH xs p) else (if rdOkB xs p = true then (bif bif false then true else (onceF xs p 10).1 then cont (mk8 v w).sv (rdH xs (onceF xs p 10).2) else cont (mk8 v (movF v 1)).sv (rdH xs (onceF xs p 10).2)) else none)
theorem drw124 (p : Int) : runF dC Ash 20 Tryz.f102 (bodyOf Tryz.f102) ρ [one (.ptr 0 0)] (rdH xs p) cont =
    if rdOkB xs p = true then (bif (onceF xs p 2).1 then (if rdOkB xs (onceF xs p 2).2 = true then (if rdOkB xs (gridF xs (onceF xs p 2).2 6).2 = true then
        segX cont xs (gridF xs (onceF xs p 2).2 6).1 (gridF xs (gridF xs (onceF xs p 2).2 6).2 6).1 (gridF xs (gridF xs (onceF xs p 2).2 6).2 6).2 else none) else none)
      else (if rdOkB xs (onceF xs p 2).2 = true then (if rdOkB xs (anyVF xs (onceF xs p 2).2).2 = true then cont (mk8 (anyVF xs (onceF xs p 2).2).1 (anyVF xs (anyVF xs (onceF xs p 2).2).2).1).sv (rdH xs (anyVF xs (anyVF xs (onceF xs p 2).2).2).2) else none) else none)) else none := by kernel_rfl
end
theorem segX_ends {xs : List Int} {p : Int} (v w : W4) (h : rdOkB xs p = true) : Ends xs S8.sv fun ρ cont => segX cont xs v w p :=
  Ends.bif (Ends.fin _ h) (Ends.ite h (Ends.bif (Ends.fin _ (onceP h)) (Ends.fin _ (onceP h))))
theorem seg_ok : ∃ f : List Int -> Int -> S8 × Int, OrcOK NN Tryz.prog 102 (rO S8.sv f) /\ ∀ xs p, rdOkB xs p = true -> rdOkB xs (f xs p).2 = true :=
  rO_ends (cR_ok (A := Ash) (fuel := 20) dC_ok rfl Tryz.func102 (by kernel_rfl)) S8.sv fun xs p h =>
    have h1 := onceP (n := 2) h; have g1 := gridP (n := 6) h1
    Ends.eq (Ends.ite h (Ends.bif (Ends.ite h1 (Ends.ite g1 (segX_ends _ _ (gridP g1)))) (Ends.ite h1 (Ends.ite (anyVP h1) (Ends.fin _ (anyVP (anyVP h1))))))) fun ρ cont => drw124 cont xs p
noncomputable def segF := seg_ok.choose
theorem orc_seg : OrcOK NN Tryz.prog 102 (rO S8.sv segF) := seg_ok.choose_spec.1
theorem segP {xs : List Int} {p : Int} (h : rdOkB xs p = true) : rdOkB xs (segF xs p).2 = true := seg_ok.choose_spec.2 xs p h
end Go.Abs
namespace Go.Abs
open Go.Proofs
set_option maxRecDepth 100000
def rfO : Orc := fun ρ args H cont => match args, H with
  | [.v false [.int .i64 n], .v false [.int .i64 d]], [] => if (-2147483648 < n /\ n < 2147483648) /\ 0 < d /\ d < 2147483648 then cont (nm 1 (Rat.divInt n d)) [] else none
  | _, _ => none
noncomputable def atE : Env := VL tryT [] [(175, pt2 1 fun a b c d => pS 1 (a - c) (b - d)), (174, pt1 1 fun a b c => pS 1 (a * c) (b * c)), (173, pt2 1 fun a b c d => pS 1 (a + c) (b + d))]
theorem atE_ok : EnvOK NN Tryz.prog atE := VL_ok (TabOk.of tryT_ok) (gamC orc66 Tryz.call175 (gamC orc129 Tryz.call174 (gamC orc128 Tryz.call173 (gamN _ _))))
def S8.ats (s : S8) : List Atom := [.int .i64 s.a, .int .i64 s.b, .int .i64 s.c, .int .i64 s.d, .int .i64 s.e, .int .i64 s.f, .int .i64 s.g, .int .i64 s.h]
def bO {α : Type} (sh : α -> SV) (f : List Int -> α) : Orc := fun ρ args H cont => match args, H with
  | [.v false [.sl none (.int .u8) xs]], [] => if rdOkB xs 0 = true then cont (sh (f xs)) [] else none
  | _, _ => none
def End0 {α : Type} (sh : α -> SV) (X : ∀ ρ, (SV -> HL -> Option ρ) -> Option ρ) : Prop := ∃ a, ∀ ρ cont, X ρ cont = cont (sh a) []
section
variable {α : Type} {sh : α -> SV} {X Y : ∀ ρ, (SV -> HL -> Option ρ) -> Option ρ}
theorem End0.bif {b : Bool} (h1 : End0 sh X) (h2 : End0 sh Y) : End0 sh fun ρ cont => bif b then X ρ cont else Y ρ cont := by
  cases b
  · exact h2
  · exact h1
theorem End0.ite {c : Prop} [Decidable c] (hc : c) (h1 : End0 sh X) : End0 sh fun ρ cont => if c then X ρ cont else Y ρ cont := by
  obtain ⟨a, h4⟩ := h1; exact ⟨a, fun ρ cont => (if_pos hc).trans (h4 ρ cont)⟩
theorem End0.fin (a : α) : End0 sh fun ρ cont => cont (sh a) [] := ⟨a, fun _ _ => rfl⟩
theorem End0.eq (h : End0 sh Y) (e : ∀ ρ cont, X ρ cont = Y ρ cont) : End0 sh X := by
  obtain ⟨a, h4⟩ := h; exact ⟨a, fun ρ cont => (e ρ cont).trans (h4 ρ cont)⟩
end
theorem bO_ok {α : Type} [Inhabited α] {n : Nat} {F : Orc} (hF : OrcOK NN Tryz.prog n F) (sh : α -> SV) (h : ∀ xs, rdOkB xs 0 = true -> End0 sh fun ρ cont => F ρ [one (.sl none (.int .u8) xs)] [] cont) : ∃ f, OrcOK NN Tryz.prog n (bO sh f) := by
  classical
  have h' : ∀ xs, ∃ a : α, rdOkB xs 0 = true -> ∀ ρ (cont : SV -> HL -> Option ρ), F ρ [one (.sl none (.int .u8) xs)] [] cont = cont (sh a) [] := fun xs => by
    by_cases hc : rdOkB xs 0 = true
    · obtain ⟨t, ht⟩ := h xs hc; exact ⟨t, fun _ => ht⟩
    · exact ⟨default, fun h => absurd h hc⟩
  refine ⟨fun xs => (h' xs).choose, OrcOK.of_tale hF fun ρ args H cont r hr => ?_⟩; unfold bO at hr; split at hr
  · rename_i xs; split at hr
    · rename_i hc; exact ((h' xs).choose_spec hc ρ cont).trans hr
    · contradiction
  · contradiction
structure D2 where
  s : S8
  t : S8
instance : Inhabited D2 := ⟨⟨default, default⟩⟩
def D2.sv (d : D2) : SV := .tup [(true, d.s.ats), (true, d.t.ats)]
section
variable {ρ : Type} (cont : SV -> HL -> Option ρ) (xs : List Int)
end
end Go.Abs
namespace Go.Abs
open Go.Proofs
set_option maxRecDepth 100000
def onS (v : W4) (s : S8) : Bool := onB v.a v.b v.c v.d s.a s.b s.c s.d s.e s.f s.g s.h
def cmW (v w : W4) : Int := cmvV v.a v.b v.c v.d w.a w.b w.c w.d
def M9.A (m : M9) : W4 := ⟨m.a, m.b, m.c, m.d⟩
def M9.B (m : M9) : W4 := ⟨m.e, m.f, m.g, m.h⟩
def S8.P (s : S8) : W4 := ⟨s.a, s.b, s.c, s.d⟩
def S8.Q (s : S8) : W4 := ⟨s.e, s.f, s.g, s.h⟩
abbrev tW4 : Ty := .pair (.pair (.int .i64) (.int .i64)) (.pair (.int .i64) (.int .i64))
def W4.dn (v : W4) : tW4.den := ((v.a, v.b), (v.c, v.d))
def W4.ats (v : W4) : List Atom := [.int .i64 v.a, .int .i64 v.b, .int .i64 v.c, .int .i64 v.d]
section
variable {ρ : Type} (K : Exit -> St -> Option ρ) (go : St -> Option ρ) (f : List Int -> D2) (s t : S8) (k : Int) (a b x y z w : W4)
def good8 (v : W4) : Prop := onS v s = true -> onS v t = true -> k ≠ 0 /\ ¬ cmW v a < 0 /\ ¬ 0 < cmW v b
instance (v : W4) : Decidable (good8 s t k a b v) := by unfold good8; infer_instance
end
section
variable {ρ : Type} (K : Bool -> Option ρ) (s t : S8) (m n : M9)
def W4.ne' (v w : W4) : Bool := !(v.a == w.a && (v.b == w.b && (v.c == w.c && v.d == w.d)))
end
end Go.Abs
namespace Go.Abs
open Go.Proofs
set_option maxRecDepth 100000
def W4.pl (v : W4) : Pl := plV v.a v.b v.c v.d
def W4.ok (v : W4) : Bool := vOkB v.a v.b v.c v.d
theorem onS_iff {v : W4} {s : S8} : onS v s = true ↔ v.ok = true /\ s.ok = true /\ onP v.pl s.p s.q := by
  unfold onS onB W4.ok S8.ok; cases h1 : vOkB v.a v.b v.c v.d
  · exact ⟨fun h => (by cases h), fun h => (by cases h.1)⟩
  · cases h2 : segB s.a s.b s.c s.d s.e s.f s.g s.h
    · exact ⟨fun h => (by cases h), fun h => (by cases h.2.1)⟩
    · exact ⟨fun h => ⟨rfl, rfl, of_decide_eq_true h⟩, fun h => decide_eq_true h.2.2⟩
theorem cmW_eq {v w : W4} (h1 : v.ok = true) (h2 : w.ok = true) : cmW v w = cmpP v.pl.x v.pl.y w.pl.x w.pl.y := by
  unfold cmW cmvV; unfold W4.ok at h1 h2; rw [h1, h2]; rfl
theorem fit_pl {p : Pl} (h : fitP p = true) : (⟨qNum p.x, qDen p.x, qNum p.y, qDen p.y⟩ : W4).ok = true /\ (⟨qNum p.x, qDen p.x, qNum p.y, qDen p.y⟩ : W4).pl = p := by
  unfold fitP vFit at h; cases h1 : qFit p.x
  · rw [h1] at h; contradiction
  · rw [h1] at h; obtain ⟨a1, a2⟩ := fit_ok h1; obtain ⟨b1, b2⟩ := fit_ok (show qFit p.y = true from h); refine ⟨?_, Pl.ext' a2 b2⟩; unfold W4.ok vOkB; show (bif qOkB (qNum p.x) (qDen p.x) then qOkB (qNum p.y) (qDen p.y) else false) = true; rw [a1, b1]; rfl
theorem mv_cases (s t : S8) : (mvF s t).k = 3 \/ ((s.ok = true /\ t.ok = true) /\ (((mvF s t).k = 0 /\ mtP s.p s.q t.p t.q = none) \/
    ∃ o p q, mtP s.p s.q t.p t.q = some (o, p, q) /\ (mvF s t).k = (bif o then 2 else 1) /\ ((mvF s t).A.ok = true /\ (mvF s t).A.pl = p) /\ ((mvF s t).B.ok = true /\ (mvF s t).B.pl = q) /\ (p = q -> (mvF s t).A = (mvF s t).B))) := by
  rw [mvF_eq]; unfold mvV
  by_cases h : s.ok = true /\ t.ok = true
  · rw [if_pos h]; cases hm : mtP s.p s.q t.p t.q with
    | none => exact .inr ⟨h, .inl ⟨rfl, rfl⟩⟩
    | some v =>
      obtain ⟨o, p, q⟩ := v; show (if fitP p = true /\ fitP q = true then (⟨bif o then 2 else 1, qNum p.x, qDen p.x, qNum p.y, qDen p.y, qNum q.x, qDen q.x, qNum q.y, qDen q.y⟩ : M9) else M9.bad 3).k = 3 \/ _
      by_cases hf : fitP p = true /\ fitP q = true
      · refine .inr ⟨h, .inr ⟨o, p, q, rfl, ?_⟩⟩; show (if fitP p = true /\ fitP q = true then (⟨bif o then 2 else 1, qNum p.x, qDen p.x, qNum p.y, qDen p.y, qNum q.x, qDen q.x, qNum q.y, qDen q.y⟩ : M9) else M9.bad 3).k = _ /\ ((if fitP p = true /\ fitP q = true then (⟨bif o then 2 else 1, qNum p.x, qDen p.x, qNum p.y, qDen p.y, qNum q.x, qDen q.x, qNum q.y, qDen q.y⟩ : M9) else M9.bad 3).A.ok = true /\ (if fitP p = true /\ fitP q = true then (⟨bif o then 2 else 1, qNum p.x, qDen p.x, qNum p.y, qDen p.y, qNum q.x, qDen q.x, qNum q.y, qDen q.y⟩ : M9) else M9.bad 3).A.pl = p) /\
          ((if fitP p = true /\ fitP q = true then (⟨bif o then 2 else 1, qNum p.x, qDen p.x, qNum p.y, qDen p.y, qNum q.x, qDen q.x, qNum q.y, qDen q.y⟩ : M9) else M9.bad 3).B.ok = true /\ (if fitP p = true /\ fitP q = true then (⟨bif o then 2 else 1, qNum p.x, qDen p.x, qNum p.y, qDen p.y, qNum q.x, qDen q.x, qNum q.y, qDen q.y⟩ : M9) else M9.bad 3).B.pl = q) /\
          (p = q -> (if fitP p = true /\ fitP q = true then (⟨bif o then 2 else 1, qNum p.x, qDen p.x, qNum p.y, qDen p.y, qNum q.x, qDen q.x, qNum q.y, qDen q.y⟩ : M9) else M9.bad 3).A = (if fitP p = true /\ fitP q = true then (⟨bif o then 2 else 1, qNum p.x, qDen p.x, qNum p.y, qDen p.y, qNum q.x, qDen q.x, qNum q.y, qDen q.y⟩ : M9) else M9.bad 3).B)
        rw [if_pos hf]; exact ⟨rfl, fit_pl hf.1, fit_pl hf.2, fun e => by subst e; rfl⟩
      · exact .inl (by rw [if_neg hf]; rfl)
  · exact .inl (by rw [if_neg h]; rfl)
theorem W4.ne_self (v : W4) : v.ne' v = false := by
  unfold W4.ne'; rw [beq_self_eq_true, beq_self_eq_true, beq_self_eq_true, beq_self_eq_true]; rfl
end Go.Abs
namespace Go.Abs
open Go.Proofs
def runL {ρ α S : Type} (body : Int -> α -> S -> (S -> Option ρ) -> Option ρ) (fin : S -> Option ρ) : List α -> Int -> S -> Option ρ
  | [], _, st => fin st
  | x :: r, i, st => body i x st fun st' => runL body fin r (i + 1) st'
theorem wrap_small {i : Int} (h0 : -9223372036854775808 <= i) (h : i < 9223372036854775808) : IntKind.i64.wrap i = i := by rw [IntKind.wrap_i64]; omega
theorem lst_at {ρ α : Type} {xs : List α} {i : Nat} (h : i < xs.length) (f : α -> Option ρ) : (if (0 : Int) <= (i : Int) then xs[(i : Int).toNat]?.bind f else none) = f xs[i] := by
  rw [if_pos (by omega), Int.toNat_natCast, List.getElem?_eq_getElem h, Option.bind_some]
theorem lst_in {ρ α : Type} {xs : List α} {i : Nat} (h : i < xs.length) (f : α -> Option ρ) (e : Option ρ) : (bif decide ((i : Int) < (xs.length : Int)) then (if (0 : Int) <= (i : Int) then xs[(i : Int).toNat]?.bind f else none) else e) = f xs[i] := by
  rw [decide_eq_true (by omega), cond_true, lst_at h]
theorem lst_out {ρ α : Type} {xs : List α} (f e : Option ρ) : (bif decide ((xs.length : Int) < (xs.length : Int)) then f else e) = e := by
  rw [decide_eq_false (by omega), cond_false]
theorem lst_wrap {α : Type} {xs : List α} (hl : xs.length < 4611686018427387904) {i : Nat} (h : i < xs.length) : IntKind.i64.wrap ((i : Int) + 1) = ((i + 1 : Nat) : Int) := wrap_small (by omega) (by omega)
theorem itF_list {ρ α S : Type} {T : (St -> Option ρ) -> St -> Option ρ} {xs : List α} {s : Int -> S -> St} {body : Int -> α -> S -> (S -> Option ρ) -> Option ρ} {fin : S -> Option ρ}
    (h0 : ∀ go st, T go (s (xs.length : Int) st) = fin st) (h1 : ∀ go (i : Nat) (hi : i < xs.length) st, T go (s (i : Int) st) = body (i : Int) xs[i] st fun st' => go (s ((i + 1 : Nat) : Int) st')) :
    ∀ (m i : Nat) (st : S), i + m = xs.length -> itF T (fun _ => none) (m + 1) (s i st) = runL body fin (xs.drop i) i st
  | 0, i, st, h => by
    show T _ (s i st) = _; obtain rfl : i = xs.length := by omega
    rw [h0, List.drop_of_length_le (Nat.le_refl _)]; rfl
  | m + 1, i, st, h => by
    show T _ (s i st) = _; rw [h1 _ i (by omega), List.drop_eq_getElem_cons (by omega)]; have e : (fun st' => itF T (fun _ => none) (m + 1) (s ((i + 1 : Nat) : Int) st')) = fun st' => runL body fin (xs.drop (i + 1)) ((i : Int) + 1) st' := by
      funext st'; exact itF_list h0 h1 m (i + 1) st' (by omega)
    exact congrArg (body (i : Int) xs[i] st) e
theorem itF_list0 {ρ α S : Type} {T : (St -> Option ρ) -> St -> Option ρ} {xs : List α} {s : Int -> S -> St} {body : Int -> α -> S -> (S -> Option ρ) -> Option ρ} {fin : S -> Option ρ}
    (h0 : ∀ go st, T go (s (xs.length : Int) st) = fin st) (h1 : ∀ go (i : Nat) (hi : i < xs.length) st, T go (s (i : Int) st) = body (i : Int) xs[i] st fun st' => go (s ((i + 1 : Nat) : Int) st')) (st : S) :
    itF T (fun _ => none) (xs.length + 1) (s 0 st) = runL body fin xs 0 st := itF_list h0 h1 xs.length 0 st (by omega)
def foldI {α S : Type} (stp : Nat -> α -> S -> S) : List α -> Nat -> S -> S
  | [], _, st => st
  | x :: r, i, st => foldI stp r (i + 1) (stp i x st)
theorem itF_fold {ρ α S : Type} {T : (St -> Option ρ) -> St -> Option ρ} {xs : List α} {s : Int -> S -> St} {stp : Nat -> α -> S -> S} {fin : S -> Option ρ} {I : S -> Prop}
    (h0 : ∀ go st, I st -> T go (s (xs.length : Int) st) = fin st) (h1 : ∀ go (i : Nat) (hi : i < xs.length) st, I st -> T go (s (i : Int) st) = go (s ((i + 1 : Nat) : Int) (stp i xs[i] st)) /\ I (stp i xs[i] st)) :
    ∀ (m i : Nat) (st : S), i + m = xs.length -> I st -> itF T (fun _ => none) (m + 1) (s i st) = fin (foldI stp (xs.drop i) i st) /\ I (foldI stp (xs.drop i) i st)
  | 0, i, st, h, hI => by
    obtain rfl : i = xs.length := by omega
    rw [List.drop_of_length_le (Nat.le_refl _)]; exact ⟨h0 _ st hI, hI⟩
  | m + 1, i, st, h, hI => by
    obtain ⟨h2, h3⟩ := h1 (itF T (fun _ => none) (m + 1)) i (by omega) st hI; obtain ⟨h4, h5⟩ := itF_fold h0 h1 m (i + 1) _ (by omega) h3; rw [List.drop_eq_getElem_cons (by omega)]; exact ⟨h2.trans h4, h5⟩
end Go.Abs

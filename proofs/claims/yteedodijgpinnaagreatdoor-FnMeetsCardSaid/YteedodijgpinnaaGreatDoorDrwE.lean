/-
  A PART OF THE PROOF of MtI (texts DrwE MeetH MeetI): the claim itself stands in the last text. No conditions beside those of the given row.
-/
import Derived.Test.YteedodijgpinnaaGreatDoorMeetB
set_option linter.unusedVariables false
set_option linter.unnecessarySimpa false
set_option linter.unusedSimpArgs false
namespace Go.Abs
open Go.Proofs
set_option maxRecDepth 100000
def rfO : Orc := fun ρ args H cont => match args, H with
  | [.v false [.int .i64 n], .v false [.int .i64 d]], [] => if (-2147483648 < n /\ n < 2147483648) /\ 0 < d /\ d < 2147483648 then cont (nm 1 (Rat.divInt n d)) [] else none
  | _, _ => none
theorem orc_rf : OrcOK NN Tryz.prog 129 rfO :=
  OrcOK.cv (orc123 NN) fun args H cont r h => by
    unfold rfO at h
    split at h
    · rename_i n d
      split at h
      · rename_i hc
        exact ⟨_, lS n d, Cv.num (isL_S hc.1 hc.2), rfl, h, fun ρ' cont' => by
          unfold rOfO
          show (if _ then _ else _) = _
          rw [if_pos ⟨⟨by omega, by omega⟩, by omega, by omega⟩, if_pos ⟨hc.1, hc.2.2⟩]⟩
      · contradiction
    · contradiction
noncomputable def atE : Env := VL tryT [] [(145, pt2 1 fun a b c d => pS 1 (a - c) (b - d)), (222, pt1 1 fun a b c => pS 1 (a * c) (b * c)), (221, pt2 1 fun a b c d => pS 1 (a + c) (b + d))]
theorem atE_ok : EnvOK NN Tryz.prog atE := VL_ok (TabOk.of tryT_ok) (gamC orc66 Tryz.call145 (gamC orc129 Tryz.call222 (gamC orc128 Tryz.call221 (gamN _ _))))
def atP (a b : Pl) (t : Rat) : Pl := adP a (tmP (sbP b a) t)
def atO : Orc := fun ρ args H cont => match args, H with
  | [.v true [.num 1 (some a), .num 1 (some b)], .v true [.num 1 (some c), .num 1 (some d)], .v true [.num 1 (some t)]], [] => if (s8P ⟨a, b⟩ = true /\ s8P ⟨c, d⟩ = true) /\ s8 t = true then cont (pS 1 (atP ⟨a, b⟩ ⟨c, d⟩ t).x (atP ⟨a, b⟩ ⟨c, d⟩ t).y) [] else none
  | _, _ => none
theorem gq127 {ρ : Type} (cont : SV -> HL -> Option ρ) (a b : Pl) (t : Rat) : runF atE Ash 20 Tryz.f127 (bodyOf Tryz.f127) ρ [pS 1 a.x a.y, pS 1 b.x b.y, nm 1 t] [] cont =
    if n4 b a then (if (1 = 1 /\ 1 = 1 /\ 1 = 1) /\ szM (sbP b a).x = true /\ szM (sbP b a).y = true /\ szM t = true then (if n4 a (tmP (sbP b a) t) then cont (pS 1 (atP a b t).x (atP a b t).y) [] else none) else none) else none := by kernel_rfl
theorem at_sz {a b : Pl} {t : Rat} (ha : szP 8 a) (hb : szP 8 b) (ht : szN 8 t) : szP 32 (tmP (sbP b a) t) /\ szP 64 (atP a b t) := by
  have u := hb.sub ha
  have t16 : szN 16 t := ht.mono (by omega)
  have k : szP 32 (tmP (sbP b a) t) := ⟨u.1.mul t16, u.2.mul t16⟩
  have k1 : szN 32 a.x := ha.1.mono (by omega)
  have k2 : szN 32 a.y := ha.2.mono (by omega)
  exact ⟨k, k1.add k.1, k2.add k.2⟩
theorem orc_at : OrcOK NN Tryz.prog 127 atO :=
  OrcOK.of_tale (cR_ok (A := Ash) (fuel := 20) atE_ok rfl Tryz.func127 (by kernel_rfl)) fun ρ args H cont r hr => by
    unfold atO at hr
    split at hr
    · rename_i a b c d t
      split at hr
      · rename_i hc
        obtain ⟨⟨h1, h2⟩, h3⟩ := hc
        have h1 := s8P_ok h1
        have h2 := s8P_ok h2
        have h3 := s8_ok h3
        have u := h2.sub h1
        refine (gq127 cont ⟨a, b⟩ ⟨c, d⟩ t).trans ?_
        have h1' : szP 32 (⟨a, b⟩ : Pl) := ⟨h1.1.mono (by omega), h1.2.mono (by omega)⟩
        rw [if_pos (n4_ok h2 h1 (by omega)), if_pos ⟨⟨rfl, rfl, rfl⟩, u.1.mm (by omega), u.2.mm (by omega), h3.mm (by omega)⟩, if_pos (n4_ok h1' (at_sz h1 h2 h3).1 (by omega))]
        exact hr
      · contradiction
    · contradiction
noncomputable def dD : Env := VL tryT [] [(75, cR rE Ash 5 Tryz.f75), (124, rO S8.sv segF), (78, nO shB onceF), (125, segO), (128, vO 1), (77, nO shI belowF), (129, rfO), (127, atO), (126, toV 1), (130, rO W4.sv drawVF)]
theorem dD_ok : EnvOK NN Tryz.prog dD := VL_ok (TabOk.of tryT_ok) (gamC (cR_ok rE_ok rfl Tryz.func75 (by kernel_rfl)) Tryz.call75 (gamC orc_seg Tryz.call124 (gamC orc_once Tryz.call78 (gamC orc_segS Tryz.call125 (gamC orc163 Tryz.call128 (gamC orc_below Tryz.call77 (gamC orc_rf Tryz.call129
  (gamC orc_at Tryz.call127 (gamC orc76 Tryz.call126 (gamC orc_drawV Tryz.call130 (gamN _ _)))))))))))
def S8.ats (s : S8) : List Atom := [.int .i64 s.a, .int .i64 s.b, .int .i64 s.c, .int .i64 s.d, .int .i64 s.e, .int .i64 s.f, .int .i64 s.g, .int .i64 s.h]
def bO {α : Type} (sh : α -> SV) (f : List Int -> α) : Orc := fun ρ args H cont => match args, H with
  | [.v false [.sl none (.int .u8) xs]], [] => if rdOkB xs 0 = true then cont (sh (f xs)) [] else none
  | _, _ => none
def End0 {α : Type} (sh : α -> SV) (X : ∀ ρ, (SV -> HL -> Option ρ) -> Option ρ) : Prop := ∃ a, ∀ ρ cont, X ρ cont = cont (sh a) []
section
variable {α : Type} {sh : α -> SV} {X Y : ∀ ρ, (SV -> HL -> Option ρ) -> Option ρ}
theorem End0.bif {b : Bool} (h1 : End0 sh X) (h2 : End0 sh Y) : End0 sh fun ρ cont => bif b then X ρ cont else Y ρ cont := by
  cases b
  · exact h2
  · exact h1
theorem End0.bifc {b : Bool} (h1 : b = true -> End0 sh X) (h2 : End0 sh Y) : End0 sh fun ρ cont => bif b then X ρ cont else Y ρ cont := by
  cases b
  · exact h2
  · exact h1 rfl
theorem End0.ite {c : Prop} [Decidable c] (hc : c) (h1 : End0 sh X) : End0 sh fun ρ cont => if c then X ρ cont else Y ρ cont := by
  obtain ⟨a, h4⟩ := h1
  exact ⟨a, fun ρ cont => (if_pos hc).trans (h4 ρ cont)⟩
theorem End0.fin (a : α) : End0 sh fun ρ cont => cont (sh a) [] := ⟨a, fun _ _ => rfl⟩
theorem End0.eq (h : End0 sh Y) (e : ∀ ρ cont, X ρ cont = Y ρ cont) : End0 sh X := by
  obtain ⟨a, h4⟩ := h
  exact ⟨a, fun ρ cont => (e ρ cont).trans (h4 ρ cont)⟩
end
theorem bO_ok {α : Type} [Inhabited α] {n : Nat} {F : Orc} (hF : OrcOK NN Tryz.prog n F) (sh : α -> SV) (h : ∀ xs, rdOkB xs 0 = true -> End0 sh fun ρ cont => F ρ [one (.sl none (.int .u8) xs)] [] cont) : ∃ f, OrcOK NN Tryz.prog n (bO sh f) := by
  classical
  have h' : ∀ xs, ∃ a : α, rdOkB xs 0 = true -> ∀ ρ (cont : SV -> HL -> Option ρ), F ρ [one (.sl none (.int .u8) xs)] [] cont = cont (sh a) [] := fun xs => by
    by_cases hc : rdOkB xs 0 = true
    · obtain ⟨t, ht⟩ := h xs hc; exact ⟨t, fun _ => ht⟩
    · exact ⟨default, fun h => absurd h hc⟩
  refine ⟨fun xs => (h' xs).choose, OrcOK.of_tale hF fun ρ args H cont r hr => ?_⟩
  unfold bO at hr
  split at hr
  · rename_i xs
    split at hr
    · rename_i hc
      exact ((h' xs).choose_spec hc ρ cont).trans hr
    · contradiction
  · contradiction
structure D2 where
  s : S8
  t : S8
instance : Inhabited D2 := ⟨⟨default, default⟩⟩
def D2.sv (d : D2) : SV := .tup [(true, d.s.ats), (true, d.t.ats)]
def wOf (p : Pl) : W4 := ⟨vI p.x p.y (qNum p.x), vI p.x p.y (qDen p.x), vI p.x p.y (qNum p.y), vI p.x p.y (qDen p.y)⟩
section
variable {ρ : Type} (cont : SV -> HL -> Option ρ) (xs : List Int)
noncomputable def tOf (p : Int) : Rat := Rat.divInt (IntKind.i64.wrap ((belowF xs p 9).1 - 2)) 4
noncomputable def gdX (s : S8) (p : Int) (K : Pl -> Option ρ) : Option ρ :=
  if okV s.a s.b s.c s.d then (if okV s.e s.f s.g s.h then (if rdOkB xs p = true then (if (-2147483648 < IntKind.i64.wrap ((belowF xs p 9).1 - 2) /\ IntKind.i64.wrap ((belowF xs p 9).1 - 2) < 2147483648) /\ (0 : Int) < 4 /\ (4 : Int) < 2147483648 then
    (if (s8P s.p = true /\ s8P s.q = true) /\ s8 (tOf xs p) = true then (if (1 = 1 /\ 1 = 1) /\ szQ (atP s.p s.q (tOf xs p)).x = true /\ szQ (atP s.p s.q (tOf xs p)).y = true then K (atP s.p s.q (tOf xs p)) else none) else none) else none) else none) else none) else none
noncomputable def dmZ (s t : S8) (p : Int) (a b : Pl) : Option ρ :=
  bif fitP a then (bif bif true then fitP b else false then (if rdOkB xs p = true then (bif (onceF xs p 2).1 then (if rdOkB xs (onceF xs p 2).2 = true then cont (D2.sv ⟨s, mk8 (wOf a) (drawVF xs (onceF xs p 2).2).1⟩) [] else none) else cont (D2.sv ⟨s, mk8 (wOf a) (wOf b)⟩) []) else none)
    else cont (D2.sv ⟨s, t⟩) []) else cont (D2.sv ⟨s, t⟩) []
noncomputable def dmX (s t : S8) (p : Int) : Option ρ := gdX xs s p fun a => gdX xs s (belowF xs p 9).2 fun b => dmZ cont xs s t (belowF xs (belowF xs p 9).2 9).2 a b
theorem drw43 : runF dD Ash 20 Tryz.f43 (bodyOf Tryz.f43) ρ [one (.sl none (.int .u8) xs)] [] cont =
    if rdOkB xs 0 = true then (if rdOkB xs (segF xs 0).2 = true then (if rdOkB xs (segF xs (segF xs 0).2).2 = true then
      (bif (onceF xs (segF xs (segF xs 0).2).2 3).1 then (bif bif true then (segF xs 0).1.ok else false then dmX cont xs (segF xs 0).1 (segF xs (segF xs 0).2).1 (onceF xs (segF xs (segF xs 0).2).2 3).2 else cont (D2.sv ⟨(segF xs 0).1, (segF xs (segF xs 0).2).1⟩) []) else cont (D2.sv ⟨(segF xs 0).1, (segF xs (segF xs 0).2).1⟩) []) else none) else none) else none := by kernel_rfl
end
theorem tOf_s8 {xs : List Int} {p : Int} (h : rdOkB xs p = true) : (-2147483648 < IntKind.i64.wrap ((belowF xs p 9).1 - 2) /\ IntKind.i64.wrap ((belowF xs p 9).1 - 2) < 2147483648) /\ s8 (tOf xs p) = true := by
  have := belowR h (n := 9) (by decide)
  have e : IntKind.i64.wrap ((belowF xs p 9).1 - 2) = (belowF xs p 9).1 - 2 := by rw [IntKind.wrap_i64]; omega
  unfold tOf
  rw [e]
  refine ⟨by omega, ?_⟩
  have hl := divInt_le (n := (belowF xs p 9).1 - 2) (d := 4) (by decide)
  have w1 := words_small (n := (Rat.divInt ((belowF xs p 9).1 - 2) 4).num.natAbs) (by omega)
  have w2 := words_small (n := (Rat.divInt ((belowF xs p 9).1 - 2) 4).den) (by omega)
  unfold s8
  rw [decide_eq_true (by omega), decide_eq_true (by omega)]; rfl
theorem gdX_end {α : Type} {sh : α -> SV} {xs : List Int} {s : S8} {p : Int} {X : ∀ ρ, (SV -> HL -> Option ρ) -> Pl -> Option ρ} (hs : s.ok = true) (hp : rdOkB xs p = true) (h : ∀ a, End0 sh fun ρ cont => X ρ cont a) : End0 sh fun ρ cont => gdX xs s p (X ρ cont) := by
  obtain ⟨t1, t2⟩ := tOf_s8 hp
  obtain ⟨o1, _⟩ := okQ_of hs
  obtain ⟨z1, z2⟩ := okQ_sz o1
  obtain ⟨_, k⟩ := at_sz (s8P_ok z1) (s8P_ok z2) (s8_ok t2)
  exact End0.ite o1.1 (End0.ite o1.2 (End0.ite hp (End0.ite ⟨t1, by decide, by decide⟩ (End0.ite ⟨⟨z1, z2⟩, t2⟩ (End0.ite ⟨⟨rfl, rfl⟩, k.1.qq (by omega), k.2.qq (by omega)⟩ (h _))))))
theorem meet_draw : ∃ f, OrcOK NN Tryz.prog 43 (bO D2.sv f) :=
  bO_ok (cR_ok (A := Ash) (fuel := 20) dD_ok rfl Tryz.func43 (by kernel_rfl)) D2.sv fun xs h => by
    have h1 := segP h
    have h2 := segP h1
    have h3 := onceP (n := 3) h2
    have h4 := belowP (n := 9) h3
    have h5 := belowP (n := 9) h4
    exact End0.eq (End0.ite h (End0.ite h1 (End0.ite h2 (End0.bif (End0.bifc (fun hs : (segF xs 0).1.ok = true => gdX_end hs h3 fun a => gdX_end hs h4 fun b =>
      End0.bif (End0.bif (End0.ite h5 (End0.bif (End0.ite (onceP h5) (End0.fin _)) (End0.fin _))) (End0.fin _)) (End0.fin _)) (End0.fin _)) (End0.fin _))))) fun ρ cont => drw43 cont xs
end Go.Abs
namespace Go.Abs
open Go.Proofs
set_option maxRecDepth 100000
noncomputable def lE8 (f : List Int -> D2) : Env := VL tryT [] [(10, cR rE Ash 5 Tryz.f10), (43, bO D2.sv f), (44, meetO), (45, meetO), (46, onO), (47, cmvO), (15, livesO)]
theorem lE8_ok {f : List Int -> D2} (hf : OrcOK NN Tryz.prog 43 (bO D2.sv f)) : EnvOK NN Tryz.prog (lE8 f) := VL_ok (TabOk.of tryT_ok) (gamC (cR_ok rE_ok rfl Tryz.func10 (by kernel_rfl)) Tryz.call10 (gamC hf Tryz.call43 (gamC orc_meetI Tryz.call44 (gamC orc_meetS Tryz.call45
  (gamC orc_on Tryz.call46 (gamC orc_cmv Tryz.call47 (gamC lives_ok Tryz.call15 (gamN _ _))))))))
def onS (v : W4) (s : S8) : Bool := onB v.a v.b v.c v.d s.a s.b s.c s.d s.e s.f s.g s.h
def cmW (v w : W4) : Int := cmvV v.a v.b v.c v.d w.a w.b w.c w.d
def M9.A (m : M9) : W4 := ⟨m.a, m.b, m.c, m.d⟩
def M9.B (m : M9) : W4 := ⟨m.e, m.f, m.g, m.h⟩
def S8.P (s : S8) : W4 := ⟨s.a, s.b, s.c, s.d⟩
def S8.Q (s : S8) : W4 := ⟨s.e, s.f, s.g, s.h⟩
abbrev tW4 : Ty := .pair (.pair (.int .i64) (.int .i64)) (.pair (.int .i64) (.int .i64))
def W4.dn (v : W4) : tW4.den := ((v.a, v.b), (v.c, v.d))
def W4.ats (v : W4) : List Atom := [.int .i64 v.a, .int .i64 v.b, .int .i64 v.c, .int .i64 v.d]
def A8 : Ann := { head := ptOf [(19, [2, 3, 4, 5, 6, 7, 14, 15], [])], out := ptOf [(19, [2], [])], shut := true }
def σ8 (s t : S8) (k : Int) (a b : W4) (x y z w : W4) (i : Int) : St := ⟨[(2, one (.bool false)), (3, one (.ptr 0 0)), (4, one (.ptr 1 0)), (5, one (.int .i64 k)), (6, one (.ptr 2 0)), (7, one (.ptr 3 0)), (14, one (.wsl 4 4)), (15, one (.int .i64 i))], [.var s.ats, .var t.ats, .var a.ats, .var b.ats, .arr 57 tW4 [x.dn, y.dn, z.dn, w.dn] false true]⟩
def out8 : St := ⟨[(2, one (.bool false))], []⟩
section
variable {ρ : Type} (K : Exit -> St -> Option ρ) (go : St -> Option ρ) (f : List Int -> D2) (s t : S8) (k : Int) (a b x y z w : W4)
def stp8 (v : W4) (G R : Option ρ) : Option ρ := bif !onS v s then G else bif bif false then true else !onS v t then G else bif k == 0 then R else bif bif false then true else decide (cmW v a < 0) then R else bif bif false then true else decide (0 < cmW v b) then R else G
theorem turn8_0 : turnF (lE8 f) A8 156 0 0 (loopAt Tryz.f8 0) K go (σ8 s t k a b x y z w 0) = stp8 s t k a b x (go (σ8 s t k a b x y z w 1)) (K .ret out8) := by kernel_rfl
theorem turn8_1 : turnF (lE8 f) A8 156 0 0 (loopAt Tryz.f8 0) K go (σ8 s t k a b x y z w 1) = stp8 s t k a b y (go (σ8 s t k a b x y z w 2)) (K .ret out8) := by kernel_rfl
theorem turn8_2 : turnF (lE8 f) A8 156 0 0 (loopAt Tryz.f8 0) K go (σ8 s t k a b x y z w 2) = stp8 s t k a b z (go (σ8 s t k a b x y z w 3)) (K .ret out8) := by kernel_rfl
theorem turn8_3 : turnF (lE8 f) A8 156 0 0 (loopAt Tryz.f8 0) K go (σ8 s t k a b x y z w 3) = stp8 s t k a b w (go (σ8 s t k a b x y z w 4)) (K .ret out8) := by kernel_rfl
theorem turn8_4 : turnF (lE8 f) A8 156 0 0 (loopAt Tryz.f8 0) K go (σ8 s t k a b x y z w 4) = K (.exit 0) out8 := by kernel_rfl
def good8 (v : W4) : Prop := onS v s = true -> onS v t = true -> k ≠ 0 /\ ¬ cmW v a < 0 /\ ¬ 0 < cmW v b
instance (v : W4) : Decidable (good8 s t k a b v) := by unfold good8; infer_instance
theorem stp8_eq {v : W4} (G R : Option ρ) (h : good8 s t k a b v) : stp8 s t k a b v G R = G := by
  unfold stp8
  cases h1 : onS v s
  · rfl
  · cases h2 : onS v t
    · rfl
    · obtain ⟨h3, h4, h5⟩ := h h1 h2
      rw [beq_eq_false_iff_ne.2 h3, decide_eq_false h4, decide_eq_false h5]
      rfl
end
def dW (x : (Int × Int) × (Int × Int)) : W4 := ⟨x.1.1, x.1.2, x.2.1, x.2.2⟩
def unS8 : List Atom -> Option S8
  | [.int .i64 a, .int .i64 b, .int .i64 c, .int .i64 d, .int .i64 e, .int .i64 f, .int .i64 g, .int .i64 h] => some ⟨a, b, c, d, e, f, g, h⟩
  | _ => none
theorem unS8_ok {xs : List Atom} {s : S8} (h : unS8 xs = some s) : xs = s.ats := by
  unfold unS8 at h
  split at h
  · cases h; rfl
  · cases h
def unW4 : List Atom -> Option W4
  | [.int .i64 a, .int .i64 b, .int .i64 c, .int .i64 d] => some ⟨a, b, c, d⟩
  | _ => none
theorem unW4_ok {xs : List Atom} {s : W4} (h : unW4 xs = some s) : xs = s.ats := by
  unfold unW4 at h
  split at h
  · cases h; rfl
  · cases h
noncomputable def S8g {ρ : Type} (K : Exit -> St -> Option ρ) (r : Bool) (i k : Int) (x y z w : W4) : Option S8 -> Option S8 -> Option W4 -> Option W4 -> Option ρ
  | some s, some t, some a, some b => if (r = false /\ i = 0) /\ (good8 s t k a b x /\ good8 s t k a b y) /\ good8 s t k a b z /\ good8 s t k a b w then K (.exit 0) out8 else none
  | _, _, _, _ => none
noncomputable def S8s : Sum := fun n0 ρ σ K => match n0, σ with
  | 0, ⟨[(2, .v false [.bool r]), (3, .v false [.ptr 0 0]), (4, .v false [.ptr 1 0]), (5, .v false [.int .i64 k]), (6, .v false [.ptr 2 0]), (7, .v false [.ptr 3 0]), (14, .v false [.wsl 4 4]), (15, .v false [.int .i64 i])],
      [.var s, .var t, .var a, .var b, .arr 57 (.pair (.pair (.int .i64) (.int .i64)) (.pair (.int .i64) (.int .i64))) [x, y, z, w] false true]⟩ => S8g K r i k (dW x) (dW y) (dW z) (dW w) (unS8 s) (unS8 t) (unW4 a) (unW4 b)
  | _, _ => none
theorem sum8 {f : List Int -> D2} (hf : OrcOK NN Tryz.prog 43 (bO D2.sv f)) : SumOK NN Tryz.prog 156 (loopAt Tryz.f8 0) S8s :=
  SumOK.of_turns (lE8_ok hf) mixT (A := A8) (SumsOK.none fun _ => rfl) fun n0 ρ σ K r h => by
    unfold S8s at h
    split at h
    · rename_i r' k i s t a b x y z w
      unfold S8g at h
      split at h
      · rename_i s' t' a' b' hs ht ha hb
        split at h
        · rename_i hc
          obtain ⟨⟨rfl, rfl⟩, ⟨g1, g2⟩, g3, g4⟩ := hc
          have hs := unS8_ok hs
          have ht := unS8_ok ht
          have ha := unW4_ok ha
          have hb := unW4_ok hb
          subst hs ht ha hb
          refine ⟨5, Eq.trans ?_ h⟩
          have e0 := turn8_0 K (itF (turnF (lE8 f) A8 156 0 0 (loopAt Tryz.f8 0) K) (fun _ => none) 4) f s' t' k a' b' (dW x) (dW y) (dW z) (dW w)
          have e1 := turn8_1 K (itF (turnF (lE8 f) A8 156 0 0 (loopAt Tryz.f8 0) K) (fun _ => none) 3) f s' t' k a' b' (dW x) (dW y) (dW z) (dW w)
          have e2 := turn8_2 K (itF (turnF (lE8 f) A8 156 0 0 (loopAt Tryz.f8 0) K) (fun _ => none) 2) f s' t' k a' b' (dW x) (dW y) (dW z) (dW w)
          have e3 := turn8_3 K (itF (turnF (lE8 f) A8 156 0 0 (loopAt Tryz.f8 0) K) (fun _ => none) 1) f s' t' k a' b' (dW x) (dW y) (dW z) (dW w)
          have e4 := turn8_4 K (itF (turnF (lE8 f) A8 156 0 0 (loopAt Tryz.f8 0) K) (fun _ => none) 0) f s' t' k a' b' (dW x) (dW y) (dW z) (dW w)
          rw [stp8_eq _ _ _ _ _ _ _ g1] at e0
          rw [stp8_eq _ _ _ _ _ _ _ g2] at e1
          rw [stp8_eq _ _ _ _ _ _ _ g3] at e2
          rw [stp8_eq _ _ _ _ _ _ _ g4] at e3
          exact Eq.trans (itF_succ ..) (e0.trans ((itF_succ ..).trans (e1.trans ((itF_succ ..).trans (e2.trans ((itF_succ ..).trans (e3.trans ((itF_succ ..).trans e4))))))))
        · contradiction
      · contradiction
    · contradiction
noncomputable def A8s : Ann := { A8 with sum := fun i => bif Nat.beq i 19 then some S8s else none }
section
variable {ρ : Type} (K : Bool -> Option ρ) (s t : S8) (m n : M9)
def W4.ne' (v w : W4) : Bool := !(v.a == w.a && (v.b == w.b && (v.c == w.c && v.d == w.d)))
def fin8 : Option ρ := if (false = false /\ (0 : Int) = 0) /\ (good8 s t m.k m.A m.B s.P /\ good8 s t m.k m.A m.B s.Q) /\ good8 s t m.k m.A m.B t.P /\ good8 s t m.k m.A m.B t.Q then K true else none
def mid8b : Option ρ := bif m.k == 2 then (bif bif false then true else bif true then decide (0 <= cmW m.A m.B) else false then K false else fin8 K s t m) else fin8 K s t m
def mid8 : Option ρ := bif m.k == 1 then (bif bif true then m.A.ne' m.B else false then K false else mid8b K s t m) else mid8b K s t m
def on8 : Option ρ := bif !onS m.A s then K false else bif bif false then true else !onS m.A t then K false else bif bif false then true else !onS m.B s then K false else bif bif true then bif false then true else !onS m.B t else false then K false else mid8 K s t m
def all8 : Option ρ :=
  bif m.k != m.k then K false else bif n.k != m.k then K false else bif bif false then true else m.A.ne' n.A then K false else bif bif false then true else m.B.ne' n.B then K false else
  bif m.k == 3 then K true else bif m.k != 0 then on8 K s t m else mid8 K s t m
end
theorem gq8 {ρ : Type} (cont : SV -> HL -> Option ρ) (f : List Int -> D2) (xs : List Int) : runF (lE8 f) A8s 0 Tryz.f8 (bodyOf Tryz.f8) ρ [one (.sl none (.int .u8) xs)] [] cont =
    bif decide (1048576 < (xs.length : Int)) then cont (one (.bool true)) [] else if rdOkB xs 0 = true then all8 (fun o => cont (one (.bool o)) []) (f xs).s (f xs).t (mvF (f xs).s (f xs).t) (mvF (f xs).t (f xs).s) else none := by kernel_rfl
end Go.Abs
namespace Go.Abs
open Go.Proofs
set_option maxRecDepth 100000
def W4.pl (v : W4) : Pl := plV v.a v.b v.c v.d
def W4.ok (v : W4) : Bool := vOkB v.a v.b v.c v.d
theorem onS_iff {v : W4} {s : S8} : onS v s = true ↔ v.ok = true /\ s.ok = true /\ onP v.pl s.p s.q := by
  unfold onS onB W4.ok S8.ok
  cases h1 : vOkB v.a v.b v.c v.d
  · exact ⟨fun h => (by cases h), fun h => (by cases h.1)⟩
  · cases h2 : segB s.a s.b s.c s.d s.e s.f s.g s.h
    · exact ⟨fun h => (by cases h), fun h => (by cases h.2.1)⟩
    · exact ⟨fun h => ⟨rfl, rfl, of_decide_eq_true h⟩, fun h => decide_eq_true h.2.2⟩
theorem cmW_eq {v w : W4} (h1 : v.ok = true) (h2 : w.ok = true) : cmW v w = cmpP v.pl.x v.pl.y w.pl.x w.pl.y := by
  unfold cmW cmvV
  unfold W4.ok at h1 h2
  rw [h1, h2]
  rfl
theorem fit_pl {p : Pl} (h : fitP p = true) : (⟨qNum p.x, qDen p.x, qNum p.y, qDen p.y⟩ : W4).ok = true /\ (⟨qNum p.x, qDen p.x, qNum p.y, qDen p.y⟩ : W4).pl = p := by
  unfold fitP vFit at h
  cases h1 : qFit p.x
  · rw [h1] at h; contradiction
  · rw [h1] at h
    obtain ⟨a1, a2⟩ := fit_ok h1
    obtain ⟨b1, b2⟩ := fit_ok (show qFit p.y = true from h)
    refine ⟨?_, Pl.ext' a2 b2⟩
    unfold W4.ok vOkB
    show (bif qOkB (qNum p.x) (qDen p.x) then qOkB (qNum p.y) (qDen p.y) else false) = true
    rw [a1, b1]; rfl
theorem mv_sym (s t : S8) : mvF t s = mvF s t := by
  rw [mvF_eq, mvF_eq]
  unfold mvV
  by_cases h : s.ok = true /\ t.ok = true
  · rw [if_pos h, if_pos ⟨h.2, h.1⟩, mt_sym (okQ_of h.1).2 (okQ_of h.2).2]
  · rw [if_neg h, if_neg fun e => h ⟨e.2, e.1⟩]
theorem mv_cases (s t : S8) : (mvF s t).k = 3 \/ ((s.ok = true /\ t.ok = true) /\ (((mvF s t).k = 0 /\ mtP s.p s.q t.p t.q = none) \/
    ∃ o p q, mtP s.p s.q t.p t.q = some (o, p, q) /\ (mvF s t).k = (bif o then 2 else 1) /\ ((mvF s t).A.ok = true /\ (mvF s t).A.pl = p) /\ ((mvF s t).B.ok = true /\ (mvF s t).B.pl = q) /\ (p = q -> (mvF s t).A = (mvF s t).B))) := by
  rw [mvF_eq]
  unfold mvV
  by_cases h : s.ok = true /\ t.ok = true
  · rw [if_pos h]
    cases hm : mtP s.p s.q t.p t.q with
    | none => exact .inr ⟨h, .inl ⟨rfl, rfl⟩⟩
    | some v =>
      obtain ⟨o, p, q⟩ := v
      show (if fitP p = true /\ fitP q = true then (⟨bif o then 2 else 1, qNum p.x, qDen p.x, qNum p.y, qDen p.y, qNum q.x, qDen q.x, qNum q.y, qDen q.y⟩ : M9) else M9.bad 3).k = 3 \/ _
      by_cases hf : fitP p = true /\ fitP q = true
      · refine .inr ⟨h, .inr ⟨o, p, q, rfl, ?_⟩⟩
        show (if fitP p = true /\ fitP q = true then (⟨bif o then 2 else 1, qNum p.x, qDen p.x, qNum p.y, qDen p.y, qNum q.x, qDen q.x, qNum q.y, qDen q.y⟩ : M9) else M9.bad 3).k = _ /\ ((if fitP p = true /\ fitP q = true then (⟨bif o then 2 else 1, qNum p.x, qDen p.x, qNum p.y, qDen p.y, qNum q.x, qDen q.x, qNum q.y, qDen q.y⟩ : M9) else M9.bad 3).A.ok = true /\ (if fitP p = true /\ fitP q = true then (⟨bif o then 2 else 1, qNum p.x, qDen p.x, qNum p.y, qDen p.y, qNum q.x, qDen q.x, qNum q.y, qDen q.y⟩ : M9) else M9.bad 3).A.pl = p) /\
          ((if fitP p = true /\ fitP q = true then (⟨bif o then 2 else 1, qNum p.x, qDen p.x, qNum p.y, qDen p.y, qNum q.x, qDen q.x, qNum q.y, qDen q.y⟩ : M9) else M9.bad 3).B.ok = true /\ (if fitP p = true /\ fitP q = true then (⟨bif o then 2 else 1, qNum p.x, qDen p.x, qNum p.y, qDen p.y, qNum q.x, qDen q.x, qNum q.y, qDen q.y⟩ : M9) else M9.bad 3).B.pl = q) /\
          (p = q -> (if fitP p = true /\ fitP q = true then (⟨bif o then 2 else 1, qNum p.x, qDen p.x, qNum p.y, qDen p.y, qNum q.x, qDen q.x, qNum q.y, qDen q.y⟩ : M9) else M9.bad 3).A = (if fitP p = true /\ fitP q = true then (⟨bif o then 2 else 1, qNum p.x, qDen p.x, qNum p.y, qDen p.y, qNum q.x, qDen q.x, qNum q.y, qDen q.y⟩ : M9) else M9.bad 3).B)
        rw [if_pos hf]
        exact ⟨rfl, fit_pl hf.1, fit_pl hf.2, fun e => by subst e; rfl⟩
      · exact .inl (by rw [if_neg hf]; rfl)
  · exact .inl (by rw [if_neg h]; rfl)
theorem W4.ne_self (v : W4) : v.ne' v = false := by
  unfold W4.ne'
  rw [beq_self_eq_true, beq_self_eq_true, beq_self_eq_true, beq_self_eq_true]
  rfl
theorem good_all {s t : S8} (h3 : (mvF s t).k ≠ 3) (v : W4) : good8 s t (mvF s t).k (mvF s t).A (mvF s t).B v := by
  intro o1 o2
  obtain ⟨v1, s1, p1⟩ := onS_iff.1 o1
  obtain ⟨_, t1, p2⟩ := onS_iff.1 o2
  obtain ⟨o, p, q, hm, l1, l2⟩ := mt_end (okQ_of s1).2 (okQ_of t1).2 p1 p2
  rcases mv_cases s t with h | ⟨_, h | ⟨o', p', q', hm', hk, ⟨a1, a2⟩, ⟨b1, b2⟩, _⟩⟩
  · exact absurd h h3
  · rw [h.2] at hm; cases hm
  · rw [hm'] at hm
    cases hm
    refine ⟨by rw [hk]; cases o <;> decide, ?_, ?_⟩
    · rw [cmW_eq v1 a1, a2, cmpP_lt]; exact l1
    · rw [cmW_eq v1 b1, b2, cmpP_gt]; exact l2
theorem all8_eq {ρ : Type} (K : Bool -> Option ρ) (s t : S8) : all8 K s t (mvF s t) (mvF t s) = K true := by
  rw [mv_sym s t]
  unfold all8
  simp only [bne_self_eq_false, W4.ne_self, cond_false]
  by_cases h3 : (mvF s t).k = 3
  · rw [h3]; rfl
  · have hf : fin8 K s t (mvF s t) = K true := by
      unfold fin8
      rw [if_pos ⟨⟨rfl, rfl⟩, ⟨good_all h3 _, good_all h3 _⟩, good_all h3 _, good_all h3 _⟩]
    rw [beq_eq_false_iff_ne.2 h3, cond_false]
    rcases mv_cases s t with h | ⟨⟨s1, t1⟩, h | ⟨o, p, q, hm, hk, ⟨a1, a2⟩, ⟨b1, b2⟩, hab⟩⟩
    · exact absurd h h3
    · unfold mid8 mid8b
      rw [hf, h.1]
      rfl
    · obtain ⟨⟨p1, p2⟩, ⟨q1, q2⟩, hpq⟩ := mt_on (okQ_of s1).2 (okQ_of t1).2 hm
      have mid : mid8 K s t (mvF s t) = K true := by
        unfold mid8 mid8b
        rw [hf, hk]
        cases o
        · rw [hab hpq, W4.ne_self]; rfl
        · have : ¬ 0 <= cmW (mvF s t).A (mvF s t).B := by
            rw [cmW_eq a1 b1, a2, b2]
            have := cmpP_lt.2 (show lxP p q from hpq)
            omega
          rw [decide_eq_false this]; rfl
      have on : ∀ {v : W4} {u : S8} {x : Pl}, v.ok = true -> v.pl = x -> u.ok = true -> onP x u.p u.q -> onS v u = true := fun h1 h2 h3 h4 => onS_iff.2 ⟨h1, h3, by rw [h2]; exact h4⟩
      unfold on8
      rw [on a1 a2 s1 p1, on a1 a2 t1 p2, on b1 b2 s1 q1, on b1 b2 t1 q2, mid]
      cases (mvF s t).k != 0 <;> rfl
theorem me_law : OrcOK NN Tryz.prog 8 lawO1 := by
  obtain ⟨f, hf⟩ := meet_draw
  exact OrcOK.of_tale (runF_ok (lE8_ok hf) mixT (A := A8s) (fuel := 0) Tryz.func8 (c := bodyOf Tryz.f8) (by kernel_rfl)
    (SumsOK.ofL (ls := [loopAt Tryz.f8 0]) (by kernel_rfl) ⟨sumL1 (by kernel_rfl) (sum8 hf), trivial⟩)) fun ρ args H cont r h => by
    unfold lawO1 at h
    split at h
    · rename_i xs
      split at h
      · rename_i hb
        refine (gq8 cont f xs).trans ?_
        by_cases h1 : (1048576 : Int) < List.length (α := Int) xs
        · rw [decide_eq_true h1]; exact h
        · rw [decide_eq_false h1, cond_false, if_pos (rdOk_iff.2 ⟨hb, by omega, by omega, by omega⟩), all8_eq]
          exact h
      · contradiction
    · contradiction
end Go.Abs

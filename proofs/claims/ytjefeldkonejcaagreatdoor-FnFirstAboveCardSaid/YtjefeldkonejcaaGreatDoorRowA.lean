/-
  A PART OF THE PROOF of AbI (texts RowA): the claim itself stands in the last text. No conditions beside those of the given row.
-/
import Derived.Test.YtjefeldkonejcaaGreatDoorBigF
import Derived.WalkKit
import Derived.ProofKit
import Derived.OpenShut
import Derived.ChangeOld
import Derived.Below
import Derived.Carry
import Derived.SizedLaws
import Derived.LaidMore
import Derived.Stop.Joined
set_option linter.unusedVariables false
set_option linter.unnecessarySimpa false
set_option linter.unusedSimpArgs false
namespace Go.Abs
open Go.Proofs Go.ChangeShapes Go.WideShapes Go.ChangeAt Go.RowKit
set_option maxRecDepth 100000
def heapG (w : World) : Ghost := fun b o => w.cell? ⟨b, o, none⟩
def kap0 : Kap := fun _ => (0, 0, 0)
theorem rel_start (N : NumSem) (w : World) (hinv : ∀ b, N.isHeld b = true -> ∃ x, w.heap[b]? = some x /\ N.heldIs b x) : Rel N (heapG w) kap0 (hmap []) w where
  ghost := fun _ _ _ h => h
  blk := fun l b h => by simp [hmap, hget, Blk.opt] at h
  sep := fun l l' h => by simp [hmap, hget, Blk.opt] at h
  own := fun l b h => by simp [hmap, hget, Blk.opt] at h
  inv := hinv
  off := fun l h => by simp [hmap, hget, Blk.opt] at h
abbrev PowIs (w : World) : Prop := Lib.TabIs Tryz.prog w "internal/strconv.uint64pow10" .u64 Lib.pow10Tab
theorem pow_of_laid {W : World} {a b : String × DataW Unit} (h : laidMet Tryz.prog [a, b, ("internal/strconv.uint64pow10", Lib.tabData .u64 Lib.pow10Tab)] W) {t e : TypeId} (hty : (Tryz.prog.globals[0]?).map (·.type) = some t) (ht : Tryz.prog.underlying t = some (.array 20 e))
    (he : Tryz.prog.underlying e = some (.int .u64)) (hce : Tryz.prog.cellsOf e = 1) (hct : Tryz.prog.cellsOf t = 20) : PowIs W := by
  obtain ⟨ps, ⟨_, _, _, _, _, _, _, _, _, _, ⟨_, _, _, _, _, _, _, _, _, _, ⟨g', t', cs, fuel, p, q, hg', ht', hvar, hd, _, _⟩, _⟩, _⟩, _⟩ := h; obtain rfl := Option.some.inj (pow_named.symm.trans hg'); obtain rfl := Option.some.inj (hty.symm.trans ht'); unfold PowIs Lib.TabIs; rw [hvar, <- Lib.cells_of_tab ht he hce hct hd]
theorem below_of {N : NumSem} {G' : Ghost} {κ' : Kap} {H' : HL} {w w' : World} (t : Trans (heapG w) kap0 (hmap []) w G' κ' (hmap H') w') : Below w.heap.size w w' :=
  ⟨t.os, t.tape, t.output, t.size, fun k hk => t.kept k hk fun l hl => by simp [hmap, hget, Blk.opt] at hl⟩
theorem law_calls {n : Nat} {F : Orc} {args : List SV} {H' : HL} {w : World} (ht : PowIs w) (hF : OrcOK NN Tryz.prog n F) (hrun : F (SV × HL) args [] (fun s H => some (s, H)) = some (one (.bool true), H')) (hids : svsIds args = []) {cargs : Array Value}
    (ha : SvsR NN (heapG w) kap0 args cargs.toList) : Calls Tryz.prog n cargs w fun e w' => e = .returned (.bool true) /\ Below w.heap.size w w' := by
  have hi : ∀ s ∈ args, ∀ i ∈ s.ids, i < ([] : HL).length := by
    intro s hs i hi; have : i ∈ svsIds args := by
      clear ha hrun hids
      induction args with
      | nil => cases hs
      | cons a r ih =>
        simp only [svsIds, List.mem_append]; rcases List.mem_cons.1 hs with h | h
        · subst h; exact .inl hi
        · exact .inr (ih h)
    rw [hids] at this; cases this
  obtain ⟨res, H2, e, _, hc⟩ := hF hrun (fun j bs h => by simp [hget] at h) hi; simp only [Option.some.injEq, Prod.mk.injEq] at e; obtain ⟨rfl, rfl⟩ := e; refine (hc (rel_start NN w (held_of_tab ht)) ha).mono fun e w' hq => ?_
  obtain ⟨G', κ', v, e1, t, _, hv, _⟩ := hq; have hv := one_val hv; simp only [AR, List.cons.injEq, and_true] at hv; exact ⟨by rw [e1, hv], below_of (N := NN) t⟩
theorem spot_none {P : Program} {W : World} {r : Reach} {base t e : Nat} {a : Addr} {len cap : Nat} (ht : P.underlying t = some (.slice e)) (h : Value.okWide P W r base t (.slice (some a) len cap)) : a.spot = none := by
  simp only [Value.okWide, ht, Cell.okWide, Cell.ok, World.has] at h; exact h.2.2.2.1
theorem bytes_in {H : Type} {enc : TypeId × Value -> H} {W : World} {base : Nat} {v : Value} {d : DataW H} {p : List MemPlace} (hv : Value.okWide Tryz.prog W .any base 22 v) (h : DataW.Trod enc Tryz.prog W 0 (fun _ => true) true 22 v d p) :
    ∃ xs : List Int, svR NN (heapG W) kap0 (one (.sl none (.int .u8) xs)) v /\ ∀ x ∈ xs, 0 <= x /\ x < 256 := by
  have hu : Tryz.prog.underlying 22 = some (.slice 5) := by kernel_rfl
  have hu5 : Tryz.prog.underlying 5 = some (.int .u8) := by kernel_rfl
  obtain ⟨a, len, cap, rfl⟩ := okWide_slice hu hv; obtain ⟨fuel, hf⟩ := h; rcases open_ints hu hu5 (by kernel_rfl) hf with ⟨hcs, _⟩ | ⟨x, l, c, zs, hcs, _, hl, hm, hz, _, hcell, hwz⟩
  · simp [Value.cells] at hcs; obtain ⟨rfl, rfl, rfl⟩ := hcs; exact ⟨[], AsR.one ⟨_, rfl, .inl ⟨rfl, rfl⟩, by simp, by simp⟩, by simp⟩
  · simp [Value.cells] at hcs; obtain ⟨rfl, rfl, rfl⟩ := hcs; obtain ⟨b, o, sp⟩ := x; have hsp : sp = none := spot_none hu hv; subst hsp; have hz' : zs.length = cap := by simpa using hz
    refine ⟨zs.take len, AsR.one ⟨_, rfl, .inr ⟨b, o, cap, ?_, ?_, ?_⟩, by simp, by simp⟩, ?_⟩
    · rw [List.length_take]; congr 1; omega
    · rw [List.length_take]; omega
    · intro i y hy; have hi : i < len := by
        have := (List.getElem?_eq_some_iff.1 hy).1; rw [List.length_take] at this; omega
      have hy' : zs.getD i 0 = y := by
        rw [List.getElem?_take_of_lt hi] at hy; simp [List.getD, hy]
      refine ⟨[.int .u8 y], rfl, rfl, ?_⟩; intro j u hj; cases j with
      | succ j => simp at hj
      | zero =>
        simp at hj; subst hj; have h1 := hcell i (by omega); rw [hy', Addr.add_lit] at h1; show W.cell? ⟨b, o + i * 1 + 0, none⟩ = _; rw [Nat.mul_one, Nat.add_zero]; exact h1
    · intro y hy; have := hwz y (List.mem_of_mem_take hy); simp only [Lit.wf] at this; have h2 : IntKind.u8.min <= y /\ y <= IntKind.u8.max := by simpa using this
      have e1 : IntKind.u8.min = 0 := rfl; have e2 : IntKind.u8.max = 255 := rfl; omega
def bytesB (xs : List Int) : Bool := xs.all fun x => decide (0 <= x) && decide (x < 256)
def lawO1 : Orc := fun ρ args H cont => match args, H with
  | [.v false [.sl none (.int .u8) xs]], [] => if bytesB xs = true then cont (one (.bool true)) [] else none
  | _, _ => none
theorem bytesB_of {xs : List Int} (h : ∀ x ∈ xs, 0 <= x /\ x < 256) : bytesB xs = true := by
  unfold bytesB; rw [List.all_eq_true]; intro x hx
  simpa using h x hx
theorem law1_calls {n : Nat} {w : World} (ht : PowIs w) (hF : OrcOK NN Tryz.prog n lawO1) {v : Value} {xs : List Int} (h1 : svR NN (heapG w) kap0 (one (.sl none (.int .u8) xs)) v) (b1 : ∀ x ∈ xs, 0 <= x /\ x < 256) :
    Calls Tryz.prog n #[v] w fun e w' => e = .returned (.bool true) /\ Below w.heap.size w w' :=
  law_calls (H' := []) ht hF (args := [one (.sl none (.int .u8) xs)]) (by
    show (if bytesB xs = true then some (one (.bool true), ([] : HL)) else none) = _; rw [if_pos (bytesB_of b1)]) rfl ⟨v, [], rfl, h1, rfl⟩
end Go.Abs

/-
  No cell of these rows narrows 'for every input' (looked for: loops, veiled, ifaces, maps, wideKeys, modest, calm, conditions, laid).
  DERIVED. THE GIVEN ROWS OF THIS SEAT. 4 by the template 'for every input the law returns true; each argument reads behind the call as it read before'; 0 by the template 'total and deterministic' (their statements: YtjefeldkonejcaaGreatTotals.lean).
  GIVEN WITH THE SEED: the statements are not yours to turn. If you find one false, say at which input.
  Laid BY PROGRAM, IN A SANDBOX (cutbox-rows.mjs): the forced cells as the released guide's own fill.sh prints them over the translation 20d50d0665436a0c… (all of the seat's roots in one cut). By AI agents, Wed Nov 11 2026. No macro, syntax, notation, axiom, sorry.
-/
import Derived.Test.YtjefeldkonejcaaGreatChecked
import GoSem.Claim
import GoSem.ClaimJoined
import GoSem.ClaimMapViews
import Derived.JoinedTies
import Derived.KernelRfl
namespace Go.Proofs.YtjefeldkonejcaaGreat
/- THE CELL 'sum', in the pinned program and in every row, IS THE sha256 OF THE DUMP (.gsa) THAT YtjefeldkonejcaaGreatProg.lean LOADS. Nothing in Lean hashes anything: it is a label: what it is worth is what the hold of that sum in a sandbox is worth. -/
noncomputable def Tryz.pinned : Pinned := { name := "ytjefeldkonejcaagreat", sum := "20d50d0665436a0c7f32eebeba5dc42c800695e12915ccfe59700d125e4da390", checked := Tryz.checked }
namespace Rows
def none {H : Type} : Left H := { results := [], args := [] }

/-- 'laws.FnExactClosest': WHATEVER THE INPUT: true; the input reads as it did. -/
def fnExactClosestSpec : ChangeSpec := { name := "fnExactClosest", fn := fun _ => fun
  | [d1, d2] => { results := [.lit (.bool true)], args := [d1, d2] }
  | _ => none }
def fnExactClosestRow : OpenClaim := { program := "ytjefeldkonejcaagreat", sum := "20d50d0665436a0c7f32eebeba5dc42c800695e12915ccfe59700d125e4da390", func := "loop.example/g00022/laws.FnExactClosest", spec := "fnExactClosest", inPlace := ["internal/reflectlite.ValueOf", "internal/reflectlite.Swapper", "(internal/reflectlite.Value).Len"], unfollowed := true, recurses := true, apart := false }
def FnExactClosestSaid : Prop := fnExactClosestRow.holds Tryz.pinned (OpenSpec.ofChange fnExactClosestSpec)

/-- ITS FALSE NEIGHBOUR: 'it returns false'. Refute it at one input. -/
def fnExactClosestWrong : ChangeSpec := { name := "fnExactClosest", fn := fun _ => fun
  | [d1, d2] => { results := [.lit (.bool false)], args := [d1, d2] }
  | _ => none }
def FnExactClosestWrongFalsely : Prop := fnExactClosestRow.holds Tryz.pinned (OpenSpec.ofChange fnExactClosestWrong)

/-- 'laws.FnExactFirstHit': WHATEVER THE INPUT: true; the input reads as it did. -/
def fnExactFirstHitSpec : ChangeSpec := { name := "fnExactFirstHit", fn := fun _ => fun
  | [d1, d2, d3] => { results := [.lit (.bool true)], args := [d1, d2, d3] }
  | _ => none }
def fnExactFirstHitRow : OpenClaim := { program := "ytjefeldkonejcaagreat", sum := "20d50d0665436a0c7f32eebeba5dc42c800695e12915ccfe59700d125e4da390", func := "loop.example/g00022/laws.FnExactFirstHit", spec := "fnExactFirstHit", inPlace := ["internal/reflectlite.ValueOf", "internal/reflectlite.Swapper", "(internal/reflectlite.Value).Len"], unfollowed := true, recurses := true, apart := false }
def FnExactFirstHitSaid : Prop := fnExactFirstHitRow.holds Tryz.pinned (OpenSpec.ofChange fnExactFirstHitSpec)

/-- ITS FALSE NEIGHBOUR: 'it returns false'. Refute it at one input. -/
def fnExactFirstHitWrong : ChangeSpec := { name := "fnExactFirstHit", fn := fun _ => fun
  | [d1, d2, d3] => { results := [.lit (.bool false)], args := [d1, d2, d3] }
  | _ => none }
def FnExactFirstHitWrongFalsely : Prop := fnExactFirstHitRow.holds Tryz.pinned (OpenSpec.ofChange fnExactFirstHitWrong)

/-- 'laws.FnExactVisited': WHATEVER THE INPUT: true; the input reads as it did. -/
def fnExactVisitedSpec : ChangeSpec := { name := "fnExactVisited", fn := fun _ => fun
  | [d1, d2] => { results := [.lit (.bool true)], args := [d1, d2] }
  | _ => none }
def fnExactVisitedRow : OpenClaim := { program := "ytjefeldkonejcaagreat", sum := "20d50d0665436a0c7f32eebeba5dc42c800695e12915ccfe59700d125e4da390", func := "loop.example/g00022/laws.FnExactVisited", spec := "fnExactVisited", inPlace := ["internal/reflectlite.ValueOf", "internal/reflectlite.Swapper", "(internal/reflectlite.Value).Len"], unfollowed := true, recurses := true, apart := false }
def FnExactVisitedSaid : Prop := fnExactVisitedRow.holds Tryz.pinned (OpenSpec.ofChange fnExactVisitedSpec)

/-- ITS FALSE NEIGHBOUR: 'it returns false'. Refute it at one input. -/
def fnExactVisitedWrong : ChangeSpec := { name := "fnExactVisited", fn := fun _ => fun
  | [d1, d2] => { results := [.lit (.bool false)], args := [d1, d2] }
  | _ => none }
def FnExactVisitedWrongFalsely : Prop := fnExactVisitedRow.holds Tryz.pinned (OpenSpec.ofChange fnExactVisitedWrong)

/-- 'laws.FnExactOverlaps': WHATEVER THE INPUT: true; the input reads as it did. -/
def fnExactOverlapsSpec : ChangeSpec := { name := "fnExactOverlaps", fn := fun _ => fun
  | [d1, d2] => { results := [.lit (.bool true)], args := [d1, d2] }
  | _ => none }
def fnExactOverlapsRow : OpenClaim := { program := "ytjefeldkonejcaagreat", sum := "20d50d0665436a0c7f32eebeba5dc42c800695e12915ccfe59700d125e4da390", func := "loop.example/g00022/laws.FnExactOverlaps", spec := "fnExactOverlaps", inPlace := ["internal/reflectlite.ValueOf", "internal/reflectlite.Swapper", "(internal/reflectlite.Value).Len"], unfollowed := true, recurses := true, apart := false }
def FnExactOverlapsSaid : Prop := fnExactOverlapsRow.holds Tryz.pinned (OpenSpec.ofChange fnExactOverlapsSpec)

/-- ITS FALSE NEIGHBOUR: 'it returns false'. Refute it at one input. -/
def fnExactOverlapsWrong : ChangeSpec := { name := "fnExactOverlaps", fn := fun _ => fun
  | [d1, d2] => { results := [.lit (.bool false)], args := [d1, d2] }
  | _ => none }
def FnExactOverlapsWrongFalsely : Prop := fnExactOverlapsRow.holds Tryz.pinned (OpenSpec.ofChange fnExactOverlapsWrong)

/- THE SECOND FORM. 'bulk': how many values and letters a reading holds, each counted each time it is reached (what is shared counts as often as it is met; a slice's spare places count too). A statement '..UptoSaid' is the law's where the arguments, and the package variables that the reading takes, are together of bulk at most 1048576: NARROWER than '..Said'. Prove '..Said' where nothing that the law and all that it calls make is longer than what came in: it says more and counts as full. Else prove '..UptoSaid'. A law counts once. -/
mutual
def uptoBulk {H : Type} : DataW H → Nat
  | .lit (.string bytes) => bytes.length + 1
  | .lit _ => 1
  | .nil => 1
  | .ptr d => uptoBulk d + 1
  | .slice elems spare => uptoBulkAll elems + uptoBulkAll spare + 1
  | .agg parts => uptoBulkAll parts + 1
  | .iface _ d => uptoBulk d + 1
  | .map entries => uptoBulkEntries entries + 1
  | .held _ => 1
def uptoBulkAll {H : Type} : List (DataW H) → Nat
  | [] => 0
  | d :: r => uptoBulk d + uptoBulkAll r
def uptoBulkEntries {H : Type} : List (Lit × DataW H) → Nat
  | [] => 0
  | x :: r => uptoBulkEntry x + uptoBulkEntries r
def uptoBulkEntry {H : Type} : Lit × DataW H → Nat
  | (.string bytes, d) => bytes.length + uptoBulk d + 1
  | (_, d) => uptoBulk d + 1
 end
def uptoSmall : (H : Type) → List (DataW H) → Bool := fun _ ds => decide (uptoBulkAll ds ≤ 1048576)
def OpenSpec.upto (s : _root_.Go.ChangeSpec) : _root_.Go.OpenSpec := { _root_.Go.OpenSpec.ofChange s with cond := some uptoSmall }

/-- 'laws.FnExactClosest', WHERE WHAT IT READS IS OF BULK AT MOST 1048576: true; the input reads as it did. -/
def fnExactClosestUptoRow : OpenClaim := { program := "ytjefeldkonejcaagreat", sum := "20d50d0665436a0c7f32eebeba5dc42c800695e12915ccfe59700d125e4da390", func := "loop.example/g00022/laws.FnExactClosest", spec := "fnExactClosest", inPlace := ["internal/reflectlite.ValueOf", "internal/reflectlite.Swapper", "(internal/reflectlite.Value).Len"], unfollowed := true, recurses := true, apart := false, narrowed := true }
def FnExactClosestUptoSaid : Prop := fnExactClosestUptoRow.holds Tryz.pinned (OpenSpec.upto fnExactClosestSpec)

/-- 'laws.FnExactFirstHit', WHERE WHAT IT READS IS OF BULK AT MOST 1048576: true; the input reads as it did. -/
def fnExactFirstHitUptoRow : OpenClaim := { program := "ytjefeldkonejcaagreat", sum := "20d50d0665436a0c7f32eebeba5dc42c800695e12915ccfe59700d125e4da390", func := "loop.example/g00022/laws.FnExactFirstHit", spec := "fnExactFirstHit", inPlace := ["internal/reflectlite.ValueOf", "internal/reflectlite.Swapper", "(internal/reflectlite.Value).Len"], unfollowed := true, recurses := true, apart := false, narrowed := true }
def FnExactFirstHitUptoSaid : Prop := fnExactFirstHitUptoRow.holds Tryz.pinned (OpenSpec.upto fnExactFirstHitSpec)

/-- 'laws.FnExactVisited', WHERE WHAT IT READS IS OF BULK AT MOST 1048576: true; the input reads as it did. -/
def fnExactVisitedUptoRow : OpenClaim := { program := "ytjefeldkonejcaagreat", sum := "20d50d0665436a0c7f32eebeba5dc42c800695e12915ccfe59700d125e4da390", func := "loop.example/g00022/laws.FnExactVisited", spec := "fnExactVisited", inPlace := ["internal/reflectlite.ValueOf", "internal/reflectlite.Swapper", "(internal/reflectlite.Value).Len"], unfollowed := true, recurses := true, apart := false, narrowed := true }
def FnExactVisitedUptoSaid : Prop := fnExactVisitedUptoRow.holds Tryz.pinned (OpenSpec.upto fnExactVisitedSpec)

/-- 'laws.FnExactOverlaps', WHERE WHAT IT READS IS OF BULK AT MOST 1048576: true; the input reads as it did. -/
def fnExactOverlapsUptoRow : OpenClaim := { program := "ytjefeldkonejcaagreat", sum := "20d50d0665436a0c7f32eebeba5dc42c800695e12915ccfe59700d125e4da390", func := "loop.example/g00022/laws.FnExactOverlaps", spec := "fnExactOverlaps", inPlace := ["internal/reflectlite.ValueOf", "internal/reflectlite.Swapper", "(internal/reflectlite.Value).Len"], unfollowed := true, recurses := true, apart := false, narrowed := true }
def FnExactOverlapsUptoSaid : Prop := fnExactOverlapsUptoRow.holds Tryz.pinned (OpenSpec.upto fnExactOverlapsSpec)

end Rows
end Go.Proofs.YtjefeldkonejcaaGreat

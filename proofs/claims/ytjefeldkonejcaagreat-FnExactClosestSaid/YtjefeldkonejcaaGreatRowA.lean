/-
 A PART OF THE PROOF of ClI (texts RowA): the claim itself stands in the last text. No conditions beside those of the given row.
-/
import Derived.Test.YtjefeldkonejcaaGreatBigF
import Derived.WalkKit
import Derived.ProofKit
import Derived.OpenShut
import Derived.ChangeOld
import Derived.Below
import Derived.Carry
import Derived.SizedLaws
import Derived.LaidMore
import Derived.Stop.Joined
set_option linter.unusedVariables false
set_option linter.unnecessarySimpa false
set_option linter.unusedSimpArgs false
namespace Go.Abs
open Go.Proofs Go.ChangeShapes Go.WideShapes Go.ChangeAt Go.RowKit
set_option maxRecDepth 100000
def heapG(w:World):Ghost:=fun b o=>w.cell? ⟨b,o,none⟩
def kap0:Kap:=fun _=>(0,0,0)
theorem rel_start(N:NumSem) (w:World) (hinv:∀ b,N.isHeld b=true->∃ x,w.heap[b]? = some x/\N.heldIs b x):Rel N (heapG w) kap0 (hmap []) w where
 ghost:=fun _ _ _ h=>h
 blk:=fun l b h=>by simp [hmap,hget,Blk.opt]at h
 sep:=fun l l' h=>by simp [hmap,hget,Blk.opt]at h
 own:=fun l b h=>by simp [hmap,hget,Blk.opt]at h
 inv:=hinv
 off:=fun l h=>by simp [hmap,hget,Blk.opt]at h
theorem below_of{N:NumSem} {G':Ghost} {κ':Kap} {H':HL} {w w':World} (t:Trans (heapG w) kap0 (hmap []) w G' κ' (hmap H') w'):Below w.heap.size w w':=
 ⟨t.os,t.tape,t.output,t.size,fun k hk=>t.kept k hk fun l hl=>by simp [hmap,hget,Blk.opt]at hl⟩
theorem spot_none{P:Program} {W:World} {r:Reach} {base t e:Nat} {a:Addr} {len cap:Nat} (ht:P.underlying t=some (.slice e)) (h:Value.okWide P W r base t (.slice (some a) len cap)):a.spot=none:=by
 simp only [Value.okWide,ht,Cell.okWide,Cell.ok,World.has]at h;exact h.2.2.2.1
end Go.Abs

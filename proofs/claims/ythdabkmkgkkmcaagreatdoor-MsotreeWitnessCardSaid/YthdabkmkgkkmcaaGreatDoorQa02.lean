/- Part 2 of the proof; it says: lemmas and contracts. No conditions but those that each theorem states. -/
import Derived.Deep.RegionLaw
import Derived.Laws.EntriesVeiled
import Derived.Test.YthdabkmkgkkmcaaGreatDoorPb14
import Derived.Test.YthdabkmkgkkmcaaGreatDoorPb01
import Derived.Test.YthdabkmkgkkmcaaGreatDoorPb03
import Derived.Test.YthdabkmkgkkmcaaGreatDoorPb04
import Derived.Test.YthdabkmkgkkmcaaGreatDoorPb05
import Derived.Test.YthdabkmkgkkmcaaGreatDoorPb06
import Derived.Test.YthdabkmkgkkmcaaGreatDoorPb07
import Derived.Test.YthdabkmkgkkmcaaGreatDoorPb08
import Derived.Test.YthdabkmkgkkmcaaGreatDoorPb09
import Derived.Test.YthdabkmkgkkmcaaGreatDoorPb10
import Derived.Test.YthdabkmkgkkmcaaGreatDoorPb11
import Derived.Test.YthdabkmkgkkmcaaGreatDoorPb12
import Derived.Test.YthdabkmkgkkmcaaGreatDoorPb13
import Derived.Test.YthdabkmkgkkmcaaGreatDoorPb02
import Derived.Test.YthdabkmkgkkmcaaGreatDoorQa01
set_option linter.unusedSimpArgs false
set_option linter.unusedVariables false
set_option linter.unusedSectionVars false
set_option maxRecDepth 100000
set_option maxHeartbeats 32000000
namespace Go.Proofs.YthdabkmkgkkmcaaGreatDoor
open Go.RowKit
theorem VO.spot {E:TypeId} {w:World} {B g n cap:Nat} {f:List Value} (h:VO E w B (.slice (some ⟨g,0,none⟩) n cap) f) (hn:f.length = n) {j:Nat} (hj:j < n):(∃ u,w.cell? ⟨g,j,none⟩ = some u) /\ w.frozen? ⟨g,j,none⟩ = false /\ B <= g /\ g < w.heap.size:=by
 obtain ⟨g',cap',cs,he,hg,hrow,_,_,hcell⟩:=h.row (by omega)
 simp only [Value.slice.injEq,Option.some.injEq,Addr.mk.injEq,and_true] at he
 obtain ⟨rfl,_,_⟩:=he
 exact ⟨⟨_,hcell j _ (List.getElem?_eq_getElem (by omega))⟩,hrow.free j,hg,hrow.lt⟩
section
variable {P:Nat × Nat -> Prop} {f:Nat × Nat -> Nat × Nat -> Nat -> Nat × Nat} {L:Nat} {k0:Nat × Nat} {V gv ga gx go gn bm:Nat} {j1 j2:Value} {w:World} {ks:List (Nat × Nat)} {rv:Value} {rows all:List Value} {m:Nat -> Nat} {W:World}
end
end Go.Proofs.YthdabkmkgkkmcaaGreatDoor

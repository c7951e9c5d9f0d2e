/- Part 1 of the proof; it says: lemmas and contracts. No conditions but those that each theorem states. -/
import Derived.Test.YthdabkmkgkkmcaaGreatDoorChecked
import Derived.WalkKit
import Derived.WalkSpells
import Derived.WalkLawsBesides
import Derived.Handy
import Derived.Lib.Hide
import Derived.Deep.LoopGhost
import Derived.Deep.QuietTactic
import Derived.BigQuiet
import Derived.Lib.QuietBelow
import Derived.Deep.RegionWith
import Derived.Deep.DeepFit
import Derived.Deep.DeepMust
import Derived.Maps.AppendAt
import Derived.Deep.AppendLies
import Derived.Test.YthdabkmkgkkmcaaGreatDoorPb03
import Derived.Test.YthdabkmkgkkmcaaGreatDoorPb01
import Derived.Test.YthdabkmkgkkmcaaGreatDoorPb02
set_option linter.unusedSimpArgs false
set_option linter.unusedVariables false
set_option maxRecDepth 100000
set_option maxHeartbeats 32000000
namespace Go.Proofs.YthdabkmkgkkmcaaGreatDoor
open Go.RowKit
theorem IS.below {w w':World} {v:Value} {f:List Int} {B:Nat} (h:IS w v f) (hb:Below B w w') (hB:w.heap.size <= B):IS w' v f:=by
 obtain ⟨A,c,hv,h1,h2,h3⟩:=h
 refine ⟨A,c,hv,h1,h2,fun hp => ?_⟩
 obtain ⟨b,o,hA,hlt,hm⟩:=h3 hp
 exact ⟨b,o,hA,Nat.lt_of_lt_of_le hlt hb.size,fun i m him => (hb.cell (p:=⟨b,o + i,none⟩) (by simpa using Nat.lt_of_lt_of_le hlt hB)).trans (hm i m him)⟩
theorem IS.nil (w:World):IS w (.slice none 0 0) []:=⟨none,0,rfl,by simp,by omega,by simp⟩
def isQ (op:Int):Bool:=decide (12 <= op) && decide (op <= 15)
theorem zsp (op:Int) (w:World):Calls Tryz.prog 89 #[.int .u8 op] w fun e w' => e = .returned (.bool (isQ op)) /\ w = w':=by
 by_cases h1:12 <= op
 all_goals
  go_enter Tryz.func89,Tryz.ntmps89
  go_wp2
  go_returns
  exact ⟨by simp [isQ]; omega,rfl⟩
end Go.Proofs.YthdabkmkgkkmcaaGreatDoor

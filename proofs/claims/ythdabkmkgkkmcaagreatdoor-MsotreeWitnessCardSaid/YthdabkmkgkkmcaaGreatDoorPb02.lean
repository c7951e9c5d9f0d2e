/- Part 2 of the proof; it says: lemmas and contracts. No conditions but those that each theorem states. -/
import Derived.OrdersHeld
import Derived.NoCompiler
import Derived.WalkKit
import Derived.Test.YthdabkmkgkkmcaaGreatDoorPb01
set_option linter.unusedSimpArgs false
set_option linter.unusedVariables false
set_option maxRecDepth 100000
set_option maxHeartbeats 32000000
namespace Go.Proofs.YthdabkmkgkkmcaaGreatDoor
open Go.RowKit
theorem tk {P:Program} {ops:Array Oper} {Q:Exit → Act → World → Prop} {md:Region.Mode} {S:World → Prop} {fuel:Nat} {listed:Array Bool} {a:Act} {w:World} (i:Nat) {oi:Oper} {v:Value} (h:wpAnyH P md ops Q S fuel (listed.setIfInBounds i true) (a.put oi.dst v) w)
  (hi:ops[i]? = some oi:=by rfl) (hv:∀ w,S w → (execOp a.eval oi).run P w = .ok (.value v) w:=by intro w h; (try dsimp only at h); go_simp; try with_reducible rfl) (hs:Region.noSelect ops = true:=by kernel_rfl) (hf:Region.free md ops listed i = true:=by kernel_rfl) (hr:(Region.ready md ops listed).contains i = true:=by kernel_rfl)
  (hQ:∀ c a w,Q (.panic c) (a.put oi.dst v) w → Q (.panic c) a w:=by exact fun _ _ _ h => h) (hw:Region.wanted oi (yielded ops a.tmps) = true:=by rfl) (hS:S w:=by assumption):wpAnyH P md ops Q S (fuel + 1) listed a w :=
 wpAnyH_take hi hs hf hr hQ (Or.inl ⟨hw,hv⟩) hS h
end Go.Proofs.YthdabkmkgkkmcaaGreatDoor

/- Part 44 of the proof; it says: lemmas and contracts. No conditions but those that each theorem states. -/
import Derived.Test.YthkfjnmnoanhlaaGreatDoorCards
import Derived.Test.YthkfjnmnoanhlaaGreatDoorTie
import Derived.ProofKit
import Derived.OpenShut
import Derived.Carry
import Derived.Deep.Slices
import Derived.Deep.DeepHandedRow
import Derived.Lib.LaidTab
import Derived.Test.YthkfjnmnoanhlaaGreatDoorPr01
import Derived.Test.YthkfjnmnoanhlaaGreatDoorPr03
import Derived.Test.YthkfjnmnoanhlaaGreatDoorPr17
set_option linter.unusedSimpArgs false
set_option linter.unusedVariables false
set_option maxRecDepth 100000
set_option maxHeartbeats 32000000
namespace Go.Proofs.YthkfjnmnoanhlaaGreatDoor
open Go.ChangeShapes Go.WideShapes Go.ChangeAt Go.RowKit
theorem rowOwn:ownKnob Tryz.prog.godebug = none:=by kernel_rfl
theorem rowLaid:laidOutB Tryz.prog = true:=by kernel_rfl
theorem zen {H:Type} {enc:TypeId × Value -> H} {W W':World} (hb:Below W.heap.size W W'):∀ {ts:List TypeId} {vs:List Value} {ds:List (DataW H)} {ps:List MemPlace},(∀ t ∈ ts,Tryz.prog.readableRec t = true /\ t < Tryz.prog.types.size) ->
  DataW.TrodAll enc Tryz.prog W 0 (fun _ => true) true ts vs ds ps -> (∀ x ∈ ps,x.block < W.heap.size) -> DataW.TrodAll enc Tryz.prog W' 0 (fun b => decide (b < W.heap.size)) true ts vs ds ps
 | [],[],[],_,_,h,_ => h
 | [],_ :: _,_,_,_,h,_ => by cases h
 | [],[],_ :: _,_,_,h,_ => by cases h
 | _ :: _,[],_,_,_,h,_ => by cases h
 | _ :: _,_ :: _,[],_,_,h,_ => by cases h
 | t :: ts,v :: vs,d :: ds,ps,ht,h,hl => by
  obtain ⟨p,q,h1,h2,rfl⟩:=h
  exact ⟨p,q,Below.trod rowLaid (ht t (by simp)).1 (ht t (by simp)).2 h1 hb (fun x hx => hl x (by simp [hx])),zen hb (fun t' h' => ht t' (by simp [h'])) h2 (fun x hx => hl x (by simp [hx])),rfl⟩
theorem zqt {H:Type} {enc:TypeId × Value -> H} {f:Func} {s:ChangeSpec} {W W':World} {args:Array Value} {ds gs:List (DataW H)} {before:List MemPlace} (hs:s.vars = []) (hf:f.resultTypes.toList = [4]) (hf2:f.resultTypes.size = 1)
  (hW:DataW.Whole enc Tryz.prog f.params.toList s.vars false W args.toList ds gs before) (hb:Below W.heap.size W W') (ht:∀ t ∈ f.params.toList,Tryz.prog.readableRec t = true /\ t < Tryz.prog.types.size)
  (hfn:(s.fn H (ds ++ gs)).results = [.lit (.bool true)] /\ (s.fn H (ds ++ gs)).args = ds /\ (s.fn H (ds ++ gs)).vars = []):s.post enc Tryz.prog f false true false false W args (.bool true) W':=by
 have hlt:=hW.lt
 have hW':=hW
 obtain ⟨p,q,hA,hV,rfl,_,_⟩:=hW
 rw [hs] at hV
 obtain ⟨rfl,rfl⟩:=trodVars_none hV
 refine ⟨ds,[],_,[],p,[],hW',?_,?_,?_,hb.frame _,fun h => by cases h⟩
 ·rw [hf,hf2,hfn.1]
  exact trodAll_mk1 (shut_bool Tryz.underlying4 _)
 ·rw [hfn.2.1]
  exact zen hb ht hA fun x hx => hlt x (by simp [hx])
 ·rw [hs,hfn.2.2]
  exact rfl
theorem zgl:Tryz.prog.cellsOf 3 = 1:=by kernel_rfl
instance:Inhabited Lf:=⟨⟨0,0,0⟩⟩
def litV:DataW Unit -> Value
 | .lit (.int k n) => .int k n
 | _ => undef
def zh2:DataW Unit -> List Value
 | .agg l => l.map litV
 | _ => []
def layAs (vs:List Value):Obj -> Obj
 | .cells _ t frozen => .cells vs.toArray t frozen
 | o => o
end Go.Proofs.YthkfjnmnoanhlaaGreatDoor

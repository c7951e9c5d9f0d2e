/- Beside two automata a tree made by labelled: what is said of the slots. -/
import Derived.Test.YthkfjnmnoanhlaaGreatDoorTwJ
import Derived.Test.YthkfjnmnoanhlaaGreatDoorFnd
set_option linter.unusedSimpArgs false
set_option linter.unusedVariables false
namespace Go.Proofs.YthkfjnmnoanhlaaGreatDoor
open Go.RowKit

/-- xt the loaded tree, rt what labelled made of it, st the variable. -/
structure LabJ (B : Nat) (vt : Value) (tl : List Lf) (fx fr fs : Bool) (xt rt st : Value) (W : World) : Prop where
  hx : fx = true → xt = vt
  hr : fr = true → TO W B rt tl
  hs : fs = true → fr = true ∧ st = rt
variable {B : Nat} {vt : Value} {tl : List Lf} {fx fr fs : Bool} {xt rt st : Value} {W X : World}
theorem LabJ.to (h : LabJ B vt tl fx fr fs xt rt st W) (hb : Below W.heap.size W X) : LabJ B vt tl fx fr fs xt rt st X := ⟨h.hx, fun e => (h.hr e).below hb (Nat.le_refl _), h.hs⟩
theorem LabJ.load (h : LabJ B vt tl fx fr fs xt rt st W) : LabJ B vt tl true fr fs vt rt st W := ⟨fun _ => rfl, h.hr, h.hs⟩
theorem LabJ.call {v : Value} (h : LabJ B vt tl fx fr fs xt rt st W) (hf : fr = false) (ht : TO X W.heap.size v tl) (hB : B ≤ W.heap.size) : LabJ B vt tl fx true fs xt v st X :=
  ⟨h.hx, fun _ => ht.mono hB, fun e => by have := (h.hs e).1; rw [hf] at this; cases this⟩
theorem LabJ.keep (h : LabJ B vt tl fx fr fs xt rt st W) (hr : fr = true) : LabJ B vt tl fx fr true xt rt rt W := ⟨h.hx, h.hr, fun _ => ⟨hr, rfl⟩⟩
theorem LabJ.set4 {g : Nat} {a b c e x0 x1 x2 x3 : Value} (h : LabJ B vt tl fx fr fs xt rt st W) (r : Row W g 25 #[x0, x1, x2, x3]) : LabJ B vt tl fx fr fs xt rt st (set4 W g a b c e) :=
  ⟨h.hx, fun k => ((((h.hr k).setRow r (by decide) 0 a).setRow (r.set 0 a) (by decide) 1 b).setRow ((r.set 0 a).set 1 b) (by decide) 2 c).setRow (((r.set 0 a).set 1 b).set 2 c) (by decide) 3 e, h.hs⟩
end Go.Proofs.YthkfjnmnoanhlaaGreatDoor

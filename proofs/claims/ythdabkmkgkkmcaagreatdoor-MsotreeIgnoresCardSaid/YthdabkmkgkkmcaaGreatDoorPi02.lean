/- Part 2 of the proof; it says: lemmas and contracts. No conditions but those that each theorem states. -/
import Derived.Test.YthdabkmkgkkmcaaGreatDoorPb05
import Derived.Test.YthdabkmkgkkmcaaGreatDoorPb01
import Derived.Test.YthdabkmkgkkmcaaGreatDoorPb02
set_option linter.unusedSimpArgs false
set_option linter.unusedVariables false
set_option linter.unusedSectionVars false
set_option maxRecDepth 100000
set_option maxHeartbeats 32000000
namespace Go.Proofs.YthdabkmkgkkmcaaGreatDoor
section
variable {K:Type} [DecidableEq K] (f:K -> K -> Nat -> K)
end
section
variable {K M:Type} [DecidableEq K] [DecidableEq M] {R:K -> M -> Prop}
variable {f:K -> K -> Nat -> K} {g:M -> M -> Nat -> M}
end
end Go.Proofs.YthdabkmkgkkmcaaGreatDoor
namespace Go.Proofs.YthdabkmkgkkmcaaGreatDoor
end Go.Proofs.YthdabkmkgkkmcaaGreatDoor
namespace Go.Proofs.YthdabkmkgkkmcaaGreatDoor
end Go.Proofs.YthdabkmkgkkmcaaGreatDoor
namespace Go.Proofs.YthdabkmkgkkmcaaGreatDoor
section
variable {K:Type} [DecidableEq K] (f:K -> K -> Nat -> K)
variable {f}
variable (f)
variable {f}
end
end Go.Proofs.YthdabkmkgkkmcaaGreatDoor
namespace Go.Proofs.YthdabkmkgkkmcaaGreatDoor
end Go.Proofs.YthdabkmkgkkmcaaGreatDoor
namespace Go.Proofs.YthdabkmkgkkmcaaGreatDoor
end Go.Proofs.YthdabkmkgkkmcaaGreatDoor
namespace Go.Proofs.YthdabkmkgkkmcaaGreatDoor
section
variable {K:Type} [DecidableEq K] (f:K -> K -> Nat -> K)
variable {f}
end
theorem zsk (v x i:Nat):(loV v x).testBit i = (x.testBit i && !decide (v = i)):=by
 unfold loV
 rw [Nat.testBit_xor,Nat.testBit_and,Nat.testBit_two_pow]
 cases x.testBit i <;> cases decide (v = i) <;> rfl
theorem zsl (v x i:Nat):(hiV v x).testBit i = (x.testBit i || decide (v = i)):=by
 unfold hiV
 rw [Nat.testBit_or,Nat.testBit_two_pow]
theorem zb7 {v:Nat} {a b:Int}:labC v a b ↔ 0 <= b /\ ∀ i,i ≠ v -> b.toNat.testBit i = a.toNat.testBit i:=by
 unfold labC
 constructor
 ·rintro ⟨h | h,h0⟩
  ·refine ⟨h0,fun i hi => ?_⟩
   rw [h,zsk]; simp [Ne.symm hi]
  ·refine ⟨h0,fun i hi => ?_⟩
   rw [h,zsl]; simp [Ne.symm hi]
 ·rintro ⟨h0,h⟩
  refine ⟨?_,h0⟩
  cases hb:b.toNat.testBit v with
  | false =>
   left
   apply Nat.eq_of_testBit_eq
   intro i
   rw [zsk]
   by_cases hi:i = v
   ·subst hi; simp [hb]
   ·rw [h i hi]; simp [Ne.symm hi]
  | true =>
   right
   apply Nat.eq_of_testBit_eq
   intro i
   rw [zsl]
   by_cases hi:i = v
   ·subst hi; simp [hb]
   ·rw [h i hi]; simp [Ne.symm hi]
theorem zc2 (v:Nat) {L:Nat}:∀ t:Bt,t.lb L -> VarV v t t
 | .nil,_ => trivial
 | .node a l r,h => znr.2 ⟨zb7.2 ⟨h.1.1,fun _ _ => rfl⟩,zc2 v l h.2.1,zc2 v r h.2.2⟩
theorem zsf {v L:Nat}:∀ {t u:Bt},t.lb L -> VarV v t u -> VarV v u t
 | .nil,.nil,_,_ => trivial
 | .nil,.node _ _ _,_,h => absurd h (by simp [VarV,VarT])
 | .node _ _ _,.nil,_,h => absurd h (by simp [VarV,VarT])
 | .node a l r,.node b l' r',ht,h => by
  obtain ⟨h1,h2,h3⟩:=znr.1 h
  exact znr.2 ⟨zb7.2 ⟨ht.1.1,fun i hi => ((zb7.1 h1).2 i hi).symm⟩,zsf ht.2.1 h2,zsf ht.2.2 h3⟩
theorem zr9 {v:Nat}:∀ {t u w:Bt},VarV v t u -> VarV v u w -> VarV v t w
 | .nil,.nil,.nil,_,_ => trivial
 | .nil,.node _ _ _,_,h,_ => absurd h (by simp [VarV,VarT])
 | .node _ _ _,.nil,_,h,_ => absurd h (by simp [VarV,VarT])
 | .nil,.nil,.node _ _ _,_,h => absurd h (by simp [VarV,VarT])
 | .node _ _ _,.node _ _ _,.nil,_,h => absurd h (by simp [VarV,VarT])
 | .node a l r,.node b l' r',.node c l2 r2,h,g => by
  obtain ⟨h1,h2,h3⟩:=znr.1 h
  obtain ⟨g1,g2,g3⟩:=znr.1 g
  exact znr.2 ⟨zb7.2 ⟨(zb7.1 g1).1,fun i hi => ((zb7.1 g1).2 i hi).trans ((zb7.1 h1).2 i hi)⟩,zr9 h2 g2,zr9 h3 g3⟩
theorem zsa {v z:Nat} (hne:v ≠ z):∀ {t u w:Bt},VarV v t u -> VarV z u w -> ∃ u',VarV z t u' /\ VarV v u' w
 | .nil,.nil,.nil,_,_ => ⟨.nil,trivial,trivial⟩
 | .nil,.node _ _ _,_,h,_ => absurd h (by simp [VarV,VarT])
 | .node _ _ _,.nil,_,h,_ => absurd h (by simp [VarV,VarT])
 | .nil,.nil,.node _ _ _,_,h => absurd h (by simp [VarV,VarT])
 | .node _ _ _,.node _ _ _,.nil,_,h => absurd h (by simp [VarV,VarT])
 | .node a l r,.node b l' r',.node c l2 r2,h,g => by
  obtain ⟨h1,h2,h3⟩:=znr.1 h
  obtain ⟨g1,g2,g3⟩:=znr.1 g
  obtain ⟨x,hx1,hx2⟩:=zsa hne h2 g2
  obtain ⟨y,hy1,hy2⟩:=zsa hne h3 g3
  have k1:=zb7.1 h1
  have k2:=zb7.1 g1
  refine ⟨.node ((if c.toNat.testBit z then hiV z a.toNat else loV z a.toNat:Nat):Int) x y,znr.2 ⟨⟨?_,by omega⟩,hx1,hy1⟩,znr.2 ⟨zb7.2 ⟨k2.1,fun i hi => ?_⟩,hx2,hy2⟩⟩
  ·rw [Int.toNat_natCast]; split
   ·exact .inr rfl
   ·exact .inl rfl
  ·rw [Int.toNat_natCast]
   by_cases hz:i = z
   ·subst hz
    split
    ·rename_i hb; rw [hb,zsl]; simp
    ·rename_i hb; simp at hb; rw [hb,zsk]; simp
   ·rw [k2.2 i hz,k1.2 i hi]
    split
    ·rw [zsl]; simp [Ne.symm hz]
    ·rw [zsk]; simp [Ne.symm hz]
end Go.Proofs.YthdabkmkgkkmcaaGreatDoor
namespace Go.Proofs.YthdabkmkgkkmcaaGreatDoor
end Go.Proofs.YthdabkmkgkkmcaaGreatDoor
namespace Go.Proofs.YthdabkmkgkkmcaaGreatDoor
section
variable {K:Type} [DecidableEq K] (f:K -> K -> Nat -> K)
end
end Go.Proofs.YthdabkmkgkkmcaaGreatDoor
namespace Go.Proofs.YthdabkmkgkkmcaaGreatDoor
end Go.Proofs.YthdabkmkgkkmcaaGreatDoor
namespace Go.Proofs.YthdabkmkgkkmcaaGreatDoor
section
variable (d:Dta) (k:Nat)
end
end Go.Proofs.YthdabkmkgkkmcaaGreatDoor
namespace Go.Proofs.YthdabkmkgkkmcaaGreatDoor
end Go.Proofs.YthdabkmkgkkmcaaGreatDoor

/- Part 1 of the proof; it says: lemmas and contracts. No conditions but those that each theorem states. -/
import Derived.Test.YthdabkmkgkkmcaaGreatDoorPb01
import Derived.Test.YthdabkmkgkkmcaaGreatDoorQa01
import Derived.Test.YthdabkmkgkkmcaaGreatDoorPb02
import Derived.Test.YthdabkmkgkkmcaaGreatDoorPb05
set_option linter.unusedSimpArgs false
set_option linter.unusedVariables false
set_option linter.unusedSectionVars false
set_option maxRecDepth 100000
set_option maxHeartbeats 32000000
namespace Go.Proofs.YthdabkmkgkkmcaaGreatDoor
end Go.Proofs.YthdabkmkgkkmcaaGreatDoor
namespace Go.Proofs.YthdabkmkgkkmcaaGreatDoor
end Go.Proofs.YthdabkmkgkkmcaaGreatDoor
namespace Go.Proofs.YthdabkmkgkkmcaaGreatDoor
theorem lt_enc {K:Nat} (b:Bt):∀ p,(∀ m ∈ b.enc p,0 <= m.label /\ m.label < K) ↔ b.lt K:=by
 induction b with
 | nil => intro p; simp [Bt.enc,Bt.lt]
 | node lab l r ihl ihr =>
  intro p
  simp only [Bt.enc,List.mem_cons,List.mem_append,Bt.lt]
  constructor
  ·intro h
   have h0:=h _ (.inl rfl)
   exact ⟨h0.1,h0.2,(ihl (p + 1)).1 fun m hm => h m (.inr (.inl hm)),(ihr (p + 1 + l.size)).1 fun m hm => h m (.inr (.inr hm))⟩
  ·rintro ⟨h1,h2,h3,h4⟩ m (rfl | hm | hm)
   ·exact ⟨h1,h2⟩
   ·exact (ihl _).2 h3 m hm
   ·exact (ihr _).2 h4 m hm
end Go.Proofs.YthdabkmkgkkmcaaGreatDoor
namespace Go.Proofs.YthdabkmkgkkmcaaGreatDoor
end Go.Proofs.YthdabkmkgkkmcaaGreatDoor
namespace Go.Proofs.YthdabkmkgkkmcaaGreatDoor
end Go.Proofs.YthdabkmkgkkmcaaGreatDoor
namespace Go.Proofs.YthdabkmkgkkmcaaGreatDoor
section
variable {K:Type} [DecidableEq K] (f:K -> K -> Nat -> K)
end
section
variable {K M:Type} [DecidableEq K] [DecidableEq M] {R:K -> M -> Prop}
variable {f:K -> K -> Nat -> K} {g:M -> M -> Nat -> M}
end
end Go.Proofs.YthdabkmkgkkmcaaGreatDoor
namespace Go.Proofs.YthdabkmkgkkmcaaGreatDoor
end Go.Proofs.YthdabkmkgkkmcaaGreatDoor
namespace Go.Proofs.YthdabkmkgkkmcaaGreatDoor
end Go.Proofs.YthdabkmkgkkmcaaGreatDoor
namespace Go.Proofs.YthdabkmkgkkmcaaGreatDoor
section
variable {K:Type} [DecidableEq K] (f:K -> K -> Nat -> K)
variable {f}
variable (f)
variable {f}
end
end Go.Proofs.YthdabkmkgkkmcaaGreatDoor
namespace Go.Proofs.YthdabkmkgkkmcaaGreatDoor
end Go.Proofs.YthdabkmkgkkmcaaGreatDoor
namespace Go.Proofs.YthdabkmkgkkmcaaGreatDoor
end Go.Proofs.YthdabkmkgkkmcaaGreatDoor
namespace Go.Proofs.YthdabkmkgkkmcaaGreatDoor
section
variable {K:Type} [DecidableEq K] (f:K -> K -> Nat -> K)
variable {f}
end
end Go.Proofs.YthdabkmkgkkmcaaGreatDoor
namespace Go.Proofs.YthdabkmkgkkmcaaGreatDoor
def accN (d:Dta) (n:Nat):Nat:=((tsF d.L (n + 1) n).filter fun b => d.fin (d.run b)).length
theorem zxi {d:Dta} {n:Nat} (h:∀ t:Bt,t.size = n -> t.lb d.L -> d.fin (d.run t) = false):accN d n = 0:=by
 unfold accN
 rw [List.length_eq_zero_iff,List.filter_eq_nil_iff]
 intro t ht
 obtain ⟨h1,h2⟩:=(zo5 d.L (n + 1) n (by omega) t).1 ht
 rw [h t h1 h2]; simp
theorem zxk {d:Dta} {n:Nat} {t:Bt} (h1:t.size = n) (h2:t.lb d.L) (h3:d.fin (d.run t) = true):0 < accN d n:=by
 unfold accN
 exact List.length_pos_of_mem (List.mem_filter.2 ⟨(zo5 d.L (n + 1) n (by omega) t).2 ⟨h1,h2⟩,h3⟩)
end Go.Proofs.YthdabkmkgkkmcaaGreatDoor
namespace Go.Proofs.YthdabkmkgkkmcaaGreatDoor
section
variable {K:Type} [DecidableEq K] (f:K -> K -> Nat -> K)
end
end Go.Proofs.YthdabkmkgkkmcaaGreatDoor
namespace Go.Proofs.YthdabkmkgkkmcaaGreatDoor
end Go.Proofs.YthdabkmkgkkmcaaGreatDoor
namespace Go.Proofs.YthdabkmkgkkmcaaGreatDoor
section
variable (d:Dta) (k:Nat)
end
end Go.Proofs.YthdabkmkgkkmcaaGreatDoor
namespace Go.Proofs.YthdabkmkgkkmcaaGreatDoor
theorem bt_lb {t:List Lf} (hf:zae t = true) {L:Nat} (h0:∀ m ∈ t,0 <= m.label) (hl:∀ m ∈ t,m.label.toNat < L):(btOf t).lb L:=by
 rw [lb_lt]
 rw [<- lt_enc (btOf t) 0]
 obtain ⟨_,_,_,he⟩:=zdh hf
 rw [<- he]
 intro m hm
 have:=h0 m hm; have:=hl m hm
 omega
end Go.Proofs.YthdabkmkgkkmcaaGreatDoor

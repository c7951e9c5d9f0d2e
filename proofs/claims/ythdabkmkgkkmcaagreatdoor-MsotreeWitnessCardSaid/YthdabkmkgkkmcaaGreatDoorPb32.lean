/- Part 32 of the proof; it says: lemmas and contracts. No conditions but those that each theorem states. -/
import Derived.Test.YthdabkmkgkkmcaaGreatDoorPb01
import Derived.Test.YthdabkmkgkkmcaaGreatDoorPb06
set_option linter.unusedSimpArgs false
set_option linter.unusedVariables false
set_option maxRecDepth 100000
set_option maxHeartbeats 32000000
namespace Go.Proofs.YthdabkmkgkkmcaaGreatDoor
open Go.RowKit
structure RelV (far:Bool) (fid:Nat) (vf:Value) (gF gG:Nat) (W:World):Prop where
 eq:vf = .func (.func 167) #[] #[.pointer (some ⟨gF,0,none⟩),.pointer (some ⟨gG,0,none⟩)]
 far:Row W gF 4 #[.bool far]
 fnd:Row W gG 47 #[.func (.func fid) #[] #[]]
theorem RelV.below {far:Bool} {fid:Nat} {vf:Value} {gF gG:Nat} {W W':World} (h:RelV far fid vf gF gG W) (hb:Below W.heap.size W W'):RelV far fid vf gF gG W':=⟨h.eq,h.far.below hb h.far.lt,h.fnd.below hb h.fnd.lt⟩
theorem zml (far:Bool) (fid:Nat) (w:World):Calls Tryz.prog 145 #[.bool far,.func (.func fid) #[] #[]] w fun e w' => ∃ vf gF gG,e = .returned vf /\ Below w.heap.size w w' /\ RelV far fid vf gF gG w':=by
 have hmf:∀ (fn:Fn) (first cap:Array Value) (W:World),(Instr.makeFunc fn first cap).run Tryz.prog W = .ok (.func fn first cap) W:=fun _ _ _ _ => rfl
 go_enter Tryz.func145,Tryz.ntmps145
 go_wp2
 go_returns
 refine ⟨_,w.heap.size,w.heap.size + 1,rfl,by go_grown,rfl,(Row.new _ _ _).alloc _,Row.lit (by simp)⟩
def StpV (op:Int) (vf:Value) (W:World):Prop :=
 (op = 2 /\ vf = .func (.func 141) #[] #[]) \/ (op = 3 /\ vf = .func (.func 142) #[] #[]) \/ (op = 4 /\ vf = .func (.func 143) #[] #[]) \/
 (op = 6 /\ ∃ gF gG,RelV true 146 vf gF gG W) \/ (op = 7 /\ ∃ gF gG,RelV false 147 vf gF gG W) \/ (op = 8 /\ ∃ gF gG,RelV false 148 vf gF gG W) \/
 ((op ≠ 2 /\ op ≠ 3 /\ op ≠ 4 /\ op ≠ 6 /\ op ≠ 7 /\ op ≠ 8) /\ vf = .func (.func 149) #[] #[])
theorem zqt (op:Int) (h0:0 <= op) (h1:op <= 255) (w:World):Calls Tryz.prog 118 #[.int .u8 op] w fun e w' => ∃ vf,e = .returned (.tuple #[vf,.int .i64 ((finA op:Nat):Int)]) /\ Below w.heap.size w w' /\ StpV op vf w':=by
 have hr:=fun far fid => zml far fid w
 have HR:=zh hr
 have hc:op = 2 \/ op = 3 \/ op = 4 \/ op = 6 \/ op = 7 \/ op = 8 \/ (op ≠ 2 /\ op ≠ 3 /\ op ≠ 4 /\ op ≠ 6 /\ op ≠ 7 /\ op ≠ 8):=by omega
 clear hr
 rcases hc with rfl | rfl | rfl | rfl | rfl | rfl | ⟨k2,k3,k4,k6,k7,k8⟩
 ·go_enter Tryz.func118,Tryz.ntmps118
  go_wp2
  go_returns
  exact ⟨_,rfl,Below.refl _ _,.inl ⟨rfl,rfl⟩⟩
 ·go_enter Tryz.func118,Tryz.ntmps118
  go_wp2
  go_returns
  exact ⟨_,rfl,Below.refl _ _,.inr (.inl ⟨rfl,rfl⟩)⟩
 ·go_enter Tryz.func118,Tryz.ntmps118
  go_wp2
  go_returns
  exact ⟨_,rfl,Below.refl _ _,.inr (.inr (.inl ⟨rfl,rfl⟩))⟩
 ·go_enter Tryz.func118,Tryz.ntmps118
  go_wp2_with (first | (go_at_call 145; (refine (HR.out _ _).mono ?_); rintro e w1 ⟨vf,gF,gG,rfl,hb,hv⟩; have HB:=zh hb; have HV:=zh hv; clear hb hv) | fail)
  go_returns
  exact ⟨_,rfl,HB.out,.inr (.inr (.inr (.inl ⟨rfl,_,_,HV.out⟩)))⟩
 ·go_enter Tryz.func118,Tryz.ntmps118
  go_wp2_with (first | (go_at_call 145; (refine (HR.out _ _).mono ?_); rintro e w1 ⟨vf,gF,gG,rfl,hb,hv⟩; have HB:=zh hb; have HV:=zh hv; clear hb hv) | fail)
  go_returns
  exact ⟨_,rfl,HB.out,.inr (.inr (.inr (.inr (.inl ⟨rfl,_,_,HV.out⟩))))⟩
 ·go_enter Tryz.func118,Tryz.ntmps118
  go_wp2_with (first | (go_at_call 145; (refine (HR.out _ _).mono ?_); rintro e w1 ⟨vf,gF,gG,rfl,hb,hv⟩; have HB:=zh hb; have HV:=zh hv; clear hb hv) | fail)
  go_returns
  exact ⟨_,rfl,HB.out,.inr (.inr (.inr (.inr (.inr (.inl ⟨rfl,_,_,HV.out⟩)))))⟩
 ·have e0:finA op = 0:=by unfold finA; rw [if_neg k4,if_neg (by omega)]
  have E0:=zh e0
  have q2:(op == 2) = false:=by simpa using k2
  have q3:(op == 3) = false:=by simpa using k3
  have q4:(op == 4) = false:=by simpa using k4
  have q6:(op == 6) = false:=by simpa using k6
  have q7:(op == 7) = false:=by simpa using k7
  have q8:(op == 8) = false:=by simpa using k8
  clear e0
  go_enter Tryz.func118,Tryz.ntmps118
  go_wp2
  go_returns
  exact ⟨_,by rw [E0.out]; rfl,Below.refl _ _,.inr (.inr (.inr (.inr (.inr (.inr ⟨⟨k2,k3,k4,k6,k7,k8⟩,rfl⟩)))))⟩
end Go.Proofs.YthdabkmkgkkmcaaGreatDoor

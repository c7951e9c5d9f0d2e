/- Part 29 of the proof; it says: lemmas and contracts. No conditions but those that each theorem states. -/
import Derived.Test.YthdabkmkgkkmcaaGreatDoorPb01
import Derived.Test.YthdabkmkgkkmcaaGreatDoorPb23
import Derived.Test.YthdabkmkgkkmcaaGreatDoorPb28
set_option linter.unusedSimpArgs false
set_option linter.unusedVariables false
set_option maxRecDepth 100000
set_option maxHeartbeats 32000000
namespace Go.Proofs.YthdabkmkgkkmcaaGreatDoor
theorem enc_up (t:Tr):t.ok -> ∀ p d:Nat,(t.enc p).map (mv d) = t.enc (p + d):=by
 induction t with
 | leaf op x y =>
  intro ok p d
  have h0:nc op = 0:=ok.2.1
  simp [Tr.enc,mv,h0]
 | un op x a ih =>
  intro ok p d
  have h0:nc op = 1:=ok.1.2.1
  have hs:=a.size_pos
  rw [Tr.enc,Tr.enc,List.map_append,ih ok.2 p d]
  simp only [List.map_cons,List.map_nil,mv,h0]
  congr 3
  simp
  omega
 | bin op a b iha ihb =>
  intro ok p d
  have h0:nc op = 2:=ok.1
  have hs:=a.size_pos
  have hs2:=b.size_pos
  rw [Tr.enc,Tr.enc,List.map_append,List.map_append,iha ok.2.1 p d,ihb ok.2.2 (p + a.size) d]
  simp only [List.map_cons,List.map_nil,mv,h0]
  rw [show p + a.size + d = p + d + a.size by omega]
  congr 3
  simp
  omega
theorem zk4 (a:Tr) (ok:a.ok) (op x:Int) (hs:a.size < 64):wrapS (a.enc 0) ⟨op,x,0,0,0⟩ = ((Tr.un op x a).enc 0,0):=by
 have hp:=a.size_pos
 unfold wrapS
 rw [if_pos (zc4 a ok (by omega)),Tr.enc_len,if_neg (by omega),Tr.enc]
 congr 4
 rw [Nat.zero_add]
 omega
theorem zlj (a b:Tr) (oka:a.ok) (okb:b.ok) (op:Int) (hop:op = 10 \/ op = 11) (hs:a.size + b.size < 64):joinS op (a.enc 0) (b.enc 0) = ((Tr.bin op a b).enc 0,0):=by
 have hp:=a.size_pos
 have hq:=b.size_pos
 unfold joinS
 rw [if_neg (by omega),if_neg (by rw [zc4 a oka (by omega),zc4 b okb (by omega)]; simp),Tr.enc_len,Tr.enc_len,if_neg (by omega),Tr.enc,enc_up b okb 0 a.size]
 rw [List.append_assoc]
 congr 4
 simp only [Nat.zero_add]
 simp only [List.cons.injEq,Mk.mk.injEq,and_true,true_and]
 omega
theorem bin_ok {op:Int} {a b:Tr} (hop:op = 10 \/ op = 11) (oka:a.ok) (okb:b.ok):(Tr.bin op a b).ok:=⟨by rcases hop with rfl | rfl <;> rfl,oka,okb⟩
theorem un_ok {op x:Int} {a:Tr} (hop:(op = 9 /\ x = 0) \/ (12 <= op /\ op <= 15 /\ 0 <= x /\ x < 6)) (oka:a.ok):(Tr.un op x a).ok:=by
 refine ⟨?_,oka⟩
 rcases hop with ⟨rfl,rfl⟩ | ⟨h1,h2,h3,h4⟩
 ·exact ⟨by decide,by decide,by decide,by decide⟩
 ·have h:op = 12 \/ op = 13 \/ op = 14 \/ op = 15:=by omega
  have hv:nv op = 1:=by rcases h with rfl | rfl | rfl | rfl <;> rfl
  refine ⟨by rcases h with rfl | rfl | rfl | rfl <;> decide,by rcases h with rfl | rfl | rfl | rfl <;> rfl,?_,?_⟩
  ·simp [zak,hv,h3,h4]
  ·simp [spare,hv]
end Go.Proofs.YthdabkmkgkkmcaaGreatDoor

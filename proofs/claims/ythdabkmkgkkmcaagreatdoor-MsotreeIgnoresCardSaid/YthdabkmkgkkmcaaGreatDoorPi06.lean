/- Part 6 of the proof; it says: lemmas and contracts. No conditions but those that each theorem states. -/
import Derived.Test.YthdabkmkgkkmcaaGreatDoorPb01
import Derived.Test.YthdabkmkgkkmcaaGreatDoorPb03
import Derived.Test.YthdabkmkgkkmcaaGreatDoorPb04
import Derived.Test.YthdabkmkgkkmcaaGreatDoorPb23
import Derived.Test.YthdabkmkgkkmcaaGreatDoorPb25
import Derived.Test.YthdabkmkgkkmcaaGreatDoorPb26
import Derived.Test.YthdabkmkgkkmcaaGreatDoorPb27
import Derived.Test.YthdabkmkgkkmcaaGreatDoorPb02
import Derived.Test.YthdabkmkgkkmcaaGreatDoorPi01
import Derived.Test.YthdabkmkgkkmcaaGreatDoorPi03
import Derived.Test.YthdabkmkgkkmcaaGreatDoorPi04
set_option linter.unusedSimpArgs false
set_option linter.unusedVariables false
set_option maxRecDepth 100000
set_option maxHeartbeats 32000000
namespace Go.Proofs.YthdabkmkgkkmcaaGreatDoor
open Go.RowKit
def LiesQ (f:List Mk) (p:Nat) (t:Tr):Prop:=∀ j m,(t.enc p)[j]? = some m -> f[p + j]? = some m
theorem LiesQ.self (t:Tr):LiesQ (t.enc 0) 0 t:=fun j m h => by rw [Nat.zero_add]; exact h
theorem LiesQ.leaf {f:List Mk} {p:Nat} {op x y:Int} (h:LiesQ f p (.leaf op x y)):f[p]? = some ⟨op,x,y,0,0⟩:=h 0 _ rfl
theorem LiesQ.un {f:List Mk} {p:Nat} {op x:Int} {a:Tr} (h:LiesQ f p (.un op x a)):LiesQ f p a /\ f[p + a.size]? = some ⟨op,x,0,((p + a.size - 1:Nat):Int),0⟩:=by
 constructor
 ·intro j m hj
  refine h j m ?_
  rw [Tr.enc,List.getElem?_append_left (List.getElem?_eq_some_iff.1 hj).1]; exact hj
 ·refine h a.size _ ?_
  rw [Tr.enc,List.getElem?_append_right (by rw [Tr.enc_len]; omega),Tr.enc_len]; simp
theorem LiesQ.bin {f:List Mk} {p:Nat} {op:Int} {a b:Tr} (h:LiesQ f p (.bin op a b)):LiesQ f p a /\ LiesQ f (p + a.size) b /\ f[p + a.size + b.size]? = some ⟨op,0,0,((p + a.size - 1:Nat):Int),((p + a.size + b.size - 1:Nat):Int)⟩:=by
 refine ⟨?_,?_,?_⟩
 ·intro j m hj
  refine h j m ?_
  rw [Tr.enc,List.getElem?_append_left (List.getElem?_eq_some_iff.1 hj).1]; exact hj
 ·intro j m hj
  rw [Nat.add_assoc]
  refine h (a.size + j) m ?_
  rw [Tr.enc,List.getElem?_append_right (by rw [Tr.enc_len]; omega),Tr.enc_len,Nat.add_sub_cancel_left,List.getElem?_append_left (List.getElem?_eq_some_iff.1 hj).1]; exact hj
 ·rw [Nat.add_assoc]
  refine h (a.size + b.size) _ ?_
  rw [Tr.enc,List.getElem?_append_right (by rw [Tr.enc_len]; omega),Tr.enc_len,List.getElem?_append_right (by rw [Tr.enc_len]; omega),Tr.enc_len]; simp; omega
def frTQ (v:Int):Tr -> Bool
 | .leaf op x y => (decide (0 < nv op) && (x == v)) || (decide (1 < nv op) && (y == v))
 | .un op x a => if 12 <= op then (x != v) && frTQ v a else frTQ v a
 | .bin _ a b => frTQ v a || frTQ v b
theorem zsm (ab:List Int) (s:Nat) (u v:Int) (hu:0 <= u) (hv:0 <= v):(orv ab s u).testBit v.toNat = (s.testBit v.toNat || ((u == v) && !ab.contains v)):=by
 unfold orv
 by_cases h:ab.contains u = true
 ·rw [if_pos h]
  by_cases e:u = v
  ·subst e; rw [h]; simp
  ·simp [e]
 ·rw [if_neg h,Nat.testBit_or,Nat.one_shiftLeft,Nat.testBit_two_pow]
  by_cases e:u = v
  ·subst e
   have h':ab.contains u = false:=by simpa using h
   rw [h']; simp
  ·have:¬ u.toNat = v.toNat:=by omega
   simp [e,this]
theorem isQ_ofQ {op:Int} (h:nm op ≠ []):isQ op = decide (12 <= op):=by
 have:=zlf h
 unfold isQ
 rw [Bool.eq_iff_iff]; simp; omega
theorem zsi (ab:List Int) (z v:Int):(ab ++ [z]).contains v = (ab.contains v || (z == v)):=by
 rw [Bool.eq_iff_iff,Bool.or_eq_true,List.contains_iff_mem,List.contains_iff_mem,List.mem_append,List.mem_singleton,beq_iff_eq]
 exact ⟨fun h => h.elim .inl fun e => .inr e.symm,fun h => h.elim .inl fun e => .inr e.symm⟩
theorem zsx (f:List Mk) (v:Int) (hv:0 <= v) (t:Tr):t.ok -> ∀ p ab s,LiesQ f p t -> (trav (stepF f) p ab t s).testBit v.toNat = (s.testBit v.toNat || (frTQ v t && !ab.contains v)):=by
 induction t with
 | leaf op x y =>
  intro ok p ab s hl
  have hm:=hl.leaf
  have hw:=ok.2.2.1
  simp only [zak,Bool.and_eq_true,Bool.or_eq_true,decide_eq_true_eq] at hw
  simp only [trav,stepF,hm,frTQ]
  rcases zip op with h | h | h
  ·rw [occ0 (by exact h),h]; simp
  ·rw [occ1 (by exact h),h]
   simp only [List.foldl_cons,List.foldl_nil]
   rw [zsm _ _ _ _ (by omega) hv]
   simp
  ·rw [occ2 (by exact h),h]
   simp only [List.foldl_cons,List.foldl_nil]
   rw [zsm _ _ _ _ (by omega) hv,zsm _ _ _ _ (by omega) hv]
   generalize s.testBit v.toNat = b1
   generalize (x == v) = b2
   generalize (y == v) = b3
   generalize ab.contains v = b4
   simp only [show decide ((0:Int) < 2) = true from rfl,show decide ((1:Int) < 2) = true from rfl]
   revert b1 b2 b3 b4; decide
 | un op x a ih =>
  intro ok p ab s hl
  obtain ⟨h1,h2⟩:=hl.un
  simp only [trav,frTQ]
  rw [ih ok.2 p _ s h1,isQ_ofQ ok.1.1]
  by_cases h12:12 <= op
  ·rw [if_pos (by simpa using h12),if_pos h12,zsi]
   simp only [bne]
   generalize s.testBit v.toNat = b1
   generalize (x == v) = b2
   generalize frTQ v a = b3
   generalize ab.contains v = b4
   revert b1 b2 b3 b4; decide
  ·rw [if_neg (by simpa using h12),if_neg h12]
 | bin op a b iha ihb =>
  intro ok p ab s hl
  obtain ⟨h1,h2,_⟩:=hl.bin
  simp only [trav,frTQ]
  rw [ihb ok.2.2 _ _ _ h2,iha ok.2.1 _ _ _ h1]
  generalize s.testBit v.toNat = b1
  generalize frTQ v a = b2
  generalize frTQ v b = b3
  generalize ab.contains v = b4
  revert b1 b2 b3 b4; decide
theorem zst (t:Tr) (ok:t.ok) (v:Nat):(freeS (t.enc 0) t).testBit v = frTQ (v:Int) t:=by
 have h:=zsx (t.enc 0) (v:Int) (by omega) t ok 0 [] 0 (LiesQ.self t)
 simp only [Int.toNat_natCast] at h
 unfold freeS
 rw [h]
 simp
end Go.Proofs.YthdabkmkgkkmcaaGreatDoor

/- Part 7 of the proof; it says: lemmas and contracts. No conditions but those that each theorem states. -/
import Derived.Test.YthdabkmkgkkmcaaGreatDoorPb01
import Derived.Test.YthdabkmkgkkmcaaGreatDoorPb03
import Derived.Test.YthdabkmkgkkmcaaGreatDoorPb04
import Derived.Test.YthdabkmkgkkmcaaGreatDoorPb05
import Derived.Test.YthdabkmkgkkmcaaGreatDoorPb06
import Derived.Test.YthdabkmkgkkmcaaGreatDoorPb07
import Derived.Test.YthdabkmkgkkmcaaGreatDoorPb08
import Derived.Test.YthdabkmkgkkmcaaGreatDoorPb09
import Derived.Test.YthdabkmkgkkmcaaGreatDoorPb10
import Derived.Test.YthdabkmkgkkmcaaGreatDoorPb11
import Derived.Test.YthdabkmkgkkmcaaGreatDoorPb12
import Derived.Test.YthdabkmkgkkmcaaGreatDoorPb13
import Derived.Test.YthdabkmkgkkmcaaGreatDoorPb14
import Derived.Test.YthdabkmkgkkmcaaGreatDoorPb15
import Derived.Test.YthdabkmkgkkmcaaGreatDoorPb16
import Derived.Test.YthdabkmkgkkmcaaGreatDoorPb17
import Derived.Test.YthdabkmkgkkmcaaGreatDoorPb18
import Derived.Test.YthdabkmkgkkmcaaGreatDoorPb19
import Derived.Test.YthdabkmkgkkmcaaGreatDoorPb20
import Derived.Test.YthdabkmkgkkmcaaGreatDoorPb21
import Derived.Test.YthdabkmkgkkmcaaGreatDoorPb22
import Derived.Test.YthdabkmkgkkmcaaGreatDoorPb23
import Derived.Test.YthdabkmkgkkmcaaGreatDoorPb24
import Derived.Test.YthdabkmkgkkmcaaGreatDoorPb25
import Derived.Test.YthdabkmkgkkmcaaGreatDoorPb26
import Derived.Test.YthdabkmkgkkmcaaGreatDoorPb27
import Derived.Test.YthdabkmkgkkmcaaGreatDoorPb28
import Derived.Test.YthdabkmkgkkmcaaGreatDoorPb29
import Derived.Test.YthdabkmkgkkmcaaGreatDoorPb30
import Derived.Test.YthdabkmkgkkmcaaGreatDoorPb02
import Derived.Test.YthdabkmkgkkmcaaGreatDoorPi01
import Derived.Test.YthdabkmkgkkmcaaGreatDoorPi02
import Derived.Test.YthdabkmkgkkmcaaGreatDoorPi03
import Derived.Test.YthdabkmkgkkmcaaGreatDoorPi04
import Derived.Test.YthdabkmkgkkmcaaGreatDoorPi05
import Derived.Test.YthdabkmkgkkmcaaGreatDoorPi06
set_option linter.unusedSimpArgs false
set_option linter.unusedVariables false
set_option maxRecDepth 100000
set_option maxHeartbeats 32000000
namespace Go.Proofs.YthdabkmkgkkmcaaGreatDoor
def InvP (V v:Nat) (P:Bt -> Prop):Prop:=∀ T T':Bt,T.lb (2 ^ V) -> VarV v T T' -> (P T ↔ P T')
theorem zsn {v:Nat} {a b X:Int} (h:labC v a b) (hX:0 <= X) (hne:X ≠ v):bitA b.toNat X = bitA a.toNat X:=by
 have h1:=(zb7.1 h).2 X.toNat (by omega)
 unfold bitA
 have e:∀ n:Nat,n / 2 ^ X.toNat % 2 = (n.testBit X.toNat).toNat:=fun n => by
  rw [Nat.testBit_eq_decide_div_mod_eq]
  have:n / 2 ^ X.toNat % 2 = 0 \/ n / 2 ^ X.toNat % 2 = 1:=by omega
  rcases this with h | h <;> rw [h] <;> rfl
 rw [e,e,h1]
theorem stepA_x {op:Int} (h1:nv op <= 1) (l r x y y':Nat):stepA op l r x y = stepA op l r x y':=by
 have hn:¬ (op = 2 \/ (5 <= op /\ op <= 8)):=by
  intro h
  have:nv op = 2:=by unfold nv; rw [if_neg (by omega),if_pos h]
  omega
 have n2:op ≠ 2:=by omega
 have n6:op ≠ 6:=by omega
 have n7:op ≠ 7:=by omega
 have n8:op ≠ 8:=by omega
 unfold stepA
 simp only [if_neg n2,if_neg n6,if_neg n7,if_neg n8]
theorem stepA_0 {op:Int} (h1:nv op <= 0) (l r x y x' y':Nat):stepA op l r x y = stepA op l r x' y':=by
 have hn:¬ (op = 3 \/ op = 4 \/ (12 <= op /\ op <= 15)):=by
  intro h
  have:nv op = 1:=by unfold nv; rw [if_pos h]
  omega
 have hn2:¬ (op = 2 \/ (5 <= op /\ op <= 8)):=by
  intro h
  have:nv op = 2:=by unfold nv; rw [if_neg hn,if_pos h]
  omega
 have n2:op ≠ 2:=by omega
 have n3:op ≠ 3:=by omega
 have n4:op ≠ 4:=by omega
 have n6:op ≠ 6:=by omega
 have n7:op ≠ 7:=by omega
 have n8:op ≠ 8:=by omega
 unfold stepA
 simp only [if_neg n2,if_neg n3,if_neg n4,if_neg n6,if_neg n7,if_neg n8]
theorem zso {op X Y:Int} {V v:Nat} (hX:0 <= X) (hY:0 <= Y) (h1:0 < nv op -> X ≠ v) (h2:1 < nv op -> Y ≠ v):∀ {T T':Bt},VarV v T T' -> (atomA op X Y V).run T' = (atomA op X Y V).run T
 | .nil,.nil,_ => rfl
 | .nil,.node _ _ _,h => absurd h (by simp [VarV,VarT])
 | .node _ _ _,.nil,h => absurd h (by simp [VarV,VarT])
 | .node a l r,.node b l' r',h => by
  obtain ⟨k1,k2,k3⟩:=znr.1 h
  have e1:=zso (V:=V) hX hY h1 h2 k2
  have e2:=zso (V:=V) hX hY h1 h2 k3
  simp only [Dta.run]
  rw [e1,e2]
  show (if _ then stepA op _ _ (bitA b.toNat X) (bitA b.toNat Y) else 3) = (if _ then stepA op _ _ (bitA a.toNat X) (bitA a.toNat Y) else 3)
  congr 1
  by_cases g2:1 < nv op
  ·rw [zsn k1 hX (h1 (by omega)),zsn k1 hY (h2 g2)]
  ·by_cases g1:0 < nv op
   ·rw [zsn k1 hX (h1 g1)]
    exact stepA_x (by omega) _ _ _ _ _
   ·exact stepA_0 (by omega) _ _ _ _ _ _
theorem zsv {op X Y:Int} {V v:Nat} (hX:0 <= X) (hY:0 <= Y) (h1:0 < nv op -> X ≠ v) (h2:1 < nv op -> Y ≠ v):InvP V v (fun T => accS (atomA op X Y V) T = true):=fun T T' _ h => by
 have e:=zso (V:=V) hX hY h1 h2 h
 show (atomA op X Y V).fin _ = true ↔ (atomA op X Y V).fin _ = true
 rw [e]
theorem InvP.not {V v:Nat} {P:Bt -> Prop} (h:InvP V v P):InvP V v (fun T => ¬ P T):=fun T T' h1 h2 => not_congr (h T T' h1 h2)
theorem InvP.and {V v:Nat} {P Q:Bt -> Prop} (h:InvP V v P) (g:InvP V v Q):InvP V v (fun T => P T /\ Q T):=fun T T' h1 h2 => and_congr (h T T' h1 h2) (g T T' h1 h2)
theorem InvP.or {V v:Nat} {P Q:Bt -> Prop} (h:InvP V v P) (g:InvP V v Q):InvP V v (fun T => P T \/ Q T):=fun T T' h1 h2 => or_congr (h T T' h1 h2) (g T T' h1 h2)
theorem InvP.ex {V v x:Nat} {P:Bt -> Prop} (hv:v < V) (hx:x < V) (h:x = v \/ InvP V v P):InvP V v (fun T => ∃ u,VarV x T u /\ P u):=by
 intro T T' hT hV
 have hT':=zh9 hv hT hV
 have hV':=zsf hT hV
 by_cases e:x = v
 ·subst e
  exact ⟨fun ⟨u,h1,h2⟩ => ⟨u,zr9 hV' h1,h2⟩,fun ⟨u,h1,h2⟩ => ⟨u,zr9 hV h1,h2⟩⟩
 ·have hP:=h.resolve_left e
  constructor
  ·rintro ⟨u,h1,h2⟩
   obtain ⟨u',k1,k2⟩:=zsa (Ne.symm e) hV' h1
   exact ⟨u',k1,(hP u' u (zh9 hx hT' k1) k2).2 h2⟩
  ·rintro ⟨u,h1,h2⟩
   obtain ⟨u',k1,k2⟩:=zsa (Ne.symm e) hV h1
   exact ⟨u',k1,(hP u' u (zh9 hx hT k1) k2).2 h2⟩
theorem unL_inv {V v:Nat} {op x:Int} {P:Bt -> Prop} (hv:v < V) (hx:op = 9 \/ (12 <= op /\ op <= 15 /\ 0 <= x /\ x < V)) (h:(12 <= op /\ x = v) \/ InvP V v P):InvP V v (unL V op x P):=by
 unfold unL
 by_cases h9:op = 9
 ·simp only [if_pos h9]
  exact (h.resolve_left (by omega)).not
 ·simp only [if_neg h9]
  have hxv:x.toNat < V:=by omega
  have hs:x.toNat = v \/ InvP V v (fun T => accS (atomA 4 x 0 V) T = true):=by
   by_cases e:x.toNat = v
   ·exact .inl e
   ·exact .inr (zsv (by omega) (by omega) (fun _ => by omega) (fun h => by simp [nv] at h))
  have hp:x.toNat = v \/ InvP V v P:=h.imp (fun h => by omega) id
  have hand:∀ {Q:Bt -> Prop},(x.toNat = v \/ InvP V v Q) -> x.toNat = v \/ InvP V v (fun T => Q T /\ accS (atomA 4 x 0 V) T = true):=fun hq => hq.elim .inl fun q => hs.imp id fun s => q.and s
  by_cases h12:op = 12
  ·simp only [if_pos h12]; exact InvP.ex hv hxv hp
  ·simp only [if_neg h12]
   by_cases h13:op = 13
   ·simp only [if_pos h13]; exact (InvP.ex hv hxv (hp.imp id InvP.not)).not
   ·simp only [if_neg h13]
    by_cases h14:op = 14
    ·simp only [if_pos h14]; exact InvP.ex hv hxv (hand hp)
    ·simp only [if_neg h14]; exact (InvP.ex hv hxv (hand (hp.imp id InvP.not))).not
theorem zs4 {V v:Nat} (hv:v < V):∀ t:Tr,t.ok -> t.vOK V -> frTQ (v:Int) t = false -> InvP V v (langT V t):=by
 intro t
 induction t with
 | leaf op x y =>
  intro ok hV hf
  simp only [frTQ,Bool.or_eq_false_iff,Bool.and_eq_false_iff,decide_eq_false_iff_not] at hf
  refine zsv hV.1 hV.2 (fun h => ?_) (fun h => ?_)
  ·have:=hf.1.resolve_left (by omega); simpa using this
  ·have:=hf.2.resolve_left (by omega); simpa using this
 | un op x a ih =>
  intro ok hV hf
  simp only [frTQ] at hf
  refine unL_inv hv hV.1 ?_
  by_cases h12:12 <= op
  ·rw [if_pos h12] at hf
   simp only [Bool.and_eq_false_iff] at hf
   rcases hf with hf | hf
   ·left; exact ⟨h12,by simpa using hf⟩
   ·right; exact ih ok.2 hV.2 hf
  ·rw [if_neg h12] at hf
   right; exact ih ok.2 hV.2 hf
 | bin op a b iha ihb =>
  intro ok hV hf
  simp only [frTQ,Bool.or_eq_false_iff] at hf
  have h1:=iha ok.2.1 hV.2.1 hf.1
  have h2:=ihb ok.2.2 hV.2.2 hf.2
  by_cases h:op = 10
  ·have e:langT V (.bin op a b) = fun T => langT V a T /\ langT V b T:=by funext T; simp only [langT,if_pos h]
   rw [e]; exact h1.and h2
  ·have e:langT V (.bin op a b) = fun T => langT V a T \/ langT V b T:=by funext T; simp only [langT,if_neg h]
   rw [e]; exact h1.or h2
theorem idle_nx {d:Dta} {V v:Nat} (hc:d.Canon) (hL:d.L = 2 ^ V) (hv:v < V) (hi:∀ T T':Bt,T.lb (2 ^ V) -> VarV v T T' -> accS d T = accS d T') {l r x:Nat} (hl:l < d.n) (hr:r < d.n) (hx:x < 2 ^ V):d.nx l r x = d.nx l r (x ^^^ 2 ^ v):=by
 have key:∀ T T':Bt,T.lb (2 ^ V) -> VarV v T T' -> d.run T = d.run T':=by
  intro T T' hT hV
  refine hc.red (fun p q => ∃ t u:Bt,t.lb (2 ^ V) /\ VarV v t u /\ d.run t = p /\ d.run u = q) ?_ _ _ ⟨T,T',hT,hV,rfl,rfl⟩
  constructor
  ·rintro _ _ ⟨t,u,h1,h2,rfl,rfl⟩
   have h3:=zh9 hv h1 h2
   exact ⟨hc.ok.run t (by rw [hL]; exact h1),hc.ok.run u (by rw [hL]; exact h3)⟩
  ·rintro _ _ ⟨t,u,h1,h2,rfl,rfl⟩
   exact hi t u h1 h2
  ·rintro _ _ q x ⟨t,u,h1,h2,rfl,rfl⟩ hq hx
   obtain ⟨w,hw,rfl⟩:=hc.acc hq
   rw [hL] at hw hx
   exact ⟨.node x t w,.node x u w,⟨⟨by omega,by simpa using hx⟩,h1,hw⟩,znr.2 ⟨zb7.2 ⟨by omega,fun _ _ => rfl⟩,h2,zc2 v w hw⟩,by simp [Dta.run],by simp [Dta.run]⟩
  ·rintro _ _ q x ⟨t,u,h1,h2,rfl,rfl⟩ hq hx
   obtain ⟨w,hw,rfl⟩:=hc.acc hq
   rw [hL] at hw hx
   exact ⟨.node x w t,.node x w u,⟨⟨by omega,by simpa using hx⟩,hw,h1⟩,znr.2 ⟨zb7.2 ⟨by omega,fun _ _ => rfl⟩,zc2 v w hw,h2⟩,by simp [Dta.run],by simp [Dta.run]⟩
 obtain ⟨tl,hl1,rfl⟩:=hc.acc hl
 obtain ⟨tr,hr1,rfl⟩:=hc.acc hr
 rw [hL] at hl1 hr1
 have h:=key (.node x tl tr) (.node ((x ^^^ 2 ^ v:Nat):Int) tl tr) ⟨⟨by omega,by simpa using hx⟩,hl1,hr1⟩ (znr.2 ⟨zb7.2 ⟨by omega,fun i hi => ?_⟩,zc2 v tl hl1,zc2 v tr hr1⟩)
 ·simpa [Dta.run] using h
 ·rw [Int.toNat_natCast,Int.toNat_natCast,Nat.testBit_xor,Nat.testBit_two_pow_of_ne (by omega)]
  simp
theorem zs0 {t:Tr} {V v M:Nat} (hV:V <= 3) (hM:M <= 64) (ok:t.ok) (ht:t.vOK V) {d:Dta} (h:cmpT V M t = some d) (hv:v < V) (hf:frTQ (v:Int) t = false) {l r x:Nat} (hl:l < d.n) (hr:r < d.n) (hx:x < 2 ^ V):d.nx l r x = d.nx l r (x ^^^ 2 ^ v):=by
 have hlg:=cmpT_lg hV hM t ht d h
 refine idle_nx (zrx hV hM t ht h) (zd4 hV hM t ht d h).L hv (fun T T' hT hvar => ?_) hl hr hx
 have h1:=hlg T hT
 have h2:=hlg T' (zh9 hv hT hvar)
 rw [Bool.eq_iff_iff,h1,h2]
 exact zs4 hv t ok ht hf T T' hT hvar
theorem zta {i:Nat} (hi:6 <= i):∀ t:Tr,t.ok -> frTQ (i:Int) t = false:=by
 intro t
 induction t with
 | leaf op x y =>
  intro ok
  have hw:=ok.2.2.1
  simp only [zak,Bool.and_eq_true,Bool.or_eq_true,decide_eq_true_eq] at hw
  simp only [frTQ,Bool.or_eq_false_iff,Bool.and_eq_false_iff,decide_eq_false_iff_not]
  refine ⟨?_,?_⟩
  ·by_cases h:0 < nv op
   ·right; simp; omega
   ·left; exact h
  ·by_cases h:1 < nv op
   ·right; simp; omega
   ·left; exact h
 | un op x a ih =>
  intro ok
  simp only [frTQ,ih ok.2]
  split <;> simp
 | bin op a b iha ihb =>
  intro ok
  simp only [frTQ,iha ok.2.1,ihb ok.2.2]
  rfl
theorem zs9 {t:Tr} (ok:t.ok):freeS (t.enc 0) t < 64:=by
 refine Nat.lt_pow_two_of_testBit (n:=6) _ fun i hi => ?_
 rw [zst t ok,zta hi t ok]
end Go.Proofs.YthdabkmkgkkmcaaGreatDoor

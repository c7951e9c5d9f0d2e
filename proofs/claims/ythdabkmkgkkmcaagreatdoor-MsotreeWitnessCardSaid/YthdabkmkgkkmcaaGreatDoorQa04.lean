/- Part 4 of the proof; it says: lemmas and contracts. No conditions but those that each theorem states. -/
import Derived.Test.YthdabkmkgkkmcaaGreatDoorPb01
import Derived.Test.YthdabkmkgkkmcaaGreatDoorPb03
import Derived.Test.YthdabkmkgkkmcaaGreatDoorPb04
import Derived.Test.YthdabkmkgkkmcaaGreatDoorPb05
import Derived.Test.YthdabkmkgkkmcaaGreatDoorPb06
import Derived.Test.YthdabkmkgkkmcaaGreatDoorPb07
import Derived.Test.YthdabkmkgkkmcaaGreatDoorPb08
import Derived.Test.YthdabkmkgkkmcaaGreatDoorPb09
import Derived.Test.YthdabkmkgkkmcaaGreatDoorPb10
import Derived.Test.YthdabkmkgkkmcaaGreatDoorPb11
import Derived.Test.YthdabkmkgkkmcaaGreatDoorPb12
import Derived.Test.YthdabkmkgkkmcaaGreatDoorPb13
import Derived.Test.YthdabkmkgkkmcaaGreatDoorPb14
import Derived.Test.YthdabkmkgkkmcaaGreatDoorPb15
import Derived.Test.YthdabkmkgkkmcaaGreatDoorPb16
import Derived.Test.YthdabkmkgkkmcaaGreatDoorPb17
import Derived.Test.YthdabkmkgkkmcaaGreatDoorPb18
import Derived.Test.YthdabkmkgkkmcaaGreatDoorPb19
import Derived.Test.YthdabkmkgkkmcaaGreatDoorPb20
import Derived.Test.YthdabkmkgkkmcaaGreatDoorPb21
import Derived.Test.YthdabkmkgkkmcaaGreatDoorPb22
import Derived.Test.YthdabkmkgkkmcaaGreatDoorPb23
import Derived.Test.YthdabkmkgkkmcaaGreatDoorPb24
import Derived.Test.YthdabkmkgkkmcaaGreatDoorPb25
import Derived.Test.YthdabkmkgkkmcaaGreatDoorPb26
import Derived.Test.YthdabkmkgkkmcaaGreatDoorPb27
import Derived.Test.YthdabkmkgkkmcaaGreatDoorPb28
import Derived.Test.YthdabkmkgkkmcaaGreatDoorPb29
import Derived.Test.YthdabkmkgkkmcaaGreatDoorPb30
import Derived.Test.YthdabkmkgkkmcaaGreatDoorPb02
import Derived.Test.YthdabkmkgkkmcaaGreatDoorQa01
import Derived.Test.YthdabkmkgkkmcaaGreatDoorQa02
import Derived.Test.YthdabkmkgkkmcaaGreatDoorQa03
set_option linter.unusedSimpArgs false
set_option linter.unusedVariables false
set_option linter.unusedSectionVars false
set_option maxRecDepth 100000
set_option maxHeartbeats 32000000
namespace Go.Proofs.YthdabkmkgkkmcaaGreatDoor
def unL (V:Nat) (op x:Int) (P:Bt -> Prop) (T:Bt):Prop :=
 if op = 9 then ¬ P T
 else if op = 12 then ∃ u,VarV x.toNat T u /\ P u
 else if op = 13 then ¬ ∃ u,VarV x.toNat T u /\ ¬ P u
 else if op = 14 then ∃ u,VarV x.toNat T u /\ P u /\ accS (atomA 4 x 0 V) u = true
 else ¬ ∃ u,VarV x.toNat T u /\ ¬ P u /\ accS (atomA 4 x 0 V) u = true
def langT (V:Nat):Tr -> Bt -> Prop
 | .leaf op x y,T => accS (atomA op x y V) T = true
 | .un op x a,T => unL V op x (langT V a) T
 | .bin op a b,T => if op = 10 then langT V a T /\ langT V b T else langT V a T \/ langT V b T
def LgA (V:Nat) (d:Dta) (P:Bt -> Prop):Prop:=∀ T:Bt,T.lb (2 ^ V) -> (accS d T = true ↔ P T)
theorem Dta.Is.lg {d:Dta} {V:Nat} {S:Bt -> Bool} (h:d.Is (2 ^ V) S) {P:Bt -> Prop} (hP:∀ T:Bt,T.lb (2 ^ V) -> (S T = true ↔ P T)):LgA V d P:=fun T hT => by
 unfold accS
 rw [h.lang T hT]
 exact hP T hT
theorem zuj {d:Dta} {V:Nat} {P:Bt -> Prop} (hd:d.Fit V) (h:LgA V d P):LgA V d.notM (fun T => ¬ P T):=by
 have hi:=Dta.notM_is hd.ok
 rw [hd.L] at hi
 refine hi.lg fun T hT => ?_
 rw [<- h T hT]
 unfold accS
 simp
theorem zvz {a b e:Dta} {V:Nat} {g:Bool -> Bool -> Bool} {P Q:Bt -> Prop} (ha:a.Fit V) (hb:b.Fit V) (hP:LgA V a P) (hQ:LgA V b Q) (h:opC g a b = some e) {R:Bt -> Prop} (hR:∀ T p q,(p = true ↔ P T) -> (q = true ↔ Q T) -> (g p q = true ↔ R T)):LgA V e R:=by
 unfold opC at h
 split at h
 ·cases h
  have hi:=zf2 ha.ok hb.ok (ha.L.trans hb.L.symm) g
  rw [ha.L] at hi
  exact hi.lg fun T hT => hR T _ _ (hP T hT) (hQ T hT)
 ·cases h
theorem zuy {d e:Dta} {V v M:Nat} {P:Bt -> Prop} (hd:d.Fit V) (hv:v < V) (hP:LgA V d P) (h:exC v M d = some e):LgA V e (fun T => ∃ u,VarV v T u /\ P u):=by
 unfold exC at h
 split at h
 ·cases h
  have hi:=zm9 hd.ok hd.L hv
  rw [hd.L] at hi
  refine hi.lg fun T hT => ?_
  rw [zg4 hd.ok hd.n64 hd.L hv T (by rw [hd.L]; exact hT)]
  exact ⟨fun ⟨u,h1,h2⟩ => ⟨u,h1,(hP u (zh9 hv hT h1)).1 h2⟩,fun ⟨u,h1,h2⟩ => ⟨u,h1,(hP u (zh9 hv hT h1)).2 h2⟩⟩
 ·cases h
theorem zws (x:Int) {V:Nat} (hV:V <= 3):LgA V (singC x V) (fun T => accS (atomA 4 x 0 V) T = true):=(zbn 4 x 0 hV).lg fun _ _ => Iff.rfl
theorem unC_lg {V M:Nat} {op x:Int} {d e:Dta} {P:Bt -> Prop} (hd:d.Fit V) (hx:op = 9 \/ (12 <= op /\ op <= 15 /\ 0 <= x /\ x < V)) (hM:M <= 64) (hP:LgA V d P) (h:unC V M op x d = some e):LgA V e (unL V op x P):=by
 have hs:=zgl x hd.v3
 have hsl:=zws x hd.v3
 have hn:=zbt hd
 have hnl:=zuj hd hP
 unfold unC at h
 unfold unL
 split at h
 ·rename_i h9
  subst h9
  cases h
  exact hnl
 ·rename_i h9
  have hv:x.toNat < V:=by omega
  simp only [if_neg h9]
  split at h
  ·rename_i h12
   simp only [if_pos h12]
   exact zuy hd hv hP h
  ·rename_i h12
   simp only [if_neg h12]
   split at h
   ·rename_i h13
    simp only [if_pos h13]
    obtain ⟨d1,h1,rfl⟩:=Option.map_eq_some_iff.1 h
    exact zuj (zef hn hv hM h1) (zuy hn hv hnl h1)
   ·rename_i h13
    simp only [if_neg h13]
    split at h
    ·rename_i h14
     simp only [if_pos h14]
     obtain ⟨d1,h1,h2⟩:=Option.bind_eq_some_iff.1 h
     exact zuy (zbz hd hs h1) hv (zvz (R:=fun T => P T /\ accS (atomA 4 x 0 V) T = true) hd hs hP hsl h1 fun T p q hp hq => by rw [<- hp,<- hq]; simp) h2
    ·rename_i h14
     simp only [if_neg h14]
     obtain ⟨d2,h3,rfl⟩:=Option.map_eq_some_iff.1 h
     obtain ⟨d1,h1,h2⟩:=Option.bind_eq_some_iff.1 h3
     exact zuj (zef (zbz hn hs h1) hv hM h2) (zuy (zbz hn hs h1) hv (zvz (R:=fun T => ¬ P T /\ accS (atomA 4 x 0 V) T = true) hn hs hnl hsl h1 fun T p q hp hq => by rw [<- hp,<- hq]; simp) h2)
theorem cmpT_lg {V M:Nat} (hV:V <= 3) (hM:M <= 64) (t:Tr):t.vOK V -> ∀ d,cmpT V M t = some d -> LgA V d (langT V t):=by
 induction t with
 | leaf op x y =>
  intro _ d h
  have e2:=Option.some.inj (show some (atomA op x y V).mini = some d from h)
  rw [<- e2]
  exact (zbn op x y hV).lg fun _ _ => Iff.rfl
 | un op x a ih =>
  intro hv d h
  obtain ⟨e,h1,h2⟩:=Option.bind_eq_some_iff.1 (show (cmpT V M a).bind (unC V M op x) = some d from h)
  exact unC_lg (zd4 hV hM a hv.2 e h1) hv.1 hM (ih hv.2 e h1) h2
 | bin op a b iha ihb =>
  intro hv d h
  obtain ⟨e,h1,h2⟩:=Option.bind_eq_some_iff.1 (show ((cmpT V M a).bind fun d => (cmpT V M b).bind fun e => opC (binG op) d e) = some d from h)
  obtain ⟨e2,h3,h4⟩:=Option.bind_eq_some_iff.1 h2
  refine zvz (zd4 hV hM a hv.2.1 e h1) (zd4 hV hM b hv.2.2 e2 h3) (iha hv.2.1 e h1) (ihb hv.2.2 e2 h3) h4 fun T p q hp hq => ?_
  simp only [langT,binG]
  split
  ·rw [<- hp,<- hq]; simp
  ·rw [<- hp,<- hq]; simp
end Go.Proofs.YthdabkmkgkkmcaaGreatDoor
namespace Go.Proofs.YthdabkmkgkkmcaaGreatDoor
def FitF (x:Int):(Nat -> Bool) -> Bt -> Prop
 | _,.nil => True
 | β,.node lab l r => bitA lab.toNat x = (β 0).toNat /\ FitF x (fun i => β (i + 1)) l /\ FitF x (fun i => β (i + 1 + l.size)) r
def NoneF (β:Nat -> Bool) (n:Nat):Prop:=∀ i,i < n -> β i = false
def OneF (β:Nat -> Bool) (n k:Nat):Prop:=k < n /\ β k = true /\ ∀ i,i < n -> β i = true -> i = k
theorem zs0 (β:Nat -> Bool) (m n:Nat):NoneF β (m + n + 1) ↔ β 0 = false /\ NoneF (fun i => β (i + 1)) m /\ NoneF (fun i => β (i + 1 + m)) n:=by
 constructor
 ·intro h
  exact ⟨h 0 (by omega),fun i hi => h (i + 1) (by omega),fun i hi => h (i + 1 + m) (by omega)⟩
 ·rintro ⟨h0,h1,h2⟩ i hi
  by_cases e:i = 0
  ·rw [e]; exact h0
  ·by_cases hl:i - 1 < m
   ·have:=h1 (i - 1) hl
    simpa [show i - 1 + 1 = i by omega] using this
   ·have:=h2 (i - 1 - m) (by omega)
    simpa [show i - 1 - m + 1 + m = i by omega] using this
theorem zt1 (β:Nat -> Bool) (m n k:Nat):OneF β (m + n + 1) k ↔ (k = 0 /\ β 0 = true /\ NoneF (fun i => β (i + 1)) m /\ NoneF (fun i => β (i + 1 + m)) n) \/ (∃ i,k = i + 1 /\ β 0 = false /\ OneF (fun i => β (i + 1)) m i /\ NoneF (fun i => β (i + 1 + m)) n) \/ (∃ i,k = i + 1 + m /\ β 0 = false /\ NoneF (fun i => β (i + 1)) m /\ OneF (fun i => β (i + 1 + m)) n i):=by
 constructor
 ·rintro ⟨hk,hb,hu⟩
  have hn:∀ i,i < m + n + 1 -> i ≠ k -> β i = false:=fun i hi hne => by
   cases e:β i with
   | false => rfl
   | true => exact absurd (hu i hi e) hne
  by_cases h0:k = 0
  ·subst h0
   exact .inl ⟨rfl,hb,fun i hi => hn _ (by omega) (by omega),fun i hi => hn _ (by omega) (by omega)⟩
  ·by_cases hl:k - 1 < m
   ·refine .inr (.inl ⟨k - 1,by omega,hn 0 (by omega) (by omega),⟨hl,by simpa [show k - 1 + 1 = k by omega] using hb,fun i hi h => ?_⟩,fun i hi => hn _ (by omega) (by omega)⟩)
    have:=hu (i + 1) (by omega) h; omega
   ·refine .inr (.inr ⟨k - 1 - m,by omega,hn 0 (by omega) (by omega),fun i hi => hn _ (by omega) (by omega),⟨by omega,by simpa [show k - 1 - m + 1 + m = k by omega] using hb,fun i hi h => ?_⟩⟩)
    have:=hu (i + 1 + m) (by omega) h; omega
 ·rintro (⟨rfl,hb,h1,h2⟩ | ⟨i,rfl,h0,⟨h1,h2,h3⟩,h4⟩ | ⟨i,rfl,h0,h4,⟨h1,h2,h3⟩⟩)
  ·refine ⟨by omega,hb,fun i hi h => ?_⟩
   by_cases e:i = 0
   ·exact e
   ·by_cases hl:i - 1 < m
    ·have:=h1 (i - 1) hl
     simp only [show i - 1 + 1 = i by omega] at this
     rw [this] at h; cases h
    ·have:=h2 (i - 1 - m) (by omega)
     simp only [show i - 1 - m + 1 + m = i by omega] at this
     rw [this] at h; cases h
  ·refine ⟨by omega,h2,fun j hj h => ?_⟩
   by_cases e:j = 0
   ·rw [e,h0] at h; cases h
   ·by_cases hl:j - 1 < m
    ·have:=h3 (j - 1) hl (by simpa [show j - 1 + 1 = j by omega] using h)
     omega
    ·have:=h4 (j - 1 - m) (by omega)
     simp only [show j - 1 - m + 1 + m = j by omega] at this
     rw [this] at h; cases h
  ·refine ⟨by omega,h2,fun j hj h => ?_⟩
   by_cases e:j = 0
   ·rw [e,h0] at h; cases h
   ·by_cases hl:j - 1 < m
    ·have:=h4 (j - 1) hl
     simp only [show j - 1 + 1 = j by omega] at this
     rw [this] at h; cases h
    ·have:=h3 (j - 1 - m) (by omega) (by simpa [show j - 1 - m + 1 + m = j by omega] using h)
     omega
def relG (far:Bool) (fnd:Nat -> Nat -> Bool):Bt -> Nat -> Nat -> Bool
 | .nil,_,_ => false
 | .node _ l r,p,q =>
  if p = 0 then (decide (1 <= q /\ q <= l.size) && (far || decide (q = 1)) && fnd 1 0) || (decide (l.size < q /\ q <= l.size + r.size) && (far || decide (q = 1 + l.size)) && fnd 0 1)
  else if p <= l.size then decide (1 <= q /\ q <= l.size) && relG far fnd l (p - 1) (q - 1)
  else decide (l.size < q) && relG far fnd r (p - 1 - l.size) (q - 1 - l.size)
theorem zsp (op X Y:Int) (V:Nat) (lab:Int) (l r:Bt):(atomA op X Y V).run (.node lab l r) = if ((atomA op X Y V).run l < 3 /\ (atomA op X Y V).run r < 3) \/ op = 1 then stepA op ((atomA op X Y V).run l) ((atomA op X Y V).run r) (bitA lab.toNat X) (bitA lab.toNat Y) else 3:=rfl
theorem zu0 (op X Y:Int) (V:Nat):(atomA op X Y V).run .nil = 0:=rfl
theorem zu5 (x y:Int) (V:Nat):∀ (T:Bt) (β:Nat -> Bool),FitF x β T -> ((atomA 4 x y V).run T = 0 ↔ NoneF β T.size) /\ ((atomA 4 x y V).run T = 1 ↔ ∃ k,OneF β T.size k) /\ ((atomA 4 x y V).run T = 0 \/ (atomA 4 x y V).run T = 1 \/ (atomA 4 x y V).run T = 3):=by
 intro T
 induction T with
 | nil =>
  intro β _
  rw [zu0]
  exact ⟨⟨fun _ i hi => by simp [Bt.size] at hi,fun _ => rfl⟩,⟨fun h => by omega,fun ⟨k,h⟩ => by have:=h.1; simp [Bt.size] at this⟩,.inl rfl⟩
 | node lab l r ihl ihr =>
  rintro β ⟨hb,hl,hr⟩
  obtain ⟨a1,a2,a3⟩:=ihl _ hl
  obtain ⟨b1,b2,b3⟩:=ihr _ hr
  rw [zsp,hb]
  simp only [Bt.size,zs0,zt1]
  generalize (atomA 4 x y V).run l = sl at *
  generalize (atomA 4 x y V).run r = sr at *
  have e4:∀ a b c d,stepA 4 a b c d = min (sumA (sumA a b) c) 3:=fun a b c d => by simp [stepA]
  rw [e4]
  generalize NoneF (fun i => β (i + 1)) l.size = Nl at *
  generalize NoneF (fun i => β (i + 1 + l.size)) r.size = Nr at *
  have hex:(∃ k,(k = 0 /\ β 0 = true /\ Nl /\ Nr) \/ (∃ i,k = i + 1 /\ β 0 = false /\ OneF (fun i => β (i + 1)) l.size i /\ Nr) \/ (∃ i,k = i + 1 + l.size /\ β 0 = false /\ Nl /\ OneF (fun i => β (i + 1 + l.size)) r.size i)) ↔ (β 0 = true /\ Nl /\ Nr) \/ (β 0 = false /\ (∃ k,OneF (fun i => β (i + 1)) l.size k) /\ Nr) \/ (β 0 = false /\ Nl /\ ∃ k,OneF (fun i => β (i + 1 + l.size)) r.size k):=by
   constructor
   ·rintro ⟨k,⟨_,h⟩ | ⟨i,_,h1,h2,h3⟩ | ⟨i,_,h1,h2,h3⟩⟩
    ·exact .inl h
    ·exact .inr (.inl ⟨h1,⟨i,h2⟩,h3⟩)
    ·exact .inr (.inr ⟨h1,h2,⟨i,h3⟩⟩)
   ·rintro (h | ⟨h1,⟨i,h2⟩,h3⟩ | ⟨h1,h2,⟨i,h3⟩⟩)
    ·exact ⟨0,.inl ⟨rfl,h⟩⟩
    ·exact ⟨i + 1,.inr (.inl ⟨i,rfl,h1,h2,h3⟩)⟩
    ·exact ⟨i + 1 + l.size,.inr (.inr ⟨i,rfl,h1,h2,h3⟩)⟩
  rw [hex,<- a1,<- a2,<- b1,<- b2]
  cases β 0 <;> rcases a3 with rfl | rfl | rfl <;> rcases b3 with rfl | rfl | rfl <;> simp [sumA]
theorem zww (x y:Int) (V:Nat):∀ T:Bt,(atomA 1 x y V).run T = 0:=by
 intro T
 induction T with
 | nil => rfl
 | node lab l r ihl ihr =>
  rw [zsp,if_pos (.inr rfl)]
  simp [stepA]
theorem zvr (x y:Int) (V:Nat):∀ (T:Bt) (β:Nat -> Bool),FitF x β T -> ((atomA 3 x y V).run T = 0 ↔ NoneF β T.size) /\ ((atomA 3 x y V).run T = 0 \/ (atomA 3 x y V).run T = 3):=by
 intro T
 induction T with
 | nil => intro β _; exact ⟨⟨fun _ i hi => by simp [Bt.size] at hi,fun _ => rfl⟩,.inl rfl⟩
 | node lab l r ihl ihr =>
  rintro β ⟨hb,hl,hr⟩
  obtain ⟨a1,a3⟩:=ihl _ hl
  obtain ⟨b1,b3⟩:=ihr _ hr
  rw [zsp,hb]
  simp only [Bt.size,zs0]
  generalize (atomA 3 x y V).run l = sl at *
  generalize (atomA 3 x y V).run r = sr at *
  have e4:∀ a b c d,stepA 3 a b c d = if 0 < a + b + c then 3 else 0:=fun a b c d => by simp [stepA]
  rw [e4,<- a1,<- b1]
  cases β 0 <;> rcases a3 with rfl | rfl <;> rcases b3 with rfl | rfl <;> simp
theorem zu4 (x y:Int) (V:Nat):∀ (T:Bt) (β γ:Nat -> Bool),FitF x β T -> FitF y γ T -> ((atomA 2 x y V).run T = 0 ↔ ∀ i,i < T.size -> β i = true -> γ i = true) /\ ((atomA 2 x y V).run T = 0 \/ (atomA 2 x y V).run T = 3):=by
 intro T
 induction T with
 | nil => intro β γ _ _; exact ⟨⟨fun _ i hi => by simp [Bt.size] at hi,fun _ => rfl⟩,.inl rfl⟩
 | node lab l r ihl ihr =>
  rintro β γ ⟨hb,hl,hr⟩ ⟨hc,hl2,hr2⟩
  obtain ⟨a1,a3⟩:=ihl _ _ hl hl2
  obtain ⟨b1,b3⟩:=ihr _ _ hr hr2
  have hn:(∀ i,i < (Bt.node lab l r).size -> β i = true -> γ i = true) ↔ (β 0 = true -> γ 0 = true) /\ (∀ i,i < l.size -> β (i + 1) = true -> γ (i + 1) = true) /\ (∀ i,i < r.size -> β (i + 1 + l.size) = true -> γ (i + 1 + l.size) = true):=by
   simp only [Bt.size]
   constructor
   ·intro h; exact ⟨h 0 (by omega),fun i hi => h _ (by omega),fun i hi => h _ (by omega)⟩
   ·rintro ⟨h0,h1,h2⟩ i hi
    by_cases e:i = 0
    ·rw [e]; exact h0
    ·by_cases hl:i - 1 < l.size
     ·have:=h1 (i - 1) hl
      simpa [show i - 1 + 1 = i by omega] using this
     ·have:=h2 (i - 1 - l.size) (by omega)
      simpa [show i - 1 - l.size + 1 + l.size = i by omega] using this
  rw [zsp,hb,hc,hn,<- a1,<- b1]
  generalize (atomA 2 x y V).run l = sl at *
  generalize (atomA 2 x y V).run r = sr at *
  have e4:∀ a b c d,stepA 2 a b c d = if 0 < a + b \/ d < c then 3 else 0:=fun a b c d => by simp [stepA]
  rw [e4]
  cases β 0 <;> cases γ 0 <;> rcases a3 with rfl | rfl <;> rcases b3 with rfl | rfl <;> simp
section
variable (far:Bool) (fnd:Nat -> Nat -> Bool) (lab:Int) (l r:Bt)
theorem zvv:relG far fnd (.node lab l r) 0 0 = false:=by simp [relG]
theorem zt0 {i:Nat} (h:i < l.size):relG far fnd (.node lab l r) 0 (i + 1) = ((far || decide (i = 0)) && fnd 1 0):=by
 have h1:¬ l.size < i + 1:=by omega
 simp [relG,h1,show i + 1 <= l.size by omega]
theorem ztz {i:Nat} (h:i < r.size):relG far fnd (.node lab l r) 0 (i + 1 + l.size) = ((far || decide (i = 0)) && fnd 0 1):=by
 have h1:¬ i + 1 + l.size <= l.size:=by omega
 have h2:(i + 1 + l.size = 1 + l.size) ↔ i = 0:=by omega
 simp [relG,h1,h2,show l.size < i + 1 + l.size by omega,show i + 1 + l.size <= l.size + r.size by omega]
theorem ztf {j k:Nat} (hj:j < l.size) (hk:k < l.size):relG far fnd (.node lab l r) (j + 1) (k + 1) = relG far fnd l j k:=by
 simp [relG,show j + 1 <= l.size by omega,show k + 1 <= l.size by omega]
theorem zty {j:Nat} (hj:j < l.size):relG far fnd (.node lab l r) (j + 1) 0 = false:=by
 simp [relG,show j + 1 <= l.size by omega]
theorem ztx {j k:Nat} (hj:j < l.size):relG far fnd (.node lab l r) (j + 1) (k + 1 + l.size) = false:=by
 simp [relG,show j + 1 <= l.size by omega,show ¬ k + 1 + l.size <= l.size by omega]
theorem zte (j k:Nat):relG far fnd (.node lab l r) (j + 1 + l.size) (k + 1 + l.size) = relG far fnd r j k:=by
 simp [relG,show ¬ j + 1 + l.size <= l.size by omega,show l.size < k + 1 + l.size by omega,show j + 1 + l.size - 1 - l.size = j by omega,show k + 1 + l.size - 1 - l.size = k by omega]
theorem ztw (j:Nat):relG far fnd (.node lab l r) (j + 1 + l.size) 0 = false:=by
 simp [relG,show ¬ j + 1 + l.size <= l.size by omega]
theorem ztv {j k:Nat} (hk:k < l.size):relG far fnd (.node lab l r) (j + 1 + l.size) (k + 1) = false:=by
 simp [relG,show ¬ j + 1 + l.size <= l.size by omega,show ¬ l.size < k + 1 by omega]
end
def St1 (far:Bool) (β γ:Nat -> Bool) (n:Nat):Prop:=NoneF β n /\ ∃ k,OneF γ n k /\ (far = true \/ k = 0)
def St2 (far:Bool) (fnd:Nat -> Nat -> Bool) (β γ:Nat -> Bool) (T:Bt):Prop:=∃ j k,OneF β T.size j /\ OneF γ T.size k /\ relG far fnd T j k = true
theorem zwr (far:Bool) (β γ:Nat -> Bool) (m n:Nat):St1 far β γ (m + n + 1) ↔ β 0 = false /\ ((γ 0 = true /\ (NoneF (fun i => β (i + 1)) m /\ NoneF (fun i => γ (i + 1)) m) /\ NoneF (fun i => β (i + 1 + m)) n /\ NoneF (fun i => γ (i + 1 + m)) n) \/ (γ 0 = false /\ far = true /\ ((St1 far (fun i => β (i + 1)) (fun i => γ (i + 1)) m /\ NoneF (fun i => β (i + 1 + m)) n /\ NoneF (fun i => γ (i + 1 + m)) n) \/ ((NoneF (fun i => β (i + 1)) m /\ NoneF (fun i => γ (i + 1)) m) /\ St1 far (fun i => β (i + 1 + m)) (fun i => γ (i + 1 + m)) n)))):=by
 unfold St1
 simp only [zs0,zt1]
 constructor
 ·rintro ⟨⟨h0,h1,h2⟩,k,⟨rfl,g0,g1,g2⟩ | ⟨i,rfl,g0,g1,g2⟩ | ⟨i,rfl,g0,g1,g2⟩,hk⟩
  ·exact ⟨h0,.inl ⟨g0,⟨h1,g1⟩,h2,g2⟩⟩
  ·have hf:far = true:=hk.resolve_right (by omega)
   exact ⟨h0,.inr ⟨g0,hf,.inl ⟨⟨h1,i,g1,.inl hf⟩,h2,g2⟩⟩⟩
  ·have hf:far = true:=hk.resolve_right (by omega)
   exact ⟨h0,.inr ⟨g0,hf,.inr ⟨⟨h1,g1⟩,h2,i,g2,.inl hf⟩⟩⟩
 ·rintro ⟨h0,⟨g0,⟨h1,g1⟩,h2,g2⟩ | ⟨g0,hf,⟨⟨h1,i,g1,_⟩,h2,g2⟩ | ⟨⟨h1,g1⟩,h2,i,g2,_⟩⟩⟩
  ·exact ⟨⟨h0,h1,h2⟩,0,.inl ⟨rfl,g0,g1,g2⟩,.inr rfl⟩
  ·exact ⟨⟨h0,h1,h2⟩,i + 1,.inr (.inl ⟨i,rfl,g0,g1,g2⟩),.inl hf⟩
  ·exact ⟨⟨h0,h1,h2⟩,i + 1 + m,.inr (.inr ⟨i,rfl,g0,g1,g2⟩),.inl hf⟩
theorem zwq (far:Bool) (fnd:Nat -> Nat -> Bool) (β γ:Nat -> Bool) (lab:Int) (l r:Bt):St2 far fnd β γ (.node lab l r) ↔
  (β 0 = true /\ γ 0 = false /\ ((St1 far (fun i => β (i + 1)) (fun i => γ (i + 1)) l.size /\ fnd 1 0 = true /\ NoneF (fun i => β (i + 1 + l.size)) r.size /\ NoneF (fun i => γ (i + 1 + l.size)) r.size) \/ ((NoneF (fun i => β (i + 1)) l.size /\ NoneF (fun i => γ (i + 1)) l.size) /\ St1 far (fun i => β (i + 1 + l.size)) (fun i => γ (i + 1 + l.size)) r.size /\ fnd 0 1 = true)))
  \/ (β 0 = false /\ γ 0 = false /\ St2 far fnd (fun i => β (i + 1)) (fun i => γ (i + 1)) l /\ NoneF (fun i => β (i + 1 + l.size)) r.size /\ NoneF (fun i => γ (i + 1 + l.size)) r.size)
  \/ (β 0 = false /\ γ 0 = false /\ (NoneF (fun i => β (i + 1)) l.size /\ NoneF (fun i => γ (i + 1)) l.size) /\ St2 far fnd (fun i => β (i + 1 + l.size)) (fun i => γ (i + 1 + l.size)) r):=by
 unfold St2 St1
 simp only [Bt.size,zt1]
 constructor
 ·rintro ⟨j,k,hj,hk,hr⟩
  rcases hj with ⟨rfl,a0,a1,a2⟩ | ⟨j,rfl,a0,a1,a2⟩ | ⟨j,rfl,a0,a1,a2⟩ <;> rcases hk with ⟨rfl,b0,b1,b2⟩ | ⟨k,rfl,b0,b1,b2⟩ | ⟨k,rfl,b0,b1,b2⟩
  ·rw [zvv] at hr; cases hr
  ·rw [zt0 _ _ _ _ _ b1.1] at hr
   simp only [Bool.and_eq_true,Bool.or_eq_true,decide_eq_true_eq] at hr
   exact .inl ⟨a0,b0,.inl ⟨⟨a1,k,b1,hr.1⟩,hr.2,a2,b2⟩⟩
  ·rw [ztz _ _ _ _ _ b2.1] at hr
   simp only [Bool.and_eq_true,Bool.or_eq_true,decide_eq_true_eq] at hr
   exact .inl ⟨a0,b0,.inr ⟨⟨a1,b1⟩,⟨a2,k,b2,hr.1⟩,hr.2⟩⟩
  ·rw [zty _ _ _ _ _ a1.1] at hr; cases hr
  ·rw [ztf _ _ _ _ _ a1.1 b1.1] at hr
   exact .inr (.inl ⟨a0,b0,⟨j,k,a1,b1,hr⟩,a2,b2⟩)
  ·rw [ztx _ _ _ _ _ a1.1] at hr; cases hr
  ·rw [ztw] at hr; cases hr
  ·rw [ztv _ _ _ _ _ b1.1] at hr; cases hr
  ·rw [zte] at hr
   exact .inr (.inr ⟨a0,b0,⟨a1,b1⟩,j,k,a2,b2,hr⟩)
 ·rintro (⟨a0,b0,⟨⟨a1,k,b1,hk⟩,hf,a2,b2⟩ | ⟨⟨a1,b1⟩,⟨a2,k,b2,hk⟩,hf⟩⟩ | ⟨a0,b0,⟨j,k,a1,b1,hr⟩,a2,b2⟩ | ⟨a0,b0,⟨a1,b1⟩,j,k,a2,b2,hr⟩)
  ·refine ⟨0,k + 1,.inl ⟨rfl,a0,a1,a2⟩,.inr (.inl ⟨k,rfl,b0,b1,b2⟩),?_⟩
   rw [zt0 _ _ _ _ _ b1.1]; simp [hk,hf]
  ·refine ⟨0,k + 1 + l.size,.inl ⟨rfl,a0,a1,a2⟩,.inr (.inr ⟨k,rfl,b0,b1,b2⟩),?_⟩
   rw [ztz _ _ _ _ _ b2.1]; simp [hk,hf]
  ·exact ⟨j + 1,k + 1,.inr (.inl ⟨j,rfl,a0,a1,a2⟩),.inr (.inl ⟨k,rfl,b0,b1,b2⟩),by rw [ztf _ _ _ _ _ a1.1 b1.1]; exact hr⟩
  ·exact ⟨j + 1 + l.size,k + 1 + l.size,.inr (.inr ⟨j,rfl,a0,a1,a2⟩),.inr (.inr ⟨k,rfl,b0,b1,b2⟩),by rw [zte]; exact hr⟩
theorem zuh (op x y:Int) (V:Nat) (far:Bool) (fnd:Nat -> Nat -> Bool) (h1:op ≠ 1) (hst:∀ a b c d,stepA op a b c d = relA far fnd a b c d):∀ (T:Bt) (β γ:Nat -> Bool),FitF x β T -> FitF y γ T ->
  ((atomA op x y V).run T = 0 ↔ NoneF β T.size /\ NoneF γ T.size) /\ ((atomA op x y V).run T = 1 ↔ St1 far β γ T.size) /\ ((atomA op x y V).run T = 2 ↔ St2 far fnd β γ T) /\ (atomA op x y V).run T <= 3:=by
 intro T
 induction T with
 | nil =>
  intro β γ _ _
  rw [zu0]
  have hz:∀ (β:Nat -> Bool) k,¬ OneF β 0 k:=fun β k h => by have:=h.1; omega
  exact ⟨⟨fun _ => ⟨fun i hi => by simp [Bt.size] at hi,fun i hi => by simp [Bt.size] at hi⟩,fun _ => rfl⟩,⟨fun h => by omega,fun ⟨_,k,h,_⟩ => absurd h (hz _ _)⟩,⟨fun h => by omega,fun ⟨j,_,h,_⟩ => absurd h (hz _ _)⟩,by omega⟩
 | node lab l r ihl ihr =>
  rintro β γ ⟨hb,hl,hr⟩ ⟨hc,hl2,hr2⟩
  obtain ⟨a0,a1,a2,a3⟩:=ihl _ _ hl hl2
  obtain ⟨b0,b1,b2,b3⟩:=ihr _ _ hr hr2
  rw [zsp,hb,hc,hst,zwq]
  simp only [Bt.size,zwr,zs0]
  have hz:((β 0 = false /\ NoneF (fun i => β (i + 1)) l.size /\ NoneF (fun i => β (i + 1 + l.size)) r.size) /\ γ 0 = false /\ NoneF (fun i => γ (i + 1)) l.size /\ NoneF (fun i => γ (i + 1 + l.size)) r.size) ↔ β 0 = false /\ γ 0 = false /\ (NoneF (fun i => β (i + 1)) l.size /\ NoneF (fun i => γ (i + 1)) l.size) /\ NoneF (fun i => β (i + 1 + l.size)) r.size /\ NoneF (fun i => γ (i + 1 + l.size)) r.size:=by
   constructor
   ·rintro ⟨⟨p1,p2,p3⟩,p4,p5,p6⟩; exact ⟨p1,p4,⟨p2,p5⟩,p3,p6⟩
   ·rintro ⟨p1,p4,⟨p2,p5⟩,p3,p6⟩; exact ⟨⟨p1,p2,p3⟩,p4,p5,p6⟩
  rw [hz,<- a0,<- a1,<- a2,<- b0,<- b1,<- b2]
  generalize (atomA op x y V).run l = sl at *
  generalize (atomA op x y V).run r = sr at *
  have ha:sl = 0 \/ sl = 1 \/ sl = 2 \/ sl = 3:=by omega
  have hb':sr = 0 \/ sr = 1 \/ sr = 2 \/ sr = 3:=by omega
  clear a0 a1 a2 a3 b0 b1 b2 b3 ihl ihr hz hst
  generalize β 0 = p
  generalize γ 0 = q
  rcases ha with rfl | rfl | rfl | rfl <;> rcases hb' with rfl | rfl | rfl | rfl <;> cases p <;> cases q <;> cases far <;> simp [relA,sumA,h1] <;> (try split) <;> simp_all
end Go.Proofs.YthdabkmkgkkmcaaGreatDoor
namespace Go.Proofs.YthdabkmkgkkmcaaGreatDoor
theorem zs3 {t:List Lf} {p q:Nat} (h:q <= p):ancS t p q = false:=by
 unfold ancS
 cases t.length - p with
 | zero => rfl
 | succ k => rw [ancF,if_pos h]
theorem zw2 (t:List Lf):∀ (b:Bt) (o:Nat),Seg t o b -> ∀ p q,p < b.size -> q < b.size -> decide (leftS t (o + p) = ((o + q:Nat):Int)) = relG false (fun l _ => l == 1) b p q:=by
 intro b
 induction b with
 | nil => intro o _ p q h; simp [Bt.size] at h
 | node lab l r ihl ihr =>
  intro o hs p q hp hq
  simp only [Bt.size] at hp hq
  by_cases h0:p = 0
  ·subst h0
   have hx:=hs.root
   have e:leftS t (o + 0) = l.at (o + 1):=by unfold leftS; rw [Nat.add_zero,hx]
   rw [e]
   simp only [relG,Bt.at,if_true]
   rw [Bool.eq_iff_iff]
   simp
   by_cases hl:l.size = 0
   ·rw [if_pos hl]; omega
   ·rw [if_neg hl]; omega
  ·by_cases hl:p <= l.size
   ·obtain ⟨j,rfl⟩:∃ j,p = j + 1:=⟨p - 1,by omega⟩
    have hj:j < l.size:=by omega
    obtain ⟨x,hx,hr,_⟩:=zq5 t l (o + 1) hs.left j hj
    have e:leftS t (o + (j + 1)) = x.left:=by unfold leftS; rw [show o + (j + 1) = o + 1 + j by omega,hx]
    by_cases hq0:q = 0
    ·subst hq0
     rw [zty _ _ _ _ _ hj,e,decide_eq_false_iff_not]; omega
    ·by_cases hql:q <= l.size
     ·obtain ⟨k,rfl⟩:∃ k,q = k + 1:=⟨q - 1,by omega⟩
      rw [ztf _ _ _ _ _ hj (by omega),<- ihl (o + 1) hs.left j k hj (by omega)]
      rw [show o + (j + 1) = o + 1 + j by omega,show o + (k + 1) = o + 1 + k by omega]
     ·obtain ⟨k,rfl⟩:∃ k,q = k + 1 + l.size:=⟨q - 1 - l.size,by omega⟩
      rw [ztx _ _ _ _ _ hj,e,decide_eq_false_iff_not]; omega
   ·obtain ⟨j,rfl⟩:∃ j,p = j + 1 + l.size:=⟨p - 1 - l.size,by omega⟩
    have hj:j < r.size:=by omega
    obtain ⟨x,hx,hr,_⟩:=zq5 t r (o + 1 + l.size) hs.right j hj
    have e:leftS t (o + (j + 1 + l.size)) = x.left:=by unfold leftS; rw [show o + (j + 1 + l.size) = o + 1 + l.size + j by omega,hx]
    by_cases hq0:q = 0
    ·subst hq0
     rw [ztw,e,decide_eq_false_iff_not]; omega
    ·by_cases hql:q <= l.size
     ·obtain ⟨k,rfl⟩:∃ k,q = k + 1:=⟨q - 1,by omega⟩
      rw [ztv _ _ _ _ _ (by omega),e,decide_eq_false_iff_not]; omega
     ·obtain ⟨k,rfl⟩:∃ k,q = k + 1 + l.size:=⟨q - 1 - l.size,by omega⟩
      rw [zte,<- ihr (o + 1 + l.size) hs.right j k hj (by omega)]
      rw [show o + (j + 1 + l.size) = o + 1 + l.size + j by omega,show o + (k + 1 + l.size) = o + 1 + l.size + k by omega]
theorem zvs (t:List Lf):∀ (b:Bt) (o:Nat),Seg t o b -> ∀ p q,p < b.size -> q < b.size -> decide (zst t (o + p) = ((o + q:Nat):Int)) = relG false (fun _ r => r == 1) b p q:=by
 intro b
 induction b with
 | nil => intro o _ p q h; simp [Bt.size] at h
 | node lab l r ihl ihr =>
  intro o hs p q hp hq
  simp only [Bt.size] at hp hq
  by_cases h0:p = 0
  ·subst h0
   have hx:=hs.root
   have e:zst t (o + 0) = r.at (o + 1 + l.size):=by unfold zst; rw [Nat.add_zero,hx]
   rw [e]
   simp only [relG,Bt.at,if_true]
   rw [Bool.eq_iff_iff]
   simp
   by_cases hr:r.size = 0
   ·rw [if_pos hr]; omega
   ·rw [if_neg hr]; omega
  ·by_cases hl:p <= l.size
   ·obtain ⟨j,rfl⟩:∃ j,p = j + 1:=⟨p - 1,by omega⟩
    have hj:j < l.size:=by omega
    obtain ⟨x,hx,_,hr⟩:=zq5 t l (o + 1) hs.left j hj
    have e:zst t (o + (j + 1)) = x.right:=by unfold zst; rw [show o + (j + 1) = o + 1 + j by omega,hx]
    by_cases hq0:q = 0
    ·subst hq0
     rw [zty _ _ _ _ _ hj,e,decide_eq_false_iff_not]; omega
    ·by_cases hql:q <= l.size
     ·obtain ⟨k,rfl⟩:∃ k,q = k + 1:=⟨q - 1,by omega⟩
      rw [ztf _ _ _ _ _ hj (by omega),<- ihl (o + 1) hs.left j k hj (by omega)]
      rw [show o + (j + 1) = o + 1 + j by omega,show o + (k + 1) = o + 1 + k by omega]
     ·obtain ⟨k,rfl⟩:∃ k,q = k + 1 + l.size:=⟨q - 1 - l.size,by omega⟩
      rw [ztx _ _ _ _ _ hj,e,decide_eq_false_iff_not]; omega
   ·obtain ⟨j,rfl⟩:∃ j,p = j + 1 + l.size:=⟨p - 1 - l.size,by omega⟩
    have hj:j < r.size:=by omega
    obtain ⟨x,hx,_,hr⟩:=zq5 t r (o + 1 + l.size) hs.right j hj
    have e:zst t (o + (j + 1 + l.size)) = x.right:=by unfold zst; rw [show o + (j + 1 + l.size) = o + 1 + l.size + j by omega,hx]
    by_cases hq0:q = 0
    ·subst hq0
     rw [ztw,e,decide_eq_false_iff_not]; omega
    ·by_cases hql:q <= l.size
     ·obtain ⟨k,rfl⟩:∃ k,q = k + 1:=⟨q - 1,by omega⟩
      rw [ztv _ _ _ _ _ (by omega),e,decide_eq_false_iff_not]; omega
     ·obtain ⟨k,rfl⟩:∃ k,q = k + 1 + l.size:=⟨q - 1 - l.size,by omega⟩
      rw [zte,<- ihr (o + 1 + l.size) hs.right j k hj (by omega)]
      rw [show o + (j + 1 + l.size) = o + 1 + l.size + j by omega,show o + (k + 1 + l.size) = o + 1 + l.size + k by omega]
theorem anc_rel {t:List Lf} (hk:KidsOk t):∀ (b:Bt) (o:Nat),Seg t o b -> o + b.size <= t.length ->
  (∀ p q,p < b.size -> q < b.size -> ancS t (o + p) (o + q) = relG true (fun _ _ => true) b p q) /\ (∀ p q,p < b.size -> o + b.size <= q -> ancS t (o + p) q = false):=by
 intro b
 induction b with
 | nil => intro o _ _; exact ⟨fun p q h => by simp [Bt.size] at h,fun p q h => by simp [Bt.size] at h⟩
 | node lab l r ihl ihr =>
  intro o hs hle
  simp only [Bt.size] at hle
  obtain ⟨il,ol⟩:=ihl (o + 1) hs.left (by omega)
  obtain ⟨ir,orr⟩:=ihr (o + 1 + l.size) hs.right (by omega)
  have hx:=hs.root
  -- the root's children
  have root:∀ q,o < q -> ancS t o q = ((decide (l.at (o + 1) = (q:Int)) || (decide (0 < l.at (o + 1)) && ancS t (l.at (o + 1)).toNat q)) || (decide (r.at (o + 1 + l.size) = (q:Int)) || (decide (0 < r.at (o + 1 + l.size)) && ancS t (r.at (o + 1 + l.size)).toNat q))):=fun q hq => by
   rw [zwj hk o q _ hx,if_neg (by omega)]
  have hsub:∀ (c:Bt) (oc:Nat),(∀ p q,p < c.size -> q < c.size -> ancS t (oc + p) (oc + q) = relG true (fun _ _ => true) c p q) -> ∀ q,q < c.size -> 0 < q -> ancS t oc (oc + q) = true:=fun c oc h q hq h0 => by
   have:=h 0 q (by omega) hq
   rw [Nat.add_zero] at this
   rw [this]
   cases c with
   | nil => simp [Bt.size] at hq
   | node lab' l' r' =>
    simp only [Bt.size] at hq
    by_cases hl:q <= l'.size
    ·obtain ⟨k,rfl⟩:∃ k,q = k + 1:=⟨q - 1,by omega⟩
     rw [zt0 _ _ _ _ _ (by omega)]; simp
    ·obtain ⟨k,rfl⟩:∃ k,q = k + 1 + l'.size:=⟨q - 1 - l'.size,by omega⟩
     rw [ztz _ _ _ _ _ (by omega)]; simp
  refine ⟨fun p q hp hq => ?_,fun p q hp hq => ?_⟩
  ·simp only [Bt.size] at hp hq
   by_cases h0:p = 0
   ·subst h0
    rw [Nat.add_zero]
    by_cases hq0:q = 0
    ·subst hq0
     rw [Nat.add_zero,zs3 zn,zvv]
    ·rw [root (o + q) (by omega)]
     by_cases hql:q <= l.size
     ·obtain ⟨k,rfl⟩:∃ k,q = k + 1:=⟨q - 1,by omega⟩
      rw [zt0 _ _ _ _ _ (by omega)]
      have e:l.at (o + 1) = ((o + 1:Nat):Int):=by unfold Bt.at; rw [if_neg (by omega)]
      rw [e]
      by_cases hk0:k = 0
      ·subst hk0; simp
      ·have:=hsub l (o + 1) il k (by omega) (by omega)
       rw [show o + 1 + k = o + (k + 1) by omega] at this
       rw [Int.toNat_natCast,this]
       have h2:decide (0 < ((o + 1:Nat):Int)) = true:=by rw [decide_eq_true_eq]; omega
       rw [h2]; simp
     ·obtain ⟨k,rfl⟩:∃ k,q = k + 1 + l.size:=⟨q - 1 - l.size,by omega⟩
      rw [ztz _ _ _ _ _ (by omega)]
      have e:r.at (o + 1 + l.size) = ((o + 1 + l.size:Nat):Int):=by unfold Bt.at; rw [if_neg (by omega)]
      rw [e]
      by_cases hk0:k = 0
      ·subst hk0
       have h2:decide (((o + 1 + l.size:Nat):Int) = ((o + (0 + 1 + l.size):Nat):Int)) = true:=by rw [decide_eq_true_eq]; omega
       rw [h2]; simp
      ·have:=hsub r (o + 1 + l.size) ir k (by omega) (by omega)
       rw [show o + 1 + l.size + k = o + (k + 1 + l.size) by omega] at this
       rw [Int.toNat_natCast,this]
       have h2:decide (0 < ((o + 1 + l.size:Nat):Int)) = true:=by rw [decide_eq_true_eq]; omega
       rw [h2]; simp
   ·by_cases hl:p <= l.size
    ·obtain ⟨j,rfl⟩:∃ j,p = j + 1:=⟨p - 1,by omega⟩
     have hj:j < l.size:=by omega
     by_cases hq0:q = 0
     ·subst hq0
      rw [zs3 (by omega),zty _ _ _ _ _ hj]
     ·by_cases hql:q <= l.size
      ·obtain ⟨k,rfl⟩:∃ k,q = k + 1:=⟨q - 1,by omega⟩
       rw [ztf _ _ _ _ _ hj (by omega),<- il j k hj (by omega),show o + (j + 1) = o + 1 + j by omega,show o + (k + 1) = o + 1 + k by omega]
      ·obtain ⟨k,rfl⟩:∃ k,q = k + 1 + l.size:=⟨q - 1 - l.size,by omega⟩
       rw [ztx _ _ _ _ _ hj,show o + (j + 1) = o + 1 + j by omega]
       exact ol j _ hj (by omega)
    ·obtain ⟨j,rfl⟩:∃ j,p = j + 1 + l.size:=⟨p - 1 - l.size,by omega⟩
     have hj:j < r.size:=by omega
     by_cases hq0:q = 0
     ·subst hq0
      rw [zs3 (by omega),ztw]
     ·by_cases hql:q <= l.size
      ·obtain ⟨k,rfl⟩:∃ k,q = k + 1:=⟨q - 1,by omega⟩
       rw [ztv _ _ _ _ _ (by omega),zs3 (by omega)]
      ·obtain ⟨k,rfl⟩:∃ k,q = k + 1 + l.size:=⟨q - 1 - l.size,by omega⟩
       rw [zte,<- ir j k hj (by omega),show o + (j + 1 + l.size) = o + 1 + l.size + j by omega,show o + (k + 1 + l.size) = o + 1 + l.size + k by omega]
  ·simp only [Bt.size] at hp hq
   by_cases h0:p = 0
   ·subst h0
    rw [Nat.add_zero,root q (by omega)]
    have e1:decide (l.at (o + 1) = (q:Int)) = false:=by rw [decide_eq_false_iff_not]; unfold Bt.at; split <;> omega
    have e2:decide (r.at (o + 1 + l.size) = (q:Int)) = false:=by rw [decide_eq_false_iff_not]; unfold Bt.at; split <;> omega
    have e3:(decide (0 < l.at (o + 1)) && ancS t (l.at (o + 1)).toNat q) = false:=by
     unfold Bt.at
     split
     ·rfl
     ·rw [Int.toNat_natCast]
      have:=ol 0 q (by omega) (by omega)
      rw [Nat.add_zero] at this
      rw [this]; simp
    have e4:(decide (0 < r.at (o + 1 + l.size)) && ancS t (r.at (o + 1 + l.size)).toNat q) = false:=by
     unfold Bt.at
     split
     ·rfl
     ·rw [Int.toNat_natCast]
      have:=orr 0 q (by omega) (by omega)
      rw [Nat.add_zero] at this
      rw [this]; simp
    rw [e1,e2,e3,e4]; rfl
   ·by_cases hl:p <= l.size
    ·obtain ⟨j,rfl⟩:∃ j,p = j + 1:=⟨p - 1,by omega⟩
     rw [show o + (j + 1) = o + 1 + j by omega]
     exact ol j q (by omega) (by omega)
    ·obtain ⟨j,rfl⟩:∃ j,p = j + 1 + l.size:=⟨p - 1 - l.size,by omega⟩
     rw [show o + (j + 1 + l.size) = o + 1 + l.size + j by omega]
     exact orr j q (by omega) (by omega)
def relO (op:Int):Bt -> Nat -> Nat -> Bool :=
 if op = 7 then relG false (fun l _ => l == 1) else if op = 8 then relG false (fun _ r => r == 1) else relG true (fun _ _ => true)
theorem zwz {b:Bt} (h31:b.size <= 31) (op:Int) (p q:Nat) (hp:p < b.size) (hq:q < b.size):(zc1 (b.enc 0)).rel op p q = relO op b p q:=by
 have hs:=Seg.self b
 have hl:=b.enc_len 0
 have hf:zae (b.enc 0) = true:=zm3 (by rw [hl]; exact h31) hl.symm hs
 show zsn (b.enc 0) op p q = _
 unfold zsn relO
 by_cases h7:op = 7
 ·rw [if_pos h7,if_pos h7]
  have:=zw2 (b.enc 0) b 0 hs p q hp hq
  simpa using this
 ·rw [if_neg h7,if_neg h7]
  by_cases h8:op = 8
  ·rw [if_pos h8,if_pos h8]
   have:=zvs (b.enc 0) b 0 hs p q hp hq
   simpa using this
  ·rw [if_neg h8,if_neg h8]
   have:=(anc_rel (kids_ok hf) b 0 hs (by rw [hl]; omega)).1 p q hp hq
   simpa using this
end Go.Proofs.YthdabkmkgkkmcaaGreatDoor
namespace Go.Proofs.YthdabkmkgkkmcaaGreatDoor
def FitB (V:Nat) (a:List Nat):Nat -> Bt -> Prop
 | _,.nil => True
 | p,.node lab l r => (0 <= lab /\ lab.toNat < 2 ^ V /\ ∀ v:Nat,v < V -> lab.toNat.testBit v = (getV a (v:Int)).testBit p) /\ FitB V a (p + 1) l /\ FitB V a (p + 1 + l.size) r
theorem zs2 (n:Nat) (X:Int):bitA n X = (n.testBit X.toNat).toNat:=by
 unfold bitA
 rw [Nat.testBit_eq_decide_div_mod_eq]
 have:n / 2 ^ X.toNat % 2 = 0 \/ n / 2 ^ X.toNat % 2 = 1:=by omega
 rcases this with h | h <;> rw [h] <;> rfl
theorem FitB.lb {V:Nat} {a:List Nat}:∀ {T:Bt} {p:Nat},FitB V a p T -> T.lb (2 ^ V)
 | .nil,_,_ => trivial
 | .node lab l r,p,⟨⟨h0,h1,_⟩,h2,h3⟩ => ⟨⟨h0,h1⟩,h2.lb,h3.lb⟩
theorem FitB.fit {V:Nat} {a:List Nat} {x:Int} (h0:0 <= x) (hx:x < V):∀ {T:Bt} {p:Nat},FitB V a p T -> FitF x (fun i => (getV a x).testBit (p + i)) T
 | .nil,_,_ => trivial
 | .node lab l r,p,⟨⟨_,_,h1⟩,h2,h3⟩ => by
  refine ⟨?_,?_,?_⟩
  ·rw [zs2,h1 x.toNat (by omega),show ((x.toNat:Nat):Int) = x by omega]
   rfl
  ·have:=FitB.fit h0 hx h2
   simpa [show ∀ i,p + 1 + i = p + (i + 1) from fun i => by omega] using this
  ·have:=FitB.fit h0 hx h3
   simpa [show ∀ i,p + 1 + l.size + i = p + (i + 1 + l.size) from fun i => by omega] using this
theorem zsl (s:Nat):isOne s = true ↔ ∃ k,s = 2 ^ k:=by
 unfold isOne
 rw [decide_eq_true_eq]
 exact ⟨fun h => ⟨_,h⟩,fun ⟨k,h⟩ => by rw [h,Nat.log2_two_pow]⟩
theorem zt3 {n x y:Nat} (hx:x < 2 ^ n) (hy:y < 2 ^ n) (h:∀ k,k < n -> x.testBit k = y.testBit k):x = y:=by
 apply Nat.eq_of_testBit_eq
 intro k
 by_cases hk:k < n
 ·exact h k hk
 ·have h2:2 ^ n <= 2 ^ k:=Nat.pow_le_pow_right (by omega) (by omega)
  rw [Nat.testBit_lt_two_pow (by omega),Nat.testBit_lt_two_pow (by omega)]
theorem zv1 {X n:Nat} (hX:X < 2 ^ n):NoneF (fun i => X.testBit (0 + i)) n ↔ X = 0:=by
 constructor
 ·intro h
  refine zt3 hX (Nat.two_pow_pos n) fun k hk => ?_
  have:=h k hk
  simp only [Nat.zero_add] at this
  rw [this,Nat.zero_testBit]
 ·rintro rfl i _
  simp
theorem zs6 {X n k:Nat} (hX:X < 2 ^ n):OneF (fun i => X.testBit (0 + i)) n k ↔ k < n /\ X = 2 ^ k:=by
 constructor
 ·rintro ⟨h1,h2,h3⟩
  refine ⟨h1,zt3 hX (Nat.pow_lt_pow_right (by omega) h1) fun j hj => ?_⟩
  rw [Nat.testBit_two_pow]
  simp only [Nat.zero_add] at h2 h3
  by_cases e:k = j
  ·subst e; simp [h2]
  ·cases hb:X.testBit j with
   | false => simp [e]
   | true => exact absurd (h3 j hj hb).symm e
 ·rintro ⟨h1,rfl⟩
  refine ⟨h1,by simp,fun i hi h => ?_⟩
  simp only [Nat.zero_add,Nat.testBit_two_pow,decide_eq_true_eq] at h
  exact h.symm
theorem ztg {X n:Nat} (hX:X < 2 ^ n):(∃ k,OneF (fun i => X.testBit (0 + i)) n k) ↔ isOne X = true:=by
 rw [zsl]
 constructor
 ·rintro ⟨k,h⟩; exact ⟨k,((zs6 hX).1 h).2⟩
 ·rintro ⟨k,h⟩
  refine ⟨k,(zs6 hX).2 ⟨?_,h⟩⟩
  rw [h] at hX
  exact (Nat.pow_lt_pow_iff_right (by omega)).1 hX
structure Shp (S:Stc) (T:Bt):Prop where
 n:S.n = T.size
 rel:∀ (op:Int) (p q:Nat),p < T.size -> q < T.size -> S.rel op p q = relO op T p q
theorem sub_and {X Y n:Nat} (hX:X < 2 ^ n):(∀ i,i < n -> X.testBit (0 + i) = true -> Y.testBit (0 + i) = true) ↔ X &&& Y = X:=by
 constructor
 ·intro h
  refine zt3 (Nat.lt_of_le_of_lt Nat.and_le_left hX) hX fun k hk => ?_
  rw [Nat.testBit_and]
  cases hb:X.testBit k with
  | false => rfl
  | true => have:=h k hk (by simpa using hb); simpa using this
 ·intro h i _ hi
  rw [<- h,Nat.testBit_and] at hi
  simp only [Bool.and_eq_true] at hi
  exact hi.2
theorem zug {X Y:Nat} {T:Bt} {far:Bool} {fnd:Nat -> Nat -> Bool} (hX:X < 2 ^ T.size) (hY:Y < 2 ^ T.size):St2 far fnd (fun i => X.testBit (0 + i)) (fun i => Y.testBit (0 + i)) T ↔ (isOne X && isOne Y && relG far fnd T (Nat.log2 X) (Nat.log2 Y)) = true:=by
 simp only [Bool.and_eq_true]
 constructor
 ·rintro ⟨j,k,h1,h2,h3⟩
  have e1:=((zs6 hX).1 h1).2
  have e2:=((zs6 hY).1 h2).2
  refine ⟨⟨(zsl X).2 ⟨j,e1⟩,(zsl Y).2 ⟨k,e2⟩⟩,?_⟩
  rw [e1,e2,Nat.log2_two_pow,Nat.log2_two_pow]
  exact h3
 ·rintro ⟨⟨h1,h2⟩,h3⟩
  obtain ⟨j,hj⟩:=(ztg hX).2 h1
  obtain ⟨k,hk⟩:=(ztg hY).2 h2
  refine ⟨j,k,hj,hk,?_⟩
  rw [((zs6 hX).1 hj).2,((zs6 hY).1 hk).2,Nat.log2_two_pow,Nat.log2_two_pow] at h3
  exact h3
theorem zsr {x n:Nat} (h:isOne x = true) (hx:x < 2 ^ n):Nat.log2 x < n:=by
 have e:x = 2 ^ Nat.log2 x:=of_decide_eq_true h
 rw [e] at hx
 exact (Nat.pow_lt_pow_iff_right (by omega)).1 hx
theorem zub {S:Stc} {T:Bt} {V:Nat} {a:List Nat} {op x y:Int} (hS:Shp S T) (hf:FitB V a 0 T) (hx:0 < nv op -> 0 <= x /\ x < V) (hy:1 < nv op -> 0 <= y /\ y < V) (ha:∀ z,getV a z < 2 ^ T.size) (hop:op = 1 \/ op = 2 \/ op = 3 \/ op = 4 \/ op = 6 \/ op = 7 \/ op = 8) :
  accS (atomA op x y V) T = true ↔ atomS S op (getV a x) (getV a y) = true:=by
 have hX:=ha x
 have hY:=ha y
 have acc:accS (atomA op x y V) T = ((atomA op x y V).run T == finA op):=rfl
 rw [acc,beq_iff_eq]
 rcases hop with rfl | rfl | rfl | rfl | rfl | rfl | rfl
 ·rw [zww]; simp [finA,atomS]
 ·have fx:=FitB.fit (hx (by decide)).1 (hx (by decide)).2 hf
  have fy:=FitB.fit (hy (by decide)).1 (hy (by decide)).2 hf
  rw [show finA 2 = 0 from rfl,(zu4 x y V T _ _ fx fy).1,sub_and hX]
  simp [atomS]
 ·have fx:=FitB.fit (hx (by decide)).1 (hx (by decide)).2 hf
  rw [show finA 3 = 0 from rfl,(zvr x y V T _ fx).1,zv1 hX]
  simp [atomS]
 ·have fx:=FitB.fit (hx (by decide)).1 (hx (by decide)).2 hf
  rw [show finA 4 = 1 from rfl,(zu5 x y V T _ fx).2.1,ztg hX]
  simp [atomS]
 all_goals
  have fx:=FitB.fit (hx (by decide)).1 (hx (by decide)).2 hf
  have fy:=FitB.fit (hy (by decide)).1 (hy (by decide)).2 hf
 ·rw [show finA 6 = 2 from rfl,(zuh 6 x y V true (fun _ _ => true) (by decide) (fun a b c d => by simp [stepA]) T _ _ fx fy).2.2.1,zug hX hY]
  have e:atomS S 6 (getV a x) (getV a y) = (isOne (getV a x) && isOne (getV a y) && S.rel 6 (Nat.log2 (getV a x)) (Nat.log2 (getV a y))):=by simp [atomS]
  rw [e]
  by_cases h1:isOne (getV a x) = true
  ·by_cases h2:isOne (getV a y) = true
   ·rw [hS.rel 6 _ _ (zsr h1 hX) (zsr h2 hY)]; simp [relO]
   ·simp [h2]
  ·simp [h1]
 ·rw [show finA 7 = 2 from rfl,(zuh 7 x y V false (fun l _ => l == 1) (by decide) (fun a b c d => by simp [stepA]) T _ _ fx fy).2.2.1,zug hX hY]
  have e:atomS S 7 (getV a x) (getV a y) = (isOne (getV a x) && isOne (getV a y) && S.rel 7 (Nat.log2 (getV a x)) (Nat.log2 (getV a y))):=by simp [atomS]
  rw [e]
  by_cases h1:isOne (getV a x) = true
  ·by_cases h2:isOne (getV a y) = true
   ·rw [hS.rel 7 _ _ (zsr h1 hX) (zsr h2 hY)]; simp [relO]
   ·simp [h2]
  ·simp [h1]
 ·rw [show finA 8 = 2 from rfl,(zuh 8 x y V false (fun _ r => r == 1) (by decide) (fun a b c d => by simp [stepA]) T _ _ fx fy).2.2.1,zug hX hY]
  have e:atomS S 8 (getV a x) (getV a y) = (isOne (getV a x) && isOne (getV a y) && S.rel 8 (Nat.log2 (getV a x)) (Nat.log2 (getV a y))):=by simp [atomS]
  rw [e]
  by_cases h1:isOne (getV a x) = true
  ·by_cases h2:isOne (getV a y) = true
   ·rw [hS.rel 8 _ _ (zsr h1 hX) (zsr h2 hY)]; simp [relO]
   ·simp [h2]
  ·simp [h1]
theorem zsh {v:Nat}:∀ {T U:Bt},VarV v T U -> U.size = T.size
 | .nil,.nil,_ => rfl
 | .nil,.node _ _ _,h => absurd h (by simp [VarV,VarT])
 | .node _ _ _,.nil,h => absurd h (by simp [VarV,VarT])
 | .node a l r,.node b l' r',h => by
  obtain ⟨_,h2,h3⟩:=znr.1 h
  simp only [Bt.size,zsh h2,zsh h3]
theorem zsz {v:Nat} (far:Bool) (fnd:Nat -> Nat -> Bool):∀ {T U:Bt},VarV v T U -> relG far fnd U = relG far fnd T
 | .nil,.nil,_ => rfl
 | .nil,.node _ _ _,h => absurd h (by simp [VarV,VarT])
 | .node _ _ _,.nil,h => absurd h (by simp [VarV,VarT])
 | .node a l r,.node b l' r',h => by
  obtain ⟨_,h2,h3⟩:=znr.1 h
  funext p q
  simp only [relG,zsh h2,zsh h3,zsz far fnd h2,zsz far fnd h3]
theorem Shp.var {S:Stc} {T U:Bt} {v:Nat} (h:Shp S T) (hv:VarV v T U):Shp S U:=by
 have hs:=zsh hv
 refine ⟨by rw [hs]; exact h.n,fun op p q hp hq => ?_⟩
 rw [hs] at hp hq
 rw [h.rel op p q hp hq]
 unfold relO
 split
 ·rw [zsz _ _ hv]
 ·split
  ·rw [zsz _ _ hv]
  ·rw [zsz _ _ hv]
theorem zuw {a:List Nat} {x:Nat} {s:Nat} (hx:x < a.length) (v:Nat):getV (setV a (x:Int) s) (v:Int) = if v = x then s else getV a (v:Int):=by
 unfold getV setV
 rw [List.getD_eq_getElem?_getD,List.getD_eq_getElem?_getD,Int.toNat_natCast,Int.toNat_natCast,List.getElem?_set]
 by_cases e:v = x
 ·subst e
  rw [if_pos rfl,if_pos rfl,if_pos hx]; rfl
 ·rw [if_neg (fun h => e h.symm),if_neg e]
def relab (x s:Nat):Nat -> Bt -> Bt
 | _,.nil => .nil
 | p,.node lab l r => .node ((if s.testBit p then hiV x lab.toNat else loV x lab.toNat:Nat):Int) (relab x s (p + 1) l) (relab x s (p + 1 + l.size) r)
theorem zsy (x s:Nat):∀ (T:Bt) (p:Nat),VarV x T (relab x s p T)
 | .nil,_ => trivial
 | .node lab l r,p => znr.2 ⟨⟨by rw [Int.toNat_natCast]; split; exact .inr rfl; exact .inl rfl,by omega⟩,zsy x s l _,zsy x s r _⟩
theorem ztq {V:Nat} {a:List Nat} {x s:Nat} (hxa:x < a.length) (hx:x < V):∀ {T U:Bt} {p:Nat},FitB V a p T -> VarV x T U -> (FitF (x:Int) (fun i => s.testBit (p + i)) U) -> FitB V (setV a (x:Int) s) p U
 | .nil,.nil,_,_,_,_ => trivial
 | .nil,.node _ _ _,_,_,h,_ => absurd h (by simp [VarV,VarT])
 | .node _ _ _,.nil,_,_,h,_ => absurd h (by simp [VarV,VarT])
 | .node b l r,.node c l' r',p,⟨⟨h0,h1,h2⟩,hl,hr⟩,hv,⟨g0,gl,gr⟩ => by
  obtain ⟨k1,k2,k3⟩:=znr.1 hv
  have ks:=zsh k2
  refine ⟨⟨k1.2,?_,fun v hv => ?_⟩,?_,?_⟩
  ·rcases k1.1 with e | e
   ·rw [e]; exact zo8 hx h1
   ·rw [e]; exact zpm hx h1
  ·rw [zuw hxa]
   by_cases e:v = x
   ·subst e
    rw [if_pos rfl]
    rw [zs2,Int.toNat_natCast] at g0
    have g1:(c.toNat.testBit v).toNat = (s.testBit p).toNat:=g0
    revert g1
    cases c.toNat.testBit v <;> cases s.testBit p <;> simp
   ·rw [if_neg e,<- h2 v hv]
    exact (zw4.1 k1).2 v e
  ·refine ztq hxa hx hl k2 ?_
   simpa [show ∀ i,p + 1 + i = p + (i + 1) from fun i => by omega] using gl
  ·rw [ks]
   refine ztq hxa hx hr k3 ?_
   rw [ks] at gr
   simpa [show ∀ i,p + 1 + l.size + i = p + (i + 1 + l.size) from fun i => by omega] using gr
theorem zs5 (x s:Nat):∀ (T:Bt) (p:Nat),FitF (x:Int) (fun i => s.testBit (p + i)) (relab x s p T)
 | .nil,_ => trivial
 | .node lab l r,p => by
  have hs:=zsh (zsy x s l (p + 1))
  refine ⟨?_,?_,?_⟩
  ·rw [zs2,Int.toNat_natCast,Int.toNat_natCast]
   show _ = (s.testBit p).toNat
   cases s.testBit p with
   | true => rw [if_pos rfl,zul]; simp
   | false => rw [if_neg (by simp),zuk]; simp
  ·have:=zs5 x s l (p + 1)
   simpa [show ∀ i,p + 1 + i = p + (i + 1) from fun i => by omega] using this
  ·have:=zs5 x s r (p + 1 + l.size)
   rw [hs]
   simpa [show ∀ i,p + 1 + l.size + i = p + (i + 1 + l.size) from fun i => by omega] using this
def setB (x:Nat):Nat -> Bt -> Nat
 | _,.nil => 0
 | p,.node lab l r => (if lab.toNat.testBit x then 2 ^ p else 0) ||| setB x (p + 1) l ||| setB x (p + 1 + l.size) r
theorem zsk (x:Nat):∀ (T:Bt) (p i:Nat),(setB x p T).testBit i = true -> p <= i /\ i < p + T.size
 | .nil,p,i,h => by simp [setB] at h
 | .node lab l r,p,i,h => by
  simp only [setB,Nat.testBit_or,Bool.or_eq_true,Bt.size] at h ⊢
  rcases h with (h | h) | h
  ·split at h
   ·rw [Nat.testBit_two_pow,decide_eq_true_eq] at h; omega
   ·simp at h
  ·have:=zsk x l _ _ h; omega
  ·have:=zsk x r _ _ h; omega
theorem setB_lt (x:Nat) (T:Bt):setB x 0 T < 2 ^ T.size:=by
 refine Nat.lt_pow_two_of_testBit _ fun i hi => ?_
 cases h:(setB x 0 T).testBit i with
 | false => rfl
 | true => have:=zsk x T 0 i h; omega
theorem zss (x:Int):∀ (T:Bt) (β γ:Nat -> Bool),(∀ i,i < T.size -> β i = γ i) -> FitF x β T -> FitF x γ T
 | .nil,_,_,_,_ => trivial
 | .node lab l r,β,γ,h,⟨h0,h1,h2⟩ => by
  simp only [Bt.size] at h
  exact ⟨by rw [<- h 0 (by omega)]; exact h0,zss x l _ _ (fun i hi => h _ (by omega)) h1,zss x r _ _ (fun i hi => h _ (by omega)) h2⟩
theorem zts (x:Nat):∀ (T:Bt) (p:Nat),FitF (x:Int) (fun i => (setB x p T).testBit (p + i)) T
 | .nil,_ => trivial
 | .node lab l r,p => by
  have hl:=fun i (h:i < p + 1 \/ p + 1 + l.size <= i) => (show (setB x (p + 1) l).testBit i = false by
   cases e:(setB x (p + 1) l).testBit i with
   | false => rfl
   | true => have:=zsk x l _ _ e; omega)
  have hr:=fun i (h:i < p + 1 + l.size) => (show (setB x (p + 1 + l.size) r).testBit i = false by
   cases e:(setB x (p + 1 + l.size) r).testBit i with
   | false => rfl
   | true => have:=zsk x r _ _ e; omega)
  have h0:∀ i,i ≠ p -> (if lab.toNat.testBit x then 2 ^ p else 0:Nat).testBit i = false:=fun i hi => by
   split
   ·rw [Nat.testBit_two_pow_of_ne (Ne.symm hi)]
   ·simp
  refine ⟨?_,?_,?_⟩
  ·rw [zs2,Int.toNat_natCast]
   show _ = ((setB x p (.node lab l r)).testBit p).toNat
   rw [setB,Nat.testBit_or,Nat.testBit_or,hl p (by omega),hr p (by omega)]
   split <;> simp_all
  ·refine zss _ l _ _ (fun i hi => ?_) (zts x l (p + 1))
   simp only [setB,Nat.testBit_or]
   rw [show p + (i + 1) = p + 1 + i by omega,hr _ (by omega),h0 _ (by omega)]
   simp
  ·refine zss _ r _ _ (fun i hi => ?_) (zts x r (p + 1 + l.size))
   simp only [setB,Nat.testBit_or]
   rw [show p + (i + 1 + l.size) = p + 1 + l.size + i by omega,hl _ (by omega),h0 _ (by omega)]
   simp
end Go.Proofs.YthdabkmkgkkmcaaGreatDoor
namespace Go.Proofs.YthdabkmkgkkmcaaGreatDoor
def WfT (V:Nat):Tr -> Prop
 | .leaf op x y => (op = 1 \/ op = 2 \/ op = 3 \/ op = 4 \/ op = 6 \/ op = 7 \/ op = 8) /\ (0 < nv op -> 0 <= x /\ x < V) /\ (1 < nv op -> 0 <= y /\ y < V)
 | .un op x a => (op = 9 \/ 12 <= op /\ op <= 15 /\ 0 <= x /\ x < V) /\ WfT V a
 | .bin op a b => (op = 10 \/ op = 11) /\ WfT V a /\ WfT V b
theorem wfT_of {V:Nat} (t:Tr):t.ok -> ∀ p:Nat,(∀ m ∈ t.enc p,knows true m.op = true /\ zak m V = true) -> WfT V t:=by
 induction t with
 | leaf op x y =>
  intro h p hm
  have h1:=hm ⟨op,x,y,0,0⟩ (by simp [Tr.enc])
  have hr:=zlf h.1
  have hn:=h.2.1
  have h5:op ≠ 5:=by have:=h1.1; simpa [knows] using this
  have h9:op < 9:=by
   unfold nc at hn
   split at hn
   ·cases hn
   ·split at hn
    ·cases hn
    ·omega
  have hw:=h1.2
  simp only [zak,Bool.and_eq_true,Bool.or_eq_true,decide_eq_true_eq] at hw
  exact ⟨by omega,fun _ => by omega,fun _ => by omega⟩
 | un op x a ih =>
  intro h p hm
  refine ⟨?_,ih h.2 p fun m hx => hm m (by simp [Tr.enc,hx])⟩
  rcases nc_oneC h.1.2.1 with e | e
  ·exact .inl e
  ·right
   have h1:=(hm ⟨op,x,0,((p + a.size - 1:Nat):Int),0⟩ (by simp [Tr.enc])).2
   have h2:nv op = 1:=by unfold nv; rw [if_pos (by omega)]
   simp only [zak,h2,Bool.and_eq_true,Bool.or_eq_true,decide_eq_true_eq] at h1
   exact ⟨e.1,e.2,by omega,by omega⟩
 | bin op a b iha ihb =>
  intro h p hm
  exact ⟨nc_twoC h.1,iha h.2.1 p fun m hx => hm m (by simp [Tr.enc,hx]),ihb h.2.2 (p + a.size) fun m hx => hm m (by simp [Tr.enc,hx])⟩
theorem zto {a:List Nat} {x s N:Nat} (h:∀ z,getV a z < N) (hs:s < N) (hx:x < a.length):∀ z,getV (setV a (x:Int) s) z < N:=by
 intro z
 unfold getV setV
 rw [List.getD_eq_getElem?_getD,Int.toNat_natCast,List.getElem?_set]
 by_cases e:x = z.toNat
 ·subst e
  rw [if_pos rfl,if_pos hx]; exact hs
 ·rw [if_neg e]
  have:=h z
  unfold getV at this
  rw [List.getD_eq_getElem?_getD] at this
  exact this
theorem zux {V:Nat} {a:List Nat} {x:Nat} {T:Bt} {P:Bt -> Prop} {Q:Nat -> Prop} (hxa:x < a.length) (hx:x < V) (hf:FitB V a 0 T) (h:∀ u s,VarV x T u -> FitB V (setV a (x:Int) s) 0 u -> s < 2 ^ T.size -> (P u ↔ Q s)):(∃ u,VarV x T u /\ P u) ↔ ∃ s,s < 2 ^ T.size /\ Q s:=by
 constructor
 ·rintro ⟨u,hv,hp⟩
  have hs:=setB_lt x u
  rw [zsh hv] at hs
  exact ⟨setB x 0 u,hs,(h u _ hv (ztq hxa hx hf hv (zts x u 0)) hs).1 hp⟩
 ·rintro ⟨s,hs,hq⟩
  have hv:=zsy x s T 0
  exact ⟨relab x s 0 T,hv,(h _ s hv (ztq hxa hx hf hv (zs5 x s T 0)) hs).2 hq⟩
theorem zwv {n:Nat} (h:n <= 31):setN n = 2 ^ n:=by
 unfold setN
 refine Nat.mod_eq_of_lt ?_
 have:2 ^ n <= 2 ^ 31:=Nat.pow_le_pow_right (by omega) h
 omega
theorem zuc {n:Nat} {p:Nat -> Bool}:(List.range n).any p = true ↔ ∃ s,s < n /\ p s = true:=by
 rw [List.any_eq_true]
 exact ⟨fun ⟨s,h1,h2⟩ => ⟨s,List.mem_range.1 h1,h2⟩,fun ⟨s,h1,h2⟩ => ⟨s,List.mem_range.2 h1,h2⟩⟩
theorem zue {n:Nat} {p:Nat -> Bool}:(List.range n).all p = true ↔ ¬ ∃ s,s < n /\ ¬ p s = true:=by
 rw [List.all_eq_true]
 constructor
 ·rintro h ⟨s,h1,h2⟩; exact h2 (h s (List.mem_range.2 h1))
 ·intro h s hs
  exact Classical.byContradiction fun h2 => h ⟨s,List.mem_range.1 hs,h2⟩
theorem zvw {n:Nat} {Q:Nat -> Prop}:(∃ s,s < 2 ^ n /\ Q s /\ isOne s = true) ↔ ∃ p,p < n /\ Q (2 ^ p):=by
 constructor
 ·rintro ⟨s,hs,hq,h1⟩
  obtain ⟨p,rfl⟩:=(zsl s).1 h1
  exact ⟨p,(Nat.pow_lt_pow_iff_right (by omega)).1 hs,hq⟩
 ·rintro ⟨p,hp,hq⟩
  exact ⟨2 ^ p,Nat.pow_lt_pow_right (by omega) hp,hq,(zsl _).2 ⟨p,rfl⟩⟩
theorem zv9 {V:Nat} (hV:V <= 3):∀ t:Tr,WfT V t -> ∀ (S:Stc) (T:Bt) (a:List Nat),Shp S T -> T.size <= 31 -> FitB V a 0 T -> a.length = 6 -> (∀ z,getV a z < 2 ^ T.size) -> (langT V t T ↔ zb7 S t a = true):=by
 intro t
 induction t with
 | leaf op x y =>
  intro hw S T a hS _ hf _ ha
  exact zub hS hf hw.2.1 hw.2.2 ha hw.1
 | un op x t ih =>
  intro hw S T a hS h31 hf hl ha
  have key:=ih hw.2
  rcases hw.1 with rfl | ⟨h12,h15,hx0,hxV⟩
  ·have e:zb7 S (.un 9 x t) a = !zb7 S t a:=by simp [zb7]
   rw [e]
   show ¬ langT V t T ↔ _
   rw [key S T a hS h31 hf hl ha]
   simp
  ·obtain ⟨k,rfl⟩:=Int.eq_ofNat_of_zero_le hx0
   have hk:k < V:=by omega
   have hka:k < a.length:=by omega
   have hn:S.n = T.size:=hS.n
   have hset:setN S.n = 2 ^ T.size:=by rw [hn]; exact zwv h31
   have hsub:∀ u s,VarV k T u -> FitB V (setV a (k:Int) s) 0 u -> s < 2 ^ T.size -> (langT V t u ↔ zb7 S t (setV a (k:Int) s) = true):=fun u s hv hfu hs => by
    have hsz:=zsh hv
    exact key S u _ (hS.var hv) (by rw [hsz]; exact h31) hfu (by unfold setV; rw [List.length_set]; exact hl) (by rw [hsz]; exact zto ha hs hka)
   have hone:∀ u s,VarV k T u -> FitB V (setV a (k:Int) s) 0 u -> s < 2 ^ T.size -> (accS (atomA 4 (k:Int) 0 V) u = true ↔ isOne s = true):=fun u s hv hfu hs => by
    have hsz:=zsh hv
    have h:=zub (op:=4) (x:=(k:Int)) (y:=0) (hS.var hv) hfu (fun _ => ⟨by omega,by omega⟩) (fun h => by simp [nv] at h) (by rw [hsz]; exact zto ha hs hka) (by omega)
    rw [h]
    have e:getV (setV a (k:Int) s) (k:Int) = s:=by rw [zuw hka,if_pos rfl]
    simp [atomS,e]
   have hop:op = 12 \/ op = 13 \/ op = 14 \/ op = 15:=by omega
   rcases hop with rfl | rfl | rfl | rfl
   ·have e:zb7 S (.un 12 (k:Int) t) a = (List.range (setN S.n)).any fun s => zb7 S t (setV a (k:Int) s):=by simp [zb7]
    rw [e,zuc,hset]
    show unL V 12 (k:Int) (langT V t) T ↔ _
    simp only [unL,Int.toNat_natCast]
    simp only [show ¬ (12:Int) = 9 by decide,if_false,if_true]
    exact zux hka hk hf hsub
   ·have e:zb7 S (.un 13 (k:Int) t) a = (List.range (setN S.n)).all fun s => zb7 S t (setV a (k:Int) s):=by simp [zb7]
    rw [e,zue,hset]
    show unL V 13 (k:Int) (langT V t) T ↔ _
    simp only [unL,Int.toNat_natCast]
    simp only [show ¬ (13:Int) = 9 by decide,show ¬ (13:Int) = 12 by decide,if_false,if_true]
    exact not_congr (zux hka hk hf fun u s hv hfu hs => not_congr (hsub u s hv hfu hs))
   ·have e:zb7 S (.un 14 (k:Int) t) a = (List.range S.n).any fun p => zb7 S t (setV a (k:Int) (2 ^ p)):=by simp [zb7]
    rw [e,zuc,hn]
    show unL V 14 (k:Int) (langT V t) T ↔ _
    simp only [unL,Int.toNat_natCast]
    simp only [show ¬ (14:Int) = 9 by decide,show ¬ (14:Int) = 12 by decide,show ¬ (14:Int) = 13 by decide,if_false,if_true]
    rw [zux (Q:=fun s => zb7 S t (setV a (k:Int) s) = true /\ isOne s = true) hka hk hf fun u s hv hfu hs => and_congr (hsub u s hv hfu hs) (hone u s hv hfu hs)]
    exact zvw (Q:=fun s => zb7 S t (setV a (k:Int) s) = true)
   ·have e:zb7 S (.un 15 (k:Int) t) a = (List.range S.n).all fun p => zb7 S t (setV a (k:Int) (2 ^ p)):=by simp [zb7]
    rw [e,zue,hn]
    show unL V 15 (k:Int) (langT V t) T ↔ _
    simp only [unL,Int.toNat_natCast]
    simp only [show ¬ (15:Int) = 9 by decide,show ¬ (15:Int) = 12 by decide,show ¬ (15:Int) = 13 by decide,show ¬ (15:Int) = 14 by decide,if_false]
    refine not_congr ?_
    rw [zux (Q:=fun s => ¬ zb7 S t (setV a (k:Int) s) = true /\ isOne s = true) hka hk hf fun u s hv hfu hs => and_congr (not_congr (hsub u s hv hfu hs)) (hone u s hv hfu hs)]
    exact zvw (Q:=fun s => ¬ zb7 S t (setV a (k:Int) s) = true)
 | bin op t u iht ihu =>
  intro hw S T a hS h31 hf hl ha
  have h1:=iht hw.2.1 S T a hS h31 hf hl ha
  have h2:=ihu hw.2.2 S T a hS h31 hf hl ha
  rcases hw.1 with rfl | rfl
  ·have e:zb7 S (.bin 10 t u) a = (zb7 S t a && zb7 S u a):=by simp [zb7]
   rw [e,Bool.and_eq_true]
   show (if (10:Int) = 10 then _ else _) ↔ _
   rw [if_pos rfl]
   exact and_congr h1 h2
  ·have e:zb7 S (.bin 11 t u) a = (zb7 S t a || zb7 S u a):=by simp [zb7]
   rw [e,Bool.or_eq_true]
   show (if (11:Int) = 10 then _ else _) ↔ _
   rw [if_neg (by decide)]
   exact or_congr h1 h2
theorem zum:∀ (l:List Nat) (v k:Nat),(zlt l v).testBit k = (match l[k]? with | some c => c.testBit v | none => false):=by
 intro l
 have rev:∀ l:List Nat,∀ v k,(zlt l.reverse v).testBit k = (match l.reverse[k]? with | some c => c.testBit v | none => false):=by
  intro l
  induction l with
  | nil => intro v k; simp [zlt]
  | cons x l ih =>
   intro v k
   rw [List.reverse_cons,zsw,Nat.mul_comm,Nat.add_comm,Nat.testBit_two_pow_mul_add _ (zs1 _ _),ih]
   by_cases hk:k < l.reverse.length
   ·rw [if_pos hk,List.getElem?_append_left hk]
   ·rw [if_neg hk,List.getElem?_append_right (by omega)]
    have hb:x / 2 ^ v % 2 = (x.testBit v).toNat:=by
     rw [Nat.testBit_eq_decide_div_mod_eq]
     have:x / 2 ^ v % 2 = 0 \/ x / 2 ^ v % 2 = 1:=by omega
     rcases this with h | h <;> rw [h] <;> rfl
    rw [hb]
    by_cases e:k - l.reverse.length = 0
    ·rw [e]
     show (x.testBit v).toNat.testBit 0 = x.testBit v
     cases x.testBit v <;> simp
    ·obtain ⟨j,hj⟩:∃ j,k - l.reverse.length = j + 1:=⟨k - l.reverse.length - 1,by omega⟩
     rw [hj]
     cases x.testBit v <;> simp [Nat.testBit_succ]
 intro v k
 have:=rev l.reverse v k
 rwa [List.reverse_reverse] at this
theorem zvd (l:List Nat) {v:Nat} (hv:v < 6):getV (zsu l) (v:Int) = zlt l v:=by
 unfold getV zsu
 rw [Int.toNat_natCast,List.getD_eq_getElem?_getD,List.getElem?_map,List.getElem?_range hv]
 rfl
theorem ztj {V:Nat} (hV:V <= 3) (w:List Nat):∀ (T:Bt) (p:Nat),T.lb (2 ^ V) -> (∀ i,i < T.size -> w[p + i]? = ((T.enc p).map fun x => x.label.toNat)[i]?) -> FitB V (zsu w) p T
 | .nil,_,_,_ => trivial
 | .node lab l r,p,hb,h => by
  simp only [Bt.size,Bt.enc,List.map_cons,List.map_append] at h
  have hl:=ztj hV w l (p + 1) hb.2.1 fun i hi => by
   have:=h (i + 1) (by omega)
   rw [List.getElem?_cons_succ,List.getElem?_append_left (by rw [List.length_map,Bt.enc_len]; exact hi)] at this
   rw [<- this]; congr 1; omega
  have hr:=ztj hV w r (p + 1 + l.size) hb.2.2 fun i hi => by
   have:=h (i + 1 + l.size) (by omega)
   rw [show i + 1 + l.size = (i + l.size) + 1 by omega,List.getElem?_cons_succ,List.getElem?_append_right (by rw [List.length_map,Bt.enc_len]; omega),List.length_map,Bt.enc_len] at this
   rw [show p + 1 + l.size + i = p + (i + l.size + 1) by omega,this]; congr 1; omega
  refine ⟨⟨hb.1.1,hb.1.2,fun v hv => ?_⟩,hl,hr⟩
  rw [zvd w (by omega),zum]
  have:=h 0 (by omega)
  rw [Nat.add_zero,List.getElem?_cons_zero] at this
  rw [this]
theorem zvc {V:Nat} (hV:V <= 3) {t:Tr} (hw:WfT V t) {T:Bt} (h31:T.size <= 31) (hb:T.lb (2 ^ V)):langT V t T ↔ zb7 (zc1 (T.enc 0)) t (zsu (zsb (T.enc 0))) = true:=by
 have hlen:(zsb (T.enc 0)).length = T.size:=by unfold zsb; rw [List.length_map,Bt.enc_len]
 refine zv9 hV t hw (zc1 (T.enc 0)) T _ ⟨Bt.enc_len T 0,fun op p q hp hq => zwz h31 op p q hp hq⟩ h31 (ztj hV _ T 0 hb fun i hi => by rw [Nat.zero_add]; rfl) rfl fun z => ?_
 have hg:∀ v,zlt (zsb (T.enc 0)) v < 2 ^ T.size:=fun v => by rw [<- hlen]; exact zs1 _ _
 unfold getV
 rw [List.getD_eq_getElem?_getD]
 cases e:(zsu (zsb (T.enc 0)))[z.toNat]? with
 | none => exact Nat.two_pow_pos _
 | some u =>
  have:=List.mem_of_getElem? e
  unfold zsu at this
  obtain ⟨v,_,rfl⟩:=List.mem_map.1 this
  exact hg v
end Go.Proofs.YthdabkmkgkkmcaaGreatDoor

/- Part 5 of the proof; it says: lemmas and contracts. No conditions but those that each theorem states. -/
import Derived.Test.YthdabkmkgkkmcaaGreatDoorPb01
import Derived.Test.YthdabkmkgkkmcaaGreatDoorPb03
import Derived.Test.YthdabkmkgkkmcaaGreatDoorPb04
import Derived.Test.YthdabkmkgkkmcaaGreatDoorPb05
import Derived.Test.YthdabkmkgkkmcaaGreatDoorPb06
import Derived.Test.YthdabkmkgkkmcaaGreatDoorPb07
import Derived.Test.YthdabkmkgkkmcaaGreatDoorPb08
import Derived.Test.YthdabkmkgkkmcaaGreatDoorPb09
import Derived.Test.YthdabkmkgkkmcaaGreatDoorPb10
import Derived.Test.YthdabkmkgkkmcaaGreatDoorPb11
import Derived.Test.YthdabkmkgkkmcaaGreatDoorPb12
import Derived.Test.YthdabkmkgkkmcaaGreatDoorPb13
import Derived.Test.YthdabkmkgkkmcaaGreatDoorPb14
import Derived.Test.YthdabkmkgkkmcaaGreatDoorPb15
import Derived.Test.YthdabkmkgkkmcaaGreatDoorPb16
import Derived.Test.YthdabkmkgkkmcaaGreatDoorPb17
import Derived.Test.YthdabkmkgkkmcaaGreatDoorPb18
import Derived.Test.YthdabkmkgkkmcaaGreatDoorPb19
import Derived.Test.YthdabkmkgkkmcaaGreatDoorPb20
import Derived.Test.YthdabkmkgkkmcaaGreatDoorPb21
import Derived.Test.YthdabkmkgkkmcaaGreatDoorPb22
import Derived.Test.YthdabkmkgkkmcaaGreatDoorPb23
import Derived.Test.YthdabkmkgkkmcaaGreatDoorPb24
import Derived.Test.YthdabkmkgkkmcaaGreatDoorPb25
import Derived.Test.YthdabkmkgkkmcaaGreatDoorPb26
import Derived.Test.YthdabkmkgkkmcaaGreatDoorPb27
import Derived.Test.YthdabkmkgkkmcaaGreatDoorPb28
import Derived.Test.YthdabkmkgkkmcaaGreatDoorPb29
import Derived.Test.YthdabkmkgkkmcaaGreatDoorPb30
import Derived.Test.YthdabkmkgkkmcaaGreatDoorPb02
import Derived.Test.YthdabkmkgkkmcaaGreatDoorPi01
import Derived.Test.YthdabkmkgkkmcaaGreatDoorPi02
import Derived.Test.YthdabkmkgkkmcaaGreatDoorPi03
import Derived.Test.YthdabkmkgkkmcaaGreatDoorPi04
set_option linter.unusedSimpArgs false
set_option linter.unusedVariables false
set_option maxRecDepth 100000
set_option maxHeartbeats 32000000
namespace Go.Proofs.YthdabkmkgkkmcaaGreatDoor
def unL (V:Nat) (op x:Int) (P:Bt -> Prop) (T:Bt):Prop :=
 if op = 9 then ¬ P T
 else if op = 12 then ∃ u,VarV x.toNat T u /\ P u
 else if op = 13 then ¬ ∃ u,VarV x.toNat T u /\ ¬ P u
 else if op = 14 then ∃ u,VarV x.toNat T u /\ P u /\ accS (atomA 4 x 0 V) u = true
 else ¬ ∃ u,VarV x.toNat T u /\ ¬ P u /\ accS (atomA 4 x 0 V) u = true
def langT (V:Nat):Tr -> Bt -> Prop
 | .leaf op x y,T => accS (atomA op x y V) T = true
 | .un op x a,T => unL V op x (langT V a) T
 | .bin op a b,T => if op = 10 then langT V a T /\ langT V b T else langT V a T \/ langT V b T
def LgA (V:Nat) (d:Dta) (P:Bt -> Prop):Prop:=∀ T:Bt,T.lb (2 ^ V) -> (accS d T = true ↔ P T)
theorem Dta.Is.lg {d:Dta} {V:Nat} {S:Bt -> Bool} (h:d.Is (2 ^ V) S) {P:Bt -> Prop} (hP:∀ T:Bt,T.lb (2 ^ V) -> (S T = true ↔ P T)):LgA V d P:=fun T hT => by
 unfold accS
 rw [h.lang T hT]
 exact hP T hT
theorem zsr {d:Dta} {V:Nat} {P:Bt -> Prop} (hd:d.Fit V) (h:LgA V d P):LgA V d.notM (fun T => ¬ P T):=by
 have hi:=Dta.notM_is hd.ok
 rw [hd.L] at hi
 refine hi.lg fun T hT => ?_
 rw [<- h T hT]
 unfold accS
 simp
theorem zs2 {a b e:Dta} {V:Nat} {g:Bool -> Bool -> Bool} {P Q:Bt -> Prop} (ha:a.Fit V) (hb:b.Fit V) (hP:LgA V a P) (hQ:LgA V b Q) (h:opC g a b = some e) {R:Bt -> Prop} (hR:∀ T p q,(p = true ↔ P T) -> (q = true ↔ Q T) -> (g p q = true ↔ R T)):LgA V e R:=by
 unfold opC at h
 split at h
 ·cases h
  have hi:=zf2 ha.ok hb.ok (ha.L.trans hb.L.symm) g
  rw [ha.L] at hi
  exact hi.lg fun T hT => hR T _ _ (hP T hT) (hQ T hT)
 ·cases h
theorem zsu {d e:Dta} {V v M:Nat} {P:Bt -> Prop} (hd:d.Fit V) (hv:v < V) (hP:LgA V d P) (h:exC v M d = some e):LgA V e (fun T => ∃ u,VarV v T u /\ P u):=by
 unfold exC at h
 split at h
 ·cases h
  have hi:=zm9 hd.ok hd.L hv
  rw [hd.L] at hi
  refine hi.lg fun T hT => ?_
  rw [zg4 hd.ok hd.n64 hd.L hv T (by rw [hd.L]; exact hT)]
  exact ⟨fun ⟨u,h1,h2⟩ => ⟨u,h1,(hP u (zh9 hv hT h1)).1 h2⟩,fun ⟨u,h1,h2⟩ => ⟨u,h1,(hP u (zh9 hv hT h1)).2 h2⟩⟩
 ·cases h
theorem zs8 (x:Int) {V:Nat} (hV:V <= 3):LgA V (singC x V) (fun T => accS (atomA 4 x 0 V) T = true):=(zbn 4 x 0 hV).lg fun _ _ => Iff.rfl
theorem unC_lg {V M:Nat} {op x:Int} {d e:Dta} {P:Bt -> Prop} (hd:d.Fit V) (hx:op = 9 \/ (12 <= op /\ op <= 15 /\ 0 <= x /\ x < V)) (hM:M <= 64) (hP:LgA V d P) (h:unC V M op x d = some e):LgA V e (unL V op x P):=by
 have hs:=zgl x hd.v3
 have hsl:=zs8 x hd.v3
 have hn:=zbt hd
 have hnl:=zsr hd hP
 unfold unC at h
 unfold unL
 split at h
 ·rename_i h9
  subst h9
  cases h
  exact hnl
 ·rename_i h9
  have hv:x.toNat < V:=by omega
  simp only [if_neg h9]
  split at h
  ·rename_i h12
   simp only [if_pos h12]
   exact zsu hd hv hP h
  ·rename_i h12
   simp only [if_neg h12]
   split at h
   ·rename_i h13
    simp only [if_pos h13]
    obtain ⟨d1,h1,rfl⟩:=Option.map_eq_some_iff.1 h
    exact zsr (zef hn hv hM h1) (zsu hn hv hnl h1)
   ·rename_i h13
    simp only [if_neg h13]
    split at h
    ·rename_i h14
     simp only [if_pos h14]
     obtain ⟨d1,h1,h2⟩:=Option.bind_eq_some_iff.1 h
     exact zsu (zbz hd hs h1) hv (zs2 (R:=fun T => P T /\ accS (atomA 4 x 0 V) T = true) hd hs hP hsl h1 fun T p q hp hq => by rw [<- hp,<- hq]; simp) h2
    ·rename_i h14
     simp only [if_neg h14]
     obtain ⟨d2,h3,rfl⟩:=Option.map_eq_some_iff.1 h
     obtain ⟨d1,h1,h2⟩:=Option.bind_eq_some_iff.1 h3
     exact zsr (zef (zbz hn hs h1) hv hM h2) (zsu (zbz hn hs h1) hv (zs2 (R:=fun T => ¬ P T /\ accS (atomA 4 x 0 V) T = true) hn hs hnl hsl h1 fun T p q hp hq => by rw [<- hp,<- hq]; simp) h2)
theorem cmpT_lg {V M:Nat} (hV:V <= 3) (hM:M <= 64) (t:Tr):t.vOK V -> ∀ d,cmpT V M t = some d -> LgA V d (langT V t):=by
 induction t with
 | leaf op x y =>
  intro _ d h
  have e2:=Option.some.inj (show some (atomA op x y V).mini = some d from h)
  rw [<- e2]
  exact (zbn op x y hV).lg fun _ _ => Iff.rfl
 | un op x a ih =>
  intro hv d h
  obtain ⟨e,h1,h2⟩:=Option.bind_eq_some_iff.1 (show (cmpT V M a).bind (unC V M op x) = some d from h)
  exact unC_lg (zd4 hV hM a hv.2 e h1) hv.1 hM (ih hv.2 e h1) h2
 | bin op a b iha ihb =>
  intro hv d h
  obtain ⟨e,h1,h2⟩:=Option.bind_eq_some_iff.1 (show ((cmpT V M a).bind fun d => (cmpT V M b).bind fun e => opC (binG op) d e) = some d from h)
  obtain ⟨e2,h3,h4⟩:=Option.bind_eq_some_iff.1 h2
  refine zs2 (zd4 hV hM a hv.2.1 e h1) (zd4 hV hM b hv.2.2 e2 h3) (iha hv.2.1 e h1) (ihb hv.2.2 e2 h3) h4 fun T p q hp hq => ?_
  simp only [langT,binG]
  split
  ·rw [<- hp,<- hq]; simp
  ·rw [<- hp,<- hq]; simp
end Go.Proofs.YthdabkmkgkkmcaaGreatDoor

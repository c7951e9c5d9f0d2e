/- Part 12 of the proof; it says: lemmas and contracts. No conditions but those that each theorem states. -/
import Derived.RegionTactic
import Derived.Deep.RegionHeld
import Derived.Test.YthkfjnmnoanhlaaGreatDoorPr01
import Derived.Test.YthkfjnmnoanhlaaGreatDoorPr03
set_option linter.unusedSimpArgs false
set_option linter.unusedVariables false
set_option linter.unusedSectionVars false
set_option maxRecDepth 100000
set_option maxHeartbeats 32000000
namespace Go.Proofs.YthkfjnmnoanhlaaGreatDoor
open Go.RowKit
section
variable {P:Program} {ops:Array Oper} {Q:Exit -> Act -> World -> Prop}
def StepI (P:Program) (ops:Array Oper) (Q:Exit -> Act -> World -> Prop) (I:(Nat -> Bool) -> Act -> World -> Prop) (i:Nat) (o:Oper):Prop :=
 ∀ (f:Nat -> Bool) (a:Act) (w:World),f i = false -> (∀ e ∈ o.after,Region.binds .any e = true -> f e.on = true) -> I f a w ->
  ∀ K:Act -> World -> Prop,(∀ a w,I (fun j => j == i || f j) a w -> K a w) -> if Region.wanted o (yielded ops a.tmps) = true then Oper.wp P o a w K Q else K (a.put o.dst undef) w
def zgm (P:Program) (ops:Array Oper) (Q:Exit -> Act -> World -> Prop) (I:(Nat -> Bool) -> Act -> World -> Prop):Nat -> List Oper -> Prop
 | _,[] => True
 | i,o :: l => StepI P ops Q I i o /\ zgm P ops Q I (i + 1) l
theorem zgm.at {I:(Nat -> Bool) -> Act -> World -> Prop}:∀ {l:List Oper} {k:Nat},zgm P ops Q I k l -> ∀ {i:Nat} {o:Oper},l[i]? = some o -> StepI P ops Q I (k + i) o
 | [],_,_,i,o,h => by simp at h
 | x :: l,k,⟨h1,h2⟩,0,o,h => by simp at h; subst h; exact h1
 | x :: l,k,⟨h1,h2⟩,i + 1,o,h => by
  have:=zgm.at h2 (i:=i) (o:=o) (by simpa using h)
  rw [show k + 1 + i = k + (i + 1) from by omega] at this
  exact this
def zfe (ops:Array Oper):Bool:=(List.range ops.size).all fun i => ((ops[i]?).map fun o => o.after.all fun e => !Region.binds .any e || decide (e.on < i)).getD true
theorem zh8 {listed:Array Bool} {j:Nat} (h:j < listed.size) (d:Bool):listed.getD j d = listed[j]:=by simp [h]
theorem zqe {listed:Array Bool} (hf:zfe ops = true) (hs:listed.size = ops.size):∀ i,i < ops.size -> listed.getD i true = false -> Region.ready .any ops listed ≠ []:=by
 intro i
 induction i using Nat.strongRecOn with
 | ind i ih =>
  intro hi hl
  by_cases hr:i ∈ Region.ready .any ops listed
  ·intro h; rw [h] at hr; cases hr
  ·rw [mem_ready] at hr
   have ho:ops[i]? = some ops[i]:=Array.getElem?_eq_getElem hi
   have hq:=List.all_eq_true.1 hf i (List.mem_range.2 hi)
   rw [ho] at hq
   simp only [Option.map_some,Option.getD_some,Array.all_eq_true_iff_forall_mem,Bool.or_eq_true,Bool.not_eq_true',decide_eq_true_eq] at hq
   have:∃ e ∈ ops[i].after,Region.binds .any e = true /\ listed.getD e.on false = false:=by
    refine Classical.byContradiction fun hc => hr ⟨hl,_,ho,fun e he hb => ?_⟩
    refine Classical.byContradiction fun h2 => hc ⟨e,he,hb,by simpa using h2⟩
   obtain ⟨e,he,hb,h2⟩:=this
   have hlt:e.on < i:=(hq e he).resolve_left (by simp [hb])
   refine ih e.on hlt (by omega) ?_
   rw [zh8 (by omega)] at h2 ⊢
   exact h2
def cntI (listed:Array Bool):Nat -> Nat
 | 0 => 0
 | n + 1 => cntI listed n + (if listed.getD n true then 0 else 1)
theorem zrc {listed:Array Bool} {i:Nat} (hl:listed.getD i true = false):∀ n,cntI (listed.setIfInBounds i true) n + (if i < n then 1 else 0) = cntI listed n:=by
 intro n
 induction n with
 | zero => simp [cntI]
 | succ n ih =>
  simp only [cntI]
  by_cases e:i = n
  ·subst e
   have h1:(listed.setIfInBounds i true).getD i true = true:=by
    by_cases h:i < listed.size
    ·simp [h]
    ·simp [h]
   rw [h1,hl]
   rw [if_neg (by omega)] at ih
   simp
   omega
  ·rw [getD_set_ne true e]
   by_cases h:i < n
   ·have e1:(if i < n then (1:Nat) else 0) = 1:=if_pos h
    have e2:(if i < n + 1 then (1:Nat) else 0) = 1:=if_pos (by omega)
    rw [e1] at ih; rw [e2]; omega
   ·have e1:(if i < n then (1:Nat) else 0) = 0:=if_neg h
    have e2:(if i < n + 1 then (1:Nat) else 0) = 0:=if_neg (by omega)
    rw [e1] at ih; rw [e2]; omega
theorem zpk {listed:Array Bool}:∀ n,cntI listed n = 0 -> ∀ i,i < n -> listed.getD i true = true:=by
 intro n
 induction n with
 | zero => intro _ i hi; omega
 | succ n ih =>
  intro h i hi
  simp only [cntI] at h
  by_cases e:i = n
  ·subst e
   cases hg:listed.getD i true with
   | true => rfl
   | false => rw [hg] at h; simp at h
  ·exact ih (by omega) i (by omega)
theorem zpl (n m:Nat):cntI (Array.replicate m false) n <= n:=by
 induction n with
 | zero => exact zn
 | succ n ih => simp only [cntI]; split <;> omega
theorem zm2 (hf:zfe ops = true) {I:(Nat -> Bool) -> Act -> World -> Prop} (hst:zgm P ops Q I 0 ops.toList) (hfin:∀ f a w,(∀ i,i < ops.size -> f i = true) -> I f a w -> Q .normal a w) :
  ∀ (fuel:Nat) (listed:Array Bool) (a:Act) (w:World),listed.size = ops.size -> cntI listed ops.size <= fuel -> I (fun j => listed.getD j false) a w -> wpAny P .any ops Q fuel listed a w:=by
 intro fuel
 induction fuel with
 | zero =>
  intro listed a w hs hc hI
  have hall:=zpk (listed:=listed) ops.size (by omega)
  refine ⟨?_,hfin _ a w (fun i hi => ?_) hI⟩
  ·cases hr:Region.ready .any ops listed with
   | nil => rfl
   | cons x xs =>
    have hx:x ∈ Region.ready .any ops listed:=by rw [hr]; exact List.mem_cons_self
    obtain ⟨h1,o,ho,_⟩:=mem_ready.1 hx
    rw [hall x (Array.getElem?_eq_some_iff.1 ho).1] at h1
    cases h1
  ·have:=hall i hi
   rw [zh8 (by omega)] at this ⊢
   exact this
 | succ fuel ih =>
  intro listed a w hs hc hI
  refine ⟨fun hr => hfin _ a w (fun i hi => ?_) hI,fun i hi => ?_⟩
  ·cases h:listed.getD i true with
   | true => rw [zh8 (by omega)] at h ⊢; exact h
   | false => exact absurd hr (zqe hf hs i hi h)
  ·obtain ⟨h1,o,ho,hdep⟩:=mem_ready.1 hi
   have hlt:=(Array.getElem?_eq_some_iff.1 ho).1
   have hstep:=hst.at (i:=i) (o:=o) (by rw [Array.getElem?_toList]; exact ho)
   rw [Nat.zero_add] at hstep
   refine wpOp_step ho fun K' hK => hstep _ a w (by rw [zh8 (by omega)] at h1 ⊢; exact h1) hdep hI K' fun a' w' hI' => hK a' w' (ih _ a' w' (by simp [hs]) (by have:=zrc h1 ops.size; rw [if_pos hlt] at this; omega) ?_)
   have he:(fun j => (listed.setIfInBounds i true).getD j false) = fun j => j == i || listed.getD j false:=by
    funext j
    by_cases e:i = j
    ·subst e; simp; omega
    ·rw [getD_set_ne false e]
     have:(j == i) = false:=by simp; omega
     rw [this]; rfl
   rw [he]; exact hI'
theorem zmc {id:Nat} {a:Act} {w:World} (hm:P.follows .mixedOrders = true) (hf:zfe ops = true) (I:(Nat -> Bool) -> Act -> World -> Prop) (h0:I (fun _ => false) a w.drew)
  (hst:zgm P ops Q I 0 ops.toList) (hfin:∀ f a w,(∀ i,i < ops.size -> f i = true) -> I f a w -> Q .normal a w):(Code.region id ops true).wp P Q a w:=by
 refine wp_region_any hm (zm2 hf hst hfin _ _ _ _ (by simp) (zpl _ _) ?_)
 have:(fun j => (Array.replicate ops.size false).getD j false) = fun _ => false:=by
  funext j
  by_cases h:j < ops.size <;> simp [h]
 rw [this]; exact h0
theorem zao {after:Array Edge} {f:Nat -> Bool} (hd:∀ e ∈ after,Region.binds .any e = true -> f e.on = true) (n:Nat) (h:(after.any fun e => Region.binds .any e && e.on == n) = true):f n = true:=by
 obtain ⟨e,he,hb⟩:=Array.any_eq_true'.1 h
 simp only [Bool.and_eq_true,beq_iff_eq] at hb
 have:=hd e he hb.1
 rwa [hb.2] at this
def putS (a:Act):List Nat -> List Value -> Act
 | k :: ss,v :: vs => putS (a.put (some k) v) ss vs
 | _,_ => a
def StepJ (P:Program) (ops:Array Oper) (Q:Exit -> Act -> World -> Prop) (a:Act) (ss:List Nat) (J:(Nat -> Bool) -> List Value -> World -> Prop) (i:Nat) (o:Oper):Prop :=
 ∀ (f:Nat -> Bool) (vs:List Value) (w:World),vs.length = ss.length -> f i = false -> (∀ e ∈ o.after,Region.binds .any e = true -> f e.on = true) -> J f vs w ->
  ∀ K:Act -> World -> Prop,Shut (∀ (us:List Value) (W:World),us.length = ss.length -> J (fun j => j == i || f j) us W -> K (putS a ss us) W) -> if Region.wanted o (yielded ops (putS a ss vs).tmps) = true then Oper.wp P o (putS a ss vs) w K Q else K ((putS a ss vs).put o.dst undef) w
def zah (P:Program) (ops:Array Oper) (Q:Exit -> Act -> World -> Prop) (a:Act) (ss:List Nat) (J:(Nat -> Bool) -> List Value -> World -> Prop):Nat -> List Oper -> Prop
 | _,[] => True
 | i,o :: l => StepJ P ops Q a ss J i o /\ zah P ops Q a ss J (i + 1) l
theorem zah.cons {a:Act} {ss:List Nat} {J:(Nat -> Bool) -> List Value -> World -> Prop} {i:Nat} {o:Oper} {l:List Oper} (h1:StepJ P ops Q a ss J i o) (h2:zah P ops Q a ss J (i + 1) l):zah P ops Q a ss J i (o :: l):=⟨h1,h2⟩
theorem zah.nil {a:Act} {ss:List Nat} {J:(Nat -> Bool) -> List Value -> World -> Prop} {i:Nat}:zah P ops Q a ss J i []:=trivial
theorem zah.steps {a:Act} {ss:List Nat} {J:(Nat -> Bool) -> List Value -> World -> Prop}:∀ (l:List Oper) (k:Nat),zah P ops Q a ss J k l -> zgm P ops Q (fun f b W => ∃ vs,vs.length = ss.length /\ b = putS a ss vs /\ J f vs W) k l
 | [],_,_ => trivial
 | o :: l,k,⟨h1,h2⟩ => by
  refine ⟨?_,zah.steps l (k + 1) h2⟩
  rintro f b w hf hd ⟨vs,hl,rfl,hJ⟩ K hK
  exact h1 f vs w hl hf hd hJ K (fun us W h3 h4 => hK _ _ ⟨us,h3,rfl,h4⟩)
theorem zbk {id:Nat} {a:Act} {w:World} (hm:P.follows .mixedOrders = true) (hf:zfe ops = true) (ss:List Nat) (vs0:List Value) (hl:vs0.length = ss.length) (ha:a = putS a ss vs0) (J:(Nat -> Bool) -> List Value -> World -> Prop)
  (h0:J (fun _ => false) vs0 w.drew) (hst:zah P ops Q a ss J 0 ops.toList) (hfin:∀ f vs W,vs.length = ss.length -> (∀ i,i < ops.size -> f i = true) -> J f vs W -> Q .normal (putS a ss vs) W):(Code.region id ops true).wp P Q a w :=
 zmc hm hf (fun f b W => ∃ vs,vs.length = ss.length /\ b = putS a ss vs /\ J f vs W) ⟨vs0,hl,ha,h0⟩ (zah.steps _ _ hst) fun f b W hall ⟨vs,h1,h2,h3⟩ => h2 ▸ hfin f vs W h1 hall h3
end
end Go.Proofs.YthkfjnmnoanhlaaGreatDoor

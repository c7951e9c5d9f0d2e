/- Part 12 of the proof; it says: lemmas and contracts. No conditions but those that each theorem states. -/
import Derived.Deep.RegionHeld
import Derived.Test.YthdabkmkgkkmcaaGreatDoorPb01
import Derived.Test.YthdabkmkgkkmcaaGreatDoorPb04
set_option linter.unusedSimpArgs false
set_option linter.unusedVariables false
set_option linter.unusedSectionVars false
set_option maxRecDepth 100000
set_option maxHeartbeats 32000000
namespace Go.Proofs.YthdabkmkgkkmcaaGreatDoor
open Go.RowKit
section
variable {P:Program} {ops:Array Oper} {Q:Exit -> Act -> World -> Prop} {md:Region.Mode} {S:World -> Prop} {c:Nat}
def zck (md:Region.Mode) (ops:Array Oper) (l:Array Bool):Prop:=∀ j o,ops[j]? = some o -> l.getD j false = true -> ∀ e ∈ o.after,Region.binds md e = true -> l.getD e.on false = true
theorem zck.step {l:Array Bool} {j:Nat} (h:zck md ops l) (hj:j ∈ Region.ready md ops l):zck md ops (l.setIfInBounds j true):=by
 obtain ⟨_,oj,hoj,hall⟩:=mem_ready.1 hj
 intro k o hk hl e he hb
 by_cases hkj:k = j
 ·subst hkj
  rw [hoj] at hk
  cases hk
  exact getD_set_true (hall e he hb)
 ·rw [getD_set_ne false (Ne.symm hkj)] at hl
  exact getD_set_true (h k o hk hl e he hb)
theorem zck.start (n:Nat):zck md ops (Array.replicate n false):=by
 intro j o _ hl
 rcases Nat.lt_or_ge j n with h | h
 ·simp [h] at hl
 ·simp [Array.getElem?_eq_none,h] at hl
def zga (P:Program) (md:Region.Mode) (ops:Array Oper) (Q:Exit -> Act -> World -> Prop) (S:World -> Prop) (c:Nat):Nat -> Array Bool -> Act -> World -> Prop
 | 0,l,a,w => Region.ready md ops l = [] /\ Q .normal a w
 | fuel + 1,l,a,w => (Region.ready md ops l = [] -> Q .normal a w) /\
  ∀ i ∈ Region.ready md ops l,wpOp P ops Q i (fun a' w' => ((l.setIfInBounds i true).getD c false = false -> S w') /\ zga P md ops Q S c fuel (l.setIfInBounds i true) a' w') a w
theorem zhh:∀ (fuel:Nat) (l:Array Bool) (a:Act) (w:World),zga P md ops Q S c fuel l a w -> wpAny P md ops Q fuel l a w
 | 0,_,_,_,h => h
 | fuel + 1,_,_,_,h => ⟨h.1,fun i hi => wpOp_mono (fun a' w' h' => zhh fuel _ a' w' h'.2) (h.2 i hi)⟩
theorem zi6 {i:Nat} {oi:Oper} {v:Value} (hi:ops[i]? = some oi) (hsel:∀ (j:Nat) (o:Oper) cs b,ops[j]? = some o -> o.op ≠ .select cs b) (hQ:∀ p a w,Q (.panic p) (a.put oi.dst v) w -> Q (.panic p) a w)
  (hdep:∀ l:Array Bool,zck md ops l -> l.getD i true = false -> l.getD c false = false) (hic:i ≠ c) :
  ∀ (fuel:Nat) (l:Array Bool) (a:Act) (w:World),zck md ops l ->
   (∀ j oj,ops[j]? = some oj -> j ≠ i -> l.getD j true = false -> (∀ e ∈ oj.after,Region.binds md e = true -> e.on ≠ i) -> oi.apart ops oj = true) ->
   i ∈ Region.ready md ops l -> YieldsIf P ops S oi v a -> (l.getD c false = false -> S w) -> zga P md ops Q S c fuel (l.setIfInBounds i true) (a.put oi.dst v) w -> zga P md ops Q S c (fuel + 1) l a w:=by
 intro fuel
 induction fuel with
 | zero =>
  intro l a w hcl _ hr hy hS H
  refine ⟨fun h => (by rw [h] at hr; cases hr),fun j hj => ?_⟩
  by_cases hji:j = i
  ·subst hji
   have hs:=hS (hdep l hcl (mem_ready.1 hr).1)
   exact hy.wpOp hi hs ⟨fun _ => hs,H⟩
  ·have:=ready_mono hj hji
   rw [H.1] at this
   cases this
 | succ fuel ih =>
  intro l a w hcl hfree hr hy hS H
  have hs:=hS (hdep l hcl (mem_ready.1 hr).1)
  refine ⟨fun h => (by rw [h] at hr; cases hr),fun j hj => ?_⟩
  by_cases hji:j = i
  ·subst hji; exact hy.wpOp hi hs ⟨fun _ => hs,H⟩
  ·have h1:=H.2 j (ready_mono hj hji)
   obtain ⟨hjun,oj,hoj,hall⟩:=mem_ready.1 hj
   have hnot:∀ e ∈ oj.after,Region.binds md e = true -> e.on ≠ i:=fun e he hb heq => by
    have g1:=hall e he hb
    have g0:=(mem_ready.1 hr).1
    rw [heq] at g1
    rcases Nat.lt_or_ge i l.size with h' | h'
    ·simp [h'] at g0 g1; rw [g0] at g1; cases g1
    ·simp [Array.getElem?_eq_none h'] at g1
   have h2:=wpOp_putIf hoj (hfree j oj hoj hji hjun hnot) (fun cs b => hsel i oi cs b hi) (fun cs b => hsel j oj cs b hoj) hQ hy h1
   have hfree':∀ k ok,ops[k]? = some ok -> k ≠ i -> (l.setIfInBounds j true).getD k true = false -> (∀ e ∈ ok.after,Region.binds md e = true -> e.on ≠ i) -> oi.apart ops ok = true:=fun k ok hk hki hun hno => by
    refine hfree k ok hk hki ?_ hno
    by_cases hjk:j = k
    ·subst hjk; exact hjun
    ·rw [getD_set_ne true hjk] at hun; exact hun
   have hcond:∀ w',(((l.setIfInBounds i true).setIfInBounds j true).getD c false = false -> S w') -> ((l.setIfInBounds j true).getD c false = false -> S w'):=fun w' h hc => by
    refine h ?_
    rw [Array.setIfInBounds_comm _ _ (Ne.symm hji),getD_set_ne false hic]
    exact hc
   refine wpOp_mono (fun a' w' h3 => ⟨hcond w' h3.2.1,ih (l.setIfInBounds j true) a' w' (hcl.step hj) hfree' (ready_mono hr (Ne.symm hji)) h3.1 (hcond w' h3.2.1) ?_⟩) h2
   rw [Array.setIfInBounds_comm _ _ hji]
   exact h3.2.2
def zjz (md:Region.Mode) (ops:Array Oper):Nat -> List Nat -> Bool
 | _,[] => true
 | j,i :: rest => ((ops[j]?).map fun o => o.after.any fun e => Region.binds md e && e.on == i).getD false && zjz md ops i rest
theorem zfy {l:Array Bool} (h:zck md ops l):∀ (path:List Nat) (j:Nat),zjz md ops j path = true -> l.getD j false = true -> ∀ i ∈ path,l.getD i false = true
 | [],_,_,_,i,hi => by cases hi
 | k :: rest,j,hc,hj,i,hi => by
  unfold zjz at hc
  rw [Bool.and_eq_true] at hc
  obtain ⟨h1,h2⟩:=hc
  cases ho:ops[j]? with
  | none => rw [ho] at h1; cases h1
  | some o =>
   rw [ho] at h1
   simp only [Option.map_some,Option.getD_some,Array.any_eq_true,Bool.and_eq_true,beq_iff_eq] at h1
   obtain ⟨x,hx,hb,he⟩:=h1
   have hk:l.getD k false = true:=by
    have:=h j o ho hj (o.after[x]) (Array.getElem_mem hx) hb
    rwa [he] at this
   rcases List.mem_cons.1 hi with rfl | hi
   ·exact hk
   ·exact zfy h rest k h2 hk i hi
theorem zju {i:Nat} (path:List Nat) (hp:zjz md ops c path = true) (hm:i ∈ path):∀ l:Array Bool,zck md ops l -> l.getD i true = false -> l.getD c false = false:=by
 intro l hl hi
 cases hc:l.getD c false with
 | false => rfl
 | true =>
  have h1:=zfy hl path c hp hc i hm
  rcases Nat.lt_or_ge i l.size with h | h
  ·simp [h] at hi h1; rw [hi] at h1; cases h1
  ·simp [Array.getElem?_eq_none h] at hi
structure RgA (P:Program) (md:Region.Mode) (ops:Array Oper) (Q:Exit -> Act -> World -> Prop) (S:World -> Prop) (c:Nat) (fuel:Nat) (l:Array Bool) (a:Act) (w:World):Prop where
 run:zck md ops l -> (l.getD c false = false -> S w) -> zga P md ops Q S c fuel l a w
theorem RgA.take {i:Nat} {oi:Oper} {v:Value} {fuel:Nat} {l:Array Bool} {a:Act} {w:World} (hi:ops[i]? = some oi) (hs:Region.noSelect ops = true) (hf:Region.free md ops l i = true) (hr:(Region.ready md ops l).contains i = true)
  (hQ:∀ p a w,Q (.panic p) (a.put oi.dst v) w -> Q (.panic p) a w) (path:List Nat) (hp:zjz md ops c path = true) (hm:path.contains i = true) (hic:(i == c) = false) (hy:YieldsIf P ops S oi v a)
  (h:RgA P md ops Q S c fuel (l.setIfInBounds i true) (a.put oi.dst v) w):RgA P md ops Q S c (fuel + 1) l a w:=by
 have hr':i ∈ Region.ready md ops l:=by simpa using hr
 have hm':i ∈ path:=by simpa using hm
 have hic':i ≠ c:=by simpa using hic
 refine ⟨fun hcl hS => ?_⟩
 have hdep:=zju path hp hm' (i:=i)
 refine zi6 hi (Region.noSelect_spec hs) hQ hdep hic' fuel l a w hcl (Region.free_spec hi hf) hr' hy hS (h.run (hcl.step hr') fun hc => hS ?_)
 rw [getD_set_ne false hic'] at hc
 exact hc
theorem zh8 {i:Nat} {oi:Oper} {v:Value} (hi:ops[i]? = some oi) (hsel:∀ (j:Nat) (o:Oper) cs b,ops[j]? = some o -> o.op ≠ .select cs b) (hQ:∀ p a w,Q (.panic p) (a.put oi.dst v) w -> Q (.panic p) a w) (hic:i ≠ c) :
  ∀ (fuel:Nat) (l:Array Bool) (a:Act) (w:World),
   (∀ j oj,ops[j]? = some oj -> j ≠ i -> l.getD j true = false -> (∀ e ∈ oj.after,Region.binds md e = true -> e.on ≠ i) -> oi.apart ops oj = true) ->
   i ∈ Region.ready md ops l -> YieldsIf P ops (fun _ => True) oi v a -> (l.getD c false = false -> S w) -> zga P md ops Q S c fuel (l.setIfInBounds i true) (a.put oi.dst v) w -> zga P md ops Q S c (fuel + 1) l a w:=by
 have hself:∀ (l:Array Bool) (w:World),(l.getD c false = false -> S w) -> ((l.setIfInBounds i true).getD c false = false -> S w):=fun l w h hc => h (by rw [getD_set_ne false hic] at hc; exact hc)
 intro fuel
 induction fuel with
 | zero =>
  intro l a w _ hr hy hS H
  refine ⟨fun h => (by rw [h] at hr; cases hr),fun j hj => ?_⟩
  by_cases hji:j = i
  ·subst hji
   exact hy.wpOp hi trivial ⟨hself l w hS,H⟩
  ·have:=ready_mono hj hji
   rw [H.1] at this
   cases this
 | succ fuel ih =>
  intro l a w hfree hr hy hS H
  refine ⟨fun h => (by rw [h] at hr; cases hr),fun j hj => ?_⟩
  by_cases hji:j = i
  ·subst hji; exact hy.wpOp hi trivial ⟨hself l w hS,H⟩
  ·have h1:=H.2 j (ready_mono hj hji)
   obtain ⟨hjun,oj,hoj,hall⟩:=mem_ready.1 hj
   have hnot:∀ e ∈ oj.after,Region.binds md e = true -> e.on ≠ i:=fun e he hb heq => by
    have g1:=hall e he hb
    have g0:=(mem_ready.1 hr).1
    rw [heq] at g1
    rcases Nat.lt_or_ge i l.size with h' | h'
    ·simp [h'] at g0 g1; rw [g0] at g1; cases g1
    ·simp [Array.getElem?_eq_none h'] at g1
   have h2:=wpOp_putIf hoj (hfree j oj hoj hji hjun hnot) (fun cs b => hsel i oi cs b hi) (fun cs b => hsel j oj cs b hoj) hQ hy h1
   have hfree':∀ k ok,ops[k]? = some ok -> k ≠ i -> (l.setIfInBounds j true).getD k true = false -> (∀ e ∈ ok.after,Region.binds md e = true -> e.on ≠ i) -> oi.apart ops ok = true:=fun k ok hk hki hun hno => by
    refine hfree k ok hk hki ?_ hno
    by_cases hjk:j = k
    ·subst hjk; exact hjun
    ·rw [getD_set_ne true hjk] at hun; exact hun
   have hcond:∀ w',(((l.setIfInBounds i true).setIfInBounds j true).getD c false = false -> S w') -> ((l.setIfInBounds j true).getD c false = false -> S w'):=fun w' h hc => by
    refine h ?_
    rw [Array.setIfInBounds_comm _ _ (Ne.symm hji),getD_set_ne false hic]
    exact hc
   refine wpOp_mono (fun a' w' h3 => ⟨hcond w' h3.2.1,ih (l.setIfInBounds j true) a' w' hfree' (ready_mono hr (Ne.symm hji)) h3.1 (hcond w' h3.2.1) ?_⟩) h2
   rw [Array.setIfInBounds_comm _ _ hji]
   exact h3.2.2
theorem RgA.take0 {i:Nat} {oi:Oper} {v:Value} {fuel:Nat} {l:Array Bool} {a:Act} {w:World} (hi:ops[i]? = some oi) (hs:Region.noSelect ops = true) (hf:Region.free md ops l i = true) (hr:(Region.ready md ops l).contains i = true)
  (hQ:∀ p a w,Q (.panic p) (a.put oi.dst v) w -> Q (.panic p) a w) (hic:(i == c) = false) (hy:YieldsIf P ops (fun _ => True) oi v a)
  (h:RgA P md ops Q S c fuel (l.setIfInBounds i true) (a.put oi.dst v) w):RgA P md ops Q S c (fuel + 1) l a w:=by
 have hr':i ∈ Region.ready md ops l:=by simpa using hr
 have hic':i ≠ c:=by simpa using hic
 refine ⟨fun hcl hS => ?_⟩
 refine zh8 hi (Region.noSelect_spec hs) hQ hic' fuel l a w (Region.free_spec hi hf) hr' hy hS (h.run (hcl.step hr') fun hc => hS ?_)
 rw [getD_set_ne false hic'] at hc
 exact hc
theorem RgA.one {i:Nat} {o:Oper} {fuel:Nat} {l:Array Bool} {a:Act} {w:World} (hr:Region.ready md ops l = [i]) (ho:ops[i]? = some o)
  (h:∀ K':Act -> World -> Prop,Shut (∀ a' w',((l.setIfInBounds i true).getD c false = false -> S w') -> RgA P md ops Q S c fuel (l.setIfInBounds i true) a' w' -> K' a' w') -> if Region.wanted o (yielded ops a.tmps) = true then Oper.wp P o a w K' Q else K' (a.put o.dst undef) w):RgA P md ops Q S c (fuel + 1) l a w:=by
 refine ⟨fun hcl hS => ⟨fun he => (by rw [hr] at he; cases he),fun j hj => ?_⟩⟩
 rw [hr] at hj
 have hji:j = i:=by simpa using hj
 subst hji
 exact wpOp_step ho (fun K' hK => h K' (fun a' w' hS' hA => hK a' w' ⟨hS',hA.run (hcl.step (by rw [hr]; simp)) hS'⟩))
theorem RgA.done {fuel:Nat} {l:Array Bool} {a:Act} {w:World} (hr:Region.ready md ops l = []) (h:Q .normal a w):RgA P md ops Q S c fuel l a w:=by
 refine ⟨fun _ _ => ?_⟩
 cases fuel with
 | zero => exact ⟨hr,h⟩
 | succ n => exact ⟨fun _ => h,fun i hi => by rw [hr] at hi; cases hi⟩
theorem RgA.start {id:Nat} {a:Act} {w:World} (hm:P.follows .mixedOrders = true) (hS:S w.drew) (h:RgA P .any ops Q S c ops.size (Array.replicate ops.size false) a w.drew):(Code.region id ops true).wp P Q a w :=
 wp_region_any hm (zhh _ _ _ _ (h.run (zck.start _) fun _ => hS))
end
end Go.Proofs.YthdabkmkgkkmcaaGreatDoor

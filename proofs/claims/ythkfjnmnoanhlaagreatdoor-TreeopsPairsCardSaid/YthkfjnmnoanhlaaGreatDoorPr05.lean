/- Part 5 of the proof; it says: lemmas and contracts. No conditions but those that each theorem states. -/
import Derived.Test.YthkfjnmnoanhlaaGreatDoorPr01
set_option linter.unusedSimpArgs false
set_option linter.unusedVariables false
set_option linter.unusedSectionVars false
set_option maxRecDepth 100000
set_option maxHeartbeats 32000000
namespace Go.Proofs.YthkfjnmnoanhlaaGreatDoor
section
variable {K:Type} [DecidableEq K] (f:K -> K -> Nat -> K)
def addS (o:List K) (s:K):List K:=if s ∈ o then o else o ++ [s]
def stepE (o:List K) (p:Nat × Nat × Nat):List K:=match o[p.1]?,o[p.2.1]? with
 | some a,some b => addS o (f a b p.2.2)
 | _,_ => o
def runE (o:List K) (ps:List (Nat × Nat × Nat)):List K:=ps.foldl (stepE f) o
def loopE (tr:Nat -> List (Nat × Nat × Nat)):Nat -> List K -> Nat -> List K
 | 0,o,_ => o
 | m + 1,o,k => if k < o.length then loopE tr m (runE f o (tr k)) (k + 1) else o
theorem zbg (o:List K) (s:K):o <+: addS o s:=by
 unfold addS; split
 ·exact List.prefix_refl _
 ·exact List.prefix_append _ _
theorem zfh (o:List K) (s:K):s ∈ addS o s:=by
 unfold addS; split
 ·assumption
 ·simp
theorem zdv {o:List K} {s:K} (h:o.Nodup):(addS o s).Nodup:=by
 unfold addS; split
 ·exact h
 ·rename_i hs
  rw [List.nodup_append]
  exact ⟨h,by simp,by intro a ha b hb; simp at hb; subst hb; intro e; subst e; exact hs ha⟩
theorem zfj {o:List K} {s:K} {P:K -> Prop} (h:∀ a ∈ o,P a) (hs:P s):∀ a ∈ addS o s,P a:=by
 unfold addS; split
 ·exact h
 ·intro a ha
  rcases List.mem_append.1 ha with ha | ha
  ·exact h a ha
  ·simp at ha; subst ha; exact hs
theorem zfr (o:List K) (p:Nat × Nat × Nat):o <+: stepE f o p:=by
 unfold stepE; split
 ·exact zbg _ _
 ·exact List.prefix_refl _
theorem zfc (ps:List (Nat × Nat × Nat)):∀ o:List K,o <+: runE f o ps:=by
 induction ps with
 | nil => intro o; exact List.prefix_refl _
 | cons p ps ih => intro o; exact (zfr f o p).trans (ih _)
theorem zi1 (tr:Nat -> List (Nat × Nat × Nat)):∀ (m:Nat) (o:List K) (k:Nat),o <+: loopE f tr m o k:=by
 intro m
 induction m with
 | zero => intro o k; exact List.prefix_refl _
 | succ m ih =>
  intro o k; unfold loopE; split
  ·exact (zfc f _ o).trans (ih _ _)
  ·exact List.prefix_refl _
theorem zar {o o':List K} (h:o <+: o') {i:Nat} {a:K} (hi:o[i]? = some a):o'[i]? = some a:=by
 obtain ⟨t,rfl⟩:=h
 rw [List.getElem?_append_left (List.getElem?_eq_some_iff.1 hi).1]; exact hi
theorem zes (ps:List (Nat × Nat × Nat)):∀ o:List K,o.Nodup -> (runE f o ps).Nodup:=by
 induction ps with
 | nil => intro o h; exact h
 | cons p ps ih =>
  intro o h; refine ih _ ?_
  unfold stepE; split
  ·exact zdv h
  ·exact h
theorem zf5 (tr:Nat -> List (Nat × Nat × Nat)):∀ (m:Nat) (o:List K) (k:Nat),o.Nodup -> (loopE f tr m o k).Nodup:=by
 intro m
 induction m with
 | zero => intro o k h; exact h
 | succ m ih =>
  intro o k h; unfold loopE; split
  ·exact ih _ _ (zes f _ _ h)
  ·exact h
theorem zhv {L:Nat} {P:K -> Prop} (hP:∀ a b x,P a -> P b -> x < L -> P (f a b x)) (ps:List (Nat × Nat × Nat)):∀ o:List K,(∀ p ∈ ps,p.2.2 < L) -> (∀ a ∈ o,P a) -> ∀ a ∈ runE f o ps,P a:=by
 induction ps with
 | nil => intro o _ h; exact h
 | cons p ps ih =>
  intro o hp h
  refine ih _ (fun q hq => hp q (List.mem_cons_of_mem _ hq)) ?_
  unfold stepE; split
  ·rename_i a b ha hb
   exact zfj h (hP _ _ _ (h _ (List.mem_of_getElem? ha)) (h _ (List.mem_of_getElem? hb)) (hp p List.mem_cons_self))
  ·exact h
theorem zqc (ps:List (Nat × Nat × Nat)):∀ (o:List K) (l r x:Nat) (a b:K),(l,r,x) ∈ ps -> o[l]? = some a -> o[r]? = some b -> f a b x ∈ runE f o ps:=by
 induction ps with
 | nil => intro o l r x a b h; simp at h
 | cons p ps ih =>
  intro o l r x a b h ha hb
  rcases List.mem_cons.1 h with h | h
  ·subst h
   refine (zfc f ps _).subset ?_
   unfold stepE
   simp only [ha,hb]
   exact zfh _ _
  ·exact ih _ l r x a b h (zar (zfr f o p) ha) (zar (zfr f o p) hb)
structure TrOK (L:Nat) (tr:Nat -> List (Nat × Nat × Nat)):Prop where
 mem:∀ l r x,x < L -> (l,r,x) ∈ tr (max l r)
 lt:∀ k,∀ p ∈ tr k,p.2.2 < L
theorem zf6 {L:Nat} {tr:Nat -> List (Nat × Nat × Nat)} (ht:TrOK L tr) {P:K -> Prop} (hP:∀ a b x,P a -> P b -> x < L -> P (f a b x)):∀ (m:Nat) (o:List K) (k:Nat),(∀ a ∈ o,P a) -> ∀ a ∈ loopE f tr m o k,P a:=by
 intro m
 induction m with
 | zero => intro o k h; exact h
 | succ m ih =>
  intro o k h; unfold loopE; split
  ·exact ih _ _ (zhv f hP _ o (ht.lt k) h)
  ·exact h
def zgn (L:Nat) (o:List K):Prop:=∀ a b x,a ∈ o -> b ∈ o -> x < L -> f a b x ∈ o
theorem ze8 {L N:Nat} {tr:Nat -> List (Nat × Nat × Nat)} (ht:TrOK L tr) {P:K -> Prop} (hP:∀ a b x,P a -> P b -> x < L -> P (f a b x)) (hN:∀ o:List K,o.Nodup -> (∀ a ∈ o,P a) -> o.length <= N):∀ (m:Nat) (o:List K) (k:Nat),N <= k + m -> o.Nodup -> (∀ a ∈ o,P a) ->
  (∀ l r x a b,l < k -> r < k -> x < L -> o[l]? = some a -> o[r]? = some b -> f a b x ∈ o) -> zgn f L (loopE f tr m o k):=by
 intro m
 have fin:∀ (o:List K) (k:Nat),o.length <= k -> (∀ l r x a b,l < k -> r < k -> x < L -> o[l]? = some a -> o[r]? = some b -> f a b x ∈ o) -> zgn f L o:=by
  intro o k hk h a b x ha hb hx
  obtain ⟨l,hl⟩:=List.mem_iff_getElem?.1 ha
  obtain ⟨r,hr⟩:=List.mem_iff_getElem?.1 hb
  have h1:=(List.getElem?_eq_some_iff.1 hl).1
  have h2:=(List.getElem?_eq_some_iff.1 hr).1
  exact h l r x a b (by omega) (by omega) hx hl hr
 induction m with
 | zero =>
  intro o k hk hd ha h
  have:=hN o hd ha
  exact fin o k (by omega) h
 | succ m ih =>
  intro o k hk hd ha h; unfold loopE; split
  ·rename_i hlt
   refine ih _ (k + 1) (by omega) (zes f _ _ hd) (zhv f hP _ o (ht.lt k) ha) ?_
   intro l r x a b hl hr hx h1 h2
   have back:∀ i c,i <= k -> (runE f o (tr k))[i]? = some c -> o[i]? = some c:=by
    intro i c hi hc
    have h3:o[i]? = some o[i]:=List.getElem?_eq_getElem (by omega)
    have h4:=zar (zfc f (tr k) o) h3
    rw [hc] at h4; rw [h3]; exact h4.symm
   have h1:=back l a (by omega) h1
   have h2:=back r b (by omega) h2
   by_cases hm:max l r = k
   ·exact zqc f _ o l r x a b (hm ▸ ht.mem l r x hx) h1 h2
   ·exact (zfc f _ o).subset (h l r x a b (by omega) (by omega) hx h1 h2)
  ·rename_i hge
   exact fin o k (by omega) h
theorem zmg {L N:Nat} {tr:Nat -> List (Nat × Nat × Nat)} (ht:TrOK L tr) {P:K -> Prop} (hP:∀ a b x,P a -> P b -> x < L -> P (f a b x)) (hN:∀ o:List K,o.Nodup -> (∀ a ∈ o,P a) -> o.length <= N):∀ (m m':Nat) (o:List K) (k:Nat),N <= k + m -> N <= k + m' -> o.Nodup -> (∀ a ∈ o,P a) ->
  loopE f tr m o k = loopE f tr m' o k:=by
 intro m
 induction m with
 | zero =>
  intro m' o k hk hk' hd ha
  have:=hN o hd ha
  cases m' with
  | zero => rfl
  | succ m' => unfold loopE; rw [if_neg (by omega)]
 | succ m ih =>
  intro m' o k hk hk' hd ha
  have:=hN o hd ha
  cases m' with
  | zero => unfold loopE; rw [if_neg (by omega)]
  | succ m' =>
   unfold loopE
   split
   ·exact ih _ _ _ (by omega) (by omega) (zes f _ _ hd) (zhv f hP _ o (ht.lt k) ha)
   ·rfl
end
structure RelL {K M:Type} (R:K -> M -> Prop) (o:List K) (p:List M):Prop where
 len:o.length = p.length
 at_:∀ (i:Nat) (a:K) (b:M),o[i]? = some a -> p[i]? = some b -> R a b
structure BiU {K M:Type} (R:K -> M -> Prop):Prop where
 to:∀ a b b',R a b -> R a b' -> b = b'
 of:∀ a a' b,R a b -> R a' b -> a = a'
section
variable {K M:Type} [DecidableEq K] [DecidableEq M] {R:K -> M -> Prop}
theorem RelL.mem {o:List K} {p:List M} (h:RelL R o p) (hu:BiU R) {a:K} {b:M} (hab:R a b):a ∈ o ↔ b ∈ p:=by
 constructor
 ·intro ha
  obtain ⟨i,hi⟩:=List.mem_iff_getElem?.1 ha
  have hl:=(List.getElem?_eq_some_iff.1 hi).1
  have hl':i < p.length:=by have:=h.len; omega
  have hp:p[i]? = some p[i]:=List.getElem?_eq_getElem hl'
  have:=hu.to _ _ _ (h.at_ i a _ hi hp) hab
  rw [<- this]; exact List.mem_of_getElem? hp
 ·intro hb
  obtain ⟨i,hi⟩:=List.mem_iff_getElem?.1 hb
  have hl:=(List.getElem?_eq_some_iff.1 hi).1
  have hl':i < o.length:=by have:=h.len; omega
  have ho:o[i]? = some o[i]:=List.getElem?_eq_getElem hl'
  have:=hu.of _ _ _ (h.at_ i _ b ho hi) hab
  rw [<- this]; exact List.mem_of_getElem? ho
theorem RelL.add {o:List K} {p:List M} (h:RelL R o p) (hu:BiU R) {a:K} {b:M} (hab:R a b):RelL R (addS o a) (addS p b):=by
 unfold addS
 have hm:=h.mem hu hab
 by_cases ha:a ∈ o
 ·rw [if_pos ha,if_pos (hm.1 ha)]; exact h
 ·rw [if_neg ha,if_neg (fun hb => ha (hm.2 hb))]
  refine ⟨by simp [h.len],?_⟩
  intro i c d hc hd
  rw [List.getElem?_append] at hc hd
  rw [h.len] at hc
  split at hc
  ·rename_i hi
   rw [if_pos hi] at hd
   exact h.at_ i c d hc hd
  ·rename_i hi
   rw [if_neg hi] at hd
   by_cases hz:i - p.length = 0
   ·rw [hz] at hc hd; simp at hc hd; subst hc; subst hd; exact hab
   ·rw [List.getElem?_eq_none (by simp; omega)] at hc; cases hc
variable {f:K -> K -> Nat -> K} {g:M -> M -> Nat -> M}
theorem RelL.run {L:Nat} (hu:BiU R) (hs:∀ a a' b b' x,R a b -> R a' b' -> x < L -> R (f a a' x) (g b b' x)) (ps:List (Nat × Nat × Nat)):∀ (o:List K) (p:List M),(∀ q ∈ ps,q.2.2 < L) -> RelL R o p -> RelL R (runE f o ps) (runE g p ps):=by
 induction ps with
 | nil => intro o p _ h; exact h
 | cons q ps ih =>
  intro o p hq h
  refine ih _ _ (fun q' h' => hq q' (List.mem_cons_of_mem _ h')) ?_
  unfold stepE
  have gl:∀ i:Nat,(∃ a b,o[i]? = some a /\ p[i]? = some b /\ R a b) \/ (o[i]? = none /\ p[i]? = none):=by
   intro i
   by_cases hi:i < o.length
   ·have h1:o[i]? = some o[i]:=List.getElem?_eq_getElem hi
    have h2:p[i]? = some (p[i]'(by rw [<- h.len]; exact hi)):=List.getElem?_eq_getElem (by rw [<- h.len]; exact hi)
    exact .inl ⟨_,_,h1,h2,h.at_ i _ _ h1 h2⟩
   ·exact .inr ⟨List.getElem?_eq_none (by omega),List.getElem?_eq_none (by rw [<- h.len]; omega)⟩
  rcases gl q.1 with ⟨a,b,h1,h2,h3⟩ | ⟨h1,h2⟩
  ·rcases gl q.2.1 with ⟨a',b',h4,h5,h6⟩ | ⟨h4,h5⟩
   ·simp only [h1,h2,h4,h5]
    exact h.add hu (hs _ _ _ _ _ h3 h6 (hq q List.mem_cons_self))
   ·simp only [h1,h2,h4,h5]; exact h
  ·simp only [h1,h2]; exact h
theorem RelL.loop {L:Nat} {tr:Nat -> List (Nat × Nat × Nat)} (ht:TrOK L tr) (hu:BiU R) (hs:∀ a a' b b' x,R a b -> R a' b' -> x < L -> R (f a a' x) (g b b' x)):∀ (m:Nat) (o:List K) (p:List M) (k:Nat),RelL R o p -> RelL R (loopE f tr m o k) (loopE g tr m p k):=by
 intro m
 induction m with
 | zero => intro o p k h; exact h
 | succ m ih =>
  intro o p k h
  unfold loopE
  by_cases hk:k < o.length
  ·rw [if_pos hk,if_pos (by rw [<- h.len]; exact hk)]
   exact ih _ _ _ (RelL.run hu hs _ _ _ (ht.lt k) h)
  ·rw [if_neg hk,if_neg (by rw [<- h.len]; exact hk)]; exact h
end
end Go.Proofs.YthkfjnmnoanhlaaGreatDoor
namespace Go.Proofs.YthkfjnmnoanhlaaGreatDoor
structure Dta where
 n:Nat
 e:Nat
 L:Nat
 nx:Nat -> Nat -> Nat -> Nat
 fin:Nat -> Bool
structure Dta.OK (d:Dta):Prop where
 he:d.e < d.n
 hn:∀ l r x,l < d.n -> r < d.n -> x < d.L -> d.nx l r x < d.n
def Bt.lb (L:Nat):Bt -> Prop
 | .nil => True
 | .node a l r => (0 <= a /\ a.toNat < L) /\ l.lb L /\ r.lb L
def Dta.run (d:Dta):Bt -> Nat
 | .nil => d.e
 | .node a l r => d.nx (d.run l) (d.run r) a.toNat
theorem Dta.OK.run {d:Dta} (h:d.OK):∀ t:Bt,t.lb d.L -> d.run t < d.n
 | .nil,_ => h.he
 | .node a l r,ht => h.hn _ _ _ (h.run l ht.2.1) (h.run r ht.2.2) ht.1.2
def Dta.Acc (d:Dta) (s:Nat):Prop:=∃ t:Bt,t.lb d.L /\ d.run t = s
theorem Dta.Acc.step {d:Dta} {a b x:Nat} (ha:d.Acc a) (hb:d.Acc b) (hx:x < d.L):d.Acc (d.nx a b x):=by
 obtain ⟨t,h1,rfl⟩:=ha
 obtain ⟨u,h2,rfl⟩:=hb
 exact ⟨.node x t u,⟨⟨by omega,by simpa using hx⟩,h1,h2⟩,by simp [Dta.run]⟩
def trE (L k:Nat):List (Nat × Nat × Nat):=(List.range (k + 1)).flatMap fun j => [(j,k),(k,j)].flatMap fun p => (List.range L).map fun x => (p.1,p.2,x)
theorem ze6 (L:Nat):TrOK L (trE L):=by
 constructor
 ·intro l r x hx
  unfold trE
  rw [List.mem_flatMap]
  refine ⟨min l r,by simp; omega,?_⟩
  rw [List.mem_flatMap]
  refine ⟨(l,r),?_,by simp [hx]⟩
  by_cases h:l <= r
  ·rw [Nat.min_eq_left h,Nat.max_eq_right h]; simp
  ·rw [Nat.min_eq_right (by omega),Nat.max_eq_left (by omega)]; simp
 ·intro k p hp
  unfold trE at hp
  obtain ⟨j,_,hp⟩:=List.mem_flatMap.1 hp
  obtain ⟨q,_,hp⟩:=List.mem_flatMap.1 hp
  obtain ⟨x,hx,rfl⟩:=List.mem_map.1 hp
  exact List.mem_range.1 hx
def Dta.order (d:Dta):List Nat:=loopE d.nx (trE d.L) d.n [d.e] 0
theorem zbl {n:Nat} {o:List Nat} (h:o.Nodup) (hl:∀ a ∈ o,a < n):o.length <= n:=by
 have:=h.length_le_of_subset (l₂:=List.range n) (fun a ha => List.mem_range.2 (hl a ha))
 simpa using this
theorem Dta.order_nodup (d:Dta):d.order.Nodup:=zf5 _ _ _ _ _ (by simp)
theorem Dta.order_acc (d:Dta):∀ s ∈ d.order,d.Acc s :=
 zf6 d.nx (ze6 d.L) (P:=d.Acc) (fun a b x ha hb hx => ha.step hb hx) _ _ _ (by intro a ha; simp at ha; subst ha; exact ⟨.nil,trivial,rfl⟩)
theorem Dta.Acc.lt {d:Dta} (h:d.OK) {s:Nat} (hs:d.Acc s):s < d.n:=by
 obtain ⟨t,h1,rfl⟩:=hs; exact h.run t h1
theorem Dta.order_len {d:Dta} (h:d.OK):d.order.length <= d.n:=zbl d.order_nodup (fun a ha => (d.order_acc a ha).lt h)
theorem Dta.order_zero (d:Dta):d.order[0]? = some d.e:=zar (zi1 d.nx (trE d.L) d.n [d.e] 0) rfl
theorem Dta.order_pos (d:Dta):0 < d.order.length:=(List.getElem?_eq_some_iff.1 d.order_zero).1
theorem Dta.order_closed {d:Dta} (h:d.OK):zgn d.nx d.L d.order :=
 ze8 d.nx (ze6 d.L) (P:=fun s => s < d.n) (N:=d.n) (fun a b x ha hb hx => h.hn a b x ha hb hx) (fun o h1 h2 => zbl h1 h2) _ _ _ (by omega) (by simp) (by intro a ha; simp at ha; subst ha; exact h.he)
  (fun l r x a b hl => absurd hl (by omega))
theorem Dta.order_mem {d:Dta} (h:d.OK):∀ t:Bt,t.lb d.L -> d.run t ∈ d.order
 | .nil,_ => List.mem_of_getElem? d.order_zero
 | .node a l r,ht => d.order_closed h _ _ _ (d.order_mem h l ht.2.1) (d.order_mem h r ht.2.2) ht.1.2
theorem Dta.order_iff {d:Dta} (h:d.OK) (s:Nat):s ∈ d.order ↔ d.Acc s:=⟨d.order_acc s,fun ⟨t,h1,h2⟩ => h2 ▸ d.order_mem h t h1⟩
def Dta.renum (d:Dta):Dta:=⟨d.order.length,0,d.L,fun l r x => d.order.idxOf (d.nx (d.order.getD l 0) (d.order.getD r 0) x),fun s => d.fin (d.order.getD s 0)⟩
theorem Dta.renum_at (d:Dta) {i:Nat} (h:i < d.order.length):d.order[i]? = some (d.order.getD i 0):=by
 rw [List.getD_eq_getElem?_getD,List.getElem?_eq_getElem h]; rfl
theorem zj2 {o:List Nat} {s:Nat} (h:s ∈ o):o[o.idxOf s]? = some s:=by
 rw [List.getElem?_eq_getElem (List.idxOf_lt_length_of_mem h),List.getElem_idxOf]
theorem zh7 {o:List Nat} (hd:o.Nodup) {i j s:Nat} (hi:o[i]? = some s) (hj:o[j]? = some s):i = j:=by
 have h1:=(List.getElem?_eq_some_iff.1 hi).1
 exact (List.getElem?_inj h1 hd).1 (hi.trans hj.symm)
theorem Dta.renum_step {d:Dta} (h:d.OK) {l r x a b:Nat} (hl:d.order[l]? = some a) (hr:d.order[r]? = some b) (hx:x < d.L):d.order[d.renum.nx l r x]? = some (d.nx a b x):=by
 have e1:d.order.getD l 0 = a:=by rw [List.getD_eq_getElem?_getD,hl]; rfl
 have e2:d.order.getD r 0 = b:=by rw [List.getD_eq_getElem?_getD,hr]; rfl
 show d.order[d.order.idxOf (d.nx (d.order.getD l 0) (d.order.getD r 0) x)]? = _
 rw [e1,e2]
 exact zj2 (d.order_closed h _ _ _ (List.mem_of_getElem? hl) (List.mem_of_getElem? hr) hx)
theorem Dta.renum_ok {d:Dta} (h:d.OK):d.renum.OK:=by
 refine ⟨d.order_pos,?_⟩
 intro l r x hl hr hx
 exact (List.getElem?_eq_some_iff.1 (d.renum_step h (d.renum_at hl) (d.renum_at hr) hx)).1
theorem Dta.renum_run {d:Dta} (h:d.OK):∀ t:Bt,t.lb d.L -> d.order[d.renum.run t]? = some (d.run t)
 | .nil,_ => d.order_zero
 | .node a l r,ht => d.renum_step h (d.renum_run h l ht.2.1) (d.renum_run h r ht.2.2) ht.1.2
theorem Dta.renum_acc {d:Dta} (h:d.OK):∀ s,s < d.renum.n -> d.renum.Acc s:=by
 intro s hs
 obtain ⟨t,h1,h2⟩:=d.order_acc _ (List.mem_of_getElem? (d.renum_at hs))
 have h3:=d.renum_run h t h1
 rw [h2] at h3
 exact ⟨t,h1,zh7 d.order_nodup h3 (d.renum_at hs)⟩
theorem Dta.renum_fin {d:Dta} {i s:Nat} (h:d.order[i]? = some s):d.renum.fin i = d.fin s:=by
 show d.fin (d.order.getD i 0) = _
 rw [List.getD_eq_getElem?_getD,h]; rfl
theorem Dta.order_fuel {d:Dta} (h:d.OK) {m:Nat} (hm:d.n <= m):loopE d.nx (trE d.L) m [d.e] 0 = d.order :=
 zmg d.nx (ze6 d.L) (P:=fun s => s < d.n) (N:=d.n) (fun a b x ha hb hx => h.hn a b x ha hb hx) (fun o h1 h2 => zbl h1 h2) _ _ _ _ (by omega) (by omega) (by simp) (by intro a ha; simp at ha; subst ha; exact h.he)
theorem Dta.renum_rel {d:Dta} (h:d.OK):RelL (fun i s => d.order[i]? = some s) d.renum.order d.order:=by
 have key:=RelL.loop (R:=fun i s => d.order[i]? = some s) (f:=d.renum.nx) (g:=d.nx) (ze6 d.L)
  ⟨fun a b b' h1 h2 => by rw [h1] at h2; exact Option.some.inj h2,fun a a' b h1 h2 => zh7 d.order_nodup h1 h2⟩
  (fun a a' b b' x h1 h2 hx => d.renum_step h h1 h2 hx) d.n [0] [d.e] 0
  ⟨rfl,by
   intro i a b h1 h2
   cases i with
   | zero => simp at h1 h2; subst h1; subst h2; exact d.order_zero
   | succ i => simp at h1⟩
 have e:loopE d.renum.nx (trE d.L) d.n [0] 0 = d.renum.order:=(d.renum).order_fuel (d.renum_ok h) (d.order_len h)
 rw [e] at key
 exact key
theorem Dta.renum_order {d:Dta} (h:d.OK):d.renum.order = List.range d.renum.n:=by
 have key:=d.renum_rel h
 apply List.ext_getElem?
 intro i
 by_cases hi:i < d.order.length
 ·have h1:d.renum.order[i]? = some (d.renum.order[i]'(by rw [key.len]; exact hi)):=List.getElem?_eq_getElem _
  have h2:=key.at_ i _ _ h1 (d.renum_at hi)
  have h3:=zh7 d.order_nodup h2 (d.renum_at hi)
  rw [h1,h3,List.getElem?_eq_getElem (by simpa [Dta.renum] using hi)]
  simp
 ·rw [List.getElem?_eq_none (by rw [key.len]; omega),List.getElem?_eq_none (by simp [Dta.renum]; omega)]
structure Dta.Stable (d:Dta) (R:Nat -> Nat -> Prop):Prop where
 lt:∀ s t,R s t -> s < d.n /\ t < d.n
 fin:∀ s t,R s t -> d.fin s = d.fin t
 l:∀ s t q x,R s t -> q < d.n -> x < d.L -> R (d.nx s q x) (d.nx t q x)
 r:∀ s t q x,R s t -> q < d.n -> x < d.L -> R (d.nx q s x) (d.nx q t x)
def Dta.Reduced (d:Dta):Prop:=∀ R,d.Stable R -> ∀ s t,R s t -> s = t
structure Dta.Canon (d:Dta):Prop where
 ok:d.OK
 ord:d.order = List.range d.n
 red:d.Reduced
structure Dta.Same (a b:Dta):Prop where
 n:a.n = b.n
 e:a.e = b.e
 L:a.L = b.L
 nx:∀ l r x,l < a.n -> r < a.n -> x < a.L -> a.nx l r x = b.nx l r x
 fin:∀ s,s < a.n -> a.fin s = b.fin s
def Dta.Lang (a b:Dta):Prop:=∀ t:Bt,t.lb a.L -> a.fin (a.run t) = b.fin (b.run t)
theorem Dta.Canon.acc {d:Dta} (h:d.Canon) {s:Nat} (hs:s < d.n):d.Acc s:=d.order_acc s (by rw [h.ord]; exact List.mem_range.2 hs)
theorem Dta.Reduced.of_lang {a b:Dta} (hb:b.OK) (hred:b.Reduced) (hacc:∀ s,s < b.n -> b.Acc s) (hL:a.L = b.L) (h:a.Lang b) {t u:Bt} (ht:t.lb a.L) (hu:u.lb a.L) (e:a.run t = a.run u):b.run t = b.run u:=by
 refine hred (fun p q => ∃ t u:Bt,t.lb a.L /\ u.lb a.L /\ a.run t = a.run u /\ b.run t = p /\ b.run u = q) ?_ _ _ ⟨t,u,ht,hu,e,rfl,rfl⟩
 constructor
 ·rintro _ _ ⟨t,u,ht,hu,_,rfl,rfl⟩
  exact ⟨hb.run t (hL ▸ ht),hb.run u (hL ▸ hu)⟩
 ·rintro _ _ ⟨t,u,ht,hu,e,rfl,rfl⟩
  rw [<- h t ht,<- h u hu,e]
 ·rintro _ _ q x ⟨t,u,ht,hu,e,rfl,rfl⟩ hq hx
  obtain ⟨v,hv,rfl⟩:=hacc q hq
  have hx':x < a.L:=hL ▸ hx
  exact ⟨.node x t v,.node x u v,⟨⟨by omega,by simpa using hx'⟩,ht,hL ▸ hv⟩,⟨⟨by omega,by simpa using hx'⟩,hu,hL ▸ hv⟩,by simp [Dta.run,e],by simp [Dta.run],by simp [Dta.run]⟩
 ·rintro _ _ q x ⟨t,u,ht,hu,e,rfl,rfl⟩ hq hx
  obtain ⟨v,hv,rfl⟩:=hacc q hq
  have hx':x < a.L:=hL ▸ hx
  exact ⟨.node x v t,.node x v u,⟨⟨by omega,by simpa using hx'⟩,hL ▸ hv,ht⟩,⟨⟨by omega,by simpa using hx'⟩,hL ▸ hv,hu⟩,by simp [Dta.run,e],by simp [Dta.run],by simp [Dta.run]⟩
theorem Dta.canon_same {a b:Dta} (ha:a.Canon) (hb:b.Canon) (hL:a.L = b.L) (h:a.Lang b):a.Same b:=by
 have h':b.Lang a:=fun t ht => (h t (hL ▸ ht)).symm
 let R:Nat -> Nat -> Prop:=fun p q => ∃ t:Bt,t.lb a.L /\ a.run t = p /\ b.run t = q
 have hu:BiU R:=by
  constructor
  ·rintro p q q' ⟨t,ht,rfl,rfl⟩ ⟨u,hu,e,rfl⟩
   exact Dta.Reduced.of_lang hb.ok hb.red (fun s hs => hb.acc hs) hL h ht hu e.symm
  ·rintro p p' q ⟨t,ht,rfl,rfl⟩ ⟨u,hu,rfl,e⟩
   exact Dta.Reduced.of_lang ha.ok ha.red (fun s hs => ha.acc hs) hL.symm h' (hL ▸ ht) (hL ▸ hu) e.symm
 have hs:∀ p p' q q' x,R p q -> R p' q' -> x < a.L -> R (a.nx p p' x) (b.nx q q' x):=by
  rintro _ _ _ _ x ⟨t,ht,rfl,rfl⟩ ⟨u,hu,rfl,rfl⟩ hx
  exact ⟨.node x t u,⟨⟨by omega,by simpa using hx⟩,ht,hu⟩,by simp [Dta.run],by simp [Dta.run]⟩
 have key:=RelL.loop (R:=R) (f:=a.nx) (g:=b.nx) (ze6 a.L) hu hs (max a.n b.n) [a.e] [b.e] 0
  ⟨rfl,by
   intro i p q h1 h2
   cases i with
   | zero => simp at h1 h2; subst h1; subst h2; exact ⟨.nil,trivial,rfl,rfl⟩
   | succ i => simp at h1⟩
 rw [a.order_fuel ha.ok (by omega),show trE a.L = trE b.L by rw [hL],b.order_fuel hb.ok (by omega),ha.ord,hb.ord] at key
 have hn:a.n = b.n:=by simpa using key.len
 have dg:∀ i,i < a.n -> R i i:=fun i hi => key.at_ i i i (by simp [hi]) (by simp [<- hn,hi])
 refine ⟨hn,hu.of _ _ b.e ⟨.nil,trivial,rfl,rfl⟩ (dg _ (hn ▸ hb.ok.he)),hL,?_,?_⟩
 ·intro l r x hl hr hx
  have h1:=hs _ _ _ _ x (dg l hl) (dg r hr) hx
  exact hu.to _ _ _ (dg _ (ha.ok.hn l r x hl hr hx)) h1 |>.symm ▸ rfl
 ·intro s hs
  obtain ⟨t,ht,h1,h2⟩:=dg s hs
  have:=h t ht
  rw [h1,h2] at this
  exact this
theorem Dta.renum_canon {d:Dta} (h:d.OK) (hacc:∀ s,s < d.n -> d.Acc s) (hred:d.Reduced):d.renum.Canon:=by
 refine ⟨d.renum_ok h,d.renum_order h,?_⟩
 intro R hR i j hij
 obtain ⟨hi,hj⟩:=hR.lt i j hij
 have hi':=d.renum_at hi
 have hj':=d.renum_at hj
 have key:d.order.getD i 0 = d.order.getD j 0:=by
  refine hred (fun s t => ∃ i j,R i j /\ d.order[i]? = some s /\ d.order[j]? = some t) ?_ _ _ ⟨i,j,hij,hi',hj'⟩
  constructor
  ·rintro s t ⟨i,j,_,h1,h2⟩
   exact ⟨(d.order_acc _ (List.mem_of_getElem? h1)).lt h,(d.order_acc _ (List.mem_of_getElem? h2)).lt h⟩
  ·rintro s t ⟨i,j,h0,h1,h2⟩
   rw [<- d.renum_fin h1,<- d.renum_fin h2]; exact hR.fin _ _ h0
  ·rintro s t q x ⟨i,j,h0,h1,h2⟩ hq hx
   obtain ⟨k,hk⟩:=List.mem_iff_getElem?.1 ((d.order_iff h q).2 (hacc q hq))
   exact ⟨_,_,hR.l _ _ k x h0 (List.getElem?_eq_some_iff.1 hk).1 hx,d.renum_step h h1 hk hx,d.renum_step h h2 hk hx⟩
  ·rintro s t q x ⟨i,j,h0,h1,h2⟩ hq hx
   obtain ⟨k,hk⟩:=List.mem_iff_getElem?.1 ((d.order_iff h q).2 (hacc q hq))
   exact ⟨_,_,hR.r _ _ k x h0 (List.getElem?_eq_some_iff.1 hk).1 hx,d.renum_step h hk h1 hx,d.renum_step h hk h2 hx⟩
 rw [<- key] at hj'
 exact zh7 d.order_nodup hi' hj'
theorem Dta.renum_lang {d:Dta} (h:d.OK):d.Lang d.renum:=fun t ht => (d.renum_fin (d.renum_run h t ht)).symm
structure Dta.Quot (c m:Dta) (h:Nat -> Nat):Prop where
 L:m.L = c.L
 e:m.e = h c.e
 lt:∀ s,s < c.n -> h s < m.n
 on:∀ i,i < m.n -> ∃ s,s < c.n /\ h s = i
 nx:∀ l r x,l < c.n -> r < c.n -> x < c.L -> m.nx (h l) (h r) x = h (c.nx l r x)
 fin:∀ s,s < c.n -> m.fin (h s) = c.fin s
 most:∀ R,c.Stable R -> ∀ s t,R s t -> h s = h t
theorem Dta.Quot.ok {c m:Dta} {h:Nat -> Nat} (q:c.Quot m h) (hc:c.OK):m.OK:=by
 refine ⟨by rw [q.e]; exact q.lt _ hc.he,?_⟩
 intro l r x hl hr hx
 obtain ⟨s,hs,rfl⟩:=q.on l hl
 obtain ⟨t,ht,rfl⟩:=q.on r hr
 rw [q.nx s t x hs ht (q.L ▸ hx)]
 exact q.lt _ (hc.hn _ _ _ hs ht (q.L ▸ hx))
theorem Dta.Quot.run {c m:Dta} {h:Nat -> Nat} (q:c.Quot m h) (hc:c.OK):∀ t:Bt,t.lb c.L -> m.run t = h (c.run t)
 | .nil,_ => q.e
 | .node a l r,ht => by
  simp only [Dta.run]
  rw [q.run hc l ht.2.1,q.run hc r ht.2.2,q.nx _ _ _ (hc.run l ht.2.1) (hc.run r ht.2.2) ht.1.2]
theorem Dta.Quot.lang {c m:Dta} {h:Nat -> Nat} (q:c.Quot m h) (hc:c.OK):c.Lang m:=fun t ht => by
 rw [q.run hc t ht,q.fin _ (hc.run t ht)]
theorem Dta.Quot.acc {c m:Dta} {h:Nat -> Nat} (q:c.Quot m h) (hc:c.OK) (ha:∀ s,s < c.n -> c.Acc s):∀ i,i < m.n -> m.Acc i:=by
 intro i hi
 obtain ⟨s,hs,rfl⟩:=q.on i hi
 obtain ⟨t,ht,rfl⟩:=ha s hs
 exact ⟨t,q.L ▸ ht,q.run hc t ht⟩
theorem Dta.Quot.reduced {c m:Dta} {h:Nat -> Nat} (q:c.Quot m h) (hc:c.OK):m.Reduced:=by
 intro R hR i j hij
 obtain ⟨hi,hj⟩:=hR.lt i j hij
 obtain ⟨s,hs,rfl⟩:=q.on i hi
 obtain ⟨t,ht,rfl⟩:=q.on j hj
 refine q.most (fun s t => s < c.n /\ t < c.n /\ R (h s) (h t)) ?_ s t ⟨hs,ht,hij⟩
 constructor
 ·rintro s t ⟨h1,h2,_⟩; exact ⟨h1,h2⟩
 ·rintro s t ⟨h1,h2,h3⟩
  rw [<- q.fin s h1,<- q.fin t h2]; exact hR.fin _ _ h3
 ·rintro s t u x ⟨h1,h2,h3⟩ hu hx
  refine ⟨hc.hn _ _ _ h1 hu hx,hc.hn _ _ _ h2 hu hx,?_⟩
  rw [<- q.nx s u x h1 hu hx,<- q.nx t u x h2 hu hx]
  exact hR.l _ _ _ x h3 (q.lt u hu) (q.L ▸ hx)
 ·rintro s t u x ⟨h1,h2,h3⟩ hu hx
  refine ⟨hc.hn _ _ _ hu h1 hx,hc.hn _ _ _ hu h2 hx,?_⟩
  rw [<- q.nx u s x hu h1 hx,<- q.nx u t x hu h2 hx]
  exact hR.r _ _ _ x h3 (q.lt u hu) (q.L ▸ hx)
theorem Dta.min_canon {d m:Dta} {h:Nat -> Nat} (hd:d.OK) (q:d.renum.Quot m h):m.renum.Canon /\ m.renum.L = d.L /\ d.Lang m.renum:=by
 have hc:=d.renum_ok hd
 refine ⟨m.renum_canon (q.ok hc) (q.acc hc (d.renum_acc hd)) (q.reduced hc),q.L,?_⟩
 intro t ht
 rw [d.renum_lang hd t ht,q.lang hc t ht,m.renum_lang (q.ok hc) t (by rw [q.L]; exact ht)]
end Go.Proofs.YthkfjnmnoanhlaaGreatDoor
namespace Go.Proofs.YthkfjnmnoanhlaaGreatDoor
def Dta.quo (c:Dta) (many:Nat) (cl rep:Nat -> Nat):Dta:=⟨many,cl c.e,c.L,fun l r x => cl (c.nx (rep l) (rep r) x),fun s => c.fin (rep s)⟩
structure Dta.Cong (c:Dta) (many:Nat) (cl rep:Nat -> Nat):Prop where
 lt:∀ s,s < c.n -> cl s < many
 rep:∀ i,i < many -> rep i < c.n /\ cl (rep i) = i
 st:c.Stable (fun s t => s < c.n /\ t < c.n /\ cl s = cl t)
 most:∀ R,c.Stable R -> ∀ s t,R s t -> cl s = cl t
theorem Dta.Cong.quot {c:Dta} {many:Nat} {cl rep:Nat -> Nat} (hc:c.OK) (h:c.Cong many cl rep):c.Quot (c.quo many cl rep) cl:=by
 refine ⟨rfl,rfl,h.lt,fun i hi => ⟨rep i,h.rep i hi⟩,?_,?_,h.most⟩
 ·intro l r x hl hr hx
  have h1:=h.rep _ (h.lt l hl)
  have h2:=h.rep _ (h.lt r hr)
  show cl (c.nx (rep (cl l)) (rep (cl r)) x) = _
  have h3:=(h.st.l _ l _ x ⟨h1.1,hl,h1.2⟩ h2.1 hx).2.2
  have h4:=(h.st.r _ r l x ⟨h2.1,hr,h2.2⟩ hl hx).2.2
  rw [h3,h4]
 ·intro s hs
  have h1:=h.rep _ (h.lt s hs)
  exact h.st.fin _ _ ⟨h1.1,hs,h1.2⟩
def Dta.row (d:Dta) (cl:Nat -> Nat) (s:Nat):List Nat:=(if d.fin s then 1 else 0) :: cl s :: (List.range d.n).flatMap fun q => (List.range d.L).flatMap fun x => [cl (d.nx s q x),cl (d.nx q s x)]
theorem zj4 {α:Type} {n:Nat} {f g:Nat -> List α} (hl:∀ i,i < n -> (f i).length = (g i).length):(List.range n).flatMap f = (List.range n).flatMap g ↔ ∀ i,i < n -> f i = g i:=by
 induction n with
 | zero => simp
 | succ n ih =>
  rw [List.range_succ,List.flatMap_append,List.flatMap_append]
  have hlen:((List.range n).flatMap f).length = ((List.range n).flatMap g).length:=by
   rw [List.length_flatMap,List.length_flatMap]
   congr 1
   apply List.map_congr_left
   intro i hi
   exact hl i (by have:=List.mem_range.1 hi; omega)
  constructor
  ·intro h
   obtain ⟨h1,h2⟩:=List.append_inj h hlen
   intro i hi
   by_cases he:i = n
   ·subst he; simpa using h2
   ·exact (ih (fun j hj => hl j (by omega))).1 h1 i (by omega)
  ·intro h
   rw [(ih (fun j hj => hl j (by omega))).2 (fun i hi => h i (by omega))]
   simp [h n (by omega)]
theorem Dta.row_eq (d:Dta) (cl:Nat -> Nat) (s t:Nat):d.row cl s = d.row cl t ↔ d.fin s = d.fin t /\ cl s = cl t /\ ∀ q,q < d.n -> ∀ x,x < d.L -> cl (d.nx s q x) = cl (d.nx t q x) /\ cl (d.nx q s x) = cl (d.nx q t x):=by
 unfold Dta.row
 rw [List.cons.injEq,List.cons.injEq,zj4 (by intro i hi; simp [List.length_flatMap])]
 constructor
 ·rintro ⟨h1,h2,h3⟩
  refine ⟨?_,h2,?_⟩
  ·revert h1; cases d.fin s <;> cases d.fin t <;> simp
  ·intro q hq x hx
   have h4:=(zj4 (by intro i hi; rfl)).1 (h3 q hq) x hx
   simpa using h4
 ·rintro ⟨h1,h2,h3⟩
  refine ⟨by rw [h1],h2,?_⟩
  intro q hq
  refine (zj4 (by intro i hi; rfl)).2 ?_
  intro x hx
  have:=h3 q hq x hx
  simp [this.1,this.2]
def keysS {α:Type} [DecidableEq α] (rows:List α):List α:=rows.foldl addS []
theorem zdp {α:Type} [DecidableEq α] (rows:List α):∀ o:List α,o.Nodup -> (rows.foldl addS o).Nodup /\ o <+: rows.foldl addS o /\ (∀ a,a ∈ rows.foldl addS o ↔ a ∈ o \/ a ∈ rows) /\ (rows.foldl addS o).length <= o.length + rows.length:=by
 induction rows with
 | nil => intro o h; exact ⟨h,List.prefix_refl _,by simp,by simp⟩
 | cons r rows ih =>
  intro o h
  obtain ⟨h1,h2,h3,h4⟩:=ih (addS o r) (zdv h)
  have hlen:(addS o r).length <= o.length + 1:=by unfold addS; split <;> simp
  refine ⟨h1,(zbg o r).trans h2,?_,by simp only [List.foldl_cons,List.length_cons]; omega⟩
  intro a
  rw [List.foldl_cons,h3]
  have:a ∈ addS o r ↔ a ∈ o \/ a = r:=by
   unfold addS; split
   ·rename_i hr
    exact ⟨.inl,fun h => h.elim id (fun e => e ▸ hr)⟩
   ·simp
  rw [this,List.mem_cons,or_assoc]
theorem zg9 {α:Type} [DecidableEq α] (rows:List α):(keysS rows).Nodup:=(zdp rows [] (by simp)).1
theorem zh5 {α:Type} [DecidableEq α] (rows:List α) (a:α):a ∈ keysS rows ↔ a ∈ rows:=by unfold keysS; simpa using (zdp rows [] (by simp)).2.2.1 a
theorem zlh {α:Type} [DecidableEq α] (rows:List α):(keysS rows).length <= rows.length:=by unfold keysS; simpa using (zdp rows [] (by simp)).2.2.2
def Dta.rows (d:Dta) (cl:Nat -> Nat):List (List Nat):=(List.range d.n).map (d.row cl)
def Dta.next (d:Dta) (cl:Nat -> Nat) (s:Nat):Nat:=(keysS (d.rows cl)).idxOf (d.row cl s)
def Dta.count (d:Dta) (cl:Nat -> Nat):Nat:=(keysS (d.rows cl)).length
theorem Dta.row_mem (d:Dta) (cl:Nat -> Nat) {s:Nat} (h:s < d.n):d.row cl s ∈ keysS (d.rows cl):=(zh5 _ _).2 (List.mem_map.2 ⟨s,List.mem_range.2 h,rfl⟩)
theorem Dta.next_lt (d:Dta) (cl:Nat -> Nat) {s:Nat} (h:s < d.n):d.next cl s < d.count cl:=List.idxOf_lt_length_of_mem (d.row_mem cl h)
theorem Dta.next_eq (d:Dta) (cl:Nat -> Nat) {s t:Nat} (hs:s < d.n) (ht:t < d.n):d.next cl s = d.next cl t ↔ d.row cl s = d.row cl t:=by
 constructor
 ·intro h
  have h1:(keysS (d.rows cl))[d.next cl s]? = some (d.row cl s):=by
   unfold Dta.next
   rw [List.getElem?_eq_getElem (List.idxOf_lt_length_of_mem (d.row_mem cl hs)),List.getElem_idxOf]
  have h2:(keysS (d.rows cl))[d.next cl t]? = some (d.row cl t):=by
   unfold Dta.next
   rw [List.getElem?_eq_getElem (List.idxOf_lt_length_of_mem (d.row_mem cl ht)),List.getElem_idxOf]
  rw [h,h2] at h1
  exact (Option.some.inj h1).symm
 ·intro h; unfold Dta.next; rw [h]
theorem Dta.next_on (d:Dta) (cl:Nat -> Nat) {i:Nat} (h:i < d.count cl):∃ s,s < d.n /\ d.next cl s = i:=by
 have hm:(keysS (d.rows cl))[i]'h ∈ d.rows cl:=(zh5 _ _).1 (List.getElem_mem _)
 obtain ⟨s,hs,e⟩:=List.mem_map.1 hm
 refine ⟨s,List.mem_range.1 hs,?_⟩
 unfold Dta.next
 rw [e]
 exact (zg9 _).idxOf_getElem i h
theorem Dta.count_le (d:Dta) (cl:Nat -> Nat):d.count cl <= d.n:=by have:=zlh (d.rows cl); unfold Dta.count; simpa [Dta.rows] using this
theorem Dta.next_most {d:Dta} {cl:Nat -> Nat} (h:∀ R,d.Stable R -> ∀ s t,R s t -> cl s = cl t):∀ R,d.Stable R -> ∀ s t,R s t -> d.next cl s = d.next cl t:=by
 intro R hR s t hst
 obtain ⟨hs,ht⟩:=hR.lt s t hst
 refine (d.next_eq cl hs ht).2 ((d.row_eq cl s t).2 ⟨hR.fin _ _ hst,h R hR _ _ hst,?_⟩)
 intro q hq x hx
 exact ⟨h R hR _ _ (hR.l _ _ q x hst hq hx),h R hR _ _ (hR.r _ _ q x hst hq hx)⟩
theorem zpe {α:Type} [DecidableEq α] {f:α -> Nat} {l:List α} {m:Nat} (hl:l.length <= m) (hc:∀ i,i < m -> ∃ a ∈ l,f a = i) {a b:α} (ha:a ∈ l) (hb:b ∈ l) (hm:f a < m) (e:f a = f b):a = b:=by
 apply Classical.byContradiction
 intro hne
 have hsub:List.range m ⊆ (l.erase a).map f:=by
  intro i hi
  obtain ⟨c,hc1,hc2⟩:=hc i (List.mem_range.1 hi)
  by_cases hca:c = a
  ·subst hca
   exact List.mem_map.2 ⟨b,(List.mem_erase_of_ne (fun h => hne h.symm)).2 hb,by rw [<- e]; exact hc2⟩
  ·exact List.mem_map.2 ⟨c,(List.mem_erase_of_ne hca).2 hc1,hc2⟩
 have h1:=List.Nodup.length_le_of_subset List.nodup_range hsub
 have h2:=List.length_erase_of_mem ha
 have h3:=List.length_pos_of_mem ha
 simp at h1
 omega
theorem Dta.next_stable {d:Dta} (hd:d.OK) {cl:Nat -> Nat} {many:Nat} (hlt:∀ s,s < d.n -> cl s < many) (hon:∀ i,i < many -> ∃ s,s < d.n /\ cl s = i) (hcount:d.count cl = many):d.Stable (fun s t => s < d.n /\ t < d.n /\ d.next cl s = d.next cl t):=by
 have back:∀ s t,s < d.n -> t < d.n -> cl s = cl t -> d.next cl s = d.next cl t:=by
  intro s t hs ht e
  refine (d.next_eq cl hs ht).2 ?_
  refine zpe (f:=fun r => r.getD 1 0) (l:=keysS (d.rows cl)) (m:=many) (Nat.le_of_eq hcount) ?_ (d.row_mem cl hs) (d.row_mem cl ht) (hlt s hs) e
  intro i hi
  obtain ⟨s,hs,e⟩:=hon i hi
  exact ⟨_,d.row_mem cl hs,e⟩
 constructor
 ·rintro s t ⟨hs,ht,_⟩; exact ⟨hs,ht⟩
 ·rintro s t ⟨hs,ht,h⟩; exact ((d.row_eq cl s t).1 ((d.next_eq cl hs ht).1 h)).1
 ·rintro s t q x ⟨hs,ht,h⟩ hq hx
  have h1:=(((d.row_eq cl s t).1 ((d.next_eq cl hs ht).1 h)).2.2 q hq x hx).1
  exact ⟨hd.hn _ _ _ hs hq hx,hd.hn _ _ _ ht hq hx,back _ _ (hd.hn _ _ _ hs hq hx) (hd.hn _ _ _ ht hq hx) h1⟩
 ·rintro s t q x ⟨hs,ht,h⟩ hq hx
  have h1:=(((d.row_eq cl s t).1 ((d.next_eq cl hs ht).1 h)).2.2 q hq x hx).2
  exact ⟨hd.hn _ _ _ hq hs hx,hd.hn _ _ _ hq ht hx,back _ _ (hd.hn _ _ _ hq hs hx) (hd.hn _ _ _ hq ht hx) h1⟩
theorem Dta.count_ge {d:Dta} {cl:Nat -> Nat} {many:Nat} (hon:∀ i,i < many -> ∃ s,s < d.n /\ cl s = i):many <= d.count cl:=by
 have hsub:List.range many ⊆ (keysS (d.rows cl)).map (fun r => r.getD 1 0):=by
  intro i hi
  obtain ⟨s,hs,e⟩:=hon i (List.mem_range.1 hi)
  exact List.mem_map.2 ⟨_,d.row_mem cl hs,e⟩
 have h1:=List.Nodup.length_le_of_subset List.nodup_range hsub
 simpa [Dta.count] using h1
def Dta.clsS (d:Dta):Nat -> (Nat -> Nat) -> Nat -> (Nat -> Nat) × Nat
 | 0,cl,many => (cl,many)
 | m + 1,cl,many => if d.count cl = many then (d.next cl,many) else d.clsS m (d.next cl) (d.count cl)
theorem Dta.cls_ok {d:Dta} (hd:d.OK):∀ (m:Nat) (cl:Nat -> Nat) (many:Nat),d.n < many + m -> (∀ s,s < d.n -> cl s < many) -> (∀ i,i < many -> ∃ s,s < d.n /\ cl s = i) -> (∀ R,d.Stable R -> ∀ s t,R s t -> cl s = cl t) ->
  let r:=d.clsS m cl many
  (∀ s,s < d.n -> r.1 s < r.2) /\ (∀ i,i < r.2 -> ∃ s,s < d.n /\ r.1 s = i) /\ d.Stable (fun s t => s < d.n /\ t < d.n /\ r.1 s = r.1 t) /\ (∀ R,d.Stable R -> ∀ s t,R s t -> r.1 s = r.1 t):=by
 intro m
 induction m with
 | zero =>
  intro cl many hm hlt hon hmost
  exfalso
  have h1:=d.count_ge hon
  have h2:=d.count_le cl
  omega
 | succ m ih =>
  intro cl many hm hlt hon hmost
  have hge:=d.count_ge hon
  unfold Dta.clsS
  by_cases h:d.count cl = many
  ·rw [if_pos h]
   exact ⟨fun s hs => h ▸ d.next_lt cl hs,fun i hi => d.next_on cl (by omega),d.next_stable hd hlt hon h,d.next_most hmost⟩
  ·rw [if_neg h]
   exact ih _ _ (by omega) (fun s hs => d.next_lt cl hs) (fun i hi => d.next_on cl hi) (d.next_most hmost)
def repS (n:Nat) (cl:Nat -> Nat) (i:Nat):Nat:=((List.range n).find? (fun s => cl s == i)).getD 0
theorem rep_ok {n i:Nat} {cl:Nat -> Nat} (h:∃ s,s < n /\ cl s = i):repS n cl i < n /\ cl (repS n cl i) = i:=by
 unfold repS
 cases e:(List.range n).find? (fun s => cl s == i) with
 | none =>
  obtain ⟨s,hs,hi⟩:=h
  have:=List.find?_eq_none.1 e s (List.mem_range.2 hs)
  simp [hi] at this
 | some s =>
  have h1:=List.mem_of_find?_eq_some e
  have h2:=List.find?_some e
  exact ⟨List.mem_range.1 h1,by simpa using h2⟩
def Dta.cls (d:Dta):(Nat -> Nat) × Nat:=d.clsS (d.n + 1) (fun _ => 0) 0
theorem Dta.cls_cong {d:Dta} (hd:d.OK):d.Cong d.cls.2 d.cls.1 (repS d.n d.cls.1):=by
 have h0:∀ R,d.Stable R -> ∀ s t:Nat,R s t -> (fun _:Nat => 0) s = (fun _:Nat => 0) t:=fun _ _ _ _ _ => rfl
 have hpos:d.count (fun _ => 0) ≠ 0:=by
  have:=d.next_lt (fun _ => 0) hd.he
  omega
 have e:d.cls = d.clsS d.n (d.next fun _ => 0) (d.count fun _ => 0):=by
  unfold Dta.cls
  rw [Dta.clsS,if_neg hpos]
 have key:=d.cls_ok hd d.n (d.next fun _ => 0) (d.count fun _ => 0) (by omega) (fun s hs => d.next_lt _ hs) (fun i hi => d.next_on _ hi) (d.next_most h0)
 rw [<- e] at key
 exact ⟨key.1,fun i hi => rep_ok (key.2.1 i hi),key.2.2.1,key.2.2.2⟩
def Dta.mini (d:Dta):Dta:=(d.renum.quo d.renum.cls.2 d.renum.cls.1 (repS d.renum.n d.renum.cls.1)).renum
theorem Dta.mini_canon {d:Dta} (h:d.OK):d.mini.Canon /\ d.mini.L = d.L /\ d.Lang d.mini:=d.min_canon h ((Dta.cls_cong (d.renum_ok h)).quot (d.renum_ok h))
def zbn (P:Nat -> Nat -> Bool) (s:Nat):Nat:=((List.range s).find? (fun t => P s t)).getD s
structure EqvB (n:Nat) (P:Nat -> Nat -> Bool):Prop where
 rfl:∀ s,s < n -> P s s = true
 symm:∀ s t,s < n -> t < n -> P s t = true -> P t s = true
 trans:∀ s t u,s < n -> t < n -> u < n -> P s t = true -> P t u = true -> P s u = true
theorem zcx (P:Nat -> Nat -> Bool) (s:Nat):zbn P s <= s:=by
 unfold zbn
 cases e:(List.range s).find? (fun t => P s t) with
 | none => exact zn
 | some t => exact Nat.le_of_lt (List.mem_range.1 (List.mem_of_find?_eq_some e))
theorem zbz {n:Nat} {P:Nat -> Nat -> Bool} (h:EqvB n P) {s:Nat} (hs:s < n):P s (zbn P s) = true:=by
 unfold zbn
 cases e:(List.range s).find? (fun t => P s t) with
 | none => exact h.rfl s hs
 | some t => exact List.find?_some e
theorem zi2 {n:Nat} {P:Nat -> Nat -> Bool} {s t:Nat} (hP:P s t = true):zbn P s <= t:=by
 unfold zbn
 cases e:(List.range s).find? (fun t => P s t) with
 | none =>
  apply Classical.byContradiction
  intro hlt
  have:=List.find?_eq_none.1 e t (List.mem_range.2 (by simpa using hlt))
  exact this hP
 | some u =>
  show u <= t
  by_cases hts:t < s
  ·apply Classical.byContradiction
   intro hlt
   have hlt:t < u:=by omega
   obtain ⟨_,as,bs,e1,e2⟩:=List.find?_eq_some_iff_append.1 e
   have hu:=List.mem_range.1 (List.mem_of_find?_eq_some e)
   have h3:as.length = u:=by
    have h4:(List.range s)[as.length]? = some u:=by rw [e1]; simp
    have h5:=(List.getElem?_eq_some_iff.1 h4)
    obtain ⟨h6,h7⟩:=h5
    simpa using h7
   have h4:(List.range s)[t]? = some t:=by simp [hts]
   rw [e1,List.getElem?_append_left (by omega)] at h4
   have:=e2 t (List.mem_of_getElem? h4)
   rw [hP] at this
   simp at this
  ·have:=List.mem_range.1 (List.mem_of_find?_eq_some e)
   omega
theorem zfd {n:Nat} {P:Nat -> Nat -> Bool} (h:EqvB n P) {s t:Nat} (hs:s < n) (ht:t < n):zbn P s = zbn P t ↔ P s t = true:=by
 have ls:=zcx P s
 have lt:=zcx P t
 constructor
 ·intro e
  have h1:=zbz h hs
  have h2:=zbz h ht
  rw [e] at h1
  exact h.trans _ _ _ hs (by omega) ht h1 (h.symm _ _ ht (by omega) h2)
 ·intro hP
  have h1:P s (zbn P t) = true:=h.trans _ _ _ hs ht (by omega) hP (zbz h ht)
  have h2:P t (zbn P s) = true:=h.trans _ _ _ ht hs (by omega) (h.symm _ _ hs ht hP) (zbz h hs)
  have h3:=zi2 (n:=n) h1
  have h4:=zi2 (n:=n) h2
  omega
theorem zeu {n:Nat} {P:Nat -> Nat -> Bool} (h:EqvB n P) {s:Nat} (hs:s < n):zbn P (zbn P s) = zbn P s :=
 ((zfd h hs (by have:=zcx P s; omega)).2 (zbz h hs)).symm
def Dta.agree (d:Dta) (cl:Nat -> Nat) (s t:Nat):Bool:=(List.range d.n).all fun q => (List.range d.L).all fun x => cl (d.nx s q x) == cl (d.nx t q x) && cl (d.nx q s x) == cl (d.nx q t x)
theorem Dta.agree_iff (d:Dta) (cl:Nat -> Nat) (s t:Nat):d.agree cl s t = true ↔ ∀ q,q < d.n -> ∀ x,x < d.L -> cl (d.nx s q x) = cl (d.nx t q x) /\ cl (d.nx q s x) = cl (d.nx q t x):=by
 unfold Dta.agree
 simp [List.all_eq_true]
def Dta.fstR (d:Dta) (s:Nat):Nat:=zbn (fun s t => d.fin s == d.fin t) s
def Dta.nextR (d:Dta) (cl:Nat -> Nat) (s:Nat):Nat:=zbn (fun s t => cl s == cl t && d.agree cl s t) s
structure Dta.Rep (d:Dta) (cl:Nat -> Nat):Prop where
 le:∀ s,s < d.n -> cl s <= s
 idem:∀ s,s < d.n -> cl (cl s) = cl s
 fin:∀ s t,s < d.n -> t < d.n -> cl s = cl t -> d.fin s = d.fin t
 most:∀ R,d.Stable R -> ∀ s t,R s t -> cl s = cl t
theorem Dta.fstR_rep (d:Dta):d.Rep d.fstR:=by
 have h:EqvB d.n (fun s t => d.fin s == d.fin t):=⟨by simp,by intro s t _ _ h; simp at h ⊢; exact h.symm,by intro s t u _ _ _ h1 h2; simp at h1 h2 ⊢; exact h1.trans h2⟩
 refine ⟨fun s _ => zcx _ s,fun s hs => zeu h hs,?_,?_⟩
 ·intro s t hs ht e
  simpa using (zfd h hs ht).1 e
 ·intro R hR s t hst
  obtain ⟨hs,ht⟩:=hR.lt s t hst
  exact (zfd h hs ht).2 (by simpa using hR.fin s t hst)
theorem Dta.nextR_eqv (d:Dta) (cl:Nat -> Nat):EqvB d.n (fun s t => cl s == cl t && d.agree cl s t):=by
 constructor
 ·intro s _; simp [d.agree_iff]
 ·intro s t _ _ h
  simp only [Bool.and_eq_true,beq_iff_eq,d.agree_iff] at h ⊢
  exact ⟨h.1.symm,fun q hq x hx => ⟨(h.2 q hq x hx).1.symm,(h.2 q hq x hx).2.symm⟩⟩
 ·intro s t u _ _ _ h g
  simp only [Bool.and_eq_true,beq_iff_eq,d.agree_iff] at h g ⊢
  exact ⟨h.1.trans g.1,fun q hq x hx => ⟨(h.2 q hq x hx).1.trans (g.2 q hq x hx).1,(h.2 q hq x hx).2.trans (g.2 q hq x hx).2⟩⟩
theorem Dta.nextR_eq (d:Dta) (cl:Nat -> Nat) {s t:Nat} (hs:s < d.n) (ht:t < d.n):d.nextR cl s = d.nextR cl t ↔ cl s = cl t /\ ∀ q,q < d.n -> ∀ x,x < d.L -> cl (d.nx s q x) = cl (d.nx t q x) /\ cl (d.nx q s x) = cl (d.nx q t x):=by
 unfold Dta.nextR
 rw [zfd (d.nextR_eqv cl) hs ht,Bool.and_eq_true,beq_iff_eq,d.agree_iff]
theorem Dta.Rep.next {d:Dta} {cl:Nat -> Nat} (h:d.Rep cl):d.Rep (d.nextR cl):=by
 refine ⟨fun s _ => zcx _ s,fun s hs => zeu (d.nextR_eqv cl) hs,?_,?_⟩
 ·intro s t hs ht e
  exact h.fin s t hs ht ((d.nextR_eq cl hs ht).1 e).1
 ·intro R hR s t hst
  obtain ⟨hs,ht⟩:=hR.lt s t hst
  exact (d.nextR_eq cl hs ht).2 ⟨h.most R hR _ _ hst,fun q hq x hx => ⟨h.most R hR _ _ (hR.l _ _ q x hst hq hx),h.most R hR _ _ (hR.r _ _ q x hst hq hx)⟩⟩
def Dta.fixed (d:Dta) (cl:Nat -> Nat):List Nat:=(List.range d.n).filter (fun s => cl s == s)
theorem Dta.fixed_mem (d:Dta) (cl:Nat -> Nat) (s:Nat):s ∈ d.fixed cl ↔ s < d.n /\ cl s = s:=by simp [Dta.fixed]
theorem Dta.fixed_nodup (d:Dta) (cl:Nat -> Nat):(d.fixed cl).Nodup:=List.Nodup.sublist List.filter_sublist List.nodup_range
theorem Dta.Rep.fixed_sub {d:Dta} {cl:Nat -> Nat} (h:d.Rep cl):d.fixed cl ⊆ d.fixed (d.nextR cl):=by
 intro s hs
 obtain ⟨h1,h2⟩:=(d.fixed_mem cl s).1 hs
 refine (d.fixed_mem _ s).2 ⟨h1,?_⟩
 have h3:=zbz (d.nextR_eqv cl) h1
 have h4:d.nextR cl s <= s:=zcx _ s
 simp only [Bool.and_eq_true,beq_iff_eq] at h3
 have h5:cl s = cl (d.nextR cl s):=h3.1
 have h6:=h.le (d.nextR cl s) (by omega)
 omega
def Dta.stopR (d:Dta) (cl:Nat -> Nat):Bool:=(List.range d.n).all fun s => d.nextR cl s == cl s
theorem Dta.Rep.fixed_more {d:Dta} {cl:Nat -> Nat} (h:d.Rep cl) (hne:d.stopR cl = false):(d.fixed cl).length < (d.fixed (d.nextR cl)).length:=by
 have hex:∃ s,s ∈ d.fixed (d.nextR cl) /\ s ∉ d.fixed cl:=by
  apply Classical.byContradiction
  intro hno
  have hall:∀ s,s < d.n -> d.nextR cl s = cl s:=by
   intro s hs
   have hle:d.nextR cl s <= s:=zcx _ s
   have h1:d.nextR cl s ∈ d.fixed (d.nextR cl):=(d.fixed_mem _ _).2 ⟨by omega,zeu (d.nextR_eqv cl) hs⟩
   have h2:d.nextR cl s ∈ d.fixed cl:=Classical.byContradiction fun hn => hno ⟨_,h1,hn⟩
   have h3:=((d.fixed_mem _ _).1 h2).2
   have h4:=zbz (d.nextR_eqv cl) hs
   simp only [Bool.and_eq_true,beq_iff_eq] at h4
   have h5:cl s = cl (d.nextR cl s):=h4.1
   rw [h5,h3]
  have:d.stopR cl = true:=by
   unfold Dta.stopR
   rw [List.all_eq_true]
   intro s hs
   simpa using hall s (List.mem_range.1 hs)
  rw [this] at hne; cases hne
 obtain ⟨s,h1,h2⟩:=hex
 have h3:=List.Nodup.length_le_of_subset (l₁:=s :: d.fixed cl) (l₂:=d.fixed (d.nextR cl)) (List.nodup_cons.2 ⟨h2,d.fixed_nodup cl⟩) (by
  intro a ha
  rcases List.mem_cons.1 ha with e | ha
  ·rw [e]; exact h1
  ·exact h.fixed_sub ha)
 simp at h3; omega
def Dta.coarR (d:Dta):Nat -> (Nat -> Nat) -> (Nat -> Nat)
 | 0,cl => cl
 | m + 1,cl => if d.stopR cl then cl else d.coarR m (d.nextR cl)
theorem Dta.coar_ok {d:Dta} (hd:d.OK):∀ (m:Nat) (cl:Nat -> Nat),d.n < (d.fixed cl).length + m -> d.Rep cl -> d.Rep (d.coarR m cl) /\ d.Stable (fun s t => s < d.n /\ t < d.n /\ d.coarR m cl s = d.coarR m cl t):=by
 intro m
 induction m with
 | zero =>
  intro cl hm _
  exfalso
  have:(d.fixed cl).length <= d.n:=by
   have:=List.length_filter_le (fun s => cl s == s) (List.range d.n)
   simpa [Dta.fixed] using this
  omega
 | succ m ih =>
  intro cl hm h
  unfold Dta.coarR
  cases hs:d.stopR cl with
  | false =>
   have:=h.fixed_more hs
   simp only [Bool.false_eq_true,if_false]
   exact ih _ (by omega) h.next
  | true =>
   simp only [if_true]
   have hall:∀ s,s < d.n -> d.nextR cl s = cl s:=by
    intro s hs'
    unfold Dta.stopR at hs
    simpa using List.all_eq_true.1 hs s (List.mem_range.2 hs')
   have ag:∀ s t,s < d.n -> t < d.n -> cl s = cl t -> ∀ q,q < d.n -> ∀ x,x < d.L -> cl (d.nx s q x) = cl (d.nx t q x) /\ cl (d.nx q s x) = cl (d.nx q t x):=by
    intro s t h1 h2 e
    exact ((d.nextR_eq cl h1 h2).1 (by rw [hall s h1,hall t h2,e])).2
   refine ⟨h,?_⟩
   constructor
   ·rintro s t ⟨h1,h2,_⟩; exact ⟨h1,h2⟩
   ·rintro s t ⟨h1,h2,e⟩; exact h.fin s t h1 h2 e
   ·rintro s t q x ⟨h1,h2,e⟩ hq hx
    exact ⟨hd.hn _ _ _ h1 hq hx,hd.hn _ _ _ h2 hq hx,(ag s t h1 h2 e q hq x hx).1⟩
   ·rintro s t q x ⟨h1,h2,e⟩ hq hx
    exact ⟨hd.hn _ _ _ hq h1 hx,hd.hn _ _ _ hq h2 hx,(ag s t h1 h2 e q hq x hx).2⟩
def Dta.coar (d:Dta):Nat -> Nat:=d.coarR d.n d.fstR
theorem Dta.coar_rep {d:Dta} (hd:d.OK):d.Rep d.coar /\ d.Stable (fun s t => s < d.n /\ t < d.n /\ d.coar s = d.coar t):=by
 refine d.coar_ok hd _ _ ?_ d.fstR_rep
 have hpos:=hd.he
 have h0:(0:Nat) ∈ d.fixed d.fstR:=(d.fixed_mem _ _).2 ⟨by omega,by have:=d.fstR_rep.le 0 (by omega); omega⟩
 have:=List.length_pos_of_mem h0
 omega
def Dta.clR (d:Dta) (s:Nat):Nat:=(d.fixed d.coar).idxOf (d.coar s)
def Dta.miniR (d:Dta):Dta:=(d.renum.quo (d.renum.fixed d.renum.coar).length d.renum.clR (fun i => (d.renum.fixed d.renum.coar).getD i 0)).renum
theorem Dta.clR_cong {d:Dta} (hd:d.OK):d.Cong (d.fixed d.coar).length d.clR (fun i => (d.fixed d.coar).getD i 0):=by
 obtain ⟨hr,hs⟩:=d.coar_rep hd
 have hm:∀ s,s < d.n -> d.coar s ∈ d.fixed d.coar:=fun s h => (d.fixed_mem _ _).2 ⟨by have:=hr.le s h; omega,hr.idem s h⟩
 have he:∀ s t,s < d.n -> t < d.n -> d.clR s = d.clR t -> d.coar s = d.coar t:=by
  intro s t h1 h2 e
  have g1:=zj2 (hm s h1)
  have g2:=zj2 (hm t h2)
  have e':(d.fixed d.coar).idxOf (d.coar s) = (d.fixed d.coar).idxOf (d.coar t):=e
  rw [e',g2] at g1
  exact (Option.some.inj g1).symm
 refine ⟨fun s h => List.idxOf_lt_length_of_mem (hm s h),?_,?_,?_⟩
 ·intro i hi
  have e:(d.fixed d.coar).getD i 0 = (d.fixed d.coar)[i]:=by rw [List.getD_eq_getElem?_getD,List.getElem?_eq_getElem hi]; rfl
  have h1:=(d.fixed_mem _ _).1 (List.getElem_mem hi)
  refine ⟨by show (d.fixed d.coar).getD i 0 < _; rw [e]; exact h1.1,?_⟩
  show d.clR ((d.fixed d.coar).getD i 0) = i
  rw [e]
  unfold Dta.clR
  rw [h1.2]
  exact (d.fixed_nodup _).idxOf_getElem i hi
 ·constructor
  ·rintro s t ⟨h1,h2,_⟩; exact ⟨h1,h2⟩
  ·rintro s t ⟨h1,h2,e⟩; exact hs.fin s t ⟨h1,h2,he s t h1 h2 e⟩
  ·rintro s t q x ⟨h1,h2,e⟩ hq hx
   obtain ⟨g1,g2,g3⟩:=hs.l s t q x ⟨h1,h2,he s t h1 h2 e⟩ hq hx
   exact ⟨g1,g2,by unfold Dta.clR; rw [g3]⟩
  ·rintro s t q x ⟨h1,h2,e⟩ hq hx
   obtain ⟨g1,g2,g3⟩:=hs.r s t q x ⟨h1,h2,he s t h1 h2 e⟩ hq hx
   exact ⟨g1,g2,by unfold Dta.clR; rw [g3]⟩
 ·intro R hR s t hst
  unfold Dta.clR
  rw [hr.most R hR s t hst]
theorem Dta.miniR_canon {d:Dta} (h:d.OK):d.miniR.Canon /\ d.miniR.L = d.L /\ d.Lang d.miniR:=d.min_canon h ((Dta.clR_cong (d.renum_ok h)).quot (d.renum_ok h))
theorem Dta.mini_same {a b:Dta} (ha:a.OK) (hb:b.OK) (hL:a.L = b.L) (h:a.Lang b):a.mini.Same b.mini /\ a.mini.Same b.miniR /\ a.miniR.Same b.miniR:=by
 obtain ⟨a1,a2,a3⟩:=a.mini_canon ha
 obtain ⟨b1,b2,b3⟩:=b.mini_canon hb
 obtain ⟨c1,c2,c3⟩:=b.miniR_canon hb
 obtain ⟨e1,e2,e3⟩:=a.miniR_canon ha
 refine ⟨Dta.canon_same a1 b1 (by omega) ?_,Dta.canon_same a1 c1 (by omega) ?_,Dta.canon_same e1 c1 (by omega) ?_⟩
 ·intro t ht
  rw [a2] at ht
  rw [<- a3 t ht,h t ht,b3 t (hL ▸ ht)]
 ·intro t ht
  rw [a2] at ht
  rw [<- a3 t ht,h t ht,c3 t (hL ▸ ht)]
 ·intro t ht
  rw [e2] at ht
  rw [<- e3 t ht,h t ht,c3 t (hL ▸ ht)]
end Go.Proofs.YthkfjnmnoanhlaaGreatDoor
namespace Go.Proofs.YthkfjnmnoanhlaaGreatDoor
section
variable {K:Type} [DecidableEq K] (f:K -> K -> Nat -> K)
def keyT (k0:K):Bt -> K
 | .nil => k0
 | .node a l r => f (keyT k0 l) (keyT k0 r) a.toNat
def AccK (L:Nat) (k0 s:K):Prop:=∃ t:Bt,t.lb L /\ keyT f k0 t = s
theorem AccK.zero (L:Nat) (k0:K):AccK f L k0 k0:=⟨.nil,trivial,rfl⟩
theorem AccK.step {L:Nat} {k0 a b:K} {x:Nat} (ha:AccK f L k0 a) (hb:AccK f L k0 b) (hx:x < L):AccK f L k0 (f a b x):=by
 obtain ⟨t,h1,rfl⟩:=ha
 obtain ⟨u,h2,rfl⟩:=hb
 exact ⟨.node x t u,⟨⟨by omega,by simpa using hx⟩,h1,h2⟩,by simp [keyT]⟩
structure Expl (L:Nat) (k0:K) (o:List K):Prop where
 nodup:o.Nodup
 zero:o[0]? = some k0
 acc:∀ s ∈ o,AccK f L k0 s
 closed:zgn f L o
variable {f}
theorem Expl.mem {L:Nat} {k0:K} {o:List K} (h:Expl f L k0 o):∀ t:Bt,t.lb L -> keyT f k0 t ∈ o
 | .nil,_ => List.mem_of_getElem? h.zero
 | .node a l r,ht => h.closed _ _ _ (h.mem l ht.2.1) (h.mem r ht.2.2) ht.1.2
theorem Expl.most {L:Nat} {k0:K} {o p:List K} (h:Expl f L k0 o) (hn:p.Nodup) (ha:∀ s ∈ p,AccK f L k0 s):p.length <= o.length :=
 hn.length_le_of_subset fun s hs => by obtain ⟨t,h1,rfl⟩:=ha s hs; exact h.mem t h1
variable (f)
def autE (L:Nat) (k0:K) (o:List K) (fin:K -> Bool):Dta:=⟨o.length,0,L,fun l r x => o.idxOf (f (o.getD l k0) (o.getD r k0) x),fun s => fin (o.getD s k0)⟩
variable {f}
theorem getD_some {o:List K} {k0 a:K} {i:Nat} (h:o[i]? = some a):o.getD i k0 = a:=by rw [List.getD_eq_getElem?_getD,h]; rfl
theorem zlm {o:List K} {k0:K} {i:Nat} (h:i < o.length):o[i]? = some (o.getD i k0):=by
 rw [List.getD_eq_getElem?_getD,List.getElem?_eq_getElem h]; rfl
theorem zh6 {o:List K} {s:K} (h:s ∈ o):o[o.idxOf s]? = some s:=by
 rw [List.getElem?_eq_getElem (List.idxOf_lt_length_of_mem h),List.getElem_idxOf]
theorem Expl.step {L:Nat} {k0:K} {o:List K} (h:Expl f L k0 o) (fin:K -> Bool) {l r x:Nat} {a b:K} (hl:o[l]? = some a) (hr:o[r]? = some b) (hx:x < L):o[(autE f L k0 o fin).nx l r x]? = some (f a b x):=by
 show o[o.idxOf (f (o.getD l k0) (o.getD r k0) x)]? = _
 rw [getD_some hl,getD_some hr]
 exact zh6 (h.closed _ _ _ (List.mem_of_getElem? hl) (List.mem_of_getElem? hr) hx)
theorem Expl.ok {L:Nat} {k0:K} {o:List K} (h:Expl f L k0 o) (fin:K -> Bool):(autE f L k0 o fin).OK:=by
 refine ⟨(List.getElem?_eq_some_iff.1 h.zero).1,?_⟩
 intro l r x hl hr hx
 exact (List.getElem?_eq_some_iff.1 (h.step fin (zlm (k0:=k0) hl) (zlm (k0:=k0) hr) hx)).1
theorem Expl.run {L:Nat} {k0:K} {o:List K} (h:Expl f L k0 o) (fin:K -> Bool):∀ t:Bt,t.lb L -> o[(autE f L k0 o fin).run t]? = some (keyT f k0 t)
 | .nil,_ => h.zero
 | .node a l r,ht => h.step fin (h.run fin l ht.2.1) (h.run fin r ht.2.2) ht.1.2
theorem Expl.lang {L:Nat} {k0:K} {o:List K} (h:Expl f L k0 o) (fin:K -> Bool) (t:Bt) (ht:t.lb L):(autE f L k0 o fin).fin ((autE f L k0 o fin).run t) = fin (keyT f k0 t):=by
 show fin (o.getD _ k0) = _
 rw [getD_some (h.run fin t ht)]
end
def pairF (a b:Dta) (p q:Nat × Nat) (x:Nat):Nat × Nat:=(a.nx p.1 q.1 x,b.nx p.2 q.2 x)
theorem zhx (a b:Dta):∀ t:Bt,keyT (pairF a b) (a.e,b.e) t = (a.run t,b.run t)
 | .nil => rfl
 | .node _ l r => by simp only [keyT,Dta.run,zhx a b l,zhx a b r,pairF]
def prodA (a b:Dta) (o:List (Nat × Nat)) (g:Bool -> Bool -> Bool):Dta:=autE (pairF a b) a.L (a.e,b.e) o (fun p => g (a.fin p.1) (b.fin p.2))
def Dta.neg (d:Dta):Dta:={ d with fin:=fun s => !d.fin s }
theorem Dta.neg_run (d:Dta):∀ t:Bt,d.neg.run t = d.run t
 | .nil => rfl
 | .node a l r => by simp only [Dta.run,d.neg_run l,d.neg_run r]; rfl
theorem Dta.neg_lang (d:Dta) (t:Bt):d.neg.fin (d.neg.run t) = !d.fin (d.run t):=by rw [d.neg_run]; rfl
def VarT (lo hi:Nat -> Nat):Bt -> Bt -> Prop
 | .nil,.nil => True
 | .node a l r,.node b l' r' => (b.toNat = lo a.toNat \/ b.toNat = hi a.toNat) /\ 0 <= b /\ VarT lo hi l l' /\ VarT lo hi r r'
 | _,_ => False
end Go.Proofs.YthkfjnmnoanhlaaGreatDoor
namespace Go.Proofs.YthkfjnmnoanhlaaGreatDoor
theorem lb_lt {K:Nat}:∀ {b:Bt},b.lb K ↔ b.lt K
 | .nil => Iff.rfl
 | .node a l r => by
  simp only [Bt.lb,Bt.lt,lb_lt (b:=l),lb_lt (b:=r)]
  constructor
  ·rintro ⟨⟨h1,h2⟩,h3,h4⟩; exact ⟨h1,by omega,h3,h4⟩
  ·rintro ⟨h1,h2,h3,h4⟩; exact ⟨⟨h1,by omega⟩,h3,h4⟩
def tsF (K:Nat):Nat -> Nat -> List Bt
 | 0,_ => []
 | _ + 1,0 => [.nil]
 | f + 1,k + 1 => (List.range (k + 1)).flatMap fun i => (tsF K f i).flatMap fun a => (tsF K f (k - i)).flatMap fun b => (List.range K).map fun x:Nat => Bt.node (x:Int) a b
theorem zh1 (K:Nat):∀ (f n:Nat),n < f -> ∀ b:Bt,b ∈ tsF K f n ↔ b.size = n /\ b.lb K:=by
 intro f
 induction f with
 | zero => intro n h; omega
 | succ f ih =>
  intro n hn b
  cases n with
  | zero =>
   simp only [tsF,List.mem_singleton]
   cases b with
   | nil => simp [Bt.size,Bt.lb]
   | node a l r => simp [Bt.size]
  | succ k =>
   simp only [tsF,List.mem_flatMap,List.mem_map,List.mem_range]
   constructor
   ·rintro ⟨i,hi,a,ha,c,hc,x,hx,rfl⟩
    obtain ⟨h1,h2⟩:=(ih i (by omega) a).1 ha
    obtain ⟨h3,h4⟩:=(ih (k - i) (by omega) c).1 hc
    exact ⟨by simp only [Bt.size]; omega,⟨by omega,by simpa using hx⟩,h2,h4⟩
   ·rintro ⟨hs,hl⟩
    cases b with
    | nil => simp [Bt.size] at hs
    | node a l r =>
     obtain ⟨⟨h0,hx⟩,h1,h2⟩:=hl
     simp only [Bt.size] at hs
     refine ⟨l.size,by omega,l,(ih _ (by omega) l).2 ⟨rfl,h1⟩,r,(ih _ (by omega) r).2 ⟨by omega,h2⟩,a.toNat,hx,?_⟩
     rw [Int.toNat_of_nonneg h0]
def Dta.cnt (d:Dta) (n s:Nat):Nat:=((tsF d.L (n + 1) n).filter fun b => d.run b == s).length
def sumR (n:Nat) (F:Nat -> Nat):Nat:=((List.range n).map F).sum
theorem zcp {α β:Type} (l:List α) (g:α -> List β) (h:β -> Nat):((l.flatMap g).map h).sum = (l.map fun a => ((g a).map h).sum).sum:=by
 induction l with
 | nil => rfl
 | cons a l ih => simp [List.flatMap_cons,ih]
theorem zha {α:Type} (l:List α) (p:α -> Bool):(l.filter p).length = (l.map fun a => if p a then 1 else 0).sum:=by
 induction l with
 | nil => rfl
 | cons a l ih =>
  by_cases h:p a = true
  ·rw [List.filter_cons_of_pos h]; simp [h,ih]; omega
  ·rw [List.filter_cons_of_neg h]; simp [h,ih]
theorem zp5 (n:Nat) (F G:Nat -> Nat):sumR n (fun i => F i + G i) = sumR n F + sumR n G:=by
 induction n with
 | zero => rfl
 | succ n ih =>
  unfold sumR at ih ⊢
  rw [List.range_succ]
  simp only [List.map_append,List.sum_append,List.map_cons,List.map_nil,List.sum_cons,List.sum_nil]
  omega
theorem zp4 (n:Nat) (F:Nat -> Nat) (j:Nat) (hj:j < n):sumR n (fun i => if j = i then F i else 0) = F j:=by
 induction n with
 | zero => omega
 | succ n ih =>
  unfold sumR at ih ⊢
  rw [List.range_succ]
  simp only [List.map_append,List.sum_append,List.map_cons,List.map_nil,List.sum_cons,List.sum_nil]
  by_cases h:j = n
  ·subst h
   have:((List.range j).map fun i => if j = i then F i else 0).sum = 0:=by
    rw [show ((List.range j).map fun i => if j = i then F i else 0) = (List.range j).map fun _ => 0 from List.map_congr_left fun i hi => by
     have:=List.mem_range.1 hi
     rw [if_neg (by omega)]]
    generalize List.range j = l
    induction l with
    | nil => rfl
    | cons a l ih => simpa using ih
   rw [this]; simp
  ·rw [ih (by omega),if_neg h]
   omega
theorem zfp {α:Type} (n:Nat) (run:α -> Nat) (F:Nat -> Nat) (l:List α) (hl:∀ a ∈ l,run a < n):(l.map fun a => F (run a)).sum = sumR n fun s => (l.filter fun a => run a == s).length * F s:=by
 induction l with
 | nil =>
  simp only [List.map_nil,List.sum_nil,List.filter_nil,List.length_nil,Nat.zero_mul]
  unfold sumR
  generalize List.range n = l
  induction l with
  | nil => rfl
  | cons a l ih => simpa using ih
 | cons a l ih =>
  rw [List.map_cons,List.sum_cons,ih (fun b hb => hl b (List.mem_cons_of_mem _ hb)),<- zp4 n F (run a) (hl a List.mem_cons_self),<- zp5]
  unfold sumR
  congr 1
  apply List.map_congr_left
  intro s _
  by_cases h:run a = s
  ·rw [if_pos h,List.filter_cons_of_pos (by simpa using h),List.length_cons,Nat.succ_mul]; omega
  ·rw [if_neg h,List.filter_cons_of_neg (by simpa using h)]; omega
theorem Dta.cnt_zero (d:Dta) (s:Nat):d.cnt 0 s = if d.e = s then 1 else 0:=by
 unfold Dta.cnt
 by_cases h:d.e = s
 ·simp [tsF,Dta.run,h]
 ·simp [tsF,Dta.run,h]
theorem zks (K:Nat):∀ (f g n:Nat),n < f -> n < g -> tsF K f n = tsF K g n:=by
 intro f
 induction f with
 | zero => intro g n h; omega
 | succ f ih =>
  intro g n h1 h2
  cases g with
  | zero => omega
  | succ g =>
   cases n with
   | zero => rfl
   | succ k =>
    simp only [tsF]
    rw [List.flatMap_def,List.flatMap_def]
    congr 1
    apply List.map_congr_left
    intro i hi
    have hi:=List.mem_range.1 hi
    rw [ih g i (by omega) (by omega),ih g (k - i) (by omega) (by omega)]
theorem Dta.cnt_succ {d:Dta} (h:d.OK) (k s:Nat):d.cnt (k + 1) s = sumR (k + 1) fun i => sumR d.n fun l => d.cnt i l * sumR d.n fun r => d.cnt (k - i) r * sumR d.L fun x => if d.nx l r x = s then 1 else 0:=by
 unfold Dta.cnt
 rw [zha]
 simp only [tsF]
 rw [zcp]
 unfold sumR
 congr 1
 apply List.map_congr_left
 intro i hi
 have hi:=List.mem_range.1 hi
 have run_lt:∀ j,j < k + 1 -> ∀ b ∈ tsF d.L (k + 1) j,d.run b < d.n:=fun j hj b hb => h.run b ((zh1 d.L (k + 1) j (by omega) b).1 hb).2
 rw [zcp]
 rw [zks d.L (i + 1) (k + 1) i (by omega) (by omega),zks d.L (k - i + 1) (k + 1) (k - i) (by omega) (by omega)]
 have e1:=zfp d.n d.run (fun l => ((List.range d.n).map fun r => ((tsF d.L (k + 1) (k - i)).filter fun b => d.run b == r).length * ((List.range d.L).map fun x => if d.nx l r x = s then 1 else 0).sum).sum) (tsF d.L (k + 1) i) (run_lt i (by omega))
 unfold sumR at e1
 rw [<- e1]
 congr 1
 apply List.map_congr_left
 intro a _
 rw [zcp]
 have e2:=zfp d.n d.run (fun r => ((List.range d.L).map fun x => if d.nx (d.run a) r x = s then 1 else 0).sum) (tsF d.L (k + 1) (k - i)) (run_lt (k - i) (by omega))
 unfold sumR at e2
 rw [<- e2]
 congr 1
 apply List.map_congr_left
 intro b _
 rw [List.map_map]
 congr 1
 apply List.map_congr_left
 intro x _
 have e:d.run (Bt.node (x:Int) a b) = d.nx (d.run a) (d.run b) x:=by simp [Dta.run]
 show (if (d.run (Bt.node (x:Int) a b) == s) = true then 1 else 0) = _
 rw [e]
 by_cases hx:d.nx (d.run a) (d.run b) x = s
 ·rw [if_pos hx,if_pos (by simpa using hx)]
 ·rw [if_neg hx,if_neg (by simpa using hx)]
end Go.Proofs.YthkfjnmnoanhlaaGreatDoor
namespace Go.Proofs.YthkfjnmnoanhlaaGreatDoor
theorem zgk:∀ (x x' y y':List Int),x.length = x'.length -> cmpL (x ++ y) (x' ++ y') = if cmpL x x' = 0 then cmpL y y' else cmpL x x'
 | [],[],y,y',_ => by simp [cmpL]
 | [],_ :: _,_,_,h => by simp at h
 | _ :: _,[],_,_,h => by simp at h
 | a :: x,b :: x',y,y',h => by
  have ih:=zgk x x' y y' (by simpa using h)
  have c1:cmpL (a :: x) (b :: x') = if cmpI a b = 0 then cmpL x x' else cmpI a b:=rfl
  have c2:cmpL (a :: x ++ y) (b :: x' ++ y') = if cmpI a b = 0 then cmpL (x ++ y) (x' ++ y') else cmpI a b:=rfl
  rw [c2]
  generalize cmpL (a :: x) (b :: x') = u at c1 ⊢
  by_cases e:cmpI a b = 0
  ·rw [if_pos e] at c1 ⊢
   rw [c1]; exact ih
  ·rw [if_neg e] at c1 ⊢
   rw [c1,if_neg e]
def leB (a b:Bt):Prop:=cmpL a.code b.code <= 0
theorem zol (a:Bt):leB a a:=by unfold leB; rw [(zgi _ _).2 rfl]; omega
theorem zeh {a b c:Bt} (h:leB a b) (g:leB b c):leB a c:=(zhe _ _ _ h g).1
theorem zqs {a a' b b':Bt} (x:Int) (ha:leB a a') (hb:leB b b') (hs:a.size = a'.size):leB (.node x a b) (.node x a' b'):=by
 unfold leB at ha hb ⊢
 simp only [Bt.code]
 rw [zpn,zgk _ _ _ _ (by rw [Bt.code_len,Bt.code_len,hs])]
 split
 ·exact hb
 ·exact ha
structure Dta.Least (d:Dta) (n s:Nat) (b:Bt):Prop where
 size:b.size = n
 lb:b.lb d.L
 run:d.run b = s
 le:∀ c:Bt,c.size = n -> c.lb d.L -> d.run c = s -> leB b c
def zaz (o:Option Bt) (t:Bt):Option Bt:=match o with
 | none => some t
 | some u => if cmpL t.code u.code < 0 then some t else some u
def minB (o:Option Bt) (l:List Bt):Option Bt:=l.foldl zaz o
theorem zok (a b:Bt):leB a b \/ cmpL b.code a.code < 0:=by
 unfold leB
 have:=zgj a.code b.code
 omega
theorem zf3:∀ (l:List Bt) (u:Bt),∃ b,minB (some u) l = some b /\ (b = u \/ b ∈ l) /\ leB b u /\ ∀ c ∈ l,leB b c
 | [],u => ⟨u,rfl,.inl rfl,zol u,by simp⟩
 | t :: l,u => by
  by_cases h:cmpL t.code u.code < 0
  ·obtain ⟨b,h1,h2,h3,h4⟩:=zf3 l t
   refine ⟨b,?_,?_,zeh h3 (by unfold leB; omega),?_⟩
   ·show minB (zaz (some u) t) l = _
    simp only [zaz]
    rw [if_pos h]; exact h1
   ·rcases h2 with h2 | h2
    ·exact .inr (by rw [h2]; exact List.mem_cons_self)
    ·exact .inr (List.mem_cons_of_mem _ h2)
   ·intro c hc
    rcases List.mem_cons.1 hc with e | hc
    ·rw [e]; exact h3
    ·exact h4 c hc
  ·obtain ⟨b,h1,h2,h3,h4⟩:=zf3 l u
   refine ⟨b,?_,?_,h3,?_⟩
   ·show minB (zaz (some u) t) l = _
    simp only [zaz]
    rw [if_neg h]; exact h1
   ·rcases h2 with h2 | h2
    ·exact .inl h2
    ·exact .inr (List.mem_cons_of_mem _ h2)
   ·intro c hc
    rcases List.mem_cons.1 hc with e | hc
    ·rw [e]
     refine zeh h3 ?_
     rcases zok u t with g | g
     ·exact g
     ·exact absurd g h
    ·exact h4 c hc
theorem zcl (l:List Bt):(minB none l = none /\ l = []) \/ ∃ b,minB none l = some b /\ b ∈ l /\ ∀ c ∈ l,leB b c:=by
 cases l with
 | nil => exact .inl ⟨rfl,rfl⟩
 | cons t l =>
  obtain ⟨b,h1,h2,h3,h4⟩:=zf3 l t
  refine .inr ⟨b,h1,?_,?_⟩
  ·rcases h2 with h2 | h2
   ·rw [h2]; exact List.mem_cons_self
   ·exact List.mem_cons_of_mem _ h2
  ·intro c hc
   rcases List.mem_cons.1 hc with e | hc
   ·rw [e]; exact h3
   ·exact h4 c hc
def Dta.cands (d:Dta) (sm:Nat -> Nat -> Option Bt) (k:Nat):List (Nat × Bt) :=
 (List.range (k + 1)).flatMap fun i => (List.range d.n).flatMap fun l => (List.range d.n).flatMap fun r => (List.range d.L).flatMap fun x => match sm i l,sm (k - i) r with
  | some a,some b => [(d.nx l r x,Bt.node (x:Int) a b)]
  | _,_ => []
def Dta.ofS (c:List (Nat × Bt)) (s:Nat):List Bt:=(c.filter fun p => p.1 == s).map (·.2)
def Dta.Knows (d:Dta) (n:Nat) (f:Nat -> Option Bt):Prop:=∀ s,s < d.n -> (∀ b,f s = some b -> d.Least n s b) /\ (f s = none -> ∀ c:Bt,c.size = n -> c.lb d.L -> d.run c ≠ s)
theorem Dta.knows_zero (d:Dta):d.Knows 0 (fun s => if s = d.e then some .nil else none):=by
 intro s hs
 show (∀ b,(if s = d.e then some Bt.nil else none) = some b -> d.Least 0 s b) /\ ((if s = d.e then some Bt.nil else none) = none -> ∀ c:Bt,c.size = 0 -> c.lb d.L -> d.run c ≠ s)
 constructor
 ·intro b hb
  by_cases h:s = d.e
  ·rw [if_pos h] at hb
   cases hb
   refine ⟨rfl,trivial,h.symm,?_⟩
   intro c hc _ _
   rw [Bt.nil_of_size hc]; exact zol _
  ·rw [if_neg h] at hb; cases hb
 ·intro h c hc _ hr
  rw [Bt.nil_of_size hc] at hr
  rw [if_pos (show s = d.e from hr.symm)] at h; cases h
theorem Dta.knows_succ {d:Dta} (h:d.OK) (sm:Nat -> Nat -> Option Bt) (k:Nat) (hk:∀ i,i <= k -> d.Knows i (sm i)):d.Knows (k + 1) (fun s => minB none (Dta.ofS (d.cands sm k) s)):=by
 have hmem:∀ s t,t ∈ Dta.ofS (d.cands sm k) s ↔ ∃ i l r x a b,i < k + 1 /\ l < d.n /\ r < d.n /\ x < d.L /\ sm i l = some a /\ sm (k - i) r = some b /\ d.nx l r x = s /\ t = Bt.node ((x:Nat):Int) a b:=by
  intro s t
  unfold Dta.ofS Dta.cands
  simp only [List.mem_map,List.mem_filter,List.mem_flatMap,List.mem_range]
  constructor
  ·rintro ⟨⟨q,u⟩,⟨⟨i,hi,l,hl,r,hr,x,hx,hm⟩,hq⟩,rfl⟩
   cases e1:sm i l with
   | none => rw [e1] at hm; simp at hm
   | some a =>
    cases e2:sm (k - i) r with
    | none => rw [e1,e2] at hm; simp at hm
    | some b =>
     rw [e1,e2] at hm
     simp at hm
     obtain ⟨h1,h2⟩:=hm
     exact ⟨i,l,r,x,a,b,hi,hl,hr,hx,e1,e2,by rw [<- h1]; simpa using hq,h2⟩
  ·rintro ⟨i,l,r,x,a,b,hi,hl,hr,hx,e1,e2,rfl,rfl⟩
   refine ⟨(d.nx l r x,_),⟨⟨i,hi,l,hl,r,hr,x,hx,?_⟩,by simp⟩,rfl⟩
   rw [e1,e2]; simp
 intro s hs
 -- every tree of the size has a candidate that is no greater
 have low:∀ c:Bt,c.size = k + 1 -> c.lb d.L -> d.run c = s -> ∃ t,t ∈ Dta.ofS (d.cands sm k) s /\ leB t c:=by
  intro c hc hl hr
  cases c with
  | nil => simp [Bt.size] at hc
  | node a l r =>
   obtain ⟨⟨h0,hx⟩,h1,h2⟩:=hl
   simp only [Bt.size] at hc
   have n1:=h.run l h1
   have n2:=h.run r h2
   obtain ⟨k1,k2⟩:=hk l.size (by omega) (d.run l) n1
   obtain ⟨k3,k4⟩:=hk (k - l.size) (by omega) (d.run r) n2
   cases e1:sm l.size (d.run l) with
   | none => exact absurd rfl (k2 e1 l rfl h1)
   | some u =>
    cases e2:sm (k - l.size) (d.run r) with
    | none => exact absurd rfl (k4 e2 r (by omega) h2)
    | some v =>
     have u1:=k1 u e1
     have v1:=k3 v e2
     refine ⟨.node (a.toNat:Nat) u v,(hmem s _).2 ⟨l.size,d.run l,d.run r,a.toNat,u,v,by omega,n1,n2,hx,e1,e2,hr,rfl⟩,?_⟩
     rw [Int.toNat_of_nonneg h0]
     exact zqs a (u1.le l rfl h1 rfl) (v1.le r (by omega) h2 rfl) u1.size
 have up:∀ t,t ∈ Dta.ofS (d.cands sm k) s -> t.size = k + 1 /\ t.lb d.L /\ d.run t = s:=by
  intro t ht
  obtain ⟨i,l,r,x,a,b,hi,hl,hr,hx,e1,e2,h1,rfl⟩:=(hmem s t).1 ht
  have u1:=(hk i (by omega) l hl).1 a e1
  have v1:=(hk (k - i) (by omega) r hr).1 b e2
  refine ⟨by simp only [Bt.size,u1.size,v1.size]; omega,⟨⟨by omega,by simpa using hx⟩,u1.lb,v1.lb⟩,?_⟩
  simp only [Dta.run,u1.run,v1.run,Int.toNat_natCast]
  exact h1
 rcases zcl (Dta.ofS (d.cands sm k) s) with ⟨h1,h2⟩ | ⟨b,h1,h2,h3⟩
 ·show (∀ b,minB none (Dta.ofS (d.cands sm k) s) = some b -> d.Least (k + 1) s b) /\ (minB none (Dta.ofS (d.cands sm k) s) = none -> ∀ c:Bt,c.size = k + 1 -> c.lb d.L -> d.run c ≠ s)
  rw [h1]
  refine ⟨fun b hb => (by cases hb),fun _ c hc hl hr => ?_⟩
  obtain ⟨t,ht,_⟩:=low c hc hl hr
  rw [h2] at ht; simp at ht
 ·show (∀ b,minB none (Dta.ofS (d.cands sm k) s) = some b -> d.Least (k + 1) s b) /\ (minB none (Dta.ofS (d.cands sm k) s) = none -> ∀ c:Bt,c.size = k + 1 -> c.lb d.L -> d.run c ≠ s)
  rw [h1]
  refine ⟨fun b' hb => ?_,fun hn => (by cases hn)⟩
  cases hb
  obtain ⟨g1,g2,g3⟩:=up b h2
  refine ⟨g1,g2,g3,fun c hc hl hr => ?_⟩
  obtain ⟨t,ht,hle⟩:=low c hc hl hr
  exact zeh (h3 t ht) hle
end Go.Proofs.YthkfjnmnoanhlaaGreatDoor
namespace Go.Proofs.YthkfjnmnoanhlaaGreatDoor
structure Dta.Is (d:Dta) (L:Nat) (S:Bt -> Bool):Prop where
 can:d.Canon
 hL:d.L = L
 lang:∀ t:Bt,t.lb L -> d.fin (d.run t) = S t
theorem Dta.mini_is {d:Dta} (h:d.OK) {L:Nat} (hL:d.L = L) {S:Bt -> Bool} (hS:∀ t:Bt,t.lb L -> d.fin (d.run t) = S t):d.mini.Is L S:=by
 obtain ⟨h1,h2,h3⟩:=d.mini_canon h
 refine ⟨h1,h2.trans hL,fun t ht => ?_⟩
 rw [<- h3 t (by rw [hL]; exact ht)]
 exact hS t ht
theorem Dta.Is.same {a b:Dta} {L:Nat} {S S':Bt -> Bool} (ha:a.Is L S) (hb:b.Is L S') (h:∀ t:Bt,t.lb L -> S t = S' t):a.Same b :=
 Dta.canon_same ha.can hb.can (ha.hL.trans hb.hL.symm) (fun t ht => by rw [ha.hL] at ht; rw [ha.lang t ht,hb.lang t ht,h t ht])
theorem Dta.Same.lang {a b:Dta} (h:a.Same b) (hb:b.OK):∀ t:Bt,t.lb a.L -> a.run t = b.run t /\ a.fin (a.run t) = b.fin (b.run t):=by
 have key:∀ t:Bt,t.lb a.L -> a.run t = b.run t:=by
  intro t
  induction t with
  | nil => intro _; exact h.e
  | node x l r ihl ihr =>
   intro ht
   simp only [Dta.run]
   have h1:=hb.run l (h.L ▸ ht.2.1)
   have h2:=hb.run r (h.L ▸ ht.2.2)
   rw [ihl ht.2.1,ihr ht.2.2,h.nx _ _ _ (h.n ▸ h1) (h.n ▸ h2) ht.1.2]
 intro t ht
 refine ⟨key t ht,?_⟩
 rw [key t ht,h.fin _ (h.n ▸ hb.run t (h.L ▸ ht))]
theorem Dta.Is.of_lang {d:Dta} {L:Nat} {S S':Bt -> Bool} (h:d.Is L S) (hS:∀ t:Bt,t.lb L -> S t = S' t):d.Is L S':=⟨h.can,h.hL,fun t ht => (h.lang t ht).trans (hS t ht)⟩
section
variable {K:Type} [DecidableEq K] (f:K -> K -> Nat -> K)
def explN (L N:Nat) (k0:K):List K:=loopE f (trE L) N [k0] 0
variable {f}
theorem zhc {L N:Nat} {k0:K} {P:K -> Prop} (hP:∀ a b x,P a -> P b -> x < L -> P (f a b x)) (hN:∀ o:List K,o.Nodup -> (∀ a ∈ o,P a) -> o.length <= N) (h0:P k0):Expl f L k0 (explN f L N k0) :=
 ⟨zf5 _ _ _ _ _ (by simp),zar (zi1 f (trE L) N [k0] 0) rfl,
  zf6 f (ze6 L) (P:=AccK f L k0) (fun a b x ha hb hx => AccK.step f ha hb hx) _ _ _ (by intro a ha; simp at ha; subst ha; exact AccK.zero f L a),
  ze8 f (ze6 L) (P:=P) (N:=N) hP hN N [k0] 0 (by omega) (by simp) (by intro a ha; simp at ha; subst ha; exact h0) (fun l r x a b hl => absurd hl (by omega))⟩
theorem zo8 {L N:Nat} {k0:K} {P:K -> Prop} (hP:∀ a b x,P a -> P b -> x < L -> P (f a b x)) (h0:P k0):∀ s ∈ explN f L N k0,P s :=
 zf6 f (ze6 L) (P:=P) hP _ _ _ (by intro a ha; simp at ha; subst ha; exact h0)
theorem Expl.len_eq {L:Nat} {k0:K} {o p:List K} (h:Expl f L k0 o) (g:Expl f L k0 p):o.length = p.length :=
 Nat.le_antisymm (g.most h.nodup h.acc) (h.most g.nodup g.acc)
theorem Expl.is {L:Nat} {k0:K} {o:List K} (h:Expl f L k0 o) (fin:K -> Bool):(autE f L k0 o fin).mini.Is L (fun t => fin (keyT f k0 t)) :=
 Dta.mini_is (h.ok fin) rfl fun t ht => h.lang fin t ht
theorem Expl.raw_eq {L:Nat} {k0:K} {o p:List K} (h:Expl f L k0 o) (g:Expl f L k0 p) (fin:K -> Bool):(autE f L k0 o fin).mini.Same (autE f L k0 p fin).mini :=
 (h.is fin).same (g.is fin) fun _ _ => rfl
end
theorem zla {n m:Nat} {o:List (Nat × Nat)} (h:o.Nodup) (hl:∀ p ∈ o,p.1 < n /\ p.2 < m):o.length <= n * m:=by
 have hs:=h.length_le_of_subset (l₂:=(List.range n).flatMap fun i => (List.range m).map fun j => (i,j)) (fun p hp => by
  rw [List.mem_flatMap]
  exact ⟨p.1,List.mem_range.2 (hl p hp).1,List.mem_map.2 ⟨p.2,List.mem_range.2 (hl p hp).2,rfl⟩⟩)
 have e:((List.range n).flatMap fun i => (List.range m).map fun j => (i,j)).length = n * m:=by
  rw [List.length_flatMap]
  have:(List.range n).map (fun i => ((List.range m).map fun j => (i,j)).length) = List.replicate n m:=by
   apply List.ext_getElem?
   intro i
   by_cases hi:i < n <;> simp [hi]
  rw [this,List.sum_replicate_nat]
 omega
def inPr (a b:Dta) (p:Nat × Nat):Prop:=p.1 < a.n /\ p.2 < b.n
theorem zgc {a b:Dta} (ha:a.OK) (hb:b.OK) (hL:a.L = b.L):∀ p q x,inPr a b p -> inPr a b q -> x < a.L -> inPr a b (pairF a b p q x) :=
 fun p q x hp hq hx => ⟨ha.hn _ _ _ hp.1 hq.1 hx,hb.hn _ _ _ hp.2 hq.2 (hL ▸ hx)⟩
def prodO (a b:Dta):List (Nat × Nat):=explN (pairF a b) a.L (a.n * b.n) (a.e,b.e)
theorem za9 {a b:Dta} (ha:a.OK) (hb:b.OK) (hL:a.L = b.L):Expl (pairF a b) a.L (a.e,b.e) (prodO a b) :=
 zhc (P:=inPr a b) (zgc ha hb hL) (fun o h1 h2 => zla h1 h2) ⟨ha.he,hb.he⟩
theorem zeb {a b:Dta} (ha:a.OK) (hb:b.OK) (hL:a.L = b.L):(prodO a b).length <= a.n * b.n :=
 zla (za9 ha hb hL).nodup (zo8 (P:=inPr a b) (zgc ha hb hL) ⟨ha.he,hb.he⟩)
def prodM (a b:Dta) (g:Bool -> Bool -> Bool):Dta:=(prodA a b (prodO a b) g).mini
theorem zcu {a b:Dta} (ha:a.OK) (hb:b.OK) (hL:a.L = b.L) (g:Bool -> Bool -> Bool):(prodM a b g).Is a.L (fun t => g (a.fin (a.run t)) (b.fin (b.run t))):=by
 have h:=(za9 ha hb hL).is (fun p => g (a.fin p.1) (b.fin p.2))
 exact h.of_lang fun t _ => by rw [zhx]
theorem zf0 {a b:Dta} (ha:a.OK) (hb:b.OK) (hL:a.L = b.L) (g:Bool -> Bool -> Bool) {o:List (Nat × Nat)} (h:Expl (pairF a b) a.L (a.e,b.e) o):(prodA a b o g).mini.Same (prodM a b g) :=
 h.raw_eq (za9 ha hb hL) _
theorem Dta.mini_n {d:Dta} (h:d.OK):d.mini.n <= d.n:=by
 have hc:=d.renum_ok h
 have hq:=(Dta.cls_cong hc).quot hc
 have h1:d.mini.n <= (d.renum.quo d.renum.cls.2 d.renum.cls.1 (repS d.renum.n d.renum.cls.1)).n:=Dta.order_len (hq.ok hc)
 have h2:d.renum.cls.2 <= d.renum.n:=Nat.le_trans (d.renum.count_ge fun i hi => ⟨_,(d.renum.cls_cong hc).rep i hi⟩) (d.renum.count_le _)
 have h3:d.renum.n <= d.n:=d.order_len h
 exact Nat.le_trans h1 (Nat.le_trans h2 h3)
theorem Dta.mini_ok {d:Dta} (h:d.OK):d.mini.OK:=(d.mini_canon h).1.ok
theorem znr {a b:Dta} (ha:a.OK) (hb:b.OK) (hL:a.L = b.L) (g:Bool -> Bool -> Bool):(prodM a b g).n <= (prodO a b).length:=by
 have:=Dta.mini_n ((za9 ha hb hL).ok (fun p => g (a.fin p.1) (b.fin p.2)))
 exact this
theorem Dta.neg_ok {d:Dta} (h:d.OK):d.neg.OK:=⟨h.he,h.hn⟩
def Dta.notM (d:Dta):Dta:=d.neg.mini
theorem Dta.notM_is {d:Dta} (h:d.OK):d.notM.Is d.L (fun t => !d.fin (d.run t)):=Dta.mini_is (Dta.neg_ok h) rfl fun t _ => d.neg_lang t
def mem64 (s:Nat):List Nat:=(List.range 64).filter s.testBit
theorem zbm (s p:Nat):p ∈ mem64 s ↔ p < 64 /\ s.testBit p = true:=by simp [mem64]
def orAll {α:Type} (l:List α) (F:α -> Nat -> Nat) (to:Nat):Nat:=l.foldl (fun to a => F a to) to
theorem zf1 {α:Type} (F:α -> Nat -> Nat) (B:α -> Nat -> Prop) (s:Nat) (hF:∀ a to,(F a to).testBit s = true ↔ to.testBit s = true \/ B a s):∀ (l:List α) (to:Nat),(orAll l F to).testBit s = true ↔ to.testBit s = true \/ ∃ a ∈ l,B a s
 | [],to => by simp [orAll]
 | a :: l,to => by
  have ih:=zf1 F B s hF l (F a to)
  show (orAll l F (F a to)).testBit s = true ↔ _
  rw [ih,hF]
  constructor
  ·rintro ((h | h) | ⟨b,hb,h⟩)
   ·exact .inl h
   ·exact .inr ⟨a,by simp,h⟩
   ·exact .inr ⟨b,by simp [hb],h⟩
  ·rintro (h | ⟨b,hb,h⟩)
   ·exact .inl (.inl h)
   ·rcases List.mem_cons.1 hb with rfl | hb
    ·exact .inl (.inr h)
    ·exact .inr ⟨b,hb,h⟩
def loV (v x:Nat):Nat:=x ^^^ (x &&& 2 ^ v)
def hiV (v x:Nat):Nat:=x ||| 2 ^ v
def setF (d:Dta) (v:Nat) (l r x:Nat):Nat :=
 orAll (mem64 l) (fun p to => orAll (mem64 r) (fun q to => to ||| (2 ^ d.nx p q (loV v x) ||| 2 ^ d.nx p q (hiV v x))) to) 0
theorem zjr (k s:Nat):(2 ^ k).testBit s = true ↔ s = k:=by
 rw [Nat.testBit_two_pow]; simp; exact eq_comm
theorem zkz (d:Dta) (v l r x s:Nat):(setF d v l r x).testBit s = true ↔ ∃ p q,(p < 64 /\ l.testBit p = true) /\ (q < 64 /\ r.testBit q = true) /\ (s = d.nx p q (loV v x) \/ s = d.nx p q (hiV v x)):=by
 unfold setF
 rw [zf1 _ (fun p s => ∃ q ∈ mem64 r,s = d.nx p q (loV v x) \/ s = d.nx p q (hiV v x)) s]
 ·simp only [Nat.zero_testBit,Bool.false_eq_true,false_or]
  constructor
  ·rintro ⟨p,hp,q,hq,h⟩
   exact ⟨p,q,(zbm _ _).1 hp,(zbm _ _).1 hq,h⟩
  ·rintro ⟨p,q,hp,hq,h⟩
   exact ⟨p,(zbm _ _).2 hp,q,(zbm _ _).2 hq,h⟩
 ·intro p to
  exact zf1 _ (fun q s => s = d.nx p q (loV v x) \/ s = d.nx p q (hiV v x)) s (fun q to => by
   rw [Nat.testBit_or,Nat.testBit_or,Bool.or_eq_true,Bool.or_eq_true,zjr,zjr]) _ _
theorem zoj (v x i:Nat):(loV v x).testBit i = (x.testBit i && !decide (v = i)):=by
 unfold loV
 rw [Nat.testBit_xor,Nat.testBit_and,Nat.testBit_two_pow]
 cases x.testBit i <;> cases decide (v = i) <;> rfl
theorem zo5 (v x i:Nat):(hiV v x).testBit i = (x.testBit i || decide (v = i)):=by
 unfold hiV
 rw [Nat.testBit_or,Nat.testBit_two_pow]
theorem loV_lt {V v x:Nat} (hv:v < V) (h:x < 2 ^ V):loV v x < 2 ^ V:=Nat.xor_lt_two_pow h (Nat.and_lt_two_pow _ (Nat.pow_lt_pow_right (by omega) hv))
theorem hiV_lt {V v x:Nat} (hv:v < V) (h:x < 2 ^ V):hiV v x < 2 ^ V:=Nat.or_lt_two_pow h (Nat.pow_lt_pow_right (by omega) hv)
theorem set_lt {n s:Nat} (h:∀ i,s.testBit i = true -> i < n):s < 2 ^ n:=by
 apply Nat.lt_pow_two_of_testBit
 intro i hi
 cases hb:s.testBit i with
 | false => rfl
 | true => exact absurd (h i hb) (by omega)
theorem zf4 {n s i:Nat} (h:s < 2 ^ n) (hb:s.testBit i = true):i < n:=by
 by_cases hi:i < n
 ·exact hi
 ·have:=Nat.testBit_lt_two_pow (Nat.lt_of_lt_of_le h (Nat.pow_le_pow_right (by omega) (show n <= i by omega)))
  rw [this] at hb; cases hb
theorem zho {d:Dta} (h:d.OK) {V v:Nat} (hL:d.L = 2 ^ V) (hv:v < V):∀ l r x,l < 2 ^ d.n -> r < 2 ^ d.n -> x < d.L -> setF d v l r x < 2 ^ d.n:=by
 intro l r x hl hr hx
 refine set_lt fun i hi => ?_
 obtain ⟨p,q,hp,hq,hs⟩:=(zkz d v l r x i).1 hi
 have h1:=zf4 hl hp.2
 have h2:=zf4 hr hq.2
 rcases hs with rfl | rfl
 ·exact h.hn _ _ _ h1 h2 (hL ▸ loV_lt hv (hL ▸ hx))
 ·exact h.hn _ _ _ h1 h2 (hL ▸ hiV_lt hv (hL ▸ hx))
def setO (d:Dta) (v:Nat):List Nat:=explN (setF d v) d.L (2 ^ d.n) (2 ^ d.e)
theorem zea {d:Dta} (h:d.OK) {V v:Nat} (hL:d.L = 2 ^ V) (hv:v < V):Expl (setF d v) d.L (2 ^ d.e) (setO d v) :=
 zhc (P:=fun s => s < 2 ^ d.n) (zho h hL hv) (fun o h1 h2 => zbl h1 h2) (Nat.pow_lt_pow_right (by omega) h.he)
def zb3 (d:Dta) (s:Nat):Bool:=(mem64 s).any d.fin
def zax (d:Dta) (v:Nat):Dta:=(autE (setF d v) d.L (2 ^ d.e) (setO d v) (zb3 d)).mini
abbrev VarV (v:Nat):Bt -> Bt -> Prop:=VarT (loV v) (hiV v)
theorem zm8 {d:Dta} (h:d.OK) (h64:d.n <= 64) {V v:Nat} (hL:d.L = 2 ^ V) (hv:v < V) (t:Bt) (ht:t.lb d.L) (s:Nat):(keyT (setF d v) (2 ^ d.e) t).testBit s = true ↔ ∃ u,VarV v t u /\ d.run u = s:=by
 have hlt:∀ t:Bt,t.lb d.L -> keyT (setF d v) (2 ^ d.e) t < 2 ^ d.n:=by
  intro t
  induction t with
  | nil => intro _; exact Nat.pow_lt_pow_right (by omega) h.he
  | node a l r ihl ihr => intro ht; exact zho h hL hv _ _ _ (ihl ht.2.1) (ihr ht.2.2) ht.1.2
 induction t generalizing s with
 | nil =>
  show (2 ^ d.e).testBit s = true ↔ _
  rw [zjr]
  constructor
  ·rintro rfl; exact ⟨.nil,trivial,rfl⟩
  ·rintro ⟨u,hu,rfl⟩
   cases u with
   | nil => rfl
   | node => exact absurd hu (by simp [VarV,VarT])
 | node a l r ihl ihr =>
  show (setF d v (keyT (setF d v) (2 ^ d.e) l) (keyT (setF d v) (2 ^ d.e) r) a.toNat).testBit s = true ↔ _
  rw [zkz]
  constructor
  ·rintro ⟨p,q,hp,hq,h3⟩
   obtain ⟨u,hu,rfl⟩:=(ihl ht.2.1 p).1 hp.2
   obtain ⟨w,hw,rfl⟩:=(ihr ht.2.2 q).1 hq.2
   rcases h3 with rfl | rfl
   ·exact ⟨.node (loV v a.toNat:Nat) u w,⟨.inl (by simp),by omega,hu,hw⟩,by simp [Dta.run]⟩
   ·exact ⟨.node (hiV v a.toNat:Nat) u w,⟨.inr (by simp),by omega,hu,hw⟩,by simp [Dta.run]⟩
  ·rintro ⟨u,hu,rfl⟩
   cases u with
   | nil => exact absurd hu (by simp [VarV,VarT])
   | node b u w =>
    obtain ⟨hb,_,h1,h2⟩:=hu
    have k1:=(ihl ht.2.1 (d.run u)).2 ⟨u,h1,rfl⟩
    have k2:=(ihr ht.2.2 (d.run w)).2 ⟨w,h2,rfl⟩
    refine ⟨d.run u,d.run w,⟨Nat.lt_of_lt_of_le (zf4 (hlt l ht.2.1) k1) h64,k1⟩,⟨Nat.lt_of_lt_of_le (zf4 (hlt r ht.2.2) k2) h64,k2⟩,?_⟩
    simp only [Dta.run]
    rcases hb with hb | hb
    ·exact .inl (by rw [hb])
    ·exact .inr (by rw [hb])
theorem zhd {d:Dta} (h:d.OK) {V v:Nat} (hL:d.L = 2 ^ V) (hv:v < V):(zax d v).Is d.L (fun t => zb3 d (keyT (setF d v) (2 ^ d.e) t)):=(zea h hL hv).is (zb3 d)
theorem zj8 {d:Dta} (h:d.OK) (h64:d.n <= 64) {V v:Nat} (hL:d.L = 2 ^ V) (hv:v < V) (t:Bt) (ht:t.lb d.L):zb3 d (keyT (setF d v) (2 ^ d.e) t) = true ↔ ∃ u,VarV v t u /\ d.fin (d.run u) = true:=by
 unfold zb3
 rw [List.any_eq_true]
 constructor
 ·rintro ⟨s,hs,hf⟩
  obtain ⟨u,hu,rfl⟩:=(zm8 h h64 hL hv t ht s).1 ((zbm _ _).1 hs).2
  exact ⟨u,hu,hf⟩
 ·rintro ⟨u,hu,hf⟩
  have hb:=(zm8 h h64 hL hv t ht (d.run u)).2 ⟨u,hu,rfl⟩
  refine ⟨d.run u,(zbm _ _).2 ⟨?_,hb⟩,hf⟩
  refine Nat.lt_of_lt_of_le (zf4 ?_ hb) h64
  have hlt:∀ t:Bt,t.lb d.L -> keyT (setF d v) (2 ^ d.e) t < 2 ^ d.n:=by
   intro t
   induction t with
   | nil => intro _; exact Nat.pow_lt_pow_right (by omega) h.he
   | node a l r ihl ihr => intro ht; exact zho h hL hv _ _ _ (ihl ht.2.1) (ihr ht.2.2) ht.1.2
  exact hlt t ht
theorem zgf {d:Dta} (h:d.OK) {V v:Nat} (hL:d.L = 2 ^ V) (hv:v < V) {o:List Nat} (ho:Expl (setF d v) d.L (2 ^ d.e) o):(autE (setF d v) d.L (2 ^ d.e) o (zb3 d)).mini.Same (zax d v) :=
 ho.raw_eq (zea h hL hv) _
def labC (v:Nat) (a b:Int):Prop:=(b.toNat = loV v a.toNat \/ b.toNat = hiV v a.toNat) /\ 0 <= b
theorem zij {v:Nat} {a b:Int} {l r l' r':Bt}:VarV v (.node a l r) (.node b l' r') ↔ labC v a b /\ VarV v l l' /\ VarV v r r':=by
 constructor
 ·intro h
  obtain ⟨h1,h2,h3,h4⟩:=h
  exact ⟨⟨h1,h2⟩,h3,h4⟩
 ·intro h
  obtain ⟨⟨h1,h2⟩,h3,h4⟩:=h
  exact ⟨h1,h2,h3,h4⟩
theorem zqv {v:Nat} {a b:Int}:labC v a b ↔ 0 <= b /\ ∀ i,i ≠ v -> b.toNat.testBit i = a.toNat.testBit i:=by
 unfold labC
 constructor
 ·rintro ⟨h | h,h0⟩
  ·refine ⟨h0,fun i hi => ?_⟩
   rw [h,zoj]; simp [Ne.symm hi]
  ·refine ⟨h0,fun i hi => ?_⟩
   rw [h,zo5]; simp [Ne.symm hi]
 ·rintro ⟨h0,h⟩
  refine ⟨?_,h0⟩
  cases hb:b.toNat.testBit v with
  | false =>
   left
   apply Nat.eq_of_testBit_eq
   intro i
   rw [zoj]
   by_cases hi:i = v
   ·subst hi; simp [hb]
   ·rw [h i hi]; simp [Ne.symm hi]
  | true =>
   right
   apply Nat.eq_of_testBit_eq
   intro i
   rw [zo5]
   by_cases hi:i = v
   ·subst hi; simp [hb]
   ·rw [h i hi]; simp [Ne.symm hi]
theorem zd4 (v:Nat) {L:Nat}:∀ t:Bt,t.lb L -> VarV v t t
 | .nil,_ => trivial
 | .node a l r,h => zij.2 ⟨zqv.2 ⟨h.1.1,fun _ _ => rfl⟩,zd4 v l h.2.1,zd4 v r h.2.2⟩
theorem zmn {d:Dta} (h:d.OK) (h64:d.n <= 64) {V v:Nat} (hL:d.L = 2 ^ V) (hv:v < V) (t:Bt) (ht:t.lb d.L):(zax d v).fin ((zax d v).run t) = true ↔ ∃ u,VarV v t u /\ d.fin (d.run u) = true:=by
 rw [(zhd h hL hv).lang t ht]
 exact zj8 h h64 hL hv t ht
end Go.Proofs.YthkfjnmnoanhlaaGreatDoor
namespace Go.Proofs.YthkfjnmnoanhlaaGreatDoor
def sizR (d:Dta) (sm:List (List (Option Bt))):Nat -> List (Option Bt)
 | 0 => (List.range d.n).map fun s => if s = d.e then some .nil else none
 | k + 1 => (List.range d.n).map fun s => minB none (Dta.ofS (d.cands (fun i l => (sm.getD i []).getD l none) k) s)
def zan (d:Dta):Nat -> List (List (Option Bt))
 | 0 => []
 | n + 1 => zan d n ++ [sizR d (zan d n) n]
theorem zav (d:Dta):∀ n,(zan d n).length = n
 | 0 => rfl
 | n + 1 => by rw [zan,List.length_append,zav d n]; rfl
theorem zbi (d:Dta):∀ n i,i < n -> (zan d n)[i]? = some (sizR d (zan d i) i)
 | 0,i,h => by omega
 | n + 1,i,h => by
  rw [zan]
  by_cases e:i < n
  ·rw [List.getElem?_append_left (by rw [zav]; exact e)]; exact zbi d n i e
  ·have:i = n:=by omega
   subst this
   rw [List.getElem?_append_right (by rw [zav]; exact zn),zav,Nat.sub_self]; rfl
theorem zbr (d:Dta) (sm:List (List (Option Bt))) (k:Nat):(sizR d sm k).length = d.n:=by cases k <;> simp [sizR]
def rowS (d:Dta) (n s:Nat):Option Bt:=(sizR d (zan d n) n).getD s none
theorem zeq (d:Dta) {n i l:Nat} (h:i < n):((zan d n).getD i []).getD l none = rowS d i l:=by
 rw [List.getD_eq_getElem?_getD,List.getD_eq_getElem?_getD (l:=zan d n),zbi d n i h]
 show _ = (sizR d (zan d i) i).getD l none
 rw [List.getD_eq_getElem?_getD]; rfl
theorem zkh (d:Dta) {sm sm':Nat -> Nat -> Option Bt} (k:Nat) (h:∀ i l,i <= k -> sm i l = sm' i l):d.cands sm k = d.cands sm' k:=by
 unfold Dta.cands
 rw [List.flatMap_def,List.flatMap_def]
 congr 1
 apply List.map_congr_left
 intro i hi
 have hi:=List.mem_range.1 hi
 rw [List.flatMap_def,List.flatMap_def]
 congr 1
 apply List.map_congr_left
 intro l _
 rw [List.flatMap_def,List.flatMap_def]
 congr 1
 apply List.map_congr_left
 intro r _
 rw [h i l (by omega),h (k - i) r (by omega)]
theorem znc (d:Dta) (s:Nat) (h:s < d.n):rowS d 0 s = if s = d.e then some .nil else none:=by
 unfold rowS sizR
 rw [List.getD_eq_getElem?_getD,List.getElem?_map,List.getElem?_range h]; rfl
theorem znd (d:Dta) (k s:Nat) (h:s < d.n):rowS d (k + 1) s = minB none (Dta.ofS (d.cands (rowS d) k) s):=by
 unfold rowS sizR
 rw [List.getD_eq_getElem?_getD,List.getElem?_map,List.getElem?_range h]
 show minB none (Dta.ofS (d.cands _ k) s) = _
 rw [zkh d k (fun i l hi => zeq d (show i < k + 1 by omega))]
 rfl
theorem Dta.Knows.congr {d:Dta} {n:Nat} {f g:Nat -> Option Bt} (h:d.Knows n f) (e:∀ s,s < d.n -> f s = g s):d.Knows n g:=fun s hs => by
 rw [<- e s hs]; exact h s hs
theorem zcn {d:Dta} (h:d.OK):∀ n,d.Knows n (rowS d n):=by
 intro n
 induction n using Nat.strongRecOn with
 | ind n ih =>
  cases n with
  | zero => exact d.knows_zero.congr fun s hs => (znc d s hs).symm
  | succ k => exact (d.knows_succ h (rowS d) k (fun i hi => ih i (by omega))).congr fun s hs => (znd d k s hs).symm
def accL (d:Dta) (row:Nat -> Option Bt):List Bt:=(List.range d.n).filterMap fun s => if d.fin s then row s else none
def bestS (d:Dta) (n:Nat):Option Bt:=minB none (accL d (rowS d n))
def zb2 (d:Dta):Option Bt:=(List.range 32).findSome? (bestS d)
theorem ze2 {d:Dta} (h:d.OK) {n:Nat} {t:Bt} (hb:bestS d n = some t):t.size = n /\ t.lb d.L /\ d.fin (d.run t) = true /\ ∀ u:Bt,u.size = n -> u.lb d.L -> d.fin (d.run u) = true -> leB t u:=by
 have hk:=zcn h n
 have mem:∀ u,u ∈ accL d (rowS d n) ↔ ∃ s,s < d.n /\ d.fin s = true /\ rowS d n s = some u:=by
  intro u
  unfold accL
  rw [List.mem_filterMap]
  constructor
  ·rintro ⟨s,hs,e⟩
   by_cases hf:d.fin s = true
   ·rw [if_pos hf] at e; exact ⟨s,List.mem_range.1 hs,hf,e⟩
   ·rw [if_neg hf] at e; cases e
  ·rintro ⟨s,hs,hf,e⟩
   exact ⟨s,List.mem_range.2 hs,by rw [if_pos hf]; exact e⟩
 rcases zcl (accL d (rowS d n)) with ⟨h1,_⟩ | ⟨b,h1,h2,h3⟩
 ·unfold bestS at hb; rw [h1] at hb; cases hb
 ·unfold bestS at hb
  rw [h1] at hb
  cases hb
  obtain ⟨s,hs,hf,e⟩:=(mem t).1 h2
  have hl:=(hk s hs).1 t e
  refine ⟨hl.size,hl.lb,by rw [hl.run]; exact hf,fun u hu hul huf => ?_⟩
  have hs2:=h.run u hul
  cases e2:rowS d n (d.run u) with
  | none => exact absurd rfl ((hk _ hs2).2 e2 u hu hul)
  | some b =>
   exact zeh (h3 b ((mem b).2 ⟨_,hs2,huf,e2⟩)) (((hk _ hs2).1 b e2).le u hu hul rfl)
theorem zhh {d:Dta} (h:d.OK) {n:Nat} (hb:bestS d n = none):∀ u:Bt,u.size = n -> u.lb d.L -> d.fin (d.run u) = false:=by
 intro u hu hul
 have hk:=zcn h n
 have hs2:=h.run u hul
 cases hf:d.fin (d.run u) with
 | false => rfl
 | true =>
  cases e2:rowS d n (d.run u) with
  | none => exact absurd rfl ((hk _ hs2).2 e2 u hu hul)
  | some b =>
   rcases zcl (accL d (rowS d n)) with ⟨_,h2⟩ | ⟨c,h1,_,_⟩
   ·have:b ∈ accL d (rowS d n):=by
     unfold accL
     exact List.mem_filterMap.2 ⟨d.run u,List.mem_range.2 hs2,by rw [if_pos hf]; exact e2⟩
    rw [h2] at this; simp at this
   ·unfold bestS at hb; rw [h1] at hb; cases hb
theorem zdq {α:Type} {f:Nat -> Option α}:∀ {n:Nat} {t:α},(List.range n).findSome? f = some t -> ∃ k,k < n /\ f k = some t /\ ∀ j,j < k -> f j = none
 | 0,t,h => by simp at h
 | n + 1,t,h => by
  rw [List.range_succ,List.findSome?_append] at h
  cases e:(List.range n).findSome? f with
  | some u =>
   rw [e] at h
   simp only [Option.some_or,Option.some.injEq] at h
   subst h
   obtain ⟨k,h1,h2⟩:=zdq e
   exact ⟨k,by omega,h2⟩
  | none =>
   rw [e] at h
   simp only [Option.none_or,List.findSome?_cons,List.findSome?_nil] at h
   refine ⟨n,by omega,?_,fun j hj => ?_⟩
   ·cases e2:f n with
    | none => rw [e2] at h; cases h
    | some v => rw [e2] at h; exact h
   ·exact List.findSome?_eq_none_iff.1 e j (List.mem_range.2 hj)
theorem zdf {α:Type} {f:Nat -> Option α} {n:Nat} (h:(List.range n).findSome? f = none):∀ j,j < n -> f j = none:=fun j hj => List.findSome?_eq_none_iff.1 h j (List.mem_range.2 hj)
theorem zek {α:Type} {f:Nat -> Option α} {n k:Nat} {t:α} (hk:k < n) (h1:f k = some t) (h2:∀ j,j < k -> f j = none):(List.range n).findSome? f = some t:=by
 cases e:(List.range n).findSome? f with
 | none => have:=zdf e k hk; rw [this] at h1; cases h1
 | some u =>
  obtain ⟨j,h3,h4,h5⟩:=zdq e
  have:j = k:=by
   rcases Nat.lt_trichotomy j k with h | h | h
   ·rw [h2 j h] at h4; cases h4
   ·exact h
   ·rw [h5 k h] at h1; cases h1
  subst this
  rw [h1] at h4; rw [h4]
theorem zl5 {d:Dta} (h:d.OK) {t:Bt} (hs:zb2 d = some t):t.size <= 31 /\ t.lb d.L /\ d.fin (d.run t) = true /\ ∀ u:Bt,u.lb d.L -> d.fin (d.run u) = true -> t.size < u.size \/ t.size = u.size /\ leB t u:=by
 obtain ⟨k,h1,h2,h3⟩:=zdq hs
 obtain ⟨g1,g2,g3,g4⟩:=ze2 h h2
 refine ⟨by omega,g2,g3,fun u hu hf => ?_⟩
 rcases Nat.lt_trichotomy u.size k with hl | he | hl
 ·have:=zhh h (h3 _ hl) u rfl hu
  rw [this] at hf; cases hf
 ·exact .inr ⟨by omega,g4 u he hu hf⟩
 ·exact .inl (by omega)
theorem zl6 {d:Dta} (h:d.OK) (hs:zb2 d = none):∀ u:Bt,u.lb d.L -> d.fin (d.run u) = true -> 31 < u.size:=by
 intro u hu hf
 by_cases hl:u.size < 32
 ·have:=zhh h (zdf hs _ hl) u rfl hu
  rw [this] at hf; cases hf
 ·omega
def zb7 (d:Dta):Bool:=!((List.range d.renum.n).any d.renum.fin)
theorem zi8 {d:Dta} (h:d.OK):zb7 d = true ↔ ∀ t:Bt,t.lb d.L -> d.fin (d.run t) = false:=by
 unfold zb7
 rw [Bool.not_eq_true',List.any_eq_false]
 constructor
 ·intro ha t ht
  rw [d.renum_lang h t ht]
  have:=ha _ (List.mem_range.2 ((d.renum_ok h).run t ht))
  simpa using this
 ·intro ha s hs
  obtain ⟨t,h1,h2⟩:=d.renum_acc h s (List.mem_range.1 hs)
  rw [<- h2,<- d.renum_lang h t h1,ha t h1]; simp
def accN (d:Dta) (n:Nat):Nat:=((tsF d.L (n + 1) n).filter fun b => d.fin (d.run b)).length
theorem acc_sum {d:Dta} (h:d.OK) (n:Nat):sumR d.n (fun s => if d.fin s then d.cnt n s else 0) = accN d n:=by
 unfold accN
 rw [zha]
 have e:=zfp d.n d.run (fun s => if d.fin s then 1 else 0) (tsF d.L (n + 1) n) (fun b hb => h.run b ((zh1 d.L (n + 1) n (by omega) b).1 hb).2)
 rw [e]
 unfold sumR
 congr 1
 apply List.map_congr_left
 intro s _
 unfold Dta.cnt
 split <;> simp
end Go.Proofs.YthkfjnmnoanhlaaGreatDoor
namespace Go.Proofs.YthkfjnmnoanhlaaGreatDoor
def trX (L a b x:Nat):List (Nat × Nat × Nat):=(List.range' x (L - x)).map fun x => (a,b,x)
def trJ (L k j:Nat):List (Nat × Nat × Nat):=(List.range' j (k + 1 - j)).flatMap fun j => trX L j k 0 ++ trX L k j 0
theorem zhm {L a b x:Nat} (h:x < L):trX L a b x = (a,b,x) :: trX L a b (x + 1):=by
 unfold trX
 obtain ⟨m,hm⟩:∃ m,L - x = m + 1:=⟨L - x - 1,by omega⟩
 rw [hm,List.range'_succ,List.map_cons,show L - (x + 1) = m by omega]
theorem zjs {L a b x:Nat} (h:L <= x):trX L a b x = []:=by
 unfold trX; rw [show L - x = 0 by omega]; rfl
theorem zkt {L k j:Nat} (h:j <= k):trJ L k j = trX L j k 0 ++ (trX L k j 0 ++ trJ L k (j + 1)):=by
 unfold trJ
 obtain ⟨m,hm⟩:∃ m,k + 1 - j = m + 1:=⟨k - j,by omega⟩
 rw [hm,List.range'_succ,List.flatMap_cons,show k + 1 - (j + 1) = m by omega,List.append_assoc]
theorem zm4 {L k j:Nat} (h:k < j):trJ L k j = []:=by
 unfold trJ; rw [show k + 1 - j = 0 by omega]; rfl
theorem trE_eq (L k:Nat):trE L k = trJ L k 0:=by
 unfold trE trJ trX
 rw [Nat.sub_zero,Nat.sub_zero,List.range_eq_range',List.range_eq_range']
 simp only [List.flatMap_cons,List.flatMap_nil,List.append_nil]
section
variable {K:Type} [DecidableEq K] (f:K -> K -> Nat -> K)
theorem zna (o:List K) (p:Nat × Nat × Nat) (ps:List (Nat × Nat × Nat)):runE f o (p :: ps) = runE f (stepE f o p) ps:=rfl
theorem zp7 {o:List K} {l r x:Nat} {a b:K} (hl:o[l]? = some a) (hr:o[r]? = some b):stepE f o (l,r,x) = addS o (f a b x):=by
 unfold stepE; simp only [hl,hr]
end
structure ExplI (d:Dta) (o:List Nat) (k:Nat):Prop where
 rest:loopE d.nx (trE d.L) (d.n - k) o k = d.order
 nodup:o.Nodup
 lt:∀ a ∈ o,a < d.n
 pos:0 < o.length
 le:k <= o.length
theorem ExplI.start {d:Dta} (h:d.OK):ExplI d [d.e] 0:=⟨by rw [Nat.sub_zero]; rfl,by simp,by intro a ha; simp at ha; subst ha; exact h.he,by simp,Nat.zero_le _⟩
theorem ExplI.len {d:Dta} {o:List Nat} {k:Nat} (h:ExplI d o k):o.length <= d.n:=zbl h.nodup h.lt
theorem ExplI.done {d:Dta} {o:List Nat} {k:Nat} (h:ExplI d o k) (hk:¬ k < o.length):o = d.order:=by
 have h1:=h.rest
 cases e:d.n - k with
 | zero => rw [e] at h1; exact h1
 | succ m => rw [e,loopE,if_neg hk] at h1; exact h1
structure ExplR (d:Dta) (k:Nat) (ps:List (Nat × Nat × Nat)) (o:List Nat):Prop where
 rest:loopE d.nx (trE d.L) (d.n - (k + 1)) (runE d.nx o ps) (k + 1) = d.order
 nodup:o.Nodup
 lt:∀ a ∈ o,a < d.n
 k:k < o.length
theorem ExplR.len {d:Dta} {o:List Nat} {k:Nat} {ps} (h:ExplR d k ps o):o.length <= d.n:=zbl h.nodup h.lt
theorem ExplI.round {d:Dta} {o:List Nat} {k:Nat} (h:ExplI d o k) (hk:k < o.length):ExplR d k (trJ d.L k 0) o:=by
 have h1:=h.rest
 have hl:=h.len
 obtain ⟨m,hm⟩:∃ m,d.n - k = m + 1:=⟨d.n - k - 1,by omega⟩
 rw [hm,loopE,if_pos hk,trE_eq] at h1
 exact ⟨by rw [show d.n - (k + 1) = m by omega]; exact h1,h.nodup,h.lt,hk⟩
theorem ExplR.next {d:Dta} {o:List Nat} {k:Nat} (h:ExplR d k [] o):ExplI d o (k + 1):=⟨h.rest,h.nodup,h.lt,by have:=h.k; omega,h.k⟩
theorem ExplR.step {d:Dta} (hd:d.OK) {o:List Nat} {k l r x:Nat} {ps:List (Nat × Nat × Nat)} (h:ExplR d k ((l,r,x) :: ps) o) (hx:x < d.L) {a b:Nat} (hl:o[l]? = some a) (hr:o[r]? = some b):ExplR d k ps (addS o (d.nx a b x)):=by
 have h1:=h.rest
 rw [zna,zp7 d.nx hl hr] at h1
 exact ⟨h1,zdv h.nodup,zfj h.lt (hd.hn _ _ _ (h.lt _ (List.mem_of_getElem? hl)) (h.lt _ (List.mem_of_getElem? hr)) hx),Nat.lt_of_lt_of_le h.k (zbg _ _).length_le⟩
end Go.Proofs.YthkfjnmnoanhlaaGreatDoor
namespace Go.Proofs.YthkfjnmnoanhlaaGreatDoor
def fb (b:Bool):List Nat:=if b then [116,114,117,101] else [102,97,108,115,101]
def nb (c:Nat):List Nat:=[32,c]
def encB:List Nat -> List Nat
 | [] => []
 | m :: cs => fb (m == 1) ++ cs.flatMap nb
def gB (r:List Nat):List UInt8:=(encB r).map fun (x:Nat) => UInt8.ofNat x
theorem u8_inj {a b:Nat} (ha:a < 256) (hb:b < 256) (h:UInt8.ofNat a = UInt8.ofNat b):a = b:=by
 have:=congrArg UInt8.toNat h
 simp [UInt8.toNat_ofNat'] at this
 omega
theorem zoc:∀ (a b:List Nat),(∀ c ∈ a,c < 256) -> (∀ c ∈ b,c < 256) -> (a.flatMap nb).map (fun (x:Nat) => UInt8.ofNat x) = (b.flatMap nb).map (fun (x:Nat) => UInt8.ofNat x) -> a = b
 | [],[],_,_,_ => rfl
 | [],c :: b,_,_,h => by simp [nb] at h
 | c :: a,[],_,_,h => by simp [nb] at h
 | c :: a,e :: b,ha,hb,h => by
  simp only [List.flatMap_cons,nb,List.cons_append,List.nil_append,List.map_cons,List.cons.injEq] at h
  rw [u8_inj (ha c (by simp)) (hb e (by simp)) h.2.1,zoc a b (fun x hx => ha x (by simp [hx])) (fun x hx => hb x (by simp [hx])) h.2.2]
structure RowOK (r:List Nat):Prop where
 sh:∃ m cs,r = m :: cs /\ (m = 0 \/ m = 1) /\ ∀ c ∈ cs,c < 256
theorem gB_inj {a b:List Nat} (ha:RowOK a) (hb:RowOK b) (h:gB a = gB b):a = b:=by
 obtain ⟨m,cs,rfl,hm,hc⟩:=ha.sh
 obtain ⟨m',cs',rfl,hm',hc'⟩:=hb.sh
 unfold gB encB fb at h
 rcases hm with rfl | rfl <;> rcases hm' with rfl | rfl
 ·simp only [List.map_append] at h
  have h2:=List.append_cancel_left h
  rw [zoc cs cs' hc hc' h2]
 ·simp at h
 ·simp at h
 ·simp only [List.map_append] at h
  have h2:=List.append_cancel_left h
  rw [zoc cs cs' hc hc' h2]
theorem Dta.row_rowOK (d:Dta) (cl:Nat -> Nat) (h:∀ s,cl s < 256) (s:Nat):RowOK (d.row cl s):=by
 refine ⟨_,_,rfl,?_,?_⟩
 ·cases d.fin s <;> simp
 ·intro c hc
  simp only [List.mem_cons,List.mem_flatMap] at hc
  rcases hc with rfl | ⟨q,_,x,_,hc⟩
  ·exact h s
  ·simp at hc
   rcases hc with rfl | rfl <;> exact h _
def idxD {α:Type} [DecidableEq α] (l:List α) (a:α):Nat:=l.idxOf a
theorem zbo {α:Type} [DecidableEq α] (b:α) (l:List α) (a:α):idxD (b :: l) a = if b = a then 0 else idxD l a + 1:=by
 unfold idxD
 rw [List.idxOf_cons]
 by_cases e:b = a
 ·subst e; rw [if_pos rfl,beq_self_eq_true]; rfl
 ·have e2:(b == a) = false:=beq_eq_false_iff_ne.2 e
  rw [if_neg e,e2]; rfl
theorem zo2 {α:Type} [DecidableEq α] [I:BEq α] [LawfulBEq α] (l:List α) (a:α):idxD l a = @List.idxOf α I a l:=by
 induction l with
 | nil => rfl
 | cons b l ih =>
  rw [zbo,List.idxOf_cons,ih]
  by_cases e:b = a
  ·subst e; rw [if_pos rfl,beq_self_eq_true]; rfl
  ·have e2:(b == a) = false:=beq_eq_false_iff_ne.2 e
   rw [if_neg e,e2]; rfl
theorem zoi {α β:Type} [DecidableEq α] [DecidableEq β] {g:α -> β} {P:α -> Prop} (hg:∀ a b,P a -> P b -> g a = g b -> a = b) {a:α} (ha:P a):∀ (o:List α),(∀ b ∈ o,P b) -> idxD (o.map g) (g a) = idxD o a
 | [],_ => rfl
 | b :: o,ho => by
  rw [List.map_cons,zbo,zbo,zoi hg ha o (fun c hc => ho c (by simp [hc]))]
  by_cases e:b = a
  ·subst e; simp
  ·have:g b ≠ g a:=fun h => e (hg b a (ho b (by simp)) ha h)
   rw [if_neg e,if_neg this]
theorem zdz {α:Type} [DecidableEq α] (o t:List α) (a:α):idxD (o ++ t) a = if a ∈ o then idxD o a else o.length + idxD t a:=by
 induction o with
 | nil => simp
 | cons b o ih =>
  rw [List.cons_append,zbo,zbo,ih]
  by_cases e:b = a
  ·subst e; simp
  ·by_cases h:a ∈ o
   ·simp [e,h]
   ·have e':a ≠ b:=fun q => e q.symm
    simp [e,e',h]; omega
def Dta.KS (d:Dta) (cl:Nat -> Nat) (s:Nat):List (List Nat):=keysS ((d.rows cl).take s)
def Dta.KB (d:Dta) (cl:Nat -> Nat) (s:Nat):List (List UInt8):=(d.KS cl s).map gB
theorem Dta.rows_len (d:Dta) (cl:Nat -> Nat):(d.rows cl).length = d.n:=by simp [Dta.rows]
theorem Dta.rows_at (d:Dta) (cl:Nat -> Nat) {s:Nat} (h:s < d.n):(d.rows cl)[s]? = some (d.row cl s):=by
 unfold Dta.rows; rw [List.getElem?_map,List.getElem?_range h]; rfl
theorem Dta.KS_succ (d:Dta) (cl:Nat -> Nat) {s:Nat} (h:s < d.n):d.KS cl (s + 1) = addS (d.KS cl s) (d.row cl s):=by
 unfold Dta.KS keysS
 rw [List.take_add_one,d.rows_at cl h,List.foldl_append]; rfl
theorem Dta.KS_full (d:Dta) (cl:Nat -> Nat):d.KS cl d.n = keysS (d.rows cl):=by
 unfold Dta.KS; rw [List.take_of_length_le (by rw [d.rows_len]; exact zn)]
theorem Dta.KS_pre (d:Dta) (cl:Nat -> Nat) (s:Nat):d.KS cl s <+: keysS (d.rows cl):=by
 unfold Dta.KS keysS
 conv => rhs; rw [<- List.take_append_drop s (d.rows cl),List.foldl_append]
 exact (zdp _ _ (zg9 _)).2.1
theorem Dta.KS_ok (d:Dta) (cl:Nat -> Nat) (h:∀ s,cl s < 256) (s:Nat):∀ r ∈ d.KS cl s,RowOK r:=by
 intro r hr
 unfold Dta.KS at hr
 rw [zh5] at hr
 obtain ⟨t,_,rfl⟩:=List.mem_map.1 (List.mem_of_mem_take hr)
 exact d.row_rowOK cl h t
theorem zo1 {α:Type} [DecidableEq α] {o p:List α} (h:o <+: p) {a:α} (ha:a ∈ o):idxD p a = idxD o a:=by
 obtain ⟨t,rfl⟩:=h
 rw [zdz,if_pos ha]
theorem Dta.KB_mem (d:Dta) (cl:Nat -> Nat) (h:∀ s,cl s < 256) (s:Nat):gB (d.row cl s) ∈ d.KB cl s ↔ d.row cl s ∈ d.KS cl s:=by
 unfold Dta.KB
 constructor
 ·intro hm
  obtain ⟨b,hb,e⟩:=List.mem_map.1 hm
  exact gB_inj (d.KS_ok cl h s b hb) (d.row_rowOK cl h s) e ▸ hb
 ·exact fun hm => List.mem_map.2 ⟨_,hm,rfl⟩
theorem Dta.KB_hit (d:Dta) (cl:Nat -> Nat) (h:∀ s,cl s < 256) {s:Nat} (hs:s < d.n) (hm:d.row cl s ∈ d.KS cl s):idxD (d.KB cl s) (gB (d.row cl s)) = d.next cl s /\ d.KB cl (s + 1) = d.KB cl s:=by
 refine ⟨?_,?_⟩
 ·unfold Dta.KB
  rw [zoi (P:=RowOK) (fun a b => gB_inj) (d.row_rowOK cl h s) _ (d.KS_ok cl h s)]
  rw [<- zo1 (d.KS_pre cl s) hm,zo2]
  rfl
 ·unfold Dta.KB
  rw [d.KS_succ cl hs]
  unfold addS
  rw [if_pos hm]
theorem Dta.KB_miss (d:Dta) (cl:Nat -> Nat) {s:Nat} (hs:s < d.n) (hm:d.row cl s ∉ d.KS cl s):(d.KB cl s).length = d.next cl s /\ d.KB cl (s + 1) = d.KB cl s ++ [gB (d.row cl s)]:=by
 have hk:d.KS cl (s + 1) = d.KS cl s ++ [d.row cl s]:=by rw [d.KS_succ cl hs]; unfold addS; rw [if_neg hm]
 refine ⟨?_,?_⟩
 ·have:=zo1 (d.KS_pre cl (s + 1)) (a:=d.row cl s) (by rw [hk]; simp)
  rw [hk,zdz,if_neg hm,zbo,if_pos rfl,Nat.add_zero,zo2] at this
  unfold Dta.KB
  rw [List.length_map,<- this]
  rfl
 ·unfold Dta.KB; rw [hk]; simp
theorem Dta.KB_count (d:Dta) (cl:Nat -> Nat):(d.KB cl d.n).length = d.count cl:=by
 unfold Dta.KB; rw [d.KS_full,List.length_map]; rfl
theorem Dta.KB_len (d:Dta) (cl:Nat -> Nat) {s:Nat}:(d.KB cl s).length <= d.n:=by
 unfold Dta.KB
 rw [List.length_map]
 exact Nat.le_trans (d.KS_pre cl s).length_le (by have:=zlh (d.rows cl); rwa [d.rows_len] at this)
def Dta.rowX (d:Dta) (cl:Nat -> Nat) (s q x:Nat):List Nat:=fb (d.fin s) ++ nb (cl s) ++ ((List.range q).flatMap fun q => (List.range d.L).flatMap fun x => nb (cl (d.nx s q x)) ++ nb (cl (d.nx q s x))) ++ (List.range x).flatMap fun x => nb (cl (d.nx s q x)) ++ nb (cl (d.nx q s x))
theorem Dta.rowX_zero (d:Dta) (cl:Nat -> Nat) (s:Nat):d.rowX cl s 0 0 = fb (d.fin s) ++ nb (cl s):=by simp [Dta.rowX]
theorem Dta.rowX_next (d:Dta) (cl:Nat -> Nat) (s q:Nat):d.rowX cl s q d.L = d.rowX cl s (q + 1) 0:=by simp [Dta.rowX,List.range_succ,List.flatMap_append]
theorem Dta.rowX_succ (d:Dta) (cl:Nat -> Nat) (s q x:Nat):d.rowX cl s q (x + 1) = d.rowX cl s q x ++ nb (cl (d.nx s q x)) ++ nb (cl (d.nx q s x)):=by simp [Dta.rowX,List.range_succ,List.flatMap_append]
theorem zpd (m:Nat) (cs:List Nat):encB (m :: cs) = fb (m == 1) ++ cs.flatMap nb:=rfl
theorem Dta.rowX_full (d:Dta) (cl:Nat -> Nat) (s:Nat):d.rowX cl s d.n 0 = encB (d.row cl s):=by
 have hb:((if d.fin s = true then 1 else 0:Nat) == 1) = d.fin s:=by cases d.fin s <;> rfl
 unfold Dta.rowX Dta.row
 rw [zpd,hb]
 simp only [List.range_zero,List.flatMap_nil,List.append_nil,List.flatMap_cons,List.append_assoc,List.flatMap_assoc,nb]
theorem zgd {f:Nat -> List Nat} {k n:Nat} (h:∀ i,(f i).length = k):((List.range n).flatMap f).length = n * k:=by
 induction n with
 | zero => simp
 | succ n ih => rw [List.range_succ,List.flatMap_append,List.length_append,ih]; simp [h,Nat.succ_mul]
theorem Dta.rowX_len (d:Dta) (cl:Nat -> Nat) (s q x:Nat) (hn:q <= 64) (hL:d.L <= 8) (hx:x <= 8):(d.rowX cl s q x).length <= 5000:=by
 have h1:(fb (d.fin s)).length <= 5:=by unfold fb; split <;> simp
 unfold Dta.rowX
 simp only [List.length_append]
 rw [zgd (k:=d.L * 4) (fun i => by rw [zgd (k:=4) (fun j => by simp [nb])]),zgd (k:=4) (fun j => by simp [nb])]
 have h2:q * (d.L * 4) <= 64 * 32:=Nat.mul_le_mul hn (by omega)
 have h3:(nb (cl s)).length = 2:=rfl
 omega
end Go.Proofs.YthkfjnmnoanhlaaGreatDoor
namespace Go.Proofs.YthkfjnmnoanhlaaGreatDoor
section
variable (d:Dta) (k:Nat)
def tX (i l r x:Nat):List (Nat × Nat):=[(d.nx l r x,d.cnt i l * d.cnt (k - i) r)]
def tR (i l r:Nat):List (Nat × Nat):=(List.range d.L).flatMap (tX d k i l r)
def tL (i l:Nat):List (Nat × Nat):=(List.range d.n).flatMap (tR d k i l)
def tI (i:Nat):List (Nat × Nat):=(List.range d.n).flatMap (tL d k i)
def preT (i l r x:Nat):List (Nat × Nat):=(List.range i).flatMap (tI d k) ++ ((List.range l).flatMap (tL d k i) ++ ((List.range r).flatMap (tR d k i l) ++ (List.range x).flatMap (tX d k i l r)))
theorem preT_x (i l r x:Nat):preT d k i l r (x + 1) = preT d k i l r x ++ tX d k i l r x:=by
 unfold preT; rw [List.range_succ,List.flatMap_append]; simp [List.append_assoc]
theorem preT_r (i l r:Nat):preT d k i l r d.L = preT d k i l (r + 1) 0:=by
 unfold preT; rw [List.range_succ (n:=r),List.flatMap_append]; simp [tR]
theorem preT_l (i l:Nat):preT d k i l d.n 0 = preT d k i (l + 1) 0 0:=by
 unfold preT; rw [List.range_succ (n:=l),List.flatMap_append]; simp [tL]
theorem preT_i (i:Nat):preT d k i d.n 0 0 = preT d k (i + 1) 0 0 0:=by
 unfold preT; rw [List.range_succ (n:=i),List.flatMap_append]; simp [tI]
theorem preT_0:preT d k 0 0 0 0 = []:=by simp [preT]
end
def rowC (P:List (Nat × Nat)) (s:Nat):Nat:=(P.map fun p => if p.1 = s then p.2 else 0).sum
theorem zip (P:List (Nat × Nat)) (q v s:Nat):rowC (P ++ [(q,v)]) s = rowC P s + if q = s then v else 0:=by
 unfold rowC; rw [List.map_append,List.sum_append]; simp
theorem zhn (n c:Nat) (F:Nat -> Nat):c * sumR n F = sumR n fun i => c * F i:=by
 unfold sumR
 induction n with
 | zero => simp
 | succ n ih => rw [List.range_succ,List.map_append,List.map_append,List.sum_append,List.sum_append,Nat.mul_add,ih]; simp
theorem zdi {n:Nat} {F G:Nat -> Nat} (h:∀ i,i < n -> F i = G i):sumR n F = sumR n G:=by
 unfold sumR; congr 1; apply List.map_congr_left; intro i hi; exact h i (List.mem_range.1 hi)
theorem znh {d:Dta} (h:d.OK) (k s:Nat):rowC (preT d k (k + 1) 0 0 0) s = d.cnt (k + 1) s:=by
 rw [Dta.cnt_succ h]
 unfold rowC preT
 simp only [List.range_zero,List.flatMap_nil,List.append_nil]
 rw [zcp]
 show sumR (k + 1) _ = _
 apply zdi
 intro i _
 unfold tI
 rw [zcp]
 show sumR d.n _ = _
 apply zdi
 intro l _
 unfold tL
 rw [zcp,zhn]
 show sumR d.n _ = _
 apply zdi
 intro r _
 unfold tR
 rw [zcp,zhn,zhn]
 show sumR d.L _ = _
 apply zdi
 intro x _
 simp only [tX,List.map_cons,List.map_nil,List.sum_cons,List.sum_nil,Nat.add_zero]
 by_cases e:d.nx l r x = s
 ·rw [if_pos e,if_pos e]; simp
 ·rw [if_neg e,if_neg e]; simp
abbrev M64:Nat:=18446744073709551616
theorem zkm (a p q:Nat):(a % M64 + (p % M64) * (q % M64) % M64) % M64 = (a + p * q) % M64:=by
 rw [<- Nat.mul_mod,<- Nat.add_mod]
def cRow (n:Nat) (P:List (Nat × Nat)):List Nat:=(List.range n).map fun s => rowC P s % M64
theorem zdu (n:Nat) (P:List (Nat × Nat)):(cRow n P).length = n:=by simp [cRow]
theorem zki {n s:Nat} (P:List (Nat × Nat)) (h:s < n):(cRow n P)[s]? = some (rowC P s % M64):=by unfold cRow; rw [List.getElem?_map,List.getElem?_range h]; rfl
theorem zri (n:Nat):cRow n [] = List.replicate n 0:=by
 apply List.ext_getElem?
 intro i
 unfold cRow
 by_cases hi:i < n <;> simp [hi,rowC]
theorem zpt {n s:Nat} (P:List (Nat × Nat)) (v:Nat) (h:s < n):cRow n (P ++ [(s,v)]) = (cRow n P).set s ((rowC P s + v) % M64):=by
 apply List.ext_getElem?
 intro i
 rw [List.getElem?_set]
 by_cases hi:i < n
 ·rw [zki _ hi,zdu]
  by_cases e:s = i
  ·subst e
   rw [if_pos rfl,if_pos hi,zip,if_pos rfl]
  ·rw [if_neg e,zki _ hi,zip,if_neg e,Nat.add_zero]
 ·rw [List.getElem?_eq_none (by rw [zdu]; omega)]
  rw [if_neg (by omega),List.getElem?_eq_none (by rw [zdu]; omega)]
def cntR (d:Dta) (k:Nat):List Nat:=(List.range d.n).map fun s => d.cnt k s % M64
theorem zib (d:Dta) (k:Nat):(cntR d k).length = d.n:=by simp [cntR]
theorem zpj {d:Dta} {k s:Nat} (h:s < d.n):(cntR d k)[s]? = some (d.cnt k s % M64):=by unfold cntR; rw [List.getElem?_map,List.getElem?_range h]; rfl
theorem zpi (d:Dta) (he:d.e < d.n):cntR d 0 = (List.replicate d.n 0).set d.e 1:=by
 apply List.ext_getElem?
 intro i
 rw [List.getElem?_set]
 by_cases hi:i < d.n
 ·rw [zpj hi,Dta.cnt_zero]
  by_cases e:d.e = i
  ·rw [if_pos e,if_pos e,if_pos (by simpa using he)]; rfl
  ·rw [if_neg e,if_neg e,List.getElem?_replicate,if_pos hi]; rfl
 ·rw [List.getElem?_eq_none (by rw [zib]; omega)]
  by_cases e:d.e = i
  ·omega
  ·rw [if_neg e,List.getElem?_eq_none (by simp; omega)]
theorem zpu {d:Dta} (h:d.OK) (k:Nat):cRow d.n (preT d k (k + 1) 0 0 0) = cntR d (k + 1):=by
 unfold cRow cntR
 apply List.map_congr_left
 intro s _
 rw [znh h]
def accK (d:Dta) (n s:Nat):Nat:=sumR s (fun s => if d.fin s then d.cnt n s else 0)
theorem zjg (d:Dta) (n s:Nat):accK d n (s + 1) = accK d n s + if d.fin s then d.cnt n s else 0:=by
 unfold accK sumR; rw [List.range_succ,List.map_append,List.sum_append]; simp
end Go.Proofs.YthkfjnmnoanhlaaGreatDoor
namespace Go.Proofs.YthkfjnmnoanhlaaGreatDoor
end Go.Proofs.YthkfjnmnoanhlaaGreatDoor

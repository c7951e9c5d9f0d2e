/- Part 5 of the proof; it says: lemmas and contracts. No conditions but those that each theorem states. -/
import Derived.Test.YthdabkmkgkkmcaaGreatDoorPb01
set_option linter.unusedSimpArgs false
set_option linter.unusedVariables false
set_option linter.unusedSectionVars false
set_option maxRecDepth 100000
set_option maxHeartbeats 32000000
namespace Go.Proofs.YthdabkmkgkkmcaaGreatDoor
section
variable {K:Type} [DecidableEq K] (f:K -> K -> Nat -> K)
def addS (o:List K) (s:K):List K:=if s ∈ o then o else o ++ [s]
def stepE (o:List K) (p:Nat × Nat × Nat):List K:=match o[p.1]?,o[p.2.1]? with
 | some a,some b => addS o (f a b p.2.2)
 | _,_ => o
def runE (o:List K) (ps:List (Nat × Nat × Nat)):List K:=ps.foldl (stepE f) o
def loopE (tr:Nat -> List (Nat × Nat × Nat)):Nat -> List K -> Nat -> List K
 | 0,o,_ => o
 | m + 1,o,k => if k < o.length then loopE tr m (runE f o (tr k)) (k + 1) else o
theorem zd6 (o:List K) (s:K):o <+: addS o s:=by
 unfold addS; split
 ·exact List.prefix_refl _
 ·exact List.prefix_append _ _
theorem zl7 (o:List K) (s:K):s ∈ addS o s:=by
 unfold addS; split
 ·assumption
 ·simp
theorem zd7 {o:List K} {s:K} (h:o.Nodup):(addS o s).Nodup:=by
 unfold addS; split
 ·exact h
 ·rename_i hs
  rw [List.nodup_append]
  exact ⟨h,by simp,by intro a ha b hb; simp at hb; subst hb; intro e; subst e; exact hs ha⟩
theorem zf9 {o:List K} {s:K} {P:K -> Prop} (h:∀ a ∈ o,P a) (hs:P s):∀ a ∈ addS o s,P a:=by
 unfold addS; split
 ·exact h
 ·intro a ha
  rcases List.mem_append.1 ha with ha | ha
  ·exact h a ha
  ·simp at ha; subst ha; exact hs
theorem zgg (o:List K) (p:Nat × Nat × Nat):o <+: stepE f o p:=by
 unfold stepE; split
 ·exact zd6 _ _
 ·exact List.prefix_refl _
theorem zf0 (ps:List (Nat × Nat × Nat)):∀ o:List K,o <+: runE f o ps:=by
 induction ps with
 | nil => intro o; exact List.prefix_refl _
 | cons p ps ih => intro o; exact (zgg f o p).trans (ih _)
theorem zji (tr:Nat -> List (Nat × Nat × Nat)):∀ (m:Nat) (o:List K) (k:Nat),o <+: loopE f tr m o k:=by
 intro m
 induction m with
 | zero => intro o k; exact List.prefix_refl _
 | succ m ih =>
  intro o k; unfold loopE; split
  ·exact (zf0 f _ o).trans (ih _ _)
  ·exact List.prefix_refl _
theorem zar {o o':List K} (h:o <+: o') {i:Nat} {a:K} (hi:o[i]? = some a):o'[i]? = some a:=by
 obtain ⟨t,rfl⟩:=h
 rw [List.getElem?_append_left (List.getElem?_eq_some_iff.1 hi).1]; exact hi
theorem ze9 (ps:List (Nat × Nat × Nat)):∀ o:List K,o.Nodup -> (runE f o ps).Nodup:=by
 induction ps with
 | nil => intro o h; exact h
 | cons p ps ih =>
  intro o h; refine ih _ ?_
  unfold stepE; split
  ·exact zd7 h
  ·exact h
theorem zgv (tr:Nat -> List (Nat × Nat × Nat)):∀ (m:Nat) (o:List K) (k:Nat),o.Nodup -> (loopE f tr m o k).Nodup:=by
 intro m
 induction m with
 | zero => intro o k h; exact h
 | succ m ih =>
  intro o k h; unfold loopE; split
  ·exact ih _ _ (ze9 f _ _ h)
  ·exact h
theorem zil {L:Nat} {P:K -> Prop} (hP:∀ a b x,P a -> P b -> x < L -> P (f a b x)) (ps:List (Nat × Nat × Nat)):∀ o:List K,(∀ p ∈ ps,p.2.2 < L) -> (∀ a ∈ o,P a) -> ∀ a ∈ runE f o ps,P a:=by
 induction ps with
 | nil => intro o _ h; exact h
 | cons p ps ih =>
  intro o hp h
  refine ih _ (fun q hq => hp q (List.mem_cons_of_mem _ hq)) ?_
  unfold stepE; split
  ·rename_i a b ha hb
   exact zf9 h (hP _ _ _ (h _ (List.mem_of_getElem? ha)) (h _ (List.mem_of_getElem? hb)) (hp p List.mem_cons_self))
  ·exact h
theorem zq6 (ps:List (Nat × Nat × Nat)):∀ (o:List K) (l r x:Nat) (a b:K),(l,r,x) ∈ ps -> o[l]? = some a -> o[r]? = some b -> f a b x ∈ runE f o ps:=by
 induction ps with
 | nil => intro o l r x a b h; simp at h
 | cons p ps ih =>
  intro o l r x a b h ha hb
  rcases List.mem_cons.1 h with h | h
  ·subst h
   refine (zf0 f ps _).subset ?_
   unfold stepE
   simp only [ha,hb]
   exact zl7 _ _
  ·exact ih _ l r x a b h (zar (zgg f o p) ha) (zar (zgg f o p) hb)
structure TrOK (L:Nat) (tr:Nat -> List (Nat × Nat × Nat)):Prop where
 mem:∀ l r x,x < L -> (l,r,x) ∈ tr (max l r)
 lt:∀ k,∀ p ∈ tr k,p.2.2 < L
theorem zgw {L:Nat} {tr:Nat -> List (Nat × Nat × Nat)} (ht:TrOK L tr) {P:K -> Prop} (hP:∀ a b x,P a -> P b -> x < L -> P (f a b x)):∀ (m:Nat) (o:List K) (k:Nat),(∀ a ∈ o,P a) -> ∀ a ∈ loopE f tr m o k,P a:=by
 intro m
 induction m with
 | zero => intro o k h; exact h
 | succ m ih =>
  intro o k h; unfold loopE; split
  ·exact ih _ _ (zil f hP _ o (ht.lt k) h)
  ·exact h
def zhc (L:Nat) (o:List K):Prop:=∀ a b x,a ∈ o -> b ∈ o -> x < L -> f a b x ∈ o
theorem zfv {L N:Nat} {tr:Nat -> List (Nat × Nat × Nat)} (ht:TrOK L tr) {P:K -> Prop} (hP:∀ a b x,P a -> P b -> x < L -> P (f a b x)) (hN:∀ o:List K,o.Nodup -> (∀ a ∈ o,P a) -> o.length <= N):∀ (m:Nat) (o:List K) (k:Nat),N <= k + m -> o.Nodup -> (∀ a ∈ o,P a) ->
  (∀ l r x a b,l < k -> r < k -> x < L -> o[l]? = some a -> o[r]? = some b -> f a b x ∈ o) -> zhc f L (loopE f tr m o k):=by
 intro m
 have fin:∀ (o:List K) (k:Nat),o.length <= k -> (∀ l r x a b,l < k -> r < k -> x < L -> o[l]? = some a -> o[r]? = some b -> f a b x ∈ o) -> zhc f L o:=by
  intro o k hk h a b x ha hb hx
  obtain ⟨l,hl⟩:=List.mem_iff_getElem?.1 ha
  obtain ⟨r,hr⟩:=List.mem_iff_getElem?.1 hb
  have h1:=(List.getElem?_eq_some_iff.1 hl).1
  have h2:=(List.getElem?_eq_some_iff.1 hr).1
  exact h l r x a b (by omega) (by omega) hx hl hr
 induction m with
 | zero =>
  intro o k hk hd ha h
  have:=hN o hd ha
  exact fin o k (by omega) h
 | succ m ih =>
  intro o k hk hd ha h; unfold loopE; split
  ·rename_i hlt
   refine ih _ (k + 1) (by omega) (ze9 f _ _ hd) (zil f hP _ o (ht.lt k) ha) ?_
   intro l r x a b hl hr hx h1 h2
   have back:∀ i c,i <= k -> (runE f o (tr k))[i]? = some c -> o[i]? = some c:=by
    intro i c hi hc
    have h3:o[i]? = some o[i]:=List.getElem?_eq_getElem (by omega)
    have h4:=zar (zf0 f (tr k) o) h3
    rw [hc] at h4; rw [h3]; exact h4.symm
   have h1:=back l a (by omega) h1
   have h2:=back r b (by omega) h2
   by_cases hm:max l r = k
   ·exact zq6 f _ o l r x a b (hm ▸ ht.mem l r x hx) h1 h2
   ·exact (zf0 f _ o).subset (h l r x a b (by omega) (by omega) hx h1 h2)
  ·rename_i hge
   exact fin o k (by omega) h
theorem zmp {L N:Nat} {tr:Nat -> List (Nat × Nat × Nat)} (ht:TrOK L tr) {P:K -> Prop} (hP:∀ a b x,P a -> P b -> x < L -> P (f a b x)) (hN:∀ o:List K,o.Nodup -> (∀ a ∈ o,P a) -> o.length <= N):∀ (m m':Nat) (o:List K) (k:Nat),N <= k + m -> N <= k + m' -> o.Nodup -> (∀ a ∈ o,P a) ->
  loopE f tr m o k = loopE f tr m' o k:=by
 intro m
 induction m with
 | zero =>
  intro m' o k hk hk' hd ha
  have:=hN o hd ha
  cases m' with
  | zero => rfl
  | succ m' => unfold loopE; rw [if_neg (by omega)]
 | succ m ih =>
  intro m' o k hk hk' hd ha
  have:=hN o hd ha
  cases m' with
  | zero => unfold loopE; rw [if_neg (by omega)]
  | succ m' =>
   unfold loopE
   split
   ·exact ih _ _ _ (by omega) (by omega) (ze9 f _ _ hd) (zil f hP _ o (ht.lt k) ha)
   ·rfl
end
structure RelL {K M:Type} (R:K -> M -> Prop) (o:List K) (p:List M):Prop where
 len:o.length = p.length
 at_:∀ (i:Nat) (a:K) (b:M),o[i]? = some a -> p[i]? = some b -> R a b
structure BiU {K M:Type} (R:K -> M -> Prop):Prop where
 to:∀ a b b',R a b -> R a b' -> b = b'
 of:∀ a a' b,R a b -> R a' b -> a = a'
section
variable {K M:Type} [DecidableEq K] [DecidableEq M] {R:K -> M -> Prop}
theorem RelL.mem {o:List K} {p:List M} (h:RelL R o p) (hu:BiU R) {a:K} {b:M} (hab:R a b):a ∈ o ↔ b ∈ p:=by
 constructor
 ·intro ha
  obtain ⟨i,hi⟩:=List.mem_iff_getElem?.1 ha
  have hl:=(List.getElem?_eq_some_iff.1 hi).1
  have hl':i < p.length:=by have:=h.len; omega
  have hp:p[i]? = some p[i]:=List.getElem?_eq_getElem hl'
  have:=hu.to _ _ _ (h.at_ i a _ hi hp) hab
  rw [<- this]; exact List.mem_of_getElem? hp
 ·intro hb
  obtain ⟨i,hi⟩:=List.mem_iff_getElem?.1 hb
  have hl:=(List.getElem?_eq_some_iff.1 hi).1
  have hl':i < o.length:=by have:=h.len; omega
  have ho:o[i]? = some o[i]:=List.getElem?_eq_getElem hl'
  have:=hu.of _ _ _ (h.at_ i _ b ho hi) hab
  rw [<- this]; exact List.mem_of_getElem? ho
theorem RelL.add {o:List K} {p:List M} (h:RelL R o p) (hu:BiU R) {a:K} {b:M} (hab:R a b):RelL R (addS o a) (addS p b):=by
 unfold addS
 have hm:=h.mem hu hab
 by_cases ha:a ∈ o
 ·rw [if_pos ha,if_pos (hm.1 ha)]; exact h
 ·rw [if_neg ha,if_neg (fun hb => ha (hm.2 hb))]
  refine ⟨by simp [h.len],?_⟩
  intro i c d hc hd
  rw [List.getElem?_append] at hc hd
  rw [h.len] at hc
  split at hc
  ·rename_i hi
   rw [if_pos hi] at hd
   exact h.at_ i c d hc hd
  ·rename_i hi
   rw [if_neg hi] at hd
   by_cases hz:i - p.length = 0
   ·rw [hz] at hc hd; simp at hc hd; subst hc; subst hd; exact hab
   ·rw [List.getElem?_eq_none (by simp; omega)] at hc; cases hc
variable {f:K -> K -> Nat -> K} {g:M -> M -> Nat -> M}
theorem RelL.run {L:Nat} (hu:BiU R) (hs:∀ a a' b b' x,R a b -> R a' b' -> x < L -> R (f a a' x) (g b b' x)) (ps:List (Nat × Nat × Nat)):∀ (o:List K) (p:List M),(∀ q ∈ ps,q.2.2 < L) -> RelL R o p -> RelL R (runE f o ps) (runE g p ps):=by
 induction ps with
 | nil => intro o p _ h; exact h
 | cons q ps ih =>
  intro o p hq h
  refine ih _ _ (fun q' h' => hq q' (List.mem_cons_of_mem _ h')) ?_
  unfold stepE
  have gl:∀ i:Nat,(∃ a b,o[i]? = some a /\ p[i]? = some b /\ R a b) \/ (o[i]? = none /\ p[i]? = none):=by
   intro i
   by_cases hi:i < o.length
   ·have h1:o[i]? = some o[i]:=List.getElem?_eq_getElem hi
    have h2:p[i]? = some (p[i]'(by rw [<- h.len]; exact hi)):=List.getElem?_eq_getElem (by rw [<- h.len]; exact hi)
    exact .inl ⟨_,_,h1,h2,h.at_ i _ _ h1 h2⟩
   ·exact .inr ⟨List.getElem?_eq_none (by omega),List.getElem?_eq_none (by rw [<- h.len]; omega)⟩
  rcases gl q.1 with ⟨a,b,h1,h2,h3⟩ | ⟨h1,h2⟩
  ·rcases gl q.2.1 with ⟨a',b',h4,h5,h6⟩ | ⟨h4,h5⟩
   ·simp only [h1,h2,h4,h5]
    exact h.add hu (hs _ _ _ _ _ h3 h6 (hq q List.mem_cons_self))
   ·simp only [h1,h2,h4,h5]; exact h
  ·simp only [h1,h2]; exact h
theorem RelL.loop {L:Nat} {tr:Nat -> List (Nat × Nat × Nat)} (ht:TrOK L tr) (hu:BiU R) (hs:∀ a a' b b' x,R a b -> R a' b' -> x < L -> R (f a a' x) (g b b' x)):∀ (m:Nat) (o:List K) (p:List M) (k:Nat),RelL R o p -> RelL R (loopE f tr m o k) (loopE g tr m p k):=by
 intro m
 induction m with
 | zero => intro o p k h; exact h
 | succ m ih =>
  intro o p k h
  unfold loopE
  by_cases hk:k < o.length
  ·rw [if_pos hk,if_pos (by rw [<- h.len]; exact hk)]
   exact ih _ _ _ (RelL.run hu hs _ _ _ (ht.lt k) h)
  ·rw [if_neg hk,if_neg (by rw [<- h.len]; exact hk)]; exact h
end
end Go.Proofs.YthdabkmkgkkmcaaGreatDoor
namespace Go.Proofs.YthdabkmkgkkmcaaGreatDoor
structure Dta where
 n:Nat
 e:Nat
 L:Nat
 nx:Nat -> Nat -> Nat -> Nat
 fin:Nat -> Bool
structure Dta.OK (d:Dta):Prop where
 he:d.e < d.n
 hn:∀ l r x,l < d.n -> r < d.n -> x < d.L -> d.nx l r x < d.n
def Bt.lb (L:Nat):Bt -> Prop
 | .nil => True
 | .node a l r => (0 <= a /\ a.toNat < L) /\ l.lb L /\ r.lb L
def Dta.run (d:Dta):Bt -> Nat
 | .nil => d.e
 | .node a l r => d.nx (d.run l) (d.run r) a.toNat
theorem Dta.OK.run {d:Dta} (h:d.OK):∀ t:Bt,t.lb d.L -> d.run t < d.n
 | .nil,_ => h.he
 | .node a l r,ht => h.hn _ _ _ (h.run l ht.2.1) (h.run r ht.2.2) ht.1.2
def Dta.Acc (d:Dta) (s:Nat):Prop:=∃ t:Bt,t.lb d.L /\ d.run t = s
theorem Dta.Acc.step {d:Dta} {a b x:Nat} (ha:d.Acc a) (hb:d.Acc b) (hx:x < d.L):d.Acc (d.nx a b x):=by
 obtain ⟨t,h1,rfl⟩:=ha
 obtain ⟨u,h2,rfl⟩:=hb
 exact ⟨.node x t u,⟨⟨by omega,by simpa using hx⟩,h1,h2⟩,by simp [Dta.run]⟩
def trE (L k:Nat):List (Nat × Nat × Nat):=(List.range (k + 1)).flatMap fun j => [(j,k),(k,j)].flatMap fun p => (List.range L).map fun x => (p.1,p.2,x)
theorem zfs (L:Nat):TrOK L (trE L):=by
 constructor
 ·intro l r x hx
  unfold trE
  rw [List.mem_flatMap]
  refine ⟨min l r,by simp; omega,?_⟩
  rw [List.mem_flatMap]
  refine ⟨(l,r),?_,by simp [hx]⟩
  by_cases h:l <= r
  ·rw [Nat.min_eq_left h,Nat.max_eq_right h]; simp
  ·rw [Nat.min_eq_right (by omega),Nat.max_eq_left (by omega)]; simp
 ·intro k p hp
  unfold trE at hp
  obtain ⟨j,_,hp⟩:=List.mem_flatMap.1 hp
  obtain ⟨q,_,hp⟩:=List.mem_flatMap.1 hp
  obtain ⟨x,hx,rfl⟩:=List.mem_map.1 hp
  exact List.mem_range.1 hx
def Dta.order (d:Dta):List Nat:=loopE d.nx (trE d.L) d.n [d.e] 0
theorem zcd {n:Nat} {o:List Nat} (h:o.Nodup) (hl:∀ a ∈ o,a < n):o.length <= n:=by
 have:=h.length_le_of_subset (l₂:=List.range n) (fun a ha => List.mem_range.2 (hl a ha))
 simpa using this
theorem Dta.order_nodup (d:Dta):d.order.Nodup:=zgv _ _ _ _ _ (by simp)
theorem Dta.order_acc (d:Dta):∀ s ∈ d.order,d.Acc s :=
 zgw d.nx (zfs d.L) (P:=d.Acc) (fun a b x ha hb hx => ha.step hb hx) _ _ _ (by intro a ha; simp at ha; subst ha; exact ⟨.nil,trivial,rfl⟩)
theorem Dta.Acc.lt {d:Dta} (h:d.OK) {s:Nat} (hs:d.Acc s):s < d.n:=by
 obtain ⟨t,h1,rfl⟩:=hs; exact h.run t h1
theorem Dta.order_len {d:Dta} (h:d.OK):d.order.length <= d.n:=zcd d.order_nodup (fun a ha => (d.order_acc a ha).lt h)
theorem Dta.order_zero (d:Dta):d.order[0]? = some d.e:=zar (zji d.nx (trE d.L) d.n [d.e] 0) rfl
theorem Dta.order_pos (d:Dta):0 < d.order.length:=(List.getElem?_eq_some_iff.1 d.order_zero).1
theorem Dta.order_closed {d:Dta} (h:d.OK):zhc d.nx d.L d.order :=
 zfv d.nx (zfs d.L) (P:=fun s => s < d.n) (N:=d.n) (fun a b x ha hb hx => h.hn a b x ha hb hx) (fun o h1 h2 => zcd h1 h2) _ _ _ (by omega) (by simp) (by intro a ha; simp at ha; subst ha; exact h.he)
  (fun l r x a b hl => absurd hl (by omega))
theorem Dta.order_mem {d:Dta} (h:d.OK):∀ t:Bt,t.lb d.L -> d.run t ∈ d.order
 | .nil,_ => List.mem_of_getElem? d.order_zero
 | .node a l r,ht => d.order_closed h _ _ _ (d.order_mem h l ht.2.1) (d.order_mem h r ht.2.2) ht.1.2
theorem Dta.order_iff {d:Dta} (h:d.OK) (s:Nat):s ∈ d.order ↔ d.Acc s:=⟨d.order_acc s,fun ⟨t,h1,h2⟩ => h2 ▸ d.order_mem h t h1⟩
def Dta.renum (d:Dta):Dta:=⟨d.order.length,0,d.L,fun l r x => d.order.idxOf (d.nx (d.order.getD l 0) (d.order.getD r 0) x),fun s => d.fin (d.order.getD s 0)⟩
theorem Dta.renum_at (d:Dta) {i:Nat} (h:i < d.order.length):d.order[i]? = some (d.order.getD i 0):=by
 rw [List.getD_eq_getElem?_getD,List.getElem?_eq_getElem h]; rfl
theorem idx_get {o:List Nat} {s:Nat} (h:s ∈ o):o[o.idxOf s]? = some s:=by
 rw [List.getElem?_eq_getElem (List.idxOf_lt_length_of_mem h),List.getElem_idxOf]
theorem ziv {o:List Nat} (hd:o.Nodup) {i j s:Nat} (hi:o[i]? = some s) (hj:o[j]? = some s):i = j:=by
 have h1:=(List.getElem?_eq_some_iff.1 hi).1
 exact (List.getElem?_inj h1 hd).1 (hi.trans hj.symm)
theorem Dta.renum_step {d:Dta} (h:d.OK) {l r x a b:Nat} (hl:d.order[l]? = some a) (hr:d.order[r]? = some b) (hx:x < d.L):d.order[d.renum.nx l r x]? = some (d.nx a b x):=by
 have e1:d.order.getD l 0 = a:=by rw [List.getD_eq_getElem?_getD,hl]; rfl
 have e2:d.order.getD r 0 = b:=by rw [List.getD_eq_getElem?_getD,hr]; rfl
 show d.order[d.order.idxOf (d.nx (d.order.getD l 0) (d.order.getD r 0) x)]? = _
 rw [e1,e2]
 exact idx_get (d.order_closed h _ _ _ (List.mem_of_getElem? hl) (List.mem_of_getElem? hr) hx)
theorem Dta.renum_ok {d:Dta} (h:d.OK):d.renum.OK:=by
 refine ⟨d.order_pos,?_⟩
 intro l r x hl hr hx
 exact (List.getElem?_eq_some_iff.1 (d.renum_step h (d.renum_at hl) (d.renum_at hr) hx)).1
theorem Dta.renum_run {d:Dta} (h:d.OK):∀ t:Bt,t.lb d.L -> d.order[d.renum.run t]? = some (d.run t)
 | .nil,_ => d.order_zero
 | .node a l r,ht => d.renum_step h (d.renum_run h l ht.2.1) (d.renum_run h r ht.2.2) ht.1.2
theorem Dta.renum_acc {d:Dta} (h:d.OK):∀ s,s < d.renum.n -> d.renum.Acc s:=by
 intro s hs
 obtain ⟨t,h1,h2⟩:=d.order_acc _ (List.mem_of_getElem? (d.renum_at hs))
 have h3:=d.renum_run h t h1
 rw [h2] at h3
 exact ⟨t,h1,ziv d.order_nodup h3 (d.renum_at hs)⟩
theorem Dta.renum_fin {d:Dta} {i s:Nat} (h:d.order[i]? = some s):d.renum.fin i = d.fin s:=by
 show d.fin (d.order.getD i 0) = _
 rw [List.getD_eq_getElem?_getD,h]; rfl
theorem Dta.order_fuel {d:Dta} (h:d.OK) {m:Nat} (hm:d.n <= m):loopE d.nx (trE d.L) m [d.e] 0 = d.order :=
 zmp d.nx (zfs d.L) (P:=fun s => s < d.n) (N:=d.n) (fun a b x ha hb hx => h.hn a b x ha hb hx) (fun o h1 h2 => zcd h1 h2) _ _ _ _ (by omega) (by omega) (by simp) (by intro a ha; simp at ha; subst ha; exact h.he)
theorem Dta.renum_rel {d:Dta} (h:d.OK):RelL (fun i s => d.order[i]? = some s) d.renum.order d.order:=by
 have key:=RelL.loop (R:=fun i s => d.order[i]? = some s) (f:=d.renum.nx) (g:=d.nx) (zfs d.L)
  ⟨fun a b b' h1 h2 => by rw [h1] at h2; exact Option.some.inj h2,fun a a' b h1 h2 => ziv d.order_nodup h1 h2⟩
  (fun a a' b b' x h1 h2 hx => d.renum_step h h1 h2 hx) d.n [0] [d.e] 0
  ⟨rfl,by
   intro i a b h1 h2
   cases i with
   | zero => simp at h1 h2; subst h1; subst h2; exact d.order_zero
   | succ i => simp at h1⟩
 have e:loopE d.renum.nx (trE d.L) d.n [0] 0 = d.renum.order:=(d.renum).order_fuel (d.renum_ok h) (d.order_len h)
 rw [e] at key
 exact key
theorem Dta.renum_order {d:Dta} (h:d.OK):d.renum.order = List.range d.renum.n:=by
 have key:=d.renum_rel h
 apply List.ext_getElem?
 intro i
 by_cases hi:i < d.order.length
 ·have h1:d.renum.order[i]? = some (d.renum.order[i]'(by rw [key.len]; exact hi)):=List.getElem?_eq_getElem _
  have h2:=key.at_ i _ _ h1 (d.renum_at hi)
  have h3:=ziv d.order_nodup h2 (d.renum_at hi)
  rw [h1,h3,List.getElem?_eq_getElem (by simpa [Dta.renum] using hi)]
  simp
 ·rw [List.getElem?_eq_none (by rw [key.len]; omega),List.getElem?_eq_none (by simp [Dta.renum]; omega)]
structure Dta.Stable (d:Dta) (R:Nat -> Nat -> Prop):Prop where
 lt:∀ s t,R s t -> s < d.n /\ t < d.n
 fin:∀ s t,R s t -> d.fin s = d.fin t
 l:∀ s t q x,R s t -> q < d.n -> x < d.L -> R (d.nx s q x) (d.nx t q x)
 r:∀ s t q x,R s t -> q < d.n -> x < d.L -> R (d.nx q s x) (d.nx q t x)
def Dta.Reduced (d:Dta):Prop:=∀ R,d.Stable R -> ∀ s t,R s t -> s = t
structure Dta.Canon (d:Dta):Prop where
 ok:d.OK
 ord:d.order = List.range d.n
 red:d.Reduced
structure Dta.Same (a b:Dta):Prop where
 n:a.n = b.n
 e:a.e = b.e
 L:a.L = b.L
 nx:∀ l r x,l < a.n -> r < a.n -> x < a.L -> a.nx l r x = b.nx l r x
 fin:∀ s,s < a.n -> a.fin s = b.fin s
def Dta.Lang (a b:Dta):Prop:=∀ t:Bt,t.lb a.L -> a.fin (a.run t) = b.fin (b.run t)
theorem Dta.Canon.acc {d:Dta} (h:d.Canon) {s:Nat} (hs:s < d.n):d.Acc s:=d.order_acc s (by rw [h.ord]; exact List.mem_range.2 hs)
theorem Dta.Reduced.of_lang {a b:Dta} (hb:b.OK) (hred:b.Reduced) (hacc:∀ s,s < b.n -> b.Acc s) (hL:a.L = b.L) (h:a.Lang b) {t u:Bt} (ht:t.lb a.L) (hu:u.lb a.L) (e:a.run t = a.run u):b.run t = b.run u:=by
 refine hred (fun p q => ∃ t u:Bt,t.lb a.L /\ u.lb a.L /\ a.run t = a.run u /\ b.run t = p /\ b.run u = q) ?_ _ _ ⟨t,u,ht,hu,e,rfl,rfl⟩
 constructor
 ·rintro _ _ ⟨t,u,ht,hu,_,rfl,rfl⟩
  exact ⟨hb.run t (hL ▸ ht),hb.run u (hL ▸ hu)⟩
 ·rintro _ _ ⟨t,u,ht,hu,e,rfl,rfl⟩
  rw [<- h t ht,<- h u hu,e]
 ·rintro _ _ q x ⟨t,u,ht,hu,e,rfl,rfl⟩ hq hx
  obtain ⟨v,hv,rfl⟩:=hacc q hq
  have hx':x < a.L:=hL ▸ hx
  exact ⟨.node x t v,.node x u v,⟨⟨by omega,by simpa using hx'⟩,ht,hL ▸ hv⟩,⟨⟨by omega,by simpa using hx'⟩,hu,hL ▸ hv⟩,by simp [Dta.run,e],by simp [Dta.run],by simp [Dta.run]⟩
 ·rintro _ _ q x ⟨t,u,ht,hu,e,rfl,rfl⟩ hq hx
  obtain ⟨v,hv,rfl⟩:=hacc q hq
  have hx':x < a.L:=hL ▸ hx
  exact ⟨.node x v t,.node x v u,⟨⟨by omega,by simpa using hx'⟩,hL ▸ hv,ht⟩,⟨⟨by omega,by simpa using hx'⟩,hL ▸ hv,hu⟩,by simp [Dta.run,e],by simp [Dta.run],by simp [Dta.run]⟩
theorem Dta.canon_same {a b:Dta} (ha:a.Canon) (hb:b.Canon) (hL:a.L = b.L) (h:a.Lang b):a.Same b:=by
 have h':b.Lang a:=fun t ht => (h t (hL ▸ ht)).symm
 let R:Nat -> Nat -> Prop:=fun p q => ∃ t:Bt,t.lb a.L /\ a.run t = p /\ b.run t = q
 have hu:BiU R:=by
  constructor
  ·rintro p q q' ⟨t,ht,rfl,rfl⟩ ⟨u,hu,e,rfl⟩
   exact Dta.Reduced.of_lang hb.ok hb.red (fun s hs => hb.acc hs) hL h ht hu e.symm
  ·rintro p p' q ⟨t,ht,rfl,rfl⟩ ⟨u,hu,rfl,e⟩
   exact Dta.Reduced.of_lang ha.ok ha.red (fun s hs => ha.acc hs) hL.symm h' (hL ▸ ht) (hL ▸ hu) e.symm
 have hs:∀ p p' q q' x,R p q -> R p' q' -> x < a.L -> R (a.nx p p' x) (b.nx q q' x):=by
  rintro _ _ _ _ x ⟨t,ht,rfl,rfl⟩ ⟨u,hu,rfl,rfl⟩ hx
  exact ⟨.node x t u,⟨⟨by omega,by simpa using hx⟩,ht,hu⟩,by simp [Dta.run],by simp [Dta.run]⟩
 have key:=RelL.loop (R:=R) (f:=a.nx) (g:=b.nx) (zfs a.L) hu hs (max a.n b.n) [a.e] [b.e] 0
  ⟨rfl,by
   intro i p q h1 h2
   cases i with
   | zero => simp at h1 h2; subst h1; subst h2; exact ⟨.nil,trivial,rfl,rfl⟩
   | succ i => simp at h1⟩
 rw [a.order_fuel ha.ok (by omega),show trE a.L = trE b.L by rw [hL],b.order_fuel hb.ok (by omega),ha.ord,hb.ord] at key
 have hn:a.n = b.n:=by simpa using key.len
 have dg:∀ i,i < a.n -> R i i:=fun i hi => key.at_ i i i (by simp [hi]) (by simp [<- hn,hi])
 refine ⟨hn,hu.of _ _ b.e ⟨.nil,trivial,rfl,rfl⟩ (dg _ (hn ▸ hb.ok.he)),hL,?_,?_⟩
 ·intro l r x hl hr hx
  have h1:=hs _ _ _ _ x (dg l hl) (dg r hr) hx
  exact hu.to _ _ _ (dg _ (ha.ok.hn l r x hl hr hx)) h1 |>.symm ▸ rfl
 ·intro s hs
  obtain ⟨t,ht,h1,h2⟩:=dg s hs
  have:=h t ht
  rw [h1,h2] at this
  exact this
theorem Dta.renum_canon {d:Dta} (h:d.OK) (hacc:∀ s,s < d.n -> d.Acc s) (hred:d.Reduced):d.renum.Canon:=by
 refine ⟨d.renum_ok h,d.renum_order h,?_⟩
 intro R hR i j hij
 obtain ⟨hi,hj⟩:=hR.lt i j hij
 have hi':=d.renum_at hi
 have hj':=d.renum_at hj
 have key:d.order.getD i 0 = d.order.getD j 0:=by
  refine hred (fun s t => ∃ i j,R i j /\ d.order[i]? = some s /\ d.order[j]? = some t) ?_ _ _ ⟨i,j,hij,hi',hj'⟩
  constructor
  ·rintro s t ⟨i,j,_,h1,h2⟩
   exact ⟨(d.order_acc _ (List.mem_of_getElem? h1)).lt h,(d.order_acc _ (List.mem_of_getElem? h2)).lt h⟩
  ·rintro s t ⟨i,j,h0,h1,h2⟩
   rw [<- d.renum_fin h1,<- d.renum_fin h2]; exact hR.fin _ _ h0
  ·rintro s t q x ⟨i,j,h0,h1,h2⟩ hq hx
   obtain ⟨k,hk⟩:=List.mem_iff_getElem?.1 ((d.order_iff h q).2 (hacc q hq))
   exact ⟨_,_,hR.l _ _ k x h0 (List.getElem?_eq_some_iff.1 hk).1 hx,d.renum_step h h1 hk hx,d.renum_step h h2 hk hx⟩
  ·rintro s t q x ⟨i,j,h0,h1,h2⟩ hq hx
   obtain ⟨k,hk⟩:=List.mem_iff_getElem?.1 ((d.order_iff h q).2 (hacc q hq))
   exact ⟨_,_,hR.r _ _ k x h0 (List.getElem?_eq_some_iff.1 hk).1 hx,d.renum_step h hk h1 hx,d.renum_step h hk h2 hx⟩
 rw [<- key] at hj'
 exact ziv d.order_nodup hi' hj'
theorem Dta.renum_lang {d:Dta} (h:d.OK):d.Lang d.renum:=fun t ht => (d.renum_fin (d.renum_run h t ht)).symm
structure Dta.Quot (c m:Dta) (h:Nat -> Nat):Prop where
 L:m.L = c.L
 e:m.e = h c.e
 lt:∀ s,s < c.n -> h s < m.n
 on:∀ i,i < m.n -> ∃ s,s < c.n /\ h s = i
 nx:∀ l r x,l < c.n -> r < c.n -> x < c.L -> m.nx (h l) (h r) x = h (c.nx l r x)
 fin:∀ s,s < c.n -> m.fin (h s) = c.fin s
 most:∀ R,c.Stable R -> ∀ s t,R s t -> h s = h t
theorem Dta.Quot.ok {c m:Dta} {h:Nat -> Nat} (q:c.Quot m h) (hc:c.OK):m.OK:=by
 refine ⟨by rw [q.e]; exact q.lt _ hc.he,?_⟩
 intro l r x hl hr hx
 obtain ⟨s,hs,rfl⟩:=q.on l hl
 obtain ⟨t,ht,rfl⟩:=q.on r hr
 rw [q.nx s t x hs ht (q.L ▸ hx)]
 exact q.lt _ (hc.hn _ _ _ hs ht (q.L ▸ hx))
theorem Dta.Quot.run {c m:Dta} {h:Nat -> Nat} (q:c.Quot m h) (hc:c.OK):∀ t:Bt,t.lb c.L -> m.run t = h (c.run t)
 | .nil,_ => q.e
 | .node a l r,ht => by
  simp only [Dta.run]
  rw [q.run hc l ht.2.1,q.run hc r ht.2.2,q.nx _ _ _ (hc.run l ht.2.1) (hc.run r ht.2.2) ht.1.2]
theorem Dta.Quot.lang {c m:Dta} {h:Nat -> Nat} (q:c.Quot m h) (hc:c.OK):c.Lang m:=fun t ht => by
 rw [q.run hc t ht,q.fin _ (hc.run t ht)]
theorem Dta.Quot.acc {c m:Dta} {h:Nat -> Nat} (q:c.Quot m h) (hc:c.OK) (ha:∀ s,s < c.n -> c.Acc s):∀ i,i < m.n -> m.Acc i:=by
 intro i hi
 obtain ⟨s,hs,rfl⟩:=q.on i hi
 obtain ⟨t,ht,rfl⟩:=ha s hs
 exact ⟨t,q.L ▸ ht,q.run hc t ht⟩
theorem Dta.Quot.reduced {c m:Dta} {h:Nat -> Nat} (q:c.Quot m h) (hc:c.OK):m.Reduced:=by
 intro R hR i j hij
 obtain ⟨hi,hj⟩:=hR.lt i j hij
 obtain ⟨s,hs,rfl⟩:=q.on i hi
 obtain ⟨t,ht,rfl⟩:=q.on j hj
 refine q.most (fun s t => s < c.n /\ t < c.n /\ R (h s) (h t)) ?_ s t ⟨hs,ht,hij⟩
 constructor
 ·rintro s t ⟨h1,h2,_⟩; exact ⟨h1,h2⟩
 ·rintro s t ⟨h1,h2,h3⟩
  rw [<- q.fin s h1,<- q.fin t h2]; exact hR.fin _ _ h3
 ·rintro s t u x ⟨h1,h2,h3⟩ hu hx
  refine ⟨hc.hn _ _ _ h1 hu hx,hc.hn _ _ _ h2 hu hx,?_⟩
  rw [<- q.nx s u x h1 hu hx,<- q.nx t u x h2 hu hx]
  exact hR.l _ _ _ x h3 (q.lt u hu) (q.L ▸ hx)
 ·rintro s t u x ⟨h1,h2,h3⟩ hu hx
  refine ⟨hc.hn _ _ _ hu h1 hx,hc.hn _ _ _ hu h2 hx,?_⟩
  rw [<- q.nx u s x hu h1 hx,<- q.nx u t x hu h2 hx]
  exact hR.r _ _ _ x h3 (q.lt u hu) (q.L ▸ hx)
theorem Dta.min_canon {d m:Dta} {h:Nat -> Nat} (hd:d.OK) (q:d.renum.Quot m h):m.renum.Canon /\ m.renum.L = d.L /\ d.Lang m.renum:=by
 have hc:=d.renum_ok hd
 refine ⟨m.renum_canon (q.ok hc) (q.acc hc (d.renum_acc hd)) (q.reduced hc),q.L,?_⟩
 intro t ht
 rw [d.renum_lang hd t ht,q.lang hc t ht,m.renum_lang (q.ok hc) t (by rw [q.L]; exact ht)]
end Go.Proofs.YthdabkmkgkkmcaaGreatDoor
namespace Go.Proofs.YthdabkmkgkkmcaaGreatDoor
def Dta.quo (c:Dta) (many:Nat) (cl rep:Nat -> Nat):Dta:=⟨many,cl c.e,c.L,fun l r x => cl (c.nx (rep l) (rep r) x),fun s => c.fin (rep s)⟩
structure Dta.Cong (c:Dta) (many:Nat) (cl rep:Nat -> Nat):Prop where
 lt:∀ s,s < c.n -> cl s < many
 rep:∀ i,i < many -> rep i < c.n /\ cl (rep i) = i
 st:c.Stable (fun s t => s < c.n /\ t < c.n /\ cl s = cl t)
 most:∀ R,c.Stable R -> ∀ s t,R s t -> cl s = cl t
theorem Dta.Cong.quot {c:Dta} {many:Nat} {cl rep:Nat -> Nat} (hc:c.OK) (h:c.Cong many cl rep):c.Quot (c.quo many cl rep) cl:=by
 refine ⟨rfl,rfl,h.lt,fun i hi => ⟨rep i,h.rep i hi⟩,?_,?_,h.most⟩
 ·intro l r x hl hr hx
  have h1:=h.rep _ (h.lt l hl)
  have h2:=h.rep _ (h.lt r hr)
  show cl (c.nx (rep (cl l)) (rep (cl r)) x) = _
  have h3:=(h.st.l _ l _ x ⟨h1.1,hl,h1.2⟩ h2.1 hx).2.2
  have h4:=(h.st.r _ r l x ⟨h2.1,hr,h2.2⟩ hl hx).2.2
  rw [h3,h4]
 ·intro s hs
  have h1:=h.rep _ (h.lt s hs)
  exact h.st.fin _ _ ⟨h1.1,hs,h1.2⟩
def Dta.row (d:Dta) (cl:Nat -> Nat) (s:Nat):List Nat:=(if d.fin s then 1 else 0) :: cl s :: (List.range d.n).flatMap fun q => (List.range d.L).flatMap fun x => [cl (d.nx s q x),cl (d.nx q s x)]
theorem zki {α:Type} {n:Nat} {f g:Nat -> List α} (hl:∀ i,i < n -> (f i).length = (g i).length):(List.range n).flatMap f = (List.range n).flatMap g ↔ ∀ i,i < n -> f i = g i:=by
 induction n with
 | zero => simp
 | succ n ih =>
  rw [List.range_succ,List.flatMap_append,List.flatMap_append]
  have hlen:((List.range n).flatMap f).length = ((List.range n).flatMap g).length:=by
   rw [List.length_flatMap,List.length_flatMap]
   congr 1
   apply List.map_congr_left
   intro i hi
   exact hl i (by have:=List.mem_range.1 hi; omega)
  constructor
  ·intro h
   obtain ⟨h1,h2⟩:=List.append_inj h hlen
   intro i hi
   by_cases he:i = n
   ·subst he; simpa using h2
   ·exact (ih (fun j hj => hl j (by omega))).1 h1 i (by omega)
  ·intro h
   rw [(ih (fun j hj => hl j (by omega))).2 (fun i hi => h i (by omega))]
   simp [h n (by omega)]
theorem Dta.row_eq (d:Dta) (cl:Nat -> Nat) (s t:Nat):d.row cl s = d.row cl t ↔ d.fin s = d.fin t /\ cl s = cl t /\ ∀ q,q < d.n -> ∀ x,x < d.L -> cl (d.nx s q x) = cl (d.nx t q x) /\ cl (d.nx q s x) = cl (d.nx q t x):=by
 unfold Dta.row
 rw [List.cons.injEq,List.cons.injEq,zki (by intro i hi; simp [List.length_flatMap])]
 constructor
 ·rintro ⟨h1,h2,h3⟩
  refine ⟨?_,h2,?_⟩
  ·revert h1; cases d.fin s <;> cases d.fin t <;> simp
  ·intro q hq x hx
   have h4:=(zki (by intro i hi; rfl)).1 (h3 q hq) x hx
   simpa using h4
 ·rintro ⟨h1,h2,h3⟩
  refine ⟨by rw [h1],h2,?_⟩
  intro q hq
  refine (zki (by intro i hi; rfl)).2 ?_
  intro x hx
  have:=h3 q hq x hx
  simp [this.1,this.2]
def keysS {α:Type} [DecidableEq α] (rows:List α):List α:=rows.foldl addS []
theorem zd3 {α:Type} [DecidableEq α] (rows:List α):∀ o:List α,o.Nodup -> (rows.foldl addS o).Nodup /\ o <+: rows.foldl addS o /\ (∀ a,a ∈ rows.foldl addS o ↔ a ∈ o \/ a ∈ rows) /\ (rows.foldl addS o).length <= o.length + rows.length:=by
 induction rows with
 | nil => intro o h; exact ⟨h,List.prefix_refl _,by simp,by simp⟩
 | cons r rows ih =>
  intro o h
  obtain ⟨h1,h2,h3,h4⟩:=ih (addS o r) (zd7 h)
  have hlen:(addS o r).length <= o.length + 1:=by unfold addS; split <;> simp
  refine ⟨h1,(zd6 o r).trans h2,?_,by simp only [List.foldl_cons,List.length_cons]; omega⟩
  intro a
  rw [List.foldl_cons,h3]
  have:a ∈ addS o r ↔ a ∈ o \/ a = r:=by
   unfold addS; split
   ·rename_i hr
    exact ⟨.inl,fun h => h.elim id (fun e => e ▸ hr)⟩
   ·simp
  rw [this,List.mem_cons,or_assoc]
theorem zhv {α:Type} [DecidableEq α] (rows:List α):(keysS rows).Nodup:=(zd3 rows [] (by simp)).1
theorem ziu {α:Type} [DecidableEq α] (rows:List α) (a:α):a ∈ keysS rows ↔ a ∈ rows:=by unfold keysS; simpa using (zd3 rows [] (by simp)).2.2.1 a
theorem zlh {α:Type} [DecidableEq α] (rows:List α):(keysS rows).length <= rows.length:=by unfold keysS; simpa using (zd3 rows [] (by simp)).2.2.2
def Dta.rows (d:Dta) (cl:Nat -> Nat):List (List Nat):=(List.range d.n).map (d.row cl)
def Dta.next (d:Dta) (cl:Nat -> Nat) (s:Nat):Nat:=(keysS (d.rows cl)).idxOf (d.row cl s)
def Dta.count (d:Dta) (cl:Nat -> Nat):Nat:=(keysS (d.rows cl)).length
theorem Dta.row_mem (d:Dta) (cl:Nat -> Nat) {s:Nat} (h:s < d.n):d.row cl s ∈ keysS (d.rows cl):=(ziu _ _).2 (List.mem_map.2 ⟨s,List.mem_range.2 h,rfl⟩)
theorem Dta.next_lt (d:Dta) (cl:Nat -> Nat) {s:Nat} (h:s < d.n):d.next cl s < d.count cl:=List.idxOf_lt_length_of_mem (d.row_mem cl h)
theorem Dta.next_eq (d:Dta) (cl:Nat -> Nat) {s t:Nat} (hs:s < d.n) (ht:t < d.n):d.next cl s = d.next cl t ↔ d.row cl s = d.row cl t:=by
 constructor
 ·intro h
  have h1:(keysS (d.rows cl))[d.next cl s]? = some (d.row cl s):=by
   unfold Dta.next
   rw [List.getElem?_eq_getElem (List.idxOf_lt_length_of_mem (d.row_mem cl hs)),List.getElem_idxOf]
  have h2:(keysS (d.rows cl))[d.next cl t]? = some (d.row cl t):=by
   unfold Dta.next
   rw [List.getElem?_eq_getElem (List.idxOf_lt_length_of_mem (d.row_mem cl ht)),List.getElem_idxOf]
  rw [h,h2] at h1
  exact (Option.some.inj h1).symm
 ·intro h; unfold Dta.next; rw [h]
theorem Dta.next_on (d:Dta) (cl:Nat -> Nat) {i:Nat} (h:i < d.count cl):∃ s,s < d.n /\ d.next cl s = i:=by
 have hm:(keysS (d.rows cl))[i]'h ∈ d.rows cl:=(ziu _ _).1 (List.getElem_mem _)
 obtain ⟨s,hs,e⟩:=List.mem_map.1 hm
 refine ⟨s,List.mem_range.1 hs,?_⟩
 unfold Dta.next
 rw [e]
 exact (zhv _).idxOf_getElem i h
theorem Dta.count_le (d:Dta) (cl:Nat -> Nat):d.count cl <= d.n:=by have:=zlh (d.rows cl); unfold Dta.count; simpa [Dta.rows] using this
theorem Dta.next_most {d:Dta} {cl:Nat -> Nat} (h:∀ R,d.Stable R -> ∀ s t,R s t -> cl s = cl t):∀ R,d.Stable R -> ∀ s t,R s t -> d.next cl s = d.next cl t:=by
 intro R hR s t hst
 obtain ⟨hs,ht⟩:=hR.lt s t hst
 refine (d.next_eq cl hs ht).2 ((d.row_eq cl s t).2 ⟨hR.fin _ _ hst,h R hR _ _ hst,?_⟩)
 intro q hq x hx
 exact ⟨h R hR _ _ (hR.l _ _ q x hst hq hx),h R hR _ _ (hR.r _ _ q x hst hq hx)⟩
theorem zpx {α:Type} [DecidableEq α] {f:α -> Nat} {l:List α} {m:Nat} (hl:l.length <= m) (hc:∀ i,i < m -> ∃ a ∈ l,f a = i) {a b:α} (ha:a ∈ l) (hb:b ∈ l) (hm:f a < m) (e:f a = f b):a = b:=by
 apply Classical.byContradiction
 intro hne
 have hsub:List.range m ⊆ (l.erase a).map f:=by
  intro i hi
  obtain ⟨c,hc1,hc2⟩:=hc i (List.mem_range.1 hi)
  by_cases hca:c = a
  ·subst hca
   exact List.mem_map.2 ⟨b,(List.mem_erase_of_ne (fun h => hne h.symm)).2 hb,by rw [<- e]; exact hc2⟩
  ·exact List.mem_map.2 ⟨c,(List.mem_erase_of_ne hca).2 hc1,hc2⟩
 have h1:=List.Nodup.length_le_of_subset List.nodup_range hsub
 have h2:=List.length_erase_of_mem ha
 have h3:=List.length_pos_of_mem ha
 simp at h1
 omega
theorem Dta.next_stable {d:Dta} (hd:d.OK) {cl:Nat -> Nat} {many:Nat} (hlt:∀ s,s < d.n -> cl s < many) (hon:∀ i,i < many -> ∃ s,s < d.n /\ cl s = i) (hcount:d.count cl = many):d.Stable (fun s t => s < d.n /\ t < d.n /\ d.next cl s = d.next cl t):=by
 have back:∀ s t,s < d.n -> t < d.n -> cl s = cl t -> d.next cl s = d.next cl t:=by
  intro s t hs ht e
  refine (d.next_eq cl hs ht).2 ?_
  refine zpx (f:=fun r => r.getD 1 0) (l:=keysS (d.rows cl)) (m:=many) (Nat.le_of_eq hcount) ?_ (d.row_mem cl hs) (d.row_mem cl ht) (hlt s hs) e
  intro i hi
  obtain ⟨s,hs,e⟩:=hon i hi
  exact ⟨_,d.row_mem cl hs,e⟩
 constructor
 ·rintro s t ⟨hs,ht,_⟩; exact ⟨hs,ht⟩
 ·rintro s t ⟨hs,ht,h⟩; exact ((d.row_eq cl s t).1 ((d.next_eq cl hs ht).1 h)).1
 ·rintro s t q x ⟨hs,ht,h⟩ hq hx
  have h1:=(((d.row_eq cl s t).1 ((d.next_eq cl hs ht).1 h)).2.2 q hq x hx).1
  exact ⟨hd.hn _ _ _ hs hq hx,hd.hn _ _ _ ht hq hx,back _ _ (hd.hn _ _ _ hs hq hx) (hd.hn _ _ _ ht hq hx) h1⟩
 ·rintro s t q x ⟨hs,ht,h⟩ hq hx
  have h1:=(((d.row_eq cl s t).1 ((d.next_eq cl hs ht).1 h)).2.2 q hq x hx).2
  exact ⟨hd.hn _ _ _ hq hs hx,hd.hn _ _ _ hq ht hx,back _ _ (hd.hn _ _ _ hq hs hx) (hd.hn _ _ _ hq ht hx) h1⟩
theorem Dta.count_ge {d:Dta} {cl:Nat -> Nat} {many:Nat} (hon:∀ i,i < many -> ∃ s,s < d.n /\ cl s = i):many <= d.count cl:=by
 have hsub:List.range many ⊆ (keysS (d.rows cl)).map (fun r => r.getD 1 0):=by
  intro i hi
  obtain ⟨s,hs,e⟩:=hon i (List.mem_range.1 hi)
  exact List.mem_map.2 ⟨_,d.row_mem cl hs,e⟩
 have h1:=List.Nodup.length_le_of_subset List.nodup_range hsub
 simpa [Dta.count] using h1
def Dta.clsS (d:Dta):Nat -> (Nat -> Nat) -> Nat -> (Nat -> Nat) × Nat
 | 0,cl,many => (cl,many)
 | m + 1,cl,many => if d.count cl = many then (d.next cl,many) else d.clsS m (d.next cl) (d.count cl)
theorem Dta.cls_ok {d:Dta} (hd:d.OK):∀ (m:Nat) (cl:Nat -> Nat) (many:Nat),d.n < many + m -> (∀ s,s < d.n -> cl s < many) -> (∀ i,i < many -> ∃ s,s < d.n /\ cl s = i) -> (∀ R,d.Stable R -> ∀ s t,R s t -> cl s = cl t) ->
  let r:=d.clsS m cl many
  (∀ s,s < d.n -> r.1 s < r.2) /\ (∀ i,i < r.2 -> ∃ s,s < d.n /\ r.1 s = i) /\ d.Stable (fun s t => s < d.n /\ t < d.n /\ r.1 s = r.1 t) /\ (∀ R,d.Stable R -> ∀ s t,R s t -> r.1 s = r.1 t):=by
 intro m
 induction m with
 | zero =>
  intro cl many hm hlt hon hmost
  exfalso
  have h1:=d.count_ge hon
  have h2:=d.count_le cl
  omega
 | succ m ih =>
  intro cl many hm hlt hon hmost
  have hge:=d.count_ge hon
  unfold Dta.clsS
  by_cases h:d.count cl = many
  ·rw [if_pos h]
   exact ⟨fun s hs => h ▸ d.next_lt cl hs,fun i hi => d.next_on cl (by omega),d.next_stable hd hlt hon h,d.next_most hmost⟩
  ·rw [if_neg h]
   exact ih _ _ (by omega) (fun s hs => d.next_lt cl hs) (fun i hi => d.next_on cl hi) (d.next_most hmost)
def repS (n:Nat) (cl:Nat -> Nat) (i:Nat):Nat:=((List.range n).find? (fun s => cl s == i)).getD 0
theorem rep_ok {n i:Nat} {cl:Nat -> Nat} (h:∃ s,s < n /\ cl s = i):repS n cl i < n /\ cl (repS n cl i) = i:=by
 unfold repS
 cases e:(List.range n).find? (fun s => cl s == i) with
 | none =>
  obtain ⟨s,hs,hi⟩:=h
  have:=List.find?_eq_none.1 e s (List.mem_range.2 hs)
  simp [hi] at this
 | some s =>
  have h1:=List.mem_of_find?_eq_some e
  have h2:=List.find?_some e
  exact ⟨List.mem_range.1 h1,by simpa using h2⟩
def Dta.cls (d:Dta):(Nat -> Nat) × Nat:=d.clsS (d.n + 1) (fun _ => 0) 0
theorem Dta.cls_cong {d:Dta} (hd:d.OK):d.Cong d.cls.2 d.cls.1 (repS d.n d.cls.1):=by
 have h0:∀ R,d.Stable R -> ∀ s t:Nat,R s t -> (fun _:Nat => 0) s = (fun _:Nat => 0) t:=fun _ _ _ _ _ => rfl
 have hpos:d.count (fun _ => 0) ≠ 0:=by
  have:=d.next_lt (fun _ => 0) hd.he
  omega
 have e:d.cls = d.clsS d.n (d.next fun _ => 0) (d.count fun _ => 0):=by
  unfold Dta.cls
  rw [Dta.clsS,if_neg hpos]
 have key:=d.cls_ok hd d.n (d.next fun _ => 0) (d.count fun _ => 0) (by omega) (fun s hs => d.next_lt _ hs) (fun i hi => d.next_on _ hi) (d.next_most h0)
 rw [<- e] at key
 exact ⟨key.1,fun i hi => rep_ok (key.2.1 i hi),key.2.2.1,key.2.2.2⟩
def Dta.mini (d:Dta):Dta:=(d.renum.quo d.renum.cls.2 d.renum.cls.1 (repS d.renum.n d.renum.cls.1)).renum
theorem Dta.mini_canon {d:Dta} (h:d.OK):d.mini.Canon /\ d.mini.L = d.L /\ d.Lang d.mini:=d.min_canon h ((Dta.cls_cong (d.renum_ok h)).quot (d.renum_ok h))
end Go.Proofs.YthdabkmkgkkmcaaGreatDoor
namespace Go.Proofs.YthdabkmkgkkmcaaGreatDoor
section
variable {K:Type} [DecidableEq K] (f:K -> K -> Nat -> K)
def keyT (k0:K):Bt -> K
 | .nil => k0
 | .node a l r => f (keyT k0 l) (keyT k0 r) a.toNat
def AccK (L:Nat) (k0 s:K):Prop:=∃ t:Bt,t.lb L /\ keyT f k0 t = s
theorem AccK.zero (L:Nat) (k0:K):AccK f L k0 k0:=⟨.nil,trivial,rfl⟩
theorem AccK.step {L:Nat} {k0 a b:K} {x:Nat} (ha:AccK f L k0 a) (hb:AccK f L k0 b) (hx:x < L):AccK f L k0 (f a b x):=by
 obtain ⟨t,h1,rfl⟩:=ha
 obtain ⟨u,h2,rfl⟩:=hb
 exact ⟨.node x t u,⟨⟨by omega,by simpa using hx⟩,h1,h2⟩,by simp [keyT]⟩
structure Expl (L:Nat) (k0:K) (o:List K):Prop where
 nodup:o.Nodup
 zero:o[0]? = some k0
 acc:∀ s ∈ o,AccK f L k0 s
 closed:zhc f L o
variable {f}
theorem Expl.mem {L:Nat} {k0:K} {o:List K} (h:Expl f L k0 o):∀ t:Bt,t.lb L -> keyT f k0 t ∈ o
 | .nil,_ => List.mem_of_getElem? h.zero
 | .node a l r,ht => h.closed _ _ _ (h.mem l ht.2.1) (h.mem r ht.2.2) ht.1.2
theorem Expl.most {L:Nat} {k0:K} {o p:List K} (h:Expl f L k0 o) (hn:p.Nodup) (ha:∀ s ∈ p,AccK f L k0 s):p.length <= o.length :=
 hn.length_le_of_subset fun s hs => by obtain ⟨t,h1,rfl⟩:=ha s hs; exact h.mem t h1
variable (f)
def autE (L:Nat) (k0:K) (o:List K) (fin:K -> Bool):Dta:=⟨o.length,0,L,fun l r x => o.idxOf (f (o.getD l k0) (o.getD r k0) x),fun s => fin (o.getD s k0)⟩
variable {f}
theorem getD_some {o:List K} {k0 a:K} {i:Nat} (h:o[i]? = some a):o.getD i k0 = a:=by rw [List.getD_eq_getElem?_getD,h]; rfl
theorem zlo {o:List K} {k0:K} {i:Nat} (h:i < o.length):o[i]? = some (o.getD i k0):=by
 rw [List.getD_eq_getElem?_getD,List.getElem?_eq_getElem h]; rfl
theorem zlk {o:List K} {s:K} (h:s ∈ o):o[o.idxOf s]? = some s:=by
 rw [List.getElem?_eq_getElem (List.idxOf_lt_length_of_mem h),List.getElem_idxOf]
theorem Expl.step {L:Nat} {k0:K} {o:List K} (h:Expl f L k0 o) (fin:K -> Bool) {l r x:Nat} {a b:K} (hl:o[l]? = some a) (hr:o[r]? = some b) (hx:x < L):o[(autE f L k0 o fin).nx l r x]? = some (f a b x):=by
 show o[o.idxOf (f (o.getD l k0) (o.getD r k0) x)]? = _
 rw [getD_some hl,getD_some hr]
 exact zlk (h.closed _ _ _ (List.mem_of_getElem? hl) (List.mem_of_getElem? hr) hx)
theorem Expl.ok {L:Nat} {k0:K} {o:List K} (h:Expl f L k0 o) (fin:K -> Bool):(autE f L k0 o fin).OK:=by
 refine ⟨(List.getElem?_eq_some_iff.1 h.zero).1,?_⟩
 intro l r x hl hr hx
 exact (List.getElem?_eq_some_iff.1 (h.step fin (zlo (k0:=k0) hl) (zlo (k0:=k0) hr) hx)).1
theorem Expl.run {L:Nat} {k0:K} {o:List K} (h:Expl f L k0 o) (fin:K -> Bool):∀ t:Bt,t.lb L -> o[(autE f L k0 o fin).run t]? = some (keyT f k0 t)
 | .nil,_ => h.zero
 | .node a l r,ht => h.step fin (h.run fin l ht.2.1) (h.run fin r ht.2.2) ht.1.2
theorem Expl.lang {L:Nat} {k0:K} {o:List K} (h:Expl f L k0 o) (fin:K -> Bool) (t:Bt) (ht:t.lb L):(autE f L k0 o fin).fin ((autE f L k0 o fin).run t) = fin (keyT f k0 t):=by
 show fin (o.getD _ k0) = _
 rw [getD_some (h.run fin t ht)]
end
def pairF (a b:Dta) (p q:Nat × Nat) (x:Nat):Nat × Nat:=(a.nx p.1 q.1 x,b.nx p.2 q.2 x)
theorem zim (a b:Dta):∀ t:Bt,keyT (pairF a b) (a.e,b.e) t = (a.run t,b.run t)
 | .nil => rfl
 | .node _ l r => by simp only [keyT,Dta.run,zim a b l,zim a b r,pairF]
def prodA (a b:Dta) (o:List (Nat × Nat)) (g:Bool -> Bool -> Bool):Dta:=autE (pairF a b) a.L (a.e,b.e) o (fun p => g (a.fin p.1) (b.fin p.2))
def Dta.neg (d:Dta):Dta:={ d with fin:=fun s => !d.fin s }
theorem Dta.neg_run (d:Dta):∀ t:Bt,d.neg.run t = d.run t
 | .nil => rfl
 | .node a l r => by simp only [Dta.run,d.neg_run l,d.neg_run r]; rfl
theorem Dta.neg_lang (d:Dta) (t:Bt):d.neg.fin (d.neg.run t) = !d.fin (d.run t):=by rw [d.neg_run]; rfl
def VarT (lo hi:Nat -> Nat):Bt -> Bt -> Prop
 | .nil,.nil => True
 | .node a l r,.node b l' r' => (b.toNat = lo a.toNat \/ b.toNat = hi a.toNat) /\ 0 <= b /\ VarT lo hi l l' /\ VarT lo hi r r'
 | _,_ => False
end Go.Proofs.YthdabkmkgkkmcaaGreatDoor
namespace Go.Proofs.YthdabkmkgkkmcaaGreatDoor
theorem lb_lt {K:Nat}:∀ {b:Bt},b.lb K ↔ b.lt K
 | .nil => Iff.rfl
 | .node a l r => by
  simp only [Bt.lb,Bt.lt,lb_lt (b:=l),lb_lt (b:=r)]
  constructor
  ·rintro ⟨⟨h1,h2⟩,h3,h4⟩; exact ⟨h1,by omega,h3,h4⟩
  ·rintro ⟨h1,h2,h3,h4⟩; exact ⟨⟨h1,by omega⟩,h3,h4⟩
def tsF (K:Nat):Nat -> Nat -> List Bt
 | 0,_ => []
 | _ + 1,0 => [.nil]
 | f + 1,k + 1 => (List.range (k + 1)).flatMap fun i => (tsF K f i).flatMap fun a => (tsF K f (k - i)).flatMap fun b => (List.range K).map fun x:Nat => Bt.node (x:Int) a b
theorem zo5 (K:Nat):∀ (f n:Nat),n < f -> ∀ b:Bt,b ∈ tsF K f n ↔ b.size = n /\ b.lb K:=by
 intro f
 induction f with
 | zero => intro n h; omega
 | succ f ih =>
  intro n hn b
  cases n with
  | zero =>
   simp only [tsF,List.mem_singleton]
   cases b with
   | nil => simp [Bt.size,Bt.lb]
   | node a l r => simp [Bt.size]
  | succ k =>
   simp only [tsF,List.mem_flatMap,List.mem_map,List.mem_range]
   constructor
   ·rintro ⟨i,hi,a,ha,c,hc,x,hx,rfl⟩
    obtain ⟨h1,h2⟩:=(ih i (by omega) a).1 ha
    obtain ⟨h3,h4⟩:=(ih (k - i) (by omega) c).1 hc
    exact ⟨by simp only [Bt.size]; omega,⟨by omega,by simpa using hx⟩,h2,h4⟩
   ·rintro ⟨hs,hl⟩
    cases b with
    | nil => simp [Bt.size] at hs
    | node a l r =>
     obtain ⟨⟨h0,hx⟩,h1,h2⟩:=hl
     simp only [Bt.size] at hs
     refine ⟨l.size,by omega,l,(ih _ (by omega) l).2 ⟨rfl,h1⟩,r,(ih _ (by omega) r).2 ⟨by omega,h2⟩,a.toNat,hx,?_⟩
     rw [Int.toNat_of_nonneg h0]
end Go.Proofs.YthdabkmkgkkmcaaGreatDoor
namespace Go.Proofs.YthdabkmkgkkmcaaGreatDoor
theorem zg9:∀ (x x' y y':List Int),x.length = x'.length -> cmpL (x ++ y) (x' ++ y') = if cmpL x x' = 0 then cmpL y y' else cmpL x x'
 | [],[],y,y',_ => by simp [cmpL]
 | [],_ :: _,_,_,h => by simp at h
 | _ :: _,[],_,_,h => by simp at h
 | a :: x,b :: x',y,y',h => by
  have ih:=zg9 x x' y y' (by simpa using h)
  have c1:cmpL (a :: x) (b :: x') = if cmpI a b = 0 then cmpL x x' else cmpI a b:=rfl
  have c2:cmpL (a :: x ++ y) (b :: x' ++ y') = if cmpI a b = 0 then cmpL (x ++ y) (x' ++ y') else cmpI a b:=rfl
  rw [c2]
  generalize cmpL (a :: x) (b :: x') = u at c1 ⊢
  by_cases e:cmpI a b = 0
  ·rw [if_pos e] at c1 ⊢
   rw [c1]; exact ih
  ·rw [if_neg e] at c1 ⊢
   rw [c1,if_neg e]
def leB (a b:Bt):Prop:=cmpL a.code b.code <= 0
theorem zpb (a:Bt):leB a a:=by unfold leB; rw [(ze2 _ _).2 rfl]; omega
theorem zeu {a b c:Bt} (h:leB a b) (g:leB b c):leB a c:=(zhy _ _ _ h g).1
theorem zrg {a a' b b':Bt} (x:Int) (ha:leB a a') (hb:leB b b') (hs:a.size = a'.size):leB (.node x a b) (.node x a' b'):=by
 unfold leB at ha hb ⊢
 simp only [Bt.code]
 rw [zp0,zg9 _ _ _ _ (by rw [Bt.code_len,Bt.code_len,hs])]
 split
 ·exact hb
 ·exact ha
structure Dta.Least (d:Dta) (n s:Nat) (b:Bt):Prop where
 size:b.size = n
 lb:b.lb d.L
 run:d.run b = s
 le:∀ c:Bt,c.size = n -> c.lb d.L -> d.run c = s -> leB b c
def zci (o:Option Bt) (t:Bt):Option Bt:=match o with
 | none => some t
 | some u => if cmpL t.code u.code < 0 then some t else some u
def minB (o:Option Bt) (l:List Bt):Option Bt:=l.foldl zci o
theorem zpa (a b:Bt):leB a b \/ cmpL b.code a.code < 0:=by
 unfold leB
 have:=zg8 a.code b.code
 omega
theorem zgt:∀ (l:List Bt) (u:Bt),∃ b,minB (some u) l = some b /\ (b = u \/ b ∈ l) /\ leB b u /\ ∀ c ∈ l,leB b c
 | [],u => ⟨u,rfl,.inl rfl,zpb u,by simp⟩
 | t :: l,u => by
  by_cases h:cmpL t.code u.code < 0
  ·obtain ⟨b,h1,h2,h3,h4⟩:=zgt l t
   refine ⟨b,?_,?_,zeu h3 (by unfold leB; omega),?_⟩
   ·show minB (zci (some u) t) l = _
    simp only [zci]
    rw [if_pos h]; exact h1
   ·rcases h2 with h2 | h2
    ·exact .inr (by rw [h2]; exact List.mem_cons_self)
    ·exact .inr (List.mem_cons_of_mem _ h2)
   ·intro c hc
    rcases List.mem_cons.1 hc with e | hc
    ·rw [e]; exact h3
    ·exact h4 c hc
  ·obtain ⟨b,h1,h2,h3,h4⟩:=zgt l u
   refine ⟨b,?_,?_,h3,?_⟩
   ·show minB (zci (some u) t) l = _
    simp only [zci]
    rw [if_neg h]; exact h1
   ·rcases h2 with h2 | h2
    ·exact .inl h2
    ·exact .inr (List.mem_cons_of_mem _ h2)
   ·intro c hc
    rcases List.mem_cons.1 hc with e | hc
    ·rw [e]
     refine zeu h3 ?_
     rcases zpa u t with g | g
     ·exact g
     ·exact absurd g h
    ·exact h4 c hc
theorem zdr (l:List Bt):(minB none l = none /\ l = []) \/ ∃ b,minB none l = some b /\ b ∈ l /\ ∀ c ∈ l,leB b c:=by
 cases l with
 | nil => exact .inl ⟨rfl,rfl⟩
 | cons t l =>
  obtain ⟨b,h1,h2,h3,h4⟩:=zgt l t
  refine .inr ⟨b,h1,?_,?_⟩
  ·rcases h2 with h2 | h2
   ·rw [h2]; exact List.mem_cons_self
   ·exact List.mem_cons_of_mem _ h2
  ·intro c hc
   rcases List.mem_cons.1 hc with e | hc
   ·rw [e]; exact h3
   ·exact h4 c hc
def Dta.cands (d:Dta) (sm:Nat -> Nat -> Option Bt) (k:Nat):List (Nat × Bt) :=
 (List.range (k + 1)).flatMap fun i => (List.range d.n).flatMap fun l => (List.range d.n).flatMap fun r => (List.range d.L).flatMap fun x => match sm i l,sm (k - i) r with
  | some a,some b => [(d.nx l r x,Bt.node (x:Int) a b)]
  | _,_ => []
def Dta.ofS (c:List (Nat × Bt)) (s:Nat):List Bt:=(c.filter fun p => p.1 == s).map (·.2)
def Dta.Knows (d:Dta) (n:Nat) (f:Nat -> Option Bt):Prop:=∀ s,s < d.n -> (∀ b,f s = some b -> d.Least n s b) /\ (f s = none -> ∀ c:Bt,c.size = n -> c.lb d.L -> d.run c ≠ s)
theorem Dta.knows_zero (d:Dta):d.Knows 0 (fun s => if s = d.e then some .nil else none):=by
 intro s hs
 show (∀ b,(if s = d.e then some Bt.nil else none) = some b -> d.Least 0 s b) /\ ((if s = d.e then some Bt.nil else none) = none -> ∀ c:Bt,c.size = 0 -> c.lb d.L -> d.run c ≠ s)
 constructor
 ·intro b hb
  by_cases h:s = d.e
  ·rw [if_pos h] at hb
   cases hb
   refine ⟨rfl,trivial,h.symm,?_⟩
   intro c hc _ _
   rw [Bt.nil_of_size hc]; exact zpb _
  ·rw [if_neg h] at hb; cases hb
 ·intro h c hc _ hr
  rw [Bt.nil_of_size hc] at hr
  rw [if_pos (show s = d.e from hr.symm)] at h; cases h
theorem Dta.knows_succ {d:Dta} (h:d.OK) (sm:Nat -> Nat -> Option Bt) (k:Nat) (hk:∀ i,i <= k -> d.Knows i (sm i)):d.Knows (k + 1) (fun s => minB none (Dta.ofS (d.cands sm k) s)):=by
 have hmem:∀ s t,t ∈ Dta.ofS (d.cands sm k) s ↔ ∃ i l r x a b,i < k + 1 /\ l < d.n /\ r < d.n /\ x < d.L /\ sm i l = some a /\ sm (k - i) r = some b /\ d.nx l r x = s /\ t = Bt.node ((x:Nat):Int) a b:=by
  intro s t
  unfold Dta.ofS Dta.cands
  simp only [List.mem_map,List.mem_filter,List.mem_flatMap,List.mem_range]
  constructor
  ·rintro ⟨⟨q,u⟩,⟨⟨i,hi,l,hl,r,hr,x,hx,hm⟩,hq⟩,rfl⟩
   cases e1:sm i l with
   | none => rw [e1] at hm; simp at hm
   | some a =>
    cases e2:sm (k - i) r with
    | none => rw [e1,e2] at hm; simp at hm
    | some b =>
     rw [e1,e2] at hm
     simp at hm
     obtain ⟨h1,h2⟩:=hm
     exact ⟨i,l,r,x,a,b,hi,hl,hr,hx,e1,e2,by rw [<- h1]; simpa using hq,h2⟩
  ·rintro ⟨i,l,r,x,a,b,hi,hl,hr,hx,e1,e2,rfl,rfl⟩
   refine ⟨(d.nx l r x,_),⟨⟨i,hi,l,hl,r,hr,x,hx,?_⟩,by simp⟩,rfl⟩
   rw [e1,e2]; simp
 intro s hs
 -- every tree of the size has a candidate that is no greater
 have low:∀ c:Bt,c.size = k + 1 -> c.lb d.L -> d.run c = s -> ∃ t,t ∈ Dta.ofS (d.cands sm k) s /\ leB t c:=by
  intro c hc hl hr
  cases c with
  | nil => simp [Bt.size] at hc
  | node a l r =>
   obtain ⟨⟨h0,hx⟩,h1,h2⟩:=hl
   simp only [Bt.size] at hc
   have n1:=h.run l h1
   have n2:=h.run r h2
   obtain ⟨k1,k2⟩:=hk l.size (by omega) (d.run l) n1
   obtain ⟨k3,k4⟩:=hk (k - l.size) (by omega) (d.run r) n2
   cases e1:sm l.size (d.run l) with
   | none => exact absurd rfl (k2 e1 l rfl h1)
   | some u =>
    cases e2:sm (k - l.size) (d.run r) with
    | none => exact absurd rfl (k4 e2 r (by omega) h2)
    | some v =>
     have u1:=k1 u e1
     have v1:=k3 v e2
     refine ⟨.node (a.toNat:Nat) u v,(hmem s _).2 ⟨l.size,d.run l,d.run r,a.toNat,u,v,by omega,n1,n2,hx,e1,e2,hr,rfl⟩,?_⟩
     rw [Int.toNat_of_nonneg h0]
     exact zrg a (u1.le l rfl h1 rfl) (v1.le r (by omega) h2 rfl) u1.size
 have up:∀ t,t ∈ Dta.ofS (d.cands sm k) s -> t.size = k + 1 /\ t.lb d.L /\ d.run t = s:=by
  intro t ht
  obtain ⟨i,l,r,x,a,b,hi,hl,hr,hx,e1,e2,h1,rfl⟩:=(hmem s t).1 ht
  have u1:=(hk i (by omega) l hl).1 a e1
  have v1:=(hk (k - i) (by omega) r hr).1 b e2
  refine ⟨by simp only [Bt.size,u1.size,v1.size]; omega,⟨⟨by omega,by simpa using hx⟩,u1.lb,v1.lb⟩,?_⟩
  simp only [Dta.run,u1.run,v1.run,Int.toNat_natCast]
  exact h1
 rcases zdr (Dta.ofS (d.cands sm k) s) with ⟨h1,h2⟩ | ⟨b,h1,h2,h3⟩
 ·show (∀ b,minB none (Dta.ofS (d.cands sm k) s) = some b -> d.Least (k + 1) s b) /\ (minB none (Dta.ofS (d.cands sm k) s) = none -> ∀ c:Bt,c.size = k + 1 -> c.lb d.L -> d.run c ≠ s)
  rw [h1]
  refine ⟨fun b hb => (by cases hb),fun _ c hc hl hr => ?_⟩
  obtain ⟨t,ht,_⟩:=low c hc hl hr
  rw [h2] at ht; simp at ht
 ·show (∀ b,minB none (Dta.ofS (d.cands sm k) s) = some b -> d.Least (k + 1) s b) /\ (minB none (Dta.ofS (d.cands sm k) s) = none -> ∀ c:Bt,c.size = k + 1 -> c.lb d.L -> d.run c ≠ s)
  rw [h1]
  refine ⟨fun b' hb => ?_,fun hn => (by cases hn)⟩
  cases hb
  obtain ⟨g1,g2,g3⟩:=up b h2
  refine ⟨g1,g2,g3,fun c hc hl hr => ?_⟩
  obtain ⟨t,ht,hle⟩:=low c hc hl hr
  exact zeu (h3 t ht) hle
end Go.Proofs.YthdabkmkgkkmcaaGreatDoor
namespace Go.Proofs.YthdabkmkgkkmcaaGreatDoor
structure Dta.Is (d:Dta) (L:Nat) (S:Bt -> Bool):Prop where
 can:d.Canon
 hL:d.L = L
 lang:∀ t:Bt,t.lb L -> d.fin (d.run t) = S t
theorem Dta.mini_is {d:Dta} (h:d.OK) {L:Nat} (hL:d.L = L) {S:Bt -> Bool} (hS:∀ t:Bt,t.lb L -> d.fin (d.run t) = S t):d.mini.Is L S:=by
 obtain ⟨h1,h2,h3⟩:=d.mini_canon h
 refine ⟨h1,h2.trans hL,fun t ht => ?_⟩
 rw [<- h3 t (by rw [hL]; exact ht)]
 exact hS t ht
theorem Dta.Is.same {a b:Dta} {L:Nat} {S S':Bt -> Bool} (ha:a.Is L S) (hb:b.Is L S') (h:∀ t:Bt,t.lb L -> S t = S' t):a.Same b :=
 Dta.canon_same ha.can hb.can (ha.hL.trans hb.hL.symm) (fun t ht => by rw [ha.hL] at ht; rw [ha.lang t ht,hb.lang t ht,h t ht])
theorem Dta.Is.of_lang {d:Dta} {L:Nat} {S S':Bt -> Bool} (h:d.Is L S) (hS:∀ t:Bt,t.lb L -> S t = S' t):d.Is L S':=⟨h.can,h.hL,fun t ht => (h.lang t ht).trans (hS t ht)⟩
section
variable {K:Type} [DecidableEq K] (f:K -> K -> Nat -> K)
def explN (L N:Nat) (k0:K):List K:=loopE f (trE L) N [k0] 0
variable {f}
theorem zhx {L N:Nat} {k0:K} {P:K -> Prop} (hP:∀ a b x,P a -> P b -> x < L -> P (f a b x)) (hN:∀ o:List K,o.Nodup -> (∀ a ∈ o,P a) -> o.length <= N) (h0:P k0):Expl f L k0 (explN f L N k0) :=
 ⟨zgv _ _ _ _ _ (by simp),zar (zji f (trE L) N [k0] 0) rfl,
  zgw f (zfs L) (P:=AccK f L k0) (fun a b x ha hb hx => AccK.step f ha hb hx) _ _ _ (by intro a ha; simp at ha; subst ha; exact AccK.zero f L a),
  zfv f (zfs L) (P:=P) (N:=N) hP hN N [k0] 0 (by omega) (by simp) (by intro a ha; simp at ha; subst ha; exact h0) (fun l r x a b hl => absurd hl (by omega))⟩
theorem zjr {L N:Nat} {k0:K} {P:K -> Prop} (hP:∀ a b x,P a -> P b -> x < L -> P (f a b x)) (h0:P k0):∀ s ∈ explN f L N k0,P s :=
 zgw f (zfs L) (P:=P) hP _ _ _ (by intro a ha; simp at ha; subst ha; exact h0)
theorem Expl.len_eq {L:Nat} {k0:K} {o p:List K} (h:Expl f L k0 o) (g:Expl f L k0 p):o.length = p.length :=
 Nat.le_antisymm (g.most h.nodup h.acc) (h.most g.nodup g.acc)
theorem Expl.is {L:Nat} {k0:K} {o:List K} (h:Expl f L k0 o) (fin:K -> Bool):(autE f L k0 o fin).mini.Is L (fun t => fin (keyT f k0 t)) :=
 Dta.mini_is (h.ok fin) rfl fun t ht => h.lang fin t ht
theorem Expl.raw_eq {L:Nat} {k0:K} {o p:List K} (h:Expl f L k0 o) (g:Expl f L k0 p) (fin:K -> Bool):(autE f L k0 o fin).mini.Same (autE f L k0 p fin).mini :=
 (h.is fin).same (g.is fin) fun _ _ => rfl
end
theorem zle {n m:Nat} {o:List (Nat × Nat)} (h:o.Nodup) (hl:∀ p ∈ o,p.1 < n /\ p.2 < m):o.length <= n * m:=by
 have hs:=h.length_le_of_subset (l₂:=(List.range n).flatMap fun i => (List.range m).map fun j => (i,j)) (fun p hp => by
  rw [List.mem_flatMap]
  exact ⟨p.1,List.mem_range.2 (hl p hp).1,List.mem_map.2 ⟨p.2,List.mem_range.2 (hl p hp).2,rfl⟩⟩)
 have e:((List.range n).flatMap fun i => (List.range m).map fun j => (i,j)).length = n * m:=by
  rw [List.length_flatMap]
  have:(List.range n).map (fun i => ((List.range m).map fun j => (i,j)).length) = List.replicate n m:=by
   apply List.ext_getElem?
   intro i
   by_cases hi:i < n <;> simp [hi]
  rw [this,List.sum_replicate_nat]
 omega
def inPr (a b:Dta) (p:Nat × Nat):Prop:=p.1 < a.n /\ p.2 < b.n
theorem zgy {a b:Dta} (ha:a.OK) (hb:b.OK) (hL:a.L = b.L):∀ p q x,inPr a b p -> inPr a b q -> x < a.L -> inPr a b (pairF a b p q x) :=
 fun p q x hp hq hx => ⟨ha.hn _ _ _ hp.1 hq.1 hx,hb.hn _ _ _ hp.2 hq.2 (hL ▸ hx)⟩
def prodO (a b:Dta):List (Nat × Nat):=explN (pairF a b) a.L (a.n * b.n) (a.e,b.e)
theorem zb6 {a b:Dta} (ha:a.OK) (hb:b.OK) (hL:a.L = b.L):Expl (pairF a b) a.L (a.e,b.e) (prodO a b) :=
 zhx (P:=inPr a b) (zgy ha hb hL) (fun o h1 h2 => zle h1 h2) ⟨ha.he,hb.he⟩
theorem zof {a b:Dta} (ha:a.OK) (hb:b.OK) (hL:a.L = b.L):(prodO a b).length <= a.n * b.n :=
 zle (zb6 ha hb hL).nodup (zjr (P:=inPr a b) (zgy ha hb hL) ⟨ha.he,hb.he⟩)
def prodM (a b:Dta) (g:Bool -> Bool -> Bool):Dta:=(prodA a b (prodO a b) g).mini
theorem zf2 {a b:Dta} (ha:a.OK) (hb:b.OK) (hL:a.L = b.L) (g:Bool -> Bool -> Bool):(prodM a b g).Is a.L (fun t => g (a.fin (a.run t)) (b.fin (b.run t))):=by
 have h:=(zb6 ha hb hL).is (fun p => g (a.fin p.1) (b.fin p.2))
 exact h.of_lang fun t _ => by rw [zim]
theorem zje {a b:Dta} (ha:a.OK) (hb:b.OK) (hL:a.L = b.L) (g:Bool -> Bool -> Bool) {o:List (Nat × Nat)} (h:Expl (pairF a b) a.L (a.e,b.e) o):(prodA a b o g).mini.Same (prodM a b g) :=
 h.raw_eq (zb6 ha hb hL) _
theorem Dta.mini_n {d:Dta} (h:d.OK):d.mini.n <= d.n:=by
 have hc:=d.renum_ok h
 have hq:=(Dta.cls_cong hc).quot hc
 have h1:d.mini.n <= (d.renum.quo d.renum.cls.2 d.renum.cls.1 (repS d.renum.n d.renum.cls.1)).n:=Dta.order_len (hq.ok hc)
 have h2:d.renum.cls.2 <= d.renum.n:=Nat.le_trans (d.renum.count_ge fun i hi => ⟨_,(d.renum.cls_cong hc).rep i hi⟩) (d.renum.count_le _)
 have h3:d.renum.n <= d.n:=d.order_len h
 exact Nat.le_trans h1 (Nat.le_trans h2 h3)
theorem Dta.mini_ok {d:Dta} (h:d.OK):d.mini.OK:=(d.mini_canon h).1.ok
theorem zog {a b:Dta} (ha:a.OK) (hb:b.OK) (hL:a.L = b.L) (g:Bool -> Bool -> Bool):(prodM a b g).n <= (prodO a b).length:=by
 have:=Dta.mini_n ((zb6 ha hb hL).ok (fun p => g (a.fin p.1) (b.fin p.2)))
 exact this
theorem Dta.neg_ok {d:Dta} (h:d.OK):d.neg.OK:=⟨h.he,h.hn⟩
def Dta.notM (d:Dta):Dta:=d.neg.mini
theorem Dta.notM_is {d:Dta} (h:d.OK):d.notM.Is d.L (fun t => !d.fin (d.run t)):=Dta.mini_is (Dta.neg_ok h) rfl fun t _ => d.neg_lang t
def mem64 (s:Nat):List Nat:=(List.range 64).filter s.testBit
theorem zbu (s p:Nat):p ∈ mem64 s ↔ p < 64 /\ s.testBit p = true:=by simp [mem64]
def orAll {α:Type} (l:List α) (F:α -> Nat -> Nat) (to:Nat):Nat:=l.foldl (fun to a => F a to) to
theorem zgq {α:Type} (F:α -> Nat -> Nat) (B:α -> Nat -> Prop) (s:Nat) (hF:∀ a to,(F a to).testBit s = true ↔ to.testBit s = true \/ B a s):∀ (l:List α) (to:Nat),(orAll l F to).testBit s = true ↔ to.testBit s = true \/ ∃ a ∈ l,B a s
 | [],to => by simp [orAll]
 | a :: l,to => by
  have ih:=zgq F B s hF l (F a to)
  show (orAll l F (F a to)).testBit s = true ↔ _
  rw [ih,hF]
  constructor
  ·rintro ((h | h) | ⟨b,hb,h⟩)
   ·exact .inl h
   ·exact .inr ⟨a,by simp,h⟩
   ·exact .inr ⟨b,by simp [hb],h⟩
  ·rintro (h | ⟨b,hb,h⟩)
   ·exact .inl (.inl h)
   ·rcases List.mem_cons.1 hb with rfl | hb
    ·exact .inl (.inr h)
    ·exact .inr ⟨b,hb,h⟩
def loV (v x:Nat):Nat:=x ^^^ (x &&& 2 ^ v)
def hiV (v x:Nat):Nat:=x ||| 2 ^ v
def setF (d:Dta) (v:Nat) (l r x:Nat):Nat :=
 orAll (mem64 l) (fun p to => orAll (mem64 r) (fun q to => to ||| (2 ^ d.nx p q (loV v x) ||| 2 ^ d.nx p q (hiV v x))) to) 0
theorem zj6 (k s:Nat):(2 ^ k).testBit s = true ↔ s = k:=by
 rw [Nat.testBit_two_pow]; simp; exact eq_comm
theorem zlb (d:Dta) (v l r x s:Nat):(setF d v l r x).testBit s = true ↔ ∃ p q,(p < 64 /\ l.testBit p = true) /\ (q < 64 /\ r.testBit q = true) /\ (s = d.nx p q (loV v x) \/ s = d.nx p q (hiV v x)):=by
 unfold setF
 rw [zgq _ (fun p s => ∃ q ∈ mem64 r,s = d.nx p q (loV v x) \/ s = d.nx p q (hiV v x)) s]
 ·simp only [Nat.zero_testBit,Bool.false_eq_true,false_or]
  constructor
  ·rintro ⟨p,hp,q,hq,h⟩
   exact ⟨p,q,(zbu _ _).1 hp,(zbu _ _).1 hq,h⟩
  ·rintro ⟨p,q,hp,hq,h⟩
   exact ⟨p,(zbu _ _).2 hp,q,(zbu _ _).2 hq,h⟩
 ·intro p to
  exact zgq _ (fun q s => s = d.nx p q (loV v x) \/ s = d.nx p q (hiV v x)) s (fun q to => by
   rw [Nat.testBit_or,Nat.testBit_or,Bool.or_eq_true,Bool.or_eq_true,zj6,zj6]) _ _
theorem zo8 {V v x:Nat} (hv:v < V) (h:x < 2 ^ V):loV v x < 2 ^ V:=Nat.xor_lt_two_pow h (Nat.and_lt_two_pow _ (Nat.pow_lt_pow_right (by omega) hv))
theorem zpm {V v x:Nat} (hv:v < V) (h:x < 2 ^ V):hiV v x < 2 ^ V:=Nat.or_lt_two_pow h (Nat.pow_lt_pow_right (by omega) hv)
theorem set_lt {n s:Nat} (h:∀ i,s.testBit i = true -> i < n):s < 2 ^ n:=by
 apply Nat.lt_pow_two_of_testBit
 intro i hi
 cases hb:s.testBit i with
 | false => rfl
 | true => exact absurd (h i hb) (by omega)
theorem zgu {n s i:Nat} (h:s < 2 ^ n) (hb:s.testBit i = true):i < n:=by
 by_cases hi:i < n
 ·exact hi
 ·have:=Nat.testBit_lt_two_pow (Nat.lt_of_lt_of_le h (Nat.pow_le_pow_right (by omega) (show n <= i by omega)))
  rw [this] at hb; cases hb
theorem zgn {d:Dta} (h:d.OK) {V v:Nat} (hL:d.L = 2 ^ V) (hv:v < V):∀ l r x,l < 2 ^ d.n -> r < 2 ^ d.n -> x < d.L -> setF d v l r x < 2 ^ d.n:=by
 intro l r x hl hr hx
 refine set_lt fun i hi => ?_
 obtain ⟨p,q,hp,hq,hs⟩:=(zlb d v l r x i).1 hi
 have h1:=zgu hl hp.2
 have h2:=zgu hr hq.2
 rcases hs with rfl | rfl
 ·exact h.hn _ _ _ h1 h2 (hL ▸ zo8 hv (hL ▸ hx))
 ·exact h.hn _ _ _ h1 h2 (hL ▸ zpm hv (hL ▸ hx))
def setO (d:Dta) (v:Nat):List Nat:=explN (setF d v) d.L (2 ^ d.n) (2 ^ d.e)
theorem zbs {d:Dta} (h:d.OK) {V v:Nat} (hL:d.L = 2 ^ V) (hv:v < V):Expl (setF d v) d.L (2 ^ d.e) (setO d v) :=
 zhx (P:=fun s => s < 2 ^ d.n) (zgn h hL hv) (fun o h1 h2 => zcd h1 h2) (Nat.pow_lt_pow_right (by omega) h.he)
def za7 (d:Dta) (s:Nat):Bool:=(mem64 s).any d.fin
def zb0 (d:Dta) (v:Nat):Dta:=(autE (setF d v) d.L (2 ^ d.e) (setO d v) (za7 d)).mini
theorem zq4 {d:Dta} (h:d.OK) {V v:Nat} (hL:d.L = 2 ^ V) (hv:v < V):(setO d v).length <= 2 ^ d.n :=
 zcd (zbs h hL hv).nodup (zjr (P:=fun s => s < 2 ^ d.n) (zgn h hL hv) (Nat.pow_lt_pow_right (by omega) h.he))
abbrev VarV (v:Nat):Bt -> Bt -> Prop:=VarT (loV v) (hiV v)
theorem zn0 {d:Dta} (h:d.OK) (h64:d.n <= 64) {V v:Nat} (hL:d.L = 2 ^ V) (hv:v < V) (t:Bt) (ht:t.lb d.L) (s:Nat):(keyT (setF d v) (2 ^ d.e) t).testBit s = true ↔ ∃ u,VarV v t u /\ d.run u = s:=by
 have hlt:∀ t:Bt,t.lb d.L -> keyT (setF d v) (2 ^ d.e) t < 2 ^ d.n:=by
  intro t
  induction t with
  | nil => intro _; exact Nat.pow_lt_pow_right (by omega) h.he
  | node a l r ihl ihr => intro ht; exact zgn h hL hv _ _ _ (ihl ht.2.1) (ihr ht.2.2) ht.1.2
 induction t generalizing s with
 | nil =>
  show (2 ^ d.e).testBit s = true ↔ _
  rw [zj6]
  constructor
  ·rintro rfl; exact ⟨.nil,trivial,rfl⟩
  ·rintro ⟨u,hu,rfl⟩
   cases u with
   | nil => rfl
   | node => exact absurd hu (by simp [VarV,VarT])
 | node a l r ihl ihr =>
  show (setF d v (keyT (setF d v) (2 ^ d.e) l) (keyT (setF d v) (2 ^ d.e) r) a.toNat).testBit s = true ↔ _
  rw [zlb]
  constructor
  ·rintro ⟨p,q,hp,hq,h3⟩
   obtain ⟨u,hu,rfl⟩:=(ihl ht.2.1 p).1 hp.2
   obtain ⟨w,hw,rfl⟩:=(ihr ht.2.2 q).1 hq.2
   rcases h3 with rfl | rfl
   ·exact ⟨.node (loV v a.toNat:Nat) u w,⟨.inl (by simp),by omega,hu,hw⟩,by simp [Dta.run]⟩
   ·exact ⟨.node (hiV v a.toNat:Nat) u w,⟨.inr (by simp),by omega,hu,hw⟩,by simp [Dta.run]⟩
  ·rintro ⟨u,hu,rfl⟩
   cases u with
   | nil => exact absurd hu (by simp [VarV,VarT])
   | node b u w =>
    obtain ⟨hb,_,h1,h2⟩:=hu
    have k1:=(ihl ht.2.1 (d.run u)).2 ⟨u,h1,rfl⟩
    have k2:=(ihr ht.2.2 (d.run w)).2 ⟨w,h2,rfl⟩
    refine ⟨d.run u,d.run w,⟨Nat.lt_of_lt_of_le (zgu (hlt l ht.2.1) k1) h64,k1⟩,⟨Nat.lt_of_lt_of_le (zgu (hlt r ht.2.2) k2) h64,k2⟩,?_⟩
    simp only [Dta.run]
    rcases hb with hb | hb
    ·exact .inl (by rw [hb])
    ·exact .inr (by rw [hb])
theorem zm9 {d:Dta} (h:d.OK) {V v:Nat} (hL:d.L = 2 ^ V) (hv:v < V):(zb0 d v).Is d.L (fun t => za7 d (keyT (setF d v) (2 ^ d.e) t)):=(zbs h hL hv).is (za7 d)
theorem zg4 {d:Dta} (h:d.OK) (h64:d.n <= 64) {V v:Nat} (hL:d.L = 2 ^ V) (hv:v < V) (t:Bt) (ht:t.lb d.L):za7 d (keyT (setF d v) (2 ^ d.e) t) = true ↔ ∃ u,VarV v t u /\ d.fin (d.run u) = true:=by
 unfold za7
 rw [List.any_eq_true]
 constructor
 ·rintro ⟨s,hs,hf⟩
  obtain ⟨u,hu,rfl⟩:=(zn0 h h64 hL hv t ht s).1 ((zbu _ _).1 hs).2
  exact ⟨u,hu,hf⟩
 ·rintro ⟨u,hu,hf⟩
  have hb:=(zn0 h h64 hL hv t ht (d.run u)).2 ⟨u,hu,rfl⟩
  refine ⟨d.run u,(zbu _ _).2 ⟨?_,hb⟩,hf⟩
  refine Nat.lt_of_lt_of_le (zgu ?_ hb) h64
  have hlt:∀ t:Bt,t.lb d.L -> keyT (setF d v) (2 ^ d.e) t < 2 ^ d.n:=by
   intro t
   induction t with
   | nil => intro _; exact Nat.pow_lt_pow_right (by omega) h.he
   | node a l r ihl ihr => intro ht; exact zgn h hL hv _ _ _ (ihl ht.2.1) (ihr ht.2.2) ht.1.2
  exact hlt t ht
theorem zg5 {d:Dta} (h:d.OK) {V v:Nat} (hL:d.L = 2 ^ V) (hv:v < V) {o:List Nat} (ho:Expl (setF d v) d.L (2 ^ d.e) o):(autE (setF d v) d.L (2 ^ d.e) o (za7 d)).mini.Same (zb0 d v) :=
 ho.raw_eq (zbs h hL hv) _
theorem zpr {d:Dta} (h:d.OK) {V v:Nat} (hL:d.L = 2 ^ V) (hv:v < V):(zb0 d v).n <= (setO d v).length:=Dta.mini_n ((zbs h hL hv).ok (za7 d))
def labC (v:Nat) (a b:Int):Prop:=(b.toNat = loV v a.toNat \/ b.toNat = hiV v a.toNat) /\ 0 <= b
theorem znr {v:Nat} {a b:Int} {l r l' r':Bt}:VarV v (.node a l r) (.node b l' r') ↔ labC v a b /\ VarV v l l' /\ VarV v r r':=by
 constructor
 ·intro h
  obtain ⟨h1,h2,h3,h4⟩:=h
  exact ⟨⟨h1,h2⟩,h3,h4⟩
 ·intro h
  obtain ⟨⟨h1,h2⟩,h3,h4⟩:=h
  exact ⟨h1,h2,h3,h4⟩
theorem zh9 {v V:Nat} (hv:v < V):∀ {t u:Bt},t.lb (2 ^ V) -> VarV v t u -> u.lb (2 ^ V)
 | .nil,.nil,_,_ => trivial
 | .nil,.node _ _ _,_,h => absurd h (by simp [VarV,VarT])
 | .node _ _ _,.nil,_,h => absurd h (by simp [VarV,VarT])
 | .node a l r,.node b l' r',ht,h => by
  obtain ⟨h1,h2,h3⟩:=znr.1 h
  refine ⟨⟨h1.2,?_⟩,zh9 hv ht.2.1 h2,zh9 hv ht.2.2 h3⟩
  rcases h1.1 with e | e
  ·rw [e]; exact zo8 hv ht.1.2
  ·rw [e]; exact zpm hv ht.1.2
end Go.Proofs.YthdabkmkgkkmcaaGreatDoor
namespace Go.Proofs.YthdabkmkgkkmcaaGreatDoor
def sizR (d:Dta) (sm:List (List (Option Bt))):Nat -> List (Option Bt)
 | 0 => (List.range d.n).map fun s => if s = d.e then some .nil else none
 | k + 1 => (List.range d.n).map fun s => minB none (Dta.ofS (d.cands (fun i l => (sm.getD i []).getD l none) k) s)
def zbh (d:Dta):Nat -> List (List (Option Bt))
 | 0 => []
 | n + 1 => zbh d n ++ [sizR d (zbh d n) n]
theorem zbg (d:Dta):∀ n,(zbh d n).length = n
 | 0 => rfl
 | n + 1 => by rw [zbh,List.length_append,zbg d n]; rfl
theorem zgk (d:Dta):∀ n i,i < n -> (zbh d n)[i]? = some (sizR d (zbh d i) i)
 | 0,i,h => by omega
 | n + 1,i,h => by
  rw [zbh]
  by_cases e:i < n
  ·rw [List.getElem?_append_left (by rw [zbg]; exact e)]; exact zgk d n i e
  ·have:i = n:=by omega
   subst this
   rw [List.getElem?_append_right (by rw [zbg]; exact zn),zbg,Nat.sub_self]; rfl
theorem zep (d:Dta) (sm:List (List (Option Bt))) (k:Nat):(sizR d sm k).length = d.n:=by cases k <;> simp [sizR]
def rowS (d:Dta) (n s:Nat):Option Bt:=(sizR d (zbh d n) n).getD s none
theorem zhl (d:Dta) {n i l:Nat} (h:i < n):((zbh d n).getD i []).getD l none = rowS d i l:=by
 rw [List.getD_eq_getElem?_getD,List.getD_eq_getElem?_getD (l:=zbh d n),zgk d n i h]
 show _ = (sizR d (zbh d i) i).getD l none
 rw [List.getD_eq_getElem?_getD]; rfl
theorem zkv (d:Dta) {sm sm':Nat -> Nat -> Option Bt} (k:Nat) (h:∀ i l,i <= k -> sm i l = sm' i l):d.cands sm k = d.cands sm' k:=by
 unfold Dta.cands
 rw [List.flatMap_def,List.flatMap_def]
 congr 1
 apply List.map_congr_left
 intro i hi
 have hi:=List.mem_range.1 hi
 rw [List.flatMap_def,List.flatMap_def]
 congr 1
 apply List.map_congr_left
 intro l _
 rw [List.flatMap_def,List.flatMap_def]
 congr 1
 apply List.map_congr_left
 intro r _
 rw [h i l (by omega),h (k - i) r (by omega)]
theorem zn4 (d:Dta) (s:Nat) (h:s < d.n):rowS d 0 s = if s = d.e then some .nil else none:=by
 unfold rowS sizR
 rw [List.getD_eq_getElem?_getD,List.getElem?_map,List.getElem?_range h]; rfl
theorem zn5 (d:Dta) (k s:Nat) (h:s < d.n):rowS d (k + 1) s = minB none (Dta.ofS (d.cands (rowS d) k) s):=by
 unfold rowS sizR
 rw [List.getD_eq_getElem?_getD,List.getElem?_map,List.getElem?_range h]
 show minB none (Dta.ofS (d.cands _ k) s) = _
 rw [zkv d k (fun i l hi => zhl d (show i < k + 1 by omega))]
 rfl
theorem Dta.Knows.congr {d:Dta} {n:Nat} {f g:Nat -> Option Bt} (h:d.Knows n f) (e:∀ s,s < d.n -> f s = g s):d.Knows n g:=fun s hs => by
 rw [<- e s hs]; exact h s hs
theorem zds {d:Dta} (h:d.OK):∀ n,d.Knows n (rowS d n):=by
 intro n
 induction n using Nat.strongRecOn with
 | ind n ih =>
  cases n with
  | zero => exact d.knows_zero.congr fun s hs => (zn4 d s hs).symm
  | succ k => exact (d.knows_succ h (rowS d) k (fun i hi => ih i (by omega))).congr fun s hs => (zn5 d k s hs).symm
def accL (d:Dta) (row:Nat -> Option Bt):List Bt:=(List.range d.n).filterMap fun s => if d.fin s then row s else none
def bestS (d:Dta) (n:Nat):Option Bt:=minB none (accL d (rowS d n))
def zeo (d:Dta):Option Bt:=(List.range 32).findSome? (bestS d)
theorem zh4 {d:Dta} (h:d.OK) {n:Nat} {t:Bt} (hb:bestS d n = some t):t.size = n /\ t.lb d.L /\ d.fin (d.run t) = true /\ ∀ u:Bt,u.size = n -> u.lb d.L -> d.fin (d.run u) = true -> leB t u:=by
 have hk:=zds h n
 have mem:∀ u,u ∈ accL d (rowS d n) ↔ ∃ s,s < d.n /\ d.fin s = true /\ rowS d n s = some u:=by
  intro u
  unfold accL
  rw [List.mem_filterMap]
  constructor
  ·rintro ⟨s,hs,e⟩
   by_cases hf:d.fin s = true
   ·rw [if_pos hf] at e; exact ⟨s,List.mem_range.1 hs,hf,e⟩
   ·rw [if_neg hf] at e; cases e
  ·rintro ⟨s,hs,hf,e⟩
   exact ⟨s,List.mem_range.2 hs,by rw [if_pos hf]; exact e⟩
 rcases zdr (accL d (rowS d n)) with ⟨h1,_⟩ | ⟨b,h1,h2,h3⟩
 ·unfold bestS at hb; rw [h1] at hb; cases hb
 ·unfold bestS at hb
  rw [h1] at hb
  cases hb
  obtain ⟨s,hs,hf,e⟩:=(mem t).1 h2
  have hl:=(hk s hs).1 t e
  refine ⟨hl.size,hl.lb,by rw [hl.run]; exact hf,fun u hu hul huf => ?_⟩
  have hs2:=h.run u hul
  cases e2:rowS d n (d.run u) with
  | none => exact absurd rfl ((hk _ hs2).2 e2 u hu hul)
  | some b =>
   exact zeu (h3 b ((mem b).2 ⟨_,hs2,huf,e2⟩)) (((hk _ hs2).1 b e2).le u hu hul rfl)
theorem zh5 {d:Dta} (h:d.OK) {n:Nat} (hb:bestS d n = none):∀ u:Bt,u.size = n -> u.lb d.L -> d.fin (d.run u) = false:=by
 intro u hu hul
 have hk:=zds h n
 have hs2:=h.run u hul
 cases hf:d.fin (d.run u) with
 | false => rfl
 | true =>
  cases e2:rowS d n (d.run u) with
  | none => exact absurd rfl ((hk _ hs2).2 e2 u hu hul)
  | some b =>
   rcases zdr (accL d (rowS d n)) with ⟨_,h2⟩ | ⟨c,h1,_,_⟩
   ·have:b ∈ accL d (rowS d n):=by
     unfold accL
     exact List.mem_filterMap.2 ⟨d.run u,List.mem_range.2 hs2,by rw [if_pos hf]; exact e2⟩
    rw [h2] at this; simp at this
   ·unfold bestS at hb; rw [h1] at hb; cases hb
theorem zfj {α:Type} {f:Nat -> Option α}:∀ {n:Nat} {t:α},(List.range n).findSome? f = some t -> ∃ k,k < n /\ f k = some t /\ ∀ j,j < k -> f j = none
 | 0,t,h => by simp at h
 | n + 1,t,h => by
  rw [List.range_succ,List.findSome?_append] at h
  cases e:(List.range n).findSome? f with
  | some u =>
   rw [e] at h
   simp only [Option.some_or,Option.some.injEq] at h
   subst h
   obtain ⟨k,h1,h2⟩:=zfj e
   exact ⟨k,by omega,h2⟩
  | none =>
   rw [e] at h
   simp only [Option.none_or,List.findSome?_cons,List.findSome?_nil] at h
   refine ⟨n,by omega,?_,fun j hj => ?_⟩
   ·cases e2:f n with
    | none => rw [e2] at h; cases h
    | some v => rw [e2] at h; exact h
   ·exact List.findSome?_eq_none_iff.1 e j (List.mem_range.2 hj)
theorem zdu {α:Type} {f:Nat -> Option α} {n:Nat} (h:(List.range n).findSome? f = none):∀ j,j < n -> f j = none:=fun j hj => List.findSome?_eq_none_iff.1 h j (List.mem_range.2 hj)
theorem zix {α:Type} {f:Nat -> Option α} {n k:Nat} {t:α} (hk:k < n) (h1:f k = some t) (h2:∀ j,j < k -> f j = none):(List.range n).findSome? f = some t:=by
 cases e:(List.range n).findSome? f with
 | none => have:=zdu e k hk; rw [this] at h1; cases h1
 | some u =>
  obtain ⟨j,h3,h4,h5⟩:=zfj e
  have:j = k:=by
   rcases Nat.lt_trichotomy j k with h | h | h
   ·rw [h2 j h] at h4; cases h4
   ·exact h
   ·rw [h5 k h] at h1; cases h1
  subst this
  rw [h1] at h4; rw [h4]
theorem zmg {d:Dta} (h:d.OK) {t:Bt} (hs:zeo d = some t):t.size <= 31 /\ t.lb d.L /\ d.fin (d.run t) = true /\ ∀ u:Bt,u.lb d.L -> d.fin (d.run u) = true -> t.size < u.size \/ t.size = u.size /\ leB t u:=by
 obtain ⟨k,h1,h2,h3⟩:=zfj hs
 obtain ⟨g1,g2,g3,g4⟩:=zh4 h h2
 refine ⟨by omega,g2,g3,fun u hu hf => ?_⟩
 rcases Nat.lt_trichotomy u.size k with hl | he | hl
 ·have:=zh5 h (h3 _ hl) u rfl hu
  rw [this] at hf; cases hf
 ·exact .inr ⟨by omega,g4 u he hu hf⟩
 ·exact .inl (by omega)
theorem zmh {d:Dta} (h:d.OK) (hs:zeo d = none):∀ u:Bt,u.lb d.L -> d.fin (d.run u) = true -> 31 < u.size:=by
 intro u hu hf
 by_cases hl:u.size < 32
 ·have:=zh5 h (zdu hs _ hl) u rfl hu
  rw [this] at hf; cases hf
 ·omega
def zd9 (d:Dta):Bool:=!((List.range d.renum.n).any d.renum.fin)
theorem zjt {d:Dta} (h:d.OK):zd9 d = true ↔ ∀ t:Bt,t.lb d.L -> d.fin (d.run t) = false:=by
 unfold zd9
 rw [Bool.not_eq_true',List.any_eq_false]
 constructor
 ·intro ha t ht
  rw [d.renum_lang h t ht]
  have:=ha _ (List.mem_range.2 ((d.renum_ok h).run t ht))
  simpa using this
 ·intro ha s hs
  obtain ⟨t,h1,h2⟩:=d.renum_acc h s (List.mem_range.1 hs)
  rw [<- h2,<- d.renum_lang h t h1,ha t h1]; simp
end Go.Proofs.YthdabkmkgkkmcaaGreatDoor
namespace Go.Proofs.YthdabkmkgkkmcaaGreatDoor
def trX (L a b x:Nat):List (Nat × Nat × Nat):=(List.range' x (L - x)).map fun x => (a,b,x)
def trJ (L k j:Nat):List (Nat × Nat × Nat):=(List.range' j (k + 1 - j)).flatMap fun j => trX L j k 0 ++ trX L k j 0
theorem zk6 {L a b x:Nat} (h:x < L):trX L a b x = (a,b,x) :: trX L a b (x + 1):=by
 unfold trX
 obtain ⟨m,hm⟩:∃ m,L - x = m + 1:=⟨L - x - 1,by omega⟩
 rw [hm,List.range'_succ,List.map_cons,show L - (x + 1) = m by omega]
theorem znu {L a b x:Nat} (h:L <= x):trX L a b x = []:=by
 unfold trX; rw [show L - x = 0 by omega]; rfl
theorem zqr {L k j:Nat} (h:j <= k):trJ L k j = trX L j k 0 ++ (trX L k j 0 ++ trJ L k (j + 1)):=by
 unfold trJ
 obtain ⟨m,hm⟩:∃ m,k + 1 - j = m + 1:=⟨k - j,by omega⟩
 rw [hm,List.range'_succ,List.flatMap_cons,show k + 1 - (j + 1) = m by omega,List.append_assoc]
theorem trJ_nil {L k j:Nat} (h:k < j):trJ L k j = []:=by
 unfold trJ; rw [show k + 1 - j = 0 by omega]; rfl
theorem trE_eq (L k:Nat):trE L k = trJ L k 0:=by
 unfold trE trJ trX
 rw [Nat.sub_zero,Nat.sub_zero,List.range_eq_range',List.range_eq_range']
 simp only [List.flatMap_cons,List.flatMap_nil,List.append_nil]
section
variable {K:Type} [DecidableEq K] (f:K -> K -> Nat -> K)
theorem zn3 (o:List K) (p:Nat × Nat × Nat) (ps:List (Nat × Nat × Nat)):runE f o (p :: ps) = runE f (stepE f o p) ps:=rfl
theorem zqu {o:List K} {l r x:Nat} {a b:K} (hl:o[l]? = some a) (hr:o[r]? = some b):stepE f o (l,r,x) = addS o (f a b x):=by
 unfold stepE; simp only [hl,hr]
end
structure ExplI (d:Dta) (o:List Nat) (k:Nat):Prop where
 rest:loopE d.nx (trE d.L) (d.n - k) o k = d.order
 nodup:o.Nodup
 lt:∀ a ∈ o,a < d.n
 pos:0 < o.length
 le:k <= o.length
theorem ExplI.start {d:Dta} (h:d.OK):ExplI d [d.e] 0:=⟨by rw [Nat.sub_zero]; rfl,by simp,by intro a ha; simp at ha; subst ha; exact h.he,by simp,Nat.zero_le _⟩
theorem ExplI.len {d:Dta} {o:List Nat} {k:Nat} (h:ExplI d o k):o.length <= d.n:=zcd h.nodup h.lt
theorem ExplI.done {d:Dta} {o:List Nat} {k:Nat} (h:ExplI d o k) (hk:¬ k < o.length):o = d.order:=by
 have h1:=h.rest
 cases e:d.n - k with
 | zero => rw [e] at h1; exact h1
 | succ m => rw [e,loopE,if_neg hk] at h1; exact h1
structure ExplR (d:Dta) (k:Nat) (ps:List (Nat × Nat × Nat)) (o:List Nat):Prop where
 rest:loopE d.nx (trE d.L) (d.n - (k + 1)) (runE d.nx o ps) (k + 1) = d.order
 nodup:o.Nodup
 lt:∀ a ∈ o,a < d.n
 k:k < o.length
theorem ExplR.len {d:Dta} {o:List Nat} {k:Nat} {ps} (h:ExplR d k ps o):o.length <= d.n:=zcd h.nodup h.lt
theorem ExplI.round {d:Dta} {o:List Nat} {k:Nat} (h:ExplI d o k) (hk:k < o.length):ExplR d k (trJ d.L k 0) o:=by
 have h1:=h.rest
 have hl:=h.len
 obtain ⟨m,hm⟩:∃ m,d.n - k = m + 1:=⟨d.n - k - 1,by omega⟩
 rw [hm,loopE,if_pos hk,trE_eq] at h1
 exact ⟨by rw [show d.n - (k + 1) = m by omega]; exact h1,h.nodup,h.lt,hk⟩
theorem ExplR.next {d:Dta} {o:List Nat} {k:Nat} (h:ExplR d k [] o):ExplI d o (k + 1):=⟨h.rest,h.nodup,h.lt,by have:=h.k; omega,h.k⟩
theorem ExplR.step {d:Dta} (hd:d.OK) {o:List Nat} {k l r x:Nat} {ps:List (Nat × Nat × Nat)} (h:ExplR d k ((l,r,x) :: ps) o) (hx:x < d.L) {a b:Nat} (hl:o[l]? = some a) (hr:o[r]? = some b):ExplR d k ps (addS o (d.nx a b x)):=by
 have h1:=h.rest
 rw [zn3,zqu d.nx hl hr] at h1
 exact ⟨h1,zd7 h.nodup,zf9 h.lt (hd.hn _ _ _ (h.lt _ (List.mem_of_getElem? hl)) (h.lt _ (List.mem_of_getElem? hr)) hx),Nat.lt_of_lt_of_le h.k (zd6 _ _).length_le⟩
end Go.Proofs.YthdabkmkgkkmcaaGreatDoor
namespace Go.Proofs.YthdabkmkgkkmcaaGreatDoor
def fb (b:Bool):List Nat:=if b then [116,114,117,101] else [102,97,108,115,101]
def nb (c:Nat):List Nat:=[32,c]
def encB:List Nat -> List Nat
 | [] => []
 | m :: cs => fb (m == 1) ++ cs.flatMap nb
def gB (r:List Nat):List UInt8:=(encB r).map fun (x:Nat) => UInt8.ofNat x
theorem u8_inj {a b:Nat} (ha:a < 256) (hb:b < 256) (h:UInt8.ofNat a = UInt8.ofNat b):a = b:=by
 have:=congrArg UInt8.toNat h
 simp [UInt8.toNat_ofNat'] at this
 omega
theorem zoz:∀ (a b:List Nat),(∀ c ∈ a,c < 256) -> (∀ c ∈ b,c < 256) -> (a.flatMap nb).map (fun (x:Nat) => UInt8.ofNat x) = (b.flatMap nb).map (fun (x:Nat) => UInt8.ofNat x) -> a = b
 | [],[],_,_,_ => rfl
 | [],c :: b,_,_,h => by simp [nb] at h
 | c :: a,[],_,_,h => by simp [nb] at h
 | c :: a,e :: b,ha,hb,h => by
  simp only [List.flatMap_cons,nb,List.cons_append,List.nil_append,List.map_cons,List.cons.injEq] at h
  rw [u8_inj (ha c (by simp)) (hb e (by simp)) h.2.1,zoz a b (fun x hx => ha x (by simp [hx])) (fun x hx => hb x (by simp [hx])) h.2.2]
structure RowOK (r:List Nat):Prop where
 sh:∃ m cs,r = m :: cs /\ (m = 0 \/ m = 1) /\ ∀ c ∈ cs,c < 256
theorem gB_inj {a b:List Nat} (ha:RowOK a) (hb:RowOK b) (h:gB a = gB b):a = b:=by
 obtain ⟨m,cs,rfl,hm,hc⟩:=ha.sh
 obtain ⟨m',cs',rfl,hm',hc'⟩:=hb.sh
 unfold gB encB fb at h
 rcases hm with rfl | rfl <;> rcases hm' with rfl | rfl
 ·simp only [List.map_append] at h
  have h2:=List.append_cancel_left h
  rw [zoz cs cs' hc hc' h2]
 ·simp at h
 ·simp at h
 ·simp only [List.map_append] at h
  have h2:=List.append_cancel_left h
  rw [zoz cs cs' hc hc' h2]
theorem Dta.row_rowOK (d:Dta) (cl:Nat -> Nat) (h:∀ s,cl s < 256) (s:Nat):RowOK (d.row cl s):=by
 refine ⟨_,_,rfl,?_,?_⟩
 ·cases d.fin s <;> simp
 ·intro c hc
  simp only [List.mem_cons,List.mem_flatMap] at hc
  rcases hc with rfl | ⟨q,_,x,_,hc⟩
  ·exact h s
  ·simp at hc
   rcases hc with rfl | rfl <;> exact h _
def idxD {α:Type} [DecidableEq α] (l:List α) (a:α):Nat:=l.idxOf a
theorem zbv {α:Type} [DecidableEq α] (b:α) (l:List α) (a:α):idxD (b :: l) a = if b = a then 0 else idxD l a + 1:=by
 unfold idxD
 rw [List.idxOf_cons]
 by_cases e:b = a
 ·subst e; rw [if_pos rfl,beq_self_eq_true]; rfl
 ·have e2:(b == a) = false:=beq_eq_false_iff_ne.2 e
  rw [if_neg e,e2]; rfl
theorem zpj {α:Type} [DecidableEq α] [I:BEq α] [LawfulBEq α] (l:List α) (a:α):idxD l a = @List.idxOf α I a l:=by
 induction l with
 | nil => rfl
 | cons b l ih =>
  rw [zbv,List.idxOf_cons,ih]
  by_cases e:b = a
  ·subst e; rw [if_pos rfl,beq_self_eq_true]; rfl
  ·have e2:(b == a) = false:=beq_eq_false_iff_ne.2 e
   rw [if_neg e,e2]; rfl
theorem zo7 {α β:Type} [DecidableEq α] [DecidableEq β] {g:α -> β} {P:α -> Prop} (hg:∀ a b,P a -> P b -> g a = g b -> a = b) {a:α} (ha:P a):∀ (o:List α),(∀ b ∈ o,P b) -> idxD (o.map g) (g a) = idxD o a
 | [],_ => rfl
 | b :: o,ho => by
  rw [List.map_cons,zbv,zbv,zo7 hg ha o (fun c hc => ho c (by simp [hc]))]
  by_cases e:b = a
  ·subst e; simp
  ·have:g b ≠ g a:=fun h => e (hg b a (ho b (by simp)) ha h)
   rw [if_neg e,if_neg this]
theorem zed {α:Type} [DecidableEq α] (o t:List α) (a:α):idxD (o ++ t) a = if a ∈ o then idxD o a else o.length + idxD t a:=by
 induction o with
 | nil => simp
 | cons b o ih =>
  rw [List.cons_append,zbv,zbv,ih]
  by_cases e:b = a
  ·subst e; simp
  ·by_cases h:a ∈ o
   ·simp [e,h]
   ·have e':a ≠ b:=fun q => e q.symm
    simp [e,e',h]; omega
def Dta.KS (d:Dta) (cl:Nat -> Nat) (s:Nat):List (List Nat):=keysS ((d.rows cl).take s)
def Dta.KB (d:Dta) (cl:Nat -> Nat) (s:Nat):List (List UInt8):=(d.KS cl s).map gB
theorem Dta.rows_len (d:Dta) (cl:Nat -> Nat):(d.rows cl).length = d.n:=by simp [Dta.rows]
theorem Dta.rows_at (d:Dta) (cl:Nat -> Nat) {s:Nat} (h:s < d.n):(d.rows cl)[s]? = some (d.row cl s):=by
 unfold Dta.rows; rw [List.getElem?_map,List.getElem?_range h]; rfl
theorem Dta.KS_succ (d:Dta) (cl:Nat -> Nat) {s:Nat} (h:s < d.n):d.KS cl (s + 1) = addS (d.KS cl s) (d.row cl s):=by
 unfold Dta.KS keysS
 rw [List.take_add_one,d.rows_at cl h,List.foldl_append]; rfl
theorem Dta.KS_full (d:Dta) (cl:Nat -> Nat):d.KS cl d.n = keysS (d.rows cl):=by
 unfold Dta.KS; rw [List.take_of_length_le (by rw [d.rows_len]; exact zn)]
theorem Dta.KS_pre (d:Dta) (cl:Nat -> Nat) (s:Nat):d.KS cl s <+: keysS (d.rows cl):=by
 unfold Dta.KS keysS
 conv => rhs; rw [<- List.take_append_drop s (d.rows cl),List.foldl_append]
 exact (zd3 _ _ (zhv _)).2.1
theorem Dta.KS_ok (d:Dta) (cl:Nat -> Nat) (h:∀ s,cl s < 256) (s:Nat):∀ r ∈ d.KS cl s,RowOK r:=by
 intro r hr
 unfold Dta.KS at hr
 rw [ziu] at hr
 obtain ⟨t,_,rfl⟩:=List.mem_map.1 (List.mem_of_mem_take hr)
 exact d.row_rowOK cl h t
theorem zpi {α:Type} [DecidableEq α] {o p:List α} (h:o <+: p) {a:α} (ha:a ∈ o):idxD p a = idxD o a:=by
 obtain ⟨t,rfl⟩:=h
 rw [zed,if_pos ha]
theorem Dta.KB_mem (d:Dta) (cl:Nat -> Nat) (h:∀ s,cl s < 256) (s:Nat):gB (d.row cl s) ∈ d.KB cl s ↔ d.row cl s ∈ d.KS cl s:=by
 unfold Dta.KB
 constructor
 ·intro hm
  obtain ⟨b,hb,e⟩:=List.mem_map.1 hm
  exact gB_inj (d.KS_ok cl h s b hb) (d.row_rowOK cl h s) e ▸ hb
 ·exact fun hm => List.mem_map.2 ⟨_,hm,rfl⟩
theorem Dta.KB_hit (d:Dta) (cl:Nat -> Nat) (h:∀ s,cl s < 256) {s:Nat} (hs:s < d.n) (hm:d.row cl s ∈ d.KS cl s):idxD (d.KB cl s) (gB (d.row cl s)) = d.next cl s /\ d.KB cl (s + 1) = d.KB cl s:=by
 refine ⟨?_,?_⟩
 ·unfold Dta.KB
  rw [zo7 (P:=RowOK) (fun a b => gB_inj) (d.row_rowOK cl h s) _ (d.KS_ok cl h s)]
  rw [<- zpi (d.KS_pre cl s) hm,zpj]
  rfl
 ·unfold Dta.KB
  rw [d.KS_succ cl hs]
  unfold addS
  rw [if_pos hm]
theorem Dta.KB_miss (d:Dta) (cl:Nat -> Nat) {s:Nat} (hs:s < d.n) (hm:d.row cl s ∉ d.KS cl s):(d.KB cl s).length = d.next cl s /\ d.KB cl (s + 1) = d.KB cl s ++ [gB (d.row cl s)]:=by
 have hk:d.KS cl (s + 1) = d.KS cl s ++ [d.row cl s]:=by rw [d.KS_succ cl hs]; unfold addS; rw [if_neg hm]
 refine ⟨?_,?_⟩
 ·have:=zpi (d.KS_pre cl (s + 1)) (a:=d.row cl s) (by rw [hk]; simp)
  rw [hk,zed,if_neg hm,zbv,if_pos rfl,Nat.add_zero,zpj] at this
  unfold Dta.KB
  rw [List.length_map,<- this]
  rfl
 ·unfold Dta.KB; rw [hk]; simp
theorem Dta.KB_count (d:Dta) (cl:Nat -> Nat):(d.KB cl d.n).length = d.count cl:=by
 unfold Dta.KB; rw [d.KS_full,List.length_map]; rfl
theorem Dta.KB_len (d:Dta) (cl:Nat -> Nat) {s:Nat}:(d.KB cl s).length <= d.n:=by
 unfold Dta.KB
 rw [List.length_map]
 exact Nat.le_trans (d.KS_pre cl s).length_le (by have:=zlh (d.rows cl); rwa [d.rows_len] at this)
def Dta.rowX (d:Dta) (cl:Nat -> Nat) (s q x:Nat):List Nat:=fb (d.fin s) ++ nb (cl s) ++ ((List.range q).flatMap fun q => (List.range d.L).flatMap fun x => nb (cl (d.nx s q x)) ++ nb (cl (d.nx q s x))) ++ (List.range x).flatMap fun x => nb (cl (d.nx s q x)) ++ nb (cl (d.nx q s x))
theorem Dta.rowX_zero (d:Dta) (cl:Nat -> Nat) (s:Nat):d.rowX cl s 0 0 = fb (d.fin s) ++ nb (cl s):=by simp [Dta.rowX]
theorem Dta.rowX_next (d:Dta) (cl:Nat -> Nat) (s q:Nat):d.rowX cl s q d.L = d.rowX cl s (q + 1) 0:=by simp [Dta.rowX,List.range_succ,List.flatMap_append]
theorem Dta.rowX_succ (d:Dta) (cl:Nat -> Nat) (s q x:Nat):d.rowX cl s q (x + 1) = d.rowX cl s q x ++ nb (cl (d.nx s q x)) ++ nb (cl (d.nx q s x)):=by simp [Dta.rowX,List.range_succ,List.flatMap_append]
theorem zpw (m:Nat) (cs:List Nat):encB (m :: cs) = fb (m == 1) ++ cs.flatMap nb:=rfl
theorem Dta.rowX_full (d:Dta) (cl:Nat -> Nat) (s:Nat):d.rowX cl s d.n 0 = encB (d.row cl s):=by
 have hb:((if d.fin s = true then 1 else 0:Nat) == 1) = d.fin s:=by cases d.fin s <;> rfl
 unfold Dta.rowX Dta.row
 rw [zpw,hb]
 simp only [List.range_zero,List.flatMap_nil,List.append_nil,List.flatMap_cons,List.append_assoc,List.flatMap_assoc,nb]
theorem zg3 {f:Nat -> List Nat} {k n:Nat} (h:∀ i,(f i).length = k):((List.range n).flatMap f).length = n * k:=by
 induction n with
 | zero => simp
 | succ n ih => rw [List.range_succ,List.flatMap_append,List.length_append,ih]; simp [h,Nat.succ_mul]
theorem Dta.rowX_len (d:Dta) (cl:Nat -> Nat) (s q x:Nat) (hn:q <= 64) (hL:d.L <= 8) (hx:x <= 8):(d.rowX cl s q x).length <= 5000:=by
 have h1:(fb (d.fin s)).length <= 5:=by unfold fb; split <;> simp
 unfold Dta.rowX
 simp only [List.length_append]
 rw [zg3 (k:=d.L * 4) (fun i => by rw [zg3 (k:=4) (fun j => by simp [nb])]),zg3 (k:=4) (fun j => by simp [nb])]
 have h2:q * (d.L * 4) <= 64 * 32:=Nat.mul_le_mul hn (by omega)
 have h3:(nb (cl s)).length = 2:=rfl
 omega
end Go.Proofs.YthdabkmkgkkmcaaGreatDoor
namespace Go.Proofs.YthdabkmkgkkmcaaGreatDoor
section
variable (d:Dta) (k:Nat)
end
end Go.Proofs.YthdabkmkgkkmcaaGreatDoor
namespace Go.Proofs.YthdabkmkgkkmcaaGreatDoor
end Go.Proofs.YthdabkmkgkkmcaaGreatDoor

/- Part 1 of the proof; it says: lemmas and contracts. No conditions but those that each theorem states. -/
import Derived.Lib.Hide
import Derived.Calls
set_option linter.unusedSimpArgs false
set_option linter.unusedVariables false
set_option maxRecDepth 100000
set_option maxHeartbeats 32000000
namespace Go.Proofs.YthkfjnmnoanhlaaGreatDoor
open Go.RowKit
theorem zh {p:Prop} (h:p):Hid p:=h
theorem zx {α:Sort _} (e:α):∃ x,x = e:=⟨e,rfl⟩
theorem zn {n:Nat}:n ≤ n:=Nat.le_refl n
theorem zp:(∀ (a:Act) (d:Nat) (v:Value),a.put (some d) v = { a with tmps:=a.tmps.setIfInBounds d v }) ∧ (∀ (a:Act) (v:Value),a.put none v = a) ∧ (∀ (l:List Value) (i:Nat) (x:Value),l.toArray.setIfInBounds i x = (l.set i x).toArray) ∧ (∀ (a:Value) (l:List Value) (x:Value),(a :: l).set 0 x = x :: l) ∧ (∀ (a:Value) (l:List Value) (n:Nat) (x:Value),(a :: l).set (n + 1) x = a :: l.set n x) :=
 ⟨fun _ _ _ => rfl,fun _ _ => rfl,fun l i x => List.setIfInBounds_toArray ..,fun _ _ _ => rfl,fun _ _ _ _ => rfl⟩
theorem zg:(∀ (l:List Value) (i:Nat),l.toArray[i]? = l[i]?) ∧ (∀ (a:Value) (l:List Value),(a :: l)[0]? = some a) ∧ (∀ (a:Value) (l:List Value) (i:Nat),(a :: l)[i + 1]? = l[i]?) :=
 ⟨fun l i => List.getElem?_toArray ..,fun _ _ => rfl,fun _ _ _ => rfl⟩
def nm (op:Int):List UInt8 :=
 if op = 1 then [116,114,117,101] else if op = 2 then [115,117,98] else if op = 3 then [101,109,112,116,121]
 else if op = 4 then [115,105,110,103,108,101] else if op = 5 then [110,101,120,116] else if op = 6 then [108,101,115,115]
 else if op = 7 then [108,101,102,116] else if op = 8 then [114,105,103,104,116] else if op = 9 then [110,111,116]
 else if op = 10 then [97,110,100] else if op = 11 then [111,114] else if op = 12 then [101,120,105,115,116,115]
 else if op = 13 then [102,111,114,97,108,108] else if op = 14 then [115,111,109,101] else if op = 15 then [101,97,99,104] else []
def nv (op:Int):Int :=
 if op = 3 \/ op = 4 \/ (12 <= op /\ op <= 15) then 1 else if op = 2 \/ (5 <= op /\ op <= 8) then 2 else 0
structure Lf where
 label:Int
 left:Int
 right:Int
deriving DecidableEq
def kid (len:Nat) (e:Nat -> Option Nat) (c:Int) (next:Nat):Option Nat :=
 if c = -1 then some next else if c ≠ next \/ len <= next then none else e next
def endF (t:List Lf):Nat -> Nat -> Option Nat
 | 0,_ => none
 | k + 1,i => match t[i]? with
  | none => none
  | some x => (kid t.length (endF t k) x.left (i + 1)).bind fun n => kid t.length (endF t k) x.right n
def endS (t:List Lf) (i:Nat):Option Nat:=endF t (t.length - i) i
theorem zg8 {len:Nat} {e:Nat -> Option Nat} {c:Int} {next n:Nat} (h:kid len e c next = some n) (he:∀ m,e next = some m -> next < m /\ m <= len) (hn:next <= len):next <= n /\ n <= len:=by
 unfold kid at h
 by_cases h1:c = -1
 ·rw [if_pos h1] at h; cases h; omega
 ·rw [if_neg h1] at h
  split at h
  ·cases h
  ·have:=he n h; omega
theorem zka (t:List Lf):∀ k i n,endF t k i = some n -> i < n /\ n <= t.length:=by
 intro k
 induction k with
 | zero => intro i n h; simp [endF] at h
 | succ k ih =>
  intro i n h
  rw [endF] at h
  cases hx:t[i]? with
  | none => simp only [hx] at h; cases h
  | some x =>
   have hi:i < t.length:=(List.getElem?_eq_some_iff.1 hx).1
   simp only [hx] at h
   cases h1:kid t.length (endF t k) x.left (i + 1) with
   | none => rw [h1] at h; cases h
   | some m =>
    rw [h1] at h
    have k1:=zg8 h1 (fun q hq => ih _ _ hq) hi
    have k2:=zg8 (show kid t.length (endF t k) x.right m = some n from h) (fun q hq => ih _ _ hq) k1.2
    omega
theorem zpc (t:List Lf):∀ k i,t.length - i <= k -> endF t k i = endF t (t.length - i) i:=by
 have main:∀ k i j,t.length - i <= k -> t.length - i <= j -> endF t k i = endF t j i:=by
  intro k
  induction k with
  | zero =>
   intro i j h _
   cases j with
   | zero => rfl
   | succ j =>
    have:t[i]? = none:=List.getElem?_eq_none (by omega)
    simp [endF,this]
  | succ k ih =>
   intro i j h hj
   cases j with
   | zero =>
    have:t[i]? = none:=List.getElem?_eq_none (by omega)
    simp [endF,this]
   | succ j =>
    rw [endF,endF]
    cases hx:t[i]? with
    | none => rfl
    | some x =>
     have hi:i < t.length:=(List.getElem?_eq_some_iff.1 hx).1
     simp only
     have kk:∀ c next,i < next -> kid t.length (endF t k) c next = kid t.length (endF t j) c next:=fun c next hn => by
      unfold kid
      rw [ih next j (by omega) (by omega)]
     rw [kk _ _ (by omega)]
     cases h1:kid t.length (endF t j) x.left (i + 1) with
     | none => rfl
     | some m =>
      have:=zg8 h1 (fun q hq => zka t _ _ _ hq) hi
      exact kk _ _ (by omega)
 intro k i h
 exact main k i _ h zn
theorem zh9 (t:List Lf) (i:Nat) (x:Lf) (hx:t[i]? = some x):endS t i = (kid t.length (endS t) x.left (i + 1)).bind fun n => kid t.length (endS t) x.right n:=by
 have hi:i < t.length:=(List.getElem?_eq_some_iff.1 hx).1
 have e:t.length - i = (t.length - i - 1) + 1:=by omega
 have kk:∀ c next,i < next -> kid t.length (endF t (t.length - i - 1)) c next = kid t.length (endS t) c next:=fun c next hn => by
  unfold kid endS
  rw [zpc t _ next (by omega)]
 rw [endS,e,endF]
 simp only [hx]
 rw [kk _ _ (by omega)]
 cases h1:kid t.length (endS t) x.left (i + 1) with
 | none => rfl
 | some m =>
  have:=zg8 h1 (fun q hq => zka t _ _ _ hq) hi
  exact kk _ _ (by omega)
theorem zd1 {t:List Lf} {i n:Nat} (h:endS t i = some n):i < n /\ n <= t.length:=zka t _ _ _ h
def zac (t:List Lf):Bool:=decide (t.length = 0) || (decide (t.length <= 31) && decide (endS t 0 = some t.length))
def zb8 (vars:Int) (x:Lf):Bool:=decide (x.label / 2 ^ vars.toNat ≠ 0)
def zpp (t:List Lf) (vars:Int):Int :=
 if vars < 0 \/ 3 < vars then 7 else if 31 < t.length then 4 else if t.any (zb8 vars) then 1 else if zac t then 0 else 2
inductive Bt where
 | nil
 | node (label:Int) (l r:Bt)
def Bt.size:Bt -> Nat
 | .nil => 0
 | .node _ l r => l.size + r.size + 1
def Bt.at (p:Nat) (b:Bt):Int:=if b.size = 0 then -1 else p
def Bt.enc:Nat -> Bt -> List Lf
 | _,.nil => []
 | p,.node lab l r => ⟨lab,l.at (p + 1),r.at (p + 1 + l.size)⟩ :: (l.enc (p + 1) ++ r.enc (p + 1 + l.size))
theorem Bt.enc_len (b:Bt):∀ p,(b.enc p).length = b.size:=by
 induction b with
 | nil => intro p; rfl
 | node lab l r ihl ihr => intro p; simp [Bt.enc,Bt.size,ihl,ihr]
theorem Bt.nil_of_size {b:Bt} (h:b.size = 0):b = .nil:=by
 cases b with
 | nil => rfl
 | node => simp [Bt.size] at h
def Seg (t:List Lf) (p:Nat) (b:Bt):Prop:=∀ j,j < b.size -> t[p + j]? = (b.enc p)[j]?
theorem Seg.root {t:List Lf} {p:Nat} {lab:Int} {l r:Bt} (h:Seg t p (.node lab l r)):t[p]? = some ⟨lab,l.at (p + 1),r.at (p + 1 + l.size)⟩:=by
 have:=h 0 (by simp [Bt.size])
 simpa [Bt.enc] using this
theorem Seg.left {t:List Lf} {p:Nat} {lab:Int} {l r:Bt} (h:Seg t p (.node lab l r)):Seg t (p + 1) l:=fun j hj => by
 have:=h (j + 1) (by simp [Bt.size]; omega)
 rw [Bt.enc,List.getElem?_cons_succ,List.getElem?_append_left (by rw [Bt.enc_len]; exact hj)] at this
 rw [<- this]; congr 1; omega
theorem Seg.right {t:List Lf} {p:Nat} {lab:Int} {l r:Bt} (h:Seg t p (.node lab l r)):Seg t (p + 1 + l.size) r:=fun j hj => by
 have:=h (l.size + j + 1) (by simp [Bt.size]; omega)
 rw [Bt.enc,List.getElem?_cons_succ,List.getElem?_append_right (by rw [Bt.enc_len]; omega),Bt.enc_len] at this
 rw [show l.size + j - l.size = j by omega] at this
 rw [<- this]; congr 1; omega
theorem Seg.node {t:List Lf} {p:Nat} {lab:Int} {l r:Bt} (h0:t[p]? = some ⟨lab,l.at (p + 1),r.at (p + 1 + l.size)⟩) (hl:Seg t (p + 1) l) (hr:Seg t (p + 1 + l.size) r):Seg t p (.node lab l r):=fun j hj => by
 cases j with
 | zero => rw [Nat.add_zero,h0]; simp [Bt.enc]
 | succ j =>
  rw [Bt.enc,List.getElem?_cons_succ]
  simp only [Bt.size] at hj
  by_cases hjl:j < l.size
  ·rw [List.getElem?_append_left (by rw [Bt.enc_len]; exact hjl),<- hl j hjl]; congr 1; omega
  ·rw [List.getElem?_append_right (by rw [Bt.enc_len]; omega),Bt.enc_len,<- hr (j - l.size) (by omega)]; congr 1; omega
theorem bt_at (t:List Lf):∀ d i n,n - i <= d -> endS t i = some n -> ∃ b:Bt,0 < b.size /\ i + b.size = n /\ Seg t i b:=by
 intro d
 induction d with
 | zero => intro i n h he; have:=zd1 he; omega
 | succ d ih =>
  intro i n h he
  have hin:=zd1 he
  obtain ⟨x,hx⟩:∃ x,t[i]? = some x:=⟨t[i]'(by omega),List.getElem?_eq_getElem _⟩
  rw [zh9 t i x hx] at he
  have kk:∀ c next m,i < next -> next <= t.length -> m <= n -> kid t.length (endS t) c next = some m -> ∃ b:Bt,next + b.size = m /\ Seg t next b /\ c = b.at next:=by
   intro c next m hn hl hm hk
   unfold kid at hk
   by_cases h1:c = -1
   ·rw [if_pos h1] at hk; cases hk
    exact ⟨.nil,rfl,fun j hj => by simp [Bt.size] at hj,by simp [Bt.at,Bt.size,h1]⟩
   ·rw [if_neg h1] at hk
    by_cases h2:c ≠ next \/ t.length <= next
    ·rw [if_pos h2] at hk; cases hk
    ·rw [if_neg h2] at hk
     obtain ⟨b,b1,b2,b3⟩:=ih next m (by omega) hk
     exact ⟨b,b2,b3,by unfold Bt.at; rw [if_neg (by omega)]; omega⟩
  cases h1:kid t.length (endS t) x.left (i + 1) with
  | none => rw [h1] at he; cases he
  | some m =>
   rw [h1] at he
   have he:kid t.length (endS t) x.right m = some n:=he
   have g1:=zg8 h1 (fun q hq => zd1 hq) (by omega)
   have g2:=zg8 he (fun q hq => zd1 hq) g1.2
   obtain ⟨l,l1,l2,l3⟩:=kk _ _ _ (by omega) (by omega) g2.1 h1
   obtain ⟨r,r1,r2,r3⟩:=kk _ _ _ (by omega) g1.2 zn he
   refine ⟨.node x.label l r,by simp [Bt.size],by simp only [Bt.size]; omega,Seg.node ?_ l2 (by rw [l1]; exact r2)⟩
   rw [hx,<- l3,l1,<- r3]
theorem end_at (t:List Lf):∀ (b:Bt) (p:Nat),0 < b.size -> p + b.size <= t.length -> Seg t p b -> endS t p = some (p + b.size):=by
 intro b
 induction b with
 | nil => intro p h; simp [Bt.size] at h
 | node lab l r ihl ihr =>
  intro p _ hlen hs
  simp only [Bt.size] at hlen ⊢
  rw [zh9 t p _ hs.root]
  have kk:∀ (c:Bt) next,(0 < c.size -> endS t next = some (next + c.size)) -> next + c.size <= t.length -> kid t.length (endS t) (c.at next) next = some (next + c.size):=by
   intro c next h1 h2
   unfold kid Bt.at
   by_cases h0:c.size = 0
   ·simp [h0]
   ·rw [if_neg h0,if_neg (by omega),if_neg (by omega),h1 (by omega)]
  simp only
  rw [kk l (p + 1) (fun h => ihl (p + 1) h (by omega) hs.left) (by omega)]
  simp only [Option.bind_some]
  rw [kk r (p + 1 + l.size) (fun h => ihr _ h (by omega) hs.right) (by omega)]
  congr 1; omega
theorem zew {t:List Lf} (h:zac t = true):t.length <= 31 /\ ∃ b:Bt,b.size = t.length /\ Seg t 0 b:=by
 unfold zac at h
 simp only [Bool.or_eq_true,Bool.and_eq_true,decide_eq_true_eq] at h
 rcases h with h | ⟨h1,h2⟩
 ·exact ⟨by omega,.nil,by simp [Bt.size,h],fun j hj => by simp [Bt.size] at hj⟩
 ·obtain ⟨b,_,b2,b3⟩:=bt_at t _ 0 _ zn h2
  exact ⟨h1,b,by omega,b3⟩
theorem zmj {t:List Lf} {b:Bt} (h31:t.length <= 31) (hb:b.size = t.length) (hs:Seg t 0 b):zac t = true:=by
 unfold zac
 by_cases h0:t.length = 0
 ·simp [h0]
 ·have:=end_at t b 0 (by omega) (by omega) hs
  rw [Nat.zero_add,hb] at this
  simp [this,h31]
theorem Seg.eq {t:List Lf} {b:Bt} (hb:b.size = t.length) (hs:Seg t 0 b):t = b.enc 0:=by
 apply List.ext_getElem?
 intro j
 by_cases hj:j < b.size
 ·rw [<- hs j hj,Nat.zero_add]
 ·rw [List.getElem?_eq_none (by omega),List.getElem?_eq_none (by rw [Bt.enc_len]; omega)]
theorem Seg.self (b:Bt):Seg (b.enc 0) 0 b:=fun j hj => by rw [Nat.zero_add]
theorem zqb (t:List Lf):∀ (b:Bt) (p:Nat),Seg t p b -> ∀ i,i < b.size -> ∃ x,t[p + i]? = some x /\ (x.left = -1 \/ (((p + i:Nat):Int) < x.left /\ x.left < ((p + b.size:Nat):Int))) /\ (x.right = -1 \/ (((p + i:Nat):Int) < x.right /\ x.right < ((p + b.size:Nat):Int))):=by
 intro b
 induction b with
 | nil => intro p _ i hi; simp [Bt.size] at hi
 | node lab l r ihl ihr =>
  intro p hs i hi
  simp only [Bt.size] at hi ⊢
  by_cases h0:i = 0
  ·subst h0
   refine ⟨_,hs.root,?_,?_⟩
   ·simp only [Bt.at]; split <;> omega
   ·simp only [Bt.at]; split <;> omega
  ·by_cases hl:i - 1 < l.size
   ·obtain ⟨x,h1,h2,h3⟩:=ihl (p + 1) hs.left (i - 1) hl
    refine ⟨x,?_,?_,?_⟩
    ·rw [<- h1]; congr 1; omega
    ·omega
    ·omega
   ·obtain ⟨x,h1,h2,h3⟩:=ihr (p + 1 + l.size) hs.right (i - 1 - l.size) (by omega)
    refine ⟨x,?_,?_,?_⟩
    ·rw [<- h1]; congr 1; omega
    ·omega
    ·omega
def KidsOk (t:List Lf):Prop:=∀ (i:Nat) (x:Lf),t[i]? = some x -> (x.left = -1 \/ ((i:Int) < x.left /\ x.left < (t.length:Int))) /\ (x.right = -1 \/ ((i:Int) < x.right /\ x.right < (t.length:Int)))
theorem zoq {t:List Lf} (h:zac t = true):KidsOk t:=by
 obtain ⟨_,b,hb,hs⟩:=zew h
 intro i x hx
 have hi:i < t.length:=(List.getElem?_eq_some_iff.1 hx).1
 obtain ⟨y,h1,h2,h3⟩:=zqb t b 0 hs i (by omega)
 rw [Nat.zero_add,hx] at h1
 cases h1
 omega
def g1 (b:Nat):Nat:=((b / 2) &&& 85) + (b &&& 85)
def g2 (b:Nat):Nat:=((b / 4) &&& 51) + (b &&& 51)
def g3 (b:Nat):Nat:=((b / 16) + b) &&& 15
def f1 (x M:Nat):Nat:=((x / 2) &&& M) + (x &&& M)
def f2 (x M:Nat):Nat:=((x / 4) &&& M) + (x &&& M)
def f3 (x M:Nat):Nat:=((x / 16) + x) &&& M
def mvd (c d:Int):Int:=if c = -1 then -1 else c + d
def shL (d:Int) (x:Lf):Lf:=⟨x.label,mvd x.left d,mvd x.right d⟩
def zaq (d:Int) (t:List Lf):List Lf:=t.map (shL d)
theorem zck (d:Int) (t:List Lf):(zaq d t).length = t.length:=by simp [zaq]
theorem at_mv (b:Bt) (p q:Nat) (d:Int) (h:(q:Int) = p + d):mvd (b.at p) d = b.at q:=by
 unfold mvd Bt.at
 by_cases h0:b.size = 0
 ·simp [h0]
 ·rw [if_neg h0,if_neg h0,if_neg (by omega)]; omega
theorem zd9 (b:Bt):∀ (p q:Nat) (d:Int),(q:Int) = p + d -> zaq d (b.enc p) = b.enc q:=by
 induction b with
 | nil => intros; rfl
 | node lab l r ihl ihr =>
  intro p q d h
  have h1:=ihl (p + 1) (q + 1) d (by omega)
  have h2:=ihr (p + 1 + l.size) (q + 1 + l.size) d (by omega)
  unfold zaq at h1 h2 ⊢
  simp only [Bt.enc,List.map_cons,List.map_append,h1,h2,shL]
  rw [at_mv l (p + 1) (q + 1) d (by omega),at_mv r (p + 1 + l.size) (q + 1 + l.size) d (by omega)]
def joinT (lab:Int) (l r:List Lf):List Lf:=⟨lab,if l.length = 0 then -1 else 1,if r.length = 0 then -1 else 1 + (l.length:Int)⟩ :: (zaq 1 l ++ zaq (1 + (l.length:Int)) r)
theorem zow (lab:Int) (l r:Bt):joinT lab (l.enc 0) (r.enc 0) = (Bt.node lab l r).enc 0:=by
 unfold joinT
 rw [zd9 l 0 1 1 (by omega),zd9 r 0 (1 + l.size) _ (by rw [Bt.enc_len]; omega),Bt.enc_len,Bt.enc_len]
 simp only [Bt.enc,Bt.at,Nat.zero_add]
 have e:(if r.size = 0 then (-1:Int) else 1 + (l.size:Int)) = if r.size = 0 then -1 else ((1 + l.size:Nat):Int):=by
  by_cases h:r.size = 0
  ·rw [if_pos h,if_pos h]
  ·rw [if_neg h,if_neg h]; omega
 rw [e]
 rfl
def btAt (t:List Lf):Nat -> Nat -> Bt
 | 0,_ => .nil
 | k + 1,i => match t[i]? with
  | none => .nil
  | some x => .node x.label (if x.left = -1 then .nil else btAt t k x.left.toNat) (if x.right = -1 then .nil else btAt t k x.right.toNat)
def btOf (t:List Lf):Bt:=btAt t t.length 0
theorem zpv (t:List Lf):∀ (b:Bt) (p k:Nat),0 < b.size -> Seg t p b -> b.size <= k -> btAt t k p = b:=by
 intro b
 induction b with
 | nil => intro p k h; simp [Bt.size] at h
 | node lab l r ihl ihr =>
  intro p k _ hs hk
  obtain ⟨k,rfl⟩:∃ j,k = j + 1:=⟨k - 1,by simp [Bt.size] at hk; omega⟩
  simp only [Bt.size] at hk
  have kk:∀ (c:Bt) (next:Nat),(0 < c.size -> btAt t k next = c) -> (if c.at next = -1 then Bt.nil else btAt t k (c.at next).toNat) = c:=fun c next h => by
   unfold Bt.at
   by_cases h0:c.size = 0
   ·rw [if_pos h0,if_pos rfl,Bt.nil_of_size h0]
   ·rw [if_neg h0,if_neg (by omega),Int.toNat_natCast,h (by omega)]
  simp only [btAt,hs.root]
  rw [kk l (p + 1) (fun h => ihl _ k h hs.left (by omega)),kk r (p + 1 + l.size) (fun h => ihr _ k h hs.right (by omega))]
theorem za1 {t:List Lf} (h:zac t = true):t.length <= 31 /\ (btOf t).size = t.length /\ Seg t 0 (btOf t) /\ t = (btOf t).enc 0:=by
 obtain ⟨h31,b,hb,hs⟩:=zew h
 have e:btOf t = b:=by
  by_cases h0:b.size = 0
  ·have:t = []:=List.eq_nil_of_length_eq_zero (by omega)
   subst this
   rw [Bt.nil_of_size h0]; rfl
  ·exact zpv t b 0 t.length (by omega) hs (by omega)
 rw [e]
 exact ⟨h31,hb,hs,Seg.eq hb hs⟩
theorem zde (b:Bt) (h:b.size <= 31):zac (b.enc 0) = true:=zmj (by rw [Bt.enc_len]; exact h) (by rw [Bt.enc_len]) (Seg.self b)
theorem zlz (b:Bt):btOf (b.enc 0) = b:=by
 by_cases h0:b.size = 0
 ·rw [Bt.nil_of_size h0]; rfl
 ·exact zpv _ b 0 _ (by omega) (Seg.self b) (by rw [Bt.enc_len]; exact zn)
theorem seg_cut {t:List Lf} {b:Bt} {p:Nat} (hl:p + b.size <= t.length) (hs:Seg t p b):(t.drop p).take b.size = b.enc p:=by
 apply List.ext_getElem?
 intro j
 by_cases hj:j < b.size
 ·rw [List.getElem?_take,if_pos hj,List.getElem?_drop,hs j hj]
 ·rw [List.getElem?_eq_none (by rw [List.length_take]; omega),List.getElem?_eq_none (by rw [Bt.enc_len]; omega)]
def Bt.mir:Bt -> Bt
 | .nil => .nil
 | .node lab l r => .node lab r.mir l.mir
def Bt.code:Bt -> List Int
 | .nil => [0]
 | .node lab l r => (1 + lab) :: (l.code ++ r.code)
theorem Bt.code_len (b:Bt):b.code.length = 2 * b.size + 1:=by
 induction b with
 | nil => rfl
 | node lab l r ihl ihr => simp only [Bt.code,Bt.size,List.length_cons,List.length_append,ihl,ihr]; omega
def Bt.pos:Bt -> Prop
 | .nil => True
 | .node lab l r => 0 <= lab /\ l.pos /\ r.pos
theorem zrb (a:Bt):∀ (b:Bt) (x y:List Int),a.pos -> b.pos -> a.code ++ x = b.code ++ y -> a = b /\ x = y:=by
 induction a with
 | nil =>
  intro b x y _ hb h
  cases b with
  | nil => exact ⟨rfl,by simpa [Bt.code] using h⟩
  | node lab l r =>
   simp only [Bt.code,List.cons_append,List.nil_append,List.cons.injEq] at h
   have:=hb.1
   omega
 | node lab l r ihl ihr =>
  intro b x y ha hb h
  cases b with
  | nil =>
   simp only [Bt.code,List.cons_append,List.nil_append,List.cons.injEq] at h
   have:=ha.1
   omega
  | node lab2 l2 r2 =>
   simp only [Bt.code,List.cons_append,List.append_assoc,List.cons.injEq] at h
   obtain ⟨h1,h2⟩:=h
   obtain ⟨rfl,h3⟩:=ihl _ _ _ ha.2.1 hb.2.1 h2
   obtain ⟨rfl,h4⟩:=ihr _ _ _ ha.2.2 hb.2.2 h3
   exact ⟨by rw [show lab = lab2 by omega],h4⟩
theorem pos_enc (b:Bt):∀ p,(∀ m ∈ b.enc p,0 <= m.label) -> b.pos:=by
 induction b with
 | nil => intro p _; trivial
 | node lab l r ihl ihr =>
  intro p h
  simp only [Bt.enc,List.mem_cons,List.mem_append] at h
  exact ⟨h _ (.inl rfl),ihl _ fun m hm => h m (.inr (.inl hm)),ihr _ fun m hm => h m (.inr (.inr hm))⟩
def cmpI (a b:Int):Int:=if a < b then -1 else if b < a then 1 else 0
def cmpL:List Int -> List Int -> Int
 | [],[] => 0
 | [],_ :: _ => -1
 | _ :: _,[] => 1
 | a :: x,b :: y => if cmpI a b = 0 then cmpL x y else cmpI a b
theorem zpo (a b:Int):cmpI a b = -cmpI b a:=by unfold cmpI; (repeat' split); all_goals omega
theorem zbp {a b:Int}:cmpI a b = 0 ↔ a = b:=by unfold cmpI; (repeat' split); all_goals omega
theorem zic {a b:Int}:cmpI a b < 0 ↔ a < b:=by unfold cmpI; (repeat' split); all_goals omega
theorem zke {a b:Int}:cmpI a b <= 0 ↔ a <= b:=by unfold cmpI; (repeat' split); all_goals omega
theorem zgj:∀ x y,cmpL x y = -cmpL y x
 | [],[] => rfl
 | [],_ :: _ => rfl
 | _ :: _,[] => rfl
 | a :: x,b :: y => by
  have h1:=zpo a b
  have h2:=zgj x y
  simp only [cmpL]
  by_cases h:cmpI a b = 0
  ·rw [if_pos h,if_pos (by omega),h2]
  ·rw [if_neg h,if_neg (by omega),h1]
theorem zgi:∀ x y,cmpL x y = 0 ↔ x = y
 | [],[] => by simp [cmpL]
 | [],_ :: _ => by simp [cmpL]
 | _ :: _,[] => by simp [cmpL]
 | a :: x,b :: y => by
  have h1:=@zbp a b
  have h2:=zgi x y
  simp only [cmpL,List.cons.injEq]
  by_cases h:cmpI a b = 0
  ·rw [if_pos h,h2]; simp [h1.1 h]
  ·rw [if_neg h]
   constructor
   ·intro h0; exact absurd h0 h
   ·intro h0; exact absurd (h1.2 h0.1) h
theorem zhe:∀ x y z,cmpL x y <= 0 -> cmpL y z <= 0 -> cmpL x z <= 0 /\ (cmpL x y < 0 -> cmpL x z < 0) /\ (cmpL y z < 0 -> cmpL x z < 0)
 | [],y,[] => by
  intro h1 h2
  cases y with
  | nil => simp [cmpL]
  | cons b y => simp [cmpL] at h2
 | [],y,c :: z => by intro _ _; simp [cmpL]
 | a :: x,[],z => by intro h; simp [cmpL] at h
 | a :: x,b :: y,[] => by intro _ h; simp [cmpL] at h
 | a :: x,b :: y,c :: z => by
  have ih:=zhe x y z
  have n1:=@zic a b; have n2:=@zic b c; have n3:=@zic a c
  have l1:=@zke a b; have l2:=@zke b c; have l3:=@zke a c
  have z1:=@zbp a b; have z2:=@zbp b c; have z3:=@zbp a c
  simp only [cmpL]
  intro h1 h2
  by_cases e1:cmpI a b = 0
  ·rw [if_pos e1] at h1 ⊢
   have ea:=z1.1 e1
   subst ea
   by_cases e2:cmpI a c = 0
   ·simp only [if_pos e2] at h2 ⊢
    exact ih h1 h2
   ·simp only [if_neg e2] at h2 ⊢
    exact ⟨h2,fun _ => by omega,fun h => h⟩
  ·rw [if_neg e1] at h1 ⊢
   have hab:a < b:=by omega
   have hbc:b <= c:=by
    by_cases e2:cmpI b c = 0
    ·exact Int.le_of_eq (z2.1 e2)
    ·rw [if_neg e2] at h2; exact l2.1 h2
   have e3:¬ cmpI a c = 0:=by omega
   have e4:cmpI a c < 0:=n3.2 (by omega)
   rw [if_neg e3]
   exact ⟨by omega,fun _ => e4,fun _ => e4⟩
def nf (t:List Lf):List Lf:=if zac t = false then [] else t
def zbv (a b:List Lf):Int:=if cmpI (nf a).length (nf b).length = 0 then cmpL (btOf (nf a)).code (btOf (nf b)).code else cmpI (nf a).length (nf b).length
theorem nf_of {t:List Lf} (h:zac t = true):nf t = t:=by unfold nf; rw [if_neg (by rw [h]; simp)]
def cntF (K:Nat):Nat -> Nat -> Nat -> Nat
 | 0,_,_ => 1
 | f + 1,o,l => if o = 0 then 1 else (if 1 < o \/ l = 0 then cntF K f (o - 1) l else 0) + (if 0 < l then K * cntF K f (o + 1) (l - 1) else 0)
def Bt.lt (K:Nat):Bt -> Prop
 | .nil => True
 | .node lab l r => 0 <= lab /\ lab < K /\ l.lt K /\ r.lt K
theorem Bt.lt.pos {K:Nat}:∀ {b:Bt},b.lt K -> b.pos
 | .nil,_ => trivial
 | .node _ _ _,h => ⟨h.1,Bt.lt.pos h.2.2.1,Bt.lt.pos h.2.2.2⟩
theorem zpn (c:Int) (x y:List Int):cmpL (c :: x) (c :: y) = cmpL x y:=by
 simp only [cmpL]
 rw [if_pos (zbp.2 rfl)]
def cn (K o l:Nat):Nat:=cntF K (2 * l + o) o l
def digB (x:Int):UInt8:=UInt8.ofNat (48 + x.toNat)
def Bt.text:Bt -> List UInt8
 | .nil => [45]
 | .node lab l r => 40 :: digB lab :: 32 :: (l.text ++ 32 :: (r.text ++ [41]))
def Bt.low:Bt -> Prop
 | .nil => True
 | .node lab l r => 0 <= lab /\ lab <= 7 /\ l.low /\ r.low
theorem Bt.text_len (b:Bt):b.text.length = 6 * b.size + 1:=by
 induction b with
 | nil => rfl
 | node lab l r ihl ihr => simp only [Bt.text,Bt.size,List.length_cons,List.length_append,List.length_nil,ihl,ihr]; omega
theorem low_enc (b:Bt):∀ p,(∀ m ∈ b.enc p,0 <= m.label /\ m.label <= 7) ↔ b.low:=by
 induction b with
 | nil => intro p; simp [Bt.enc,Bt.low]
 | node lab l r ihl ihr =>
  intro p
  have h1:=ihl (p + 1); have h2:=ihr (p + 1 + l.size)
  simp only [Bt.enc,List.mem_cons,List.mem_append,Bt.low]
  constructor
  ·intro h
   have h0:=h _ (.inl rfl)
   exact ⟨h0.1,h0.2,h1.1 fun m hm => h m (.inr (.inl hm)),h2.1 fun m hm => h m (.inr (.inr hm))⟩
  ·rintro ⟨a,b,c,d⟩ m (rfl | hm | hm)
   ·exact ⟨a,b⟩
   ·exact h1.2 c m hm
   ·exact h2.2 d m hm
def zcf (t:List Lf):List UInt8 × Int:=if zac t = false then ([],2) else if t.any (fun m => decide (7 < m.label)) then ([],1) else ((btOf t).text,0)
end Go.Proofs.YthkfjnmnoanhlaaGreatDoor

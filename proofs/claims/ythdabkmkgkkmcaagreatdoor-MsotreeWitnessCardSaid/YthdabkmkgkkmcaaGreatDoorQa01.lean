/- Part 1 of the proof; it says: lemmas and contracts. No conditions but those that each theorem states. -/
import Derived.Test.YthdabkmkgkkmcaaGreatDoorPb01
import Derived.Test.YthdabkmkgkkmcaaGreatDoorPb02
import Derived.Test.YthdabkmkgkkmcaaGreatDoorPb05
set_option linter.unusedSimpArgs false
set_option linter.unusedVariables false
set_option linter.unusedSectionVars false
set_option maxRecDepth 100000
set_option maxHeartbeats 32000000
namespace Go.Proofs.YthdabkmkgkkmcaaGreatDoor
def zsj (n:Nat) (op:Int) (a b:Nat):Nat :=
 if op = 9 then 1 + a else if op = 10 \/ op = 11 then 1 + a + b else if op = 12 \/ op = 13 then 1 + 2 ^ n * a else if op = 14 \/ op = 15 then 1 + n * a else 1
def zsc (n:Nat) (acc:List Nat) (m:Mk):Nat:=min (zsj n m.op (acc.getD m.a.toNat 0) (acc.getD m.b.toNat 0)) 1073741824
def csts (n:Nat) (f:List Mk):List Nat:=f.foldl (fun acc m => acc ++ [zsc n acc m]) []
def costS (n:Nat) (f:List Mk):Nat:=(csts n f).getD (f.length - 1) 0
def costT (n:Nat):Tr -> Nat
 | .leaf _ _ _ => 1
 | .un op _ a => min (zsj n op (costT n a) 0) 1073741824
 | .bin op a b => min (zsj n op (costT n a) (costT n b)) 1073741824
theorem ztc (n:Nat) (f:List Mk):(csts n f).length = f.length:=by
 have h:∀ (f:List Mk) (acc:List Nat),(f.foldl (fun acc m => acc ++ [zsc n acc m]) acc).length = acc.length + f.length:=by
  intro f
  induction f with
  | nil => intro acc; simp
  | cons m f ih => intro acc; simp only [List.foldl_cons,ih,List.length_append,List.length_cons,List.length_nil]; omega
 simpa [csts] using h f []
theorem zua (n:Nat) (f:List Mk) (k:Nat) (m:Mk) (h:f[k]? = some m):csts n (f.take (k + 1)) = csts n (f.take k) ++ [zsc n (csts n (f.take k)) m]:=by
 have hk:k < f.length:=(List.getElem?_eq_some_iff.1 h).1
 have hm:f[k] = m:=(List.getElem?_eq_some_iff.1 h).2
 rw [List.take_succ_eq_append_getElem hk,hm]
 simp [csts]
theorem zuo (n:Nat) (g:List Mk):∀ acc:List Nat,(g.foldl (fun acc m => acc ++ [zsc n acc m]) acc).take acc.length = acc:=by
 induction g with
 | nil => intro acc; simp
 | cons m g ih =>
  intro acc
  have h:=ih (acc ++ [zsc n acc m])
  simp only [List.foldl_cons]
  have h2:=congrArg (List.take acc.length) h
  rw [List.take_take] at h2
  simpa [Nat.min_eq_left] using h2
theorem zs9 (n:Nat) (f:List Mk) (k:Nat) (hk:k <= f.length):csts n (f.take k) = (csts n f).take k:=by
 have h:=zuo n (f.drop k) (csts n (f.take k))
 have e:(f.drop k).foldl (fun acc m => acc ++ [zsc n acc m]) (csts n (f.take k)) = csts n f:=by
  unfold csts
  rw [<- List.foldl_append,List.take_append_drop]
 rw [e,ztc,List.length_take,Nat.min_eq_left hk] at h
 exact h.symm
theorem ztd (n:Nat) (f:List Mk) (i:Nat) (m:Mk) (h:f[i]? = some m):(csts n f).getD i 0 = zsc n ((csts n f).take i) m:=by
 have hi:i < f.length:=(List.getElem?_eq_some_iff.1 h).1
 have e:=zua n f i m h
 rw [zs9 n f (i + 1) hi,zs9 n f i (by omega)] at e
 have h2:=congrArg (fun l:List Nat => l[i]?) e
 have hl:((csts n f).take i).length = i:=by rw [List.length_take,ztc]; omega
 simp only [List.getElem?_take] at h2
 rw [if_pos (by omega),List.getElem?_append_right (by omega),hl] at h2
 simp at h2
 rw [List.getD_eq_getElem?_getD,h2]; rfl
theorem zs7 (n:Nat) (op:Int) (a b:Nat):1 <= zsj n op a b:=by
 unfold zsj
 repeat' split
 all_goals omega
theorem zup (n:Nat) (acc:List Nat) (m:Mk):1 <= zsc n acc m:=by
 have:=zs7 n m.op (acc.getD m.a.toNat 0) (acc.getD m.b.toNat 0)
 unfold zsc; omega
theorem zvf (n:Nat) (acc:List Nat) (m:Mk):zsc n acc m <= 1073741824:=by unfold zsc; omega
theorem csts_bd (n:Nat) (f:List Mk) (j:Nat) (hj:j < f.length):1 <= (csts n f).getD j 0 /\ (csts n f).getD j 0 <= 1073741824:=by
 rw [ztd n f j f[j] (List.getElem?_eq_getElem hj)]
 exact ⟨zup _ _ _,zvf _ _ _⟩
theorem zw9 (n:Nat) (t:Tr):1 <= costT n t /\ costT n t <= 1073741824:=by
 cases t with
 | leaf => simp [costT]
 | un op x a => have:=zs7 n op (costT n a) 0; simp only [costT]; omega
 | bin op a b => have:=zs7 n op (costT n a) (costT n b); simp only [costT]; omega
theorem zwb (n:Nat) (f:List Mk):∀ (t:Tr) (p:Nat),t.ok -> (∀ j,j < t.size -> f[p + j]? = (t.enc p)[j]?) -> (csts n f).getD (p + t.size - 1) 0 = costT n t:=by
 intro t
 induction t with
 | leaf op x y =>
  intro p hok hs
  have hm:f[p]? = some ⟨op,x,y,0,0⟩:=by have:=hs 0 (by simp [Tr.size]); simpa [Tr.enc] using this
  simp only [Tr.size,Nat.add_sub_cancel]
  rw [ztd n f p _ hm]
  have h9:nc op = 0:=hok.2.1
  have h0:op ≠ 9 /\ ¬ (op = 10 \/ op = 11) /\ ¬ (op = 12 \/ op = 13) /\ ¬ (op = 14 \/ op = 15):=by
   unfold nc at h9
   by_cases c1:op = 10 \/ op = 11
   ·rw [if_pos c1] at h9; omega
   ·by_cases c2:op = 9 \/ (12 <= op /\ op <= 15)
    ·rw [if_neg c1,if_pos c2] at h9; omega
    ·refine ⟨?_,?_,?_,?_⟩ <;> omega
  simp [zsc,zsj,costT,h0]
 | un op x a ih =>
  intro p hok hs
  have hpos:=a.size_pos
  have hm:f[p + a.size]? = some ⟨op,x,0,((p + a.size - 1:Nat):Int),0⟩:=by
   have:=hs a.size (by simp [Tr.size])
   rw [this,Tr.enc,List.getElem?_append_right (by rw [Tr.enc_len]; exact zn),Tr.enc_len]; simp
  have hsa:∀ j,j < a.size -> f[p + j]? = (a.enc p)[j]?:=fun j hj => by
   rw [hs j (by simp [Tr.size]; omega),Tr.enc,List.getElem?_append_left (by rw [Tr.enc_len]; exact hj)]
  have h1:=ih p hok.2 hsa
  have e:p + (Tr.un op x a).size - 1 = p + a.size:=by simp only [Tr.size]; omega
  rw [e,ztd n f _ _ hm]
  have hb:¬ (op = 10 \/ op = 11):=by
   intro h
   have:nc op = 1:=hok.1.2.1
   unfold nc at this
   rw [if_pos h] at this; omega
  simp only [zsc,costT,Int.toNat_natCast]
  rw [zi9 _ _ _ (by omega),h1]
  simp only [zsj,hb,if_false]
 | bin op a b iha ihb =>
  intro p hok hs
  have hposa:=a.size_pos
  have hposb:=b.size_pos
  have hm:f[p + a.size + b.size]? = some ⟨op,0,0,((p + a.size - 1:Nat):Int),((p + a.size + b.size - 1:Nat):Int)⟩:=by
   have:=hs (a.size + b.size) (by simp [Tr.size])
   rw [Nat.add_assoc,this,Tr.enc,List.getElem?_append_right (by rw [Tr.enc_len]; omega),Tr.enc_len,List.getElem?_append_right (by rw [Tr.enc_len]; omega),Tr.enc_len]; simp; omega
  have hsa:∀ j,j < a.size -> f[p + j]? = (a.enc p)[j]?:=fun j hj => by
   rw [hs j (by simp [Tr.size]; omega),Tr.enc,List.getElem?_append_left (by rw [Tr.enc_len]; exact hj)]
  have hsb:∀ j,j < b.size -> f[p + a.size + j]? = (b.enc (p + a.size))[j]?:=fun j hj => by
   have:=hs (a.size + j) (by simp [Tr.size]; omega)
   rw [Nat.add_assoc,this,Tr.enc,List.getElem?_append_right (by rw [Tr.enc_len]; omega),Tr.enc_len,List.getElem?_append_left (by rw [Tr.enc_len]; omega)]
   congr 1; omega
  have h1:=iha p hok.2.1 hsa
  have h2:=ihb (p + a.size) hok.2.2 hsb
  have e:p + (Tr.bin op a b).size - 1 = p + a.size + b.size:=by simp only [Tr.size]; omega
  rw [e,ztd n f _ _ hm]
  simp only [zsc,costT,Int.toNat_natCast]
  rw [zi9 _ _ _ (by omega),zi9 _ _ _ (by omega),h1,h2]
theorem zvg (n:Nat) (f:List Mk) (t:Tr) (hok:t.ok) (hs:t.size = f.length) (he:f = t.enc 0):costS n f = costT n t:=by
 have:=zwb n f t 0 hok (fun j hj => by rw [Nat.zero_add,<- he])
 unfold costS
 rw [<- this,Nat.zero_add,hs]
structure Stc where
 n:Nat
 rel:Int -> Nat -> Nat -> Bool
def isOne (s:Nat):Bool:=decide (s = 2 ^ Nat.log2 s)
def atomS (S:Stc) (op:Int) (p q:Nat):Bool :=
 if op = 1 then true else if op = 2 then decide (p &&& q = p) else if op = 3 then decide (p = 0) else if op = 4 then isOne p
 else isOne p && isOne q && S.rel op (Nat.log2 p) (Nat.log2 q)
def setN (n:Nat):Nat:=2 ^ n % 18446744073709551616
def getV (a:List Nat) (x:Int):Nat:=a.getD x.toNat 0
def setV (a:List Nat) (x:Int) (s:Nat):List Nat:=a.set x.toNat s
def zb7 (S:Stc):Tr -> List Nat -> Bool
 | .leaf op x y,a => atomS S op (getV a x) (getV a y)
 | .un op x t,a =>
  if op = 9 then !zb7 S t a
  else if op = 12 then (List.range (setN S.n)).any fun s => zb7 S t (setV a x s)
  else if op = 13 then (List.range (setN S.n)).all fun s => zb7 S t (setV a x s)
  else if op = 14 then (List.range S.n).any fun p => zb7 S t (setV a x (2 ^ p))
  else (List.range S.n).all fun p => zb7 S t (setV a x (2 ^ p))
 | .bin op t u,a => if op = 10 then zb7 S t a && zb7 S u a else zb7 S t a || zb7 S u a
def zlt (w:List Nat) (v:Nat):Nat:=(w.zipIdx.map fun xp => (xp.1 / 2 ^ v % 2) * 2 ^ xp.2).sum
def zsu (w:List Nat):List Nat:=(List.range 6).map (zlt w)
end Go.Proofs.YthdabkmkgkkmcaaGreatDoor
namespace Go.Proofs.YthdabkmkgkkmcaaGreatDoor
def zse (vars:Int) (x:Lf):Bool:=decide (x.label / 2 ^ vars.toNat ≠ 0)
def zsf (t:List Lf) (vars:Int):Int :=
 if vars < 0 \/ 3 < vars then 7 else if 31 < t.length then 4 else if t.any (zse vars) then 1 else if zae t then 0 else 2
def ancF (t:List Lf):Nat -> Nat -> Nat -> Bool
 | 0,_,_ => false
 | k + 1,p,q => if q <= p then false else match t[p]? with
  | none => false
  | some x => (decide (x.left = q) || (decide (0 < x.left) && ancF t k x.left.toNat q)) || (decide (x.right = q) || (decide (0 < x.right) && ancF t k x.right.toNat q))
def ancS (t:List Lf) (p q:Nat):Bool:=ancF t (t.length - p) p q
theorem zwk {t:List Lf} (hk:KidsOk t):∀ k p q,t.length - p <= k -> ancF t k p q = ancF t (t.length - p) p q:=by
 have main:∀ k p q j,t.length - p <= k -> t.length - p <= j -> ancF t k p q = ancF t j p q:=by
  intro k
  induction k with
  | zero =>
   intro p q j h _
   cases j with
   | zero => rfl
   | succ j =>
    have:t[p]? = none:=List.getElem?_eq_none (by omega)
    simp [ancF,this]
  | succ k ih =>
   intro p q j h hj
   cases j with
   | zero =>
    have:t[p]? = none:=List.getElem?_eq_none (by omega)
    simp [ancF,this]
   | succ j =>
    rw [ancF,ancF]
    by_cases hq:q <= p
    ·rw [if_pos hq,if_pos hq]
    ·rw [if_neg hq,if_neg hq]
     cases hx:t[p]? with
     | none => rfl
     | some x =>
      have hi:p < t.length:=(List.getElem?_eq_some_iff.1 hx).1
      have hkk:=hk p x hx
      simp only
      have e:∀ c:Int,(c = -1 \/ ((p:Int) < c /\ c < (t.length:Int))) -> (decide (0 < c) && ancF t k c.toNat q) = (decide (0 < c) && ancF t j c.toNat q):=fun c hc => by
       by_cases h0:0 < c
       ·rw [ih c.toNat q j (by omega) (by omega)]
       ·simp [h0]
      rw [e _ hkk.1,e _ hkk.2]
 intro k p q h
 exact main k p q _ h zn
theorem zwj {t:List Lf} (hk:KidsOk t) (p q:Nat) (x:Lf) (hx:t[p]? = some x) :
  ancS t p q = if q <= p then false else (decide (x.left = q) || (decide (0 < x.left) && ancS t x.left.toNat q)) || (decide (x.right = q) || (decide (0 < x.right) && ancS t x.right.toNat q)):=by
 have hi:p < t.length:=(List.getElem?_eq_some_iff.1 hx).1
 have hkk:=hk p x hx
 have e:t.length - p = (t.length - p - 1) + 1:=by omega
 rw [ancS,e,ancF]
 by_cases hq:q <= p
 ·rw [if_pos hq,if_pos hq]
 ·rw [if_neg hq,if_neg hq,hx]
  simp only
  have e:∀ c:Int,(c = -1 \/ ((p:Int) < c /\ c < (t.length:Int))) -> (decide (0 < c) && ancF t (t.length - p - 1) c.toNat q) = (decide (0 < c) && ancS t c.toNat q):=fun c hc => by
   by_cases h0:0 < c
   ·rw [zwk hk _ c.toNat q (by omega)]; rfl
   ·simp [h0]
  rw [e _ hkk.1,e _ hkk.2]
def leftS (t:List Lf) (p:Nat):Int:=match t[p]? with
 | some x => x.left
 | none => -1
def zst (t:List Lf) (p:Nat):Int:=match t[p]? with
 | some x => x.right
 | none => -1
def zsn (t:List Lf) (op:Int) (p q:Nat):Bool:=if op = 7 then decide (leftS t p = q) else if op = 8 then decide (zst t p = q) else ancS t p q
def zc1 (t:List Lf):Stc:=⟨t.length,zsn t⟩
def zsb (t:List Lf):List Nat:=t.map fun x => x.label.toNat
end Go.Proofs.YthdabkmkgkkmcaaGreatDoor
namespace Go.Proofs.YthdabkmkgkkmcaaGreatDoor
theorem zsq (A b M m:Nat) (hb:b < 256) (hm:m < 256):(256 * A + b) &&& (256 * M + m) = 256 * (A &&& M) + (b &&& m):=by
 have hbm:b &&& m < 2 ^ 8:=Nat.lt_of_le_of_lt Nat.and_le_left hb
 apply Nat.eq_of_testBit_eq
 intro j
 rw [Nat.testBit_and,show (256:Nat) = 2 ^ 8 from rfl,Nat.testBit_two_pow_mul_add A hb,Nat.testBit_two_pow_mul_add M hm,Nat.testBit_two_pow_mul_add (A &&& M) hbm,Nat.testBit_and,Nat.testBit_and]
 split <;> rfl
theorem low1:∀ b,b < 256 -> ∀ a,a < 2 -> (128 * a + b / 2) &&& 85 = (b / 2) &&& 85:=by decide +kernel
theorem low2:∀ b,b < 256 -> ∀ a,a < 4 -> (64 * a + b / 4) &&& 51 = (b / 4) &&& 51:=by decide +kernel
theorem g1_lt:∀ b,b < 256 -> g1 b < 256:=by decide +kernel
theorem nib:∀ b,b < 256 -> g2 (g1 b) % 16 < 5 /\ g2 (g1 b) / 16 < 5:=by decide +kernel
theorem low3':∀ h,h < 5 -> ∀ l,l < 5 -> ∀ a,a < 5 -> (16 * a + (16 * h + l) / 16 + (16 * h + l)) &&& 15 = g3 (16 * h + l) /\ 16 * a + (16 * h + l) / 16 + (16 * h + l) < 256:=by decide +kernel
theorem zw8 (A b M:Nat) (hb:b < 256):f1 (256 * A + b) (256 * M + 85) = 256 * f1 A M + g1 b:=by
 have e:(256 * A + b) / 2 = 256 * (A / 2) + (128 * (A % 2) + b / 2):=by omega
 unfold f1 g1
 rw [e,zsq _ _ _ _ (by omega) (by omega),zsq _ _ _ _ hb (by omega),low1 b hb _ (by omega)]
 omega
theorem zw7 (A b M:Nat) (hb:b < 256):f2 (256 * A + b) (256 * M + 51) = 256 * f2 A M + g2 b:=by
 have e:(256 * A + b) / 4 = 256 * (A / 4) + (64 * (A % 4) + b / 4):=by omega
 unfold f2 g2
 rw [e,zsq _ _ _ _ (by omega) (by omega),zsq _ _ _ _ hb (by omega),low2 b hb _ (by omega)]
 omega
theorem zw6 (A b M:Nat) (hh:b / 16 < 5) (hl:b % 16 < 5) (ha:A % 16 < 5):f3 (256 * A + b) (256 * M + 15) = 256 * f3 A M + g3 b:=by
 obtain ⟨k1,k2⟩:=low3' (b / 16) hh (b % 16) hl (A % 16) ha
 have eb:16 * (b / 16) + b % 16 = b:=by omega
 rw [eb] at k1 k2
 have e:(256 * A + b) / 16 + (256 * A + b) = 256 * (A / 16 + A) + (16 * (A % 16) + b / 16 + b):=by omega
 unfold f3
 rw [e,zsq _ _ _ _ k2 (by omega),k1]
def pop8 (b:Nat):Nat:=b % 2 + b / 2 % 2 + b / 4 % 2 + b / 8 % 2 + b / 16 % 2 + b / 32 % 2 + b / 64 % 2 + b / 128 % 2
theorem g_pop:∀ b,b < 256 -> g3 (g2 (g1 b)) = pop8 b /\ pop8 b <= 8:=by decide +kernel
theorem zw0:∀ b,b < 256 -> (pop8 b = 0 -> b = 0) /\ (pop8 b = 1 -> ∃ j,j < 8 /\ b = 2 ^ j):=by decide +kernel
def ofB:List Nat -> Nat
 | [] => 0
 | b :: l => 256 * ofB l + b
theorem steps (l:List Nat) (hl:∀ b ∈ l,b < 256) :
  f3 (f2 (f1 (ofB l) (ofB (l.map fun _ => 85))) (ofB (l.map fun _ => 51))) (ofB (l.map fun _ => 15)) = ofB (l.map pop8) /\ f2 (f1 (ofB l) (ofB (l.map fun _ => 85))) (ofB (l.map fun _ => 51)) % 16 < 5:=by
 induction l with
 | nil => simp [ofB,f1,f2,f3]
 | cons b l ih =>
  have hb:=hl b (by simp)
  obtain ⟨i1,i2⟩:=ih (fun c hc => hl c (by simp [hc]))
  simp only [List.map_cons,ofB]
  rw [zw8 _ _ _ hb,zw7 _ _ _ (g1_lt b hb)]
  obtain ⟨n1,n2⟩:=nib b hb
  rw [zw6 _ _ _ n2 n1 i2,i1,(g_pop b hb).1]
  exact ⟨rfl,by omega⟩
def zsd:Nat -> Nat -> List Nat
 | 0,_ => []
 | k + 1,x => x % 256 :: zsd k (x / 256)
def zsa (x:Nat):List Nat:=zsd 8 x
theorem zu8:∀ k x,x < 256 ^ k -> ofB (zsd k x) = x:=by
 intro k
 induction k with
 | zero => intro x h; simp at h; simp [zsd,ofB,h]
 | succ k ih =>
  intro x h
  rw [Nat.pow_succ] at h
  rw [zsd,ofB,ih (x / 256) (by omega)]
  omega
theorem zt9 (x:Nat) (hx:x < 18446744073709551616):ofB (zsa x) = x:=zu8 8 x hx
theorem zwf:∀ k x,∀ b ∈ zsd k x,b < 256:=by
 intro k
 induction k with
 | zero => intro x b hb; simp [zsd] at hb
 | succ k ih =>
  intro x b hb
  simp only [zsd,List.mem_cons] at hb
  rcases hb with rfl | hb
  ·omega
  ·exact ih _ b hb
theorem zt2 (x:Nat):∀ b ∈ zsa x,b < 256:=zwf 8 x
def pop (x:Nat):Nat:=((zsa x).map pop8).sum
theorem zu6 (x:Nat) (hx:x < 18446744073709551616):f3 (f2 (f1 x 6148914691236517205) 3689348814741910323) 1085102592571150095 = ofB ((zsa x).map pop8):=by
 have h:=(steps (zsa x) (zt2 x)).1
 rw [zt9 x hx] at h
 have e1:ofB ((zsa x).map fun _ => 85) = 6148914691236517205:=by simp [zsa,zsd,ofB]
 have e2:ofB ((zsa x).map fun _ => 51) = 3689348814741910323:=by simp [zsa,zsd,ofB]
 have e3:ofB ((zsa x).map fun _ => 15) = 1085102592571150095:=by simp [zsa,zsd,ofB]
 rw [e1,e2,e3] at h
 exact h
theorem zsv (b:Nat) (l:List Nat) (hb:b < 256):ofB (b :: l) / 256 = ofB l:=by rw [ofB]; omega
theorem zv0:∀ (l:List Nat),(∀ b ∈ l,b <= 64) -> 3 * ofB l < 256 ^ l.length:=by
 intro l
 induction l with
 | nil => intro _; simp [ofB]
 | cons b l ih =>
  intro h
  have h1:=h b (by simp)
  have h2:=ih (fun c hc => h c (by simp [hc]))
  rw [ofB,List.length_cons,Nat.pow_succ]
  omega
theorem zw5 (c0 c1 c2 c3 c4 c5 c6 c7:Nat) (h0:c0 <= 8) (h1:c1 <= 8) (h2:c2 <= 8) (h3:c3 <= 8) (h4:c4 <= 8) (h5:c5 <= 8) (h6:c6 <= 8) (h7:c7 <= 8) (X Y Z:Nat)
  (hX:X = ofB [c0,c1,c2,c3,c4,c5,c6,c7]) (hY:Y = X + X / 256) (hZ:Z = Y + Y / 65536) :
  (Z + Z / 4294967296) % 128 = c0 + (c1 + (c2 + (c3 + (c4 + (c5 + (c6 + c7)))))) /\ Z + Z / 4294967296 < 9223372036854775808 /\ Y < 9223372036854775808 /\ Z < 9223372036854775808:=by
 have eY:Y = ofB [c0 + c1,c1 + c2,c2 + c3,c3 + c4,c4 + c5,c5 + c6,c6 + c7,c7]:=by
  rw [hY,hX,zsv _ _ (by omega)]
  simp only [ofB]; omega
 have eZ:Z = ofB [c0 + c1 + (c2 + c3),c1 + c2 + (c3 + c4),c2 + c3 + (c4 + c5),c3 + c4 + (c5 + c6),c4 + c5 + (c6 + c7),c5 + c6 + c7,c6 + c7,c7]:=by
  rw [hZ,show (65536:Nat) = 256 * 256 from rfl,<- Nat.div_div_eq_div_mul,eY,zsv _ _ (by omega),zsv _ _ (by omega)]
  simp only [ofB]; omega
 have eT:Z + Z / 4294967296 = ofB [c0 + c1 + (c2 + c3) + (c4 + c5 + (c6 + c7)),c1 + c2 + (c3 + c4) + (c5 + c6 + c7),c2 + c3 + (c4 + c5) + (c6 + c7),c3 + c4 + (c5 + c6) + c7,c4 + c5 + (c6 + c7),c5 + c6 + c7,c6 + c7,c7]:=by
  rw [show (4294967296:Nat) = 256 * 256 * 256 * 256 from rfl,<- Nat.div_div_eq_div_mul,<- Nat.div_div_eq_div_mul,<- Nat.div_div_eq_div_mul,eZ,zsv _ _ (by omega),zsv _ _ (by omega),zsv _ _ (by omega),zsv _ _ (by omega)]
  simp only [ofB]; omega
 have bY:3 * Y < 256 ^ 8:=by rw [eY]; exact zv0 _ (by simp only [List.mem_cons,List.not_mem_nil,or_false]; intro b hb; omega)
 have bZ:3 * Z < 256 ^ 8:=by rw [eZ]; exact zv0 _ (by simp only [List.mem_cons,List.not_mem_nil,or_false]; intro b hb; omega)
 have bT:3 * (Z + Z / 4294967296) < 256 ^ 8:=by rw [eT]; exact zv0 _ (by simp only [List.mem_cons,List.not_mem_nil,or_false]; intro b hb; omega)
 refine ⟨?_,by omega,by omega,by omega⟩
 rw [eT,ofB]
 omega
theorem zw1 (x X Y Z:Nat) (hx:x < 18446744073709551616) (hX:X = f3 (f2 (f1 x 6148914691236517205) 3689348814741910323) 1085102592571150095) (hY:Y = X + X / 256) (hZ:Z = Y + Y / 65536) :
  (Z + Z / 4294967296) % 128 = pop x /\ Z + Z / 4294967296 < 9223372036854775808 /\ Y < 9223372036854775808 /\ Z < 9223372036854775808:=by
 rw [zu6 x hx] at hX
 have hb:=zt2 x
 have P:∀ b ∈ zsa x,pop8 b <= 8:=fun b h => (g_pop b (hb b h)).2
 simp only [zsa,zsd,List.map_cons,List.map_nil] at hX
 have:=zw5 _ _ _ _ _ _ _ _ (P _ (by simp [zsa,zsd])) (P _ (by simp [zsa,zsd])) (P _ (by simp [zsa,zsd])) (P _ (by simp [zsa,zsd])) (P _ (by simp [zsa,zsd])) (P _ (by simp [zsa,zsd])) (P _ (by simp [zsa,zsd])) (P _ (by simp [zsa,zsd])) X Y Z hX hY hZ
 refine ⟨this.1.trans ?_,this.2⟩
 simp only [pop,zsa,zsd,List.map_cons,List.map_nil,List.sum_cons,List.sum_nil,Nat.add_zero]
theorem zv6 (k:Nat):isOne (2 ^ k) = true:=by unfold isOne; rw [Nat.log2_two_pow]; exact decide_eq_true rfl
theorem pop_pow:∀ k,k < 64 -> pop (2 ^ k) = 1:=by decide +kernel
theorem zv7 (s:Nat):isOne s = true ↔ ∃ k,s = 2 ^ k:=by
 constructor
 ·intro h; exact ⟨_,of_decide_eq_true h⟩
 ·rintro ⟨k,rfl⟩; exact zv6 k
theorem zv4 {x:Nat} (hx:x < 18446744073709551616) (h:isOne x = true):Nat.log2 x < 64:=by
 have e:x = 2 ^ Nat.log2 x:=of_decide_eq_true h
 rw [e] at hx
 exact (Nat.pow_lt_pow_iff_right (by omega)).1 (show 2 ^ Nat.log2 x < 2 ^ 64 from hx)
theorem pop_one (x:Nat) (hx:x < 18446744073709551616):pop x = 1 ↔ isOne x = true:=by
 constructor
 ·intro h
  have hb:=zt2 x
  have hs:ofB (zsa x) = x:=zt9 x hx
  have key:∀ l:List Nat,(∀ b ∈ l,b < 256) -> ((l.map pop8).sum = 0 -> ofB l = 0) /\ ((l.map pop8).sum = 1 -> ∃ k,ofB l = 2 ^ k):=by
   intro l
   induction l with
   | nil => intro _; simp [ofB]
   | cons b l ih =>
    intro hl
    obtain ⟨i0,i1⟩:=ih (fun c hc => hl c (by simp [hc]))
    obtain ⟨p0,p1⟩:=zw0 b (hl b (by simp))
    simp only [List.map_cons,List.sum_cons,ofB]
    constructor
    ·intro h
     rw [p0 (by omega),i0 (by omega)]
    ·intro h
     by_cases h0:pop8 b = 0
     ·obtain ⟨k,hk⟩:=i1 (by omega)
      rw [p0 h0,hk]
      exact ⟨8 + k,by rw [Nat.pow_add]; rfl⟩
     ·obtain ⟨j,hj,hj2⟩:=p1 (by omega)
      rw [i0 (by omega),hj2]
      exact ⟨j,by omega⟩
  obtain ⟨k,hk⟩:=(key _ hb).2 h
  rw [hs] at hk
  exact (zv7 x).2 ⟨k,hk⟩
 ·intro h
  have e:x = 2 ^ Nat.log2 x:=of_decide_eq_true h
  rw [e]
  exact pop_pow _ (zv4 hx h)
end Go.Proofs.YthdabkmkgkkmcaaGreatDoor
namespace Go.Proofs.YthdabkmkgkkmcaaGreatDoor
theorem nc0_op {op:Int} (h:nc op = 0):(op == 9) = false /\ (op == 10) = false /\ (op == 11) = false /\ (op == 12) = false /\ (op == 13) = false /\ (op == 14) = false /\ (op == 15) = false:=by
 unfold nc at h
 by_cases c1:op = 10 \/ op = 11
 ·rw [if_pos c1] at h; omega
 ·by_cases c2:op = 9 \/ (12 <= op /\ op <= 15)
  ·rw [if_neg c1,if_pos c2] at h; omega
  ·simp only [beq_eq_false_iff_ne]; omega
theorem nc1_op {op:Int} (h:nc op = 1):op = 9 \/ op = 12 \/ op = 13 \/ op = 14 \/ op = 15:=by
 unfold nc at h
 by_cases c1:op = 10 \/ op = 11
 ·rw [if_pos c1] at h; omega
 ·by_cases c2:op = 9 \/ (12 <= op /\ op <= 15)
  ·omega
  ·rw [if_neg c1,if_neg c2] at h; omega
theorem nc2_op {op:Int} (h:nc op = 2):op = 10 \/ op = 11:=by
 unfold nc at h
 by_cases c1:op = 10 \/ op = 11
 ·exact c1
 ·rw [if_neg c1] at h; split at h <;> omega
def zs8 (f:List Mk):Nat -> Nat -> Tr
 | 0,_ => .leaf 1 0 0
 | k + 1,i => match f[i]? with
  | none => .leaf 1 0 0
  | some m => if nc m.op = 0 then .leaf m.op m.x m.y else if nc m.op = 1 then .un m.op m.x (zs8 f k m.a.toNat) else .bin m.op (zs8 f k m.a.toNat) (zs8 f k m.b.toNat)
def zso (f:List Mk):Tr:=zs8 f f.length (f.length - 1)
def Sg (f:List Mk) (p:Nat) (t:Tr):Prop:=∀ j,j < t.size -> f[p + j]? = (t.enc p)[j]?
theorem Sg.leaf {f:List Mk} {p:Nat} {op x y:Int} (h:Sg f p (.leaf op x y)):f[p]? = some ⟨op,x,y,0,0⟩:=by
 have:=h 0 (by simp [Tr.size]); simpa [Tr.enc] using this
theorem Sg.un {f:List Mk} {p:Nat} {op x:Int} {a:Tr} (h:Sg f p (.un op x a)):f[p + a.size]? = some ⟨op,x,0,((p + a.size - 1:Nat):Int),0⟩:=by
 have:=h a.size (by simp [Tr.size])
 rw [this,Tr.enc,List.getElem?_append_right (by rw [Tr.enc_len]; exact zn),Tr.enc_len]; simp
theorem Sg.un1 {f:List Mk} {p:Nat} {op x:Int} {a:Tr} (h:Sg f p (.un op x a)):Sg f p a:=fun j hj => by
 rw [h j (by simp [Tr.size]; omega),Tr.enc,List.getElem?_append_left (by rw [Tr.enc_len]; exact hj)]
theorem Sg.bin {f:List Mk} {p:Nat} {op:Int} {a b:Tr} (h:Sg f p (.bin op a b)):f[p + a.size + b.size]? = some ⟨op,0,0,((p + a.size - 1:Nat):Int),((p + a.size + b.size - 1:Nat):Int)⟩:=by
 have:=h (a.size + b.size) (by simp [Tr.size])
 have hb:=b.size_pos
 rw [Nat.add_assoc,this,Tr.enc,List.getElem?_append_right (by rw [Tr.enc_len]; omega),Tr.enc_len,List.getElem?_append_right (by rw [Tr.enc_len]; omega),Tr.enc_len]; simp; omega
theorem Sg.bin1 {f:List Mk} {p:Nat} {op:Int} {a b:Tr} (h:Sg f p (.bin op a b)):Sg f p a:=fun j hj => by
 rw [h j (by simp [Tr.size]; omega),Tr.enc,List.getElem?_append_left (by rw [Tr.enc_len]; exact hj)]
theorem Sg.bin2 {f:List Mk} {p:Nat} {op:Int} {a b:Tr} (h:Sg f p (.bin op a b)):Sg f (p + a.size) b:=fun j hj => by
 have:=h (a.size + j) (by simp [Tr.size]; omega)
 rw [Nat.add_assoc,this,Tr.enc,List.getElem?_append_right (by rw [Tr.enc_len]; omega),Tr.enc_len,List.getElem?_append_left (by rw [Tr.enc_len]; omega)]
 congr 1; omega
theorem zvl (f:List Mk):∀ (t:Tr) (p k:Nat),t.ok -> Sg f p t -> t.size <= k -> zs8 f k (p + t.size - 1) = t:=by
 intro t
 induction t with
 | leaf op x y =>
  intro p k hok hs hk
  obtain ⟨k,rfl⟩:∃ j,k = j + 1:=⟨k - 1,by simp [Tr.size] at hk; omega⟩
  have hm:=hs.leaf
  simp only [Tr.size,Nat.add_sub_cancel,zs8,hm,hok.2.1,if_true]
 | un op x a ih =>
  intro p k hok hs hk
  have hpos:=a.size_pos
  obtain ⟨k,rfl⟩:∃ j,k = j + 1:=⟨k - 1,by simp [Tr.size] at hk; omega⟩
  have e:p + (Tr.un op x a).size - 1 = p + a.size:=by simp only [Tr.size]; omega
  have h1:nc op = 1:=hok.1.2.1
  simp only [e,zs8,hs.un,h1,Int.toNat_natCast]
  rw [ih p k hok.2 hs.un1 (by simp [Tr.size] at hk; omega)]
  simp
 | bin op a b iha ihb =>
  intro p k hok hs hk
  have hposa:=a.size_pos
  have hposb:=b.size_pos
  obtain ⟨k,rfl⟩:∃ j,k = j + 1:=⟨k - 1,by simp [Tr.size] at hk; omega⟩
  have e:p + (Tr.bin op a b).size - 1 = p + a.size + b.size:=by simp only [Tr.size]; omega
  have h1:nc op = 2:=hok.1
  simp only [Tr.size] at hk
  simp only [e,zs8,hs.bin,h1,Int.toNat_natCast]
  rw [iha p k hok.2.1 hs.bin1 (by omega),ihb (p + a.size) k hok.2.2 hs.bin2 (by omega)]
  simp
theorem zt6 (t:Tr) (hok:t.ok):zso (t.enc 0) = t:=by
 have:=zvl (t.enc 0) t 0 t.size hok (fun j hj => by rw [Nat.zero_add]) zn
 unfold zso
 rw [Tr.enc_len]
 rw [Nat.zero_add] at this
 exact this
theorem zt5 {f:List Mk} (h:za4 f = true):f.length <= 64 /\ (zso f).ok /\ (zso f).size = f.length /\ f = (zso f).enc 0:=by
 obtain ⟨h64,t,ok,hs,he⟩:=zg1 f h
 have:zso f = t:=by rw [he]; exact zt6 t ok
 rw [this]; exact ⟨h64,ok,hs,he⟩
theorem zxa {f:List Mk} (h:za4 f = true) (n:Nat):costS n f = costT n (zso f):=by
 obtain ⟨_,ok,hs,he⟩:=zt5 h
 exact zvg n f _ ok hs he
def evalS (S:Stc) (f:List Mk) (l:List Nat):Bool × Int:=if 65536 < costT S.n (zso f) then (false,10) else (zb7 S (zso f) (zsu l),0)
def zc2 (f:List Mk) (vars:Int) (t:List Lf):Bool × Int :=
 if zai f vars true ≠ 0 then (false,zai f vars true) else if zsf t vars ≠ 0 then (false,zsf t vars) else evalS (zc1 t) f (zsb t)
theorem zsw (l:List Nat) (x v:Nat):zlt (l ++ [x]) v = zlt l v + x / 2 ^ v % 2 * 2 ^ l.length:=by
 unfold zlt
 rw [List.zipIdx_append]
 simp
theorem zs1 (l:List Nat) (v:Nat):zlt l v < 2 ^ l.length:=by
 have key:∀ k,k <= l.length -> zlt (l.take k) v < 2 ^ k:=by
  intro k
  induction k with
  | zero => intro _; simp [zlt]
  | succ k ih =>
   intro hk
   have h:=ih (by omega)
   obtain ⟨x,hx⟩:∃ x,l[k]? = some x:=⟨l[k],List.getElem?_eq_getElem (by omega)⟩
   rw [List.take_add_one,hx]
   simp only [Option.toList_some]
   rw [zsw,List.length_take,Nat.min_eq_left (by omega),Nat.pow_succ]
   have h1:x / 2 ^ v % 2 <= 1:=by omega
   have h2:x / 2 ^ v % 2 * 2 ^ k <= 1 * 2 ^ k:=Nat.mul_le_mul_right _ h1
   omega
 have:=key l.length zn
 rwa [List.take_length] at this
theorem or_bit (a b p:Nat) (h:a < 2 ^ p):a ||| (b * 2 ^ p) = a + b * 2 ^ p:=by
 rw [Nat.or_comm,Nat.mul_comm,<- Nat.two_pow_add_eq_or_of_lt h,Nat.add_comm]
theorem zwu (a:List Nat) (x:Int) (s:Nat):(setV a x s).length = a.length:=by simp [setV]
end Go.Proofs.YthdabkmkgkkmcaaGreatDoor
namespace Go.Proofs.YthdabkmkgkkmcaaGreatDoor
theorem seg_at {t:List Lf} (b:Bt):∀ p,Seg t p b -> ∀ q,q < b.size -> ∃ c:Bt,0 < c.size /\ q + c.size <= b.size /\ Seg t (p + q) c:=by
 induction b with
 | nil => intro p _ q h; simp [Bt.size] at h
 | node lab l r ihl ihr =>
  intro p hs q hq
  simp only [Bt.size] at hq
  have hsz:(Bt.node lab l r).size = 1 + l.size + r.size:=by simp only [Bt.size]; omega
  by_cases h0:q = 0
  ·subst h0
   exact ⟨_,by omega,by omega,hs⟩
  ·by_cases hl:q - 1 < l.size
   ·obtain ⟨c,h1,h2,h3⟩:=ihl (p + 1) hs.left (q - 1) hl
    exact ⟨c,h1,by omega,by rw [show p + q = p + 1 + (q - 1) by omega]; exact h3⟩
   ·obtain ⟨c,h1,h2,h3⟩:=ihr (p + 1 + l.size) hs.right (q - 1 - l.size) (by omega)
    exact ⟨c,h1,by omega,by rw [show p + q = p + 1 + l.size + (q - 1 - l.size) by omega]; exact h3⟩
end Go.Proofs.YthdabkmkgkkmcaaGreatDoor
namespace Go.Proofs.YthdabkmkgkkmcaaGreatDoor
end Go.Proofs.YthdabkmkgkkmcaaGreatDoor
namespace Go.Proofs.YthdabkmkgkkmcaaGreatDoor
end Go.Proofs.YthdabkmkgkkmcaaGreatDoor
namespace Go.Proofs.YthdabkmkgkkmcaaGreatDoor
end Go.Proofs.YthdabkmkgkkmcaaGreatDoor
namespace Go.Proofs.YthdabkmkgkkmcaaGreatDoor
end Go.Proofs.YthdabkmkgkkmcaaGreatDoor
namespace Go.Proofs.YthdabkmkgkkmcaaGreatDoor
section
variable {K:Type} [DecidableEq K] (f:K -> K -> Nat -> K)
end
section
variable {K M:Type} [DecidableEq K] [DecidableEq M] {R:K -> M -> Prop}
variable {f:K -> K -> Nat -> K} {g:M -> M -> Nat -> M}
end
end Go.Proofs.YthdabkmkgkkmcaaGreatDoor
namespace Go.Proofs.YthdabkmkgkkmcaaGreatDoor
end Go.Proofs.YthdabkmkgkkmcaaGreatDoor
namespace Go.Proofs.YthdabkmkgkkmcaaGreatDoor
end Go.Proofs.YthdabkmkgkkmcaaGreatDoor
namespace Go.Proofs.YthdabkmkgkkmcaaGreatDoor
section
variable {K:Type} [DecidableEq K] (f:K -> K -> Nat -> K)
variable {f}
variable (f)
variable {f}
end
end Go.Proofs.YthdabkmkgkkmcaaGreatDoor
namespace Go.Proofs.YthdabkmkgkkmcaaGreatDoor
end Go.Proofs.YthdabkmkgkkmcaaGreatDoor
namespace Go.Proofs.YthdabkmkgkkmcaaGreatDoor
end Go.Proofs.YthdabkmkgkkmcaaGreatDoor
namespace Go.Proofs.YthdabkmkgkkmcaaGreatDoor
section
variable {K:Type} [DecidableEq K] (f:K -> K -> Nat -> K)
variable {f}
end
theorem zuk (v x i:Nat):(loV v x).testBit i = (x.testBit i && !decide (v = i)):=by
 unfold loV
 rw [Nat.testBit_xor,Nat.testBit_and,Nat.testBit_two_pow]
 cases x.testBit i <;> cases decide (v = i) <;> rfl
theorem zul (v x i:Nat):(hiV v x).testBit i = (x.testBit i || decide (v = i)):=by
 unfold hiV
 rw [Nat.testBit_or,Nat.testBit_two_pow]
theorem zw4 {v:Nat} {a b:Int}:labC v a b ↔ 0 <= b /\ ∀ i,i ≠ v -> b.toNat.testBit i = a.toNat.testBit i:=by
 unfold labC
 constructor
 ·rintro ⟨h | h,h0⟩
  ·refine ⟨h0,fun i hi => ?_⟩
   rw [h,zuk]; simp [Ne.symm hi]
  ·refine ⟨h0,fun i hi => ?_⟩
   rw [h,zul]; simp [Ne.symm hi]
 ·rintro ⟨h0,h⟩
  refine ⟨?_,h0⟩
  cases hb:b.toNat.testBit v with
  | false =>
   left
   apply Nat.eq_of_testBit_eq
   intro i
   rw [zuk]
   by_cases hi:i = v
   ·subst hi; simp [hb]
   ·rw [h i hi]; simp [Ne.symm hi]
  | true =>
   right
   apply Nat.eq_of_testBit_eq
   intro i
   rw [zul]
   by_cases hi:i = v
   ·subst hi; simp [hb]
   ·rw [h i hi]; simp [Ne.symm hi]
end Go.Proofs.YthdabkmkgkkmcaaGreatDoor
namespace Go.Proofs.YthdabkmkgkkmcaaGreatDoor
end Go.Proofs.YthdabkmkgkkmcaaGreatDoor
namespace Go.Proofs.YthdabkmkgkkmcaaGreatDoor
section
variable {K:Type} [DecidableEq K] (f:K -> K -> Nat -> K)
end
end Go.Proofs.YthdabkmkgkkmcaaGreatDoor
namespace Go.Proofs.YthdabkmkgkkmcaaGreatDoor
end Go.Proofs.YthdabkmkgkkmcaaGreatDoor
namespace Go.Proofs.YthdabkmkgkkmcaaGreatDoor
section
variable (d:Dta) (k:Nat)
end
end Go.Proofs.YthdabkmkgkkmcaaGreatDoor
namespace Go.Proofs.YthdabkmkgkkmcaaGreatDoor
def stN (d:Dta) (t:List Lf) (i:Nat):Nat:=d.run (btAt t t.length i)
def kidN (n:Nat) (c:Int):Nat:=if c < 0 then n else c.toNat
theorem zwh {t:List Lf} {i:Nat} (h:t.length <= i) (k:Nat):btAt t k i = .nil:=by
 cases k with
 | zero => rfl
 | succ k => simp only [btAt]; rw [List.getElem?_eq_none h]
theorem ztr (d:Dta) (t:List Lf):stN d t t.length = d.e:=by unfold stN; rw [zwh zn]; rfl
theorem zus (d:Dta) {t:List Lf} {i:Nat} {x:Lf} (hf:zae t = true) (hx:t[i]? = some x) :
  i < kidN t.length x.left /\ kidN t.length x.left <= t.length /\ i < kidN t.length x.right /\ kidN t.length x.right <= t.length /\ stN d t i = d.nx (stN d t (kidN t.length x.left)) (stN d t (kidN t.length x.right)) x.label.toNat:=by
 obtain ⟨h31,hb,hs,he⟩:=zdh hf
 have hi:=(List.getElem?_eq_some_iff.1 hx).1
 obtain ⟨c,h1,h2,h3⟩:=seg_at _ 0 hs i (by omega)
 rw [Nat.zero_add] at h3
 cases c with
 | nil => simp [Bt.size] at h1
 | node lab l r =>
  have hr:=h3.root
  rw [hx] at hr
  cases hr
  have hc:=zp5 t _ i t.length h1 h3 (by omega)
  simp only [Bt.size] at h1 h2
  have kk:∀ (b:Bt) (p:Nat),i < p -> p + b.size <= t.length -> Seg t p b -> i < kidN t.length (b.at p) /\ kidN t.length (b.at p) <= t.length /\ stN d t (kidN t.length (b.at p)) = d.run b:=by
   intro b p hp hl hsg
   unfold Bt.at kidN
   by_cases h0:b.size = 0
   ·rw [if_pos h0,if_pos (by omega)]
    refine ⟨hi,zn,?_⟩
    rw [ztr,Bt.nil_of_size h0]; rfl
   ·rw [if_neg h0,if_neg (by omega),Int.toNat_natCast]
    refine ⟨hp,by omega,?_⟩
    unfold stN
    rw [zp5 t b p t.length (by omega) hsg (by omega)]
  obtain ⟨a1,a2,a3⟩:=kk l (i + 1) (by omega) (by omega) h3.left
  obtain ⟨b1,b2,b3⟩:=kk r (i + 1 + l.size) (by omega) (by omega) h3.right
  refine ⟨a1,a2,b1,b2,?_⟩
  rw [a3,b3]
  unfold stN
  rw [hc]; rfl
theorem zvm {d:Dta} (hd:d.OK) {t:List Lf} (hf:zae t = true) (hl:∀ m ∈ t,m.label.toNat < d.L):∀ k i,t.length - i <= k -> i <= t.length -> stN d t i < d.n:=by
 intro k
 induction k with
 | zero =>
  intro i hk hi
  have:i = t.length:=by omega
  subst this
  rw [ztr]; exact hd.he
 | succ k ih =>
  intro i hk hi
  by_cases e:i = t.length
  ·subst e; rw [ztr]; exact hd.he
  ·have hx:t[i]? = some (t[i]'(by omega)):=List.getElem?_eq_getElem _
   obtain ⟨h1,h2,h3,h4,h5⟩:=zus d hf hx
   rw [h5]
   exact hd.hn _ _ _ (ih _ (by omega) h2) (ih _ (by omega) h4) (hl _ (List.mem_of_getElem? hx))
theorem zsm {t:List Lf} {V:Nat} (hV:V <= 3) (h0:∀ m ∈ t,0 <= m.label) (h:zsf t V = 0):zae t = true /\ t.length <= 31 /\ ∀ m ∈ t,m.label.toNat < 2 ^ V:=by
 unfold zsf at h
 rw [if_neg (by omega)] at h
 by_cases h1:31 < t.length
 ·rw [if_pos h1] at h; omega
 ·rw [if_neg h1] at h
  by_cases h2:t.any (zse V) = true
  ·rw [if_pos h2] at h; omega
  ·rw [if_neg h2] at h
   by_cases h3:zae t = true
   ·refine ⟨h3,by omega,fun m hm => ?_⟩
    rw [List.any_eq_true] at h2
    have hb:¬ zse (V:Int) m = true:=fun e => h2 ⟨m,hm,e⟩
    unfold zse at hb
    simp only [decide_eq_true_eq,ne_eq,Decidable.not_not,Int.toNat_natCast] at hb
    have hm0:=h0 m hm
    have hV4:V = 0 \/ V = 1 \/ V = 2 \/ V = 3:=by omega
    rcases hV4 with rfl | rfl | rfl | rfl <;> simp at hb ⊢ <;> omega
   ·rw [if_neg h3] at h; omega
end Go.Proofs.YthdabkmkgkkmcaaGreatDoor

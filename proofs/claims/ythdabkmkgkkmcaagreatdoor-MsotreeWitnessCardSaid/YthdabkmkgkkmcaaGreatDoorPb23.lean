/- Part 23 of the proof; it says: lemmas and contracts. No conditions but those that each theorem states. -/
import Derived.Lib.Join
import Derived.Test.YthdabkmkgkkmcaaGreatDoorPb01
import Derived.Test.YthdabkmkgkkmcaaGreatDoorPb04
set_option linter.unusedSimpArgs false
set_option linter.unusedVariables false
set_option maxRecDepth 100000
set_option maxHeartbeats 32000000
namespace Go.Proofs.YthdabkmkgkkmcaaGreatDoor
open Go.RowKit
def varB (x:Int):List UInt8:=[UInt8.ofNat (65 + x.toNat)]
def zfi (m:Mk) (cs:List (List UInt8)):List UInt8:=[40] ++ Lib.join (nm m.op :: (occ m).map varB ++ cs) [32] ++ [41]
def fmtAt (st:List (List UInt8)) (m:Mk):Nat:=st.length - (nc m.op).toNat
def fmtStep (st:List (List UInt8)) (m:Mk):List (List UInt8) :=
 if m.op = 1 then st ++ [nm m.op] else st.take (fmtAt st m) ++ [zfi m (st.drop (fmtAt st m))]
def Tr.text:Tr -> List UInt8
 | .leaf op x y => if op = 1 then nm op else zfi ⟨op,x,y,0,0⟩ []
 | .un op x a => zfi ⟨op,x,0,0,0⟩ [a.text]
 | .bin op a b => zfi ⟨op,0,0,0,0⟩ [a.text,b.text]
def stk (f:List Mk) (k:Nat):List (List UInt8):=(f.take k).foldl fmtStep []
inductive PR (α:Type) where
 | ok (p:Nat) (v:α)
 | err (p:Nat) (e:Int)
def PR.bind {α β:Type} (x:PR α) (f:Nat -> α -> PR β):PR β :=
 match x with
 | .ok p v => f p v
 | .err p e => .err p e
theorem PR.bind_ok {α β:Type} (p:Nat) (v:α) (f:Nat -> α -> PR β):(PR.ok p v).bind f = f p v:=rfl
theorem PR.bind_err {α β:Type} (p:Nat) (e:Int) (f:Nat -> α -> PR β):(PR.err p e:PR α).bind f = .err p e:=rfl
def low (c:UInt8):Bool:=decide (97 <= c.toNat) && decide (c.toNat <= 122)
def pastP (s:List UInt8) (c:UInt8) (p:Nat):PR Unit :=
 match s[p]? with
 | none => .err p 3
 | some d => if d = c then .ok (p + 1) () else .err p 2
def varP (s:List UInt8) (p:Nat):PR Int :=
 (pastP s 32 p).bind fun p _ =>
  match s[p]? with
  | none => .err p 3
  | some d => if 65 <= d.toNat /\ d.toNat <= 70 then .ok (p + 1) ((d.toNat:Int) - 65) else .err p 7
def zdq (word:List UInt8) (inside:Bool):Nat -> Nat -> Option Nat
 | 0,_ => none
 | n + 1,k => if nm (k:Int) = word /\ decide (k ≠ 1) = inside then some k else zdq word inside n (k + 1)
def nameP (s:List UInt8) (inside:Bool) (p:Nat):PR Int :=
 match s[p]? with
 | none => .err p 3
 | some c =>
  if low c then
   match zdq ((s.drop p).takeWhile low) inside 15 1 with
   | some k => .ok (p + ((s.drop p).takeWhile low).length) k
   | none => .err p 6
  else .err p 2
def zht (b:Bool) (s:List UInt8) (p:Nat):PR Int:=if b then varP s p else .ok p 0
def zea {α:Type} (inside:Bool) (s:List UInt8) (p:Nat) (v:α):PR α:=if inside then (pastP s 41 p).bind fun p _ => .ok p v else .ok p v
def form (s:List UInt8):Nat -> Nat -> Nat -> PR (Nat × Tr)
 | 0,p,_ => .err p 4
 | n + 1,p,many =>
  match s[p]? with
  | none => .err p 3
  | some c =>
   if c = 40 \/ low c = true then
    if many = 64 then .err p 4
    else (nameP s (c = 40) (if c = 40 then p + 1 else p)).bind fun p op =>
     (zht (decide (0 < nv op)) s p).bind fun p x =>
     (zht (decide (1 < nv op)) s p).bind fun p y =>
     if nc op = 0 then zea (c = 40) s p (many + 1,.leaf op x y)
     else (pastP s 32 p).bind fun p _ => (form s n p (many + 1)).bind fun p a =>
      if nc op = 1 then zea (c = 40) s p (a.1,.un op x a.2)
      else (pastP s 32 p).bind fun p _ => (form s n p a.1).bind fun p b => zea (c = 40) s p (b.1,.bin op a.2 b.2)
   else .err p 2
def zcy (s:List UInt8):List Mk × Nat × Int :=
 if 4096 < s.length then ([],0,4)
 else match form s 65 0 0 with
  | .err p e => ([],p,e)
  | .ok p a => if p < s.length then ([],p,5) else (a.2.enc 0,0,0)
-- the text of a tree
theorem zfh (m:Mk) (cs:List (List UInt8)):zfi m cs = [40] ++ nm m.op ++ (((occ m).map varB ++ cs).map ([32] ++ ·)).flatten ++ [41]:=by
 show [40] ++ Lib.join (nm m.op :: ((occ m).map varB ++ cs)) [32] ++ [41] = _
 rw [Lib.join_cons]
 simp [Lib.joinTail]
theorem zlf {op:Int} (h:nm op ≠ []):1 <= op /\ op <= 15:=by
 by_cases hr:1 <= op /\ op <= 15
 ·exact hr
 ·refine absurd ?_ h
  unfold nm
  iterate 15 rw [if_neg (by omega)]
theorem zkf {word:List UInt8} {inside:Bool}:∀ n k r,zdq word inside n k = some r -> k <= r /\ r < k + n /\ nm (r:Int) = word /\ decide (r ≠ 1) = inside:=by
 intro n
 induction n with
 | zero => intro k r h; simp [zdq] at h
 | succ n ih =>
  intro k r h
  rw [zdq] at h
  split at h
  ·rename_i hc
   injection h with h
   subst h
   exact ⟨zn,by omega,hc.1,hc.2⟩
  ·have:=ih _ _ h
   exact ⟨by omega,by omega,this.2.2.1,this.2.2.2⟩
def At (s:List UInt8) (p:Nat) (t:List UInt8):Prop:=∃ r,s.drop p = t ++ r
theorem At.mk_one {s:List UInt8} {p:Nat} {c:UInt8} (h:s[p]? = some c):At s p [c]:=by
 have hp:p < s.length:=(List.getElem?_eq_some_iff.1 h).1
 have hc:s[p] = c:=(List.getElem?_eq_some_iff.1 h).2
 exact ⟨s.drop (p + 1),by rw [List.drop_eq_getElem_cons hp,hc]; rfl⟩
theorem At.app {s:List UInt8} {p:Nat} {a b:List UInt8} (h:At s p a) (k:At s (p + a.length) b):At s p (a ++ b):=by
 obtain ⟨r,h⟩:=h
 obtain ⟨q,k⟩:=k
 rw [<- List.drop_drop,h,List.drop_left] at k
 exact ⟨q,by rw [h,k,List.append_assoc]⟩
theorem At.le {s:List UInt8} {p:Nat} {a:List UInt8} (h:At s p a) (hp:p <= s.length):p + a.length <= s.length:=by
 obtain ⟨r,h⟩:=h
 have:=congrArg List.length h
 rw [List.length_drop,List.length_append] at this
 omega
theorem occ0 {m:Mk} (h:nv m.op = 0):occ m = []:=by unfold occ; rw [h]; rfl
theorem occ1 {m:Mk} (h:nv m.op = 1):occ m = [m.x]:=by unfold occ; rw [h]; rfl
theorem occ2 {m:Mk} (h:nv m.op = 2):occ m = [m.x,m.y]:=by unfold occ; rw [h]; rfl
def ErrAt (s:List UInt8) (p:Nat) (e:Int):Prop:=p <= s.length /\ 1 <= e /\ e <= 7 /\ (e = 3 ↔ p = s.length)
def PR.good {α:Type} (s:List UInt8) (x:PR α) (R:Nat -> α -> Prop):Prop :=
 match x with
 | .ok p v => R p v
 | .err p e => ErrAt s p e
theorem PR.good_bind {α β:Type} {s:List UInt8} {x:PR α} {f:Nat -> α -> PR β} {R:Nat -> α -> Prop} {T:Nat -> β -> Prop} (h:x.good s R) (k:∀ p v,R p v -> (f p v).good s T):(x.bind f).good s T:=by
 cases x with
 | ok p v => exact k p v h
 | err p e => exact h
theorem zf5 {s:List UInt8} {p:Nat} (h:s[p]? = none) (hp:p <= s.length):ErrAt s p 3:=by
 have:=List.getElem?_eq_none_iff.1 h
 exact ⟨hp,by omega,by omega,by omega⟩
theorem zd2 {s:List UInt8} {p:Nat} {c:UInt8} (h:s[p]? = some c) (e:Int) (h1:1 <= e) (h2:e <= 7) (h3:e ≠ 3):ErrAt s p e:=by
 have:=(List.getElem?_eq_some_iff.1 h).1
 exact ⟨by omega,h1,h2,by omega⟩
theorem zal {s:List UInt8} {p:Nat} (c:UInt8) (hp:p <= s.length):(pastP s c p).good s fun q _ => q = p + 1 /\ q <= s.length /\ At s p [c]:=by
 unfold pastP
 split
 ·rename_i h; exact zf5 h hp
 ·rename_i d h
  split
  ·rename_i hd
   subst hd
   exact ⟨rfl,(List.getElem?_eq_some_iff.1 h).1,At.mk_one h⟩
  ·exact zd2 h 2 (by omega) (by omega) (by omega)
theorem zdl {s:List UInt8} {p:Nat} (hp:p <= s.length):(varP s p).good s fun q x => q = p + 2 /\ q <= s.length /\ 0 <= x /\ x < 6 /\ At s p ([32] ++ varB x):=by
 unfold varP
 refine PR.good_bind (zal 32 hp) fun q _ hq => ?_
 obtain ⟨rfl,h1,h2⟩:=hq
 split
 ·rename_i h; exact zf5 h h1
 ·rename_i d h
  split
  ·rename_i hd
   refine ⟨rfl,(List.getElem?_eq_some_iff.1 h).1,by omega,by omega,h2.app ?_⟩
   have e:varB ((d.toNat:Int) - 65) = [d]:=by
    unfold varB
    congr 1
    have:65 + ((d.toNat:Int) - 65).toNat = d.toNat:=by omega
    rw [this]
    simp
   rw [e]
   exact At.mk_one h
  ·exact zd2 h 7 (by omega) (by omega) (by omega)
theorem zgr {s:List UInt8} {p:Nat} (b:Bool) (hp:p <= s.length):(zht b s p).good s fun q x => q <= s.length /\ (if b then q = p + 2 /\ 0 <= x /\ x < 6 /\ At s p ([32] ++ varB x) else q = p /\ x = 0):=by
 unfold zht
 cases b with
 | false => exact ⟨hp,rfl,rfl⟩
 | true =>
  have h:=zdl hp
  cases hx:varP s p with
  | ok q x => rw [hx] at h; exact ⟨h.2.1,h.1,h.2.2⟩
  | err q e => rw [hx] at h; exact h
theorem zfd {s:List UInt8} {p:Nat} (inside:Bool) (hp:p <= s.length):(nameP s inside p).good s fun q op => q = p + (nm op).length /\ q <= s.length /\ nm op ≠ [] /\ decide (op ≠ 1) = inside /\ At s p (nm op):=by
 unfold nameP
 split
 ·rename_i h; exact zf5 h hp
 ·rename_i c h
  split
  ·rename_i hc
   have hw:∃ l r,(s.drop p).takeWhile low = c :: l /\ s.drop p = (c :: l) ++ r:=by
    have hp':=(List.getElem?_eq_some_iff.1 h).1
    have e1:(s.drop p).takeWhile low = c :: (s.drop (p + 1)).takeWhile low:=by
     rw [List.drop_eq_getElem_cons hp',(List.getElem?_eq_some_iff.1 h).2,List.takeWhile_cons,hc]; rfl
    refine ⟨((s.drop (p + 1)).takeWhile low),(s.drop p).dropWhile low,e1,?_⟩
    rw [<- e1]
    exact (List.takeWhile_append_dropWhile (p:=low) (l:=s.drop p)).symm
   obtain ⟨l,r,hw1,hw2⟩:=hw
   split
   ·rename_i k hk
    obtain ⟨k1,k2,k3,k4⟩:=zkf _ _ _ hk
    rw [<- k3] at hw1 ⊢
    have hat:At s p (nm (k:Int)):=⟨r,by rw [hw2,<- hw1]⟩
    refine ⟨rfl,hat.le hp,by rw [hw1]; simp,?_,hat⟩
    rw [<- k4]
    congr 1
    simp; omega
   ·exact zd2 h 6 (by omega) (by omega) (by omega)
  ·exact zd2 h 2 (by omega) (by omega) (by omega)
theorem zo9 {op x y:Int} (h:op ≠ 1):(Tr.leaf op x y).text = zfi ⟨op,x,y,0,0⟩ []:=by rw [Tr.text,if_neg h]
theorem znq {s:List UInt8} {p q r:Nat} {op x y:Int} (hq:q <= s.length /\ (if decide (0 < nv op) then q = p + 2 /\ 0 <= x /\ x < 6 /\ At s p ([32] ++ varB x) else q = p /\ x = 0))
  (hr:r <= s.length /\ (if decide (1 < nv op) then r = q + 2 /\ 0 <= y /\ y < 6 /\ At s q ([32] ++ varB y) else r = q /\ y = 0)) (a b:Int) :
  zak ⟨op,x,y,a,b⟩ 6 = true /\ spare ⟨op,x,y,a,b⟩ = true /\ r = p + 2 * (occ ⟨op,x,y,a,b⟩).length /\ At s p (((occ ⟨op,x,y,a,b⟩).map varB).map ([32] ++ ·)).flatten:=by
 obtain ⟨_,hq⟩:=hq
 obtain ⟨_,hr⟩:=hr
 simp only [decide_eq_true_eq] at hq hr
 rcases zip op with h0 | h0 | h0
 ·rw [if_neg (by omega)] at hq hr
  rw [occ0 (m:=⟨op,x,y,a,b⟩) h0]
  refine ⟨by simp [zak,h0],by simp [spare,hq.2,hr.2],by simp only [List.length_nil]; omega,⟨s.drop p,rfl⟩⟩
 ·rw [if_pos (by omega)] at hq
  rw [if_neg (by omega)] at hr
  rw [occ1 (m:=⟨op,x,y,a,b⟩) h0]
  refine ⟨by simp [zak,h0,hq.2.1,hq.2.2.1],by simp [spare,h0,hr.2],by simp only [List.length_singleton]; omega,by simpa using hq.2.2.2⟩
 ·rw [if_pos (by omega)] at hq hr
  rw [occ2 (m:=⟨op,x,y,a,b⟩) h0]
  refine ⟨by simp [zak,hq.2.1,hq.2.2.1,hr.2.1,hr.2.2.1],by simp [spare,h0],by simp only [List.length_cons,List.length_nil]; omega,?_⟩
  have h9:At s (p + ([32] ++ varB x).length) ([32] ++ varB y):=by
   have:=hr.2.2.2
   rw [hq.1] at this
   exact this
  simpa using hq.2.2.2.app h9
theorem zey (s:List UInt8):∀ n p many,p <= s.length -> 65 <= n + many -> many <= 64 -> (form s n p many).good s fun q a => q = p + a.2.text.length /\ q <= s.length /\ a.2.ok /\ a.1 = many + a.2.size /\ a.1 <= 64 /\ At s p a.2.text:=by
 intro n
 induction n with
 | zero => intro p many hp h1 h2; omega
 | succ n ih =>
  intro p many hp h1 h2
  rw [form]
  split
  ·rename_i h; exact zf5 h hp
  rename_i c hc
  have hlt:=(List.getElem?_eq_some_iff.1 hc).1
  split
  case isFalse => exact zd2 hc 2 (by omega) (by omega) (by omega)
  rename_i hcl
  split
  ·exact zd2 hc 4 (by omega) (by omega) (by omega)
  rename_i hm
  have hp2:(if c = 40 then p + 1 else p) <= s.length:=by split <;> omega
  refine PR.good_bind (zfd (decide (c = 40)) hp2) fun p1 op h3 => ?_
  obtain ⟨e1,l1,o1,hin,at1⟩:=h3
  refine PR.good_bind (zgr _ l1) fun p2 x h4 => ?_
  refine PR.good_bind (zgr _ h4.1) fun p3 y h5 => ?_
  obtain ⟨w1,w2,w3,w4⟩:=znq h4 h5 0 0
  have l3:=h5.1
  by_cases c40:c = 40
  ·subst c40
   have hop:op ≠ 1:=by simpa using hin
   simp only [if_true] at e1 at1 hp2 ⊢
   have head:At s p ([40] ++ nm op ++ (((occ ⟨op,x,y,0,0⟩).map varB).map ([32] ++ ·)).flatten):=by
    rw [List.append_assoc]
    refine (At.mk_one hc).app (At.app (p:=p + 1) at1 ?_)
    rw [<- e1]
    exact w4
   have hlen:((((occ ⟨op,x,y,0,0⟩).map varB).map ([32] ++ ·)).flatten).length = 2 * (occ ⟨op,x,y,0,0⟩).length:=by
    generalize occ ⟨op,x,y,0,0⟩ = l
    induction l with
    | nil => rfl
    | cons a l ih => simp only [List.map_cons,List.flatten_cons,List.length_append,ih,List.length_cons,varB,List.length_nil]; omega
   have hend:p + ([40] ++ nm op ++ (((occ ⟨op,x,y,0,0⟩).map varB).map ([32] ++ ·)).flatten).length = p3:=by
    simp only [List.length_append,hlen,List.length_singleton]; omega
   split
   ·rename_i n0
    simp only [decide_true,zea,if_true]
    refine PR.good_bind (zal 41 l3) fun p4 _ h6 => ?_
    obtain ⟨e4,l4,at4⟩:=h6
    have et:=zo9 (x:=x) (y:=y) hop
    rw [zfh] at et
    simp only [List.append_nil] at et
    have hat:At s p (Tr.leaf op x y).text:=by
     rw [et]; exact head.app (by rw [hend]; exact at4)
    exact ⟨by rw [et,List.length_append,List.length_singleton]; omega,l4,⟨o1,n0,w1,w2⟩,rfl,by simp only; omega,hat⟩
   ·rename_i n0
    refine PR.good_bind (zal 32 l3) fun p4 _ h6 => ?_
    obtain ⟨e4,l4,at4⟩:=h6
    refine PR.good_bind (ih p4 (many + 1) l4 (by omega) (by omega)) fun p5 a h7 => ?_
    obtain ⟨e5,l5,ok5,sz5,m5,at5⟩:=h7
    split
    ·rename_i n1
     simp only [decide_true,zea,if_true]
     refine PR.good_bind (zal 41 l5) fun p6 _ h8 => ?_
     obtain ⟨e6,l6,at6⟩:=h8
     have hy:y = 0:=by
      have:=zjg op n1
      obtain ⟨_,h5⟩:=h5
      rw [if_neg (by simp; omega)] at h5
      exact h5.2
     subst hy
     have et:(Tr.un op x a.2).text = ([40] ++ nm op ++ (((occ ⟨op,x,0,0,0⟩).map varB).map ([32] ++ ·)).flatten) ++ ([32] ++ (a.2.text ++ [41])):=by
      rw [Tr.text,zfh]
      simp [List.append_assoc]
     have hat:At s p (Tr.un op x a.2).text:=by
      rw [et]
      refine head.app ?_
      rw [hend]
      refine at4.app ?_
      rw [List.length_singleton,<- e4]
      exact at5.app (by rw [<- e5]; exact at6)
     refine ⟨?_,l6,⟨⟨o1,n1,w1,w2⟩,ok5⟩,by simp only [Tr.size]; omega,m5,hat⟩
     have hl:=hend
     rw [et]
     simp only [List.length_append,List.length_singleton] at hl ⊢
     omega
    ·rename_i n1
     have n2:nc op = 2:=by rcases zdz op with h | h | h <;> omega
     obtain ⟨v0,_⟩:=zgs op n2
     refine PR.good_bind (zal 32 l5) fun p6 _ h8 => ?_
     obtain ⟨e6,l6,at6⟩:=h8
     refine PR.good_bind (ih p6 a.1 l6 (by omega) m5) fun p7 b h9 => ?_
     obtain ⟨e7,l7,ok7,sz7,m7,at7⟩:=h9
     simp only [decide_true,zea,if_true]
     refine PR.good_bind (zal 41 l7) fun p8 _ h10 => ?_
     obtain ⟨e8,l8,at8⟩:=h10
     have hxy:x = 0 /\ y = 0:=by
      obtain ⟨_,h4⟩:=h4
      obtain ⟨_,h5⟩:=h5
      rw [if_neg (by simp; omega)] at h4 h5
      exact ⟨h4.2,h5.2⟩
     obtain ⟨rfl,rfl⟩:=hxy
     have et:(Tr.bin op a.2 b.2).text = ([40] ++ nm op ++ (((occ ⟨op,0,0,0,0⟩).map varB).map ([32] ++ ·)).flatten) ++ ([32] ++ (a.2.text ++ ([32] ++ (b.2.text ++ [41])))):=by
      rw [Tr.text,zfh]
      simp [List.append_assoc]
     have hat:At s p (Tr.bin op a.2 b.2).text:=by
      rw [et]
      refine head.app ?_
      rw [hend]
      refine at4.app ?_
      rw [List.length_singleton,<- e4]
      refine at5.app ?_
      rw [<- e5]
      refine at6.app ?_
      rw [List.length_singleton,<- e6]
      exact at7.app (by rw [<- e7]; exact at8)
     refine ⟨?_,l8,⟨n2,ok5,ok7⟩,by simp only [Tr.size]; omega,m7,hat⟩
     have hl:=hend
     rw [et]
     simp only [List.length_append,List.length_singleton] at hl ⊢
     omega
  ·have hop:op = 1:=by simpa [c40] using hin
   subst hop
   simp only [if_neg c40] at e1 at1 hp2 ⊢
   have v1:decide (0 < nv 1) = false:=rfl
   have v2:decide (1 < nv 1) = false:=rfl
   obtain ⟨_,h4⟩:=h4
   obtain ⟨_,h5⟩:=h5
   rw [v1] at h4
   rw [v2] at h5
   obtain ⟨rfl,rfl⟩:=h4
   obtain ⟨rfl,rfl⟩:=h5
   rw [if_pos (show nc 1 = 0 from rfl)]
   simp only [c40,decide_false,zea,Bool.false_eq_true,if_false]
   exact ⟨e1,l3,⟨o1,rfl,w1,w2⟩,rfl,by simp only; omega,at1⟩
def Tr.sz:Tr -> List Nat
 | .leaf _ _ _ => [1]
 | .un _ _ a => a.sz ++ [a.size + 1]
 | .bin _ a b => a.sz ++ (b.sz ++ [a.size + b.size + 1])
theorem Tr.sz_len (t:Tr):t.sz.length = t.size:=by
 induction t with
 | leaf op x y => rfl
 | un op x a ih => simp [Tr.sz,Tr.size,ih]
 | bin op a b iha ihb => simp [Tr.sz,Tr.size,iha,ihb]; omega
theorem Tr.sz_last (t:Tr):t.sz[t.size - 1]? = some t.size:=by
 cases t with
 | leaf op x y => rfl
 | un op x a =>
  simp only [Tr.sz,Tr.size]
  rw [List.getElem?_append_right (by rw [Tr.sz_len]; omega),Tr.sz_len]
  simp
 | bin op a b =>
  simp only [Tr.sz,Tr.size]
  rw [List.getElem?_append_right (by rw [Tr.sz_len]; omega),Tr.sz_len,List.getElem?_append_right (by rw [Tr.sz_len]; omega),Tr.sz_len]
  have e:a.size + b.size + 1 - 1 - a.size - b.size = 0:=by omega
  rw [e]; rfl
theorem Tr.sz_pos (t:Tr):∀ i,i < t.size -> t.sz.getD i 0 ≠ 0:=by
 have h:∀ t:Tr,∀ x ∈ t.sz,x ≠ 0:=by
  intro t
  induction t with
  | leaf op x y => simp [Tr.sz]
  | un op x a ih =>
   intro x hx
   simp only [Tr.sz,List.mem_append,List.mem_singleton] at hx
   rcases hx with hx | hx
   ·exact ih x hx
   ·omega
  | bin op a b iha ihb =>
   intro x hx
   simp only [Tr.sz,List.mem_append,List.mem_singleton] at hx
   rcases hx with hx | hx | hx
   ·exact iha x hx
   ·exact ihb x hx
   ·omega
 intro i hi
 rw [List.getD_eq_getElem?_getD,List.getElem?_eq_getElem (by rw [Tr.sz_len]; exact hi)]
 exact h t _ (List.getElem_mem _)
theorem enc_szs (t:Tr):t.ok -> ∀ (acc:List Nat) (p:Nat),acc.length = p -> (t.enc p).foldl (fun acc m => acc ++ [blk acc m]) acc = acc ++ t.sz:=by
 induction t with
 | leaf op x y =>
  intro ok acc p hp
  have h0:nc op = 0:=ok.2.1
  simp [Tr.enc,Tr.sz,blk,h0]
 | un op x a ih =>
  intro ok acc p hp
  have h0:nc op = 1:=ok.1.2.1
  have hs:=a.size_pos
  rw [Tr.enc,List.foldl_append,ih ok.2 acc p hp]
  simp only [List.foldl_cons,List.foldl_nil,Tr.sz,List.append_assoc]
  have hl:(acc ++ a.sz).length = p + a.size:=by rw [List.length_append,Tr.sz_len,hp]
  have h1:(acc ++ a.sz).getD (p + a.size - 1) 0 = a.size:=by
   rw [List.getD_eq_getElem?_getD,List.getElem?_append_right (by omega),hp,show p + a.size - 1 - p = a.size - 1 by omega,Tr.sz_last]; rfl
  congr 2
  unfold blk
  simp only [h0,hl,h1]
  rw [if_neg (by omega),if_neg (by omega),if_neg (by omega),if_pos trivial,if_pos ⟨by omega,trivial⟩,Nat.add_comm]
 | bin op a b iha ihb =>
  intro ok acc p hp
  have h0:nc op = 2:=ok.1
  have hs:=a.size_pos
  have hs2:=b.size_pos
  rw [Tr.enc,List.foldl_append,iha ok.2.1 acc p hp,List.foldl_append,ihb ok.2.2 (acc ++ a.sz) (p + a.size) (by rw [List.length_append,Tr.sz_len,hp])]
  simp only [List.foldl_cons,List.foldl_nil,Tr.sz,List.append_assoc]
  have hl:(acc ++ (a.sz ++ b.sz)).length = p + a.size + b.size:=by rw [List.length_append,List.length_append,Tr.sz_len,Tr.sz_len,hp]; omega
  have h1:(acc ++ (a.sz ++ b.sz)).getD (p + a.size + b.size - 1) 0 = b.size:=by
   rw [List.getD_eq_getElem?_getD,List.getElem?_append_right (by omega),List.getElem?_append_right (by rw [Tr.sz_len]; omega),hp,Tr.sz_len,show p + a.size + b.size - 1 - p - a.size = b.size - 1 by omega,Tr.sz_last]; rfl
  have h2:(acc ++ (a.sz ++ b.sz)).getD (p + a.size + b.size - b.size - 1) 0 = a.size:=by
   rw [List.getD_eq_getElem?_getD,List.getElem?_append_right (by omega),List.getElem?_append_left (by rw [Tr.sz_len]; omega),hp,show p + a.size + b.size - b.size - 1 - p = a.size - 1 by omega,Tr.sz_last]; rfl
  congr 3
  unfold blk
  simp only [h0,hl,h1,h2]
  rw [if_neg (by omega),if_neg (by omega),if_neg (by omega),if_neg (by omega),if_neg (by omega),if_neg (by omega),if_pos ⟨by omega,by omega⟩]
  congr 1
  omega
theorem szs_enc (t:Tr) (ok:t.ok):szs (t.enc 0) = t.sz:=by simpa [szs] using enc_szs t ok [] 0 rfl
theorem zfm (vars:Int) (known:Int -> Bool):∀ (f:List Mk) (ss:List Nat),(∀ i m,f[i]? = some m -> i < ss.length -> zam vars known m (ss.getD i 0) = 0) -> zav vars known f ss = 0
 | [],_,_ => by simp [zav]
 | m :: f,[],_ => by simp [zav]
 | m :: f,s :: ss,h => by
  rw [zav,if_pos (by simpa using h 0 m rfl (by simp))]
  exact zfm vars known f ss fun i a ha hi => by simpa using h (i + 1) a (by simpa using ha) (by simpa using hi)
theorem zfl {vars:Int} {known:Int -> Bool} {m:Mk} {s:Nat} (h1:nm m.op ≠ []) (h2:known m.op = true) (h3:zak m vars = true) (h4:spare m = true) (h5:s ≠ 0):zam vars known m s = 0:=by
 unfold zam
 rw [if_neg h1,if_neg (by simp [h2]),if_neg (by simp [h3]),if_neg (by simp [h4]),if_neg h5]
theorem Tr.enc_node (t:Tr):t.ok -> ∀ p,∀ m ∈ t.enc p,nm m.op ≠ [] /\ zak m 6 = true /\ spare m = true:=by
 induction t with
 | leaf op x y => intro ok p m hm; simp only [Tr.enc,List.mem_singleton] at hm; subst hm; exact ⟨ok.1,ok.2.2.1,ok.2.2.2⟩
 | un op x a ih =>
  intro ok p m hm
  simp only [Tr.enc,List.mem_append,List.mem_singleton] at hm
  rcases hm with hm | hm
  ·exact ih ok.2 p m hm
  ·subst hm; exact ⟨ok.1.1,ok.1.2.2.1,ok.1.2.2.2⟩
 | bin op a b iha ihb =>
  intro ok p m hm
  simp only [Tr.enc,List.mem_append,List.mem_singleton] at hm
  rcases hm with hm | hm | hm
  ·exact iha ok.2.1 p m hm
  ·exact ihb ok.2.2 _ m hm
  ·subst hm
   obtain ⟨v0,o1⟩:=zgs op ok.1
   exact ⟨o1,by simp [zak,v0],by simp [spare]⟩
theorem chk_enc (t:Tr) (ok:t.ok) (hs:t.size <= 64) (vars:Int) (known:Int -> Bool) (hk:∀ m ∈ t.enc 0,known m.op = true) (hw:∀ m ∈ t.enc 0,zak m vars = true):chk (t.enc 0) vars known = 0:=by
 have hp:=t.size_pos
 unfold chk
 rw [Tr.enc_len,if_neg (by omega),if_neg (by omega),szs_enc t ok]
 rw [if_pos]
 ·rw [List.getD_eq_getElem?_getD,Tr.sz_last]; simp
 ·refine zfm _ _ _ _ fun i m hm hi => ?_
  have hmem:=List.mem_of_getElem? hm
  obtain ⟨a,b,c⟩:=t.enc_node ok 0 m hmem
  exact zfl a (hk m hmem) (hw m hmem) c (t.sz_pos i (by rw [<- Tr.sz_len]; exact hi))
theorem zc4 (t:Tr) (ok:t.ok) (hs:t.size <= 64):za4 (t.enc 0) = true :=
 decide_eq_true (chk_enc t ok hs 6 _ (fun _ _ => rfl) fun m hm => (t.enc_node ok 0 m hm).2.1)
theorem zj5 {m:Mk} {a b:Int} (h:zak m a = true) (hab:a <= b):zak m b = true:=by
 simp only [zak,Bool.and_eq_true,Bool.or_eq_true,decide_eq_true_eq] at h ⊢
 omega
theorem ze3 {f:List Mk} {vars:Int} {known:Int -> Bool} (h:chk f vars known = 0):1 <= f.length /\ f.length <= 64 /\ (szs f).getD (f.length - 1) 0 = f.length /\ ∀ i m,f[i]? = some m -> zam vars known m ((szs f).getD i 0) = 0:=by
 unfold chk at h
 by_cases h1:f.length = 0
 ·rw [if_pos h1] at h; omega
 by_cases h2:64 < f.length
 ·rw [if_neg h1,if_pos h2] at h; omega
 rw [if_neg h1,if_neg h2] at h
 by_cases h3:zav vars known f (szs f) = 0
 ·rw [if_pos h3] at h
  by_cases h4:(szs f).getD (f.length - 1) 0 = f.length
  ·exact ⟨by omega,by omega,h4,zeh vars known f (szs f) (zda f).symm h3⟩
  ·rw [if_neg h4] at h; omega
 ·rw [if_neg h3] at h; exact absurd h h3
theorem chk_mk {f:List Mk} {vars:Int} {known:Int -> Bool} (h1:1 <= f.length) (h2:f.length <= 64) (h3:(szs f).getD (f.length - 1) 0 = f.length) (h4:∀ i m,f[i]? = some m -> zam vars known m ((szs f).getD i 0) = 0):chk f vars known = 0:=by
 unfold chk
 rw [if_neg (by omega),if_neg (by omega),if_pos (zfm _ _ _ _ fun i m hm _ => h4 i m hm),if_pos h3]
theorem znf {f:List Mk} {vars:Int} {known:Int -> Bool} (h:chk f vars known = 0) (hv:vars <= 6):za4 f = true:=by
 obtain ⟨h1,h2,h3,h4⟩:=ze3 h
 refine decide_eq_true (chk_mk h1 h2 h3 fun i m hm => ?_)
 obtain ⟨a,_,b,c,d⟩:=zbi (h4 i m hm)
 exact zfl a rfl (zj5 b hv) c d
theorem zdw {f:List Mk} {vars:Int} {trees:Bool} (h:zai f vars trees = 0):za4 f = true:=by
 unfold zai at h
 by_cases hr:vars < 0 \/ (if trees then (3:Int) else 6) < vars
 ·rw [if_pos hr] at h; omega
 ·rw [if_neg hr] at h
  refine znf h ?_
  cases trees
  ·simp only [Bool.false_eq_true,if_false] at hr; omega
  ·simp only [if_true] at hr; omega
end Go.Proofs.YthdabkmkgkkmcaaGreatDoor

/- Part 36 of the proof; it says: lemmas and contracts. No conditions but those that each theorem states. -/
import Derived.Test.YthdabkmkgkkmcaaGreatDoorShelf
import Derived.Lib.IndexAny
import Derived.Test.YthdabkmkgkkmcaaGreatDoorPb01
import Derived.Test.YthdabkmkgkkmcaaGreatDoorPb03
import Derived.Test.YthdabkmkgkkmcaaGreatDoorPb04
import Derived.Test.YthdabkmkgkkmcaaGreatDoorPb23
import Derived.Test.YthdabkmkgkkmcaaGreatDoorPb27
set_option linter.unusedSimpArgs false
set_option linter.unusedVariables false
set_option maxRecDepth 100000
set_option maxHeartbeats 32000000
namespace Go.Proofs.YthdabkmkgkkmcaaGreatDoor
open Go.RowKit
def Pan (p:Nat) (e:Int):List PanicEntry:=[{ v:=.iface 130 (.agg #[.int .i64 p,.int .i64 e]),recovered:=false }]
def bts (s:ByteArray):List UInt8:=s.data.toList
theorem zab (s:ByteArray):(bts s).length = s.size:=by
 show s.data.toList.length = s.data.size
 simp
theorem zp4 (s:ByteArray) (p:Nat) (h:p < s.size):(bts s)[p]? = some s[p]:=by
 have h':p < s.data.toList.length:=by rw [<- zab] at h; exact h
 show s.data.toList[p]? = some s[p]
 rw [List.getElem?_eq_getElem h']
 rfl
theorem zr0 (s:ByteArray) (p:Nat) (h:s.size <= p):(bts s)[p]? = none:=List.getElem?_eq_none (by rw [zab]; exact h)
def needP (s:List UInt8) (cs:List UInt8) (e:Int) (p:Nat):PR UInt8 :=
 match s[p]? with
 | none => .err p 3
 | some c => if cs.contains c then .ok p c else .err p e
def zb5 (x:PR UInt8) (w:World) (e:Ending) (w':World):Prop :=
 Below w.heap.size w w' /\ match x with
 | .ok _ c => e = .returned (.int .u8 c.toNat)
 | .err p k => e = .panicked (Pan p k)
theorem zb5.err {x:PR UInt8} {p:Nat} {k:Int} (h:x = .err p k) {w w':World} (hb:Below w.heap.size w w'):zb5 x w (.panicked (Pan p k)) w':=by subst h; exact ⟨hb,rfl⟩
theorem zb5.ok {x:PR UInt8} {p:Nat} {c:UInt8} (h:x = .ok p c) {w w':World} (hb:Below w.heap.size w w'):zb5 x w (.returned (.int .u8 c.toNat)) w':=by subst h; exact ⟨hb,rfl⟩
theorem zg7 (w:World) (n:Nat):Below w.heap.size w (w.drewN n):=⟨rfl,rfl,rfl,zn,fun _ _ => rfl⟩
theorem zhq {P:Program} {f:FuncId} {args:Array Value} {w:World} {a n:Nat} {v:Value} (h:Calls P f args (w.drewN (a + n)) fun e w' => e = .returned v /\ w.drewN (a + n) = w') :
  Calls P f args (w.drewN (a + n)) fun e w' => e = .returned v /\ ∃ m,w' = w.drewN (a + m):=h.mono fun _ _ q => ⟨q.1,n,q.2.symm⟩
theorem za6 (S cs:ByteArray) (g p:Nat) (lv u:Value) (k:Int) (w:World) (hr:Row w g 133 #[.string S,.int .i64 p,lv,u]) (hp:p <= S.size) (hS:S.size <= 1000000) :
  Calls Tryz.prog 129 #[.pointer (some ⟨g,0,none⟩),.string cs,.int .i64 k] w (zb5 (needP (bts S) (bts cs) k p) w):=by
 have rc:=hr.cell
 have rl:=hr.lt
 clear hr
 by_cases hlt:p < S.size
 ·obtain ⟨x,hx⟩:=zx (needP (bts S) (bts cs) k p)
  rw [<- hx]
  obtain ⟨ix,hix⟩:=zx (Lib.indexByte (bts cs) S[p])
  have hcall:∀ W,Calls Tryz.prog 153 #[.string cs,.int .u8 (S[p].toNat:Int)] W fun e w' => e = .returned (.int .i64 ix) /\ W = w':=fun W => (Tryz.strings_IndexByte cs (S[p].toNat:Int) W).mono fun e w' ⟨h1,h2⟩ => ⟨by rw [h1,hix]; simp [bts],h2.symm⟩
  have hc:=Lib.contains_iff_indexByte (bts cs) S[p]
  rw [<- hix] at hc
  have HX:=zh hx; clear hx
  have HC:=zh hc; clear hc hix
  have HCALL:=zh hcall; clear hcall
  have hne:((p:Int) == (S.size:Int)) = false:=by simp; omega
  by_cases hi:ix < 0
  ·have HE:Hid (x = .err p k):=by
    unfold Hid
    rw [HX.out,needP,zp4 S p hlt]
    simp only
    rw [HC.out,if_neg (by simp; omega)]
   go_enter Tryz.func129,Tryz.ntmps129
   go_wp2_with fail
   go_quiet (fail)
   go_wp2_with fail
   go_quiet ((go_at_call 153; exact zhq (HCALL.out _)))
   go_wp2_with fail
   exact ⟨rfl,zb5.err HE.out (zg7 _ _)⟩
  ·have HE:Hid (x = .ok p S[p]):=by
    unfold Hid
    rw [HX.out,needP,zp4 S p hlt]
    simp only
    rw [HC.out,if_pos (by simp; omega)]
   go_enter Tryz.func129,Tryz.ntmps129
   go_wp2_with fail
   go_quiet (fail)
   go_wp2_with fail
   go_quiet ((go_at_call 153; exact zhq (HCALL.out _)))
   go_wp2_with fail
   go_quiet (fail)
   go_wp2_with fail
   go_returns
   exact zb5.ok HE.out ⟨rfl,rfl,rfl,zn,fun _ _ => rfl⟩
 ·have hpe:p = S.size:=by omega
  have HE:Hid (needP (bts S) (bts cs) k p = .err p 3):=by
   unfold Hid
   rw [needP,zr0 S p (by omega)]
  obtain ⟨x,hx⟩:=zx (needP (bts S) (bts cs) k p)
  rw [<- hx] at HE ⊢
  clear hx
  have hne:((p:Int) == (S.size:Int)) = true:=by simp; omega
  clear hpe
  go_enter Tryz.func129,Tryz.ntmps129
  go_wp2_with fail
  go_quiet (fail)
  go_wp2_with fail
  exact ⟨rfl,zb5.err HE.out (zg7 _ _)⟩
theorem zmm (s:List UInt8) (c:UInt8) (p:Nat):pastP s c p = (needP s [c] 2 p).bind fun q _ => .ok (q + 1) ():=by
 unfold pastP needP
 cases s[p]? with
 | none => rfl
 | some d =>
  simp only
  by_cases h:d = c
  ·subst h; simp [PR.bind]
  ·rw [if_neg h,if_neg (by simp [h])]; rfl
theorem za3 {s cs:List UInt8} {k:Int} {p q:Nat} {c:UInt8} (h:needP s cs k p = .ok q c):q = p /\ s[p]? = some c /\ cs.contains c = true:=by
 unfold needP at h
 cases hs:s[p]? with
 | none => rw [hs] at h; simp at h
 | some d =>
  rw [hs] at h
  simp only at h
  split at h
  ·rename_i hc
   simp only [PR.ok.injEq] at h
   obtain ⟨rfl,rfl⟩:=h
   exact ⟨rfl,rfl,hc⟩
  ·simp at h
def zas {α:Type} (val:α -> Value) (S:ByteArray) (g:Nat) (lv u:Value) (x:PR α) (w:World) (e:Ending) (w':World):Prop :=
 Keep (· = g) w w' /\ match x with
 | .ok q v => e = .returned (val v) /\ Row w' g 133 #[.string S,.int .i64 q,lv,u]
 | .err q k => e = .panicked (Pan q k)
theorem zas.err {α:Type} {val:α -> Value} {S:ByteArray} {g:Nat} {lv u:Value} {x:PR α} {w w':World} {q:Nat} {k:Int} (h:x = .err q k) (hk:Keep (· = g) w w'):zas val S g lv u x w (.panicked (Pan q k)) w':=by
 subst h; exact ⟨hk,rfl⟩
theorem zas.ok {α:Type} {val:α -> Value} {S:ByteArray} {g:Nat} {lv u:Value} {x:PR α} {w w':World} {q:Nat} {v:α} {e:Ending} (h:x = .ok q v) (he:e = .returned (val v)) (hk:Keep (· = g) w w') (hr:Row w' g 133 #[.string S,.int .i64 q,lv,u]):zas val S g lv u x w e w':=by
 subst h; exact ⟨hk,he,hr⟩
theorem zbq (S:ByteArray) (c:UInt8) (g p:Nat) (lv u:Value) (w:World) (hr:Row w g 133 #[.string S,.int .i64 p,lv,u]) (hp:p <= S.size) (hS:S.size <= 1000000) :
  Calls Tryz.prog 132 #[.pointer (some ⟨g,0,none⟩),.string { data:=#[c] }] w (zas (fun _ => .tuple #[]) S g lv u (pastP (bts S) c p) w):=by
 obtain ⟨x,hx⟩:=zx (pastP (bts S) c p)
 rw [<- hx]
 rw [zmm] at hx
 have HX:=zh hx; clear hx
 have HR:=zh hr; clear hr
 obtain ⟨y,hy⟩:=zx (needP (bts S) [c] 2 p)
 have HN:∀ W,Row W g 133 #[.string S,.int .i64 p,lv,u] -> Calls Tryz.prog 129 #[.pointer (some ⟨g,0,none⟩),.string { data:=#[c] },.int .i64 2] W (zb5 y W):=fun W h => by
  rw [hy]; exact za6 S { data:=#[c] } g p lv u 2 W h hp hS
 have HY:=zh hy; clear hy
 have HNN:=zh HN; clear HN
 have rc:=HR.out.cell
 have rf:=HR.out.free
 have rl:=HR.out.lt
 cases y with
 | err q k =>
  go_enter Tryz.func132,Tryz.ntmps132
  go_wp2_with (go_at_call 129; refine (HNN.out _ HR.out).mono ?_; rintro e w1 ⟨hb1,rfl⟩)
  exact ⟨rfl,zas.err (by rw [HX.out,<- HY.out]; rfl) (Keep.of_below hb1 zn)⟩
 | ok q d =>
  obtain ⟨hq,_,_⟩:=za3 HY.out.symm
  have HQ:=zh hq; clear hq
  go_enter Tryz.func132,Tryz.ntmps132
  go_wp2_with (go_at_call 129; refine (HNN.out _ HR.out).mono ?_; rintro e w1 ⟨hb1,rfl⟩; have HR1:=zh (HR.out.below hb1 rl); clear rc rf; have rc:=HR1.out.cell; have rf:=HR1.out.free)
  go_returns
  refine zas.ok (q:=p + 1) (v:=()) (by rw [HX.out,<- HY.out,HQ.out]; rfl) rfl (Keep.set (S:=(· = g)) (Keep.of_below hb1 zn) (p:=⟨g,1,none⟩) (.inl rfl) _) ?_
  have h:=HR1.out.set 1 (.int .i64 ((p:Int) + 1))
  exact h
theorem zcl (S:ByteArray) (g p:Nat) (lv u:Value) (w:World) (hr:Row w g 133 #[.string S,.int .i64 p,lv,u]) (hp:p <= S.size) (hS:S.size <= 1000000) :
  Calls Tryz.prog 131 #[.pointer (some ⟨g,0,none⟩)] w (zas (fun x => .int .i64 x) S g lv u (varP (bts S) p) w):=by
 obtain ⟨x,hx⟩:=zx (varP (bts S) p)
 rw [<- hx]
 unfold varP at hx
 obtain ⟨y,hy⟩:=zx (pastP (bts S) 32 p)
 rw [<- hy] at hx
 have HX:=zh hx; clear hx
 have HR:=zh hr; clear hr
 have hpast:=fun W h => zbq S 32 g p lv u W h hp hS
 rw [<- hy] at hpast
 have HP:=zh hpast; clear hpast
 have HY:=zh hy; clear hy
 cases y with
 | err q k =>
  go_enter Tryz.func131,Tryz.ntmps131
  go_wp2_with (go_at_call 132; refine (HP.out _ HR.out).mono ?_; rintro e w1 ⟨hk1,rfl⟩)
  exact ⟨rfl,zas.err (by rw [HX.out]; rfl) hk1⟩
 | ok q d =>
  obtain ⟨hq,hq1⟩:q = p + 1 /\ p + 1 <= S.size:=by
   have h:=zal (s:=bts S) 32 (p:=p) (by rw [zab]; exact hp)
   rw [<- HY.out,zab] at h
   exact ⟨h.1,by have:=h.1; have:=h.2.1; omega⟩
  subst hq
  obtain ⟨z,hz⟩:=zx (needP (bts S) [65,66,67,68,69,70] 7 (p + 1))
  have hneed:=fun W h => za6 S { data:=#[65,66,67,68,69,70] } g (p + 1) lv u 7 W h hq1 hS
  have e0:bts { data:=#[65,66,67,68,69,70] } = [65,66,67,68,69,70]:=rfl
  rw [e0,<- hz] at hneed
  clear e0
  have HNN:=zh hneed; clear hneed
  have HZ:=zh hz; clear hz
  cases z with
  | err q2 k =>
   have HE:Hid (x = .err q2 k):=by
    unfold Hid
    have hz:=HZ.out
    unfold needP at hz
    rw [HX.out,PR.bind_ok]
    cases hs:(bts S)[p + 1]? with
    | none =>
     rw [hs] at hz
     simp only [PR.err.injEq] at hz ⊢
     exact ⟨hz.1.symm,hz.2.symm⟩
    | some c =>
     rw [hs] at hz
     simp only at hz ⊢
     split at hz
     ·simp at hz
     ·rename_i hc
      rw [if_neg]
      ·simp only [PR.err.injEq] at hz ⊢
       exact ⟨hz.1.symm,hz.2.symm⟩
      ·intro h
       apply hc
       have:c = UInt8.ofNat c.toNat:=by simp
       rw [this]
       have h6:c.toNat = 65 \/ c.toNat = 66 \/ c.toNat = 67 \/ c.toNat = 68 \/ c.toNat = 69 \/ c.toNat = 70:=by omega
       rcases h6 with h | h | h | h | h | h <;> rw [h] <;> decide
   go_enter Tryz.func131,Tryz.ntmps131
   go_wp2_with (first
    | (go_at_call 132; refine (HP.out _ HR.out).mono ?_; rintro e w1 ⟨hk1,rfl,hr1⟩; have HR1:=zh hr1; clear hr1)
    | (go_at_call 129; refine (HNN.out _ HR1.out).mono ?_; rintro e w2 ⟨hb2,rfl⟩))
   exact ⟨rfl,zas.err HE.out (hk1.trans (Keep.of_below hb2 zn))⟩
  | ok q2 c =>
   obtain ⟨hq2,hs,hc⟩:=za3 HZ.out.symm
   have h6:65 <= c.toNat /\ c.toNat <= 70:=by
    simp only [List.contains_cons,List.contains_nil,Bool.or_false,Bool.or_eq_true,beq_iff_eq] at hc
    rcases hc with rfl | rfl | rfl | rfl | rfl | rfl <;> decide
   have HE:Hid (x = .ok (p + 1 + 1) ((c.toNat:Int) - 65)):=by
    unfold Hid
    rw [HX.out,PR.bind_ok,hs]
    simp only
    rw [if_pos h6]
   have HQ:=zh hq2; clear hq2 hs hc
   obtain ⟨h65,h70⟩:=h6
   go_enter Tryz.func131,Tryz.ntmps131
   go_wp2_with (first
    | (go_at_call 132; refine (HP.out _ HR.out).mono ?_; rintro e w1 ⟨hk1,rfl,hr1⟩; have HR1:=zh hr1; clear hr1)
    | (go_at_call 129; refine (HNN.out _ HR1.out).mono ?_; rintro e w2 ⟨hb2,rfl⟩; have HR2:=zh (HR1.out.below hb2 HR1.out.lt); have rc:=HR2.out.cell; have rf:=HR2.out.free; have rl:=HR2.out.lt))
   go_returns
   refine zas.ok HE.out ?_ (Keep.set (S:=(· = g)) (hk1.trans (Keep.of_below hb2 zn)) (p:=⟨g,1,none⟩) (.inl rfl) _) ?_
   ·rfl
   ·have h:=HR2.out.set 1 (.int .i64 (((p + 1:Nat):Int) + 1))
    exact h
def zan:ByteArray:={ data:=#[97,98,99,100,101,102,103,104,105,106,107,108,109,110,111,112,113,114,115,116,117,118,119,120,121,122] }
theorem zgj (c:UInt8):(bts zan).contains c = low c:=by
 have h:∀ n:Fin 256,(bts zan).contains (UInt8.ofFin n) = low (UInt8.ofFin n):=by decide +kernel
 have e:UInt8.ofFin c.toFin = c:=by simp
 rw [<- e]; exact h _
theorem zor (c:UInt8):(40 :: bts zan).contains c = (decide (c = 40) || low c):=by
 rw [List.contains_cons,zgj]
 congr 1
theorem zmo (s:List UInt8) (inside:Bool) (p:Nat):nameP s inside p = (needP s (bts zan) 2 p).bind fun p _ =>
  (match zdq ((s.drop p).takeWhile low) inside 15 1 with
  | some k => .ok (p + ((s.drop p).takeWhile low).length) (k:Int)
  | none => .err p 6:PR Int):=by
 unfold nameP needP
 cases s[p]? with
 | none => rfl
 | some c =>
  simp only [zgj]
  by_cases h:low c = true
  ·rw [if_pos h,if_pos h]; rfl
  ·rw [if_neg h,if_neg h]; rfl
theorem zqq (l:List UInt8):Lib.trimLeftS l (bts zan) = l.dropWhile low:=by
 unfold Lib.trimLeftS
 congr 1
 funext c
 exact zgj c
theorem zqs (l:List UInt8):l.take (l.length - (l.dropWhile low).length) = l.takeWhile low:=by
 have h:=List.takeWhile_append_dropWhile (p:=low) (l:=l)
 have e:l.length - (l.dropWhile low).length = (l.takeWhile low).length:=by
  have:=congrArg List.length h
  rw [List.length_append] at this
  omega
 rw [e]
 conv => lhs; rw [<- h]
 rw [List.take_left']
 rw [h]
theorem zhb (S:ByteArray) (a b:Nat):bts (S.extract a b) = ((bts S).drop a).take (b - a):=by
 show (S.extract a b).data.toList = _
 rw [ByteArray.data_extract,Array.toList_extract,List.extract_eq_take_drop]
 rfl
theorem zco (S:ByteArray) (inside:Bool) (g p:Nat) (lv u:Value) (w:World) (hr:Row w g 133 #[.string S,.int .i64 p,lv,u]) (hp:p <= S.size) (hS:S.size <= 1000000) :
  Calls Tryz.prog 130 #[.pointer (some ⟨g,0,none⟩),.bool inside] w (zas (fun k => .int .u8 k) S g lv u (nameP (bts S) inside p) w):=by
 obtain ⟨x,hx⟩:=zx (nameP (bts S) inside p)
 rw [<- hx]
 rw [zmo] at hx
 obtain ⟨y,hy⟩:=zx (needP (bts S) (bts zan) 2 p)
 rw [<- hy] at hx
 have hneed:=fun W h => za6 S zan g p lv u 2 W h hp hS
 rw [<- hy] at hneed
 unfold zan at hneed
 have HNN:=zh hneed; clear hneed
 have HY:=zh hy; clear hy
 have HX:=zh hx; clear hx
 have HR:=zh hr; clear hr
 cases y with
 | err q k =>
  go_enter Tryz.func130,Tryz.ntmps130
  go_wp2_with (go_at_call 129; refine (HNN.out _ HR.out).mono ?_; rintro e w1 ⟨hb1,rfl⟩)
  exact ⟨rfl,zas.err (by rw [HX.out]; rfl) (Keep.of_below hb1 zn)⟩
 | ok q c =>
  obtain ⟨hq,hs,_⟩:=za3 HY.out.symm
  subst hq
  have hx:=HX.out
  rw [PR.bind_ok] at hx
  clear HX
  obtain ⟨T,hT⟩:∃ T:ByteArray,T = ⟨(Lib.trimLeftS (bts (S.extract q S.size)) (bts zan)).toArray⟩:=⟨_,rfl⟩
  have htrim:∀ W,Calls Tryz.prog 154 #[.string (S.extract q S.size),.string zan] W fun e w' => e = .returned (.string T) /\ Below W.heap.size W w':=fun W => by
   rw [hT]
   exact Tryz.strings_TrimLeft_ascii _ zan W (by decide) (fun j b hb => by
    have h:∀ b ∈ bts zan,b.toNat < 128:=by decide
    exact h b (List.mem_of_getElem? hb))
  unfold zan at htrim
  have hqS:q < S.size:=by
   have:=(List.getElem?_eq_some_iff.1 hs).1
   rwa [zab] at this
  have hrest:bts (S.extract q S.size) = (bts S).drop q:=by
   rw [zhb,List.take_of_length_le]
   rw [List.length_drop,zab]; exact zn
  rw [hrest,zqq] at hT
  have hTs:T.size = (((bts S).drop q).dropWhile low).length:=by rw [hT]; show (List.toArray _).size = _; simp
  have hTle:T.size <= S.size - q:=by
   have h:=congrArg List.length (List.takeWhile_append_dropWhile (p:=low) (l:=(bts S).drop q))
   rw [List.length_append,List.length_drop,zab] at h
   omega
  have hword:bts ((S.extract q S.size).extract 0 (S.size - q - T.size)) = ((bts S).drop q).takeWhile low:=by
   rw [zhb,hrest,List.drop_zero,Nat.sub_zero,<- zqs,hTs,List.length_drop,zab]
  have hwdl:(((bts S).drop q).takeWhile low).length <= S.size - q:=by
   have h:=congrArg List.length (List.takeWhile_append_dropWhile (p:=low) (l:=(bts S).drop q))
   rw [List.length_append,List.length_drop,zab] at h
   omega
  have HWDL:=zh hwdl; clear hwdl
  have HW:=zh hword; clear hword hTs hrest hs
  clear hT
  have HTR:=zh htrim; clear htrim
  go_enter Tryz.func130,Tryz.ntmps130
  go_wp2_with (go_at_call 129; refine (HNN.out _ HR.out).mono ?_; rintro e w1 ⟨hb1,rfl⟩; have HR1:=zh (HR.out.below hb1 HR.out.lt); have rc:=HR1.out.cell; have rf:=HR1.out.free; have rl:=HR1.out.lt)
  go_quiet (fail)
  go_wp2_with (go_at_call 154; refine (HTR.out _).mono ?_; rintro e w2 ⟨rfl,hb2⟩)
  generalize (S.extract q S.size).extract 0 (S.size - q - T.size) = word at *
  generalize hwd:((bts S).drop q).takeWhile low = wd at *
  have HX:=zh hx; clear hx
  have HB2:Hid (Below w.heap.size w w2):=hb1.trans (Below.mono (w:=w1) ⟨hb2.os,hb2.tape,hb2.output,hb2.size,hb2.block⟩ hb1.size)
  clear hb1 hb2 rc rf rl hwd hTle
  go_loopg [7] 15 (fun gk op wr => ∃ k:Nat,1 <= k /\ k <= 16 /\ gk = 16 - k /\ op = .int .u8 k /\ Below w.heap.size w wr /\ zdq wd inside 15 1 = zdq wd inside (16 - k) k)
  case atStart => exact ⟨1,by omega,by omega,by omega,rfl,HB2.out,rfl⟩
  case round =>
   obtain ⟨k,hk1,hk,rfl,rfl,hb,heq⟩:=hrel
   have HB:=zh hb; clear hb
   have HE:=zh heq; clear heq
   have HRr:=zh (HR.out.below HB.out HR.out.lt)
   have rc:=HRr.out.cell; have rf:=HRr.out.free; have rl:=HRr.out.lt
   by_cases hlt:k < 16
   ·have hstep:zdq wd inside (16 - k) k = if nm (k:Int) = wd /\ decide (k ≠ 1) = inside then some k else zdq wd inside (16 - (k + 1)) (k + 1):=by
     rw [show 16 - k = (16 - (k + 1)) + 1 by omega,zdq]
    have HS:=zh hstep; clear hstep
    have hfd:=zg2
    have hwl:word.toList = wd:=by rw [Lib.toList_data]; exact HW.out
    have hws:word.size = wd.length:=by rw [<- HW.out,zab]
    have hwb:word.size <= 1000000:=by have:=HWDL.out; omega
    have HWL:=zh hwl; have HWS:=zh hws; clear hwl hws
    go_wp2_with (first
     | (go_at_call 88; go_must (refine (zaj (k:Int) _ (by omega) (by omega)).mono ?_; rintro e w3 ⟨rfl,hb3⟩; have HB3:=zh hb3; clear hb3; clear rc rf rl; have HR3:=zh (HRr.out.below HB3.out HRr.out.lt); have rc:=HR3.out.cell; have rf:=HR3.out.free; have rl:=HR3.out.lt)))
    ·have h1:nm (k:Int) = word.toList:=by assumption
     have h2:(((k:Int) != 1) == inside) = true:=by assumption
     rw [HWL.out] at h1
     have h3:decide (k ≠ 1) = inside:=by
      have:=eq_of_beq h2
      rw [<- this,Bool.eq_iff_iff]
      simp; omega
     go_returns
     refine zas.ok (q:=q + wd.length) (v:=(k:Int)) ?_ rfl (Keep.set (S:=(· = g)) ((Keep.of_below HB.out zn).trans (Keep.of_below HB3.out zn)) (p:=⟨g,1,none⟩) (.inl rfl) _) ?_
     ·rw [HX.out,HE.out,HS.out,if_pos ⟨h1,h3⟩]
     ·have h:=HR3.out.set 1 (.int .i64 ((q:Int) + (word.size:Int)))
      rw [<- HWS.out,Int.natCast_add]
      exact h
    ·have h2:(((k:Int) != 1) == inside) = false:=by assumption
     go_roundg (16 - (k + 1))
     case rel =>
      have h3:¬ decide (k ≠ 1) = inside:=by
       intro h
       have:=beq_eq_false_iff_ne.1 h2
       apply this
       rw [<- h,Bool.eq_iff_iff]
       simp; omega
      exact ⟨k + 1,by omega,by omega,rfl,by go_num,HB.out.trans (HB3.out.mono HB.out.size),by rw [HE.out,HS.out,if_neg fun h => h3 h.2]⟩
     case measure => omega
    ·have h1:¬ nm (k:Int) = word.toList:=by assumption
     rw [HWL.out] at h1
     go_roundg (16 - (k + 1))
     case rel => exact ⟨k + 1,by omega,by omega,rfl,by go_num,HB.out.trans (HB3.out.mono HB.out.size),by rw [HE.out,HS.out,if_neg fun h => h1 h.1]⟩
     case measure => omega
   ·have hk16:k = 16:=by omega
    subst hk16
    go_wp2
    exact ⟨rfl,zas.err (by rw [HX.out,HE.out]; rfl) (Keep.of_below HB.out zn)⟩
theorem MO.keep {S:Nat -> Prop} {w w':World} {B:Nat} {v:Value} {f:List Mk} (h:MO w B v f) (hk:Keep S w w') (hs:∀ b,v.ownBlock = some b -> ¬ S b):MO w' B v f:=by
 obtain ⟨h0,h1,h2⟩:=h
 refine ⟨h0,h1,?_⟩
 rcases h2 with h2 | ⟨g,cap,cur,hv,hB,hg,r⟩
 ·exact .inl h2
 ·exact .inr ⟨g,cap,cur,hv,hB,(hk.block g (lt_of_block hg) (hs g (by rw [hv]; rfl))).trans hg,r⟩
theorem MO.own_lt {w:World} {B:Nat} {v:Value} {f:List Mk} (h:MO w B v f):∀ b,v.ownBlock = some b -> B <= b /\ b < w.heap.size:=World.ownsRow.lt h.2
theorem MO.apart {w:World} {B g:Nat} {v:Value} {f:List Mk} {t:TypeId} {cs:Array Value} (h:MO w B v f) (hr:Row w g t cs) (ht:t ≠ 26):∀ b,v.ownBlock = some b -> b ≠ g:=by
 intro b hb hbg
 subst hbg
 rcases h.2.2 with ⟨hv,_⟩ | ⟨g',cap,cur,hv,hB,hg,_⟩
 ·rw [hv] at hb; simp [Value.ownBlock] at hb
 ·rw [hv] at hb
  simp only [Value.ownBlock,Option.some.injEq] at hb
  subst hb
  unfold Row at hr
  rw [hr] at hg
  simp only [Option.some.injEq,Obj.cells.injEq] at hg
  exact ht hg.2.1
theorem MO.form {w:World} {B:Nat} {v:Value} {f:List Mk} (h:MO w B v f):∃ A c,v = .slice A f.length c:=by
 obtain ⟨_,A,c,hv,_⟩:=h.ms
 exact ⟨A,c,hv⟩
structure FI (S:ByteArray) (w0:World) (B g X O:Nat) (lv0:Value) (p many:Nat) (lv:Value) (l:List Mk) (xm om:Array Value) (W:World):Prop where
 r:Row W g 133 #[.string S,.int .i64 p,lv,.int .i64 many]
 x:Row W X 26 xm
 o:Row W O 136 om
 own:MO W B lv l
 k:Keep (fun b => b = g \/ lv0.ownBlock = some b) w0 W
 d:X ≠ g /\ O ≠ g /\ O ≠ X /\ w0.heap.size <= X /\ w0.heap.size <= O
 lo:∀ b,lv.ownBlock = some b -> b ≠ g /\ b ≠ X /\ b ≠ O /\ (lv0.ownBlock = some b \/ w0.heap.size <= b)
theorem FI.set {S:ByteArray} {w0:World} {B g X O:Nat} {lv0:Value} {p many:Nat} {lv:Value} {l:List Mk} {xm om:Array Value} {W:World} (h:FI S w0 B g X O lv0 p many lv l xm om W) (i:Nat) (v:Value) :
  FI S w0 B g X O lv0 p many lv l (xm.setIfInBounds i v) om (W.setCell ⟨X,i,none⟩ v) :=
 ⟨h.r.far h.d.1.symm _,h.x.set i v,h.o.far h.d.2.2.1 _,h.own.far (fun e => (h.lo X e).2.1 rfl) _,h.k.set (.inr h.d.2.2.2.1) _,h.d,h.lo⟩
theorem FI.step {S:ByteArray} {w0:World} {B g X O:Nat} {lv0:Value} {p q many:Nat} {lv:Value} {l:List Mk} {xm om:Array Value} {W W':World} (h:FI S w0 B g X O lv0 p many lv l xm om W) (hk:Keep (· = g) W W')
  (hr:Row W' g 133 #[.string S,.int .i64 q,lv,.int .i64 many]):FI S w0 B g X O lv0 q many lv l xm om W' :=
 ⟨hr,hk.row h.x h.d.1,hk.row h.o h.d.2.1,h.own.keep hk fun b hb => (h.lo b hb).1,⟨hk.os.trans h.k.os,hk.tape.trans h.k.tape,hk.output.trans h.k.output,Nat.le_trans h.k.size hk.size,fun i hi hs => (hk.block i (Nat.lt_of_lt_of_le hi h.k.size) fun e => hs (.inl e)).trans (h.k.block i hi hs)⟩,h.d,h.lo⟩
theorem FI.child {S:ByteArray} {w0:World} {B g X O:Nat} {lv0:Value} {p q many many':Nat} {lv lv':Value} {l l':List Mk} {xm om:Array Value} {W W':World} (h:FI S w0 B g X O lv0 p many lv l xm om W) (hk:Keep (fun b => b = g \/ lv.ownBlock = some b) W W')
  (hr:Row W' g 133 #[.string S,.int .i64 q,lv',.int .i64 many']) (ho:MO W' B lv' l') (hl:∀ b,lv'.ownBlock = some b -> lv.ownBlock = some b \/ W.heap.size <= b):FI S w0 B g X O lv0 q many' lv' l' xm om W':=by
 have hx:¬ (X = g \/ lv.ownBlock = some X):=fun e => e.elim h.d.1 fun e => (h.lo X e).2.1 rfl
 have hoo:¬ (O = g \/ lv.ownBlock = some O):=fun e => e.elim h.d.2.1 fun e => (h.lo O e).2.2.1 rfl
 refine ⟨hr,hk.row h.x hx,hk.row h.o hoo,ho,⟨hk.os.trans h.k.os,hk.tape.trans h.k.tape,hk.output.trans h.k.output,Nat.le_trans h.k.size hk.size,fun i hi hs => ?_⟩,h.d,fun b hb => ?_⟩
 ·refine (hk.block i (Nat.lt_of_lt_of_le hi h.k.size) fun e => ?_).trans (h.k.block i hi hs)
  rcases e with e | e
  ·exact hs (.inl e)
  ·rcases (h.lo i e).2.2.2 with e2 | e2
   ·exact hs (.inr e2)
   ·omega
 ·rcases hl b hb with e | e
  ·exact h.lo b e
  ·have a1:=h.r.lt
   have a2:=h.x.lt
   have a3:=h.o.lt
   have a4:=h.k.size
   exact ⟨by omega,by omega,by omega,.inr (by omega)⟩
def zag (S:ByteArray) (B g:Nat) (lv:Value) (l:List Mk) (x:PR (Nat × Tr)) (w:World) (e:Ending) (w':World):Prop :=
 match x with
 | .ok q a => ∃ lv',e = .returned (.int .i64 ((l.length:Int) + a.2.size - 1)) /\ Keep (fun b => b = g \/ lv.ownBlock = some b) w w' /\ Row w' g 133 #[.string S,.int .i64 q,lv',.int .i64 a.1] /\
   MO w' B lv' (l ++ a.2.enc l.length) /\ (∀ b,lv'.ownBlock = some b -> lv.ownBlock = some b \/ w.heap.size <= b)
 | .err q k => e = .panicked (Pan q k) /\ Below B w w'
theorem zag.err {S:ByteArray} {B g:Nat} {lv:Value} {l:List Mk} {x:PR (Nat × Tr)} {w w':World} {q:Nat} {k:Int} (h:x = .err q k) (hb:Below B w w'):zag S B g lv l x w (.panicked (Pan q k)) w':=by subst h; exact ⟨rfl,hb⟩
theorem zag.ok {S:ByteArray} {B g:Nat} {lv lv':Value} {l:List Mk} {x:PR (Nat × Tr)} {w w':World} {q:Nat} {a:Nat × Tr} {e:Ending} (h:x = .ok q a) (he:e = .returned (.int .i64 ((l.length:Int) + a.2.size - 1))) (hk:Keep (fun b => b = g \/ lv.ownBlock = some b) w w')
  (hr:Row w' g 133 #[.string S,.int .i64 q,lv',.int .i64 a.1]) (ho:MO w' B lv' (l ++ a.2.enc l.length)) (hl:∀ b,lv'.ownBlock = some b -> lv.ownBlock = some b \/ w.heap.size <= b):zag S B g lv l x w e w':=by
 subst h; exact ⟨lv',he,hk,hr,ho,hl⟩
abbrev zei (S:ByteArray) (B g n:Nat):Prop:=∀ (p many:Nat) (l:List Mk) (lv:Value) (W:World),Row W g 133 #[.string S,.int .i64 p,lv,.int .i64 many] -> MO W B lv l -> p <= S.size -> many <= 64 -> 65 <= n + many -> l.length <= many ->
 Calls Tryz.prog 86 #[.pointer (some ⟨g,0,none⟩)] W (zag S B g lv l (form (bts S) n p many) W)
theorem za8 (s:List UInt8) (n p many:Nat):form s (n + 1) p many = (needP s (40 :: bts zan) 2 p).bind fun p c =>
  if many = 64 then .err p 4
  else (nameP s (c = 40) (if c = 40 then p + 1 else p)).bind fun p op =>
   (zht (decide (0 < nv op)) s p).bind fun p x =>
   (zht (decide (1 < nv op)) s p).bind fun p y =>
   if nc op = 0 then zea (c = 40) s p (many + 1,.leaf op x y)
   else (pastP s 32 p).bind fun p _ => (form s n p (many + 1)).bind fun p a =>
    if nc op = 1 then zea (c = 40) s p (a.1,.un op x a.2)
    else (pastP s 32 p).bind fun p _ => (form s n p a.1).bind fun p b => zea (c = 40) s p (b.1,.bin op a.2 b.2):=by
 rw [form]
 unfold needP
 cases s[p]? with
 | none => rfl
 | some c =>
  simp only [zor]
  by_cases h:c = 40 \/ low c = true
  ·have h2:(decide (c = 40) || low c) = true:=by simpa using h
   rw [if_pos h]
   simp only [h2,if_true,PR.bind_ok]
  ·have h2:(decide (c = 40) || low c) = false:=by
    rw [Bool.eq_false_iff]
    intro h3
    exact h (by simpa using h3)
   rw [if_neg h]
   simp only [h2,Bool.false_eq_true,if_false,PR.bind_err]
theorem FI.below {S:ByteArray} {w0:World} {B g X O:Nat} {lv0:Value} {p many:Nat} {lv:Value} {l:List Mk} {xm om:Array Value} {W W':World} (h:FI S w0 B g X O lv0 p many lv l xm om W) (hB:B <= g) (hl:∀ b,lv0.ownBlock = some b -> B <= b) (hs:B <= w0.heap.size) (hk:Below B W W'):Below B w0 W' :=
 (h.k.below hs fun k hk e => by
  rcases e with e | e
  ·omega
  ·have:=hl k e; omega).trans hk
theorem Keep.below_le {S:Nat -> Prop} {a b:World} (h:Keep S a b) {B:Nat} (hB:B <= a.heap.size) (hS:∀ k,S k -> B <= k):Below B a b:=h.below hB fun k hk hs => by have:=hS k hs; omega
theorem zas.split {α:Type} {val:α -> Value} {S:ByteArray} {g:Nat} {lv u:Value} {x:PR α} {w w':World} {e:Ending} (h:zas val S g lv u x w e w') :
  (∃ q v,x = .ok q v /\ e = .returned (val v) /\ Keep (· = g) w w' /\ Row w' g 133 #[.string S,.int .i64 q,lv,u]) \/ ∃ q k,x = .err q k /\ e = .panicked (Pan q k) /\ Keep (· = g) w w':=by
 obtain ⟨h1,h2⟩:=h
 cases x with
 | ok q v => exact .inl ⟨q,v,rfl,h2.1,h1,h2.2⟩
 | err q k => exact .inr ⟨q,k,rfl,h2,h1⟩
theorem zag.split {S:ByteArray} {B g:Nat} {lv:Value} {l:List Mk} {x:PR (Nat × Tr)} {w w':World} {e:Ending} (h:zag S B g lv l x w e w') :
  (∃ q a lv',x = .ok q a /\ e = .returned (.int .i64 ((l.length:Int) + a.2.size - 1)) /\ Keep (fun b => b = g \/ lv.ownBlock = some b) w w' /\ Row w' g 133 #[.string S,.int .i64 q,lv',.int .i64 a.1] /\
   MO w' B lv' (l ++ a.2.enc l.length) /\ (∀ b,lv'.ownBlock = some b -> lv.ownBlock = some b \/ w.heap.size <= b)) \/ ∃ q k,x = .err q k /\ e = .panicked (Pan q k) /\ Below B w w':=by
 cases x with
 | ok q a => obtain ⟨lv',h⟩:=h; exact .inl ⟨q,a,lv',rfl,h⟩
 | err q k => exact .inr ⟨q,k,rfl,h.1,h.2⟩
theorem zau {ops:Array Oper} {o:Oper} {a:Act} {w:World} {K:Act -> World -> Prop} {Q:Exit -> Act -> World -> Prop} {E:Prop} (hgd:o.guard = none) (s x:Operand)
  (ho:o.op = .call { callee:=.builtin .append,args:=#[s,x],argTypes:=#[23,23] })
  (B:Nat) (v:Value) (f:List Mk) (hs:a.eval s = v) (hown:MO w B v f) (y:Value) (g:List Mk) (hx:a.eval x = y) (hy:MS w y g) (hl:f.length + g.length <= 1000000) (hB:B <= w.heap.size) (n:Nat) (hn:n = f.length + g.length)
  (h:∀ A c w',MO w' B (.slice A n c) (f ++ g) -> w.grownBy w' v.ownBlock -> ((Value.slice A n c).ownBlock = v.ownBlock \/ (Value.slice A n c).ownBlock = some w.heap.size) -> K (a.put o.dst (.slice A n c)) w') :
  if Region.wanted o (yielded ops a.tmps) = true then Oper.wp Tryz.prog o a w K Q else E :=
 zd8 hgd s x ho B v f hs hown y g hx hy hl hB fun v' w' h1 h2 h3 => by
  obtain ⟨A,c,hv⟩:=h1.form
  rw [List.length_append,<- hn] at hv
  subst hv
  exact h A c w' h1 h2 h3
theorem FI.mid {S:ByteArray} {w0:World} {B g X O:Nat} {lv0:Value} {p many:Nat} {lv:Value} {l:List Mk} {xm om:Array Value} {W W' w6:World} (h:FI S w0 B g X O lv0 p many lv l xm om W) (hb:Below W.heap.size W W') (hg:W'.grownBy w6 lv.ownBlock) :
  Row w6 g 133 #[.string S,.int .i64 p,lv,.int .i64 many]:=(h.r.below hb h.r.lt).grown hg fun e => (h.lo g e.symm).1 rfl
theorem FI.finish {S:ByteArray} {w0:World} {B g X O:Nat} {lv0:Value} {p many:Nat} {lv v6:Value} {l l':List Mk} {xm om:Array Value} {W W' w6:World} (h:FI S w0 B g X O lv0 p many lv l xm om W) (hb:Below W.heap.size W W') (hg:W'.grownBy w6 lv.ownBlock)
  (ho:MO w6 B v6 l') (ht:v6.ownBlock = lv.ownBlock \/ v6.ownBlock = some W'.heap.size) :
  Keep (fun b => b = g \/ lv0.ownBlock = some b) w0 (w6.setCell ⟨g,2,none⟩ v6) /\ Row (w6.setCell ⟨g,2,none⟩ v6) g 133 #[.string S,.int .i64 p,v6,.int .i64 many] /\ MO (w6.setCell ⟨g,2,none⟩ v6) B v6 l' /\ (∀ b,v6.ownBlock = some b -> lv0.ownBlock = some b \/ w0.heap.size <= b):=by
 have hks:=h.k.size
 have hbs:=hb.size
 have hgl:=h.r.lt
 have hv:∀ b,v6.ownBlock = some b -> lv.ownBlock = some b \/ W'.heap.size <= b:=fun b e => by
  rcases ht with t | t
  ·exact .inl (t.symm.trans e)
  ·rw [t] at e; injection e with e; exact .inr (by omega)
 have hgs:=hg.size
 refine ⟨?_,(h.mid hb hg).set 2 v6,ho.far (fun e => ?_) _,fun b e => ?_⟩
 ·refine Keep.set ?_ (.inl (.inl rfl)) _
  refine ⟨hg.os.trans (hb.os.trans h.k.os),hg.tape.trans (hb.tape.trans h.k.tape),hg.output.trans (hb.output.trans h.k.output),by omega,fun i hi hs => ?_⟩
  refine (hg.block i (by omega) fun e => ?_).trans ((hb.block i (by omega)).trans (h.k.block i hi hs))
  rcases (h.lo i e.symm).2.2.2 with e2 | e2
  ·exact hs (.inr e2)
  ·omega
 ·rcases hv g e with e2 | e2
  ·exact (h.lo g e2).1 rfl
  ·omega
 ·rcases hv b e with e2 | e2
  ·exact (h.lo b e2).2.2.2
  ·exact .inr (by omega)
end Go.Proofs.YthdabkmkgkkmcaaGreatDoor

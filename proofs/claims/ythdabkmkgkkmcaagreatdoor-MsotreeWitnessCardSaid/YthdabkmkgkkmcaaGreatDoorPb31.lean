/- Part 31 of the proof; it says: lemmas and contracts. No conditions but those that each theorem states. -/
import Derived.BigRegion
import Derived.Test.YthdabkmkgkkmcaaGreatDoorPb01
import Derived.Test.YthdabkmkgkkmcaaGreatDoorPb11
import Derived.Test.YthdabkmkgkkmcaaGreatDoorPb30
set_option linter.unusedSimpArgs false
set_option linter.unusedVariables false
set_option maxRecDepth 100000
set_option maxHeartbeats 32000000
namespace Go.Proofs.YthdabkmkgkkmcaaGreatDoor
open Go.RowKit
structure PopF (B gc:Nat) (w w':World):Prop where
 below:Below B w w'
 rows:∀ g E cs,g ≠ gc -> Row w g E cs -> Row w' g E cs
 tdo:∀ v r B',TDO w B' v r -> TDO w' B' v r
theorem PopF.cpf {B gc:Nat} {w w':World} (h:PopF B gc w w'):CpF B gc w w':=⟨h.below,fun g E cs _ hg r => h.rows g E cs hg r⟩
theorem PopF.of {B gc:Nat} {w w':World} (h:Below w.heap.size w w') (hB:B <= w.heap.size):PopF B gc w w':=⟨h.mono hB,fun _ _ _ _ r => r.below h r.lt,fun _ _ _ t => t.below h zn⟩
theorem pop_no (B gc:Nat) (V M e0:Int) (h0:(e0 == 0) = false) (A:Option Addr) (n c:Nat) (rs:List Raw) (w:World) (hc:CpI B gc V M (.slice A n c) e0 rs w) :
  Calls Tryz.prog 31 #[.pointer (some ⟨gc,0,none⟩)] w fun q w' => (∃ i j A1 n1 c1 A2 n2 c2,q = .returned (.agg #[.int .i64 i,.int .i64 j,.slice A1 n1 c1,.slice A2 n2 c2])) /\ Below w.heap.size w w':=by
 have y0:=hc.row.cell; have y2:=hc.row.lt
 have HC:=zh hc
 clear hc
 go_enter Tryz.func31,Tryz.ntmps31
 go_wp2
 all_goals
  go_returns
  exact ⟨⟨_,_,_,_,_,_,_,_,rfl⟩,by go_grown⟩
theorem pop_ok (B gc:Nat) (V M:Int) (A:Option Addr) (n c:Nat) (rs:List Raw) (r:Raw) (w:World) (hc:CpI B gc V M (.slice A n c) 0 (rs ++ [r]) w) (hlen:rs.length <= 1000) :
  Calls Tryz.prog 31 #[.pointer (some ⟨gc,0,none⟩)] w fun q w' => (∃ i j A1 n1 c1 A2 n2 c2,q = .returned (.agg #[.int .i64 i,.int .i64 j,.slice A1 n1 c1,.slice A2 n2 c2]) /\ TDO w' B (.agg #[.int .i64 i,.int .i64 j,.slice A1 n1 c1,.slice A2 n2 c2]) r) /\ PopF B gc w w' /\ ∃ A' n' c',CpI B gc V M (.slice A' n' c') 0 rs w':=by
 have y0:=hc.row.cell; have y1:=hc.row.free; have y2:=hc.row.lt
 have HC:=zh hc
 obtain ⟨ls,k1,k2,k3⟩:=hc.stk
 have hn:ls.length = rs.length + 1:=by rw [k2]; simp
 have K1:=zh k1
 obtain ⟨g,cap,cs,e,hBg,hrow,hlc,hcm,hat⟩:=k1.row (by omega)
 simp only [Value.slice.injEq] at e
 obtain ⟨rfl,rfl,rfl⟩:=e
 obtain ⟨l,hl⟩:∃ l,ls[rs.length]? = some l:=⟨_,List.getElem?_eq_getElem (by omega)⟩
 obtain ⟨r',hr',ht⟩:=k3 _ l hl
 have er:r' = r:=by simpa using hr'.symm
 subst er
 have hl4:=(k1.1 l (List.mem_of_getElem? hl)).1
 obtain ⟨x0,x1,x2,x3,rfl⟩:∃ x0 x1 x2 x3,l = [x0,x1,x2,x3]:=by
  match l,hl4 with
  | [a,b,c,d],_ => exact ⟨a,b,c,d,rfl⟩
 have c0:=hat _ _ hl 0 (by omega)
 have c1:=hat _ _ hl 1 (by omega)
 have c2:=hat _ _ hl 2 (by omega)
 have c3:=hat _ _ hl 3 (by omega)
 simp at c0 c1 c2 c3
 obtain ⟨A1,d1,A2,d2,ex⟩:=ht.form
 simp at ex
 obtain ⟨rfl,rfl,rfl,rfl⟩:=ex
 obtain ⟨k,hk⟩:=zx rs.length
 rw [hn] at y0 HC hlc K1
 rw [<- hk] at y0 c0 c1 c2 c3 HC hlc hlen K1
 have HT:=zh ht
 have hgl:=hrow.lt
 have hgne:g ≠ gc:=fun e => by subst e; have:=hrow.ne hc.row (by decide); exact this rfl
 have HK:=zh hk; have HN:=zh hn; have HR:=zh hrow
 clear hc k1 k2 k3 hat hl hr' hl4 ht hk hn hrow
 go_enter Tryz.func31,Tryz.ntmps31
 go_upto_region 3 with fail
 go_big_region
 go_wp2
 go_returns
 obtain ⟨W1,hW1⟩:=zx (w.setCell ⟨gc,2,none⟩ (.slice (some ⟨g,0,none⟩) k c))
 have hsz:W1.heap.size = w.heap.size:=by rw [hW1]; simp
 have ha:Row W1 gc 67 #[.int .i64 V,.int .i64 M,.slice (some ⟨g,0,none⟩) k c,.int .i64 0]:=by rw [hW1]; exact HC.out.row.set 2 (.slice (some ⟨g,0,none⟩) k c)
 have ht:∀ v r B',TDO w B' v r -> TDO W1 B' v r:=fun v r B' t => by rw [hW1]; exact t.setTy HC.out.row (by decide) (by decide) (by decide) (by decide) 2 _
 have hr:∀ g E cs,g ≠ gc -> Row w g E cs -> Row W1 g E cs:=fun g E cs hg h => by rw [hW1]; exact h.far (p:=⟨gc,2,none⟩) hg _
 have hs:StkR W1 B (.slice (some ⟨g,0,none⟩) k c) rs:=by
  have q:=(HC.out.stk.pop (m:=k) (by omega)).setTy HC.out.row (by decide) (by decide) (by decide) (by decide) (by decide) 2 (.slice (some ⟨g,0,none⟩) k c)
  rw [HK.out,List.take_left,<- HK.out] at q
  rw [hW1]; exact q
 have hB1:Below B w W1:=by rw [hW1]; exact (Below.refl B w).setCell (p:=⟨gc,2,none⟩) HC.out.gB _
 have hle:=HC.out.le
 rw [<- hW1]
 have hb:Below W1.heap.size W1 (W1.alloc (.cells #[.int .i64 r'.vars,.int .i64 r'.empty,.slice A1 r'.next.length d1,.slice A2 r'.fin.length d2] 30)).drew:=by go_grown
 exact ⟨⟨_,_,_,_,_,_,_,_,rfl,(ht _ _ _ HT.out).below hb zn⟩,⟨hB1.trans (hb.mono (by omega)),fun g E cs hg h => (hr g E cs hg h).below hb (hr g E cs hg h).lt,fun v r B' t => (ht v r B' t).below hb zn⟩,_,_,_,ha.below hb ha.lt,hs.below hb,by have:=hb.size; omega,HC.out.gB⟩
theorem CpI.below {B gc:Nat} {V M e:Int} {stk:Value} {rs:List Raw} {w w':World} (h:CpI B gc V M stk e rs w) (hb:Below w.heap.size w w'):CpI B gc V M stk e rs w' :=
 ⟨h.row.below hb h.row.lt,h.stk.below hb,Nat.le_trans h.le hb.size,h.gB⟩
def CpT (B gc:Nat) (v0 m0:Int) (V:Nat) (S:Option (List Dta)) (W:World):Prop:=∃ A n c,match S with
 | some s => CpI B gc v0 m0 (.slice A n c) 0 ((s.map (·.raw V)).reverse) W
 | none => ∃ rs,CpI B gc v0 m0 (.slice A n c) 10 rs W
theorem CpT.below {B gc V:Nat} {v0 m0:Int} {S:Option (List Dta)} {w w':World} (h:CpT B gc v0 m0 V S w) (hb:Below w.heap.size w w'):CpT B gc v0 m0 V S w':=by
 obtain ⟨A,n,c,h⟩:=h
 cases S with
 | none => obtain ⟨rs,h⟩:=h; exact ⟨A,n,c,rs,h.below hb⟩
 | some s => exact ⟨A,n,c,CpI.below h hb⟩
theorem CpT.le {B gc V:Nat} {v0 m0:Int} {S:Option (List Dta)} {w:World} (h:CpT B gc v0 m0 V S w):B <= w.heap.size:=by
 obtain ⟨A,n,c,h⟩:=h
 cases S with
 | none => obtain ⟨rs,h⟩:=h; exact h.le
 | some s => exact CpI.le h
theorem CpT.row {B gc V:Nat} {v0 m0:Int} {S:Option (List Dta)} {w:World} (h:CpT B gc v0 m0 V S w):∃ stk,Row w gc 67 #[.int .i64 v0,.int .i64 m0,stk,.int .i64 (if S.isSome then 0 else 10)]:=by
 obtain ⟨A,n,c,h⟩:=h
 cases S with
 | none => obtain ⟨rs,h⟩:=h; exact ⟨_,h.row⟩
 | some s => exact ⟨_,CpI.row h⟩
theorem zdf (B gc V:Nat) (v0 m0:Int) (S:Option (List Dta)) (hS:∀ s,S = some s -> s.length <= 900) (w:World) (hc:CpT B gc v0 m0 V S w) (R:Option Dta) (i j:Int) (A1 A2:Option Addr) (n1 c1 n2 c2:Nat) (hr:TDO w B (.agg #[.int .i64 i,.int .i64 j,.slice A1 n1 c1,.slice A2 n2 c2]) (Res V R).1) (e:Int) (he:e = ((Res V R).2:Int)) :
  Calls Tryz.prog 71 #[.pointer (some ⟨gc,0,none⟩),.agg #[.int .i64 i,.int .i64 j,.slice A1 n1 c1,.slice A2 n2 c2],.int .i64 e] w fun q w' => q = .returned (.tuple #[]) /\ CpF B gc w w' /\ CpT B gc v0 m0 V (S.bind fun s => R.map (· :: s)) w':=by
 subst he
 cases S with
 | none =>
  obtain ⟨A,n,c,rs,hI⟩:=hc
  refine (keep_no B gc v0 m0 10 rfl A n c rs w hI _ _ _ _ _).mono ?_
  rintro q w' ⟨rfl,hb⟩
  exact ⟨rfl,CpF.of hb hI.le,A,n,c,rs,hI.below hb⟩
 | some s =>
  obtain ⟨A,n,c,hI⟩:=hc
  have hI':CpI B gc v0 m0 (.slice A n c) 0 ((s.map (·.raw V)).reverse) w:=hI
  obtain ⟨vn,vf,ex,_⟩:=id hr
  simp at ex
  obtain ⟨rfl,rfl,_,_⟩:=ex
  refine (keep_ok B gc v0 m0 A n c _ (by have:=hS s rfl; simp; omega) w hI' (Res V R).1 A1 A2 n1 c1 n2 c2 hr _).mono ?_
  rintro q w' ⟨rfl,hf,A',n',c',h⟩
  refine ⟨rfl,hf,A',n',c',?_⟩
  cases R with
  | none => exact ⟨_,h⟩
  | some d =>
   show CpI B gc v0 m0 (.slice A' n' c') 0 (((d :: s).map (·.raw V)).reverse) w'
   rw [List.map_cons,List.reverse_cons]
   exact h
theorem zcr (B gc V:Nat) (v0 m0:Int) (S:Option (List Dta)) (hS:∀ s,S = some s -> 1 <= s.length /\ s.length <= 900) (w:World) (hc:CpT B gc v0 m0 V S w) :
  Calls Tryz.prog 31 #[.pointer (some ⟨gc,0,none⟩)] w fun q w' => ∃ i j A1 n1 c1 A2 n2 c2,q = .returned (.agg #[.int .i64 i,.int .i64 j,.slice A1 n1 c1,.slice A2 n2 c2]) /\ (∀ d s,S = some (d :: s) -> TDO w' B (.agg #[.int .i64 i,.int .i64 j,.slice A1 n1 c1,.slice A2 n2 c2]) (d.raw V)) /\ PopF B gc w w' /\ CpT B gc v0 m0 V (S.map List.tail) w':=by
 cases S with
 | none =>
  obtain ⟨A,n,c,rs,hI⟩:=hc
  refine (pop_no B gc v0 m0 10 rfl A n c rs w hI).mono ?_
  rintro q w' ⟨⟨i,j,A1,n1,c1,A2,n2,c2,rfl⟩,hb⟩
  exact ⟨i,j,A1,n1,c1,A2,n2,c2,rfl,fun d s h => (by cases h),PopF.of hb hI.le,A,n,c,rs,hI.below hb⟩
 | some s =>
  cases s with
  | nil => have:=(hS _ rfl).1; simp at this
  | cons d s =>
   obtain ⟨A,n,c,hI⟩:=hc
   have hI':CpI B gc v0 m0 (.slice A n c) 0 ((s.map (·.raw V)).reverse ++ [d.raw V]) w:=by
    have h2:CpI B gc v0 m0 (.slice A n c) 0 (((d :: s).map (·.raw V)).reverse) w:=hI
    rw [List.map_cons,List.reverse_cons] at h2
    exact h2
   refine (pop_ok B gc v0 m0 A n c _ _ w hI' (by have:=(hS _ rfl).2; simp at this ⊢; omega)).mono ?_
   rintro q w' ⟨⟨i,j,A1,n1,c1,A2,n2,c2,rfl,ht⟩,hf,A',n',c',h⟩
   refine ⟨i,j,A1,n1,c1,A2,n2,c2,rfl,fun d' s' h => ?_,hf,A',n',c',h⟩
   simp only [Option.some.injEq,List.cons.injEq] at h
   rw [<- h.1]; exact ht
def topC (S:Option (List Dta)) (F:Dta -> Option Dta):Option (List Dta):=S.bind fun s => match s with
 | d :: r => (F d).map (· :: r)
 | [] => none
def topC2 (S:Option (List Dta)) (F:Dta -> Dta -> Option Dta):Option (List Dta):=S.bind fun s => match s with
 | b :: a :: r => (F a b).map (· :: r)
 | _ => none
structure OkS (V k:Nat) (S:Option (List Dta)):Prop where
 len:∀ s,S = some s -> k <= s.length /\ s.length <= 900
 fit:∀ s,S = some s -> ∀ d ∈ s,d.Fit V
theorem zou (B gc V:Nat) (v0 m0:Int) (S:Option (List Dta)) (hS:OkS V 1 S) (w:World) (hc:CpT B gc v0 m0 V S w) :
  Calls Tryz.prog 115 #[.pointer (some ⟨gc,0,none⟩)] w fun q w' => q = .returned (.tuple #[]) /\ CpF B gc w w' /\ CpT B gc v0 m0 V (topC S fun d => some d.notM) w':=by
 have HC:=zh hc
 have hpop:=zcr B gc V v0 m0 S hS.len w hc
 have HB:=zh hc.le
 clear hc
 cases S with
 | none =>
  go_enter Tryz.func115,Tryz.ntmps115
  go_wp2_with (go_at_call 31; go_must (refine hpop.mono ?_; clear hpop; rintro e w1 ⟨i,j,A1,n1,c1,A2,n2,c2,rfl,_,hf,hc1⟩; obtain ⟨stk,hr⟩:=hc1.row; have y0:=hr.cell; have y2:=hr.lt; have HF:=zh hf; have HC1:=zh hc1; clear hf hc1 hr))
  go_returns
  exact ⟨rfl,HF.out.cpf.trans (CpF.of (by go_grown) HC1.out.le),HC1.out.below (by go_grown)⟩
 | some s =>
  cases s with
  | nil => have:=(hS.len _ rfl).1; simp at this
  | cons d s =>
   have hd:=hS.fit _ rfl d (by simp)
   have hl:=(hS.len _ rfl).2
   go_enter Tryz.func115,Tryz.ntmps115
   go_wp2_with (first
    | (go_at_call 31; go_must (refine hpop.mono ?_; clear hpop; rintro e w1 ⟨i,j,A1,n1,c1,A2,n2,c2,rfl,ht,hf,hc1⟩; obtain ⟨stk,hr⟩:=hc1.row; have y0:=hr.cell; have y2:=hr.lt; have HF:=zh hf; have HC1:=zh hc1; have HT:=zh (ht d s rfl); clear hf hc1 hr ht))
    | (go_at_call 21; go_must (refine (zot d V hd _ _ (HT.out.td.below (B:=w1.heap.size) (by go_grown) zn)).mono ?_; rintro e w2 hx; obtain ⟨v2,rfl,hb2,ho2⟩:=hx; obtain ⟨B1,d1,B2,d2,rfl⟩:=ho2.form; have HB2:=zh ((by go_grown:Below w1.heap.size w1 _).trans (hb2.mono (by go_grown))); have HO2:=zh ho2; clear hb2 ho2))
    | (go_at_call 71; go_must (refine (zdf B gc V v0 m0 (some s) (by intro s' h; cases h; simp at hl; omega) _ (HC1.out.below HB2.out) (some d.notM) _ _ _ _ _ _ _ _ (HO2.out.mono (by have:=HC1.out.le; go_grown)) _ rfl).mono ?_; rintro e w3 ⟨rfl,hf3,hc3⟩; have HF3:=zh hf3; have HC3:=zh hc3; clear hf3 hc3)))
   go_returns
   exact ⟨rfl,(HF.out.cpf.trans (CpF.of HB2.out HC1.out.le)).trans HF3.out,HC3.out⟩
theorem zl1 (B gc V:Nat) (v0 m0:Int) (S:Option (List Dta)) (hS:OkS V 2 S) (w:World) (hc:CpT B gc v0 m0 V S w) :
  Calls Tryz.prog 75 #[.pointer (some ⟨gc,0,none⟩),.func (.func 22) #[] #[]] w fun q w' => q = .returned (.tuple #[]) /\ CpF B gc w w' /\ CpT B gc v0 m0 V (topC2 S (opC fun p q => p && q)) w':=by
 have HC:=zh hc
 have hpop:=zcr B gc V v0 m0 S (fun s h => ⟨by have:=(hS.len s h).1; omega,(hS.len s h).2⟩) w hc
 have HB:=zh hc.le
 clear hc
 cases S with
 | none =>
  go_enter Tryz.func75,Tryz.ntmps75
  go_upto_region 1 with (go_at_call 31; go_must (refine hpop.mono ?_; clear hpop; rintro e w1 ⟨i,j,A1,n1,c1,A2,n2,c2,rfl,_,hf,hc1⟩; have HF:=zh hf; have HC1:=zh hc1; clear hf hc1))
  go_wp2_with (go_at_call 31; go_must (refine (zcr B gc V v0 m0 none (by intro s h; cases h) _ (HC1.out.below (by go_grown))).mono ?_; rintro e w2 ⟨i2,j2,A3,n3,c3,A4,n4,c4,rfl,_,hf,hc2⟩; obtain ⟨stk,hr⟩:=hc2.row; have y0:=hr.cell; have y2:=hr.lt; have HF2:=zh ((CpF.of (by go_grown) HC1.out.le).trans hf.cpf:CpF B gc w1 w2); have HC2:=zh hc2; clear hf hc2 hr))
  go_returns
  exact ⟨rfl,(HF.out.cpf.trans HF2.out).trans (CpF.of (by go_grown) HC2.out.le),HC2.out.below (by go_grown)⟩
 | some s =>
  obtain ⟨b,a,s,rfl⟩:∃ b a s',s = b :: a :: s':=by
   match s,(hS.len _ rfl).1 with
   | b :: a :: s',_ => exact ⟨b,a,s',rfl⟩
  have hb:=hS.fit _ rfl b (by simp)
  have ha:=hS.fit _ rfl a (by simp)
  have hl:=(hS.len _ rfl).2
  go_enter Tryz.func75,Tryz.ntmps75
  go_upto_region 1 with (go_at_call 31; go_must (refine hpop.mono ?_; clear hpop; rintro e w1 ⟨i,j,A1,n1,c1,A2,n2,c2,rfl,ht,hf,hc1⟩; have HF:=zh hf; have HC1:=zh hc1; have HT:=zh (ht b _ rfl); clear hf hc1 ht))
  refine zaa (fun W => Row W w1.heap.size 30 #[.int .i64 i,.int .i64 j,.slice A1 n1 c1,.slice A2 n2 c2] /\ Below w1.heap.size w1 W) ⟨Row.lit rfl,by go_grown⟩ ?_
  rintro W ⟨hq,hbW⟩
  have HQ:=zh hq; have HBW:=zh hbW
  clear hq hbW
  go_wp2_with (first
   | (go_at_call 31; go_must (refine (zcr B gc V v0 m0 (some (a :: s)) (by intro s' h; cases h; simp at hl ⊢; omega) _ (HC1.out.below HBW.out)).mono ?_; rintro e w2 ⟨i2,j2,A3,n3,c3,A4,n4,c4,rfl,ht,hf,hc2⟩; obtain ⟨stk,hr⟩:=hc2.row; have y0:=hr.cell; have y2:=hr.lt; have hgn:w1.heap.size ≠ gc:=(by have:=HC1.out.row; obtain ⟨_,hr1⟩:=this; have:=hr1.lt; omega); have HQ2:=zh (hf.rows _ _ _ hgn HQ.out); have q0:=HQ2.out.cell; have q2:=HQ2.out.lt; have HF2:=zh ((CpF.of HBW.out HC1.out.le).trans hf.cpf); have HC2:=zh hc2; have HT2:=zh (ht a _ rfl); have HT1:=zh (hf.tdo _ _ _ (HT.out.below HBW.out zn)); clear hf hc2 hr ht))
   | (go_at_call 22; go_must (refine (And_ok a b V ha hb _ _ _ (HT2.out.td.below (B:=w2.heap.size) (by go_grown) zn) (HT1.out.td.below (B:=w2.heap.size) (by go_grown) zn)).mono ?_; rintro e w3 hx; rw [zdp] at hx; obtain ⟨v2,rfl,hb3,ho3⟩:=hx; obtain ⟨B1,d1,B2,d2,rfl⟩:=ho3.form; have HB3:=zh ((by go_grown:Below w2.heap.size w2 _).trans (hb3.mono (by go_grown))); have HO3:=zh ho3; clear hb3 ho3))
   | (go_at_call 71; go_must (refine (zdf B gc V v0 m0 (some s) (by intro s' h; cases h; simp at hl; omega) _ (HC2.out.below HB3.out) (opC (fun p q => p && q) a b) _ _ _ _ _ _ _ _ (HO3.out.mono (by have:=HC2.out.le; go_grown)) _ rfl).mono ?_; rintro e w4 ⟨rfl,hf4,hc4⟩; have HF4:=zh hf4; have HC4:=zh hc4; clear hf4 hc4)))
  go_returns
  exact ⟨rfl,((HF.out.cpf.trans HF2.out).trans (CpF.of HB3.out HC2.out.le)).trans HF4.out,HC4.out⟩
theorem zp9 (B gc V:Nat) (v0 m0:Int) (S:Option (List Dta)) (hS:OkS V 2 S) (w:World) (hc:CpT B gc v0 m0 V S w) :
  Calls Tryz.prog 75 #[.pointer (some ⟨gc,0,none⟩),.func (.func 23) #[] #[]] w fun q w' => q = .returned (.tuple #[]) /\ CpF B gc w w' /\ CpT B gc v0 m0 V (topC2 S (opC fun p q => p || q)) w':=by
 have HC:=zh hc
 have hpop:=zcr B gc V v0 m0 S (fun s h => ⟨by have:=(hS.len s h).1; omega,(hS.len s h).2⟩) w hc
 have HB:=zh hc.le
 clear hc
 cases S with
 | none =>
  go_enter Tryz.func75,Tryz.ntmps75
  go_upto_region 1 with (go_at_call 31; go_must (refine hpop.mono ?_; clear hpop; rintro e w1 ⟨i,j,A1,n1,c1,A2,n2,c2,rfl,_,hf,hc1⟩; have HF:=zh hf; have HC1:=zh hc1; clear hf hc1))
  go_wp2_with (go_at_call 31; go_must (refine (zcr B gc V v0 m0 none (by intro s h; cases h) _ (HC1.out.below (by go_grown))).mono ?_; rintro e w2 ⟨i2,j2,A3,n3,c3,A4,n4,c4,rfl,_,hf,hc2⟩; obtain ⟨stk,hr⟩:=hc2.row; have y0:=hr.cell; have y2:=hr.lt; have HF2:=zh ((CpF.of (by go_grown) HC1.out.le).trans hf.cpf:CpF B gc w1 w2); have HC2:=zh hc2; clear hf hc2 hr))
  go_returns
  exact ⟨rfl,(HF.out.cpf.trans HF2.out).trans (CpF.of (by go_grown) HC2.out.le),HC2.out.below (by go_grown)⟩
 | some s =>
  obtain ⟨b,a,s,rfl⟩:∃ b a s',s = b :: a :: s':=by
   match s,(hS.len _ rfl).1 with
   | b :: a :: s',_ => exact ⟨b,a,s',rfl⟩
  have hb:=hS.fit _ rfl b (by simp)
  have ha:=hS.fit _ rfl a (by simp)
  have hl:=(hS.len _ rfl).2
  go_enter Tryz.func75,Tryz.ntmps75
  go_upto_region 1 with (go_at_call 31; go_must (refine hpop.mono ?_; clear hpop; rintro e w1 ⟨i,j,A1,n1,c1,A2,n2,c2,rfl,ht,hf,hc1⟩; have HF:=zh hf; have HC1:=zh hc1; have HT:=zh (ht b _ rfl); clear hf hc1 ht))
  refine zaa (fun W => Row W w1.heap.size 30 #[.int .i64 i,.int .i64 j,.slice A1 n1 c1,.slice A2 n2 c2] /\ Below w1.heap.size w1 W) ⟨Row.lit rfl,by go_grown⟩ ?_
  rintro W ⟨hq,hbW⟩
  have HQ:=zh hq; have HBW:=zh hbW
  clear hq hbW
  go_wp2_with (first
   | (go_at_call 31; go_must (refine (zcr B gc V v0 m0 (some (a :: s)) (by intro s' h; cases h; simp at hl ⊢; omega) _ (HC1.out.below HBW.out)).mono ?_; rintro e w2 ⟨i2,j2,A3,n3,c3,A4,n4,c4,rfl,ht,hf,hc2⟩; obtain ⟨stk,hr⟩:=hc2.row; have y0:=hr.cell; have y2:=hr.lt; have hgn:w1.heap.size ≠ gc:=(by have:=HC1.out.row; obtain ⟨_,hr1⟩:=this; have:=hr1.lt; omega); have HQ2:=zh (hf.rows _ _ _ hgn HQ.out); have q0:=HQ2.out.cell; have q2:=HQ2.out.lt; have HF2:=zh ((CpF.of HBW.out HC1.out.le).trans hf.cpf); have HC2:=zh hc2; have HT2:=zh (ht a _ rfl); have HT1:=zh (hf.tdo _ _ _ (HT.out.below HBW.out zn)); clear hf hc2 hr ht))
   | (go_at_call 23; go_must (refine (Or_ok a b V ha hb _ _ _ (HT2.out.td.below (B:=w2.heap.size) (by go_grown) zn) (HT1.out.td.below (B:=w2.heap.size) (by go_grown) zn)).mono ?_; rintro e w3 hx; rw [zdp] at hx; obtain ⟨v2,rfl,hb3,ho3⟩:=hx; obtain ⟨B1,d1,B2,d2,rfl⟩:=ho3.form; have HB3:=zh ((by go_grown:Below w2.heap.size w2 _).trans (hb3.mono (by go_grown))); have HO3:=zh ho3; clear hb3 ho3))
   | (go_at_call 71; go_must (refine (zdf B gc V v0 m0 (some s) (by intro s' h; cases h; simp at hl; omega) _ (HC2.out.below HB3.out) (opC (fun p q => p || q) a b) _ _ _ _ _ _ _ _ (HO3.out.mono (by have:=HC2.out.le; go_grown)) _ rfl).mono ?_; rintro e w4 ⟨rfl,hf4,hc4⟩; have HF4:=zh hf4; have HC4:=zh hc4; clear hf4 hc4)))
  go_returns
  exact ⟨rfl,((HF.out.cpf.trans HF2.out).trans (CpF.of HB3.out HC2.out.le)).trans HF4.out,HC4.out⟩
end Go.Proofs.YthdabkmkgkkmcaaGreatDoor

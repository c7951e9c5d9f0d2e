/- Part 25 of the proof; it says: lemmas and contracts. No conditions but those that each theorem states. -/
import Derived.Test.YthdabkmkgkkmcaaGreatDoorPb01
import Derived.Test.YthdabkmkgkkmcaaGreatDoorPb03
set_option linter.unusedSimpArgs false
set_option linter.unusedVariables false
set_option maxRecDepth 100000
set_option maxHeartbeats 32000000
namespace Go.Proofs.YthdabkmkgkkmcaaGreatDoor
open Go.RowKit
theorem znx (f:List Mk) (n:Nat) (v:Value) (w:World) (hv:MS w v f) (hn:n = f.length) (hn2:n <= 100) :
  Calls Tryz.prog 108 #[v] w fun e w' => e = .returned (.slice (some ⟨w.heap.size,0,none⟩) n n) /\ Below w.heap.size w w' /\ Row w' w.heap.size 3 (outc n (szs f)):=by
 subst hn; exact zny f v w hv hn2
theorem zfx (vars:Int) (known:Int -> Bool) (f:List Mk) (ss:List Nat) (k:Nat) (m:Mk) (h:f[k]? = some m) (hl:ss.length = f.length) :
  zav vars known (f.drop k) (ss.drop k) = if zam vars known m (ss.getD k 0) = 0 then zav vars known (f.drop (k + 1)) (ss.drop (k + 1)) else zam vars known m (ss.getD k 0):=by
 have hk:k < f.length:=(List.getElem?_eq_some_iff.1 h).1
 have hm:f[k] = m:=(List.getElem?_eq_some_iff.1 h).2
 have hk2:k < ss.length:=by omega
 rw [List.drop_eq_getElem_cons hk,List.drop_eq_getElem_cons hk2,hm,zav]
 simp [List.getD,List.getElem?_eq_getElem hk2]
theorem zcp (op:Int) (w:World):Calls Tryz.prog 87 #[.int .u8 op] w fun e w' => e = .returned (.bool true) /\ w = w':=by
 go_enter Tryz.func87,Tryz.ntmps87
 go_wp2
 go_returns
 exact ⟨rfl,rfl⟩
theorem zcf (op:Int) (trees:Bool) (b:Nat) (w:World) (hc:w.cell? ⟨b,0,none⟩ = some (.bool trees)) :
  Calls Tryz.prog 69 #[.int .u8 op,.pointer (some ⟨b,0,none⟩)] w fun e w' => e = .returned (.bool (knows trees op)) /\ w = w':=by
 cases trees
 all_goals
  go_enter Tryz.func69,Tryz.ntmps69
  go_wp2
 all_goals
  go_returns
  refine ⟨zdc ?_,rfl⟩
  first | (simp [knows]; done) | (simp [knows, *]; done) | (simp [knows]; omega)
theorem zjx (f:List Mk) (v:Value) (vars:Int) (w:World) (hv:MS w v f) :
  Calls Tryz.prog 68 #[v,.int .i64 vars,.func (.func 87) #[] #[]] w fun e w' => e = .returned (.int .i64 (chk f vars (fun _ => true))) /\ Below w.heap.size w w':=by
 have HV:=zh hv
 obtain ⟨hop,A,c,rfl,hc,hc2,hcell⟩:=hv
 have hfd:=zg2
 obtain ⟨known,hkn⟩:=zx ((fun _ => true))
 rw [<- hkn]
 have HKN:=zh hkn; clear hkn
 obtain ⟨n,hn⟩:=zx f.length
 rw [<- hn] at hc hcell
 have H1:=zh hn
 have H2:=zh hcell; clear hcell
 have H3:=zh hop; clear hop
 by_cases hn0:n = 0
 ·have e:chk f vars known = 3:=by rw [chk,if_pos (by omega)]
  rw [<- hn,e]
  clear hn
  go_enter Tryz.func68,Tryz.ntmps68
  go_wp2
  go_returns
  exact ⟨rfl,by go_grown⟩
 by_cases hn1:64 < n
 ·have e:chk f vars known = 4:=by rw [chk,if_neg (by omega),if_pos (by omega)]
  rw [<- hn,e]
  have hn0':((n:Int) == 0) = false:=by simp [hn0]
  clear hn
  go_enter Tryz.func68,Tryz.ntmps68
  go_wp2
  go_returns
  exact ⟨rfl,by go_grown⟩
 have hn0':((n:Int) == 0) = false:=by simp [hn0]
 have hnn:decide (64 < (n:Int)) = false:=by simp; omega
 have hn2:n <= 64:=by omega
 have hnp:1 <= n:=by omega
 obtain ⟨R,hR⟩:=zx (zav vars known f (szs f))
 have hfin:chk f vars known = if R = 0 then (if (szs f).getD (n - 1) 0 = n then 0 else 2) else R:=by rw [chk,if_neg (by omega),if_neg (by omega),hR,hn]
 have HF:=zh hfin; clear hfin
 have HR:=zh hR; clear hR
 rw [<- hn]
 clear hn hn0 hn1
 go_enter Tryz.func68,Tryz.ntmps68
 go_wp2_with (go_at_call 108; go_must (refine (znx f n _ _ (by rw [H1.out]; exact HV.out) H1.out (by omega)).mono ?_; rintro e w1 ⟨rfl,hb1,hr1⟩))
 have HB1:=zh hb1; clear hb1
 have HR1:=zh hr1; clear hr1
 have HSL:=zh (zda f)
 go_loopg [22] n (fun gk v wr => ∃ k:Nat,k <= n /\ gk = n - k /\ v = .int .i64 k /\ Below w1.heap.size w1 wr /\ zav vars known (f.drop k) ((szs f).drop k) = R)
 case atStart =>
  exact ⟨0,Nat.zero_le _,rfl,rfl,Below.refl _ _,by rw [HR.out,List.drop_zero,List.drop_zero]⟩
 case round =>
  obtain ⟨k,hk,rfl,rfl,hbe,hR⟩:=hrel
  have ho:Row wr w.heap.size 3 (outc n (szs f)):=HR1.out.below hbe HR1.out.lt
  have ho0:=fun j hj => (ho.cell j).trans (zf4 n (szs f) j hj (by rw [HSL.out,<- H1.out]; omega))
  have hbw:Below w.heap.size w wr:=HB1.out.trans (hbe.mono HB1.out.size)
  by_cases hlt:k < n
  ·obtain ⟨m,hm⟩:∃ m,f[k]? = some m:=⟨f[k]'(by rw [<- H1.out]; exact hlt),List.getElem?_eq_getElem _⟩
   obtain ⟨b,o,rfl,hb,hcell⟩:=H2.out (by omega)
   obtain ⟨c0,c1,c2,c3,c4⟩:=hcell k m hm
   clear hcell
   obtain ⟨m1,m2⟩:=H3.out m (List.mem_of_getElem? hm)
   rw [<- hbw.cell (p:=⟨b,_,none⟩) hb] at c0 c1 c2 c3 c4
   have hb':b < wr.heap.size:=by have:=hbw.size; omega
   have hlo:=ho.lt
   have ok:=ho0 k hlt
   rw [zfx vars known f (szs f) k m hm HSL.out] at hR
   generalize (szs f).getD k 0 = s at *
   have HRR:=zh hR; clear hR
   have HBW:=zh hbw; clear hbw
   have HBE:=zh hbe; clear hbe
   have HM:=zh hm; clear hm
   have HO:=zh ho; clear ho ho0
   obtain ⟨e1,he1⟩:=zx (zam vars known m s)
   have HE:=zh he1
   rw [<- he1] at HRR
   unfold zam at he1
   clear he1
   by_cases t1:nm m.op = []
   ·go_wp2_with (first
     | (go_at_call 88; go_must (refine (zaj _ _ m1 m2).mono ?_; rintro e w2 ⟨rfl,hb2⟩; obtain ⟨x0,x1,hz1,HB2⟩:=za9 hb2; clear hb2)))
    go_returns
    have e6:e1 = 6:=by rw [HE.out]; simp [zam,t1]
    have:=HRR.out
    rw [e6,if_neg (by decide)] at this
    exact ⟨zao (by rw [HF.out,<- this]; rfl),HBW.out.trans (HB2.out.mono HBW.out.size)⟩
   have t1':(nm m.op).isEmpty = false:=by simp [t1]
   have T1:=zh t1; clear t1
   have t2:¬ known m.op = false:=by rw [HKN.out]; simp
   have t2:known m.op = true:=by simpa using t2
   by_cases t3:zak m vars = false
   ·go_wp2_with (first
     | (go_at_call 88; go_must (refine (zaj _ _ m1 m2).mono ?_; rintro e w2 ⟨rfl,hb2⟩; obtain ⟨x0,x1,hz1,HB2⟩:=za9 hb2; clear hb2))
     | (go_at_call 87; go_must (refine (zcp _ _).mono ?_; rintro e w3 ⟨rfl,rfl⟩))
     | (go_at_call 109; go_must (refine (zbe _ _ _ m1 m2).mono ?_; rintro e w4 ⟨rfl,hb4⟩)))
    go_returns
    have e6:e1 = 7:=by rw [HE.out]; simp [zam,T1.out,t2,t3]
    have:=HRR.out
    rw [e6,if_neg (by decide)] at this
    exact ⟨zao (by rw [HF.out,<- this]; rfl),HBW.out.trans ((HB2.out.trans (hb4.mono HB2.out.size)).mono HBW.out.size)⟩
   have t3:zak m vars = true:=by simpa using t3
   by_cases t4:spare m = false
   ·go_wp2_with (first
     | (go_at_call 88; go_must (refine (zaj _ _ m1 m2).mono ?_; rintro e w2 ⟨rfl,hb2⟩; obtain ⟨x0,x1,hz1,HB2⟩:=za9 hb2; clear hb2))
     | (go_at_call 87; go_must (refine (zcp _ _).mono ?_; rintro e w3 ⟨rfl,rfl⟩))
     | (go_at_call 109; go_must (refine (zbe _ _ _ m1 m2).mono ?_; rintro e w4 ⟨rfl,hb4⟩; have x4:=fun j => (hb4.cell (p:=⟨wr.heap.size,j,none⟩) hz1).trans (x0 j); have HB4:=zh hb4; clear hb4))
     | (go_at_call 110; go_must (refine (zcw _ _ m1 m2).mono ?_; rintro e w5 ⟨rfl,hb5⟩)))
    go_returns
    have e6:e1 = 2:=by rw [HE.out]; simp [zam,T1.out,t2,t3,t4]
    have:=HRR.out
    rw [e6,if_neg (by decide)] at this
    exact ⟨zao (by rw [HF.out,<- this]; rfl),HBW.out.trans ((HB2.out.trans ((HB4.out.trans (hb5.mono HB4.out.size)).mono HB2.out.size)).mono HBW.out.size)⟩
   have t4:spare m = true:=by simpa using t4
   by_cases t5:s = 0
   ·have t5':((s:Int) == 0) = true:=by simp [t5]
    have T5:=zh t5; clear t5
    go_wp2_with (first
     | (go_at_call 88; go_must (refine (zaj _ _ m1 m2).mono ?_; rintro e w2 ⟨rfl,hb2⟩; obtain ⟨x0,x1,hz1,HB2⟩:=za9 hb2; clear hb2))
     | (go_at_call 87; go_must (refine (zcp _ _).mono ?_; rintro e w3 ⟨rfl,rfl⟩))
     | (go_at_call 109; go_must (refine (zbe _ _ _ m1 m2).mono ?_; rintro e w4 ⟨rfl,hb4⟩; have x4:=fun j => (hb4.cell (p:=⟨wr.heap.size,j,none⟩) hz1).trans (x0 j); have HB4:=zh hb4; clear hb4))
     | (go_at_call 110; go_must (refine (zcw _ _ m1 m2).mono ?_; rintro e w5 ⟨rfl,hb5⟩; have HB5:Hid (Below wr.heap.size wr w5):=HB2.out.trans ((HB4.out.trans (hb5.mono HB4.out.size)).mono HB2.out.size); clear hb5; have ok5:=(HB5.out.cell (p:=⟨w.heap.size,k,none⟩) hlo).trans ok)))
    go_returns
    have e6:e1 = 2:=by rw [HE.out]; simp [zam,T1.out,t2,t3,t4,T5.out]
    have:=HRR.out
    rw [e6,if_neg (by decide)] at this
    exact ⟨zao (by rw [HF.out,<- this]; rfl),HBW.out.trans (HB5.out.mono HBW.out.size)⟩
   ·have t5':((s:Int) == 0) = false:=by simp [t5]
    have T5:=zh t5; clear t5
    go_wp2_with (first
     | (go_at_call 88; go_must (refine (zaj _ _ m1 m2).mono ?_; rintro e w2 ⟨rfl,hb2⟩; obtain ⟨x0,x1,hz1,HB2⟩:=za9 hb2; clear hb2))
     | (go_at_call 87; go_must (refine (zcp _ _).mono ?_; rintro e w3 ⟨rfl,rfl⟩))
     | (go_at_call 109; go_must (refine (zbe _ _ _ m1 m2).mono ?_; rintro e w4 ⟨rfl,hb4⟩; have x4:=fun j => (hb4.cell (p:=⟨wr.heap.size,j,none⟩) hz1).trans (x0 j); have HB4:=zh hb4; clear hb4))
     | (go_at_call 110; go_must (refine (zcw _ _ m1 m2).mono ?_; rintro e w5 ⟨rfl,hb5⟩; have HB5:Hid (Below wr.heap.size wr w5):=HB2.out.trans ((HB4.out.trans (hb5.mono HB4.out.size)).mono HB2.out.size); clear hb5; have ok5:=(HB5.out.cell (p:=⟨w.heap.size,k,none⟩) hlo).trans ok)))
    go_roundg (n - (k + 1))
    case rel =>
     have e6:e1 = 0:=by rw [HE.out]; simp [zam,T1.out,t2,t3,t4,T5.out]
     have:=HRR.out
     rw [e6,if_pos rfl] at this
     exact ⟨k + 1,by omega,rfl,by go_num,HBE.out.trans (HB5.out.mono HBE.out.size),this⟩
    case measure => omega
  ·have hkn:k = n:=by omega
   have ok:=ho0 (n - 1) (by omega)
   have h0:R = 0:=by
    rw [<- hR,hkn,H1.out,List.drop_length,zav]
    intros; simp_all
   have HS:=zh h0; clear h0
   have hsz:=zk7 f (n - 1)
   generalize hs:(szs f).getD (n - 1) 0 = s at *
   have HSS:=zh hs; clear hs
   clear hR ho0
   have HBW:=zh hbw; clear hbw
   clear hbe
   have HKK:=zh hkn; clear hkn
   have hz:=ho.lt
   have HO:=zh ho; clear ho
   by_cases t6:s = n
   ·have t6':((s:Int) != n) = false:=by simp [t6]
    have T6:=zh t6; clear t6
    go_wp2
    go_returns
    exact ⟨zao (by rw [HF.out,HS.out,if_pos rfl,if_pos T6.out]),HBW.out⟩
   ·have t6':((s:Int) != n) = true:=by rw [bne_iff_ne]; omega
    have T6:=zh t6; clear t6
    go_wp2
    go_returns
    exact ⟨zao (by rw [HF.out,HS.out,if_pos rfl,if_neg T6.out]),HBW.out⟩
theorem zha (f:List Mk) (v:Value) (vars:Int) (trees:Bool) (bb:Nat) (w:World) (hv:MS w v f) (hbb:bb < w.heap.size) (hcc:w.cell? ⟨bb,0,none⟩ = some (.bool trees)) :
  Calls Tryz.prog 68 #[v,.int .i64 vars,.func (.func 69) #[] #[.pointer (some ⟨bb,0,none⟩)]] w fun e w' => e = .returned (.int .i64 (chk f vars (knows trees))) /\ Below w.heap.size w w':=by
 have HV:=zh hv
 obtain ⟨hop,A,c,rfl,hc,hc2,hcell⟩:=hv
 have hfd:=zg2
 obtain ⟨known,hkn⟩:=zx ((knows trees))
 rw [<- hkn]
 have HKN:=zh hkn; clear hkn
 obtain ⟨n,hn⟩:=zx f.length
 rw [<- hn] at hc hcell
 have H1:=zh hn
 have H2:=zh hcell; clear hcell
 have H3:=zh hop; clear hop
 by_cases hn0:n = 0
 ·have e:chk f vars known = 3:=by rw [chk,if_pos (by omega)]
  rw [<- hn,e]
  clear hn
  go_enter Tryz.func68,Tryz.ntmps68
  go_wp2
  go_returns
  exact ⟨rfl,by go_grown⟩
 by_cases hn1:64 < n
 ·have e:chk f vars known = 4:=by rw [chk,if_neg (by omega),if_pos (by omega)]
  rw [<- hn,e]
  have hn0':((n:Int) == 0) = false:=by simp [hn0]
  clear hn
  go_enter Tryz.func68,Tryz.ntmps68
  go_wp2
  go_returns
  exact ⟨rfl,by go_grown⟩
 have hn0':((n:Int) == 0) = false:=by simp [hn0]
 have hnn:decide (64 < (n:Int)) = false:=by simp; omega
 have hn2:n <= 64:=by omega
 have hnp:1 <= n:=by omega
 obtain ⟨R,hR⟩:=zx (zav vars known f (szs f))
 have hfin:chk f vars known = if R = 0 then (if (szs f).getD (n - 1) 0 = n then 0 else 2) else R:=by rw [chk,if_neg (by omega),if_neg (by omega),hR,hn]
 have HF:=zh hfin; clear hfin
 have HR:=zh hR; clear hR
 rw [<- hn]
 clear hn hn0 hn1
 go_enter Tryz.func68,Tryz.ntmps68
 go_wp2_with (go_at_call 108; go_must (refine (znx f n _ _ (by rw [H1.out]; exact HV.out) H1.out (by omega)).mono ?_; rintro e w1 ⟨rfl,hb1,hr1⟩))
 have HB1:=zh hb1; clear hb1
 have HR1:=zh hr1; clear hr1
 have HSL:=zh (zda f)
 go_loopg [22] n (fun gk v wr => ∃ k:Nat,k <= n /\ gk = n - k /\ v = .int .i64 k /\ Below w1.heap.size w1 wr /\ zav vars known (f.drop k) ((szs f).drop k) = R)
 case atStart =>
  exact ⟨0,Nat.zero_le _,rfl,rfl,Below.refl _ _,by rw [HR.out,List.drop_zero,List.drop_zero]⟩
 case round =>
  obtain ⟨k,hk,rfl,rfl,hbe,hR⟩:=hrel
  have ho:Row wr w.heap.size 3 (outc n (szs f)):=HR1.out.below hbe HR1.out.lt
  have ho0:=fun j hj => (ho.cell j).trans (zf4 n (szs f) j hj (by rw [HSL.out,<- H1.out]; omega))
  have hbw:Below w.heap.size w wr:=HB1.out.trans (hbe.mono HB1.out.size)
  by_cases hlt:k < n
  ·obtain ⟨m,hm⟩:∃ m,f[k]? = some m:=⟨f[k]'(by rw [<- H1.out]; exact hlt),List.getElem?_eq_getElem _⟩
   obtain ⟨b,o,rfl,hb,hcell⟩:=H2.out (by omega)
   obtain ⟨c0,c1,c2,c3,c4⟩:=hcell k m hm
   clear hcell
   obtain ⟨m1,m2⟩:=H3.out m (List.mem_of_getElem? hm)
   rw [<- hbw.cell (p:=⟨b,_,none⟩) hb] at c0 c1 c2 c3 c4
   have hb':b < wr.heap.size:=by have:=hbw.size; omega
   have hlo:=ho.lt
   have ok:=ho0 k hlt
   have HC:=zh ((hbw.cell (p:=⟨bb,0,none⟩) hbb).trans hcc)
   rw [zfx vars known f (szs f) k m hm HSL.out] at hR
   generalize (szs f).getD k 0 = s at *
   have HRR:=zh hR; clear hR
   have HBW:=zh hbw; clear hbw
   have HBE:=zh hbe; clear hbe
   have HM:=zh hm; clear hm
   have HO:=zh ho; clear ho ho0
   obtain ⟨e1,he1⟩:=zx (zam vars known m s)
   have HE:=zh he1
   rw [<- he1] at HRR
   unfold zam at he1
   clear he1
   by_cases t1:nm m.op = []
   ·go_wp2_with (first
     | (go_at_call 88; go_must (refine (zaj _ _ m1 m2).mono ?_; rintro e w2 ⟨rfl,hb2⟩; obtain ⟨x0,x1,hz1,HB2⟩:=za9 hb2; clear hb2)))
    go_returns
    have e6:e1 = 6:=by rw [HE.out]; simp [zam,t1]
    have:=HRR.out
    rw [e6,if_neg (by decide)] at this
    exact ⟨zao (by rw [HF.out,<- this]; rfl),HBW.out.trans (HB2.out.mono HBW.out.size)⟩
   have t1':(nm m.op).isEmpty = false:=by simp [t1]
   have T1:=zh t1; clear t1
   by_cases t2:known m.op = false
   ·go_wp2_with (first
     | (go_at_call 88; go_must (refine (zaj _ _ m1 m2).mono ?_; rintro e w2 ⟨rfl,hb2⟩; obtain ⟨x0,x1,hz1,HB2⟩:=za9 hb2; clear hb2))
     | (go_at_call 69; go_must (refine (zcf _ trees bb _ (HB2.out.cell (p:=⟨bb,0,none⟩) (show bb < wr.heap.size by have:=HBW.out.size; omega) |>.trans HC.out)).mono ?_; rintro e w3 ⟨rfl,rfl⟩; rw [<- HKN.out,t2])))
    go_returns
    have e6:e1 = 6:=by rw [HE.out]; simp [zam,T1.out,t2]
    have:=HRR.out
    rw [e6,if_neg (by decide)] at this
    exact ⟨zao (by rw [HF.out,<- this]; rfl),HBW.out.trans (HB2.out.mono HBW.out.size)⟩
   have t2:known m.op = true:=by simpa using t2
   by_cases t3:zak m vars = false
   ·go_wp2_with (first
     | (go_at_call 88; go_must (refine (zaj _ _ m1 m2).mono ?_; rintro e w2 ⟨rfl,hb2⟩; obtain ⟨x0,x1,hz1,HB2⟩:=za9 hb2; clear hb2))
     | (go_at_call 69; go_must (refine (zcf _ trees bb _ (HB2.out.cell (p:=⟨bb,0,none⟩) (show bb < wr.heap.size by have:=HBW.out.size; omega) |>.trans HC.out)).mono ?_; rintro e w3 ⟨rfl,rfl⟩; rw [<- HKN.out,t2]))
     | (go_at_call 109; go_must (refine (zbe _ _ _ m1 m2).mono ?_; rintro e w4 ⟨rfl,hb4⟩)))
    go_returns
    have e6:e1 = 7:=by rw [HE.out]; simp [zam,T1.out,t2,t3]
    have:=HRR.out
    rw [e6,if_neg (by decide)] at this
    exact ⟨zao (by rw [HF.out,<- this]; rfl),HBW.out.trans ((HB2.out.trans (hb4.mono HB2.out.size)).mono HBW.out.size)⟩
   have t3:zak m vars = true:=by simpa using t3
   by_cases t4:spare m = false
   ·go_wp2_with (first
     | (go_at_call 88; go_must (refine (zaj _ _ m1 m2).mono ?_; rintro e w2 ⟨rfl,hb2⟩; obtain ⟨x0,x1,hz1,HB2⟩:=za9 hb2; clear hb2))
     | (go_at_call 69; go_must (refine (zcf _ trees bb _ (HB2.out.cell (p:=⟨bb,0,none⟩) (show bb < wr.heap.size by have:=HBW.out.size; omega) |>.trans HC.out)).mono ?_; rintro e w3 ⟨rfl,rfl⟩; rw [<- HKN.out,t2]))
     | (go_at_call 109; go_must (refine (zbe _ _ _ m1 m2).mono ?_; rintro e w4 ⟨rfl,hb4⟩; have x4:=fun j => (hb4.cell (p:=⟨wr.heap.size,j,none⟩) hz1).trans (x0 j); have HB4:=zh hb4; clear hb4))
     | (go_at_call 110; go_must (refine (zcw _ _ m1 m2).mono ?_; rintro e w5 ⟨rfl,hb5⟩)))
    go_returns
    have e6:e1 = 2:=by rw [HE.out]; simp [zam,T1.out,t2,t3,t4]
    have:=HRR.out
    rw [e6,if_neg (by decide)] at this
    exact ⟨zao (by rw [HF.out,<- this]; rfl),HBW.out.trans ((HB2.out.trans ((HB4.out.trans (hb5.mono HB4.out.size)).mono HB2.out.size)).mono HBW.out.size)⟩
   have t4:spare m = true:=by simpa using t4
   by_cases t5:s = 0
   ·have t5':((s:Int) == 0) = true:=by simp [t5]
    have T5:=zh t5; clear t5
    go_wp2_with (first
     | (go_at_call 88; go_must (refine (zaj _ _ m1 m2).mono ?_; rintro e w2 ⟨rfl,hb2⟩; obtain ⟨x0,x1,hz1,HB2⟩:=za9 hb2; clear hb2))
     | (go_at_call 69; go_must (refine (zcf _ trees bb _ (HB2.out.cell (p:=⟨bb,0,none⟩) (show bb < wr.heap.size by have:=HBW.out.size; omega) |>.trans HC.out)).mono ?_; rintro e w3 ⟨rfl,rfl⟩; rw [<- HKN.out,t2]))
     | (go_at_call 109; go_must (refine (zbe _ _ _ m1 m2).mono ?_; rintro e w4 ⟨rfl,hb4⟩; have x4:=fun j => (hb4.cell (p:=⟨wr.heap.size,j,none⟩) hz1).trans (x0 j); have HB4:=zh hb4; clear hb4))
     | (go_at_call 110; go_must (refine (zcw _ _ m1 m2).mono ?_; rintro e w5 ⟨rfl,hb5⟩; have HB5:Hid (Below wr.heap.size wr w5):=HB2.out.trans ((HB4.out.trans (hb5.mono HB4.out.size)).mono HB2.out.size); clear hb5; have ok5:=(HB5.out.cell (p:=⟨w.heap.size,k,none⟩) hlo).trans ok)))
    go_returns
    have e6:e1 = 2:=by rw [HE.out]; simp [zam,T1.out,t2,t3,t4,T5.out]
    have:=HRR.out
    rw [e6,if_neg (by decide)] at this
    exact ⟨zao (by rw [HF.out,<- this]; rfl),HBW.out.trans (HB5.out.mono HBW.out.size)⟩
   ·have t5':((s:Int) == 0) = false:=by simp [t5]
    have T5:=zh t5; clear t5
    go_wp2_with (first
     | (go_at_call 88; go_must (refine (zaj _ _ m1 m2).mono ?_; rintro e w2 ⟨rfl,hb2⟩; obtain ⟨x0,x1,hz1,HB2⟩:=za9 hb2; clear hb2))
     | (go_at_call 69; go_must (refine (zcf _ trees bb _ (HB2.out.cell (p:=⟨bb,0,none⟩) (show bb < wr.heap.size by have:=HBW.out.size; omega) |>.trans HC.out)).mono ?_; rintro e w3 ⟨rfl,rfl⟩; rw [<- HKN.out,t2]))
     | (go_at_call 109; go_must (refine (zbe _ _ _ m1 m2).mono ?_; rintro e w4 ⟨rfl,hb4⟩; have x4:=fun j => (hb4.cell (p:=⟨wr.heap.size,j,none⟩) hz1).trans (x0 j); have HB4:=zh hb4; clear hb4))
     | (go_at_call 110; go_must (refine (zcw _ _ m1 m2).mono ?_; rintro e w5 ⟨rfl,hb5⟩; have HB5:Hid (Below wr.heap.size wr w5):=HB2.out.trans ((HB4.out.trans (hb5.mono HB4.out.size)).mono HB2.out.size); clear hb5; have ok5:=(HB5.out.cell (p:=⟨w.heap.size,k,none⟩) hlo).trans ok)))
    go_roundg (n - (k + 1))
    case rel =>
     have e6:e1 = 0:=by rw [HE.out]; simp [zam,T1.out,t2,t3,t4,T5.out]
     have:=HRR.out
     rw [e6,if_pos rfl] at this
     exact ⟨k + 1,by omega,rfl,by go_num,HBE.out.trans (HB5.out.mono HBE.out.size),this⟩
    case measure => omega
  ·have hkn:k = n:=by omega
   have ok:=ho0 (n - 1) (by omega)
   have h0:R = 0:=by
    rw [<- hR,hkn,H1.out,List.drop_length,zav]
    intros; simp_all
   have HS:=zh h0; clear h0
   have hsz:=zk7 f (n - 1)
   generalize hs:(szs f).getD (n - 1) 0 = s at *
   have HSS:=zh hs; clear hs
   clear hR ho0
   have HBW:=zh hbw; clear hbw
   clear hbe
   have HKK:=zh hkn; clear hkn
   have hz:=ho.lt
   have HO:=zh ho; clear ho
   by_cases t6:s = n
   ·have t6':((s:Int) != n) = false:=by simp [t6]
    have T6:=zh t6; clear t6
    go_wp2
    go_returns
    exact ⟨zao (by rw [HF.out,HS.out,if_pos rfl,if_pos T6.out]),HBW.out⟩
   ·have t6':((s:Int) != n) = true:=by rw [bne_iff_ne]; omega
    have T6:=zh t6; clear t6
    go_wp2
    go_returns
    exact ⟨zao (by rw [HF.out,HS.out,if_pos rfl,if_neg T6.out]),HBW.out⟩
theorem za1 (f:List Mk) (v:Value) (w:World) (hv:MS w v f) :
  Calls Tryz.prog 46 #[v] w fun e w' => e = .returned (.bool (za4 f)) /\ Below w.heap.size w w':=by
 go_enter Tryz.func46,Tryz.ntmps46
 go_wp2_with (go_at_call 68; go_must (refine (zjx f _ _ _ hv).mono ?_; rintro e w1 ⟨rfl,hb1⟩))
 go_returns
 exact ⟨zdc (by simp [za4]),hb1⟩
theorem zk2 (f:List Mk) (v:Value) (vars:Int) (w:World) (hv:MS w v f) :
  Calls Tryz.prog 29 #[v,.int .i64 vars,.bool false] w fun e w' => e = .returned (.int .i64 (zai f vars false)) /\ Below w.heap.size w w':=by
 have HV:=zh hv; clear hv
 by_cases h1:vars < 0
 ·go_enter Tryz.func29,Tryz.ntmps29
  go_wp2
  go_returns
  exact ⟨zao (by rw [zai,if_pos (.inl h1)]),by go_grown⟩
 by_cases h2:6 < vars
 ·go_enter Tryz.func29,Tryz.ntmps29
  go_wp2
  go_returns
  exact ⟨zao (by rw [zai,if_pos (.inr (by simpa using h2))]),by go_grown⟩
 ·go_enter Tryz.func29,Tryz.ntmps29
  go_wp2_with (go_at_call 68; go_must (refine (zha f _ _ false w.heap.size _ (HV.out.below (Below.alloc (Below.refl _ _) zn _) zn) (by simp) (by go_simp)).mono ?_; rintro e w1 ⟨rfl,hb1⟩))
  go_returns
  exact ⟨zao (by rw [zai,if_neg (by simp; omega)]),(Below.alloc (Below.refl _ _) zn _).trans (hb1.mono (by simp))⟩
theorem znl (f:List Mk) (v:Value) (vars:Int) (w:World) (hv:MS w v f) :
  Calls Tryz.prog 29 #[v,.int .i64 vars,.bool true] w fun e w' => e = .returned (.int .i64 (zai f vars true)) /\ Below w.heap.size w w':=by
 have HV:=zh hv; clear hv
 by_cases h1:vars < 0
 ·go_enter Tryz.func29,Tryz.ntmps29
  go_wp2
  go_returns
  exact ⟨zao (by rw [zai,if_pos (.inl h1)]),by go_grown⟩
 by_cases h2:3 < vars
 ·go_enter Tryz.func29,Tryz.ntmps29
  go_wp2
  go_returns
  exact ⟨zao (by rw [zai,if_pos (.inr (by simpa using h2))]),by go_grown⟩
 ·go_enter Tryz.func29,Tryz.ntmps29
  go_wp2_with (go_at_call 68; go_must (refine (zha f _ _ true w.heap.size _ (HV.out.below (Below.alloc (Below.refl _ _) zn _) zn) (by simp) (by go_simp)).mono ?_; rintro e w1 ⟨rfl,hb1⟩))
  go_returns
  exact ⟨zao (by rw [zai,if_neg (by simp; omega)]),(Below.alloc (Below.refl _ _) zn _).trans (hb1.mono (by simp))⟩
theorem zj3 (f:List Mk) (v:Value) (vars:Int) (trees:Bool) (w:World) (hv:MS w v f) :
  Calls Tryz.prog 29 #[v,.int .i64 vars,.bool trees] w fun e w' => e = .returned (.int .i64 (zai f vars trees)) /\ Below w.heap.size w w':=by
 cases trees
 ·exact zk2 f v vars w hv
 ·exact znl f v vars w hv
end Go.Proofs.YthdabkmkgkkmcaaGreatDoor

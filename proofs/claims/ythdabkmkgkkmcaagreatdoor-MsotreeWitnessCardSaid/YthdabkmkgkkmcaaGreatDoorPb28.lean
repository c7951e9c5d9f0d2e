/- Part 28 of the proof; it says: lemmas and contracts. No conditions but those that each theorem states. -/
import Derived.Lib.AppendZeros
import Derived.Test.YthdabkmkgkkmcaaGreatDoorPb01
import Derived.Test.YthdabkmkgkkmcaaGreatDoorPb27
set_option linter.unusedSimpArgs false
set_option linter.unusedVariables false
set_option maxRecDepth 100000
set_option maxHeartbeats 32000000
namespace Go.Proofs.YthdabkmkgkkmcaaGreatDoor
open Go.RowKit
def mv (d:Int) (m:Mk):Mk:={ m with a:=if 0 < nc m.op then m.a + d else m.a,b:=if 1 < nc m.op then m.b + d else m.b }
def SmallM (f:List Mk):Prop:=∀ m ∈ f,-1000000 <= m.a /\ m.a <= 1000000 /\ -1000000 <= m.b /\ m.b <= 1000000
theorem mv_step (d:Int) (f:List Mk) (k:Nat) (m:Mk) (h:f[k]? = some m):((f.take k).map (mv d) ++ f.drop k).set k (mv d m) = (f.take (k + 1)).map (mv d) ++ f.drop (k + 1):=by
 have hk:k < f.length:=(List.getElem?_eq_some_iff.1 h).1
 have hm:f[k] = m:=(List.getElem?_eq_some_iff.1 h).2
 have hl:((f.take k).map (mv d)).length = k:=by rw [List.length_map,List.length_take]; omega
 rw [List.set_append_right _ _ (by omega),hl,Nat.sub_self,List.drop_eq_getElem_cons hk,hm,List.set_cons_zero,List.take_succ_eq_append_getElem hk,hm]
 simp
theorem mv_get (d:Int) (f:List Mk) (k:Nat) (m:Mk) (h:f[k]? = some m):((f.take k).map (mv d) ++ f.drop k)[k]? = some m:=by
 have hk:k < f.length:=(List.getElem?_eq_some_iff.1 h).1
 have hl:((f.take k).map (mv d)).length = k:=by rw [List.length_map,List.length_take]; omega
 rw [List.getElem?_append_right (by omega),hl,Nat.sub_self,List.getElem?_drop,Nat.add_zero,h]
theorem zo0 (f:List Mk) (v:Value) (d:Int) (w:World) (hv:MS w v f) (hl:f.length <= 64) (hp:1 <= f.length) (hs:SmallM f) (hd0:0 <= d) (hd1:d <= 100) :
  Calls Tryz.prog 53 #[v,.int .i64 d] w (RetMO w (f.map (mv d))):=by
 have hfd:=zbw
 have HV:=zh hv
 have HSM:=zh hs; clear hs
 obtain ⟨hop,A,c,rfl,hc1,hc2,_⟩:=hv
 obtain ⟨n,hn⟩:=zx f.length
 rw [<- hn] at hc1 HV hl hp ⊢
 have HN:=zh hn; clear hn
 have HOP:=zh hop; clear hop
 go_enter Tryz.func53,Tryz.ntmps53
 go_wp2_with (go_at_call 92; go_must (refine (zjw f _ _ HV.out (by rw [<- HN.out]; omega)).mono ?_; rintro e w1 ⟨v1,rfl,hb1,ho1⟩; obtain ⟨g,cap,rfl,hg1,hg2⟩:=ho1.shape HN.out (by omega); have HB1:=zh hb1; have HO1:=zh ho1; clear hb1 ho1))
 go_loopg [13] n (fun gk q wr => ∃ k:Nat,k <= n /\ gk = n - k /\ q = .int .i64 k /\ Below w.heap.size w wr /\ g < wr.heap.size /\ MO wr w.heap.size (.slice (some ⟨g,0,none⟩) n cap) ((f.take k).map (mv d) ++ f.drop k))
 case atStart => exact ⟨0,Nat.zero_le _,rfl,rfl,HB1.out,hg2,by simpa using HO1.out⟩
 case round =>
  obtain ⟨k,hk,rfl,rfl,hb,hgw,ho⟩:=hrel
  have HB:=zh hb; clear hb
  have HO:=zh ho; clear ho
  by_cases hlt:k < n
  ·obtain ⟨m,hm⟩:∃ m,f[k]? = some m:=⟨f[k]'(by rw [<- HN.out]; exact hlt),List.getElem?_eq_getElem _⟩
   obtain ⟨m1,m2⟩:=HOP.out m (List.mem_of_getElem? hm)
   obtain ⟨s1,s2,s3,s4⟩:=HSM.out m (List.mem_of_getElem? hm)
   have hget:=mv_get d f k m hm
   have hstep:=mv_step d f k m hm
   have hlen:((f.take k).map (mv d) ++ f.drop k).length = n:=by rw [List.length_append,List.length_map,List.length_take,List.length_drop,<- HN.out]; omega
   have HG:=zh hget; clear hget
   have HST:=zh hstep; clear hstep
   have HL:=zh hlen; clear hlen
   generalize (f.take k).map (mv d) ++ f.drop k = L at *
   obtain ⟨c0,c1,c2,c3,c4⟩:=HO.out.ms.at5 HG.out
   simp only [Nat.zero_add] at c0 c1 c2 c3 c4
   have HM:=zh hm; clear hm
   have f3:=zf3 HO.out (k * 5 + 3)
   have f4:=zf3 HO.out (k * 5 + 4)
   have hk5:k * 5 + 3 < n * 5 /\ k * 5 + 4 < n * 5:=by omega
   obtain ⟨n0,hn0⟩:=zx (nc m.op)
   have N0:n0 = 0 \/ n0 = 1 \/ n0 = 2:=by rw [hn0]; exact zdz _
   have HN0:=zh hn0; clear hn0
   rcases N0 with rfl | rfl | rfl
   all_goals go_wp2_with (go_at_call 88; go_must (refine (zaj _ _ m1 m2).mono ?_; rintro e w2 ⟨rfl,hb2⟩; rw [<- HN0.out]; obtain ⟨x0,x1,hz1,HB2⟩:=za9 hb2; clear hb2; have HO2:=zh (HO.out.below HB2.out zn); clear c0 c1 c2 c3 c4 f3 f4; obtain ⟨c0,c1,c2,c3,c4⟩:=HO2.out.ms.at5 HG.out; simp only [Nat.zero_add] at c0 c1 c2 c3 c4; have f3:=zf3 HO2.out (k * 5 + 3); have f4:=zf3 HO2.out (k * 5 + 4)))
   ·go_roundg (n - (k + 1))
    case rel =>
     have e:mv d m = m:=by unfold mv; rw [<- HN0.out]; simp
     exact ⟨k + 1,hlt,rfl,rfl,by have hb:=HB.out.trans (HB2.out.mono HB.out.size); go_grown,by omega,by rw [<- HST.out,e,znz HG.out]; exact HO2.out⟩
    case measure => omega
   ·go_roundg (n - (k + 1))
    case rel =>
     have e:mv d m = { m with a:=m.a + d }:=by unfold mv; rw [<- HN0.out]; simp
     exact ⟨k + 1,hlt,rfl,rfl,by have hb:=HB.out.trans (HB2.out.mono HB.out.size); go_grown,by simp; omega,by rw [<- HST.out,e]; exact zid HO2.out HL.out HG.out 3 _ ⟨m1,m2⟩ rfl (by omega)⟩
    case measure => omega
   ·go_roundg (n - (k + 1))
    case rel =>
     have e:mv d m = { m with a:=m.a + d,b:=m.b + d }:=by unfold mv; rw [<- HN0.out]; simp
     have q1:=zid (m':={ m with a:=m.a + d }) HO2.out HL.out HG.out 3 (.int .i64 (m.a + d)) ⟨m1,m2⟩ rfl (by omega)
     have q2:=zid (m':={ m with a:=m.a + d,b:=m.b + d }) q1 (by rw [List.length_set]; exact HL.out) (List.getElem?_set_self (by rw [HL.out]; exact hlt)) 4 (.int .i64 (m.b + d)) ⟨m1,m2⟩ rfl (by omega)
     rw [List.set_set] at q2
     exact ⟨k + 1,hlt,rfl,rfl,by have hb:=HB.out.trans (HB2.out.mono HB.out.size); go_grown,by simp; omega,by rw [<- HST.out,e]; exact q2⟩
    case measure => omega
  ·go_wp2
   go_returns
   have e:k = n:=by omega
   have q:=HO.out
   rw [e,List.take_of_length_le (by rw [<- HN.out]; exact zn),List.drop_eq_nil_of_le (by rw [<- HN.out]; exact zn),List.append_nil] at q
   exact ⟨_,rfl,HB.out,q⟩
theorem MO.made2 {w:World} {n:Nat} (c:Array Value) (hc:c.size = n * 5) (hn:n <= maxLen):MO (w.drew.alloc (.cells c 26)) w.heap.size (.slice (some ⟨w.heap.size,0,none⟩) 0 n) [] :=
 ⟨by simp [OpOk],World.ownsRow_made w.drew c n zn hn hc⟩
theorem zej (cs:Array Value) (n:Nat):(Builtin.zeroCells cs n).size = n * cs.size:=by
 simp [Builtin.zeroCells]
theorem zkb (n:Nat) (h0:0 < n) (hn:n <= 1000000) (w:World) (ty:TypeId) :
  ∃ cap w1,(Builtin.append_ #[23,3] ty #[.slice none 0 0,.int .i64 n]).run Tryz.prog w = .ok (.slice (some ⟨w.heap.size,0,none⟩) n cap) w1 /\ n <= cap /\ MO w1 w.heap.size (.slice (some ⟨w.heap.size,0,none⟩) 0 cap) [] /\ Below w.heap.size w w1:=by
 have hh:=zjl
 cases hi:Tryz.prog.info? 26 with
 | none => rw [hi] at hh; cases hh
 | some i =>
  rw [hi] at hh
  simp only [Option.map_some,Option.some.injEq,Prod.mk.injEq] at hh
  obtain ⟨hz,hs,hby⟩:=hh
  have hr:=Lib.run_append_nil_zeros (P:=Tryz.prog) w 23 3 ty 26 i _ .i64 .i64 Tryz.underlying23 Tryz.underlying3 hi hz n h0 (by omega) (by omega) (by rw [hby]; omega)
  refine ⟨_,_,hr,grownCap_ge _ _ _ _,MO.made2 _ ?_ (grownCap_le_maxLen _ _ _ _ (by simp only [maxLen]; omega)),by go_grown⟩
  have hge:=grownCap_ge w n 0 26
  rw [Array.size_append,zej,zej]
  have e:(Value.cells (.agg #[.int .u8 0,.int .i64 0,.int .i64 0,.int .i64 0,.int .i64 0])).size = 5:=by rfl
  rw [e]; omega
theorem zrp (n:Nat) (h0:0 < n) (hn:n <= 1000000) (w:World) :
  Calls Tryz.prog 93 #[.slice none 0 0,.int .i64 n] w fun e w' => ∃ cap,e = .returned (.slice (some ⟨w.heap.size,0,none⟩) 0 cap) /\ Below w.heap.size w w' /\ MO w' w.heap.size (.slice (some ⟨w.heap.size,0,none⟩) 0 cap) []:=by
 obtain ⟨cap,w1,hr,hcap,ho,hb⟩:=zkb n h0 hn w 23
 have HO:=zh ho; clear ho
 have HB:=zh hb; clear hb
 have HR:=zh hr; clear hr
 go_enter Tryz.func93,Tryz.ntmps93
 go_wp2_with (at_builtin; refine Lib.wpList_append_run _ rfl _ _ _ _ rfl _ _ rfl rfl _ _ HR.out ?_)
 go_returns
 exact ⟨_,rfl,HB.out,HO.out⟩
theorem znc (f h:List Mk) (v u:Value) (gs:Nat) (w:World) (hv:MS w v f) (hu:MS w u h) (hr:Row w gs 23 #[v,u]) (h1:1 <= f.length) (hl:f.length + h.length <= 1000) :
  Calls Tryz.prog 52 #[.slice (some ⟨gs,0,none⟩) 2 2] w (RetMO w (f ++ h)):=by
 have HV:=zh hv
 have HU:=zh hu
 obtain ⟨_,A,c,rfl,_,_,_⟩:=hv
 obtain ⟨_,A2,c2,rfl,_,_,_⟩:=hu
 obtain ⟨n,hn⟩:=zx f.length
 obtain ⟨k,hk⟩:=zx h.length
 rw [<- hn,<- hk] at hl
 rw [<- hn] at HV h1 hr
 rw [<- hk] at HU hr
 have HN:=zh hn; clear hn
 have HK:=zh hk; clear hk
 have rc:=hr.cell
 have rl:=hr.lt
 have HR:=zh hr; clear hr
 obtain ⟨T,hT⟩:∃ T:Nat -> Nat,T 0 = 0 /\ T 1 = n /\ T 2 = n + k:=⟨fun j => if j = 0 then 0 else if j = 1 then n else n + k,rfl,rfl,rfl⟩
 have HT:=zh hT; clear hT
 go_enter Tryz.func52,Tryz.ntmps52
 go_wp2
 go_loopg [3,11] 2 (fun gk s q wr => ∃ j:Nat,j <= 2 /\ gk = 2 - j /\ q = .int .i64 j /\ s = .int .i64 (T j) /\ wr = w)
 case atStart => exact ⟨0,by omega,rfl,rfl,by rw [HT.out.1]; rfl,rfl⟩
 case round =>
  obtain ⟨j,hj,rfl,rfl,rfl,hw⟩:=hrel
  have hw2:=hw.symm
  clear hw
  subst hw2
  have hj2:j = 0 \/ j = 1 \/ j = 2:=by omega
  rcases hj2 with rfl | rfl | rfl
  ·rw [HT.out.1]
   go_wp2
   go_roundg 1
   case rel => exact ⟨1,by omega,rfl,rfl,by rw [HT.out.2.1],rfl⟩
   case measure => omega
  ·rw [HT.out.2.1]
   go_wp2
   go_roundg 0
   case rel => exact ⟨2,by omega,rfl,rfl,by rw [HT.out.2.2]; go_num,rfl⟩
   case measure => omega
  ·rw [HT.out.2.2]
   have hgr:Calls Tryz.prog 93 #[.slice none 0 0,.int .i64 ((n:Int) + (k:Int))] w (fun e w' => ∃ cap,e = .returned (.slice (some ⟨w.heap.size,0,none⟩) 0 cap) /\ Below w.heap.size w w' /\ MO w' w.heap.size (.slice (some ⟨w.heap.size,0,none⟩) 0 cap) []):=by
    have q:=zrp (n + k) (by omega) (by omega) w
    rw [Int.natCast_add] at q
    exact q
   have HGR:=zh hgr; clear hgr
   go_wp2_with (go_at_call 93; go_must (refine HGR.out.mono ?_; rintro e w1 ⟨cap,rfl,hb1,ho1⟩))
   have rc1:=(HR.out.below hb1 rl).cell
   have HB1:=zh hb1; clear hb1
   have HO1:=zh ho1; clear ho1
   go_loopg [6,27] 2 (fun gk s q wx => ∃ j:Nat,j <= 2 /\ gk = 2 - j /\ q = .int .i64 j /\ MO wx w.heap.size s (if j = 0 then [] else if j = 1 then f else f ++ h) /\ Below w.heap.size w wx)
   case atStart => exact ⟨0,by omega,rfl,rfl,HO1.out,HB1.out⟩
   case round =>
    obtain ⟨j,hj,rfl,rfl,ho,hb⟩:=hrel
    have hj2:j = 0 \/ j = 1 \/ j = 2:=by omega
    have rc2:=(HR.out.below hb rl).cell
    clear rc1 rc
    have HB:=zh hb; clear hb
    rcases hj2 with rfl | rfl | rfl
    ·go_wp2_with (at_builtin; go_must (refine zay rfl (.tmp 31) (.tmp 32) rfl w.heap.size _ [] rfl ho _ f rfl (HV.out.below HB.out zn) (by rw [<- HN.out,List.length_nil]; omega) HB.out.size ?_; intro v3 w3 ho3 hg3 ht3))
     go_roundg 1
     case rel => exact ⟨1,by omega,rfl,by go_num,ho3,zcz (v':=v3) (g:=f) HB.out ho hg3 HB.out.size⟩
     case measure => omega
    ·go_wp2_with (at_builtin; go_must (refine zay rfl (.tmp 31) (.tmp 32) rfl w.heap.size _ f rfl ho _ h rfl (HU.out.below HB.out zn) (by rw [<- HN.out,<- HK.out]; omega) HB.out.size ?_; intro v3 w3 ho3 hg3 ht3))
     go_roundg 0
     case rel => exact ⟨2,by omega,rfl,by go_num,ho3,zcz (v':=v3) (g:=f) HB.out ho hg3 HB.out.size⟩
     case measure => omega
    ·go_wp2
     go_returns
     exact ⟨_,rfl,HB.out,ho⟩
def joinS (op:Int) (f h:List Mk):List Mk × Int:=if op ≠ 10 /\ op ≠ 11 then ([],6) else if za4 f = false \/ za4 h = false then ([],2) else if 64 <= f.length + h.length then ([],4)
 else (f ++ h.map (mv f.length) ++ [⟨op,0,0,f.length - 1,f.length + h.length - 1⟩],0)
theorem Tr.enc_small (t:Tr):∀ p,∀ m ∈ t.enc p,0 <= m.a /\ m.a <= ((p + t.size:Nat):Int) /\ 0 <= m.b /\ m.b <= ((p + t.size:Nat):Int):=by
 induction t with
 | leaf op x y => intro p m hm; simp only [Tr.enc,List.mem_singleton] at hm; subst hm; simp only [Tr.size]; omega
 | un op x a ih =>
  intro p m hm
  simp only [Tr.enc,List.mem_append,List.mem_singleton] at hm
  simp only [Tr.size]
  rcases hm with hm | hm
  ·have:=ih p m hm; omega
  ·subst hm; dsimp only; omega
 | bin op a b iha ihb =>
  intro p m hm
  simp only [Tr.enc,List.mem_append,List.mem_singleton] at hm
  simp only [Tr.size]
  rcases hm with hm | hm | hm
  ·have:=iha p m hm; omega
  ·have:=ihb _ m hm; omega
  ·subst hm; dsimp only; omega
theorem zjn (f:List Mk) (h:za4 f = true):SmallM f:=by
 obtain ⟨hl,t,_,hs,hf⟩:=zg1 f h
 intro m hm
 rw [hf] at hm
 have:=t.enc_small 0 m hm
 omega
theorem zmb (op:Int) (f h:List Mk) (v u:Value) (w:World) (hv:MS w v f) (hu:MS w u h) (h0:0 <= op) (h1:op <= 255) :
  Calls Tryz.prog 20 #[.int .u8 op,v,u] w (RetFE w (joinS op f h).1 (joinS op f h).2):=by
 by_cases hop:op ≠ 10 /\ op ≠ 11
 ·have a1:(op == 10) = false:=by simp [hop.1]
  have a2:(op == 11) = false:=by simp [hop.2]
  have a3:(op != 10) = true:=by simp [hop.1]
  have a4:(op != 11) = true:=by simp [hop.2]
  have e:joinS op f h = ([],6):=by rw [joinS,if_pos hop]
  rw [e]
  clear hv hu hop e
  go_enter Tryz.func20,Tryz.ntmps20
  go_wp2
  go_returns
  exact ⟨.slice none 0 0,rfl,Below.refl _ _,MO.nil _ _⟩
 have hop2:(op != 10 && op != 11) = false:=by simp; omega
 have HE0:Hid (joinS op f h = if za4 f = false \/ za4 h = false then ([],2) else if 64 <= f.length + h.length then ([],4)
  else (f ++ h.map (mv f.length) ++ [⟨op,0,0,f.length - 1,f.length + h.length - 1⟩],0)):=by unfold Hid; rw [joinS,if_neg hop]
 obtain ⟨t,ht⟩:=zx (za4 f)
 obtain ⟨s,hs⟩:=zx (za4 h)
 have HT:=zh ht; clear ht
 have HS:=zh hs; clear hs
 have HV:=zh hv; clear hv
 have HU:=zh hu; clear hu
 have hop3:op = 10 \/ op = 11:=by omega
 clear hop hop2
 cases t with
 | false =>
  have HE1:Hid (joinS op f h = ([],2)):=by unfold Hid; rw [HE0.out,<- HT.out,<- HS.out]; simp
  rcases hop3 with rfl | rfl
  all_goals
   go_enter Tryz.func20,Tryz.ntmps20
   go_wp2_with (go_at_call 46; go_must (refine (za1 f _ _ HV.out).mono ?_; rintro e w1 ⟨rfl,hb1⟩; rw [<- HT.out]))
   go_returns
   exact ⟨.slice none 0 0,by rw [HE1.out]; rfl,hb1,by rw [HE1.out]; exact MO.nil _ _⟩
 | true =>
  cases s with
  | false =>
   have HE1:Hid (joinS op f h = ([],2)):=by unfold Hid; rw [HE0.out,<- HT.out,<- HS.out]; simp
   rcases hop3 with rfl | rfl
   all_goals
    go_enter Tryz.func20,Tryz.ntmps20
    go_wp2_with (go_at_call 46; first | (refine (za1 f v _ HV.out).mono ?_; rintro e w1 ⟨rfl,hb1⟩; rw [<- HT.out]) | go_must (refine (za1 h u _ (HU.out.below hb1 zn)).mono ?_; rintro e w2 ⟨rfl,hb2⟩; rw [<- HS.out]))
    go_returns
    exact ⟨.slice none 0 0,by rw [HE1.out]; rfl,hb1.trans (hb2.mono hb1.size),by rw [HE1.out]; exact MO.nil _ _⟩
  | true =>
   have hlf:=zff f HT.out.symm
   have hlh:=zff h HS.out.symm
   have hsm:=zjn h HS.out.symm
   have HSM:=zh hsm; clear hsm
   have hv:=HV.out
   have hu:=HU.out
   obtain ⟨_,A,c,rfl,hc,hc2,_⟩:=hv
   obtain ⟨_,A2,c2,rfl,hc3,hc4,_⟩:=hu
   obtain ⟨n,hn⟩:=zx f.length
   obtain ⟨k,hk⟩:=zx h.length
   rw [<- hn,<- hk] at HE0
   rw [<- hn] at HV hlf hc ⊢
   rw [<- hk] at HU hlh hc3 ⊢
   have HN:=zh hn; clear hn
   have HK:=zh hk; clear hk
   by_cases h64:64 <= n + k
   ·have HE1:Hid (joinS op f h = ([],4)):=by unfold Hid; rw [HE0.out,<- HT.out,<- HS.out]; simp [h64]
    rcases hop3 with rfl | rfl
    all_goals
     go_enter Tryz.func20,Tryz.ntmps20
     go_wp2_with (go_at_call 46; first | (refine (za1 f _ _ HV.out).mono ?_; rintro e w1 ⟨rfl,hb1⟩; rw [<- HT.out]) | go_must (refine (za1 h _ _ (HU.out.below hb1 zn)).mono ?_; rintro e w2 ⟨rfl,hb2⟩; rw [<- HS.out]))
     go_returns
     exact ⟨.slice none 0 0,by rw [HE1.out]; rfl,hb1.trans (hb2.mono hb1.size),by rw [HE1.out]; exact MO.nil _ _⟩
   ·have HE1:Hid (joinS op f h = (f ++ h.map (mv n) ++ [⟨op,0,0,n - 1,n + k - 1⟩],0)):=by unfold Hid; rw [HE0.out,<- HT.out,<- HS.out]; simp [h64]
    rcases hop3 with rfl | rfl
    all_goals
     go_enter Tryz.func20,Tryz.ntmps20
     go_wp2_with (first
      | (go_at_call 46; first | (refine (za1 f _ _ HV.out).mono ?_; rintro e w1 ⟨rfl,hb1⟩; rw [<- HT.out]) | go_must (refine (za1 h _ _ (HU.out.below hb1 zn)).mono ?_; rintro e w2 ⟨rfl,hb2⟩; rw [<- HS.out]))
      | (go_at_call 53; go_must (refine (zo0 h _ n _ (HU.out.below (hb1.trans (hb2.mono hb1.size)) zn) (by rw [<- HK.out]; omega) (by rw [<- HK.out]; omega) HSM.out (by omega) (by omega)).mono ?_; rintro e w3 ⟨v3,rfl,hb3,ho3⟩; obtain ⟨g3,cap3,rfl,hg1,hg2⟩:=ho3.shape (n:=k) (by rw [List.length_map]; exact HK.out) (by omega); have hb123:=hb1.trans ((hb2.trans (hb3.mono hb2.size)).mono hb1.size)))
      | (go_at_call 52; go_must (refine (znc f (h.map (mv n)) _ _ _ _ (HV.out.below (B:=w.heap.size) (Below.alloc hb123 hb123.size _) zn) (ho3.below (B':=w3.heap.size) (by go_grown) zn).ms (Row.new _ _ _) (by rw [<- HN.out]; omega) (by rw [List.length_map,<- HN.out,<- HK.out]; omega)).mono ?_; rintro e w4 ⟨v4,rfl,hb4,ho4⟩; have hb1234:Below w.heap.size w w4:=Below.trans (b:=w3.alloc _) (Below.alloc hb123 hb123.size _) (hb4.mono (by have:=hb123.size; simp only [World.size_alloc]; omega)); have ho5:MO w4 w.heap.size v4 _:=ho4.mono (by have:=hb123.size; simp only [World.size_alloc]; omega); have HB5:=zh hb1234; obtain ⟨g4,cap4,rfl,hg3,hg4⟩:=ho5.shape (n:=n + k) (by rw [List.length_append,List.length_map,<- HN.out,<- HK.out]) (by omega); clear hb4 ho4))
      | (at_builtin; go_must (refine zay rfl (.tmp 39) (.tmp 48) rfl w.heap.size _ (f ++ h.map (mv n)) rfl (ho5.below (B':=w4.heap.size) (by go_grown) zn) _ [⟨_,0,0,n - 1,n + k - 1⟩] rfl (MS.one (Row.new _ _ _) (by dsimp only; omega) (by dsimp only; omega)) (by rw [List.length_append,List.length_map,<- HN.out,<- HK.out,List.length_singleton]; omega) (by have:=HB5.out.size; simp only [World.size_alloc]; omega) ?_; intro v6 w6 ho6 hg6 ht6)))
     go_returns
     exact ⟨v6,by rw [HE1.out]; rfl,zcz (v':=v6) (g:=f ++ h.map (mv n)) (Below.alloc HB5.out HB5.out.size _) (ho5.below (B':=w4.heap.size) (by go_grown) zn) hg6 (by have:=HB5.out.size; simp only [World.size_alloc]; omega),by rw [HE1.out]; exact ho6⟩
end Go.Proofs.YthdabkmkgkkmcaaGreatDoor

/- Part 16 of the proof; it says: lemmas and contracts. No conditions but those that each theorem states. -/
import Derived.Lib.AppendZeros
import Derived.Deep.RegionHeld3
import Derived.Deep.RegionLaw
import Derived.Test.YthdabkmkgkkmcaaGreatDoorPb01
import Derived.Test.YthdabkmkgkkmcaaGreatDoorPb15
set_option linter.unusedSimpArgs false
set_option linter.unusedVariables false
set_option maxRecDepth 100000
set_option maxHeartbeats 32000000
namespace Go.Proofs.YthdabkmkgkkmcaaGreatDoor
open Go.RowKit
theorem zk9 {w:World} {B g n cap:Nat} {f:List Lf} {m m':Lf} {j:Nat} (h:TO w B (.slice (some ⟨g,0,none⟩) n cap) f) (hn:f.length = n) (hj:f[j]? = some m) (q:Nat) (u:Value)
  (hm:0 <= m'.label /\ m'.label <= 255) (hc:m'.cells = m.cells.set q u) (hq:q < 3) :
  TO (w.setCell ⟨g,j * 3 + q,none⟩ u) B (.slice (some ⟨g,0,none⟩) n cap) (f.set j m'):=by
 obtain ⟨h0,h1⟩:=h
 subst hn
 have hs:=(h1.stored (j * 3 + q) u).1
 have hl:(f.set j m').length = f.length:=by simp
 have hjl:j < f.length:=(List.getElem?_eq_some_iff.1 hj).1
 refine ⟨fun a ha => ?_,?_⟩
 ·rcases List.mem_or_eq_of_mem_set ha with h | h
  ·exact h0 a h
  ·rw [h]; exact hm
 ·rw [hl]
  have e:zbk (f.set j m') = (zbk f).set (j * 3 + q) u:=by
   apply List.ext_getElem?
   intro i
   have hi:i = i / 3 * 3 + i % 3:=by omega
   by_cases hil:i < f.length * 3
   ·have h5:i / 3 < f.length:=by omega
    by_cases hij:i / 3 = j
    ·have e1:(f.set j m')[i / 3]? = some m':=by rw [hij,List.getElem?_set_self hjl]
     have e2:=zb8 (f.set j m') (i / 3) m' e1 (i % 3) (by omega)
     rw [<- hi] at e2
     rw [e2,hc,List.getElem?_set,List.getElem?_set]
     have hml:m.cells.length = 3:=rfl
     have hfl:=zc0 f
     by_cases hqq:q = i % 3
     ·rw [if_pos hqq,if_pos (by omega),if_pos (by omega),if_pos (by omega)]
     ·rw [if_neg hqq,if_neg (by omega)]
      have e3:=zb8 f (i / 3) m (by rw [hij]; exact hj) (i % 3) (by omega)
      rw [<- hi] at e3
      exact e3.symm
    ·obtain ⟨a,ha⟩:∃ a,f[i / 3]? = some a:=⟨f[i / 3],List.getElem?_eq_getElem h5⟩
     have e1:(f.set j m')[i / 3]? = some a:=by rw [List.getElem?_set_ne (by omega)]; exact ha
     have e2:=zb8 (f.set j m') (i / 3) a e1 (i % 3) (by omega)
     have e3:=zb8 f (i / 3) a ha (i % 3) (by omega)
     rw [<- hi] at e2 e3
     rw [e2,List.getElem?_set_ne (by omega),e3]
   ·rw [List.getElem?_eq_none (by rw [zc0,hl]; omega),List.getElem?_eq_none (by rw [List.length_set,zc0]; omega)]
  rw [e]; exact hs
theorem TO.shape {w:World} {B n:Nat} {v:Value} {f:List Lf} (h:TO w B v f) (hn:n = f.length) (hp:0 < n):∃ g cap,v = .slice (some ⟨g,0,none⟩) n cap /\ B <= g /\ g < w.heap.size:=by
 subst hn
 rcases h.2.2 with ⟨_,h0⟩ | ⟨g,cap,cur,hv,hB,hg,_⟩
 ·omega
 ·exact ⟨g,cap,hv,hB,lt_of_block hg⟩
theorem zhr {w:World} {B g n cap:Nat} {f:List Lf} (h:TO w B (.slice (some ⟨g,0,none⟩) n cap) f):∀ i,w.frozen? ⟨g,i,none⟩ = false:=by
 intro i
 rcases h.2.2 with ⟨h',_⟩ | ⟨g',cap',cur,h',_,hg,_⟩
 ·simp at h'
 ·simp only [Value.slice.injEq,Option.some.injEq,Addr.mk.injEq,and_true,true_and] at h'
  obtain ⟨rfl,_,_⟩:=h'
  exact frozen_of_row w g i cur _ hg
theorem TO.made {w:World} {n:Nat} (c:Array Value) (hc:c.size = n * 3) (hn:n <= 1000000):TO (w.alloc (.cells c 97)) w.heap.size (.slice (some ⟨w.heap.size,0,none⟩) 0 n) [] :=
 ⟨by simp [LbOk],World.ownsRow_made w c n zn (by simp only [maxLen]; omega) hc⟩
theorem zfk (f:List Lf) (v:Value) (w:World) (hv:TS w v f) (hl:f.length <= 1000000):Calls Tryz.prog 103 #[v] w (RetTO w f):=by
 have hnil:=fun (W:World) (A:Option Addr) (n c:Nat) => Lib.run_eql_slice_nil (P:=Tryz.prog) W 44 97 A n c 0 0 Tryz.underlying44
 have HV:=zh hv
 obtain ⟨hop,A,c,rfl,hc,hc2,hcell⟩:=hv
 cases A with
 | none =>
  have hf:f = []:=by
   cases f with
   | nil => rfl
   | cons m f => obtain ⟨_,_,h,_⟩:=hcell (by simp); cases h
  subst hf
  clear hcell
  go_enter Tryz.func103,Tryz.ntmps103
  go_wp2
  go_returns
  exact ⟨_,rfl,Below.refl _ _,TO.nil _ _⟩
 | some ad =>
  clear hcell
  go_enter Tryz.func103,Tryz.ntmps103
  go_wp2_with (at_builtin; go_must (refine zbb rfl (.tmp 5) (.tmp 6) rfl w.heap.size _ [] rfl (TO.made #[] rfl (by omega)) _ f rfl (HV.out.below (Below.alloc (Below.refl _ _) zn _) zn) (by simpa using hl) (by simp) ?_; intro v1 w1 ho1 hg1 _))
  go_returns
  exact ⟨v1,rfl,zde (v':=v1) (g:=f) (Below.alloc (Below.refl _ _) zn _) (TO.made #[] rfl (by omega)) hg1 (by simp),ho1⟩
theorem TO.made2 {w:World} {n:Nat} (c:Array Value) (hc:c.size = n * 3) (hn:n <= maxLen):TO (w.drew.alloc (.cells c 97)) w.heap.size (.slice (some ⟨w.heap.size,0,none⟩) 0 n) [] :=
 ⟨by simp [LbOk],World.ownsRow_made w.drew c n zn hn hc⟩
theorem zdk (cs:Array Value) (n:Nat):(Builtin.zeroCells cs n).size = n * cs.size:=by
 simp [Builtin.zeroCells]
theorem zka (n:Nat) (h0:0 < n) (hn:n <= 1000000) (w:World) (ty:TypeId) :
  ∃ cap w1,(Builtin.append_ #[44,3] ty #[.slice none 0 0,.int .i64 n]).run Tryz.prog w = .ok (.slice (some ⟨w.heap.size,0,none⟩) n cap) w1 /\ n <= cap /\ TO w1 w.heap.size (.slice (some ⟨w.heap.size,0,none⟩) 0 cap) [] /\ Below w.heap.size w w1:=by
 have hh:=zjm
 cases hi:Tryz.prog.info? 97 with
 | none => rw [hi] at hh; cases hh
 | some i =>
  rw [hi] at hh
  simp only [Option.map_some,Option.some.injEq,Prod.mk.injEq] at hh
  obtain ⟨hz,hs,hby⟩:=hh
  have hr:=Lib.run_append_nil_zeros (P:=Tryz.prog) w 44 3 ty 97 i _ .i64 .i64 Tryz.underlying44 Tryz.underlying3 hi hz n h0 (by omega) (by omega) (by rw [hby]; omega)
  refine ⟨_,_,hr,grownCap_ge _ _ _ _,TO.made2 _ ?_ (grownCap_le_maxLen _ _ _ _ (by simp only [maxLen]; omega)),by go_grown⟩
  have hge:=grownCap_ge w n 0 97
  rw [Array.size_append,zdk,zdk]
  have e:(Value.cells (.agg #[.int .u8 0,.int .i64 0,.int .i64 0])).size = 3:=by rfl
  rw [e]; omega
theorem zms (n:Nat) (h0:0 < n) (hn:n <= 1000000) (w:World) :
  Calls Tryz.prog 190 #[.slice none 0 0,.int .i64 n] w fun e w' => ∃ cap,e = .returned (.slice (some ⟨w.heap.size,0,none⟩) 0 cap) /\ Below w.heap.size w w' /\ TO w' w.heap.size (.slice (some ⟨w.heap.size,0,none⟩) 0 cap) []:=by
 obtain ⟨cap,w1,hr,hcap,ho,hb⟩:=zka n h0 hn w 44
 have HO:=zh ho; clear ho
 have HB:=zh hb; clear hb
 have HR:=zh hr; clear hr
 go_enter Tryz.func190,Tryz.ntmps190
 go_wp2_with (at_builtin; refine Lib.wpList_append_run _ rfl _ _ _ _ rfl _ _ rfl rfl _ _ HR.out ?_)
 go_returns
 exact ⟨_,rfl,HB.out,HO.out⟩
theorem zfw (f h l:List Lf) (v u z:Value) (gs:Nat) (w:World) (hv:TS w v f) (hu:TS w u h) (hz:TS w z l) (hr:Row w gs 44 #[v,u,z]) (h1:1 <= f.length) (hl:f.length + h.length + l.length <= 1000) :
  Calls Tryz.prog 177 #[.slice (some ⟨gs,0,none⟩) 3 3] w (RetTO w (f ++ h ++ l)):=by
 have HV:=zh hv
 have HU:=zh hu
 have HZ:=zh hz
 obtain ⟨_,A,c,rfl,_,_,_⟩:=hv
 obtain ⟨_,A2,c2,rfl,_,_,_⟩:=hu
 obtain ⟨_,A3,c3,rfl,_,_,_⟩:=hz
 obtain ⟨n,hn⟩:=zx f.length
 obtain ⟨k,hk⟩:=zx h.length
 obtain ⟨m,hm⟩:=zx l.length
 rw [<- hn,<- hk,<- hm] at hl
 rw [<- hn] at HV h1 hr
 rw [<- hk] at HU hr
 rw [<- hm] at HZ hr
 have HN:=zh hn; clear hn
 have HK:=zh hk; clear hk
 have HM:=zh hm; clear hm
 have rc:=hr.cell
 have rl:=hr.lt
 have HR:=zh hr; clear hr
 obtain ⟨T,hT⟩:∃ T:Nat -> Nat,T 0 = 0 /\ T 1 = n /\ T 2 = n + k /\ T 3 = n + k + m:=⟨fun j => if j = 0 then 0 else if j = 1 then n else if j = 2 then n + k else n + k + m,rfl,rfl,rfl,rfl⟩
 have HT:=zh hT; clear hT
 go_enter Tryz.func177,Tryz.ntmps177
 go_wp2
 go_loopg [3,11] 3 (fun gk s q wr => ∃ j:Nat,j <= 3 /\ gk = 3 - j /\ q = .int .i64 j /\ s = .int .i64 (T j) /\ wr = w)
 case atStart => exact ⟨0,by omega,rfl,rfl,by rw [HT.out.1]; rfl,rfl⟩
 case round =>
  obtain ⟨j,hj,rfl,rfl,rfl,hw⟩:=hrel
  have hw2:=hw.symm
  clear hw
  subst hw2
  have hj2:j = 0 \/ j = 1 \/ j = 2 \/ j = 3:=by omega
  rcases hj2 with rfl | rfl | rfl | rfl
  ·rw [HT.out.1]
   go_wp2
   go_roundg 2
   case rel => exact ⟨1,by omega,rfl,rfl,by rw [HT.out.2.1],rfl⟩
   case measure => omega
  ·rw [HT.out.2.1]
   go_wp2
   go_roundg 1
   case rel => exact ⟨2,by omega,rfl,rfl,by rw [HT.out.2.2.1]; go_num,rfl⟩
   case measure => omega
  ·rw [HT.out.2.2.1]
   go_wp2
   go_roundg 0
   case rel => exact ⟨3,by omega,rfl,rfl,by rw [HT.out.2.2.2]; go_num,rfl⟩
   case measure => omega
  ·rw [HT.out.2.2.2]
   have hgr:Calls Tryz.prog 190 #[.slice none 0 0,.int .i64 ((n:Int) + (k:Int) + (m:Int))] w (fun e w' => ∃ cap,e = .returned (.slice (some ⟨w.heap.size,0,none⟩) 0 cap) /\ Below w.heap.size w w' /\ TO w' w.heap.size (.slice (some ⟨w.heap.size,0,none⟩) 0 cap) []):=by
    have q:=zms (n + k + m) (by omega) (by omega) w
    rw [Int.natCast_add,Int.natCast_add] at q
    exact q
   have HGR:=zh hgr; clear hgr
   go_wp2_with (go_at_call 190; go_must (refine HGR.out.mono ?_; rintro e w1 ⟨cap,rfl,hb1,ho1⟩))
   have rc1:=(HR.out.below hb1 rl).cell
   have HB1:=zh hb1; clear hb1
   have HO1:=zh ho1; clear ho1
   go_loopg [6,27] 3 (fun gk s q wx => ∃ j:Nat,j <= 3 /\ gk = 3 - j /\ q = .int .i64 j /\ TO wx w.heap.size s (if j = 0 then [] else if j = 1 then f else if j = 2 then f ++ h else f ++ h ++ l) /\ Below w.heap.size w wx)
   case atStart => exact ⟨0,by omega,rfl,rfl,HO1.out,HB1.out⟩
   case round =>
    obtain ⟨j,hj,rfl,rfl,ho,hb⟩:=hrel
    have hj2:j = 0 \/ j = 1 \/ j = 2 \/ j = 3:=by omega
    have rc2:=(HR.out.below hb rl).cell
    clear rc1 rc
    have HB:=zh hb; clear hb
    rcases hj2 with rfl | rfl | rfl | rfl
    ·go_wp2_with (at_builtin; go_must (refine zbb rfl (.tmp 31) (.tmp 32) rfl w.heap.size _ [] rfl ho _ f rfl (HV.out.below HB.out zn) (by rw [<- HN.out,List.length_nil]; omega) HB.out.size ?_; intro v3 w3 ho3 hg3 ht3))
     go_roundg 2
     case rel => exact ⟨1,by omega,rfl,by go_num,ho3,zde (v':=v3) (g:=f) HB.out ho hg3 HB.out.size⟩
     case measure => omega
    ·go_wp2_with (at_builtin; go_must (refine zbb rfl (.tmp 31) (.tmp 32) rfl w.heap.size _ f rfl ho _ h rfl (HU.out.below HB.out zn) (by rw [<- HN.out,<- HK.out]; omega) HB.out.size ?_; intro v3 w3 ho3 hg3 ht3))
     go_roundg 1
     case rel => exact ⟨2,by omega,rfl,by go_num,ho3,zde (v':=v3) (g:=f) HB.out ho hg3 HB.out.size⟩
     case measure => omega
    ·go_wp2_with (at_builtin; go_must (refine zbb rfl (.tmp 31) (.tmp 32) rfl w.heap.size _ (f ++ h) rfl ho _ l rfl (HZ.out.below HB.out zn) (by rw [List.length_append,<- HN.out,<- HK.out,<- HM.out]; omega) HB.out.size ?_; intro v3 w3 ho3 hg3 ht3))
     go_roundg 0
     case rel => exact ⟨3,by omega,rfl,by go_num,ho3,zde (v':=v3) (g:=f) HB.out ho hg3 HB.out.size⟩
     case measure => omega
    ·go_wp2
     go_returns
     exact ⟨_,rfl,HB.out,ho⟩
theorem moved_i (c d:Int) (w:World) (h0:-4000000 <= c + d) (h1:c + d <= 4000000):Calls Tryz.prog 191 #[.int .i64 c,.int .i64 d] w fun e w' => e = .returned (.int .i64 (mvd c d)) /\ w = w':=by
 by_cases hc:c = -1
 ·have e:mvd c d = -1:=by unfold mvd; rw [if_pos hc]
  rw [e]
  subst hc
  clear e
  go_enter Tryz.func191,Tryz.ntmps191
  go_wp2
  go_returns
  exact ⟨rfl,rfl⟩
 ·have e:mvd c d = c + d:=by unfold mvd; rw [if_neg hc]
  have hb:(c == -1) = false:=by simp [hc]
  rw [e]
  clear e
  go_enter Tryz.func191,Tryz.ntmps191
  go_wp2
  go_returns
  exact ⟨rfl,rfl⟩
def zl8 (t:List Lf):Prop:=∀ m ∈ t,-1000000 <= m.left /\ m.left <= 1000000 /\ -1000000 <= m.right /\ m.right <= 1000000
theorem sh_step (d:Int) (f:List Lf) (k:Nat) (m:Lf) (h:f[k]? = some m):((f.take k).map (shL d) ++ f.drop k).set k (shL d m) = (f.take (k + 1)).map (shL d) ++ f.drop (k + 1):=by
 have hk:k < f.length:=(List.getElem?_eq_some_iff.1 h).1
 have hm:f[k] = m:=(List.getElem?_eq_some_iff.1 h).2
 have hl:((f.take k).map (shL d)).length = k:=by rw [List.length_map,List.length_take]; omega
 rw [List.set_append_right _ _ (by omega),hl,Nat.sub_self,List.drop_eq_getElem_cons hk,hm,List.set_cons_zero,List.take_succ_eq_append_getElem hk,hm]
 simp
theorem sh_get (d:Int) (f:List Lf) (k:Nat) (m:Lf) (h:f[k]? = some m):((f.take k).map (shL d) ++ f.drop k)[k]? = some m:=by
 have hk:k < f.length:=(List.getElem?_eq_some_iff.1 h).1
 have hl:((f.take k).map (shL d)).length = k:=by rw [List.length_map,List.length_take]; omega
 rw [List.getElem?_append_right (by omega),hl,Nat.sub_self,List.getElem?_drop,Nat.add_zero,h]
theorem zom {w:World} {B:Nat} {v:Value} {f:List Lf} (h:TO w B v f) (h0:f.length = 0):∃ A c,v = .slice A 0 c:=by
 rcases h.2.2 with ⟨hv,_⟩ | ⟨g,cap,cur,hv,_⟩
 ·exact ⟨none,0,hv⟩
 ·exact ⟨_,cap,by rw [hv,h0]⟩
theorem zjc (f:List Lf) (v:Value) (d:Int) (w:World) (hv:TS w v f) (hl:f.length <= 1000) (hs:zl8 f) (hd0:-1000 <= d) (hd1:d <= 1000) :
  Calls Tryz.prog 178 #[v,.int .i64 d] w (RetTO w (zcx d f)):=by
 have HV:=zh hv
 have HSM:=zh hs; clear hs
 obtain ⟨hop,A,c,rfl,hc1,hc2,_⟩:=hv
 obtain ⟨n,hn⟩:=zx f.length
 rw [<- hn] at hc1 HV hl ⊢
 have HN:=zh hn; clear hn
 have HOP:=zh hop; clear hop
 by_cases hp:n = 0
 ·subst hp
  go_enter Tryz.func178,Tryz.ntmps178
  go_wp2_with (go_at_call 103; go_must (refine (zfk f _ _ HV.out (by rw [<- HN.out]; omega)).mono ?_; rintro e w1 ⟨v1,rfl,hb1,ho1⟩; obtain ⟨A1,cc,rfl⟩:=zom ho1 HN.out.symm; have HB1:=zh hb1; have HO1:=zh ho1; clear hb1 ho1))
  refine wp_loop_rounds 1 ?_
  rw [rounds_succ]
  go_wp2
  go_returns
  have hf:f = []:=List.eq_nil_of_length_eq_zero HN.out.symm
  exact ⟨_,rfl,HB1.out,by have:=HO1.out; rw [hf] at this ⊢; exact this⟩
 have hp':1 <= n:=by omega
 clear hp
 go_enter Tryz.func178,Tryz.ntmps178
 go_wp2_with (go_at_call 103; go_must (refine (zfk f _ _ HV.out (by rw [<- HN.out]; omega)).mono ?_; rintro e w1 ⟨v1,rfl,hb1,ho1⟩; obtain ⟨g,cap,rfl,hg1,hg2⟩:=ho1.shape HN.out (by omega); have HB1:=zh hb1; have HO1:=zh ho1; clear hb1 ho1))
 go_loopg [12] n (fun gk q wr => ∃ k:Nat,k <= n /\ gk = n - k /\ q = .int .i64 k /\ Below w.heap.size w wr /\ g < wr.heap.size /\ TO wr w.heap.size (.slice (some ⟨g,0,none⟩) n cap) ((f.take k).map (shL d) ++ f.drop k))
 case atStart => exact ⟨0,Nat.zero_le _,rfl,rfl,HB1.out,hg2,by simpa using HO1.out⟩
 case round =>
  obtain ⟨k,hk,rfl,rfl,hb,hgw,ho⟩:=hrel
  have HB:=zh hb; clear hb
  have HO:=zh ho; clear ho
  by_cases hlt:k < n
  ·obtain ⟨m,hm⟩:∃ m,f[k]? = some m:=⟨f[k]'(by rw [<- HN.out]; exact hlt),List.getElem?_eq_getElem _⟩
   obtain ⟨m1,m2⟩:=HOP.out m (List.mem_of_getElem? hm)
   obtain ⟨s1,s2,s3,s4⟩:=HSM.out m (List.mem_of_getElem? hm)
   have hget:=sh_get d f k m hm
   have hstep:=sh_step d f k m hm
   have hlen:((f.take k).map (shL d) ++ f.drop k).length = n:=by rw [List.length_append,List.length_map,List.length_take,List.length_drop,<- HN.out]; omega
   have HG:=zh hget; clear hget
   have HST:=zh hstep; clear hstep
   have HL:=zh hlen; clear hlen
   generalize (f.take k).map (shL d) ++ f.drop k = L at *
   obtain ⟨c0,c1,c2⟩:=HO.out.ts.at3 HG.out
   simp only [Nat.zero_add] at c0 c1 c2
   have HM:=zh hm; clear hm
   have f1:=zhr HO.out (k * 3 + 1)
   have f2:=zhr HO.out (k * 3 + 2)
   have hk3:k * 3 + 1 < n * 3 /\ k * 3 + 2 < n * 3:=by omega
   have q1:=zk9 (m':={ m with left:=mvd m.left d }) HO.out HL.out HG.out 1 (.int .i64 (mvd m.left d)) ⟨m1,m2⟩ rfl (by omega)
   have q2:=zk9 (m':=shL d m) q1 (by rw [List.length_set]; exact HL.out) (List.getElem?_set_self (by rw [HL.out]; exact hlt)) 2 (.int .i64 (mvd m.right d)) ⟨m1,m2⟩ rfl (by omega)
   rw [List.set_set,HST.out] at q2
   have HQ2:=zh q2
   clear q1 q2 HST HG HL HM
   obtain ⟨lb,ml,mr⟩:=m
   simp only at c0 c1 c2 m1 m2 s1 s2 s3 s4
   go_wp2
   first | go_region_law (go_simp; go_at_call 191; refine (moved_i _ _ _ (by omega) (by omega)).mono ?_; rintro e w2 ⟨rfl,rfl⟩; try go_simp) | fail
   all_goals
    go_wp2
    go_roundg (n - (k + 1))
    case rel => exact ⟨k + 1,hlt,rfl,by go_num,by have hb:=HB.out; go_grown,by simp; omega,HQ2.out.below (B':=wr.heap.size) (by go_grown) (by simp)⟩
    case measure => omega
  ·go_wp2
   go_returns
   have e:k = n:=by omega
   have q:=HO.out
   rw [e,List.take_of_length_le (by rw [<- HN.out]; exact zn),List.drop_eq_nil_of_le (by rw [<- HN.out]; exact zn),List.append_nil] at q
   exact ⟨_,rfl,HB.out,q⟩
theorem zew {t:List Lf} (h:zae t = true):zl8 t:=by
 have h31:=(zfg h).1
 have hk:=kids_ok h
 intro m hm
 obtain ⟨i,hi⟩:=List.getElem?_of_mem hm
 have:=hk i m hi
 omega
theorem TS.one {w:World} {g:Nat} {a b c:Int} (h:Row w g 97 #[.int .u8 a,.int .i64 b,.int .i64 c]) (h0:0 <= a) (h1:a <= 255):TS w (.slice (some ⟨g,0,none⟩) 1 1) [⟨a,b,c⟩]:=by
 refine ⟨by simpa [LbOk] using ⟨h0,h1⟩,some ⟨g,0,none⟩,1,rfl,by simp,by omega,fun _ => ⟨g,0,rfl,h.lt,fun i m' hi => ?_⟩⟩
 cases i with
 | succ i => simp at hi
 | zero =>
  simp only [List.getElem?_cons_zero,Option.some.injEq] at hi
  subst hi
  have c:=h.cell
  exact ⟨by rw [c]; rfl,by rw [c]; rfl,by rw [c]; rfl⟩
theorem TS.lb {w:World} {v:Value} {f:List Lf} (h:TS w v f):LbOk f:=h.1
theorem zrk (lab X Y:Int) (f h:List Lf) (hX:X = if f.length = 0 then -1 else 1) (hY:Y = if h.length = 0 then -1 else 1 + (f.length:Int)):[⟨lab,X,Y⟩] ++ zcx 1 f ++ zcx (1 + (f.length:Int)) h = joinT lab f h:=by
 unfold joinT
 rw [hX,hY]
 simp
theorem TS.form {w:World} {v:Value} {f:List Lf} (h:TS w v f):∃ A c,v = .slice A f.length c:=by
 obtain ⟨_,A,c,rfl,_⟩:=h
 exact ⟨A,c,rfl⟩
theorem zlc (w:World) (o:Obj) (t:TypeId) (cs:Array Value):Row ((w.alloc o).alloc (.cells cs t)) (w.heap.size + 1) t cs:=by
 have q:=Row.new (w.alloc o) t cs
 rwa [World.size_alloc] at q
theorem zh1 {W:World} {g:Nat} {t:TypeId} {a b c:Value} (h:Row W g t #[a,b,c]):W.cell? ⟨g,0,none⟩ = some a /\ W.cell? ⟨g,1,none⟩ = some b /\ W.cell? ⟨g,2,none⟩ = some c:=⟨h.cell 0,h.cell 1,h.cell 2⟩
theorem join_t (lab:Int) (f h:List Lf) (v u:Value) (w:World) (hv:TS w v f) (hu:TS w u h) (h0:0 <= lab) (h1:lab <= 255) (sf:zl8 f) (sh:zl8 h) (hl:f.length + h.length <= 100) :
  Calls Tryz.prog 159 #[.int .u8 lab,v,u] w (RetTO w (joinT lab f h)):=by
 have HV:=zh hv; have HU:=zh hu
 obtain ⟨_,A,c,rfl,hc1,hc2,_⟩:=hv
 obtain ⟨_,A2,d,rfl,hd1,hd2,_⟩:=hu
 obtain ⟨X,hX⟩:∃ X:Int,X = if f.length = 0 then -1 else 1:=⟨_,rfl⟩
 obtain ⟨Y,hY⟩:∃ Y:Int,Y = if h.length = 0 then -1 else 1 + (f.length:Int):=⟨_,rfl⟩
 have HJ:=zh (zrk lab X Y f h hX hY)
 obtain ⟨n,hn⟩:=zx f.length
 obtain ⟨k,hk⟩:=zx h.length
 have HS1:=zh (fun W (hW:TS W (.slice A f.length c) f) => zjc f _ 1 W hW (by omega) sf (by omega) (by omega))
 obtain ⟨D,hD⟩:∃ D:Int,D = 1 + (f.length:Int):=⟨_,rfl⟩
 have HS2:=zh (fun W (hW:TS W (.slice A2 h.length d) h) => zjc h _ D W hW (by omega) sh (by omega) (by omega))
 have HSL:Hid ((zcx 1 f).length = n /\ (zcx D h).length = k):=⟨by rw [zhm,hn],by rw [zhm,hk]⟩
 rw [<- hD] at HJ
 rw [<- hn] at hX hY hD hl hc1 HV HS1 ⊢
 rw [<- hk] at hY hl hd1 HU HS2
 obtain ⟨F1,hF1⟩:=zx (zcx 1 f)
 obtain ⟨F2,hF2⟩:=zx (zcx D h)
 rw [<- hF1] at HS1 HSL HJ
 rw [<- hF2] at HS2 HSL HJ
 rw [<- HJ.out,<- hk]
 clear hn hk sf sh hF1 hF2
 rcases Nat.eq_zero_or_pos n with hn0 | hn0 <;> rcases Nat.eq_zero_or_pos k with hk0 | hk0
 all_goals
  have e:X = (if n = 0 then -1 else 1) /\ Y = (if k = 0 then -1 else D) /\ D = 1 + (n:Int):=⟨hX,by rw [hD]; exact hY,hD⟩
  clear hX hY hD
  first | (have e1:X = -1:=by rw [e.1,if_pos hn0]) | (have e1:X = 1:=by rw [e.1,if_neg (by omega)])
  first | (have e2:Y = -1:=by rw [e.2.1,if_pos hk0]) | (have e2:Y = D:=by rw [e.2.1,if_neg (by omega)])
  first | (have e3:D = 1:=by rw [e.2.2,hn0]; rfl) | have e3:=e.2.2
  clear e
  have hDw:D = IntKind.i64.wrap D:=(IntWalk.i64_in _ ⟨by omega,by omega⟩).symm
  rw [hDw,e3] at HS2
  clear hDw
  first | rw [e3] at e2 | skip
  have HE:=zh e1; have HE2:=zh e2
  clear e1 e2 e3 D
  first | subst hn0 | skip
  first | subst hk0 | skip
  go_enter Tryz.func159,Tryz.ntmps159
  go_upto_region 6 with (fail)
  refine zaa (fun W => Row W w.heap.size 97 #[.int .u8 lab,.int .i64 X,.int .i64 Y] /\ Below w.heap.size w W) ⟨by rw [HE.out,HE2.out]; first | exact (Row.new _ _ _) | exact ((Row.new _ _ _).set _ _) | exact (((Row.new _ _ _).set _ _).set _ _),by go_grown⟩ ?_
  rintro wc ⟨hr,hb⟩
  have HR:=zh hr; have HB:=zh hb
  have rl:=hr.lt
  clear hr hb HE HE2 HJ
  go_region_held3 (fun W => W.cell? ⟨w.heap.size,0,none⟩ = some (.int .u8 lab) /\ W.cell? ⟨w.heap.size,1,none⟩ = some (.int .i64 X) /\ W.cell? ⟨w.heap.size,2,none⟩ = some (.int .i64 Y)) (first | exact zh1 HR.out | exact zh1 HR.out.drew | exact zh1 (HR.out.alloc _) | exact zh1 (HR.out.alloc _).drew | exact zh1 (HR.out.drew.alloc _) | exact zh1 ((HR.out.alloc _).alloc _)) (first
   | (go_at_call 178; (with_reducible refine (HS1.out _ (HV.out.below (HB.out.alloc HB.out.size _).drew zn)).mono ?_); rintro e w1 ⟨v1,rfl,hb1,ho1⟩; obtain ⟨A1,c1,rfl⟩:=ho1.ts.form; have HQ:=zh ((Row.new wc _ _).drew.below hb1 (by simp)); replace HR:=zh ((HR.out.alloc _).drew.below hb1 (by have:=HR.out.lt; simp; omega)); have H1:=zh ho1.ts; replace HB:Hid (Below w.heap.size w w1):=Below.trans (HB.out.alloc HB.out.size _).drew (hb1.mono (by have:=HB.out.size; simp; omega)); clear hb1 ho1)
   | (go_at_call 178; (with_reducible refine (HS1.out _ (HV.out.below HB.out.drew zn)).mono ?_); rintro e w1 ⟨v1,rfl,hb1,ho1⟩; obtain ⟨A1,c1,rfl⟩:=ho1.ts.form; replace HR:=zh (HR.out.drew.below hb1 (by have:=HR.out.lt; simp; omega)); have H1:=zh ho1.ts; replace HB:Hid (Below w.heap.size w w1):=Below.trans HB.out.drew (hb1.mono (by have:=HB.out.size; simp; omega)); clear hb1 ho1)
   | (go_at_call 178; (with_reducible refine (HS2.out _ (HU.out.below HB.out zn)).mono ?_); rintro e w2 ⟨v2,rfl,hb2,ho2⟩; obtain ⟨A3,c3,rfl⟩:=ho2.ts.form; (first | (replace HQ:=zh (HQ.out.below hb2 HQ.out.lt)) | skip); replace HR:=zh (HR.out.below hb2 HR.out.lt); replace H1:=zh (H1.out.below hb2 zn); have H2:=zh ho2.ts; replace HB:=zh (HB.out.trans (hb2.mono HB.out.size)); clear hb2 ho2)
   | (go_at_call 178; (with_reducible refine (HS2.out _ (HU.out.below (HB.out.alloc HB.out.size _) zn)).mono ?_); rintro e w2 ⟨v2,rfl,hb2,ho2⟩; obtain ⟨A3,c3,rfl⟩:=ho2.ts.form; have HQ:=zh ((Row.new w1 _ _).below hb2 (by simp)); replace HR:=zh ((HR.out.alloc _).below hb2 (by have:=HR.out.lt; simp; omega)); replace H1:=zh ((H1.out.below (Below.alloc (Below.refl _ _) zn _) zn).below hb2 zn); have H2:=zh ho2.ts; replace HB:Hid (Below w.heap.size w w2):=Below.trans (HB.out.alloc HB.out.size _) (hb2.mono (by have:=HB.out.size; simp; omega)); clear hb2 ho2)
   | (go_at_call 177; have hal:∀ o,Below w2.heap.size w2 (w2.alloc o):=(fun o => Below.alloc (Below.refl _ _) zn o); (with_reducible refine (zfw [⟨lab,X,Y⟩] F1 F2 _ _ _ _ _ ((TS.one HQ.out h0 h1).below (hal _) zn) (H1.out.below (hal _) zn) (H2.out.below (hal _) zn) (Row.new _ _ _) (by simp) (by simp only [List.length_singleton]; have:=HSL.out; omega)).mono ?_); rintro e w4 ⟨v4,rfl,hb4,ho4⟩; have HBF:Hid (Below w.heap.size w w4):=(HB.out.trans ((hal _).mono HB.out.size)).trans (hb4.mono (by have:=HB.out.size; simp; omega)); have H4:=zh (ho4.mono (B':=w.heap.size) (by have:=HB.out.size; simp; omega)); replace HR:=zh ((HR.out.alloc _).below hb4 (by have:=HR.out.lt; simp; omega)); clear hb4 ho4)
   | (go_at_call 177; have hal:∀ o p,Below w2.heap.size w2 ((w2.alloc o).alloc p):=(fun o p => Below.alloc (Below.alloc (Below.refl _ _) zn o) (by simp) p); (with_reducible refine (zfw [⟨lab,X,Y⟩] F1 F2 _ _ _ _ _ (TS.one ((Row.new w2 _ _).alloc _) h0 h1) (H1.out.below (hal _ _) zn) (H2.out.below (hal _ _) zn) (zlc _ _ _ _) (by simp) (by simp only [List.length_singleton]; have:=HSL.out; omega)).mono ?_); rintro e w4 ⟨v4,rfl,hb4,ho4⟩; have HBF:Hid (Below w.heap.size w w4):=(HB.out.trans ((hal _ _).mono HB.out.size)).trans (hb4.mono (by have:=HB.out.size; simp; omega)); have H4:=zh (ho4.mono (B':=w.heap.size) (by have:=HB.out.size; simp; omega)); replace HR:=zh (((HR.out.alloc _).alloc _).below hb4 (by have:=HR.out.lt; simp; omega)); clear hb4 ho4))
  all_goals
   go_wp2_with fail
   go_returns
   exact ⟨v4,rfl,HBF.out,H4.out⟩
def RetTT (w:World) (t:List Lf) (e:Int) (en:Ending) (w':World):Prop:=∃ v,en = .returned (.tuple #[v,.int .i64 e]) /\ Below w.heap.size w w' /\ TO w' w.heap.size v t
def joinE (lab:Int) (l r:List Lf):List Lf × Int:=if zae l = false \/ zae r = false then ([],2) else if 31 <= l.length + r.length then ([],4) else (joinT lab l r,0)
theorem zqi (lab:Int) (l r:List Lf) (v u:Value) (w:World) (hv:TS w v l) (hu:TS w u r) (h0:0 <= lab) (h1:lab <= 255) :
  Calls Tryz.prog 139 #[.int .u8 lab,v,u] w (RetTT w (joinE lab l r).1 (joinE lab l r).2):=by
 have HV:=zh hv
 have HU:=zh hu
 have HFL:=zh (fun W (hW:TS W v l) => zcg l v W hW)
 have HFR:=zh (fun W (hW:TS W u r) => zcg r u W hW)
 obtain ⟨R,hR⟩:=zx (joinE lab l r)
 rw [<- hR]
 unfold joinE at hR
 have HR:=zh hR; clear hR
 obtain ⟨_,A,c,rfl,hc1,hc2,_⟩:=hv
 obtain ⟨_,A2,d,rfl,hd1,hd2,_⟩:=hu
 by_cases hl:zae l = true
 ·by_cases hr:zae r = true
  ·have l31:=(zdh hl).1
   have r31:=(zdh hr).1
   have HJ:=zh (fun W (h1':TS W (.slice A l.length c) l) (h2':TS W (.slice A2 r.length d) r) => join_t lab l r _ _ W h1' h2' h0 h1 (zew hl) (zew hr) (by omega))
   rw [hl] at HFL
   rw [hr] at HFR
   have HR2:Hid (R = if 31 <= l.length + r.length then ([],4) else (joinT lab l r,0)):=by rw [Hid,HR.out,if_neg (by simp [hl,hr])]
   clear HR hl hr
   obtain ⟨n,hn⟩:=zx l.length
   obtain ⟨m,hm⟩:=zx r.length
   rw [<- hn] at hc1 HV HFL HJ l31 HR2 ⊢
   rw [<- hm] at hd1 HU HFR HJ r31 HR2 ⊢
   clear hn hm
   by_cases hs:31 <= n + m
   ·rw [if_pos hs] at HR2
    have hsi:(31:Int) <= (n:Int) + (m:Int):=by omega
    go_enter Tryz.func139,Tryz.ntmps139
    go_wp2_with (first
     | (go_at_call 61; (with_reducible refine (HFL.out _ HV.out).mono ?_); rintro e w1 ⟨rfl,hb1⟩; have HB:=zh hb1; clear hb1)
     | (go_at_call 61; go_must ((with_reducible refine (HFR.out _ (HU.out.below HB.out zn)).mono ?_); rintro e w2 ⟨rfl,hb1⟩; replace HB:=zh (HB.out.trans (hb1.mono HB.out.size)); clear hb1)))
    go_returns
    rw [HR2.out]
    exact ⟨_,rfl,HB.out,TO.nil _ _⟩
   ·rw [if_neg hs] at HR2
    have hsi:(n:Int) + (m:Int) < 31:=by omega
    go_enter Tryz.func139,Tryz.ntmps139
    go_wp2_with (first
     | (go_at_call 61; (with_reducible refine (HFL.out _ HV.out).mono ?_); rintro e w1 ⟨rfl,hb1⟩; have HB:=zh hb1; clear hb1)
     | (go_at_call 61; go_must ((with_reducible refine (HFR.out _ (HU.out.below HB.out zn)).mono ?_); rintro e w2 ⟨rfl,hb1⟩; replace HB:=zh (HB.out.trans (hb1.mono HB.out.size)); clear hb1))
     | (go_at_call 159; go_must ((with_reducible refine (HJ.out _ (HV.out.below HB.out zn) (HU.out.below HB.out zn)).mono ?_); rintro e w3 ⟨v3,rfl,hb3,ho3⟩; have HO:=zh (ho3.mono HB.out.size); replace HB:=zh (HB.out.trans (hb3.mono HB.out.size)); clear hb3 ho3)))
    go_returns
    rw [HR2.out]
    exact ⟨v3,rfl,HB.out,HO.out⟩
  ·have hr':zae r = false:=by simpa using hr
   rw [hl] at HFL
   rw [hr'] at HFR
   have HR2:Hid (R = ([],2)):=by rw [Hid,HR.out,if_pos (.inr hr')]
   clear HR hl hr hr'
   go_enter Tryz.func139,Tryz.ntmps139
   go_wp2_with (first
    | (go_at_call 61; (with_reducible refine (HFL.out _ HV.out).mono ?_); rintro e w1 ⟨rfl,hb1⟩; have HB:=zh hb1; clear hb1)
    | (go_at_call 61; go_must ((with_reducible refine (HFR.out _ (HU.out.below HB.out zn)).mono ?_); rintro e w2 ⟨rfl,hb1⟩; replace HB:=zh (HB.out.trans (hb1.mono HB.out.size)); clear hb1)))
   go_returns
   rw [HR2.out]
   exact ⟨_,rfl,HB.out,TO.nil _ _⟩
 ·have hl':zae l = false:=by simpa using hl
  rw [hl'] at HFL
  have HR2:Hid (R = ([],2)):=by rw [Hid,HR.out,if_pos (.inl hl')]
  clear HR hl hl'
  go_enter Tryz.func139,Tryz.ntmps139
  go_wp2_with (go_at_call 61; go_must ((with_reducible refine (HFL.out _ HV.out).mono ?_); rintro e w1 ⟨rfl,hb1⟩; have HB:=zh hb1; clear hb1))
  go_returns
  rw [HR2.out]
  exact ⟨_,rfl,HB.out,TO.nil _ _⟩
end Go.Proofs.YthdabkmkgkkmcaaGreatDoor

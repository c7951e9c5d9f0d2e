/- Part 18 of the proof; it says: lemmas and contracts. No conditions but those that each theorem states. -/
import Derived.Lib.AppendZeros
import Derived.Deep.RegionHeld3
import Derived.Deep.RegionLaw
import Derived.Test.YthkfjnmnoanhlaaGreatDoorPr01
import Derived.Test.YthkfjnmnoanhlaaGreatDoorPr04
import Derived.Test.YthkfjnmnoanhlaaGreatDoorPr17
set_option linter.unusedSimpArgs false
set_option linter.unusedVariables false
set_option maxRecDepth 100000
set_option maxHeartbeats 32000000
namespace Go.Proofs.YthkfjnmnoanhlaaGreatDoor
open Go.RowKit
theorem zkx {w:World} {B g n cap:Nat} {f:List Lf} {m m':Lf} {j:Nat} (h:TO w B (.slice (some ⟨g,0,none⟩) n cap) f) (hn:f.length = n) (hj:f[j]? = some m) (q:Nat) (u:Value)
  (hm:0 <= m'.label /\ m'.label <= 255) (hc:m'.cells = m.cells.set q u) (hq:q < 3) :
  TO (w.setCell ⟨g,j * 3 + q,none⟩ u) B (.slice (some ⟨g,0,none⟩) n cap) (f.set j m'):=by
 obtain ⟨h0,h1⟩:=h
 subst hn
 have hs:=(h1.stored (j * 3 + q) u).1
 have hl:(f.set j m').length = f.length:=by simp
 have hjl:j < f.length:=(List.getElem?_eq_some_iff.1 hj).1
 refine ⟨fun a ha => ?_,?_⟩
 ·rcases List.mem_or_eq_of_mem_set ha with h | h
  ·exact h0 a h
  ·rw [h]; exact hm
 ·rw [hl]
  have e:za6 (f.set j m') = (za6 f).set (j * 3 + q) u:=by
   apply List.ext_getElem?
   intro i
   have hi:i = i / 3 * 3 + i % 3:=by omega
   by_cases hil:i < f.length * 3
   ·have h5:i / 3 < f.length:=by omega
    by_cases hij:i / 3 = j
    ·have e1:(f.set j m')[i / 3]? = some m':=by rw [hij,List.getElem?_set_self hjl]
     have e2:=zbw (f.set j m') (i / 3) m' e1 (i % 3) (by omega)
     rw [<- hi] at e2
     rw [e2,hc,List.getElem?_set,List.getElem?_set]
     have hml:m.cells.length = 3:=rfl
     have hfl:=zcm f
     by_cases hqq:q = i % 3
     ·rw [if_pos hqq,if_pos (by omega),if_pos (by omega),if_pos (by omega)]
     ·rw [if_neg hqq,if_neg (by omega)]
      have e3:=zbw f (i / 3) m (by rw [hij]; exact hj) (i % 3) (by omega)
      rw [<- hi] at e3
      exact e3.symm
    ·obtain ⟨a,ha⟩:∃ a,f[i / 3]? = some a:=⟨f[i / 3],List.getElem?_eq_getElem h5⟩
     have e1:(f.set j m')[i / 3]? = some a:=by rw [List.getElem?_set_ne (by omega)]; exact ha
     have e2:=zbw (f.set j m') (i / 3) a e1 (i % 3) (by omega)
     have e3:=zbw f (i / 3) a ha (i % 3) (by omega)
     rw [<- hi] at e2 e3
     rw [e2,List.getElem?_set_ne (by omega),e3]
   ·rw [List.getElem?_eq_none (by rw [zcm,hl]; omega),List.getElem?_eq_none (by rw [List.length_set,zcm]; omega)]
  rw [e]; exact hs
theorem TO.shape {w:World} {B n:Nat} {v:Value} {f:List Lf} (h:TO w B v f) (hn:n = f.length) (hp:0 < n):∃ g cap,v = .slice (some ⟨g,0,none⟩) n cap /\ B <= g /\ g < w.heap.size:=by
 subst hn
 rcases h.2.2 with ⟨_,h0⟩ | ⟨g,cap,cur,hv,hB,hg,_⟩
 ·omega
 ·exact ⟨g,cap,hv,hB,lt_of_block hg⟩
theorem zg5 {w:World} {B g n cap:Nat} {f:List Lf} (h:TO w B (.slice (some ⟨g,0,none⟩) n cap) f):∀ i,w.frozen? ⟨g,i,none⟩ = false:=by
 intro i
 rcases h.2.2 with ⟨h',_⟩ | ⟨g',cap',cur,h',_,hg,_⟩
 ·simp at h'
 ·simp only [Value.slice.injEq,Option.some.injEq,Addr.mk.injEq,and_true,true_and] at h'
  obtain ⟨rfl,_,_⟩:=h'
  exact frozen_of_row w g i cur _ hg
theorem TO.made {w:World} {n:Nat} (c:Array Value) (hc:c.size = n * 3) (hn:n <= 1000000):TO (w.alloc (.cells c 61)) w.heap.size (.slice (some ⟨w.heap.size,0,none⟩) 0 n) [] :=
 ⟨by simp [LbOk],World.ownsRow_made w c n zn (by simp only [maxLen]; omega) hc⟩
theorem ze0 (f:List Lf) (v:Value) (w:World) (hv:TS w v f) (hl:f.length <= 1000000):Calls Tryz.prog 67 #[v] w (RetTO w f):=by
 have hnil:=fun (W:World) (A:Option Addr) (n c:Nat) => Lib.run_eql_slice_nil (P:=Tryz.prog) W 34 61 A n c 0 0 Tryz.underlying34
 have HV:=zh hv
 obtain ⟨hop,A,c,rfl,hc,hc2,hcell⟩:=hv
 cases A with
 | none =>
  have hf:f = []:=by
   cases f with
   | nil => rfl
   | cons m f => obtain ⟨_,_,h,_⟩:=hcell (by simp); cases h
  subst hf
  clear hcell
  go_enter Tryz.func67,Tryz.ntmps67
  go_wp2
  go_returns
  exact ⟨_,rfl,Below.refl _ _,TO.nil _ _⟩
 | some ad =>
  clear hcell
  go_enter Tryz.func67,Tryz.ntmps67
  go_wp2_with (at_builtin; go_must (refine zau rfl (.tmp 5) (.tmp 6) rfl w.heap.size _ [] rfl (TO.made #[] rfl (by omega)) _ f rfl (HV.out.below (Below.alloc (Below.refl _ _) zn _) zn) (by simpa using hl) (by simp) ?_; intro v1 w1 ho1 hg1 _))
  go_returns
  exact ⟨v1,rfl,zba (v':=v1) (g:=f) (Below.alloc (Below.refl _ _) zn _) (TO.made #[] rfl (by omega)) hg1 (by simp),ho1⟩
theorem TO.made2 {w:World} {n:Nat} (c:Array Value) (hc:c.size = n * 3) (hn:n <= maxLen):TO (w.drew.alloc (.cells c 61)) w.heap.size (.slice (some ⟨w.heap.size,0,none⟩) 0 n) [] :=
 ⟨by simp [LbOk],World.ownsRow_made w.drew c n zn hn hc⟩
theorem zc3 (cs:Array Value) (n:Nat):(Builtin.zeroCells cs n).size = n * cs.size:=by
 simp [Builtin.zeroCells]
theorem zjv (n:Nat) (h0:0 < n) (hn:n <= 1000000) (w:World) (ty:TypeId) :
  ∃ cap w1,(Builtin.append_ #[34,3] ty #[.slice none 0 0,.int .i64 n]).run Tryz.prog w = .ok (.slice (some ⟨w.heap.size,0,none⟩) n cap) w1 /\ n <= cap /\ TO w1 w.heap.size (.slice (some ⟨w.heap.size,0,none⟩) 0 cap) [] /\ Below w.heap.size w w1:=by
 have hh:=zi5
 cases hi:Tryz.prog.info? 61 with
 | none => rw [hi] at hh; cases hh
 | some i =>
  rw [hi] at hh
  simp only [Option.map_some,Option.some.injEq,Prod.mk.injEq] at hh
  obtain ⟨hz,hs,hby⟩:=hh
  have hr:=Lib.run_append_nil_zeros (P:=Tryz.prog) w 34 3 ty 61 i _ .i64 .i64 Tryz.underlying34 Tryz.underlying3 hi hz n h0 (by omega) (by omega) (by rw [hby]; omega)
  refine ⟨_,_,hr,grownCap_ge _ _ _ _,TO.made2 _ ?_ (grownCap_le_maxLen _ _ _ _ (by simp only [maxLen]; omega)),by go_grown⟩
  have hge:=grownCap_ge w n 0 61
  rw [Array.size_append,zc3,zc3]
  have e:(Value.cells (.agg #[.int .u8 0,.int .i64 0,.int .i64 0])).size = 3:=by rfl
  rw [e]; omega
theorem zmi (n:Nat) (h0:0 < n) (hn:n <= 1000000) (w:World) :
  Calls Tryz.prog 157 #[.slice none 0 0,.int .i64 n] w fun e w' => ∃ cap,e = .returned (.slice (some ⟨w.heap.size,0,none⟩) 0 cap) /\ Below w.heap.size w w' /\ TO w' w.heap.size (.slice (some ⟨w.heap.size,0,none⟩) 0 cap) []:=by
 obtain ⟨cap,w1,hr,hcap,ho,hb⟩:=zjv n h0 hn w 34
 have HO:=zh ho; clear ho
 have HB:=zh hb; clear hb
 have HR:=zh hr; clear hr
 go_enter Tryz.func157,Tryz.ntmps157
 go_wp2_with (at_builtin; refine Lib.wpList_append_run _ rfl _ _ _ _ rfl _ _ rfl rfl _ _ HR.out ?_)
 go_returns
 exact ⟨_,rfl,HB.out,HO.out⟩
theorem ze9 (f h l:List Lf) (v u z:Value) (gs:Nat) (w:World) (hv:TS w v f) (hu:TS w u h) (hz:TS w z l) (hr:Row w gs 34 #[v,u,z]) (h1:1 <= f.length) (hl:f.length + h.length + l.length <= 1000) :
  Calls Tryz.prog 151 #[.slice (some ⟨gs,0,none⟩) 3 3] w (RetTO w (f ++ h ++ l)):=by
 have HV:=zh hv
 have HU:=zh hu
 have HZ:=zh hz
 obtain ⟨_,A,c,rfl,_,_,_⟩:=hv
 obtain ⟨_,A2,c2,rfl,_,_,_⟩:=hu
 obtain ⟨_,A3,c3,rfl,_,_,_⟩:=hz
 obtain ⟨n,hn⟩:=zx f.length
 obtain ⟨k,hk⟩:=zx h.length
 obtain ⟨m,hm⟩:=zx l.length
 rw [<- hn,<- hk,<- hm] at hl
 rw [<- hn] at HV h1 hr
 rw [<- hk] at HU hr
 rw [<- hm] at HZ hr
 have HN:=zh hn; clear hn
 have HK:=zh hk; clear hk
 have HM:=zh hm; clear hm
 have rc:=hr.cell
 have rl:=hr.lt
 have HR:=zh hr; clear hr
 obtain ⟨T,hT⟩:∃ T:Nat -> Nat,T 0 = 0 /\ T 1 = n /\ T 2 = n + k /\ T 3 = n + k + m:=⟨fun j => if j = 0 then 0 else if j = 1 then n else if j = 2 then n + k else n + k + m,rfl,rfl,rfl,rfl⟩
 have HT:=zh hT; clear hT
 go_enter Tryz.func151,Tryz.ntmps151
 go_wp2
 go_loopg [3,11] 3 (fun gk s q wr => ∃ j:Nat,j <= 3 /\ gk = 3 - j /\ q = .int .i64 j /\ s = .int .i64 (T j) /\ wr = w)
 case atStart => exact ⟨0,by omega,rfl,rfl,by rw [HT.out.1]; rfl,rfl⟩
 case round =>
  obtain ⟨j,hj,rfl,rfl,rfl,hw⟩:=hrel
  have hw2:=hw.symm
  clear hw
  subst hw2
  have hj2:j = 0 \/ j = 1 \/ j = 2 \/ j = 3:=by omega
  rcases hj2 with rfl | rfl | rfl | rfl
  ·rw [HT.out.1]
   go_wp2
   go_roundg 2
   case rel => exact ⟨1,by omega,rfl,rfl,by rw [HT.out.2.1],rfl⟩
   case measure => omega
  ·rw [HT.out.2.1]
   go_wp2
   go_roundg 1
   case rel => exact ⟨2,by omega,rfl,rfl,by rw [HT.out.2.2.1]; go_num,rfl⟩
   case measure => omega
  ·rw [HT.out.2.2.1]
   go_wp2
   go_roundg 0
   case rel => exact ⟨3,by omega,rfl,rfl,by rw [HT.out.2.2.2]; go_num,rfl⟩
   case measure => omega
  ·rw [HT.out.2.2.2]
   have hgr:Calls Tryz.prog 157 #[.slice none 0 0,.int .i64 ((n:Int) + (k:Int) + (m:Int))] w (fun e w' => ∃ cap,e = .returned (.slice (some ⟨w.heap.size,0,none⟩) 0 cap) /\ Below w.heap.size w w' /\ TO w' w.heap.size (.slice (some ⟨w.heap.size,0,none⟩) 0 cap) []):=by
    have q:=zmi (n + k + m) (by omega) (by omega) w
    rw [Int.natCast_add,Int.natCast_add] at q
    exact q
   have HGR:=zh hgr; clear hgr
   go_wp2_with (go_at_call 157; go_must (refine HGR.out.mono ?_; rintro e w1 ⟨cap,rfl,hb1,ho1⟩))
   have rc1:=(HR.out.below hb1 rl).cell
   have HB1:=zh hb1; clear hb1
   have HO1:=zh ho1; clear ho1
   go_loopg [6,27] 3 (fun gk s q wx => ∃ j:Nat,j <= 3 /\ gk = 3 - j /\ q = .int .i64 j /\ TO wx w.heap.size s (if j = 0 then [] else if j = 1 then f else if j = 2 then f ++ h else f ++ h ++ l) /\ Below w.heap.size w wx)
   case atStart => exact ⟨0,by omega,rfl,rfl,HO1.out,HB1.out⟩
   case round =>
    obtain ⟨j,hj,rfl,rfl,ho,hb⟩:=hrel
    have hj2:j = 0 \/ j = 1 \/ j = 2 \/ j = 3:=by omega
    have rc2:=(HR.out.below hb rl).cell
    clear rc1 rc
    have HB:=zh hb; clear hb
    rcases hj2 with rfl | rfl | rfl | rfl
    ·go_wp2_with (at_builtin; go_must (refine zau rfl (.tmp 31) (.tmp 32) rfl w.heap.size _ [] rfl ho _ f rfl (HV.out.below HB.out zn) (by rw [<- HN.out,List.length_nil]; omega) HB.out.size ?_; intro v3 w3 ho3 hg3 ht3))
     go_roundg 2
     case rel => exact ⟨1,by omega,rfl,by go_num,ho3,zba (v':=v3) (g:=f) HB.out ho hg3 HB.out.size⟩
     case measure => omega
    ·go_wp2_with (at_builtin; go_must (refine zau rfl (.tmp 31) (.tmp 32) rfl w.heap.size _ f rfl ho _ h rfl (HU.out.below HB.out zn) (by rw [<- HN.out,<- HK.out]; omega) HB.out.size ?_; intro v3 w3 ho3 hg3 ht3))
     go_roundg 1
     case rel => exact ⟨2,by omega,rfl,by go_num,ho3,zba (v':=v3) (g:=f) HB.out ho hg3 HB.out.size⟩
     case measure => omega
    ·go_wp2_with (at_builtin; go_must (refine zau rfl (.tmp 31) (.tmp 32) rfl w.heap.size _ (f ++ h) rfl ho _ l rfl (HZ.out.below HB.out zn) (by rw [List.length_append,<- HN.out,<- HK.out,<- HM.out]; omega) HB.out.size ?_; intro v3 w3 ho3 hg3 ht3))
     go_roundg 0
     case rel => exact ⟨3,by omega,rfl,by go_num,ho3,zba (v':=v3) (g:=f) HB.out ho hg3 HB.out.size⟩
     case measure => omega
    ·go_wp2
     go_returns
     exact ⟨_,rfl,HB.out,ho⟩
theorem moved_i (c d:Int) (w:World) (h0:-4000000 <= c + d) (h1:c + d <= 4000000):Calls Tryz.prog 158 #[.int .i64 c,.int .i64 d] w fun e w' => e = .returned (.int .i64 (mvd c d)) /\ w = w':=by
 by_cases hc:c = -1
 ·have e:mvd c d = -1:=by unfold mvd; rw [if_pos hc]
  rw [e]
  subst hc
  clear e
  go_enter Tryz.func158,Tryz.ntmps158
  go_wp2
  go_returns
  exact ⟨rfl,rfl⟩
 ·have e:mvd c d = c + d:=by unfold mvd; rw [if_neg hc]
  have hb:(c == -1) = false:=by simp [hc]
  rw [e]
  clear e
  go_enter Tryz.func158,Tryz.ntmps158
  go_wp2
  go_returns
  exact ⟨rfl,rfl⟩
def zl2 (t:List Lf):Prop:=∀ m ∈ t,-1000000 <= m.left /\ m.left <= 1000000 /\ -1000000 <= m.right /\ m.right <= 1000000
theorem sh_step (d:Int) (f:List Lf) (k:Nat) (m:Lf) (h:f[k]? = some m):((f.take k).map (shL d) ++ f.drop k).set k (shL d m) = (f.take (k + 1)).map (shL d) ++ f.drop (k + 1):=by
 have hk:k < f.length:=(List.getElem?_eq_some_iff.1 h).1
 have hm:f[k] = m:=(List.getElem?_eq_some_iff.1 h).2
 have hl:((f.take k).map (shL d)).length = k:=by rw [List.length_map,List.length_take]; omega
 rw [List.set_append_right _ _ (by omega),hl,Nat.sub_self,List.drop_eq_getElem_cons hk,hm,List.set_cons_zero,List.take_succ_eq_append_getElem hk,hm]
 simp
theorem sh_get (d:Int) (f:List Lf) (k:Nat) (m:Lf) (h:f[k]? = some m):((f.take k).map (shL d) ++ f.drop k)[k]? = some m:=by
 have hk:k < f.length:=(List.getElem?_eq_some_iff.1 h).1
 have hl:((f.take k).map (shL d)).length = k:=by rw [List.length_map,List.length_take]; omega
 rw [List.getElem?_append_right (by omega),hl,Nat.sub_self,List.getElem?_drop,Nat.add_zero,h]
theorem zn1 {w:World} {B:Nat} {v:Value} {f:List Lf} (h:TO w B v f) (h0:f.length = 0):∃ A c,v = .slice A 0 c:=by
 rcases h.2.2 with ⟨hv,_⟩ | ⟨g,cap,cur,hv,_⟩
 ·exact ⟨none,0,hv⟩
 ·exact ⟨_,cap,by rw [hv,h0]⟩
theorem zin (f:List Lf) (v:Value) (d:Int) (w:World) (hv:TS w v f) (hl:f.length <= 1000) (hs:zl2 f) (hd0:-1000 <= d) (hd1:d <= 1000) :
  Calls Tryz.prog 152 #[v,.int .i64 d] w (RetTO w (zaq d f)):=by
 have HV:=zh hv
 have HSM:=zh hs; clear hs
 obtain ⟨hop,A,c,rfl,hc1,hc2,_⟩:=hv
 obtain ⟨n,hn⟩:=zx f.length
 rw [<- hn] at hc1 HV hl ⊢
 have HN:=zh hn; clear hn
 have HOP:=zh hop; clear hop
 by_cases hp:n = 0
 ·subst hp
  go_enter Tryz.func152,Tryz.ntmps152
  go_wp2_with (go_at_call 67; go_must (refine (ze0 f _ _ HV.out (by rw [<- HN.out]; omega)).mono ?_; rintro e w1 ⟨v1,rfl,hb1,ho1⟩; obtain ⟨A1,cc,rfl⟩:=zn1 ho1 HN.out.symm; have HB1:=zh hb1; have HO1:=zh ho1; clear hb1 ho1))
  refine wp_loop_rounds 1 ?_
  rw [rounds_succ]
  go_wp2
  go_returns
  have hf:f = []:=List.eq_nil_of_length_eq_zero HN.out.symm
  exact ⟨_,rfl,HB1.out,by have:=HO1.out; rw [hf] at this ⊢; exact this⟩
 have hp':1 <= n:=by omega
 clear hp
 go_enter Tryz.func152,Tryz.ntmps152
 go_wp2_with (go_at_call 67; go_must (refine (ze0 f _ _ HV.out (by rw [<- HN.out]; omega)).mono ?_; rintro e w1 ⟨v1,rfl,hb1,ho1⟩; obtain ⟨g,cap,rfl,hg1,hg2⟩:=ho1.shape HN.out (by omega); have HB1:=zh hb1; have HO1:=zh ho1; clear hb1 ho1))
 go_loopg [12] n (fun gk q wr => ∃ k:Nat,k <= n /\ gk = n - k /\ q = .int .i64 k /\ Below w.heap.size w wr /\ g < wr.heap.size /\ TO wr w.heap.size (.slice (some ⟨g,0,none⟩) n cap) ((f.take k).map (shL d) ++ f.drop k))
 case atStart => exact ⟨0,Nat.zero_le _,rfl,rfl,HB1.out,hg2,by simpa using HO1.out⟩
 case round =>
  obtain ⟨k,hk,rfl,rfl,hb,hgw,ho⟩:=hrel
  have HB:=zh hb; clear hb
  have HO:=zh ho; clear ho
  by_cases hlt:k < n
  ·obtain ⟨m,hm⟩:∃ m,f[k]? = some m:=⟨f[k]'(by rw [<- HN.out]; exact hlt),List.getElem?_eq_getElem _⟩
   obtain ⟨m1,m2⟩:=HOP.out m (List.mem_of_getElem? hm)
   obtain ⟨s1,s2,s3,s4⟩:=HSM.out m (List.mem_of_getElem? hm)
   have hget:=sh_get d f k m hm
   have hstep:=sh_step d f k m hm
   have hlen:((f.take k).map (shL d) ++ f.drop k).length = n:=by rw [List.length_append,List.length_map,List.length_take,List.length_drop,<- HN.out]; omega
   have HG:=zh hget; clear hget
   have HST:=zh hstep; clear hstep
   have HL:=zh hlen; clear hlen
   generalize (f.take k).map (shL d) ++ f.drop k = L at *
   obtain ⟨c0,c1,c2⟩:=HO.out.ts.at3 HG.out
   simp only [Nat.zero_add] at c0 c1 c2
   have HM:=zh hm; clear hm
   have f1:=zg5 HO.out (k * 3 + 1)
   have f2:=zg5 HO.out (k * 3 + 2)
   have hk3:k * 3 + 1 < n * 3 /\ k * 3 + 2 < n * 3:=by omega
   have q1:=zkx (m':={ m with left:=mvd m.left d }) HO.out HL.out HG.out 1 (.int .i64 (mvd m.left d)) ⟨m1,m2⟩ rfl (by omega)
   have q2:=zkx (m':=shL d m) q1 (by rw [List.length_set]; exact HL.out) (List.getElem?_set_self (by rw [HL.out]; exact hlt)) 2 (.int .i64 (mvd m.right d)) ⟨m1,m2⟩ rfl (by omega)
   rw [List.set_set,HST.out] at q2
   have HQ2:=zh q2
   clear q1 q2 HST HG HL HM
   obtain ⟨lb,ml,mr⟩:=m
   simp only at c0 c1 c2 m1 m2 s1 s2 s3 s4
   go_wp2
   first | go_region_law (go_simp; go_at_call 158; refine (moved_i _ _ _ (by omega) (by omega)).mono ?_; rintro e w2 ⟨rfl,rfl⟩; try go_simp) | fail
   all_goals
    go_wp2
    go_roundg (n - (k + 1))
    case rel => exact ⟨k + 1,hlt,rfl,by go_num,by have hb:=HB.out; go_grown,by simp; omega,HQ2.out.below (B':=wr.heap.size) (by go_grown) (by simp)⟩
    case measure => omega
  ·go_wp2
   go_returns
   have e:k = n:=by omega
   have q:=HO.out
   rw [e,List.take_of_length_le (by rw [<- HN.out]; exact zn),List.drop_eq_nil_of_le (by rw [<- HN.out]; exact zn),List.append_nil] at q
   exact ⟨_,rfl,HB.out,q⟩
theorem zej {t:List Lf} (h:zac t = true):zl2 t:=by
 have h31:=(zew h).1
 have hk:=zoq h
 intro m hm
 obtain ⟨i,hi⟩:=List.getElem?_of_mem hm
 have:=hk i m hi
 omega
theorem TS.one {w:World} {g:Nat} {a b c:Int} (h:Row w g 61 #[.int .u8 a,.int .i64 b,.int .i64 c]) (h0:0 <= a) (h1:a <= 255):TS w (.slice (some ⟨g,0,none⟩) 1 1) [⟨a,b,c⟩]:=by
 refine ⟨by simpa [LbOk] using ⟨h0,h1⟩,some ⟨g,0,none⟩,1,rfl,by simp,by omega,fun _ => ⟨g,0,rfl,h.lt,fun i m' hi => ?_⟩⟩
 cases i with
 | succ i => simp at hi
 | zero =>
  simp only [List.getElem?_cons_zero,Option.some.injEq] at hi
  subst hi
  have c:=h.cell
  exact ⟨by rw [c]; rfl,by rw [c]; rfl,by rw [c]; rfl⟩
theorem TS.lb {w:World} {v:Value} {f:List Lf} (h:TS w v f):LbOk f:=h.1
theorem zq0 (lab X Y:Int) (f h:List Lf) (hX:X = if f.length = 0 then -1 else 1) (hY:Y = if h.length = 0 then -1 else 1 + (f.length:Int)):[⟨lab,X,Y⟩] ++ zaq 1 f ++ zaq (1 + (f.length:Int)) h = joinT lab f h:=by
 unfold joinT
 rw [hX,hY]
 simp
theorem TS.form {w:World} {v:Value} {f:List Lf} (h:TS w v f):∃ A c,v = .slice A f.length c:=by
 obtain ⟨_,A,c,rfl,_⟩:=h
 exact ⟨A,c,rfl⟩
theorem zk4 (w:World) (o:Obj) (t:TypeId) (cs:Array Value):Row ((w.alloc o).alloc (.cells cs t)) (w.heap.size + 1) t cs:=by
 have q:=Row.new (w.alloc o) t cs
 rwa [World.size_alloc] at q
theorem zhf {W:World} {g:Nat} {t:TypeId} {a b c:Value} (h:Row W g t #[a,b,c]):W.cell? ⟨g,0,none⟩ = some a /\ W.cell? ⟨g,1,none⟩ = some b /\ W.cell? ⟨g,2,none⟩ = some c:=⟨h.cell 0,h.cell 1,h.cell 2⟩
theorem join_t (lab:Int) (f h:List Lf) (v u:Value) (w:World) (hv:TS w v f) (hu:TS w u h) (h0:0 <= lab) (h1:lab <= 255) (sf:zl2 f) (sh:zl2 h) (hl:f.length + h.length <= 100) :
  Calls Tryz.prog 135 #[.int .u8 lab,v,u] w (RetTO w (joinT lab f h)):=by
 have HV:=zh hv; have HU:=zh hu
 obtain ⟨_,A,c,rfl,hc1,hc2,_⟩:=hv
 obtain ⟨_,A2,d,rfl,hd1,hd2,_⟩:=hu
 obtain ⟨X,hX⟩:∃ X:Int,X = if f.length = 0 then -1 else 1:=⟨_,rfl⟩
 obtain ⟨Y,hY⟩:∃ Y:Int,Y = if h.length = 0 then -1 else 1 + (f.length:Int):=⟨_,rfl⟩
 have HJ:=zh (zq0 lab X Y f h hX hY)
 obtain ⟨n,hn⟩:=zx f.length
 obtain ⟨k,hk⟩:=zx h.length
 have HS1:=zh (fun W (hW:TS W (.slice A f.length c) f) => zin f _ 1 W hW (by omega) sf (by omega) (by omega))
 obtain ⟨D,hD⟩:∃ D:Int,D = 1 + (f.length:Int):=⟨_,rfl⟩
 have HS2:=zh (fun W (hW:TS W (.slice A2 h.length d) h) => zin h _ D W hW (by omega) sh (by omega) (by omega))
 have HSL:Hid ((zaq 1 f).length = n /\ (zaq D h).length = k):=⟨by rw [zck,hn],by rw [zck,hk]⟩
 rw [<- hD] at HJ
 rw [<- hn] at hX hY hD hl hc1 HV HS1 ⊢
 rw [<- hk] at hY hl hd1 HU HS2
 obtain ⟨F1,hF1⟩:=zx (zaq 1 f)
 obtain ⟨F2,hF2⟩:=zx (zaq D h)
 rw [<- hF1] at HS1 HSL HJ
 rw [<- hF2] at HS2 HSL HJ
 rw [<- HJ.out,<- hk]
 clear hn hk sf sh hF1 hF2
 rcases Nat.eq_zero_or_pos n with hn0 | hn0 <;> rcases Nat.eq_zero_or_pos k with hk0 | hk0
 all_goals
  have e:X = (if n = 0 then -1 else 1) /\ Y = (if k = 0 then -1 else D) /\ D = 1 + (n:Int):=⟨hX,by rw [hD]; exact hY,hD⟩
  clear hX hY hD
  first | (have e1:X = -1:=by rw [e.1,if_pos hn0]) | (have e1:X = 1:=by rw [e.1,if_neg (by omega)])
  first | (have e2:Y = -1:=by rw [e.2.1,if_pos hk0]) | (have e2:Y = D:=by rw [e.2.1,if_neg (by omega)])
  first | (have e3:D = 1:=by rw [e.2.2,hn0]; rfl) | have e3:=e.2.2
  clear e
  have hDw:D = IntKind.i64.wrap D:=(IntWalk.i64_in _ ⟨by omega,by omega⟩).symm
  rw [hDw,e3] at HS2
  clear hDw
  first | rw [e3] at e2 | skip
  have HE:=zh e1; have HE2:=zh e2
  clear e1 e2 e3 D
  first | subst hn0 | skip
  first | subst hk0 | skip
  go_enter Tryz.func135,Tryz.ntmps135
  go_upto_region 6 with (fail)
  refine zab (fun W => Row W w.heap.size 61 #[.int .u8 lab,.int .i64 X,.int .i64 Y] /\ Below w.heap.size w W) ⟨by rw [HE.out,HE2.out]; first | exact (Row.new _ _ _) | exact ((Row.new _ _ _).set _ _) | exact (((Row.new _ _ _).set _ _).set _ _),by go_grown⟩ ?_
  rintro wc ⟨hr,hb⟩
  have HR:=zh hr; have HB:=zh hb
  have rl:=hr.lt
  clear hr hb HE HE2 HJ
  go_region_held3 (fun W => W.cell? ⟨w.heap.size,0,none⟩ = some (.int .u8 lab) /\ W.cell? ⟨w.heap.size,1,none⟩ = some (.int .i64 X) /\ W.cell? ⟨w.heap.size,2,none⟩ = some (.int .i64 Y)) (first | exact zhf HR.out | exact zhf HR.out.drew | exact zhf (HR.out.alloc _) | exact zhf (HR.out.alloc _).drew | exact zhf (HR.out.drew.alloc _) | exact zhf ((HR.out.alloc _).alloc _)) (first
   | (go_at_call 152; (with_reducible refine (HS1.out _ (HV.out.below (HB.out.alloc HB.out.size _).drew zn)).mono ?_); rintro e w1 ⟨v1,rfl,hb1,ho1⟩; obtain ⟨A1,c1,rfl⟩:=ho1.ts.form; have HQ:=zh ((Row.new wc _ _).drew.below hb1 (by simp)); replace HR:=zh ((HR.out.alloc _).drew.below hb1 (by have:=HR.out.lt; simp; omega)); have H1:=zh ho1.ts; replace HB:Hid (Below w.heap.size w w1):=Below.trans (HB.out.alloc HB.out.size _).drew (hb1.mono (by have:=HB.out.size; simp; omega)); clear hb1 ho1)
   | (go_at_call 152; (with_reducible refine (HS1.out _ (HV.out.below HB.out.drew zn)).mono ?_); rintro e w1 ⟨v1,rfl,hb1,ho1⟩; obtain ⟨A1,c1,rfl⟩:=ho1.ts.form; replace HR:=zh (HR.out.drew.below hb1 (by have:=HR.out.lt; simp; omega)); have H1:=zh ho1.ts; replace HB:Hid (Below w.heap.size w w1):=Below.trans HB.out.drew (hb1.mono (by have:=HB.out.size; simp; omega)); clear hb1 ho1)
   | (go_at_call 152; (with_reducible refine (HS2.out _ (HU.out.below HB.out zn)).mono ?_); rintro e w2 ⟨v2,rfl,hb2,ho2⟩; obtain ⟨A3,c3,rfl⟩:=ho2.ts.form; (first | (replace HQ:=zh (HQ.out.below hb2 HQ.out.lt)) | skip); replace HR:=zh (HR.out.below hb2 HR.out.lt); replace H1:=zh (H1.out.below hb2 zn); have H2:=zh ho2.ts; replace HB:=zh (HB.out.trans (hb2.mono HB.out.size)); clear hb2 ho2)
   | (go_at_call 152; (with_reducible refine (HS2.out _ (HU.out.below (HB.out.alloc HB.out.size _) zn)).mono ?_); rintro e w2 ⟨v2,rfl,hb2,ho2⟩; obtain ⟨A3,c3,rfl⟩:=ho2.ts.form; have HQ:=zh ((Row.new w1 _ _).below hb2 (by simp)); replace HR:=zh ((HR.out.alloc _).below hb2 (by have:=HR.out.lt; simp; omega)); replace H1:=zh ((H1.out.below (Below.alloc (Below.refl _ _) zn _) zn).below hb2 zn); have H2:=zh ho2.ts; replace HB:Hid (Below w.heap.size w w2):=Below.trans (HB.out.alloc HB.out.size _) (hb2.mono (by have:=HB.out.size; simp; omega)); clear hb2 ho2)
   | (go_at_call 151; have hal:∀ o,Below w2.heap.size w2 (w2.alloc o):=(fun o => Below.alloc (Below.refl _ _) zn o); (with_reducible refine (ze9 [⟨lab,X,Y⟩] F1 F2 _ _ _ _ _ ((TS.one HQ.out h0 h1).below (hal _) zn) (H1.out.below (hal _) zn) (H2.out.below (hal _) zn) (Row.new _ _ _) (by simp) (by simp only [List.length_singleton]; have:=HSL.out; omega)).mono ?_); rintro e w4 ⟨v4,rfl,hb4,ho4⟩; have HBF:Hid (Below w.heap.size w w4):=(HB.out.trans ((hal _).mono HB.out.size)).trans (hb4.mono (by have:=HB.out.size; simp; omega)); have H4:=zh (ho4.mono (B':=w.heap.size) (by have:=HB.out.size; simp; omega)); replace HR:=zh ((HR.out.alloc _).below hb4 (by have:=HR.out.lt; simp; omega)); clear hb4 ho4)
   | (go_at_call 151; have hal:∀ o p,Below w2.heap.size w2 ((w2.alloc o).alloc p):=(fun o p => Below.alloc (Below.alloc (Below.refl _ _) zn o) (by simp) p); (with_reducible refine (ze9 [⟨lab,X,Y⟩] F1 F2 _ _ _ _ _ (TS.one ((Row.new w2 _ _).alloc _) h0 h1) (H1.out.below (hal _ _) zn) (H2.out.below (hal _ _) zn) (zk4 _ _ _ _) (by simp) (by simp only [List.length_singleton]; have:=HSL.out; omega)).mono ?_); rintro e w4 ⟨v4,rfl,hb4,ho4⟩; have HBF:Hid (Below w.heap.size w w4):=(HB.out.trans ((hal _ _).mono HB.out.size)).trans (hb4.mono (by have:=HB.out.size; simp; omega)); have H4:=zh (ho4.mono (B':=w.heap.size) (by have:=HB.out.size; simp; omega)); replace HR:=zh (((HR.out.alloc _).alloc _).below hb4 (by have:=HR.out.lt; simp; omega)); clear hb4 ho4))
  all_goals
   go_wp2_with fail
   go_returns
   exact ⟨v4,rfl,HBF.out,H4.out⟩
def RetTT (w:World) (t:List Lf) (e:Int) (en:Ending) (w':World):Prop:=∃ v,en = .returned (.tuple #[v,.int .i64 e]) /\ Below w.heap.size w w' /\ TO w' w.heap.size v t
def joinE (lab:Int) (l r:List Lf):List Lf × Int:=if zac l = false \/ zac r = false then ([],2) else if 31 <= l.length + r.length then ([],4) else (joinT lab l r,0)
theorem zpy (lab:Int) (l r:List Lf) (v u:Value) (w:World) (hv:TS w v l) (hu:TS w u r) (h0:0 <= lab) (h1:lab <= 255) :
  Calls Tryz.prog 108 #[.int .u8 lab,v,u] w (RetTT w (joinE lab l r).1 (joinE lab l r).2):=by
 have HV:=zh hv
 have HU:=zh hu
 have HFL:=zh (fun W (hW:TS W v l) => zbb l v W hW)
 have HFR:=zh (fun W (hW:TS W u r) => zbb r u W hW)
 obtain ⟨R,hR⟩:=zx (joinE lab l r)
 rw [<- hR]
 unfold joinE at hR
 have HR:=zh hR; clear hR
 obtain ⟨_,A,c,rfl,hc1,hc2,_⟩:=hv
 obtain ⟨_,A2,d,rfl,hd1,hd2,_⟩:=hu
 by_cases hl:zac l = true
 ·by_cases hr:zac r = true
  ·have l31:=(za1 hl).1
   have r31:=(za1 hr).1
   have HJ:=zh (fun W (h1':TS W (.slice A l.length c) l) (h2':TS W (.slice A2 r.length d) r) => join_t lab l r _ _ W h1' h2' h0 h1 (zej hl) (zej hr) (by omega))
   rw [hl] at HFL
   rw [hr] at HFR
   have HR2:Hid (R = if 31 <= l.length + r.length then ([],4) else (joinT lab l r,0)):=by rw [Hid,HR.out,if_neg (by simp [hl,hr])]
   clear HR hl hr
   obtain ⟨n,hn⟩:=zx l.length
   obtain ⟨m,hm⟩:=zx r.length
   rw [<- hn] at hc1 HV HFL HJ l31 HR2 ⊢
   rw [<- hm] at hd1 HU HFR HJ r31 HR2 ⊢
   clear hn hm
   by_cases hs:31 <= n + m
   ·rw [if_pos hs] at HR2
    have hsi:(31:Int) <= (n:Int) + (m:Int):=by omega
    go_enter Tryz.func108,Tryz.ntmps108
    go_wp2_with (first
     | (go_at_call 89; (with_reducible refine (HFL.out _ HV.out).mono ?_); rintro e w1 ⟨rfl,hb1⟩; have HB:=zh hb1; clear hb1)
     | (go_at_call 89; go_must ((with_reducible refine (HFR.out _ (HU.out.below HB.out zn)).mono ?_); rintro e w2 ⟨rfl,hb1⟩; replace HB:=zh (HB.out.trans (hb1.mono HB.out.size)); clear hb1)))
    go_returns
    rw [HR2.out]
    exact ⟨_,rfl,HB.out,TO.nil _ _⟩
   ·rw [if_neg hs] at HR2
    have hsi:(n:Int) + (m:Int) < 31:=by omega
    go_enter Tryz.func108,Tryz.ntmps108
    go_wp2_with (first
     | (go_at_call 89; (with_reducible refine (HFL.out _ HV.out).mono ?_); rintro e w1 ⟨rfl,hb1⟩; have HB:=zh hb1; clear hb1)
     | (go_at_call 89; go_must ((with_reducible refine (HFR.out _ (HU.out.below HB.out zn)).mono ?_); rintro e w2 ⟨rfl,hb1⟩; replace HB:=zh (HB.out.trans (hb1.mono HB.out.size)); clear hb1))
     | (go_at_call 135; go_must ((with_reducible refine (HJ.out _ (HV.out.below HB.out zn) (HU.out.below HB.out zn)).mono ?_); rintro e w3 ⟨v3,rfl,hb3,ho3⟩; have HO:=zh (ho3.mono HB.out.size); replace HB:=zh (HB.out.trans (hb3.mono HB.out.size)); clear hb3 ho3)))
    go_returns
    rw [HR2.out]
    exact ⟨v3,rfl,HB.out,HO.out⟩
  ·have hr':zac r = false:=by simpa using hr
   rw [hl] at HFL
   rw [hr'] at HFR
   have HR2:Hid (R = ([],2)):=by rw [Hid,HR.out,if_pos (.inr hr')]
   clear HR hl hr hr'
   go_enter Tryz.func108,Tryz.ntmps108
   go_wp2_with (first
    | (go_at_call 89; (with_reducible refine (HFL.out _ HV.out).mono ?_); rintro e w1 ⟨rfl,hb1⟩; have HB:=zh hb1; clear hb1)
    | (go_at_call 89; go_must ((with_reducible refine (HFR.out _ (HU.out.below HB.out zn)).mono ?_); rintro e w2 ⟨rfl,hb1⟩; replace HB:=zh (HB.out.trans (hb1.mono HB.out.size)); clear hb1)))
   go_returns
   rw [HR2.out]
   exact ⟨_,rfl,HB.out,TO.nil _ _⟩
 ·have hl':zac l = false:=by simpa using hl
  rw [hl'] at HFL
  have HR2:Hid (R = ([],2)):=by rw [Hid,HR.out,if_pos (.inl hl')]
  clear HR hl hl'
  go_enter Tryz.func108,Tryz.ntmps108
  go_wp2_with (go_at_call 89; go_must ((with_reducible refine (HFL.out _ HV.out).mono ?_); rintro e w1 ⟨rfl,hb1⟩; have HB:=zh hb1; clear hb1))
  go_returns
  rw [HR2.out]
  exact ⟨_,rfl,HB.out,TO.nil _ _⟩
theorem bt_len {t:List Lf} (h:zac t = true):(btOf t).size = t.length:=(za1 h).2.1
theorem zm7 {t:List Lf} {x:Lf} {i k:Nat} (d:Int) (hx:t[k]? = some x) (hi:i <= k):zaq d ((t.drop i).take (k + 1 - i)) = zaq d ((t.drop i).take (k - i)) ++ [shL d x]:=by
 rw [show k + 1 - i = (k - i) + 1 by omega,List.take_add_one,List.getElem?_drop,show i + (k - i) = k by omega,hx]
 simp [zaq]
def KidBd (t:List Lf):Prop:=∀ x ∈ t,(-1 <= x.left /\ x.left <= 1000) /\ (-1 <= x.right /\ x.right <= 1000)
theorem zos {t:List Lf} (h:zac t = true):KidBd t:=by
 intro x hx
 obtain ⟨i,hi⟩:=List.mem_iff_getElem?.1 hx
 have h31:=(za1 h).1
 obtain ⟨h1,h2⟩:=zoq h i x hi
 constructor
 ·rcases h1 with h1 | h1 <;> omega
 ·rcases h2 with h2 | h2 <;> omega
theorem znq (t:List Lf) (v:Value) (i m:Nat) (w:World) (hv:TS w v t) (hl:t.length <= 1000) (he:endS t i = some m) (hk:KidBd t) :
  Calls Tryz.prog 153 #[v,.int .i64 i] w (RetTO w (zaq (-(i:Int)) ((t.drop i).take (m - i)))):=by
 obtain ⟨him,hml⟩:=zd1 he
 have HE:=zh (fun W (h:TS W v t) => (show Calls Tryz.prog 137 #[v,.int .i64 i] W fun e w' => e = .returned (.int .i64 (m:Int)) /\ W = w' from by have q:=zk6 t v hl _ i W zn (by omega) h; rw [he] at q; exact q))
 have HV:=zh hv
 obtain ⟨A,c,rfl⟩:=hv.form
 obtain ⟨n,hn⟩:=zx t.length
 rw [<- hn] at HV HE hml hl ⊢
 have HN:=zh hn
 have HK:=zh hk
 clear hv hn hk he
 go_enter Tryz.func153,Tryz.ntmps153
 go_wp2
 go_loopg [5,6] (m - i) (fun gk q s wr => ∃ k:Nat,i <= k /\ k <= m /\ gk = m - k /\ s = .int .i64 k /\ Below w.heap.size w wr /\ TO wr w.heap.size q (zaq (-(i:Int)) ((t.drop i).take (k - i))))
 case atStart => exact ⟨i,zn,by omega,rfl,rfl,Below.refl _ _,by rw [Nat.sub_self,List.take_zero]; exact TO.nil _ _⟩
 case round =>
  obtain ⟨k,hik,hkm,rfl,rfl,hbe,hto⟩:=hrel
  have HB:=zh hbe; have HO:=zh hto
  have HVr:=zh (HV.out.below hbe zn)
  clear hbe hto
  by_cases hlt:k < m
  ·obtain ⟨x,hx⟩:∃ x,t[k]? = some x:=⟨t[k]'(by rw [<- HN.out]; omega),List.getElem?_eq_getElem _⟩
   have hkn:k < n:=by omega
   obtain ⟨l1,l2⟩:=HV.out.lb x (List.mem_of_getElem? hx)
   obtain ⟨⟨b1,b2⟩,b3,b4⟩:=HK.out x (List.mem_of_getElem? hx)
   obtain ⟨b,o,rfl⟩:=HVr.out.addr (by rw [<- HN.out]; omega)
   obtain ⟨c0,c1,c2⟩:=HVr.out.at3 hx
   have HS:=zh (zm7 (-(i:Int)) hx hik)
   obtain ⟨cur,hcur⟩:=zx (zaq (-(i:Int)) ((t.drop i).take (k - i)))
   have hcl:cur.length <= 1000:=by rw [hcur,zck,List.length_take]; omega
   rw [<- hcur] at HO HS
   obtain ⟨lb,xl,xr⟩:=x
   simp only at c0 c1 c2 l1 l2 b1 b2 b3 b4
   obtain ⟨ml,hml'⟩:=zx (mvd xl (-(i:Int)))
   obtain ⟨mr,hmr'⟩:=zx (mvd xr (-(i:Int)))
   have HS2:Hid (zaq (-(i:Int)) ((t.drop i).take (k + 1 - i)) = cur ++ [⟨lb,ml,mr⟩]):=by rw [Hid,HS.out,hml',hmr']; rfl
   have hcase:((xl != -1) = false /\ xl = -1 /\ ml = -1) \/ ((xl != -1) = true /\ ml = xl - i):=by
    by_cases h:xl = -1
    ·exact .inl ⟨by rw [h]; decide,h,by rw [hml',h]; rfl⟩
    ·exact .inr ⟨by simp [h],by rw [hml']; unfold mvd; rw [if_neg h]; omega⟩
   have hcase2:((xr != -1) = false /\ xr = -1 /\ mr = -1) \/ ((xr != -1) = true /\ mr = xr - i):=by
    by_cases h:xr = -1
    ·exact .inl ⟨by rw [h]; decide,h,by rw [hmr',h]; rfl⟩
    ·exact .inr ⟨by simp [h],by rw [hmr']; unfold mvd; rw [if_neg h]; omega⟩
   have hzs:=HB.out.size
   clear hx HS hcur hml' hmr'
   rcases hcase with ⟨_,rfl,rfl⟩ | ⟨e1,rfl⟩ <;> rcases hcase2 with ⟨_,rfl,rfl⟩ | ⟨e2,rfl⟩
   all_goals
    go_wp2_with (first
     | (go_at_call 137; (with_reducible refine (HE.out _ HVr.out).mono ?_); rintro e w1 ⟨rfl,rfl⟩)
     | (at_builtin; go_must (refine zau rfl (.tmp 36) (.tmp 38) rfl w.heap.size _ cur rfl (HO.out.below (B':=wr.heap.size) (by go_grown) zn) _ [⟨lb,_,_⟩] rfl (TS.one (by first | exact Row.new _ _ _ | exact Row.lit (by simp only [World.size_alloc])) (by omega) (by omega)) (by simp only [List.length_cons,List.length_nil]; omega) (by have:=HB.out.size; simp only [World.size_alloc]; omega) ?_; intro v3 w3 ho3 hg3 _)))
    have HB3:=zh (zba (w:=w) (g:=[]) (v':=v3) (by have h1:=HB.out; go_grown) (HO.out.below (B':=wr.heap.size) (by go_grown) zn) hg3 (by have:=HB.out.size; simp only [World.size_alloc]; omega))
    rw [<- HS2.out] at ho3
    have HO3:=zh ho3; clear ho3 hg3
    go_wp2
    go_roundg (m - (k + 1))
    case rel => exact ⟨k + 1,by omega,by omega,rfl,by go_num,HB3.out,HO3.out⟩
    case measure => omega
  ·have hkm':k = m:=by omega
   subst hkm'
   go_wp2_with (go_at_call 137; (with_reducible refine (HE.out _ HVr.out).mono ?_); rintro e w1 ⟨rfl,rfl⟩)
   go_returns
   exact ⟨_,rfl,HB.out,HO.out⟩
theorem ziq {t:List Lf} {v:Value} {c:Bt} {p:Nat} {w:World} (hv:TS w v t) (hl:t.length <= 1000) (hk:KidBd t) (h0:0 < c.size) (hp:p + c.size <= t.length) (hs:Seg t p c) :
  Calls Tryz.prog 153 #[v,.int .i64 p] w (RetTO w (c.enc 0)):=by
 have q:=znq t v p (p + c.size) w hv hl (end_at t c p h0 hp hs) hk
 rw [show p + c.size - p = c.size by omega,seg_cut hp hs,zd9 c p 0 _ (by omega)] at q
 exact q
theorem zor (b:Bt) (h:b.size <= 31):KidBd (b.enc 0):=zos (zde b h)
theorem zqd (lab:Int) (l r:Bt) (v:Value) (w:World) (hv:TS w v ((Bt.node lab l r).enc 0)) (hs:(Bt.node lab l r).size <= 31) :
  Calls Tryz.prog 138 #[v] w (RetTO w (l.enc 0)):=by
 have hseg:=Seg.self (Bt.node lab l r)
 have hroot:=hseg.root
 have hlen:((Bt.node lab l r).enc 0).length = (Bt.node lab l r).size:=Bt.enc_len _ _
 have hpos:0 < (Bt.node lab l r).size:=by simp only [Bt.size]; omega
 have hsz:l.size + 1 <= (Bt.node lab l r).size:=by simp only [Bt.size]; omega
 have hk:=zor _ hs
 have hleft:=hseg.left
 generalize (Bt.node lab l r).enc 0 = t at *
 generalize (Bt.node lab l r).size = z at *
 obtain ⟨b,o,hA⟩:∃ b o,∃ c,v = .slice (some ⟨b,o,none⟩) t.length c:=by
  obtain ⟨A,c,rfl⟩:=hv.form
  obtain ⟨b,o,rfl⟩:=hv.addr (by omega)
  exact ⟨b,o,c,rfl⟩
 obtain ⟨c,rfl⟩:=hA
 obtain ⟨c0,c1,c2⟩:=hv.at3 hroot
 simp only [Nat.zero_mul,Nat.add_zero] at c0 c1 c2
 have HB:=zh (fun (h:0 < l.size) W (h2:TS W (.slice (some ⟨b,o,none⟩) t.length c) t) => ziq (w:=W) (p:=1) h2 (by omega) hk h (by omega) (by have:=hleft; rwa [Nat.zero_add] at this))
 have HV:=zh hv
 obtain ⟨n,hn⟩:=zx t.length
 rw [<- hn] at HV HB hlen ⊢
 have hn0:0 < n:=by omega
 clear hv hroot hseg hk hleft hn
 by_cases h0:l.size = 0
 ·have e:l.at (0 + 1) = -1:=by unfold Bt.at; rw [if_pos h0]
  rw [e] at c1
  have hl:=Bt.nil_of_size h0
  subst hl
  clear HB hsz e h0
  go_enter Tryz.func138,Tryz.ntmps138
  go_wp2
  go_returns
  exact ⟨_,rfl,Below.refl _ _,TO.nil _ _⟩
 ·have e:l.at (0 + 1) = 1:=by unfold Bt.at; rw [if_neg h0]; rfl
  rw [e] at c1
  have HB2:=zh (show ∀ W,TS W (.slice (some ⟨b,o,none⟩) n c) t -> Calls Tryz.prog 153 #[.slice (some ⟨b,o,none⟩) n c,.int .i64 1] W (RetTO W (l.enc 0)) from HB.out (by omega))
  generalize l.enc 0 = res at *
  clear HB e hlen
  go_enter Tryz.func138,Tryz.ntmps138
  go_wp2_with (go_at_call 153; (with_reducible refine (HB2.out _ HV.out).mono ?_); rintro e w1 ⟨v1,rfl,hb1,ho1⟩)
  go_returns
  exact ⟨v1,rfl,hb1,ho1⟩
theorem znb (lab:Int) (l r:Bt) (v:Value) (w:World) (hv:TS w v ((Bt.node lab l r).enc 0)) (hs:(Bt.node lab l r).size <= 31) :
  Calls Tryz.prog 139 #[v] w (RetTO w (r.enc 0)):=by
 have hseg:=Seg.self (Bt.node lab l r)
 have hroot:=hseg.root
 have hlen:((Bt.node lab l r).enc 0).length = (Bt.node lab l r).size:=Bt.enc_len _ _
 have hpos:0 < (Bt.node lab l r).size:=by simp only [Bt.size]; omega
 have hsz:1 + l.size + r.size <= (Bt.node lab l r).size:=by simp only [Bt.size]; omega
 have hk:=zor _ hs
 have hright:=hseg.right
 generalize (Bt.node lab l r).enc 0 = t at *
 generalize (Bt.node lab l r).size = z at *
 obtain ⟨b,o,hA⟩:∃ b o,∃ c,v = .slice (some ⟨b,o,none⟩) t.length c:=by
  obtain ⟨A,c,rfl⟩:=hv.form
  obtain ⟨b,o,rfl⟩:=hv.addr (by omega)
  exact ⟨b,o,c,rfl⟩
 obtain ⟨c,rfl⟩:=hA
 obtain ⟨c0,c1,c2⟩:=hv.at3 hroot
 simp only [Nat.zero_mul,Nat.add_zero] at c0 c1 c2
 rw [Nat.zero_add] at hright c2
 have HB:=zh (fun (h:0 < r.size) W (h2:TS W (.slice (some ⟨b,o,none⟩) t.length c) t) => ziq (w:=W) (p:=1 + l.size) h2 (by omega) hk h (by omega) hright)
 have HV:=zh hv
 obtain ⟨n,hn⟩:=zx t.length
 rw [<- hn] at HV HB hlen ⊢
 have hn0:0 < n:=by omega
 clear hv hroot hseg hk hright hn
 by_cases h0:r.size = 0
 ·have e:r.at (1 + l.size) = -1:=by unfold Bt.at; rw [if_pos h0]
  rw [e] at c2
  have hl:=Bt.nil_of_size h0
  subst hl
  clear HB hsz e h0
  go_enter Tryz.func139,Tryz.ntmps139
  go_wp2
  go_returns
  exact ⟨_,rfl,Below.refl _ _,TO.nil _ _⟩
 ·have e:r.at (1 + l.size) = ((1 + l.size:Nat):Int):=by unfold Bt.at; rw [if_neg h0]
  rw [e] at c2
  obtain ⟨q,hq⟩:=zx (1 + l.size)
  rw [<- hq] at c2 HB
  have q1:((q:Int) == -1) = false:=by rw [beq_eq_false_iff_ne]; omega
  have HB2:=zh (HB.out (by omega))
  generalize r.enc 0 = res at *
  clear HB e hq hlen
  go_enter Tryz.func139,Tryz.ntmps139
  go_wp2_with (go_at_call 153; (with_reducible refine (HB2.out _ HV.out).mono ?_); rintro e w1 ⟨v1,rfl,hb1,ho1⟩)
  go_returns
  exact ⟨v1,rfl,hb1,ho1⟩
theorem zom {d:Int} {f:List Lf} {P:Int -> Prop} (h:∀ m ∈ f,P m.label):∀ m ∈ zaq d f,P m.label:=by
 intro m hm
 obtain ⟨x,hx,rfl⟩:=List.mem_map.1 hm
 exact h x hx
theorem zoo {b:Bt} {P:Int -> Prop} (p q:Nat) (h:∀ m ∈ b.enc p,P m.label):∀ m ∈ b.enc q,P m.label:=by
 rw [<- zd9 b p q ((q:Int) - p) (by omega)]
 exact zom (P:=P) h
theorem zqu {lab:Int} {l r:Bt} {P:Int -> Prop} (h:∀ m ∈ (Bt.node lab l r).enc 0,P m.label):∀ m ∈ l.enc 0,P m.label :=
 zoo (P:=P) (0 + 1) 0 fun m hm => h m (by simp [Bt.enc,hm])
theorem zon {lab:Int} {l r:Bt} {P:Int -> Prop} (h:∀ m ∈ (Bt.node lab l r).enc 0,P m.label):∀ m ∈ r.enc 0,P m.label :=
 zoo (P:=P) (0 + 1 + l.size) 0 fun m hm => h m (by simp only [Bt.enc,List.mem_cons,List.mem_append]; exact .inr (.inr hm))
theorem TO.lit1 {w:World} {B g:Nat} {a b c:Int} (h:Row w g 61 #[.int .u8 a,.int .i64 b,.int .i64 c]) (hB:B <= g) (h0:0 <= a) (h1:a <= 255):TO w B (.slice (some ⟨g,0,none⟩) 1 1) [⟨a,b,c⟩] :=
 ⟨by simpa [LbOk] using ⟨h0,h1⟩,rfl,.inr ⟨g,1,_,rfl,hB,h,zn,by simp [maxLen],rfl,rfl⟩⟩
theorem zl4 {f:List Lf} {x:Lf} {k:Nat} (d:Int) (hx:f[k]? = some x):zaq d (f.take (k + 1)) = zaq d (f.take k) ++ [shL d x]:=by
 rw [List.take_add_one,hx]; simp [zaq]
def accJ (root:Lf) (l r:List Lf) (j:Nat):List Lf:=if j = 0 then [root] else if j = 1 then root :: zaq 1 l else root :: (zaq 1 l ++ zaq (1 + (l.length:Int)) r)
theorem zni (lab:Int) (l r:List Lf) (v u:Value) (w:World) (hv:TS w v l) (hu:TS w u r) (h0:0 <= lab) (h1:lab <= 255) (hl:l.length <= 1000) (hr:r.length <= 1000) (kl:KidBd l) (kr:KidBd r) :
  Calls Tryz.prog 136 #[.int .u8 lab,v,u] w (RetTO w (joinT lab l r)):=by
 have HV:=zh hv
 have HU:=zh hu
 obtain ⟨A,c,rfl⟩:=hv.form
 obtain ⟨A2,c2,rfl⟩:=hu.form
 obtain ⟨root,hroot⟩:∃ m:Lf,m = ⟨lab,if l.length = 0 then -1 else 1,if r.length = 0 then -1 else 1 + (l.length:Int)⟩:=⟨_,rfl⟩
 have HJT:=zh (show joinT lab l r = accJ root l r 2 by rw [hroot]; rfl)
 have ha0:accJ root l r 0 = [root]:=rfl
 have ha1:accJ root l r 1 = accJ root l r 0 ++ zaq 1 l:=rfl
 have ha2:accJ root l r 2 = accJ root l r 1 ++ zaq (1 + (l.length:Int)) r:=rfl
 have hlen0:(accJ root l r 0).length = 1:=rfl
 have hlen1:(accJ root l r 1).length = 1 + l.length:=by rw [ha1,List.length_append,zck]; rfl
 generalize accJ root l r = acc at *
 obtain ⟨la,hla⟩:=zx l.length
 obtain ⟨lb,hlb⟩:=zx r.length
 rw [<- hla] at HV hroot hl hlen1 ha2 ⊢
 rw [<- hlb] at HU hroot hr ⊢
 have HLA:=zh hla; have HLB:=zh hlb
 have HKL:=zh kl; have HKR:=zh kr
 have HA0:=zh ha0; have HA1:=zh ha1; have HA2:=zh ha2; have HL0:=zh hlen0; have HL1:=zh hlen1
 clear hv hu hla hlb kl kr ha0 ha1 ha2 hlen0 hlen1
 have hcase:((decide (0 < la) = false /\ root.left = -1) \/ (decide (0 < la) = true /\ root.left = 1)) /\ ((decide (0 < lb) = false /\ root.right = -1) \/ (decide (0 < lb) = true /\ root.right = 1 + (la:Int))) /\ root.label = lab:=by
  subst hroot
  refine ⟨?_,?_,rfl⟩
  ·by_cases ha:la = 0
   ·exact .inl ⟨decide_eq_false (by omega),by simp only; rw [if_pos ha]⟩
   ·exact .inr ⟨decide_eq_true (by omega),by simp only; rw [if_neg ha]⟩
  ·by_cases hb:lb = 0
   ·exact .inl ⟨decide_eq_false (by omega),by simp only; rw [if_pos hb]⟩
   ·exact .inr ⟨decide_eq_true (by omega),by simp only; rw [if_neg hb]⟩
 clear hroot
 obtain ⟨rl,rx,ry⟩:=root
 simp only at hcase
 obtain ⟨hca,hcb,rfl⟩:=hcase
 rcases hca with ⟨ha,rfl⟩ | ⟨ha,rfl⟩ <;> rcases hcb with ⟨hb,rfl⟩ | ⟨hb,rfl⟩
 all_goals
  go_enter Tryz.func136,Tryz.ntmps136
  go_wp2
  refine zab (fun W => Row W (w.heap.size + 2) 34 #[.slice A la c,.slice A2 lb c2] /\ Below w.heap.size w W /\ TO W w.heap.size (.slice (some ⟨w.heap.size + 1,0,none⟩) 1 1) (acc 0)) ?_ ?_
  ·refine ⟨Row.lit (by simp only [World.size_alloc]),by go_grown,?_⟩
   rw [HA0.out]
   exact TO.lit1 (Row.alloc (Row.lit (by first | rfl | simp only [World.size_alloc])) _) (by omega) h0 h1
  clear ha hb
  rintro wc ⟨hrow,hbe,hto⟩
  have HRW:=zh hrow; have HBE:=zh hbe; have HTO:=zh hto
  clear hrow hbe hto
  go_loopg [8,10] 2 (fun gk q s wr => ∃ j:Nat,j <= 2 /\ gk = 2 - j /\ s = .int .i64 j /\ TO wr w.heap.size q (acc j) /\ Row wr (w.heap.size + 2) 34 #[.slice A la c,.slice A2 lb c2] /\ Below w.heap.size w wr)
  case atStart => exact ⟨0,by omega,rfl,rfl,HTO.out,HRW.out,HBE.out⟩
  case round =>
   clear HTO HRW HBE
   obtain ⟨j,hj,rfl,rfl,hto,hrow,hbe⟩:=hrel
   by_cases hj2:j < 2
   ·have hpart:∃ (f:List Lf) (nf:Nat) (Af:Option Addr) (cf a0:Nat),(#[.slice A la c,.slice A2 lb c2]:Array Value)[j]? = some (.slice Af nf cf) /\ TS w (.slice Af nf cf) f /\ nf = f.length /\ nf <= 1000 /\ KidBd f /\ (acc j).length = a0 /\ a0 <= 1001 /\ acc (j + 1) = acc j ++ zaq (a0:Int) f:=by
     have hj3:j = 0 \/ j = 1:=by omega
     rcases hj3 with rfl | rfl
     ·exact ⟨l,la,A,c,1,rfl,HV.out,HLA.out,hl,HKL.out,HL0.out,by omega,HA1.out⟩
     ·exact ⟨r,lb,A2,c2,1 + la,rfl,HU.out,HLB.out,hr,HKR.out,HL1.out,by omega,by rw [HA2.out,Int.natCast_add]; rfl⟩
    obtain ⟨f,nf,Af,cf,a0,hp,htf,hnf,hnf1,hkf,hal,ha0,hacc⟩:=hpart
    obtain ⟨A9,c9,rfl⟩:=hto.ts.form
    rw [hal] at hto ⊢
    have rp:wr.cell? ⟨w.heap.size + 2,j,none⟩ = some (.slice Af nf cf):=by rw [hrow.cell]; exact hp
    have HF:=zh htf; have HNF:=zh hnf; have HKF:=zh hkf; have HAC:=zh hacc; have HAL:=zh hal
    have HTO:=zh hto; have HRW:=zh hrow; have HBE:=zh hbe
    have hji:(j:Int) < 2:=by omega
    clear hp htf hnf hkf hacc hal hto hrow hbe HV HU HLA HLB HKL HKR HA1 HA2 HL0 HL1 HA0
    go_wp2
    obtain ⟨wo,hwo⟩:=zx wr
    subst hwo
    go_loopg [8,12] nf (fun gk q s wx => ∃ k:Nat,k <= nf /\ gk = nf - k /\ s = .int .i64 k /\ TO wx w.heap.size q (acc j ++ zaq (a0:Int) (f.take k)) /\ Row wx (w.heap.size + 2) 34 #[.slice A la c,.slice A2 lb c2] /\ wx.cell? ⟨w.heap.size + 2,j,none⟩ = some (.slice Af nf cf) /\ Below w.heap.size w wx)
    case atStart => exact ⟨0,by omega,rfl,rfl,by simpa [zaq] using HTO.out,HRW.out,rp,HBE.out⟩
    case round =>
     clear HTO HRW HBE rp
     obtain ⟨k,hk,rfl,rfl,hto,hrow,rp,hbe⟩:=hrel
     have HO:=zh hto; have HRW:=zh hrow; have HB:=zh hbe
     have HVr:=zh (HF.out.below hbe zn)
     have hzs:=hbe.size
     clear hto hrow hbe
     by_cases hlt:k < nf
     ·obtain ⟨x,hx⟩:∃ x,f[k]? = some x:=⟨f[k]'(by rw [<- HNF.out]; omega),List.getElem?_eq_getElem _⟩
      obtain ⟨l1,l2⟩:=HF.out.lb x (List.mem_of_getElem? hx)
      obtain ⟨⟨b1,b2⟩,b3,b4⟩:=HKF.out x (List.mem_of_getElem? hx)
      obtain ⟨b,o,rfl⟩:=HVr.out.addr (by rw [<- HNF.out]; omega)
      obtain ⟨c0,c1,c2'⟩:=HVr.out.at3 hx
      have HS:=zh (zl4 (a0:Int) hx)
      obtain ⟨cur,hcur⟩:=zx (acc j ++ zaq (a0:Int) (f.take k))
      have hcl:cur.length <= 3000:=by rw [hcur,List.length_append,HAL.out,zck,List.length_take]; omega
      rw [<- hcur] at HO
      obtain ⟨lb',xl,xr⟩:=x
      simp only at c0 c1 c2' l1 l2 b1 b2 b3 b4
      obtain ⟨ml,hml'⟩:=zx (mvd xl (a0:Int))
      obtain ⟨mr,hmr'⟩:=zx (mvd xr (a0:Int))
      have HS2:Hid (acc j ++ zaq (a0:Int) (f.take (k + 1)) = cur ++ [⟨lb',ml,mr⟩]):=by rw [Hid,HS.out,hml',hmr',hcur,List.append_assoc]; rfl
      have hcase:((xl != -1) = false /\ xl = -1 /\ ml = -1) \/ ((xl != -1) = true /\ ml = xl + a0):=by
       by_cases h:xl = -1
       ·exact .inl ⟨by rw [h]; decide,h,by rw [hml',h]; rfl⟩
       ·exact .inr ⟨by simp [h],by rw [hml']; unfold mvd; rw [if_neg h]⟩
      have hcase2:((xr != -1) = false /\ xr = -1 /\ mr = -1) \/ ((xr != -1) = true /\ mr = xr + a0):=by
       by_cases h:xr = -1
       ·exact .inl ⟨by rw [h]; decide,h,by rw [hmr',h]; rfl⟩
       ·exact .inr ⟨by simp [h],by rw [hmr']; unfold mvd; rw [if_neg h]⟩
      clear hx HS hcur hml' hmr'
      rcases hcase with ⟨_,rfl,rfl⟩ | ⟨e1,rfl⟩ <;> rcases hcase2 with ⟨_,rfl,rfl⟩ | ⟨e2,rfl⟩
      all_goals
       go_wp2_with (at_builtin; go_must (refine zau rfl (.tmp 70) (.tmp 72) rfl w.heap.size _ cur rfl (HO.out.below (B':=wr.heap.size) (by go_grown) zn) _ [⟨lb',_,_⟩] rfl (TS.one (by first | exact Row.new _ _ _ | exact Row.lit (by simp only [World.size_alloc])) (by omega) (by omega)) (by simp only [List.length_cons,List.length_nil]; omega) (by simp only [World.size_alloc]; omega) ?_; intro v3 w3 ho3 hg3 _))
       have HB3:=zh (zba (w:=w) (g:=[]) (v':=v3) (by have h1:=HB.out; go_grown) (HO.out.below (B':=wr.heap.size) (by go_grown) zn) hg3 (by simp only [World.size_alloc]; omega))
       have HRW3:=zh (Row.far_own (Row.alloc (Row.alloc HRW.out _) _) (by decide) (HO.out.below (B':=wr.heap.size) (by go_grown) zn).2 hg3)
       have rp3:w3.cell? ⟨w.heap.size + 2,j,none⟩ = some (.slice (some ⟨b,o,none⟩) nf cf):=by rw [HRW3.out.cell,<- HRW.out.cell]; exact rp
       rw [<- HS2.out] at ho3
       have HO3:=zh ho3; clear ho3 hg3
       clear rp
       go_wp2
       go_roundg (nf - (k + 1))
       case rel => exact ⟨k + 1,by omega,rfl,by go_num,HO3.out,HRW3.out,rp3,HB3.out⟩
       case measure => omega
     ·have hkm':k = nf:=by omega
      subst hkm'
      have ho:=HO.out
      rw [List.take_of_length_le (by rw [<- HNF.out]; exact zn),<- HAC.out] at ho
      have HO2:=zh ho
      clear ho HO
      go_wp2
      go_roundg (2 - (j + 1))
      case rel => exact ⟨j + 1,by omega,rfl,by go_num,HO2.out,HRW.out,HB.out⟩
      case measure => omega
   ·have hj3:j = 2:=by omega
    subst hj3
    have HTO:=zh hto; have HBE:=zh hbe
    clear hto hrow hbe
    go_wp2
    go_returns
    exact ⟨_,rfl,HBE.out,by rw [HJT.out]; exact HTO.out⟩
theorem zqn {w:World} {B n size:Nat} {e:TypeId} {v:Value} {xs:List Value} (h:w.ownsRow B e size v n xs) (hn:0 < n):∃ g cap cs,v = .slice (some ⟨g,0,none⟩) n cap /\ B <= g /\ Row w g e cs /\ n * size <= cs.size /\ n <= 9223372036854775807:=by
 rcases h.2 with ⟨_,h0⟩ | ⟨g,cap,cur,hv,hB,hg,hnc,hcm,hcs,_⟩
 ·omega
 ·exact ⟨g,cap,cur,hv,hB,hg,by rw [hcs]; exact Nat.mul_le_mul_right _ hnc,by simp only [maxLen] at hcm; omega⟩
theorem zfx {w:World} {g:Nat} {t:TypeId} {cs:Array Value} (h:Row w g t cs) {i:Nat} (hi:i < cs.size):∃ u,w.cell? ⟨g,i,none⟩ = some u:=⟨cs[i],by rw [h.cell,Array.getElem?_eq_getElem hi]⟩
theorem zn4 {w:World} {B:Nat} {e:TypeId} {size:Nat} {v:Value} {xs:List Value} (h:w.ownsRow B e size v 0 xs):∃ A c,v = .slice A 0 c:=by
 rcases h.2 with ⟨hv,_⟩ | ⟨g,cap,cur,hv,_⟩
 ·exact ⟨none,0,hv⟩
 ·exact ⟨_,cap,hv⟩
theorem zd0 {w w':World} {g:Nat} (h:w.grownBy w' (some g)) (o:Nat) (v:Value):w.grownBy (w'.setCell ⟨g,o,none⟩ v) (some g) :=
 ⟨h.os,h.tape,h.output,by simpa [World.setCell] using h.size,fun i hi hne => (Below.heap_setCell w' ⟨g,o,none⟩ v i (by rintro rfl; exact hne rfl)).trans (h.block i hi hne)⟩
theorem zn2 (f:List Lf) (v:Value) (B:Nat) (w:World) (hv:TO w B v f) :
  Calls Tryz.prog 27 #[v] w fun e w' => e = .returned (.tuple #[]) /\ w.grownBy w' v.ownBlock:=by
 obtain ⟨n,hn⟩:=zx f.length
 have hv2:w.ownsRow B 61 3 v f.length (za6 f):=hv.2
 rw [<- hn] at hv2
 clear hv hn
 by_cases h0:n = 0
 ·subst h0
  obtain ⟨A,c,rfl⟩:=zn4 hv2
  clear hv2
  go_enter Tryz.func27,Tryz.ntmps27
  go_wp2
  go_rounds 1
  refine bodyPost_end (results_none rfl _ _ _) rfl ?_
  exact ⟨rfl,World.grownBy.refl _ _⟩
 ·obtain ⟨g,cap,cs,rfl,hBg,hr,hsz,hnm⟩:=zqn hv2 (by omega)
  clear hv2
  have HR0:=zh hr; clear hr
  go_enter Tryz.func27,Tryz.ntmps27
  go_wp2
  go_loopg [2] n (fun gk q wr => ∃ (k:Nat) (cs':Array Value),k <= n /\ gk = n - k /\ q = .int .i64 k /\ w.grownBy wr (some g) /\ Row wr g 61 cs' /\ n * 3 <= cs'.size)
  case atStart => exact ⟨0,cs,Nat.zero_le _,rfl,rfl,World.grownBy.refl _ _,HR0.out,hsz⟩
  case round =>
   obtain ⟨k,cs',hk,rfl,rfl,hb,hr,hs⟩:=hrel
   have HB:=zh hb; clear hb
   by_cases hlt:k < n
   ·obtain ⟨u0,c0⟩:=zfx hr (i:=k * 3) (by omega)
    obtain ⟨u1,c1⟩:=zfx hr (i:=k * 3 + 1) (by omega)
    obtain ⟨u2,c2⟩:=zfx hr (i:=k * 3 + 2) (by omega)
    have fr:=hr.free
    have HR:=zh hr; clear hr
    go_wp2
    go_roundg (n - (k + 1))
    case rel => exact ⟨k + 1,_,by omega,rfl,by go_num,zd0 (zd0 (zd0 HB.out _ _) _ _) _ _,((HR.out.set _ _).set _ _).set _ _,by simpa using hs⟩
    case measure => omega
   ·go_wp2
    refine bodyPost_end (results_none rfl _ _ _) rfl ?_
    exact ⟨rfl,HB.out⟩
theorem TO.blk {w:World} {B g:Nat} {v:Value} {f:List Lf} (h:TO w B v f) (hg:v.ownBlock = some g):B <= g /\ g < w.heap.size:=World.ownsRow.lt h.2 g hg
end Go.Proofs.YthkfjnmnoanhlaaGreatDoor

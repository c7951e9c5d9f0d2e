/- Part 33 of the proof; it says: lemmas and contracts. No conditions but those that each theorem states. -/
import Derived.Deep.RegionHeld3
import Derived.Test.YthdabkmkgkkmcaaGreatDoorPb01
import Derived.Test.YthdabkmkgkkmcaaGreatDoorPb10
import Derived.Test.YthdabkmkgkkmcaaGreatDoorPb32
set_option linter.unusedSimpArgs false
set_option linter.unusedVariables false
set_option maxRecDepth 100000
set_option maxHeartbeats 32000000
namespace Go.Proofs.YthdabkmkgkkmcaaGreatDoor
open Go.RowKit
def RetD (w:World) (d:Raw) (e:Ending) (w':World):Prop:=∃ A n c B m k,e = .returned (.agg #[.int .i64 d.vars,.int .i64 d.empty,.slice A n c,.slice B m k]) /\ Below w.heap.size w w' /\ TDO w' w.heap.size (.agg #[.int .i64 d.vars,.int .i64 d.empty,.slice A n c,.slice B m k]) d
abbrev atnx (op X Y:Int) (l r x:Nat):Nat:=if (l < 3 /\ r < 3) \/ op = 1 then stepA op l r (bitA x X) (bitA x Y) else 3
theorem zr5 (op X Y:Int) (V:Nat):(atomA op X Y V).raw V = ⟨(V:Int),0,rows3 4 (2 ^ V) (atnx op X Y) 4,(List.range 4).map fun s => s == finA op⟩:=rfl
theorem fin_set (k:Nat) (hk:k < 4):(List.replicate 4 (Value.bool false)).set k (.bool true) = bL ((List.range 4).map fun s => s == k):=by
 have h:k = 0 \/ k = 1 \/ k = 2 \/ k = 3:=by omega
 rcases h with rfl | rfl | rfl | rfl <;> rfl
theorem zby {Q:Exit -> Act -> World -> Prop} {x:Exit} {a:Act} {w:World} (F:World -> Prop) (hF:F w) (hk:∀ W,F W -> Q x a W):Q x a w:=hk w hF
theorem zqb (x:Nat) (hx:x < 8) (X:Int):bits BinOp.and IntKind.i64 ((x:Int) / 2 ^ X.toNat) 1 = ((bitA x X:Nat):Int):=by
 have e:((x:Int) / 2 ^ X.toNat) = ((x / 2 ^ X.toNat:Nat):Int):=by simp
 have hn:x / 2 ^ X.toNat < 8:=Nat.lt_of_le_of_lt (Nat.div_le_self _ _) hx
 rw [e]
 unfold bitA
 generalize x / 2 ^ X.toNat = n at *
 have h:n = 0 \/ n = 1 \/ n = 2 \/ n = 3 \/ n = 4 \/ n = 5 \/ n = 6 \/ n = 7:=by omega
 rcases h with rfl | rfl | rfl | rfl | rfl | rfl | rfl | rfl <;> decide
structure AtI (w:World) (V gD:Nat) (vn vf:Value) (fl:List Bool) (nx:List (List (List Int))) (W:World):Prop where
 below:Below w.heap.size w W
 gd:w.heap.size <= gD
 rd:Row W gD 30 #[.int .i64 (V:Int),.int .i64 0,vn,vf]
 on:O3 W w.heap.size vn nx
 of:OB W w.heap.size vf fl
theorem AtI.to {w W W':World} {V gD:Nat} {vn vf:Value} {fl:List Bool} {nx:List (List (List Int))} (h:AtI w V gD vn vf fl nx W) (hb:Below W.heap.size W W'):AtI w V gD vn vf fl nx W' :=
 ⟨h.below.trans (hb.mono h.below.size),h.gd,h.rd.below hb h.rd.lt,h.on.below hb zn,OB.below h.of hb zn⟩
theorem AtI.next {w W X:World} {V gD l c':Nat} {vf u v4:Value} {A:Option Addr} {vs:List Value} {fl:List Bool} {nx:List (List (List Int))} {l2:List (List Int)} (h:AtI w V gD (.slice A l c') vf fl nx W)
  (h1:VO 37 W w.heap.size (.slice A l c') vs) (h2:V2 W w.heap.size vs nx) (hu:O2 W w.heap.size u l2) (ho:VO 37 X w.heap.size v4 (vs ++ [u])) (hg:(W.alloc (.cells #[u] 37)).grownBy X (Value.slice A l c').ownBlock) :
  AtI w V gD v4 vf fl (nx ++ [l2]) (X.setCell ⟨gD,2,none⟩ v4):=by
 have hA:=Below.alloc (Below.refl W.heap.size W) zn (.cells #[u] 37)
 have hv:=VO.allocd h1 (.cells #[u] 37)
 have hV24:=V2.far (V2.below h2 hA zn) (by decide) (by decide) hv hg
 have hO24:=O2.far (O2.below hu hA zn) (by decide) (by decide) hv hg
 have hF4:=OB.far (OB.below h.of hA zn) (by decide) hv hg
 have hR:=(Row.alloc h.rd (.cells #[u] 37)).far_own (by decide) hv.2 hg
 have hO3:O3 X w.heap.size v4 (nx ++ [l2]):=⟨_,ho,hV24.snoc hO24⟩
 have hB:=zat (w:=w) (h.below.alloc h.below.size _) hv hg (by simp only [World.size_alloc]; have:=h.below.size; omega)
 exact ⟨hB.setCell (p:=⟨gD,2,none⟩) h.gd _,h.gd,hR.set 2 _,hO3.setRow hR (by decide) (by decide) (by decide) 2 _,hF4.setRow hR (by decide) 2 _⟩
theorem zqe (op X Y A B:Int) (V:Nat) (hV:V <= 3) (h0:0 <= op) (h1:op <= 255) (hX:0 <= X /\ X < 8) (hY:0 <= Y /\ Y < 8) (w:World) :
  Calls Tryz.prog 72 #[.agg #[.int .u8 op,.int .i64 X,.int .i64 Y,.int .i64 A,.int .i64 B],.int .i64 (V:Int)] w (RetD w ((atomA op X Y V).mini.raw V)):=by
 obtain ⟨k,hk⟩:=zx (finA op)
 have hk4:k < 4:=by rw [hk]; exact finA_lt op
 have hst:=fun W => zqt op h0 h1 W
 have HRAW0:=zr5 op X Y V
 simp only [<- hk] at hst
 rw [<- hk] at HRAW0
 have HST:=zh hst
 have hk4i:(k:Int) < 4:=by omega
 clear hst hk
 obtain ⟨L,hL⟩:=zx (2 ^ V)
 have hsh:=zdm V hV
 rw [<- hL] at hsh
 have hL8:L <= 8:=by rw [hL]; exact Nat.pow_le_pow_right (by omega) hV
 have hV3':(V:Int) <= 3:=by omega
 have hV0':(0:Int) <= (V:Int):=by omega
 have hmk:=zbm eII 4 (by omega)
 have hmb:=zbm eB 4 (by omega)
 rw [show ((4:Nat):Int) = 4 from rfl] at hmk hmb
 have HMI:=zh (fun (v:Value) (W:World) (h:TD W v ((atomA op X Y V).raw V)) => zce (atomA op X Y V) V (zcj op X Y hV) v W h)
 have HRAW:=zh HRAW0
 clear HRAW0
 rw [<- hL] at HRAW
 have HLV:=zh hL
 obtain ⟨nx,hnx⟩:=zx (atnx op X Y)
 rw [<- hnx] at HRAW
 have HNX:=zh hnx
 generalize (atomA op X Y V).raw V = RA at *
 obtain ⟨RM,hRM⟩:=zx ((atomA op X Y V).mini.raw V)
 rw [<- hRM] at HMI ⊢
 clear hL hnx hRM
 go_enter Tryz.func72,Tryz.ntmps72
 go_upto_region 1 with fail
 refine zaa (fun W => Below w.heap.size w W /\ Row W w.heap.size 26 #[.int .u8 op,.int .i64 X,.int .i64 Y,.int .i64 A,.int .i64 B] /\ Row W (w.heap.size + 1) 30 #[.int .i64 0,.int .i64 0,.slice none 0 0,.slice none 0 0]) ⟨by go_grown,(Row.new _ _ _).alloc _,Row.lit (by simp)⟩ ?_
 rintro w1 ⟨hb,hr0,hr1⟩
 have HB:=zh hb; have R0:=zh hr0; have R1:=zh hr1
 have y0:=hr0.cell
 clear hb hr0 hr1
 go_upto_region 2 with (first | (go_at_call 118; (with_reducible refine (HST.out _).mono ?_); rintro e w2 ⟨vf,rfl,hb2,hst⟩; have HSTP:=zh hst; have HB2:=zh (HB.out.trans (hb2.mono HB.out.size)); have R02:=zh (R0.out.below hb2 R0.out.lt); have R12:=zh (R1.out.below hb2 R1.out.lt); clear hb2 hst y0) | fail)
 clear R0 R1 HB HST
 go_upto_region 3 with fail
 have HZ0:Hid (Below w2.heap.size w2 w2):=Below.refl _ _
 refine zaa (fun W => (∃ gB,gB = w2.heap.size /\ Row W gB 4 (List.replicate 4 (Value.bool false)).toArray /\ VO 4 W w2.heap.size (.slice (some ⟨gB,0,none⟩) 4 4) (List.replicate 4 (.bool false))) /\ Row W (w2.heap.size + 1) 30 #[.int .i64 (V:Int),.int .i64 0,.slice none 0 0,.slice (some ⟨w2.heap.size,0,none⟩) 4 4] /\ Below w2.heap.size w2 W)
  ⟨⟨_,rfl,(Row.new _ _ _).alloc _,VO.allocd (VO.lit (E:=4) (List.replicate 4 (Value.bool false)) (by simp) (by omega) (by intro u hu; rw [List.eq_of_mem_replicate hu]; rfl)) _⟩,Row.lit (by simp),by go_grown⟩ ?_
 rintro w3 ⟨⟨gB,hgB,hrb,hvo⟩,hrd,hb3⟩
 obtain ⟨gD,hgD⟩:=zx (w2.heap.size + 1)
 rw [<- hgD] at hrd ⊢
 rw [<- hgB] at hrd ⊢
 have hgBD:gB ≠ gD:=by omega
 have z0:=hrd.cell; have z1:=hrb.free
 have z2:w3.cell? ⟨gB,k,none⟩ = some (.bool false):=by rw [hrb.cell k,List.getElem?_toArray,List.getElem?_replicate,if_pos hk4]
 have HGW:=zh (show w2.heap.size <= gB by omega)
 have HVO:=zh hvo; have RD:=zh hrd; have HGD:=zh (show w2.heap.size <= gD by omega)
 have HBT:=zh hb3
 clear hgB hgD hvo hrd hrb hb3 HZ0 hmb
 go_wp2
 refine zaa (fun W => AtI w2 V gD (.slice none 0 0) (.slice (some ⟨gB,0,none⟩) 4 4) ((List.range 4).map fun s => s == k) [] W)
  ⟨HBT.out.setCell (p:=⟨gB,k,none⟩) HGW.out _,HGD.out,RD.out.far (by show gD ≠ gB; exact fun h => hgBD h.symm) _,⟨[],VO.nil _ _ _,rfl,fun i u h => by simp at h⟩,by unfold OB; rw [<- fin_set k (by omega)]; exact zeb HVO.out (by simp) k (.bool true) rfl⟩ ?_
 clear z0 z1 z2 HVO RD HBT HGW HGD hgBD
 rintro W4 hi
 have HI:=zh hi
 clear hi
 generalize Value.slice (some ⟨gB,0,none⟩) 4 4 = vF at *
 go_loopg [28] 4 (fun gk q wr => ∃ (l:Nat) (vn:Value),l <= 4 /\ gk = 4 - l /\ q = .int .i64 l /\ AtI w2 V gD vn vF ((List.range 4).map fun s => s == k) (rows3 4 L nx l) wr)
 case atStart => exact ⟨0,_,Nat.zero_le _,rfl,rfl,HI.out⟩
 case round =>
  clear HI
  obtain ⟨l,vn,hl,rfl,rfl,hi⟩:=hrel
  obtain ⟨wl,hwl⟩:=zx wr
  subst hwl
  have HI:=zh hi
  clear hi
  by_cases hlt:l < 4
  ·have hlti:(l:Int) < 4:=by omega
   go_wp2
   refine zaa (fun W => Below wl.heap.size wl W /\ ∃ g,g = wl.heap.size /\ Row W g 36 (List.replicate 4 (Value.slice none 0 0)).toArray /\ VO 36 W wl.heap.size (.slice (some ⟨g,0,none⟩) 4 4) (List.replicate 4 (Value.slice none 0 0))) ⟨by go_grown,_,rfl,Row.new _ _ _,VO.lit (E:=36) (List.replicate 4 (Value.slice none 0 0)) (by simp) (by omega) (by intro u hu; rw [List.eq_of_mem_replicate hu]; rfl)⟩ ?_
   rintro w5 ⟨hb,g,hg,hrow,hvo⟩
   rw [<- hg]
   have HBL:=zh hb; have HVO:=zh hvo; have HG:=zh hg
   clear hb hrow hvo hg
   go_loopg [34] 4 (fun gk q wr2 => ∃ (r:Nat) (vs:List Value),r <= 4 /\ gk = 4 - r /\ q = .int .i64 r /\ Below wl.heap.size wl wr2 /\ VO 36 wr2 wl.heap.size (.slice (some ⟨g,0,none⟩) 4 4) vs /\ RowsAt wr2 wl.heap.size 4 L l r nx vs)
   case atStart => exact ⟨0,_,Nat.zero_le _,rfl,rfl,HBL.out,HVO.out,RowsAt.start _ _ _ _ _ _⟩
   case round =>
    clear HBL HVO
    obtain ⟨r,vs,hr,rfl,rfl,hbl,hvo,hat⟩:=hrel
    obtain ⟨wx,hwx⟩:=zx wr
    subst hwx
    have HBL:=zh hbl; have HVO:=zh hvo; have HAT:=zh hat
    clear hbl hvo hat
    by_cases hrt:r < 4
    ·have hrti:(r:Int) < 4:=by omega
     have hlen:=HAT.out.len
     obtain ⟨u0,hu0⟩:∃ u,vs[r]? = some u:=⟨vs[r]'(by omega),List.getElem?_eq_getElem _⟩
     have hnil:=HAT.out.todo r u0 hu0 zn
     have HX0:Hid (RowX wl wx g 4 l r 0 nx vs wx):=⟨HBL.out.size,Turns.refl _ _,HBL.out,.slice none 0 0,by
      rw [hnil] at hu0
      rw [zic hu0]; exact HVO.out,VO.nil _ _ _⟩
     have HLEN:=zh hlen
     clear hu0 hnil hlen
     go_wp2
     go_loopg [39] L (fun gk q W0 => ∃ x:Nat,x <= L /\ gk = L - x /\ q = .int .i64 x /\ RowX wl wx g 4 l r x nx vs W0)
     case atStart => exact ⟨0,Nat.zero_le _,rfl,rfl,HX0.out⟩
     case round =>
      clear HX0
      obtain ⟨x,hx,rfl,rfl,hxx⟩:=hrel
      obtain ⟨W,hW⟩:=zx wr
      subst hW
      have HX:=zh hxx; clear hxx
      by_cases hxt:x < L
      ·have hxti:(x:Int) < (L:Int):=by omega
       have HIW:=zh (HI.out.to HX.out.bl)
       have y0:=(R02.out.below HIW.out.below R02.out.lt).cell
       have hbx:=zqc x X; have hby:=zqc x Y
       have qx:=zqb x (by omega) X; have qy:=zqb x (by omega) Y
       have hnx:nx l r x = if (l < 3 /\ r < 3) \/ op = 1 then stepA op l r (bitA x X) (bitA x Y) else 3:=by rw [HNX.out]
       obtain ⟨bx,hbxe⟩:=zx (bitA x X)
       obtain ⟨bY,hbye⟩:=zx (bitA x Y)
       rw [<- hbxe] at hbx hnx qx
       rw [<- hbye] at hby hnx qy
       obtain ⟨s,hs⟩:=zx (stepA op l r bx bY)
       rw [<- hs] at hnx
       clear hbxe hbye
       by_cases hin:l < 3 /\ r < 3
       ·have hl3:(l:Int) < 3:=by omega
        have hr3:(r:Int) < 3:=by omega
        rw [if_pos (Or.inl hin)] at hnx
        have HSV:=zh hnx
        clear hnx hin
        rcases HSTP.out with ⟨ho,e⟩ | ⟨ho,e⟩ | ⟨ho,e⟩ | ⟨ho,gF,gG,e⟩ | ⟨ho,gF,gG,e⟩ | ⟨ho,gF,gG,e⟩ | ⟨ho,e⟩
        ·subst e
         have HCB:Hid (∀ W',Below W.heap.size W W' -> Calls Tryz.prog 141 #[.int .i64 (l:Int),.int .i64 (r:Int),.int .i64 (bx:Int),.int .i64 (bY:Int)] W' fun e w' => e = .returned (.int .i64 (s:Int)) /\ W' = w'):=by
          intro W' hB
          have h:=zq1 l r bx bY (by omega) (by omega) hbx hby W'
          unfold zbd at h
          rw [hs]
          rw [ho]
          exact h
         clear hs hbx hby ho
         go_upto_region 16 with fail
         first
         | go_region_held3 (fun W => W.cell? ⟨w.heap.size,1,none⟩ = some (.int .i64 X) /\ W.cell? ⟨w.heap.size,2,none⟩ = some (.int .i64 Y)) (exact ⟨y0 1,y0 2⟩) (first
          | (go_at_call 141; refine (HCB.out _ (by first | exact Below.refl _ _ | go_grown)).mono ?_; rintro e w3 ⟨rfl,rfl⟩)
          | fail)
         | fail
         refine zby (fun Z => Below W.heap.size W Z) (by first | exact Below.refl _ _ | go_grown) ?_
         clear y0 qx qy HCB HIW
         rintro W2 hb2
         have HX2:=zh (HX.out.keep hb2)
         clear hb2 HX
         obtain ⟨u,hu1,hu2⟩:=HX2.out.row
         obtain ⟨Au,cu,rfl⟩:=VO.formN (n:=x) hu2 (by rw [zad,zaf])
         have U1:=zh hu1; have U2:=zh hu2
         have c0:=VS.at hu1.vs (i:=r) (m:=.slice Au x cu) (by rw [List.getElem?_set,if_pos rfl,if_pos (by rw [HLEN.out]; exact hrt)])
         rw [Nat.zero_add] at c0
         obtain ⟨g3,cap3,cs3,he3,hg3,hrow3,_⟩:=VO.row hu1 (by rw [List.length_set,HLEN.out]; omega)
         simp only [Value.slice.injEq,Option.some.injEq,Addr.mk.injEq,and_true,true_and] at he3
         obtain ⟨rfl,-⟩:=he3
         have f0:=hrow3.free r
         have hgW:=hrow3.lt
         have R3:=zh hrow3
         have HCS:=zh ((hrow3.cell r).symm.trans c0)
         clear hu1 hu2 hg3 hrow3
         go_wp2_with (at_builtin; refine zac eI rfl (.tmp 72) (.tmp 74) rfl wx.heap.size _ _ rfl (VO.allocd U2.out _) _ [.int .i64 (s:Int)] rfl (VS.one (Row.new _ _ _)) (by intro u hu; simp at hu; subst hu; rfl) (by rw [zad,zaf]; simp only [List.length_cons,List.length_nil]; omega) (by simp only [World.size_alloc]; have:=HX2.out.tn.1; omega) ?_; intro v4 w4 ho4 hg4 _; obtain ⟨A4,c4,rfl⟩:=VO.formN (n:=x + 1) ho4 (by rw [List.length_append,zad,zaf]; rfl); rw [<- HSV.out] at ho4; have HX4:=zh (HX2.out.step (by rw [HG.out]; exact zn) HLEN.out hrt U1.out U2.out (Below.refl _ _) ho4 hg4); have R4:=zh ((Row.alloc R3.out _).far_own (by decide) (VO.allocd U2.out _).2 hg4); have c4':=(R4.out.cell r).trans HCS.out; have f4':=R4.out.free r; clear ho4 hg4)
         go_roundg (L - (x + 1))
         case rel => exact ⟨x + 1,by omega,rfl,by go_num,HX4.out⟩
         case measure => omega
        ·subst e
         have HCB:Hid (∀ W',Below W.heap.size W W' -> Calls Tryz.prog 142 #[.int .i64 (l:Int),.int .i64 (r:Int),.int .i64 (bx:Int),.int .i64 (bY:Int)] W' fun e w' => e = .returned (.int .i64 (s:Int)) /\ W' = w'):=by
          intro W' hB
          have h:=zq0 l r bx bY (by omega) (by omega) hbx hby W'
          unfold zbd at h
          rw [hs]
          rw [ho]
          exact h
         clear hs hbx hby ho
         go_upto_region 16 with fail
         first
         | go_region_held3 (fun W => W.cell? ⟨w.heap.size,1,none⟩ = some (.int .i64 X) /\ W.cell? ⟨w.heap.size,2,none⟩ = some (.int .i64 Y)) (exact ⟨y0 1,y0 2⟩) (first
          | (go_at_call 142; refine (HCB.out _ (by first | exact Below.refl _ _ | go_grown)).mono ?_; rintro e w3 ⟨rfl,rfl⟩)
          | fail)
         | fail
         refine zby (fun Z => Below W.heap.size W Z) (by first | exact Below.refl _ _ | go_grown) ?_
         clear y0 qx qy HCB HIW
         rintro W2 hb2
         have HX2:=zh (HX.out.keep hb2)
         clear hb2 HX
         obtain ⟨u,hu1,hu2⟩:=HX2.out.row
         obtain ⟨Au,cu,rfl⟩:=VO.formN (n:=x) hu2 (by rw [zad,zaf])
         have U1:=zh hu1; have U2:=zh hu2
         have c0:=VS.at hu1.vs (i:=r) (m:=.slice Au x cu) (by rw [List.getElem?_set,if_pos rfl,if_pos (by rw [HLEN.out]; exact hrt)])
         rw [Nat.zero_add] at c0
         obtain ⟨g3,cap3,cs3,he3,hg3,hrow3,_⟩:=VO.row hu1 (by rw [List.length_set,HLEN.out]; omega)
         simp only [Value.slice.injEq,Option.some.injEq,Addr.mk.injEq,and_true,true_and] at he3
         obtain ⟨rfl,-⟩:=he3
         have f0:=hrow3.free r
         have hgW:=hrow3.lt
         have R3:=zh hrow3
         have HCS:=zh ((hrow3.cell r).symm.trans c0)
         clear hu1 hu2 hg3 hrow3
         go_wp2_with (at_builtin; refine zac eI rfl (.tmp 72) (.tmp 74) rfl wx.heap.size _ _ rfl (VO.allocd U2.out _) _ [.int .i64 (s:Int)] rfl (VS.one (Row.new _ _ _)) (by intro u hu; simp at hu; subst hu; rfl) (by rw [zad,zaf]; simp only [List.length_cons,List.length_nil]; omega) (by simp only [World.size_alloc]; have:=HX2.out.tn.1; omega) ?_; intro v4 w4 ho4 hg4 _; obtain ⟨A4,c4,rfl⟩:=VO.formN (n:=x + 1) ho4 (by rw [List.length_append,zad,zaf]; rfl); rw [<- HSV.out] at ho4; have HX4:=zh (HX2.out.step (by rw [HG.out]; exact zn) HLEN.out hrt U1.out U2.out (Below.refl _ _) ho4 hg4); have R4:=zh ((Row.alloc R3.out _).far_own (by decide) (VO.allocd U2.out _).2 hg4); have c4':=(R4.out.cell r).trans HCS.out; have f4':=R4.out.free r; clear ho4 hg4)
         go_roundg (L - (x + 1))
         case rel => exact ⟨x + 1,by omega,rfl,by go_num,HX4.out⟩
         case measure => omega
        ·subst e
         have HCB:Hid (∀ W',Below W.heap.size W W' -> Calls Tryz.prog 143 #[.int .i64 (l:Int),.int .i64 (r:Int),.int .i64 (bx:Int),.int .i64 (bY:Int)] W' fun e w' => e = .returned (.int .i64 (s:Int)) /\ W' = w'):=by
          intro W' hB
          have h:=zqz l r bx bY (by omega) (by omega) hbx hby W'
          unfold zbd at h
          rw [hs]
          rw [ho]
          exact h
         clear hs hbx hby ho
         go_upto_region 16 with fail
         first
         | go_region_held3 (fun W => W.cell? ⟨w.heap.size,1,none⟩ = some (.int .i64 X) /\ W.cell? ⟨w.heap.size,2,none⟩ = some (.int .i64 Y)) (exact ⟨y0 1,y0 2⟩) (first
          | (go_at_call 143; refine (HCB.out _ (by first | exact Below.refl _ _ | go_grown)).mono ?_; rintro e w3 ⟨rfl,rfl⟩)
          | fail)
         | fail
         refine zby (fun Z => Below W.heap.size W Z) (by first | exact Below.refl _ _ | go_grown) ?_
         clear y0 qx qy HCB HIW
         rintro W2 hb2
         have HX2:=zh (HX.out.keep hb2)
         clear hb2 HX
         obtain ⟨u,hu1,hu2⟩:=HX2.out.row
         obtain ⟨Au,cu,rfl⟩:=VO.formN (n:=x) hu2 (by rw [zad,zaf])
         have U1:=zh hu1; have U2:=zh hu2
         have c0:=VS.at hu1.vs (i:=r) (m:=.slice Au x cu) (by rw [List.getElem?_set,if_pos rfl,if_pos (by rw [HLEN.out]; exact hrt)])
         rw [Nat.zero_add] at c0
         obtain ⟨g3,cap3,cs3,he3,hg3,hrow3,_⟩:=VO.row hu1 (by rw [List.length_set,HLEN.out]; omega)
         simp only [Value.slice.injEq,Option.some.injEq,Addr.mk.injEq,and_true,true_and] at he3
         obtain ⟨rfl,-⟩:=he3
         have f0:=hrow3.free r
         have hgW:=hrow3.lt
         have R3:=zh hrow3
         have HCS:=zh ((hrow3.cell r).symm.trans c0)
         clear hu1 hu2 hg3 hrow3
         go_wp2_with (at_builtin; refine zac eI rfl (.tmp 72) (.tmp 74) rfl wx.heap.size _ _ rfl (VO.allocd U2.out _) _ [.int .i64 (s:Int)] rfl (VS.one (Row.new _ _ _)) (by intro u hu; simp at hu; subst hu; rfl) (by rw [zad,zaf]; simp only [List.length_cons,List.length_nil]; omega) (by simp only [World.size_alloc]; have:=HX2.out.tn.1; omega) ?_; intro v4 w4 ho4 hg4 _; obtain ⟨A4,c4,rfl⟩:=VO.formN (n:=x + 1) ho4 (by rw [List.length_append,zad,zaf]; rfl); rw [<- HSV.out] at ho4; have HX4:=zh (HX2.out.step (by rw [HG.out]; exact zn) HLEN.out hrt U1.out U2.out (Below.refl _ _) ho4 hg4); have R4:=zh ((Row.alloc R3.out _).far_own (by decide) (VO.allocd U2.out _).2 hg4); have c4':=(R4.out.cell r).trans HCS.out; have f4':=R4.out.free r; clear ho4 hg4)
         go_roundg (L - (x + 1))
         case rel => exact ⟨x + 1,by omega,rfl,by go_num,HX4.out⟩
         case measure => omega
        ·have e1:=e.eq
         subst e1
         have HE:=zh (e.below HIW.out.below)
         clear e
         have HCB:Hid (∀ W',Below W.heap.size W W' -> Calls Tryz.prog 167 #[.int .i64 (l:Int),.int .i64 (r:Int),.int .i64 (bx:Int),.int .i64 (bY:Int),.pointer (some ⟨gF,0,none⟩),.pointer (some ⟨gG,0,none⟩)] W' fun e w' => e = .returned (.int .i64 (s:Int)) /\ W' = w'):=by
          intro W' hB
          have h:=zqy l r bx bY (by omega) (by omega) hbx hby W' gF gG (HE.out.below hB).far (HE.out.below hB).fnd
          unfold zbd at h
          rw [hs]
          rw [ho]
          exact h
         clear hs hbx hby ho HE
         go_upto_region 16 with fail
         first
         | go_region_held3 (fun W => W.cell? ⟨w.heap.size,1,none⟩ = some (.int .i64 X) /\ W.cell? ⟨w.heap.size,2,none⟩ = some (.int .i64 Y)) (exact ⟨y0 1,y0 2⟩) (first
          | (go_at_call 167; refine (HCB.out _ (by first | exact Below.refl _ _ | go_grown)).mono ?_; rintro e w3 ⟨rfl,rfl⟩)
          | fail)
         | fail
         refine zby (fun Z => Below W.heap.size W Z) (by first | exact Below.refl _ _ | go_grown) ?_
         clear y0 qx qy HCB HIW
         rintro W2 hb2
         have HX2:=zh (HX.out.keep hb2)
         clear hb2 HX
         obtain ⟨u,hu1,hu2⟩:=HX2.out.row
         obtain ⟨Au,cu,rfl⟩:=VO.formN (n:=x) hu2 (by rw [zad,zaf])
         have U1:=zh hu1; have U2:=zh hu2
         have c0:=VS.at hu1.vs (i:=r) (m:=.slice Au x cu) (by rw [List.getElem?_set,if_pos rfl,if_pos (by rw [HLEN.out]; exact hrt)])
         rw [Nat.zero_add] at c0
         obtain ⟨g3,cap3,cs3,he3,hg3,hrow3,_⟩:=VO.row hu1 (by rw [List.length_set,HLEN.out]; omega)
         simp only [Value.slice.injEq,Option.some.injEq,Addr.mk.injEq,and_true,true_and] at he3
         obtain ⟨rfl,-⟩:=he3
         have f0:=hrow3.free r
         have hgW:=hrow3.lt
         have R3:=zh hrow3
         have HCS:=zh ((hrow3.cell r).symm.trans c0)
         clear hu1 hu2 hg3 hrow3
         go_wp2_with (at_builtin; refine zac eI rfl (.tmp 72) (.tmp 74) rfl wx.heap.size _ _ rfl (VO.allocd U2.out _) _ [.int .i64 (s:Int)] rfl (VS.one (Row.new _ _ _)) (by intro u hu; simp at hu; subst hu; rfl) (by rw [zad,zaf]; simp only [List.length_cons,List.length_nil]; omega) (by simp only [World.size_alloc]; have:=HX2.out.tn.1; omega) ?_; intro v4 w4 ho4 hg4 _; obtain ⟨A4,c4,rfl⟩:=VO.formN (n:=x + 1) ho4 (by rw [List.length_append,zad,zaf]; rfl); rw [<- HSV.out] at ho4; have HX4:=zh (HX2.out.step (by rw [HG.out]; exact zn) HLEN.out hrt U1.out U2.out (Below.refl _ _) ho4 hg4); have R4:=zh ((Row.alloc R3.out _).far_own (by decide) (VO.allocd U2.out _).2 hg4); have c4':=(R4.out.cell r).trans HCS.out; have f4':=R4.out.free r; clear ho4 hg4)
         go_roundg (L - (x + 1))
         case rel => exact ⟨x + 1,by omega,rfl,by go_num,HX4.out⟩
         case measure => omega
        ·have e1:=e.eq
         subst e1
         have HE:=zh (e.below HIW.out.below)
         clear e
         have HCB:Hid (∀ W',Below W.heap.size W W' -> Calls Tryz.prog 167 #[.int .i64 (l:Int),.int .i64 (r:Int),.int .i64 (bx:Int),.int .i64 (bY:Int),.pointer (some ⟨gF,0,none⟩),.pointer (some ⟨gG,0,none⟩)] W' fun e w' => e = .returned (.int .i64 (s:Int)) /\ W' = w'):=by
          intro W' hB
          have h:=zqx l r bx bY (by omega) (by omega) hbx hby W' gF gG (HE.out.below hB).far (HE.out.below hB).fnd
          unfold zbd at h
          rw [hs]
          rw [ho]
          exact h
         clear hs hbx hby ho HE
         go_upto_region 16 with fail
         first
         | go_region_held3 (fun W => W.cell? ⟨w.heap.size,1,none⟩ = some (.int .i64 X) /\ W.cell? ⟨w.heap.size,2,none⟩ = some (.int .i64 Y)) (exact ⟨y0 1,y0 2⟩) (first
          | (go_at_call 167; refine (HCB.out _ (by first | exact Below.refl _ _ | go_grown)).mono ?_; rintro e w3 ⟨rfl,rfl⟩)
          | fail)
         | fail
         refine zby (fun Z => Below W.heap.size W Z) (by first | exact Below.refl _ _ | go_grown) ?_
         clear y0 qx qy HCB HIW
         rintro W2 hb2
         have HX2:=zh (HX.out.keep hb2)
         clear hb2 HX
         obtain ⟨u,hu1,hu2⟩:=HX2.out.row
         obtain ⟨Au,cu,rfl⟩:=VO.formN (n:=x) hu2 (by rw [zad,zaf])
         have U1:=zh hu1; have U2:=zh hu2
         have c0:=VS.at hu1.vs (i:=r) (m:=.slice Au x cu) (by rw [List.getElem?_set,if_pos rfl,if_pos (by rw [HLEN.out]; exact hrt)])
         rw [Nat.zero_add] at c0
         obtain ⟨g3,cap3,cs3,he3,hg3,hrow3,_⟩:=VO.row hu1 (by rw [List.length_set,HLEN.out]; omega)
         simp only [Value.slice.injEq,Option.some.injEq,Addr.mk.injEq,and_true,true_and] at he3
         obtain ⟨rfl,-⟩:=he3
         have f0:=hrow3.free r
         have hgW:=hrow3.lt
         have R3:=zh hrow3
         have HCS:=zh ((hrow3.cell r).symm.trans c0)
         clear hu1 hu2 hg3 hrow3
         go_wp2_with (at_builtin; refine zac eI rfl (.tmp 72) (.tmp 74) rfl wx.heap.size _ _ rfl (VO.allocd U2.out _) _ [.int .i64 (s:Int)] rfl (VS.one (Row.new _ _ _)) (by intro u hu; simp at hu; subst hu; rfl) (by rw [zad,zaf]; simp only [List.length_cons,List.length_nil]; omega) (by simp only [World.size_alloc]; have:=HX2.out.tn.1; omega) ?_; intro v4 w4 ho4 hg4 _; obtain ⟨A4,c4,rfl⟩:=VO.formN (n:=x + 1) ho4 (by rw [List.length_append,zad,zaf]; rfl); rw [<- HSV.out] at ho4; have HX4:=zh (HX2.out.step (by rw [HG.out]; exact zn) HLEN.out hrt U1.out U2.out (Below.refl _ _) ho4 hg4); have R4:=zh ((Row.alloc R3.out _).far_own (by decide) (VO.allocd U2.out _).2 hg4); have c4':=(R4.out.cell r).trans HCS.out; have f4':=R4.out.free r; clear ho4 hg4)
         go_roundg (L - (x + 1))
         case rel => exact ⟨x + 1,by omega,rfl,by go_num,HX4.out⟩
         case measure => omega
        ·have e1:=e.eq
         subst e1
         have HE:=zh (e.below HIW.out.below)
         clear e
         have HCB:Hid (∀ W',Below W.heap.size W W' -> Calls Tryz.prog 167 #[.int .i64 (l:Int),.int .i64 (r:Int),.int .i64 (bx:Int),.int .i64 (bY:Int),.pointer (some ⟨gF,0,none⟩),.pointer (some ⟨gG,0,none⟩)] W' fun e w' => e = .returned (.int .i64 (s:Int)) /\ W' = w'):=by
          intro W' hB
          have h:=zqw l r bx bY (by omega) (by omega) hbx hby W' gF gG (HE.out.below hB).far (HE.out.below hB).fnd
          unfold zbd at h
          rw [hs]
          rw [ho]
          exact h
         clear hs hbx hby ho HE
         go_upto_region 16 with fail
         first
         | go_region_held3 (fun W => W.cell? ⟨w.heap.size,1,none⟩ = some (.int .i64 X) /\ W.cell? ⟨w.heap.size,2,none⟩ = some (.int .i64 Y)) (exact ⟨y0 1,y0 2⟩) (first
          | (go_at_call 167; refine (HCB.out _ (by first | exact Below.refl _ _ | go_grown)).mono ?_; rintro e w3 ⟨rfl,rfl⟩)
          | fail)
         | fail
         refine zby (fun Z => Below W.heap.size W Z) (by first | exact Below.refl _ _ | go_grown) ?_
         clear y0 qx qy HCB HIW
         rintro W2 hb2
         have HX2:=zh (HX.out.keep hb2)
         clear hb2 HX
         obtain ⟨u,hu1,hu2⟩:=HX2.out.row
         obtain ⟨Au,cu,rfl⟩:=VO.formN (n:=x) hu2 (by rw [zad,zaf])
         have U1:=zh hu1; have U2:=zh hu2
         have c0:=VS.at hu1.vs (i:=r) (m:=.slice Au x cu) (by rw [List.getElem?_set,if_pos rfl,if_pos (by rw [HLEN.out]; exact hrt)])
         rw [Nat.zero_add] at c0
         obtain ⟨g3,cap3,cs3,he3,hg3,hrow3,_⟩:=VO.row hu1 (by rw [List.length_set,HLEN.out]; omega)
         simp only [Value.slice.injEq,Option.some.injEq,Addr.mk.injEq,and_true,true_and] at he3
         obtain ⟨rfl,-⟩:=he3
         have f0:=hrow3.free r
         have hgW:=hrow3.lt
         have R3:=zh hrow3
         have HCS:=zh ((hrow3.cell r).symm.trans c0)
         clear hu1 hu2 hg3 hrow3
         go_wp2_with (at_builtin; refine zac eI rfl (.tmp 72) (.tmp 74) rfl wx.heap.size _ _ rfl (VO.allocd U2.out _) _ [.int .i64 (s:Int)] rfl (VS.one (Row.new _ _ _)) (by intro u hu; simp at hu; subst hu; rfl) (by rw [zad,zaf]; simp only [List.length_cons,List.length_nil]; omega) (by simp only [World.size_alloc]; have:=HX2.out.tn.1; omega) ?_; intro v4 w4 ho4 hg4 _; obtain ⟨A4,c4,rfl⟩:=VO.formN (n:=x + 1) ho4 (by rw [List.length_append,zad,zaf]; rfl); rw [<- HSV.out] at ho4; have HX4:=zh (HX2.out.step (by rw [HG.out]; exact zn) HLEN.out hrt U1.out U2.out (Below.refl _ _) ho4 hg4); have R4:=zh ((Row.alloc R3.out _).far_own (by decide) (VO.allocd U2.out _).2 hg4); have c4':=(R4.out.cell r).trans HCS.out; have f4':=R4.out.free r; clear ho4 hg4)
         go_roundg (L - (x + 1))
         case rel => exact ⟨x + 1,by omega,rfl,by go_num,HX4.out⟩
         case measure => omega
        ·subst e
         have HCB:Hid (∀ W',Below W.heap.size W W' -> Calls Tryz.prog 149 #[.int .i64 (l:Int),.int .i64 (r:Int),.int .i64 (bx:Int),.int .i64 (bY:Int)] W' fun e w' => e = .returned (.int .i64 (s:Int)) /\ W' = w'):=by
          intro W' hB
          have h:=zk8 op ho.1 ho.2.1 ho.2.2.1 ho.2.2.2.1 ho.2.2.2.2.1 ho.2.2.2.2.2 l r bx bY W'
          unfold zbd at h
          rw [hs]
          exact h
         clear hs hbx hby ho
         go_upto_region 16 with fail
         first
         | go_region_held3 (fun W => W.cell? ⟨w.heap.size,1,none⟩ = some (.int .i64 X) /\ W.cell? ⟨w.heap.size,2,none⟩ = some (.int .i64 Y)) (exact ⟨y0 1,y0 2⟩) (first
          | (go_at_call 149; refine (HCB.out _ (by first | exact Below.refl _ _ | go_grown)).mono ?_; rintro e w3 ⟨rfl,rfl⟩)
          | fail)
         | fail
         refine zby (fun Z => Below W.heap.size W Z) (by first | exact Below.refl _ _ | go_grown) ?_
         clear y0 qx qy HCB HIW
         rintro W2 hb2
         have HX2:=zh (HX.out.keep hb2)
         clear hb2 HX
         obtain ⟨u,hu1,hu2⟩:=HX2.out.row
         obtain ⟨Au,cu,rfl⟩:=VO.formN (n:=x) hu2 (by rw [zad,zaf])
         have U1:=zh hu1; have U2:=zh hu2
         have c0:=VS.at hu1.vs (i:=r) (m:=.slice Au x cu) (by rw [List.getElem?_set,if_pos rfl,if_pos (by rw [HLEN.out]; exact hrt)])
         rw [Nat.zero_add] at c0
         obtain ⟨g3,cap3,cs3,he3,hg3,hrow3,_⟩:=VO.row hu1 (by rw [List.length_set,HLEN.out]; omega)
         simp only [Value.slice.injEq,Option.some.injEq,Addr.mk.injEq,and_true,true_and] at he3
         obtain ⟨rfl,-⟩:=he3
         have f0:=hrow3.free r
         have hgW:=hrow3.lt
         have R3:=zh hrow3
         have HCS:=zh ((hrow3.cell r).symm.trans c0)
         clear hu1 hu2 hg3 hrow3
         go_wp2_with (at_builtin; refine zac eI rfl (.tmp 72) (.tmp 74) rfl wx.heap.size _ _ rfl (VO.allocd U2.out _) _ [.int .i64 (s:Int)] rfl (VS.one (Row.new _ _ _)) (by intro u hu; simp at hu; subst hu; rfl) (by rw [zad,zaf]; simp only [List.length_cons,List.length_nil]; omega) (by simp only [World.size_alloc]; have:=HX2.out.tn.1; omega) ?_; intro v4 w4 ho4 hg4 _; obtain ⟨A4,c4,rfl⟩:=VO.formN (n:=x + 1) ho4 (by rw [List.length_append,zad,zaf]; rfl); rw [<- HSV.out] at ho4; have HX4:=zh (HX2.out.step (by rw [HG.out]; exact zn) HLEN.out hrt U1.out U2.out (Below.refl _ _) ho4 hg4); have R4:=zh ((Row.alloc R3.out _).far_own (by decide) (VO.allocd U2.out _).2 hg4); have c4':=(R4.out.cell r).trans HCS.out; have f4':=R4.out.free r; clear ho4 hg4)
         go_roundg (L - (x + 1))
         case rel => exact ⟨x + 1,by omega,rfl,by go_num,HX4.out⟩
         case measure => omega
       ·by_cases hop1:op = 1
        ·have q1:(op == 1) = true:=by simpa using hop1
         rw [if_pos (Or.inr hop1)] at hnx
         have HSV:=zh hnx
         have hc:(¬ (l:Int) < 3) \/ ((l:Int) < 3 /\ ¬ (r:Int) < 3):=by omega
         have HOP:=zh hop1
         clear hnx hin hop1
         have hst:StpV op vf w2:=HSTP.out
         rcases hst with ⟨ho,e⟩ | ⟨ho,e⟩ | ⟨ho,e⟩ | ⟨ho,e⟩ | ⟨ho,e⟩ | ⟨ho,e⟩ | ⟨ho,e⟩
         all_goals first
          | (exfalso; have:=HOP.out; omega; done)
          | skip
         subst e
         have HCB:Hid (∀ W',Below W.heap.size W W' -> Calls Tryz.prog 149 #[.int .i64 (l:Int),.int .i64 (r:Int),.int .i64 (bx:Int),.int .i64 (bY:Int)] W' fun e w' => e = .returned (.int .i64 (s:Int)) /\ W' = w'):=by
          intro W' hB
          have h:=zk8 op ho.1 ho.2.1 ho.2.2.1 ho.2.2.2.1 ho.2.2.2.2.1 ho.2.2.2.2.2 l r bx bY W'
          unfold zbd at h
          rw [hs]
          exact h
         clear hs hbx hby ho
         rcases hc with g1 | ⟨g1,g2⟩
         all_goals
          go_upto_region 16 with fail
          first
          | go_region_held3 (fun W => W.cell? ⟨w.heap.size,1,none⟩ = some (.int .i64 X) /\ W.cell? ⟨w.heap.size,2,none⟩ = some (.int .i64 Y)) (exact ⟨y0 1,y0 2⟩) (first
           | (go_at_call 149; refine (HCB.out _ (by first | exact Below.refl _ _ | go_grown)).mono ?_; rintro e w3 ⟨rfl,rfl⟩)
           | fail)
          | fail
          refine zby (fun Z => Below W.heap.size W Z) (by first | exact Below.refl _ _ | go_grown) ?_
          clear y0 qx qy HCB HIW
          rintro W2 hb2
          have HX2:=zh (HX.out.keep hb2)
          clear hb2 HX
          obtain ⟨u,hu1,hu2⟩:=HX2.out.row
          obtain ⟨Au,cu,rfl⟩:=VO.formN (n:=x) hu2 (by rw [zad,zaf])
          have U1:=zh hu1; have U2:=zh hu2
          have c0:=VS.at hu1.vs (i:=r) (m:=.slice Au x cu) (by rw [List.getElem?_set,if_pos rfl,if_pos (by rw [HLEN.out]; exact hrt)])
          rw [Nat.zero_add] at c0
          obtain ⟨g3,cap3,cs3,he3,hg3,hrow3,_⟩:=VO.row hu1 (by rw [List.length_set,HLEN.out]; omega)
          simp only [Value.slice.injEq,Option.some.injEq,Addr.mk.injEq,and_true,true_and] at he3
          obtain ⟨rfl,-⟩:=he3
          have f0:=hrow3.free r
          have hgW:=hrow3.lt
          have R3:=zh hrow3
          have HCS:=zh ((hrow3.cell r).symm.trans c0)
          clear hu1 hu2 hg3 hrow3
          go_wp2_with (at_builtin; refine zac eI rfl (.tmp 72) (.tmp 74) rfl wx.heap.size _ _ rfl (VO.allocd U2.out _) _ [.int .i64 (s:Int)] rfl (VS.one (Row.new _ _ _)) (by intro u hu; simp at hu; subst hu; rfl) (by rw [zad,zaf]; simp only [List.length_cons,List.length_nil]; omega) (by simp only [World.size_alloc]; have:=HX2.out.tn.1; omega) ?_; intro v4 w4 ho4 hg4 _; obtain ⟨A4,c4,rfl⟩:=VO.formN (n:=x + 1) ho4 (by rw [List.length_append,zad,zaf]; rfl); rw [<- HSV.out] at ho4; have HX4:=zh (HX2.out.step (by rw [HG.out]; exact zn) HLEN.out hrt U1.out U2.out (Below.refl _ _) ho4 hg4); have R4:=zh ((Row.alloc R3.out _).far_own (by decide) (VO.allocd U2.out _).2 hg4); have c4':=(R4.out.cell r).trans HCS.out; have f4':=R4.out.free r; clear ho4 hg4)
          go_roundg (L - (x + 1))
          case rel => exact ⟨x + 1,by omega,rfl,by go_num,HX4.out⟩
          case measure => omega
        ·rw [if_neg (by intro h; rcases h with h | h; exact hin h; exact hop1 h)] at hnx
         have HSV:=zh hnx
         have q1:(op == 1) = false:=by simpa using hop1
         have hc:(¬ (l:Int) < 3) \/ ((l:Int) < 3 /\ ¬ (r:Int) < 3):=by omega
         clear hnx hin hop1 qx qy hs hbx hby
         rcases hc with g1 | ⟨g1,g2⟩
         all_goals
          go_upto_region 17 with fail
          refine zaa (fun Z => Below W.heap.size W Z) (Below.refl _ _) ?_
          clear y0 HIW
          rintro W2 hb2
          have HX2:=zh (HX.out.keep hb2)
          clear hb2 HX
          obtain ⟨u,hu1,hu2⟩:=HX2.out.row
          obtain ⟨Au,cu,rfl⟩:=VO.formN (n:=x) hu2 (by rw [zad,zaf])
          have U1:=zh hu1; have U2:=zh hu2
          have c0:=VS.at hu1.vs (i:=r) (m:=.slice Au x cu) (by rw [List.getElem?_set,if_pos rfl,if_pos (by rw [HLEN.out]; exact hrt)])
          rw [Nat.zero_add] at c0
          obtain ⟨g3,cap3,cs3,he3,hg3,hrow3,_⟩:=VO.row hu1 (by rw [List.length_set,HLEN.out]; omega)
          simp only [Value.slice.injEq,Option.some.injEq,Addr.mk.injEq,and_true,true_and] at he3
          obtain ⟨rfl,-⟩:=he3
          have f0:=hrow3.free r
          have hgW:=hrow3.lt
          have R3:=zh hrow3
          have HCS:=zh ((hrow3.cell r).symm.trans c0)
          clear hu1 hu2 hg3 hrow3
          go_wp2_with (at_builtin; refine zac eI rfl (.tmp 72) (.tmp 74) rfl wx.heap.size _ _ rfl (VO.allocd U2.out _) _ [.int .i64 3] rfl (VS.one (Row.new _ _ _)) (by intro u hu; simp at hu; subst hu; rfl) (by rw [zad,zaf]; simp only [List.length_cons,List.length_nil]; omega) (by simp only [World.size_alloc]; have:=HX2.out.tn.1; omega) ?_; intro v4 w4 ho4 hg4 _; obtain ⟨A4,c4,rfl⟩:=VO.formN (n:=x + 1) ho4 (by rw [List.length_append,zad,zaf]; rfl); rw [show (3:Int) = ((nx l r x:Nat):Int) by rw [HSV.out]; rfl] at ho4; have HX4:=zh (HX2.out.step (by rw [HG.out]; exact zn) HLEN.out hrt U1.out U2.out (Below.refl _ _) ho4 hg4); have R4:=zh ((Row.alloc R3.out _).far_own (by decide) (VO.allocd U2.out _).2 hg4); have c4':=(R4.out.cell r).trans HCS.out; have f4':=R4.out.free r; clear ho4 hg4)
          go_roundg (L - (x + 1))
          case rel => exact ⟨x + 1,by omega,rfl,by go_num,HX4.out⟩
          case measure => omega
      ·obtain rfl:x = L:=by omega
       have hxti:¬ (x:Int) < (x:Int):=by omega
       obtain ⟨u,hu1,hu2⟩:=HX.out.row
       obtain ⟨g3,cap3,cs3,he3,hg3,hrow3,_⟩:=VO.row HVO.out (by rw [HLEN.out]; omega)
       simp only [Value.slice.injEq,Option.some.injEq,Addr.mk.injEq,and_true,true_and] at he3
       obtain ⟨rfl,-⟩:=he3
       have HAT2:=zh (HAT.out.next HX.out.tn (hrow3.notT (by decide)) hrt (hu2.mono HX.out.le))
       have HU1:=zh hu1
       clear hu1 hu2 hrow3 hg3
       go_wp2
       go_roundg (4 - (r + 1))
       case rel => exact ⟨r + 1,_,by omega,rfl,by go_num,HX.out.bl,HU1.out,HAT2.out⟩
       case measure => omega
    ·obtain rfl:r = 4:=by omega
     have hrti:¬ ((4:Nat):Int) < 4:=by omega
     have HO2:Hid (O2 wx wl.heap.size (.slice (some ⟨g,0,none⟩) 4 4) (rows2 L nx l 4)):=⟨vs,HVO.out,HAT.out.full⟩
     have HIX:=zh (HI.out.to HBL.out)
     have hbs:=HI.out.below.size
     obtain ⟨vsn,hvn,hvn2⟩:=HIX.out.on
     obtain ⟨An,cn,rfl⟩:=VO.formN (n:=l) hvn (by rw [hvn2.1,za0])
     have VN:=zh hvn; have VN2:=zh hvn2
     have z0:=HIX.out.rd.cell; have z1:=HIX.out.rd.free
     have HZ:=zh HIX.out.below.size
     clear hvn hvn2 HAT HVO
     go_wp2_with (at_builtin; refine zac eIII rfl (.tmp 80) (.tmp 82) rfl w2.heap.size _ _ rfl (VO.allocd VN.out _) _ [.slice (some ⟨g,0,none⟩) 4 4] rfl (VS.one (Row.new _ _ _)) (by intro u hu; simp at hu; subst hu; rfl) (by rw [VN2.out.1,za0]; simp; omega) (by simp only [World.size_alloc]; have:=HZ.out; omega) ?_; intro v4 w4 ho4 hg4 _; obtain ⟨A4,c4,rfl⟩:=VO.formN (n:=l + 1) ho4 (by rw [List.length_append,VN2.out.1,za0]; rfl); have HO4:=zh ho4; have HG4:=zh hg4; have R74:=zh ((Row.alloc HIX.out.rd _).far_own (by decide) (VO.allocd VN.out _).2 hg4); clear z0 z1 ho4 hg4; have z0:=R74.out.cell; have z1:=R74.out.free)
     have HI5:Hid (AtI w2 V gD (.slice A4 (l + 1) c4) vF ((List.range 4).map fun s => s == k) (rows3 4 L nx (l + 1)) (w4.setCell ⟨gD,2,none⟩ (.slice A4 (l + 1) c4))):=by
      unfold Hid; rw [zfa]; exact HIX.out.next VN.out VN2.out (HO2.out.mono hbs) HO4.out HG4.out
     clear z0 z1 R74 HO4 HG4 VN VN2 HO2 HIX HI HBL HG
     go_roundg (4 - (l + 1))
     case rel => exact ⟨l + 1,_,by omega,rfl,by go_num,HI5.out⟩
     case measure => omega
  ·obtain rfl:l = 4:=by omega
   have hlti:¬ ((4:Nat):Int) < 4:=by omega
   have htd:TD wl (.agg #[.int .i64 (V:Int),.int .i64 0,vn,vF]) RA:=by
    have h1:=HI.out.on.n3; have h2:=HI.out.of.nb
    rw [HRAW.out]
    exact ⟨_,_,rfl,h1,h2⟩
   obtain ⟨vsn,hvn,hvn2⟩:=HI.out.on
   obtain ⟨An,cn,rfl⟩:=VO.formN (n:=4) hvn (by rw [hvn2.1,za0])
   have HMM:=zh (HMI.out _ wl htd)
   have hbw:=HI.out.below
   have HBW:=zh (HB2.out.trans (hbw.mono HB2.out.size))
   have RR:=zh (R12.out.below hbw R12.out.lt)
   have z0:=HI.out.rd.cell
   have HSZ:=zh (show w.heap.size + 1 < wl.heap.size from RR.out.lt)
   clear htd hvn hvn2 hbw HMI HSTP HRAW HNX HLV
   go_wp2_with (first | (go_at_call 14; refine HMM.out.mono ?_; intro e w6 h6; obtain ⟨A6,c6,A7,c7,rfl,hb6,ht6⟩:=h6.unfold; have HT:=zh ht6; have HB6:=zh hb6; have RR6:=zh (RR.out.below hb6 RR.out.lt); have RA6:=zh (Row.alloc RR6.out (.cells #[.int .i64 RM.vars,.int .i64 RM.empty,.slice A6 RM.next.length c6,.slice A7 RM.fin.length c7] 30)); have b0:=RA6.out.cell; have b1:=RA6.out.free; have q0:=b0 0; have q1:=b0 1; have q2:=b0 2; have q3:=b0 3; simp only [zg] at q0 q1 q2 q3; have b3:=RA6.out.lt; clear b0 h6 hb6 ht6 z0) | fail)
   refine zah (fun X => Row X (w.heap.size + 1) 30 #[.int .i64 RM.vars,.int .i64 RM.empty,.slice A6 RM.next.length c6,.slice A7 RM.fin.length c7] /\ TDO X w.heap.size (.agg #[.int .i64 RM.vars,.int .i64 RM.empty,.slice A6 RM.next.length c6,.slice A7 RM.fin.length c7]) RM /\ Below w.heap.size w X)
    (zaz RA6.out ((HT.out.below (Below.alloc (Below.refl w6.heap.size w6) zn _) zn).mono HBW.out.size) (Below.alloc (HBW.out.trans (HB6.out.mono HBW.out.size)) (Nat.le_trans HBW.out.size HB6.out.size) _) (Nat.le_succ _)) ?_
   clear q0 q1 q2 q3 b1 b3 RA6 RR6 HT HB6 RR
   rintro W5 ⟨r0,hT,hb⟩
   have b0:=r0.cell
   have q0:=b0 0; have q1:=b0 1; have q2:=b0 2; have q3:=b0 3
   simp only [zg] at q0 q1 q2 q3
   have HT:=zh hT; have HBX:=zh hb
   clear b0 r0 hT hb
   exact bodyPost_ret (v:=.agg #[.int .i64 RM.vars,.int .i64 RM.empty,.slice A6 RM.next.length c6,.slice A7 RM.fin.length c7]) (by simp [results,Tryz.results72,go_sem,q0,q1,q2,q3]) rfl ⟨_,_,_,_,_,_,rfl,HBX.out,HT.out⟩
end Go.Proofs.YthdabkmkgkkmcaaGreatDoor

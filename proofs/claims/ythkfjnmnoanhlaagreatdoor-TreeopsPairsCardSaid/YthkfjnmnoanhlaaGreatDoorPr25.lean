/- Part 25 of the proof; it says: lemmas and contracts. No conditions but those that each theorem states. -/
import Derived.Deep.RegionHeld3
import Derived.Test.YthkfjnmnoanhlaaGreatDoorPr01
import Derived.Test.YthkfjnmnoanhlaaGreatDoorPr08
import Derived.Test.YthkfjnmnoanhlaaGreatDoorPr09
import Derived.Test.YthkfjnmnoanhlaaGreatDoorPr12
import Derived.Test.YthkfjnmnoanhlaaGreatDoorPr24
set_option linter.unusedSimpArgs false
set_option linter.unusedVariables false
set_option linter.unusedSectionVars false
set_option maxRecDepth 100000
set_option maxHeartbeats 32000000
namespace Go.Proofs.YthkfjnmnoanhlaaGreatDoor
open Go.RowKit
theorem TDO.shape {W:World} {B:Nat} {v:Value} {r:Raw} (h:TDO W B v r):∃ i j A n c A' m d,v = .agg #[.int .i64 i,.int .i64 j,.slice A n c,.slice A' m d]:=by
 obtain ⟨A,c,B,d,rfl⟩:=h.td.form
 exact ⟨_,_,_,_,_,_,_,_,rfl⟩
def VarJ (W:World) (B:Nat) (p v:Value) (stored:Bool):Prop:=∃ g x0 x1 x2 x3,p = .pointer (some ⟨g,0,none⟩) /\ B <= g /\ Row W g 25 #[x0,x1,x2,x3] /\ (stored = true -> v = .agg #[x0,x1,x2,x3])
theorem VarJ.to {W X:World} {B:Nat} {p v:Value} {s:Bool} (h:VarJ W B p v s) (hb:Below W.heap.size W X):VarJ X B p v s:=by
 obtain ⟨g,x0,x1,x2,x3,h1,h2,h3,h4⟩:=h
 exact ⟨g,x0,x1,x2,x3,h1,h2,h3.below hb h3.lt,h4⟩
variable {w:World} {B N V gp gq:Nat} {cp cq:Array Value} {va vb:Value} {fxa fxb fra frb fpa fpb fsa fsb:Bool} {xa xb ra rb pa pb:Value} {W X:World}
def set4 (W:World) (g:Nat) (a b c e:Value):World:=(((W.setCell ⟨g,0,none⟩ a).setCell ⟨g,1,none⟩ b).setCell ⟨g,2,none⟩ c).setCell ⟨g,3,none⟩ e
theorem Row.set4 {g k:Nat} {E:TypeId} {cs:Array Value} {a b c e:Value} (h:Row W k E cs) (hne:k ≠ g):Row (set4 W g a b c e) k E cs:=(((h.far hne _).far hne _).far hne _).far hne _
theorem VarJ.set4 {g:Nat} {p v a b c e:Value} {s:Bool} (h:VarJ W B p v s) (hne:p ≠ .pointer (some ⟨g,0,none⟩)):VarJ (set4 W g a b c e) B p v s:=by
 obtain ⟨k,x0,x1,x2,x3,h1,h2,h3,h4⟩:=h
 exact ⟨k,x0,x1,x2,x3,h1,h2,h3.set4 (fun e => hne (by rw [h1,e])),h4⟩
end Go.Proofs.YthkfjnmnoanhlaaGreatDoor
namespace Go.Proofs.YthkfjnmnoanhlaaGreatDoor
open Go.RowKit
theorem zpg (l:List Int) (v:Value) (w:World) (hv:N1 w v l) (hl:l.length <= 1000000) :
  Calls Tryz.prog 150 #[v] w fun e w' => ∃ A c,e = .returned (.slice A l.length c) /\ Below w.heap.size w w' /\ O1 w' w.heap.size (.slice A l.length c) l:=by
 have HV:Hid (VS w v (iL l)):=hv
 clear hv
 go_enter Tryz.func150,Tryz.ntmps150
 go_wp2_with (at_builtin; go_must (refine zaa eI rfl (.const (.slice none 0 0)) (.tmp 3) rfl w.heap.size (.slice none 0 0) [] rfl (VO.nil _ _ _) v (iL l) rfl HV.out (zc0 l) (by rw [zag]; simpa using hl) zn ?_; intro v1 w1 ho1 hg1 _; obtain ⟨A1,c1,rfl⟩:=VO.formN (n:=l.length) ho1 (by rw [List.nil_append,zag])))
 go_returns
 exact ⟨A1,c1,rfl,zae (E:=3) (Below.refl _ _) (VO.nil _ _ _) hg1 zn,ho1⟩
theorem zmr (l:List Bool) (v:Value) (w:World) (hv:NB w v l) (hl:l.length <= 1000000) :
  Calls Tryz.prog 97 #[v] w fun e w' => ∃ A c,e = .returned (.slice A l.length c) /\ Below w.heap.size w w' /\ OB w' w.heap.size (.slice A l.length c) l:=by
 have HV:Hid (VS w v (bL l)):=hv
 clear hv
 go_enter Tryz.func97,Tryz.ntmps97
 go_wp2_with (at_builtin; go_must (refine zaa eB rfl (.const (.slice none 0 0)) (.tmp 3) rfl w.heap.size (.slice none 0 0) [] rfl (VO.nil _ _ _) v (bL l) rfl HV.out (zl0 l) (by rw [zat]; simpa using hl) zn ?_; intro v1 w1 ho1 hg1 _; obtain ⟨A1,c1,rfl⟩:=VO.formN (n:=l.length) ho1 (by rw [List.nil_append,zat])))
 go_returns
 exact ⟨A1,c1,rfl,zae (E:=4) (Below.refl _ _) (VO.nil _ _ _) hg1 zn,ho1⟩
theorem zpf (L:List (List Int)) (v:Value) (w:World) (hv:N2 w v L) (hl:L.length <= 1000000) (hr:∀ l ∈ L,l.length <= 1000000) :
  Calls Tryz.prog 132 #[v] w fun e w' => ∃ A c,e = .returned (.slice A L.length c) /\ Below w.heap.size w w' /\ O2 w' w.heap.size (.slice A L.length c) L:=by
 obtain ⟨A0,c0,rfl,k1,k2,k3⟩:=hv.open
 have HV:=zh hv; have HK:=zh k3; have HR:=zh hr
 obtain ⟨n,hn⟩:=zx L.length
 rw [<- hn] at HV k1 hl ⊢
 have HN:=zh hn
 clear hv k3 hr hn
 go_enter Tryz.func132,Tryz.ntmps132
 go_wp2
 go_loopg [3,4] n (fun gk q3 q4 W => ∃ i,i <= n /\ gk = n - i /\ q4 = .int .i64 i /\ Below w.heap.size w W /\ O2 W w.heap.size q3 (L.take i))
 case atStart => exact ⟨0,Nat.zero_le _,rfl,rfl,Below.refl _ _,[],VO.nil _ _ _,rfl,fun i u h => by simp at h⟩
 case round =>
  obtain ⟨i,hi,rfl,rfl,hb,vs,hv1,hv2⟩:=hrel
  obtain ⟨wl,hwl⟩:=zx wr
  subst hwl
  have hti:(L.take i).length = i:=by rw [List.length_take,<- HN.out]; omega
  obtain ⟨A9,c9,rfl⟩:=VO.formN (n:=i) hv1 (by rw [hv2.1,hti])
  have HB:=zh hb; have HV1:=zh hv1; have HV2:=zh hv2
  clear hb hv1 hv2
  by_cases hlt:i < n
  ·obtain ⟨x,hx⟩:∃ x,L[i]? = some x:=⟨_,List.getElem?_eq_getElem (by rw [<- HN.out]; exact hlt)⟩
   obtain ⟨b,o,u,rfl,hb0,hc0,hu⟩:=HK.out i x hx
   obtain ⟨A1,c1,rfl,_⟩:=hu.open
   have hcl:=(HB.out.cell (p:=⟨b,o + i,none⟩) hb0).trans hc0
   have hmem:=HR.out x (List.mem_of_getElem? hx)
   have CI:=zh fun W (h:Below w.heap.size w W) => zpg x (.slice A1 x.length c1) W (hu.below h zn) hmem
   have HT:Hid (L.take (i + 1) = L.take i ++ [x]):=by unfold Hid; rw [List.take_add_one,hx]; rfl
   obtain ⟨m,hm⟩:=zx x.length
   rw [<- hm] at CI hcl
   have hlti:(i:Int) < (n:Int):=by omega
   have htl:(L.take i).length = i:=hti
   clear hu hc0 hm hx hti
   go_wp2_with (first
    | (at_builtin; refine zaa eII rfl (.tmp 11) (.tmp 17) rfl w.heap.size _ _ rfl (VO.allocd HV1W.out _) _ [.slice A5 m c5] rfl (VS.one (Row.new _ _ _)) (by intro u hu; simp at hu; subst hu; rfl) (by rw [HV2.out.1,htl]; simp; omega) (by simp only [World.size_alloc]; have:=HBW.out.size; have:=HB.out.size; omega) ?_; intro v4 w4 ho4 hg4 _; obtain ⟨A4,c4,rfl⟩:=VO.formN (n:=i + 1) ho4 (by rw [List.length_append,HV2.out.1,htl]; rfl); have HO4:=zh ho4; have HG4:=zh hg4; clear ho4 hg4)
    | (go_at_call 150; refine (CI.out _ HB.out).mono ?_; rintro ee wx ⟨A5,c5,rfl,hb,ho⟩; have HBW:=zh (show Below wl.heap.size wl wx from hb); have HO:=zh ho; have HV1W:=zh (HV1.out.below hb zn); have HV2W:=zh (V1.below HV2.out hb zn); clear hb ho))
   have hV24:=V1.far (V1.below HV2W.out (Below.alloc (Below.refl wx.heap.size wx) zn _) zn) (by decide) (VO.allocd HV1W.out _) HG4.out
   have hO14:=O1.far (O1.below HO.out (Below.alloc (Below.refl wx.heap.size wx) zn _) zn) (by decide) (VO.allocd HV1W.out _) HG4.out
   have hB4:Below w.heap.size w w4:=zae (w:=w) ((HB.out.trans (HBW.out.mono HB.out.size)).alloc (by have:=HBW.out.size; have:=HB.out.size; omega) _) (VO.allocd HV1W.out _) HG4.out (by simp only [World.size_alloc]; have:=HBW.out.size; have:=HB.out.size; omega)
   have hV5:=hV24.snoc (hO14.mono HB.out.size)
   have H4:=zh hV5; have HB4:=zh hB4
   clear hV24 hO14 hB4 hV5
   go_roundg (n - (i + 1))
   case rel => exact ⟨i + 1,by omega,rfl,by go_num,HB4.out,⟨_,HO4.out,by rw [HT.out]; exact H4.out⟩⟩
   case measure => omega
  ·obtain rfl:i = n:=by omega
   have hfl:L.take i = L:=List.take_of_length_le (by rw [<- HN.out]; exact zn)
   have hO:Hid (O2 wl w.heap.size (.slice A9 i c9) L):=⟨vs,HV1.out,by have:=HV2.out; rw [hfl] at this; exact this⟩
   clear hfl
   go_wp2
   go_returns
   exact ⟨A9,c9,rfl,HB.out,hO.out⟩
theorem zkd (L:List (List (List Int))) (v:Value) (w:World) (hv:N3 w v L) (hl:L.length <= 1000000) (hr:∀ l ∈ L,l.length <= 1000000 /\ ∀ k ∈ l,k.length <= 1000000) :
  Calls Tryz.prog 96 #[v] w fun e w' => ∃ A c,e = .returned (.slice A L.length c) /\ Below w.heap.size w w' /\ O3 w' w.heap.size (.slice A L.length c) L:=by
 obtain ⟨A0,c0,rfl,k1,k2,k3⟩:=hv.open
 have HV:=zh hv; have HK:=zh k3; have HR:=zh hr
 obtain ⟨n,hn⟩:=zx L.length
 rw [<- hn] at HV k1 hl ⊢
 have HN:=zh hn
 clear hv k3 hr hn
 go_enter Tryz.func96,Tryz.ntmps96
 go_wp2
 go_loopg [3,4] n (fun gk q3 q4 W => ∃ i,i <= n /\ gk = n - i /\ q4 = .int .i64 i /\ Below w.heap.size w W /\ O3 W w.heap.size q3 (L.take i))
 case atStart => exact ⟨0,Nat.zero_le _,rfl,rfl,Below.refl _ _,[],VO.nil _ _ _,rfl,fun i u h => by simp at h⟩
 case round =>
  obtain ⟨i,hi,rfl,rfl,hb,vs,hv1,hv2⟩:=hrel
  obtain ⟨wl,hwl⟩:=zx wr
  subst hwl
  have hti:(L.take i).length = i:=by rw [List.length_take,<- HN.out]; omega
  obtain ⟨A9,c9,rfl⟩:=VO.formN (n:=i) hv1 (by rw [hv2.1,hti])
  have HB:=zh hb; have HV1:=zh hv1; have HV2:=zh hv2
  clear hb hv1 hv2
  by_cases hlt:i < n
  ·obtain ⟨x,hx⟩:∃ x,L[i]? = some x:=⟨_,List.getElem?_eq_getElem (by rw [<- HN.out]; exact hlt)⟩
   obtain ⟨b,o,u,rfl,hb0,hc0,hu⟩:=HK.out i x hx
   obtain ⟨A1,c1,rfl,_⟩:=hu.open
   have hcl:=(HB.out.cell (p:=⟨b,o + i,none⟩) hb0).trans hc0
   have hmem:=HR.out x (List.mem_of_getElem? hx)
   have CI:=zh fun W (h:Below w.heap.size w W) => zpf x (.slice A1 x.length c1) W (hu.below h zn) hmem.1 hmem.2
   have HT:Hid (L.take (i + 1) = L.take i ++ [x]):=by unfold Hid; rw [List.take_add_one,hx]; rfl
   obtain ⟨m,hm⟩:=zx x.length
   rw [<- hm] at CI hcl
   have hlti:(i:Int) < (n:Int):=by omega
   have htl:(L.take i).length = i:=hti
   clear hu hc0 hm hx hti
   go_wp2_with (first
    | (at_builtin; refine zaa eIII rfl (.tmp 11) (.tmp 17) rfl w.heap.size _ _ rfl (VO.allocd HV1W.out _) _ [.slice A5 m c5] rfl (VS.one (Row.new _ _ _)) (by intro u hu; simp at hu; subst hu; rfl) (by rw [HV2.out.1,htl]; simp; omega) (by simp only [World.size_alloc]; have:=HBW.out.size; have:=HB.out.size; omega) ?_; intro v4 w4 ho4 hg4 _; obtain ⟨A4,c4,rfl⟩:=VO.formN (n:=i + 1) ho4 (by rw [List.length_append,HV2.out.1,htl]; rfl); have HO4:=zh ho4; have HG4:=zh hg4; clear ho4 hg4)
    | (go_at_call 132; refine (CI.out _ HB.out).mono ?_; rintro ee wx ⟨A5,c5,rfl,hb,ho⟩; have HBW:=zh (show Below wl.heap.size wl wx from hb); have HO:=zh ho; have HV1W:=zh (HV1.out.below hb zn); have HV2W:=zh (V2.below HV2.out hb zn); clear hb ho))
   have hV24:=V2.far (V2.below HV2W.out (Below.alloc (Below.refl wx.heap.size wx) zn _) zn) (by decide) (by decide) (VO.allocd HV1W.out _) HG4.out
   have hO14:=O2.far (O2.below HO.out (Below.alloc (Below.refl wx.heap.size wx) zn _) zn) (by decide) (by decide) (VO.allocd HV1W.out _) HG4.out
   have hB4:Below w.heap.size w w4:=zae (w:=w) ((HB.out.trans (HBW.out.mono HB.out.size)).alloc (by have:=HBW.out.size; have:=HB.out.size; omega) _) (VO.allocd HV1W.out _) HG4.out (by simp only [World.size_alloc]; have:=HBW.out.size; have:=HB.out.size; omega)
   have hV5:=hV24.snoc (hO14.mono HB.out.size)
   have H4:=zh hV5; have HB4:=zh hB4
   clear hV24 hO14 hB4 hV5
   go_roundg (n - (i + 1))
   case rel => exact ⟨i + 1,by omega,rfl,by go_num,HB4.out,⟨_,HO4.out,by rw [HT.out]; exact H4.out⟩⟩
   case measure => omega
  ·obtain rfl:i = n:=by omega
   have hfl:L.take i = L:=List.take_of_length_le (by rw [<- HN.out]; exact zn)
   have hO:Hid (O3 wl w.heap.size (.slice A9 i c9) L):=⟨vs,HV1.out,by have:=HV2.out; rw [hfl] at this; exact this⟩
   clear hfl
   go_wp2
   go_returns
   exact ⟨A9,c9,rfl,HB.out,hO.out⟩
structure CpJ (w:World) (r:Raw) (gp gq:Nat) (i0 i1:Int) (vn vf:Value) (f:Nat -> Bool) (u0 u1 u2 u3 u4 u5 u6 u7 u8 u9 u10:Value) (W:World):Prop where
 h0:f 0 = true -> u0 = .pointer (some ⟨gp,0,none⟩)
 h1:f 1 = true -> u1 = .int .i64 i0
 h2:f 2 = true -> u2 = .pointer (some ⟨gp,1,none⟩)
 h3:f 3 = true -> u3 = .int .i64 i1
 h4:f 4 = true -> u4 = .pointer (some ⟨gp,2,none⟩)
 h5:f 5 = true -> u5 = vn
 h6:f 6 = true -> O3 W w.heap.size u6 r.next
 h7:f 7 = true -> u7 = .pointer (some ⟨gp,3,none⟩)
 h8:f 8 = true -> u8 = vf
 h9:f 9 = true -> OB W w.heap.size u9 r.fin
 h10:f 10 = true -> u10 = .agg #[.int .i64 i0,.int .i64 i1,u6,u9]
 o6:f 10 = true -> f 6 = true /\ f 9 = true
 o11:f 11 = true -> f 10 = true
 below:Below w.heap.size w W
 rp:Row W gp 25 #[.int .i64 i0,.int .i64 i1,vn,vf]
 rq:Row W gq 25 (if f 11 = true then #[.int .i64 i0,.int .i64 i1,u6,u9] else #[.int .i64 0,.int .i64 0,.slice none 0 0,.slice none 0 0])
theorem CpJ.call6 {w:World} {r:Raw} {gp gq:Nat} {i0 i1:Int} {vn vf:Value} {f:Nat -> Bool} {u0 u1 u2 u3 u4 u5 u6 u7 u8 u9 u10:Value} {W X:World} {u:Value} (h:CpJ w r gp gq i0 i1 vn vf f u0 u1 u2 u3 u4 u5 u6 u7 u8 u9 u10 W) (hf:f 6 = false) (hb:Below W.heap.size W X) (ho:O3 X W.heap.size u r.next) :
  CpJ w r gp gq i0 i1 vn vf (fun j => j == 6 || f j) u0 u1 u2 u3 u4 u5 u u7 u8 u9 u10 X:=by
 have h10:f 10 = false:=by cases e:f 10 with | false => rfl | true => have:=(h.o6 e).1; rw [hf] at this; cases this
 have h11:f 11 = false:=by cases e:f 11 with | false => rfl | true => have:=h.o11 e; rw [h10] at this; cases this
 have rq:=h.rq
 rw [h11] at rq
 exact { h with
  h6:=fun _ => ho.mono h.below.size
  h9:=fun e => OB.below (h.h9 e) hb zn
  h10:=fun e => by
   have e:f 10 = true:=e
   rw [h10] at e; cases e
  o6:=fun e => by
   have e:f 10 = true:=e
   rw [h10] at e; cases e
  below:=h.below.trans (hb.mono h.below.size)
  rp:=h.rp.below hb h.rp.lt
  rq:=by
   show Row X gq _ (if f 11 = true then _ else _)
   rw [h11]; exact rq.below hb rq.lt }
theorem CpJ.call9 {w:World} {r:Raw} {gp gq:Nat} {i0 i1:Int} {vn vf:Value} {f:Nat -> Bool} {u0 u1 u2 u3 u4 u5 u6 u7 u8 u9 u10:Value} {W X:World} {u:Value} (h:CpJ w r gp gq i0 i1 vn vf f u0 u1 u2 u3 u4 u5 u6 u7 u8 u9 u10 W) (hf:f 9 = false) (hb:Below W.heap.size W X) (ho:OB X W.heap.size u r.fin) :
  CpJ w r gp gq i0 i1 vn vf (fun j => j == 9 || f j) u0 u1 u2 u3 u4 u5 u6 u7 u8 u u10 X:=by
 have h10:f 10 = false:=by cases e:f 10 with | false => rfl | true => have:=(h.o6 e).2; rw [hf] at this; cases this
 have h11:f 11 = false:=by cases e:f 11 with | false => rfl | true => have:=h.o11 e; rw [h10] at this; cases this
 have rq:=h.rq
 rw [h11] at rq
 exact { h with
  h6:=fun e => (h.h6 e).below hb zn
  h9:=fun _ => VO.mono ho h.below.size
  h10:=fun e => by
   have e:f 10 = true:=e
   rw [h10] at e; cases e
  o6:=fun e => by
   have e:f 10 = true:=e
   rw [h10] at e; cases e
  below:=h.below.trans (hb.mono h.below.size)
  rp:=h.rp.below hb h.rp.lt
  rq:=by
   show Row X gq _ (if f 11 = true then _ else _)
   rw [h11]; exact rq.below hb rq.lt }
theorem CpJ.store {w:World} {r:Raw} {gp gq:Nat} {i0 i1:Int} {vn vf:Value} {f:Nat -> Bool} {u0 u1 u2 u3 u4 u5 u6 u7 u8 u9 u10:Value} {W:World} (h:CpJ w r gp gq i0 i1 vn vf f u0 u1 u2 u3 u4 u5 u6 u7 u8 u9 u10 W) (hf:f 11 = false) (hd:f 10 = true) (hne:gp ≠ gq) (hgq:w.heap.size <= gq) (a b c e:Value) (hu:u10 = .agg #[a,b,c,e]) :
  CpJ w r gp gq i0 i1 vn vf (fun j => j == 11 || f j) u0 u1 u2 u3 u4 u5 u6 u7 u8 u9 u10 (set4 W gq a b c e):=by
 have rq:=h.rq
 rw [hf] at rq
 obtain ⟨d6,d9⟩:=h.o6 hd
 have h10:=h.h10 hd
 rw [hu] at h10
 simp only [Value.agg.injEq,Array.mk.injEq,List.cons.injEq,and_true] at h10
 obtain ⟨rfl,rfl,rfl,rfl⟩:=h10
 have hto:TDO W w.heap.size (.agg #[.int .i64 r.vars,.int .i64 r.empty,c,e]) r:=⟨c,e,rfl,h.h6 d6,h.h9 d9⟩
 have hs:=zam (w:=w) (B0:=w.heap.size) (a:=.int .i64 i0) (b:=.int .i64 i1) (c:=c) (e:=e) rq hto h.below hgq
 obtain ⟨vn2,vf2,e2,k1,k2⟩:=hs.2.1
 simp only [Value.agg.injEq,Array.mk.injEq,List.cons.injEq,and_true,true_and] at e2
 obtain ⟨rfl,rfl⟩:=e2
 exact { h with
  h6:=fun _ => k1
  h9:=fun _ => k2
  o11:=fun _ => hd
  below:=hs.2.2
  rp:=h.rp.set4 hne
  rq:=by
   show Row _ gq _ (if (11 == 11 || f 11) = true then _ else _)
   exact hs.1 }
def Raw.Fine (r:Raw):Prop:=r.next.length <= 1000000 /\ r.fin.length <= 1000000 /\ ∀ l ∈ r.next,l.length <= 1000000 /\ ∀ k ∈ l,k.length <= 1000000
theorem copy_td (r:Raw) (v:Value) (w:World) (hv:TD w v r) (hf:r.Fine) :
  Calls Tryz.prog 49 #[v] w fun e w' => ∃ v',e = .returned v' /\ Below w.heap.size w w' /\ TDO w' w.heap.size v' r:=by
 obtain ⟨h1,h2,h3⟩:=hf
 obtain ⟨vn,vf,rfl,hn,hff⟩:=hv
 have CN:=zh fun W (h:Below w.heap.size w W) => zkd r.next vn W (hn.below h zn) h1 h3
 have CF:=zh fun W (h:Below w.heap.size w W) => zmr r.fin vf W (hff.below h zn) h2
 obtain ⟨A1,c1,rfl,_⟩:=hn.open
 obtain ⟨A2,c2,rfl,_⟩:=hff.open
 obtain ⟨n1,hn1⟩:=zx r.next.length
 obtain ⟨n2,hn2⟩:=zx r.fin.length
 rw [<- hn1] at CN ⊢
 rw [<- hn2] at CF ⊢
 clear hn hff h1 h2 h3 hn1 hn2
 go_enter Tryz.func49,Tryz.ntmps49
 go_upto_region 1 with fail
 refine zab (fun X => Below w.heap.size w X /\ ∃ gp gq,gp = w.heap.size /\ gq = w.heap.size + 1 /\ Row X gp 25 #[.int .i64 r.vars,.int .i64 r.empty,.slice A1 n1 c1,.slice A2 n2 c2] /\ Row X gq 25 #[.int .i64 0,.int .i64 0,.slice none 0 0,.slice none 0 0]) ⟨by go_grown,_,_,rfl,rfl,by (repeat (first | (refine Row.lit ?_; simp only [World.size_alloc] <;> omega) | apply Row.alloc)),by (repeat (first | (refine Row.lit ?_; simp only [World.size_alloc] <;> omega) | apply Row.alloc))⟩ ?_
 rintro W0 ⟨hw,gp,gq,hgp,hgq,r1,r2⟩
 rw [<- hgq,<- hgp]
 have hgb:w.heap.size <= gq:=by omega
 have hne:gp ≠ gq:=by omega
 have HB:=zh hw; have RP:=zh r1; have RQ:=zh r2
 clear hw r1 r2 hgp hgq
 obtain ⟨i0,hi0⟩:=zx r.vars
 obtain ⟨i1,hi1⟩:=zx r.empty
 rw [<- hi0,<- hi1] at RP
 rw [<- hi0,<- hi1]
 have HI:Hid (r = ⟨i0,i1,r.next,r.fin⟩):=by unfold Hid; rw [hi0,hi1]
 clear hi0 hi1
 have y0:=RP.out.cell 0; have y1:=RP.out.cell 1; have y2:=RP.out.cell 2; have y3:=RP.out.cell 3
 have z0:=RQ.out.cell 0; have z1:=RQ.out.cell 1; have z2:=RQ.out.cell 2; have z3:=RQ.out.cell 3
 simp only [List.getElem?_toArray,List.getElem?_cons_zero,List.getElem?_cons_succ] at y0 y1 y2 y3 z0 z1 z2 z3
 refine zbk (by kernel_rfl) (by kernel_rfl) [3,4,5,6,7,8,9,10,11,12,13] [undef,undef,undef,undef,undef,undef,undef,undef,undef,undef,undef] ?_ ?_ (fun f vs W => ∃ u0 u1 u2 u3 u4 u5 u6 u7 u8 u9 u10,vs = [u0,u1,u2,u3,u4,u5,u6,u7,u8,u9,u10] /\ CpJ w r gp gq i0 i1 (.slice A1 n1 c1) (.slice A2 n2 c2) f u0 u1 u2 u3 u4 u5 u6 u7 u8 u9 u10 W) ?_ ?_ ?_
 ·rfl
 ·simp only [putS,zp]
 ·exact ⟨_,_,_,_,_,_,_,_,_,_,_,rfl,⟨by simp,by simp,by simp,by simp,by simp,by simp,by simp,by simp,by simp,by simp,by simp,by simp,by simp,HB.out.drew,RP.out.drew,RQ.out.drew⟩⟩
 ·refine zah.cons ?_ (zah.cons ?_ (zah.cons ?_ (zah.cons ?_ (zah.cons ?_ (zah.cons ?_ (zah.cons ?_ (zah.cons ?_ (zah.cons ?_ (zah.cons ?_ (zah.cons ?_ (zah.cons ?_ (zah.nil))))))))))))
  ·rintro f vs W hl hf hd ⟨u0,u1,u2,u3,u4,u5,u6,u7,u8,u9,u10,rfl,hJ⟩ K hK
   have HJ:=zh hJ
   clear hJ
   simp only [putS,zp]
   go_simp
   have hz:=hK.out [_,u1,u2,u3,u4,u5,u6,u7,u8,u9,u10] W rfl ⟨_,_,_,_,_,_,_,_,_,_,_,rfl,{ HJ.out with h0:=fun _ => rfl }⟩
   simp only [putS,zp] at hz
   exact hz
  ·rintro f vs W hl hf hd ⟨u0,u1,u2,u3,u4,u5,u6,u7,u8,u9,u10,rfl,hJ⟩ K hK
   have e0:=hJ.h0 (zao hd 0 (by kernel_rfl))
   subst e0
   have q:=hJ.rp.cell 0
   simp only [List.getElem?_toArray,List.getElem?_cons_zero,List.getElem?_cons_succ] at q
   have HJ:=zh hJ
   clear hJ
   simp only [putS,zp]
   go_simp
   have hz:=hK.out [_,_,u2,u3,u4,u5,u6,u7,u8,u9,u10] W rfl ⟨_,_,_,_,_,_,_,_,_,_,_,rfl,{ HJ.out with h1:=fun _ => rfl }⟩
   simp only [putS,zp] at hz
   exact hz
  ·rintro f vs W hl hf hd ⟨u0,u1,u2,u3,u4,u5,u6,u7,u8,u9,u10,rfl,hJ⟩ K hK
   have HJ:=zh hJ
   clear hJ
   simp only [putS,zp]
   go_simp
   have hz:=hK.out [u0,u1,_,u3,u4,u5,u6,u7,u8,u9,u10] W rfl ⟨_,_,_,_,_,_,_,_,_,_,_,rfl,{ HJ.out with h2:=fun _ => rfl }⟩
   simp only [putS,zp] at hz
   exact hz
  ·rintro f vs W hl hf hd ⟨u0,u1,u2,u3,u4,u5,u6,u7,u8,u9,u10,rfl,hJ⟩ K hK
   have e2:=hJ.h2 (zao hd 2 (by kernel_rfl))
   subst e2
   have q:=hJ.rp.cell 1
   simp only [List.getElem?_toArray,List.getElem?_cons_zero,List.getElem?_cons_succ] at q
   have HJ:=zh hJ
   clear hJ
   simp only [putS,zp]
   go_simp
   have hz:=hK.out [u0,u1,_,_,u4,u5,u6,u7,u8,u9,u10] W rfl ⟨_,_,_,_,_,_,_,_,_,_,_,rfl,{ HJ.out with h3:=fun _ => rfl }⟩
   simp only [putS,zp] at hz
   exact hz
  ·rintro f vs W hl hf hd ⟨u0,u1,u2,u3,u4,u5,u6,u7,u8,u9,u10,rfl,hJ⟩ K hK
   have HJ:=zh hJ
   clear hJ
   simp only [putS,zp]
   go_simp
   have hz:=hK.out [u0,u1,u2,u3,_,u5,u6,u7,u8,u9,u10] W rfl ⟨_,_,_,_,_,_,_,_,_,_,_,rfl,{ HJ.out with h4:=fun _ => rfl }⟩
   simp only [putS,zp] at hz
   exact hz
  ·rintro f vs W hl hf hd ⟨u0,u1,u2,u3,u4,u5,u6,u7,u8,u9,u10,rfl,hJ⟩ K hK
   have e4:=hJ.h4 (zao hd 4 (by kernel_rfl))
   subst e4
   have q:=hJ.rp.cell 2
   simp only [List.getElem?_toArray,List.getElem?_cons_zero,List.getElem?_cons_succ] at q
   have HJ:=zh hJ
   clear hJ
   simp only [putS,zp]
   go_simp
   have hz:=hK.out [u0,u1,u2,u3,_,_,u6,u7,u8,u9,u10] W rfl ⟨_,_,_,_,_,_,_,_,_,_,_,rfl,{ HJ.out with h5:=fun _ => rfl }⟩
   simp only [putS,zp] at hz
   exact hz
  ·rintro f vs W hl hf hd ⟨u0,u1,u2,u3,u4,u5,u6,u7,u8,u9,u10,rfl,hJ⟩ K hK
   have e5:=hJ.h5 (zao hd 5 (by kernel_rfl))
   subst e5
   have HJ:=zh hJ
   clear hJ
   simp only [putS,zp]
   go_simp
   go_at_call 96
   refine (CN.out W HJ.out.below).mono ?_
   rintro e wx ⟨A,c,rfl,hb,ho⟩
   have hz:=hK.out [u0,u1,u2,u3,u4,_,_,u7,u8,u9,u10] wx rfl ⟨_,_,_,_,_,_,_,_,_,_,_,rfl,HJ.out.call6 hf hb ho⟩
   simp only [putS,zp] at hz
   exact hz
  ·rintro f vs W hl hf hd ⟨u0,u1,u2,u3,u4,u5,u6,u7,u8,u9,u10,rfl,hJ⟩ K hK
   have HJ:=zh hJ
   clear hJ
   simp only [putS,zp]
   go_simp
   have hz:=hK.out [u0,u1,u2,u3,u4,u5,u6,_,u8,u9,u10] W rfl ⟨_,_,_,_,_,_,_,_,_,_,_,rfl,{ HJ.out with h7:=fun _ => rfl }⟩
   simp only [putS,zp] at hz
   exact hz
  ·rintro f vs W hl hf hd ⟨u0,u1,u2,u3,u4,u5,u6,u7,u8,u9,u10,rfl,hJ⟩ K hK
   have e7:=hJ.h7 (zao hd 7 (by kernel_rfl))
   subst e7
   have q:=hJ.rp.cell 3
   simp only [List.getElem?_toArray,List.getElem?_cons_zero,List.getElem?_cons_succ] at q
   have HJ:=zh hJ
   clear hJ
   simp only [putS,zp]
   go_simp
   have hz:=hK.out [u0,u1,u2,u3,u4,u5,u6,_,_,u9,u10] W rfl ⟨_,_,_,_,_,_,_,_,_,_,_,rfl,{ HJ.out with h8:=fun _ => rfl }⟩
   simp only [putS,zp] at hz
   exact hz
  ·rintro f vs W hl hf hd ⟨u0,u1,u2,u3,u4,u5,u6,u7,u8,u9,u10,rfl,hJ⟩ K hK
   have e8:=hJ.h8 (zao hd 8 (by kernel_rfl))
   subst e8
   have HJ:=zh hJ
   clear hJ
   simp only [putS,zp]
   go_simp
   go_at_call 97
   refine (CF.out W HJ.out.below).mono ?_
   rintro e wx ⟨A,c,rfl,hb,ho⟩
   have hz:=hK.out [u0,u1,u2,u3,u4,u5,u6,u7,_,_,u10] wx rfl ⟨_,_,_,_,_,_,_,_,_,_,_,rfl,HJ.out.call9 hf hb ho⟩
   simp only [putS,zp] at hz
   exact hz
  ·rintro f vs W hl hf hd ⟨u0,u1,u2,u3,u4,u5,u6,u7,u8,u9,u10,rfl,hJ⟩ K hK
   have d6:=zao hd 6 (by kernel_rfl); have d9:=zao hd 9 (by kernel_rfl)
   have e1:=hJ.h1 (zao hd 1 (by kernel_rfl))
   subst e1
   have e3:=hJ.h3 (zao hd 3 (by kernel_rfl))
   subst e3
   revert hK
   generalize hgen:(Shut _ -> _) = G
   obtain ⟨vs6,k6,k6l⟩:=hJ.h6 d6
   obtain ⟨A6,c6,rfl⟩:=k6.form
   obtain ⟨A9,c9,rfl⟩:=VO.form (hJ.h9 d9)
   subst hgen
   intro hK
   have HD:=zh (And.intro d6 d9)
   clear d6 d9 k6 k6l
   have HJ:=zh hJ
   clear hJ
   simp only [putS,zp]
   go_simp
   have hz:=hK.out [u0,_,u2,_,u4,u5,_,u7,u8,_,_] W rfl ⟨_,_,_,_,_,_,_,_,_,_,_,rfl,{ HJ.out with h10:=fun _ => rfl,o6:=fun _ => HD.out,o11:=fun _ => rfl }⟩
   simp only [putS,zp] at hz
   exact hz
  ·rintro f vs W hl hf hd ⟨u0,u1,u2,u3,u4,u5,u6,u7,u8,u9,u10,rfl,hJ⟩ K hK
   have d10:=zao hd 10 (by kernel_rfl)
   revert hK
   generalize hgen:(Shut _ -> _) = G
   obtain ⟨vs6,k6,k6l⟩:=hJ.h6 (hJ.o6 d10).1
   obtain ⟨A6,c6,rfl⟩:=k6.form
   obtain ⟨A9,c9,rfl⟩:=VO.form (hJ.h9 (hJ.o6 d10).2)
   have e10:=hJ.h10 d10
   subst e10
   subst hgen
   intro hK
   have hf':f 11 = false:=hf
   have rq:=hJ.rq
   rw [hf'] at rq
   have y0:=rq.cell; have y1:=rq.free; have y2:=rq.lt
   have q0:=y0 0; have q1:=y0 1; have q2:=y0 2; have q3:=y0 3
   simp only [Bool.false_eq_true,if_false,List.getElem?_toArray,List.getElem?_cons_zero,List.getElem?_cons_succ] at q0 q1 q2 q3
   have HD:=zh d10
   clear y0 k6 k6l rq d10
   have HJ:=zh hJ
   clear hJ
   simp only [putS,zp]
   go_simp
   have hz:=hK.out [u0,u1,u2,u3,u4,u5,_,u7,u8,_,_] (set4 W gq (.int .i64 i0) (.int .i64 i1) (.slice A6 vs6.length c6) (.slice A9 (bL r.fin).length c9)) rfl ⟨_,_,_,_,_,_,_,_,_,_,_,rfl,HJ.out.store hf HD.out hne hgb _ _ _ _ rfl⟩
   simp only [putS,zp] at hz
   unfold set4 at hz
   exact hz
 ·rintro f vs W hl hall ⟨u0,u1,u2,u3,u4,u5,u6,u7,u8,u9,u10,rfl,hJ⟩
  have rq:=hJ.rq
  rw [if_pos (hall 11 (by decide))] at rq
  have hT:Hid (TDO W w.heap.size (.agg #[.int .i64 i0,.int .i64 i1,u6,u9]) r):=by
   unfold Hid
   rw [HI.out]
   exact ⟨u6,u9,rfl,hJ.h6 (hall 6 (by decide)),hJ.h9 (hall 9 (by decide))⟩
  have HBB:=zh hJ.below
  have b0:=rq.cell
  have q0:=b0 0; have q1:=b0 1; have q2:=b0 2; have q3:=b0 3
  simp only [zg] at q0 q1 q2 q3
  clear hJ b0 rq
  simp only [putS,zp]
  go_wp2
  refine bodyPost_ret (v:=.agg #[.int .i64 i0,.int .i64 i1,u6,u9]) (by simp [results,Tryz.results49,go_sem,q0,q1,q2,q3]) rfl ?_
  exact ⟨_,rfl,HBB.out,hT.out⟩
end Go.Proofs.YthkfjnmnoanhlaaGreatDoor
namespace Go.Proofs.YthkfjnmnoanhlaaGreatDoor
open Go.RowKit
def fewL (ll:List (List Int)):List (List Int):=(ll.take 10).map fun l => l.take 9
def fewR (r:Raw):Raw:=⟨r.vars,r.empty,(r.next.take 66).map fewL,r.fin.take 66⟩
theorem zi6 (r:Raw):(fewR r).Fine:=by
 refine ⟨by simp [fewR]; omega,by simp [fewR]; omega,?_⟩
 intro l hl
 obtain ⟨k,_,rfl⟩:=List.mem_map.1 hl
 refine ⟨by simp [fewL]; omega,?_⟩
 intro q hq
 obtain ⟨p,_,rfl⟩:=List.mem_map.1 hq
 simp; omega
theorem zhb (r:Raw):Small (fewR r):=⟨by simp [fewR]; omega,by simp [fewR]; omega⟩
theorem VS.take {w:World} {A:Option Addr} {n c:Nat} {l:List Value} (h:VS w (.slice A n c) l) (k:Nat):VS w (.slice A (min n k) c) (l.take k):=by
 obtain ⟨A',c',e,h1,h2,h3⟩:=h
 simp only [Value.slice.injEq] at e
 obtain ⟨rfl,rfl,rfl⟩:=e
 refine ⟨A,c,by rw [List.length_take,Nat.min_comm],by rw [List.length_take]; omega,h2,fun hp => ?_⟩
 rw [List.length_take] at hp
 obtain ⟨b,o,e,hb,hc⟩:=h3 (by omega)
 refine ⟨b,o,e,hb,fun i x hx => hc i x ?_⟩
 rw [List.getElem?_take] at hx
 split at hx
 ·exact hx
 ·cases hx
theorem N1.take {w:World} {A:Option Addr} {n c:Nat} {l:List Int} (h:N1 w (.slice A n c) l) (k:Nat):N1 w (.slice A (min n k) c) (l.take k):=by
 have:=VS.take h k
 rw [show (iL l).take k = iL (l.take k) from (List.map_take ..).symm] at this
 exact this
theorem NB.take {w:World} {A:Option Addr} {n c:Nat} {l:List Bool} (h:NB w (.slice A n c) l) (k:Nat):NB w (.slice A (min n k) c) (l.take k):=by
 have:=VS.take h k
 rw [show (bL l).take k = bL (l.take k) from (List.map_take ..).symm] at this
 exact this
def RowF (w W:World) (B:Nat) (u:Value) (ll:List (List Int)):Prop:=∃ vs,VO 53 W B u vs /\ vs.length = ll.length /\ ∀ (i:Nat) v,vs[i]? = some v -> ∃ l,ll[i]? = some l /\ N1 w v l
theorem RowF.below {w W X:World} {B B':Nat} {u:Value} {ll:List (List Int)} (h:RowF w W B u ll) (hb:Below B' W X) (hB:W.heap.size <= B'):RowF w X B u ll:=by
 obtain ⟨vs,h1,h2,h3⟩:=h
 exact ⟨vs,h1.below hb hB,h2,h3⟩
theorem RowF.n2 {w W:World} {B:Nat} {u:Value} {ll:List (List Int)} (h:RowF w W B u ll) (hb:Below w.heap.size w W):N2 W u ll:=by
 obtain ⟨vs,h1,h2,h3⟩:=h
 exact ⟨vs,h1.vs,h2,fun i v hv => by obtain ⟨l,e,hn⟩:=h3 i v hv; exact ⟨l,e,hn.below hb zn⟩⟩
def RowsF (w W:World) (B:Nat) (u:Value) (lll:List (List (List Int))):Prop:=∃ vs,VO 54 W B u vs /\ vs.length = lll.length /\ ∀ (i:Nat) v,vs[i]? = some v -> ∃ ll,lll[i]? = some ll /\ RowF w W B v ll
theorem RowsF.n3 {w W:World} {B:Nat} {u:Value} {lll:List (List (List Int))} (h:RowsF w W B u lll) (hb:Below w.heap.size w W):N3 W u lll:=by
 obtain ⟨vs,h1,h2,h3⟩:=h
 exact ⟨vs,h1.vs,h2,fun i v hv => by obtain ⟨l,e,hn⟩:=h3 i v hv; exact ⟨l,e,hn.n2 hb⟩⟩
theorem RowsF.below {w W X:World} {B B':Nat} {u:Value} {lll:List (List (List Int))} (h:RowsF w W B u lll) (hb:Below B' W X) (hB:W.heap.size <= B'):RowsF w X B u lll:=by
 obtain ⟨vs,h1,h2,h3⟩:=h
 exact ⟨vs,h1.below hb hB,h2,fun i v hv => by obtain ⟨l,e,hn⟩:=h3 i v hv; exact ⟨l,e,hn.below hb hB⟩⟩
theorem RowsF.nil (w W:World) (B:Nat):RowsF w W B (.slice none 0 0) []:=⟨[],VO.nil _ _ _,rfl,fun i v h => by simp at h⟩
end Go.Proofs.YthkfjnmnoanhlaaGreatDoor
namespace Go.Proofs.YthkfjnmnoanhlaaGreatDoor
open Go.RowKit
structure TwoF (w:World) (B:Nat) (FA FB:Raw) (gp gq:Nat) (cp cq:Array Value) (va vb:Value) (fxa fxb fra frb fpa fpb fsa fsb:Bool) (xa xb ra rb pa pb:Value) (W:World):Prop where
 le:w.heap.size <= B
 bW:B <= W.heap.size
 hgp:gp < B
 hgq:gq < B
 below:Below w.heap.size w W
 hrp:Row W gp 25 cp
 hrq:Row W gq 25 cq
 hxa:fxa = true -> xa = va
 hxb:fxb = true -> xb = vb
 hra:fra = true -> TDO W w.heap.size ra FA
 hrb:frb = true -> TDO W w.heap.size rb FB
 hpa:fpa = true -> VarJ W B pa ra fsa
 hpb:fpb = true -> VarJ W B pb rb fsb
 hne:fpa = true -> fpb = true -> pa ≠ pb
 hsa:fsa = true -> fra = true /\ fpa = true
 hsb:fsb = true -> frb = true /\ fpb = true
variable {w:World} {B:Nat} {FA FB:Raw} {gp gq:Nat} {cp cq:Array Value} {va vb:Value} {fxa fxb fra frb fpa fpb fsa fsb:Bool} {xa xb ra rb pa pb:Value} {W X:World}
theorem TwoF.to (h:TwoF w B FA FB gp gq cp cq va vb fxa fxb fra frb fpa fpb fsa fsb xa xb ra rb pa pb W) (hb:Below W.heap.size W X):TwoF w B FA FB gp gq cp cq va vb fxa fxb fra frb fpa fpb fsa fsb xa xb ra rb pa pb X :=
 ⟨h.le,Nat.le_trans h.bW hb.size,h.hgp,h.hgq,h.below.trans (hb.mono h.below.size),h.hrp.below hb h.hrp.lt,h.hrq.below hb h.hrq.lt,h.hxa,h.hxb,fun e => (h.hra e).below hb zn,fun e => (h.hrb e).below hb zn,fun e => (h.hpa e).to hb,fun e => (h.hpb e).to hb,h.hne,h.hsa,h.hsb⟩
theorem TwoF.loadA (h:TwoF w B FA FB gp gq cp cq va vb fxa fxb fra frb fpa fpb fsa fsb xa xb ra rb pa pb W):TwoF w B FA FB gp gq cp cq va vb true fxb fra frb fpa fpb fsa fsb va xb ra rb pa pb W:={ h with hxa:=fun _ => rfl }
theorem TwoF.loadB (h:TwoF w B FA FB gp gq cp cq va vb fxa fxb fra frb fpa fpb fsa fsb xa xb ra rb pa pb W):TwoF w B FA FB gp gq cp cq va vb fxa true fra frb fpa fpb fsa fsb xa vb ra rb pa pb W:={ h with hxb:=fun _ => rfl }
theorem TwoF.callA {v:Value} (h:TwoF w B FA FB gp gq cp cq va vb fxa fxb fra frb fpa fpb fsa fsb xa xb ra rb pa pb W) (hb:Below W.heap.size W X) (hv:TDO X W.heap.size v FA) (hf:fra = false):TwoF w B FA FB gp gq cp cq va vb fxa fxb true frb fpa fpb fsa fsb xa xb v rb pa pb X :=
 { h.to hb with
  hra:=fun _ => hv.mono h.below.size
  hpa:=fun e => by
   obtain ⟨g,x0,x1,x2,x3,h1,h2,h3,_⟩:=(h.to hb).hpa e
   exact ⟨g,x0,x1,x2,x3,h1,h2,h3,fun h5 => by have:=(h.hsa h5).1; rw [hf] at this; cases this⟩
  hsa:=fun e => ⟨rfl,(h.hsa e).2⟩ }
theorem TwoF.callB {v:Value} (h:TwoF w B FA FB gp gq cp cq va vb fxa fxb fra frb fpa fpb fsa fsb xa xb ra rb pa pb W) (hb:Below W.heap.size W X) (hv:TDO X W.heap.size v FB) (hf:frb = false):TwoF w B FA FB gp gq cp cq va vb fxa fxb fra true fpa fpb fsa fsb xa xb ra v pa pb X :=
 { h.to hb with
  hrb:=fun _ => hv.mono h.below.size
  hpb:=fun e => by
   obtain ⟨g,x0,x1,x2,x3,h1,h2,h3,_⟩:=(h.to hb).hpb e
   exact ⟨g,x0,x1,x2,x3,h1,h2,h3,fun h5 => by have:=(h.hsb h5).1; rw [hf] at this; cases this⟩
  hsb:=fun e => ⟨rfl,(h.hsb e).2⟩ }
theorem TwoF.allocA {z0 z1 z2 z3:Value} (h:TwoF w B FA FB gp gq cp cq va vb fxa fxb fra frb fpa fpb fsa fsb xa xb ra rb pa pb W) (hf:fpa = false) :
  TwoF w B FA FB gp gq cp cq va vb fxa fxb fra frb true fpb fsa fsb xa xb ra rb (.pointer (some ⟨W.heap.size,0,none⟩)) pb (W.alloc (.cells #[z0,z1,z2,z3] 25)) :=
 { h.to (Below.alloc (Below.refl W.heap.size W) zn _) with
  hpa:=fun _ => ⟨_,z0,z1,z2,z3,rfl,h.bW,Row.new _ _ _,fun h5 => by have:=(h.hsa h5).2; rw [hf] at this; cases this⟩
  hsa:=fun e => ⟨(h.hsa e).1,rfl⟩
  hne:=fun _ e2 e => by
   obtain ⟨g,x0,x1,x2,x3,h1,h2,h3,_⟩:=h.hpb e2
   rw [h1] at e
   have:=h3.lt
   simp only [Value.pointer.injEq,Option.some.injEq,Addr.mk.injEq,and_true] at e
   omega }
theorem TwoF.allocB {z0 z1 z2 z3:Value} (h:TwoF w B FA FB gp gq cp cq va vb fxa fxb fra frb fpa fpb fsa fsb xa xb ra rb pa pb W) (hf:fpb = false) :
  TwoF w B FA FB gp gq cp cq va vb fxa fxb fra frb fpa true fsa fsb xa xb ra rb pa (.pointer (some ⟨W.heap.size,0,none⟩)) (W.alloc (.cells #[z0,z1,z2,z3] 25)) :=
 { h.to (Below.alloc (Below.refl W.heap.size W) zn _) with
  hpb:=fun _ => ⟨_,z0,z1,z2,z3,rfl,h.bW,Row.new _ _ _,fun h5 => by have:=(h.hsb h5).2; rw [hf] at this; cases this⟩
  hsb:=fun e => ⟨(h.hsb e).1,rfl⟩
  hne:=fun e2 _ e => by
   obtain ⟨g,x0,x1,x2,x3,h1,h2,h3,_⟩:=h.hpa e2
   rw [h1] at e
   have:=h3.lt
   simp only [Value.pointer.injEq,Option.some.injEq,Addr.mk.injEq,and_true] at e
   omega }
theorem TDO.set4 {r:Raw} {g:Nat} {v a b c e x0 x1 x2 x3:Value} {W:World} {B:Nat} (h:TDO W B v r) (q:Row W g 25 #[x0,x1,x2,x3]):TDO (set4 W g a b c e) B v r :=
 (zam (w:=W) (B0:=0) q h ⟨rfl,rfl,rfl,zn,fun _ h => by omega⟩ (Nat.zero_le _)).2.1
theorem TwoF.storeA {g:Nat} {a b c e:Value} (h:TwoF w B FA FB gp gq cp cq va vb fxa fxb fra frb fpa fpb fsa fsb xa xb ra rb pa pb W) (hfp:fpa = true) (hfr:fra = true) (hp:pa = .pointer (some ⟨g,0,none⟩)) (hr:ra = .agg #[a,b,c,e]) :
  TwoF w B FA FB gp gq cp cq va vb fxa fxb fra frb fpa fpb true fsb xa xb ra rb pa pb (set4 W g a b c e):=by
 obtain ⟨k,x0,x1,x2,x3,h1,h2,h3,_⟩:=h.hpa hfp
 have hk:k = g:=by rw [hp] at h1; simp only [Value.pointer.injEq,Option.some.injEq,Addr.mk.injEq,and_true] at h1; exact h1.symm
 subst hk
 have hst:=zam (w:=w) (B0:=w.heap.size) (a:=a) (b:=b) (c:=c) (e:=e) h3 (h.hra hfr) h.below (Nat.le_trans h.le h2)
 have hgp:=h.hgp; have hgq:=h.hgq
 refine ⟨h.le,?_,hgp,hgq,hst.2.2,h.hrp.set4 (by omega),h.hrq.set4 (by omega),h.hxa,h.hxb,fun e => (h.hra e).set4 h3,fun e => (h.hrb e).set4 h3,fun _ => ⟨k,a,b,c,e,hp,h2,hst.1,fun _ => hr⟩,fun e => (h.hpb e).set4 (fun e3 => h.hne hfp e (by rw [hp,e3])),h.hne,fun _ => ⟨hfr,hfp⟩,h.hsb⟩
 unfold Go.Proofs.YthkfjnmnoanhlaaGreatDoor.set4; simp only [World.size_setCell]; exact h.bW
theorem TwoF.storeB {g:Nat} {a b c e:Value} (h:TwoF w B FA FB gp gq cp cq va vb fxa fxb fra frb fpa fpb fsa fsb xa xb ra rb pa pb W) (hfp:fpb = true) (hfr:frb = true) (hp:pb = .pointer (some ⟨g,0,none⟩)) (hr:rb = .agg #[a,b,c,e]) :
  TwoF w B FA FB gp gq cp cq va vb fxa fxb fra frb fpa fpb fsa true xa xb ra rb pa pb (set4 W g a b c e):=by
 obtain ⟨k,x0,x1,x2,x3,h1,h2,h3,_⟩:=h.hpb hfp
 have hk:k = g:=by rw [hp] at h1; simp only [Value.pointer.injEq,Option.some.injEq,Addr.mk.injEq,and_true] at h1; exact h1.symm
 subst hk
 have hst:=zam (w:=w) (B0:=w.heap.size) (a:=a) (b:=b) (c:=c) (e:=e) h3 (h.hrb hfr) h.below (Nat.le_trans h.le h2)
 have hgp:=h.hgp; have hgq:=h.hgq
 refine ⟨h.le,?_,hgp,hgq,hst.2.2,h.hrp.set4 (by omega),h.hrq.set4 (by omega),h.hxa,h.hxb,fun e => (h.hra e).set4 h3,fun e => (h.hrb e).set4 h3,fun e => (h.hpa e).set4 (fun e3 => h.hne e hfp (by rw [hp,e3])),fun _ => ⟨k,a,b,c,e,hp,h2,hst.1,fun _ => hr⟩,h.hne,h.hsa,fun _ => ⟨hfr,hfp⟩⟩
 unfold Go.Proofs.YthkfjnmnoanhlaaGreatDoor.set4; simp only [World.size_setCell]; exact h.bW
end Go.Proofs.YthkfjnmnoanhlaaGreatDoor

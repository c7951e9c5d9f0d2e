/- Part 20 of the proof; it says: lemmas and contracts. No conditions but those that each theorem states. -/
import Derived.StillTailTactics
import Derived.BigQuiet
import Derived.Deep.RegionLaw
import Derived.Deep.RegionHeld3
import Derived.Test.YthdabkmkgkkmcaaGreatDoorPb01
import Derived.Test.YthdabkmkgkkmcaaGreatDoorPb05
import Derived.Test.YthdabkmkgkkmcaaGreatDoorPb14
import Derived.Test.YthdabkmkgkkmcaaGreatDoorPb19
set_option linter.unusedSimpArgs false
set_option linter.unusedVariables false
set_option linter.unusedSectionVars false
set_option maxRecDepth 100000
set_option maxHeartbeats 32000000
namespace Go.Proofs.YthdabkmkgkkmcaaGreatDoor
open Go.RowKit
structure ExRetS (f:Nat -> Nat -> Nat -> Nat) (L:Nat) (k0:Nat) (P:Nat -> Prop) (M:Nat) (w:World) (e:Ending) (W':World):Prop where
 out:∃ kv rv b,e = .returned (.tuple #[kv,rv,.bool b]) /\ Below w.heap.size w W' /\ ((b = true /\ ∃ o,Expl f L k0 o /\ (∀ p ∈ o,P p) /\ o.length <= M /\ KO 51 1 W' w.heap.size kv (o.map sC) /\ ∀ fin,O3 W' w.heap.size rv (nx3 o.length L (autE f L k0 o fin).nx)) \/
    (b = false /\ ∃ ks:List Nat,ks.Nodup /\ (∀ s ∈ ks,AccK f L k0 s) /\ M < ks.length))
theorem KO.lit1 (W:World) (p:Nat):KO 51 1 (W.alloc (.cells #[.int .u64 (p:Int)] 51)) W.heap.size (.slice (some ⟨W.heap.size,0,none⟩) 1 1) [sC p] :=
 ⟨fun l hl => by simp at hl; subst hl; exact sC_one p,World.ownsRow_lit W #[.int .u64 (p:Int)] 1 zn (by simp only [maxLen]; omega) (by simp)⟩
abbrev TAs:TypeId:=212
abbrev TNs:TypeId:=220
theorem tyOKs:TyOQ TAs TNs:=by constructor <;> decide
structure ExT (P:Nat -> Prop) (f:Nat -> Nat -> Nat -> Nat) (L:Nat) (k0:Nat) (V gv ga gx go gn bm:Nat) (j1 j2:Value) (w:World) (ks:List Nat) (rv:Value) (rows all:List Value) (m:Nat -> Nat) (W:World):Prop where
 ki:KsI f L k0 P ks
 ex:ExQ w go gn bm ks W
 gr:GrC TAs TNs V gv ga gx go gn j1 j2 W
 vo:VO 37 W w.heap.size rv rows
 gl:GL f L ks W w.heap.size all m
section
variable {P:Nat -> Prop} {f:Nat -> Nat -> Nat -> Nat} {L:Nat} {k0:Nat} {V gv ga gx go gn bm:Nat} {j1 j2:Value} {w:World} {ks:List Nat} {rv:Value} {rows all:List Value} {m:Nat -> Nat} {W:World}
theorem ExT.congr {m':Nat -> Nat} (h:ExT P f L k0 V gv ga gx go gn bm j1 j2 w ks rv rows all m W) (e:∀ i,i < all.length -> m i = m' i):ExT P f L k0 V gv ga gx go gn bm j1 j2 w ks rv rows all m' W :=
 ⟨h.ki,h.ex,h.gr,h.vo,h.gl.congr e⟩
theorem ExT.call (hPk:∀ p,P p -> sOK p) (hV:V <= 3) (hL:L = 2 ^ V) (hnx:NextS P f L j1 j2 w) (hok:∀ a b x,P a -> P b -> x < L -> P (f a b x)) (h:ExT P f L k0 V gv ga gx go gn bm j1 j2 w ks rv rows all m W) {i r:Nat} {v:Value} {a b:Nat} (hv:all[i]? = some v) (ha:ks[i]? = some a) (hmr:m i = r) (hb:ks[r]? = some b) (hl:ks.length <= 4900) (hr:r <= 1000) :
  Calls Tryz.prog 180 #[v,.int .i64 (i:Int),.int .i64 (r:Int),.pointer (some ⟨gv,0,none⟩),.pointer (some ⟨ga,0,none⟩),.pointer (some ⟨gx,0,none⟩),.pointer (some ⟨go,0,none⟩)] W
   fun e W' => ∃ v' ks',e = .returned v' /\ ks <+: ks' /\ ks'.length <= ks.length + 8 /\ (∃ A c,v' = .slice A (r + 1) c) /\ ExT P f L k0 V gv ga gx go gn bm j1 j2 w ks' rv rows (all.set i v') (fun q => if q = i then r + 1 else m q) W':=by
 obtain ⟨a',ha',us,hus,huo,hue⟩:=h.gl.at' i v hv
 rw [ha] at ha'
 cases ha'
 rw [hmr] at hus
 have hL8:L <= 8:=by rw [hL]; exact Nat.pow_le_pow_right (by omega) hV
 refine (grow_S P hPk f V L hV hL j1 j2 w TAs TNs tyOKs gv ga gx go gn bm hnx hok ks h.ki.hP hl i r a b ha hb w.heap.size v us (by omega) W h.ex h.gr huo h.ex.below.size zn).mono ?_
 rintro e W' ⟨v',u,rfl,hvo,hu,hex,hk,ho⟩
 have hsz:=h.ex.below.size
 have hlen:=zit f a b ks L
 refine ⟨v',_,rfl,zbj f a b ks L,by omega,?_,h.ki.ksX hok (List.mem_of_getElem? ha) (List.mem_of_getElem? hb) zn,hex,?_,?_,?_⟩
 ·obtain ⟨A,c,e⟩:=VO.formN (n:=r + 1) hvo (by simp [hus])
  exact ⟨A,c,e⟩
 ·exact ⟨h.gr.rv.keepG hk (by decide) (by decide) (fun e => huo.ne_row h.gr.rv (by decide) e.symm),h.gr.ra.keepG hk (by decide) (by decide) (fun e => huo.ne_row h.gr.ra (by decide) e.symm),h.gr.rx.keepG hk (by decide) (by decide) (fun e => huo.ne_row h.gr.rx (by decide) e.symm)⟩
 ·exact h.vo.keepG hk (by decide) (by decide) (h.vo.ne_own huo (by decide))
 ·have hg:=h.gl.grow (v':=v') (by decide) (by decide) (by decide) (by decide) hv (zbj f a b ks L) hk ho ha (by
   rw [hmr]
   refine ⟨us ++ [u],by simp [hus],hvo,fun q x hx => ?_⟩
   by_cases hq:q < us.length
   ·rw [List.getElem?_append_left hq] at hx
    obtain ⟨c,l,h1,h2,h3⟩:=hue q x hx
    exact ⟨c,l,zar (zbj f a b ks L) h1,h2.mono (zbj f a b ks L),h3.keepG hk (by decide) (by decide) (huo.not_int (by decide))⟩
   ·have hlx:=(List.getElem?_eq_some_iff.1 hx).1
    simp at hlx
    have e:q = us.length:=by omega
    subst e
    simp at hx
    subst hx
    exact ⟨b,_,zar (zbj f a b ks L) (by rw [hus]; exact hb),Good.made ks a b,hu.mono hsz⟩)
  rw [hmr] at hg
  exact hg
theorem ExT.store {g n cap j:Nat} {u:Value} (h:ExT P f L k0 V gv ga gx go gn bm j1 j2 w ks (.slice (some ⟨g,0,none⟩) n cap) rows all m W) (hn:rows.length = n) (hp:0 < n) (hu:u.oneCell' = true) :
  ExT P f L k0 V gv ga gx go gn bm j1 j2 w ks (.slice (some ⟨g,0,none⟩) n cap) (rows.set j u) all m (W.setCell ⟨g,j,none⟩ u):=by
 obtain ⟨g',cap',cs,he,hg,hrow,_,_,_⟩:=h.vo.row (by omega)
 simp only [Value.slice.injEq,Option.some.injEq,Addr.mk.injEq,and_true] at he
 obtain ⟨rfl,_,_⟩:=he
 exact ⟨h.ki,h.ex.setRow hrow (by decide) (by decide) (by decide) hg j u,⟨h.gr.rv.far (Row.ne h.gr.rv hrow (by decide)) _,h.gr.ra.far (Row.ne h.gr.ra hrow (by decide)) _,h.gr.rx.far (Row.ne h.gr.rx hrow (by decide)) _⟩,zeb h.vo hn j u hu,
  h.gl.map (fun x l hx => hx.setFar (hx.ne_row hrow (by decide)) _) (fun x l hx => VO.setFar hx (hx.ne_row hrow (by decide)) _)⟩
theorem ExT.append {X:Obj} {w':World} {rv':Value} {rows':List Value} (h:ExT P f L k0 V gv ga gx go gn bm j1 j2 w ks rv rows all m W) (hg:(W.alloc X).grownBy w' rv.ownBlock) (ho:VO 37 w' w.heap.size rv' rows') :
  ExT P f L k0 V gv ga gx go gn bm j1 j2 w ks rv' rows' all m w':=by
 have hv:=h.vo.allocd X
 exact ⟨h.ki,h.ex.far hg hv (by decide) (by decide) (by decide) zn,⟨(h.gr.rv.alloc X).far_own (by decide) hv.2 hg,(h.gr.ra.alloc X).far_own (by decide) hv.2 hg,(h.gr.rx.alloc X).far_own (by decide) hv.2 hg⟩,ho,
  h.gl.map (fun x l hx => (hx.allocd X).far (by decide) hv.2 hg) (fun x l hx => VO.far (VO.allocd hx X) (by decide) hv.2 hg)⟩
end
theorem zm7 (P:Nat -> Prop) (hPk:∀ p,P p -> sOK p) (f:Nat -> Nat -> Nat -> Nat) (V L M:Nat) (hV:V <= 3) (hL:L = 2 ^ V) (hM1:1 <= M) (hM:M <= 64) (k0:Nat) (hk0:P k0) (j1 j2:Value) (w:World) (hnx:NextS P f L j1 j2 w) (hok:∀ a b x,P a -> P b -> x < L -> P (f a b x)) :
  Calls Tryz.prog 160 #[.int .i64 (V:Int),.int .i64 (M:Int),sV k0,.func (.func 161) #[] #[j1,j2]] w
   (ExRetS f L k0 P M w):=by
 have hkey:=zpe k0 (hPk _ hk0)
 have HK0:=zh (KsI.start (f:=f) (L:=L) hk0)
 have HNX:=zh hnx; have HOK:=zh hok; have HPK:=zh hPk
 unfold sV at hkey ⊢
 have HKEY:=zh hkey
 have HL:=zh hL
 clear hkey hnx hok hPk hL
 go_enter Tryz.func160,Tryz.ntmps160
 have hmm:=@run_makeMap Tryz.prog
 go_upto_region 1 with fail
 refine zaa (fun W => Below w.heap.size w W /\ Row W w.heap.size 3 #[.int .i64 (V:Int)] /\ Row W (w.heap.size + 1) 220 #[.func (.func 161) #[] #[j1,j2]] /\ Row W (w.heap.size + 1 + 1) 48 #[.slice none 0 0])
  ⟨by go_grown,((Row.new _ _ _).alloc _).alloc _,(Row.lit (by simp)).alloc _,Row.lit (by simp)⟩ ?_
 rintro W ⟨hb,r1,r3,r4⟩
 generalize hgo:w.heap.size + 1 + 1 = go at *
 generalize hgx:w.heap.size + 1 = gx at *
 have hgos:w.heap.size <= go:=by omega
 have hgxs:w.heap.size <= gx:=by omega
 obtain ⟨gv,hgv⟩:=zx w.heap.size
 rw [<- hgv] at r1 ⊢
 have hgvs:w.heap.size <= gv:=by omega
 clear hgo hgx hgv
 have HB:=zh hb; have R1:=zh r1; have R3:=zh r3; have R4:=zh r4
 clear hb r1 r3 r4
 go_upto_region 2 with (refine zaw (ks:=([]:List Nat)) kl_set zev rfl (.tmp 17) (.tmp 18) _ _ (.inr rfl) zel rfl (NM.new rfl) (by simp) k0 (by simp) _ rfl HKEY.out rfl ?_; intro w1 hm1 hg1; have HM1:=zh hm1; have HG1:=zh hg1; clear hm1 hg1)
 refine zaa (fun X => Below w.heap.size w X /\ Row X gv 3 #[.int .i64 (V:Int)] /\ Row X gx 220 #[.func (.func 161) #[] #[j1,j2]] /\ Row X go 48 #[.slice none 0 0] /\ Row X w1.heap.size 236 #[.map (some W.heap.size)] /\ NM 51 sL X W.heap.size [k0] /\ w.heap.size <= W.heap.size /\ w.heap.size <= w1.heap.size)
  (by
   have g1:=HG1.out; have s1:=g1.size; have s0:=HB.out.size
   simp only [World.size_alloc] at s1
   have l1:=R1.out.lt; have l3:=R3.out.lt; have l4:=R4.out.lt
   have ne:∀ g,g < W.heap.size -> some g ≠ some W.heap.size:=fun g h e => by cases e; omega
   refine ⟨Below.alloc (Below.grown (Below.alloc HB.out s0 _) g1 (by simp only [World.size_alloc]; omega) (fun k hk => by cases hk; exact s0)) (by omega) _,((R1.out.alloc _).grown g1 (by exact ne _ l1)).alloc _,((R3.out.alloc _).grown g1 (by exact ne _ l3)).alloc _,((R4.out.alloc _).grown g1 (by exact ne _ l4)).alloc _,Row.new _ _ _,HM1.out.alloc _,s0,by omega⟩) ?_
 clear HB R1 R3 R4 HM1 HG1
 generalize W.heap.size = bm
 generalize w1.heap.size = gn
 clear W w1
 rintro W ⟨hb,r1,r3,r4,r5,hm,hbms,hgns⟩
 have z4:=r4.cell; have z4':=fun X => (r4.alloc X).cell; have z4f:=r4.free; have z4f':=fun X => (r4.alloc X).free
 have HB:=zh hb; have R1:=zh r1; have R3:=zh r3; have R4:=zh r4; have R5:=zh r5; have HM:=zh hm
 clear hb r1 r3 r4 r5 hm
 go_upto_region 3 with fail
 refine zaa (fun X => ExQ w go gn bm [k0] X /\ Row X gv 3 #[.int .i64 (V:Int)] /\ Row X gx 220 #[.func (.func 161) #[] #[j1,j2]])
  (by
   have s0:=HB.out.size
   have ra:=R4.out.alloc (.cells #[.int .u64 (k0:Int)] 51)
   refine ⟨⟨(Below.alloc HB.out s0 _).setCell (p:=⟨go,0,none⟩) hgos _,(R5.out.alloc _).far (Row.ne (R5.out.alloc _) ra (by decide)) _,(HM.out.alloc _).setCell (fun e => (HM.out.alloc _).ne_row ra e) _,⟨_,ra.set 0 _,(KO.lit1 W k0).mono s0 |>.setFar ra (by decide) 0 _⟩,hgos,hgns,hbms⟩,(R1.out.alloc _).far (Row.ne (R1.out.alloc _) ra (by decide)) _,(R3.out.alloc _).far (Row.ne (R3.out.alloc _) ra (by decide)) _⟩) ?_
 clear HB R1 R3 R4 R5 HM z4 z4' z4f z4f'
 generalize W.heap.size = gz
 rintro X ⟨hex,r1,r3⟩
 clear W
 have HEX:=zh hex; have R1:=zh r1; have R3:=zh r3
 clear hex r1 r3
 go_upto_region 4 with fail
 have hsz:=HEX.out.below.size
 refine zaa (fun W => ExQ w go gn bm [k0] W /\ GrC 212 220 V gv X.heap.size gx go gn j1 j2 W) ⟨HEX.out.keep (by go_grown),⟨R1.out.alloc _,Row.new _ _ _,R3.out.alloc _⟩⟩ ?_
 clear HEX R1 R3
 generalize X.heap.size = ga at *
 rintro W ⟨hex,hgr⟩
 clear X
 have HEX:=zh hex; have HGR:=zh hgr
 have htt:TyOQ 212 220:=by constructor <;> decide
 clear hex hgr
 go_wp2
 go_loopg [9,14] (M + 1) (fun gk q9 q14 wr => ∃ (k:Nat) (ks:List Nat) (vals:List Value),gk = M + 1 - k /\ q14 = .int .i64 (k:Int) /\ k <= ks.length /\ ks.length <= M /\ vals.length = k /\ ExT P f L k0 V gv ga gx go gn bm j1 j2 w ks q9 vals vals (fun _ => k) wr)
 case atStart => exact ⟨0,[k0],[],rfl,rfl,Nat.zero_le _,hM1,rfl,⟨HK0.out,HEX.out,HGR.out,VO.nil _ _ _,⟨fun i v h => by simp at h,fun i j v u _ h _ => by simp at h⟩⟩⟩
 case round =>
  clear HK0 HEX HGR
  obtain ⟨k,ks,vals,rfl,rfl,hkl,hkM,hvl,hs⟩:=hrel
  have HS:=zh hs
  obtain ⟨ov,ho1,ho2⟩:=hs.ex.ro
  obtain ⟨m,hm⟩:=zx ks.length
  obtain ⟨Ao,co,rfl⟩:=ho2.form (n:=m) (by rw [List.length_map,hm])
  obtain ⟨Ar,cr,rfl⟩:=VO.formN (n:=k) hs.vo hvl
  have z4:=ho1.cell
  have HML:=zh hm; have HVL:=zh hvl
  rw [<- hm] at hkl hkM
  by_cases hlt:k < m
  ·have hs0:ExT P f L k0 V gv ga gx go gn bm j1 j2 w ks (.slice Ar k cr) vals (vals ++ [.slice none 0 0]) (fun r => if r < 0 then k + 1 else if r < k then k else 0) wr:=by
    have hg:=hs.gl.snoc (a:=ks[k]'(by omega)) (by rw [hvl]; exact List.getElem?_eq_getElem _)
    exact ⟨hs.ki,hs.ex,hs.gr,hs.vo,hg.congr fun r _ => by rw [hvl]; simp⟩
   have HS0:=zh hs0
   clear hs ho1 ho2 hm hvl hs0
   go_wp2
   clear z4
   go_loopg [15,31] k (fun gk q15 q31 wr => ∃ (j:Nat) (ks':List Nat) (rows:List Value) (qv:Value),j <= k /\ gk = k - j /\ q15 = qv /\ q31 = .int .i64 (j:Int) /\ ks <+: ks' /\ ks'.length <= M + 16 * j /\ rows.length = k /\ ExT P f L k0 V gv ga gx go gn bm j1 j2 w ks' (.slice Ar k cr) rows (rows ++ [qv]) (fun r => if r < j then k + 1 else if r < k then k else j) wr)
   case atStart => exact ⟨0,ks,vals,_,Nat.zero_le _,rfl,rfl,rfl,List.prefix_refl _,by rw [<- HML.out]; omega,HVL.out,HS0.out⟩
   case round =>
    clear HS0 HS
    obtain ⟨j,ks',rows,qv,hj,rfl,hqv,rfl,hpre,hlen,hrl,hs⟩:=hrel
    have hpl:=hpre.length_le
    rw [<- HML.out] at hpl
    have hqk:(rows ++ [qv])[k]? = some qv:=by rw [List.getElem?_append_right (by omega),hrl]; simp
    obtain ⟨Aq,cq,rfl⟩:∃ A c,qv = .slice A j c:=by
     obtain ⟨_,_,us,h1,h2,_⟩:=hs.gl.at' k _ hqk
     rw [if_neg (by omega),if_neg (by omega)] at h1
     exact VO.formN h2 h1
    subst hqv
    obtain ⟨bk,hak⟩:∃ b,ks'[k]? = some b:=⟨ks'[k]'(by omega),List.getElem?_eq_getElem _⟩
    have HS:=zh hs; have HPRE:=zh hpre; have HRL:=zh hrl
    have HQK:=zh hqk; have HAK:=zh hak
    by_cases hjk:j < k
    ·obtain ⟨g3,cap3,cs3,he,hg3,hrow3,hc1,hc2,hcell3⟩:=hs.vo.row (by omega)
     rw [hrl] at he hc1
     simp only [Value.slice.injEq,true_and] at he
     obtain ⟨rfl,rfl⟩:=he
     have hvj:(rows ++ [Value.slice Aq j cq])[j]? = some (rows[j]'(by omega)):=by rw [List.getElem?_append_left (by omega)]; exact List.getElem?_eq_getElem _
     have hcj:=hcell3 j _ (List.getElem?_eq_getElem (by omega))
     generalize rows[j]'(by omega) = v1 at hvj hcj
     obtain ⟨A1,c1,rfl⟩:∃ A c,v1 = .slice A k c:=by
      obtain ⟨_,_,us,h1,h2,_⟩:=hs.gl.at' j _ hvj
      rw [if_neg (by omega),if_pos (by omega)] at h1
      exact VO.formN h2 h1
     obtain ⟨bj,haj⟩:∃ b,ks'[j]? = some b:=⟨ks'[j]'(by omega),List.getElem?_eq_getElem _⟩
     have hc:=ExT.call HPK.out hV HL.out HNX.out HOK.out hs hvj haj (r:=k) (by rw [if_neg (by omega),if_pos (by omega)]) hak (by omega) (by omega)
     have HC:=zh hc; have HAJ:=zh haj
     clear hs hpre hrl hqk hak hvj haj hc hcell3 hrow3
     go_upto_region 13 with (go_at_call 180; refine HC.out.mono ?_; rintro e w3 ⟨v3,k3,rfl,hp3,hl3,⟨A3,c3,rfl⟩,hs3⟩; have HS3:=zh hs3; have HP3:=zh hp3; have HL3:=zh hl3; obtain ⟨g4,cap4,cs4,he,_,hrow4,_,_,hcell4⟩:=hs3.vo.row (by have:=HRL.out; omega); simp only [Value.slice.injEq,Option.some.injEq,Addr.mk.injEq,and_true] at he; obtain ⟨rfl,hx,rfl⟩:=he; clear hx; have z5:=hcell4 j _ (List.getElem?_eq_getElem (by have:=HRL.out; omega)); have z6:=hrow4.free; clear hs3 hp3 hl3 hrow4 hcell4)
     refine zaa (fun W => ExT P f L k0 V gv ga gx go gn bm j1 j2 w k3 (.slice (some ⟨g3,0,none⟩) k cr) (rows.set j (.slice A3 (k + 1) c3)) (rows.set j (.slice A3 (k + 1) c3) ++ [.slice Aq j cq]) (fun r => if r = j then k + 1 else if r < j then k + 1 else if r < k then k else j) W)
      (by
       have h:=HS3.out.store (j:=j) (u:=.slice A3 (k + 1) c3) HRL.out (by omega) rfl
       rw [List.set_append_left _ _ (by have:=HRL.out; omega)] at h
       exact h) ?_
     intro W4 hs4
     clear HS HC HS3 z5 z6 hcj
     have hrl4:(rows.set j (.slice A3 (k + 1) c3)).length = k:=by rw [List.length_set]; exact HRL.out
     generalize rows.set j (.slice A3 (k + 1) c3) = rows4 at *
     have hqk4:(rows4 ++ [Value.slice Aq j cq])[k]? = some (.slice Aq j cq):=by rw [List.getElem?_append_right (by omega),hrl4]; simp
     have hc:=ExT.call HPK.out hV HL.out HNX.out HOK.out hs4 hqk4 (zar HP3.out HAK.out) (r:=j) (by rw [if_neg (by omega),if_neg (by omega),if_neg (by omega)]) (zar HP3.out HAJ.out) (by have:=HL3.out; omega) (by omega)
     have HC:=zh hc; have HRL4:=zh hrl4
     clear hs4 hqk4 hc hrl4
     go_wp2_with (go_at_call 180; refine HC.out.mono ?_; rintro e w5 ⟨v5,k5,rfl,hp5,hl5,⟨A5,c5,rfl⟩,hs5⟩; have HS5:=zh hs5; have HP5:=zh hp5; have HL5:=zh hl5; clear hs5 hp5 hl5)
     go_roundg (k - (j + 1))
     case rel =>
      refine ⟨j + 1,k5,rows4,.slice A5 (j + 1) c5,by omega,rfl,rfl,by go_num,HPRE.out.trans (HP3.out.trans HP5.out),by have:=HL3.out; have:=HL5.out; omega,HRL4.out,?_⟩
      have h:=HS5.out
      rw [List.set_append_right _ _ (by have:=HRL4.out; omega),show k - rows4.length = 0 by have:=HRL4.out; omega,List.set_cons_zero] at h
      refine h.congr fun r hr => ?_
      simp only [List.length_append,List.length_cons,List.length_nil,HRL4.out] at hr
      by_cases e1:r = k
      ·rw [if_pos e1,if_neg (by omega),if_neg (by omega)]
      ·rw [if_neg e1]
       by_cases e2:r = j
       ·rw [if_pos e2,if_pos (by omega)]
       ·rw [if_neg e2]
        by_cases e3:r < j
        ·rw [if_pos e3,if_pos (by omega)]
        ·have hrk:r < k:=by omega
         rw [if_neg e3,if_pos hrk,if_neg (show ¬ r < j + 1 by omega),if_pos hrk]
     case measure => omega
    ·have hjk':j = k:=by omega
     clear hjk
     subst hjk'
     have hc:=ExT.call HPK.out hV HL.out HNX.out HOK.out HS.out HQK.out HAK.out (r:=j) (by rw [if_neg (by omega),if_neg (by omega)]) HAK.out (by omega) (by omega)
     have HC:=zh hc
     clear hs hpre hrl hqk hak hc
     go_upto_region 16 with (first
      | (go_at_call 180; refine HC.out.mono ?_; rintro e w2 ⟨v',ks2,rfl,hp2,hl2,⟨A2,c2,rfl⟩,hs2⟩; have HS3:=zh hs2; have HP2:=zh hp2; have HL2:=zh hl2; clear hs2 hp2 hl2; try go_simp)
      | (at_builtin; refine zac eIII rfl (.tmp 51) (.tmp 57) rfl w.heap.size _ _ rfl (VO.allocd HS3.out.vo _) _ [.slice A2 (j + 1) c2] rfl (VS.one (Row.new _ _ _)) (by intro u hu; simp at hu; subst hu; rfl) (by rw [HRL.out]; simp; omega) (by simp only [World.size_alloc]; have:=HS3.out.ex.below.size; omega) ?_; intro v7 w7 ho7 hg7 _; have HS7:=zh (HS3.out.append hg7 ho7); obtain ⟨A7,c7,rfl⟩:=VO.formN (n:=j + 1) ho7 (by rw [List.length_append,HRL.out]; rfl); clear ho7 hg7))
     have HS8:=zh (show ExT P f L k0 V gv ga gx go gn bm j1 j2 w ks2 (.slice A7 (j + 1) c7) (rows ++ [.slice A2 (j + 1) c2]) (rows ++ [.slice A2 (j + 1) c2]) (fun _ => j + 1) w7 from by
      have h:=HS7.out
      rw [zla HRL.out] at h
      refine h.congr fun i hi => ?_
      simp only [List.length_append,HRL.out,List.length_singleton] at hi
      by_cases e1:i = j
      ·rw [if_pos e1]
      ·rw [if_neg e1,if_pos (by omega)])
     clear HS7 HS3 HC HS
     obtain ⟨m4,hm4⟩:=zx ks2.length
     obtain ⟨ov4,hr4,hk4⟩:=HS8.out.ex.ro
     obtain ⟨A4,c4,rfl⟩:=hk4.form (n:=m4) (by rw [List.length_map,hm4])
     have z4:=hr4.cell; have z5:=hr4.free
     have HM4:=zh hm4; have HK4:=zh hk4; have HR4:=zh hr4
     have hp2l:=HP2.out.length_le
     clear hk4 hm4 hr4
     by_cases hM4:M < m4
     ·go_wp2
      refine zah (fun W => Row W go 48 #[.slice none 0 0] /\ Below w.heap.size w W) ⟨HR4.out.set 0 _,HS8.out.ex.below.setCell (p:=⟨go,0,none⟩) hgos _⟩ ?_
      clear z4 z5
      rintro W5 ⟨r0,hb5⟩
      have q0:=r0.cell 0
      simp only [List.getElem?_toArray,List.getElem?_cons_zero] at q0
      have HB5:=zh hb5
      clear r0 hb5
      exact bodyPost_ret (v:=.tuple #[.slice none 0 0,.slice none 0 0,.bool false]) (by simp [results,Tryz.results160,go_sem,q0]) rfl ⟨⟨_,_,_,rfl,HB5.out,.inr ⟨rfl,ks2,HS8.out.ki.nodup,HS8.out.ki.acc,by rw [<- HM4.out]; exact hM4⟩⟩⟩
     ·clear z5
      go_wp2
      go_roundg (M + 1 - (j + 1))
      case rel => exact ⟨j + 1,ks2,_,rfl,by go_num,by omega,by have:=HM4.out; omega,by rw [List.length_append,HRL.out]; rfl,HS8.out⟩
      case measure => omega
  ·have hkm2:k = m:=by omega
   have HO1:=zh ho1; have HO2:=zh ho2
   have z5:=ho1.free
   clear hs ho1 ho2 hm hvl
   go_wp2
   rw [HO1.out.same]
   have q0:=z4 0
   simp only [List.getElem?_toArray,List.getElem?_cons_zero] at q0
   have hcl:=HS.out.gl.closed (by rw [HVL.out,hkm2,HML.out]) (fun i hi => by rw [hkm2,HML.out])
   have hE:Expl f L k0 ks:=⟨HS.out.ki.nodup,HS.out.ki.zero,HS.out.ki.acc,hcl⟩
   clear z4 z5
   exact bodyPost_ret (v:=.tuple #[.slice Ao m co,.slice Ar k cr,.bool true]) (by simp [results,Tryz.results160,go_sem,q0]) rfl ⟨⟨_,_,_,rfl,HS.out.ex.below,.inl ⟨rfl,ks,hE,HS.out.ki.hP,by rw [<- HML.out]; exact hkM,HO2.out,fun fin => HS.out.gl.n3 (by rw [HVL.out,hkm2,HML.out]) (fun i hi => by rw [hkm2,HML.out]) HS.out.ki.nodup HS.out.vo fin⟩⟩⟩
end Go.Proofs.YthdabkmkgkkmcaaGreatDoor
namespace Go.Proofs.YthdabkmkgkkmcaaGreatDoor
open Go.RowKit
def memK (s k:Nat):List Nat:=(List.range k).filter s.testBit
theorem zjh (s k:Nat):memK s (k + 1) = if s.testBit k then memK s k ++ [k] else memK s k:=by
 unfold memK
 rw [List.range_succ,List.filter_append]
 by_cases h:s.testBit k = true
 ·rw [if_pos h]; simp [h]
 ·rw [if_neg h]; simp at h; simp [h]
theorem zlg (s k:Nat):(memK s k).length <= k:=by
 have:=List.length_filter_le s.testBit (List.range k)
 simpa [memK] using this
theorem zo6 (s:Nat):memK s 64 = mem64 s:=rfl
theorem bit_of (s i:Nat) (hs:s < 2 ^ 64):(bits BinOp.and IntKind.u64 ((s:Int) / 2 ^ i) 1 != 0) = s.testBit i:=by
 have h1:s / 2 ^ i < 18446744073709551616:=Nat.lt_of_le_of_lt (Nat.div_le_self _ _) (by simpa using hs)
 have h:=u64_and_nat (s / 2 ^ i) 1 h1 (by omega)
 have e:((s / 2 ^ i:Nat):Int) = (s:Int) / 2 ^ i:=by simp [Int.natCast_ediv,Int.natCast_pow]
 rw [e] at h
 rw [show (1:Int) = ((1:Nat):Int) from rfl,h,Nat.and_one_is_mod,Nat.testBit_eq_decide_div_mod_eq]
 have:=Nat.mod_lt (s / 2 ^ i) (show 0 < 2 by omega)
 rw [Bool.eq_iff_iff]
 simp only [bne_iff_ne,ne_eq,decide_eq_true_eq]
 omega
theorem zec (s:Nat) (hs:s < 2 ^ 64) (w:World):Calls Tryz.prog 162 #[.int .u64 (s:Int)] w fun e w' => ∃ v,e = .returned v /\ Below w.heap.size w w' /\ O1 w' w.heap.size v (oI (mem64 s)):=by
 go_enter Tryz.func162,Tryz.ntmps162
 go_wp2
 go_loopg [2,4] 64 (fun gk q2 q4 wr => ∃ i:Nat,i <= 64 /\ gk = 64 - i /\ q4 = .int .i64 i /\ Below w.heap.size w wr /\ O1 wr w.heap.size q2 (oI (memK s i)))
 case atStart => exact ⟨0,by omega,rfl,rfl,Below.refl _ _,VO.nil _ _ _⟩
 case round =>
  obtain ⟨i,hi,rfl,rfl,hb,ho⟩:=hrel
  obtain ⟨m,hm⟩:=zx ((memK s i).length)
  have hml:=zlg s i
  rw [<- hm] at hml
  obtain ⟨A,c,rfl⟩:=VO.formN (n:=m) ho (by rw [zad,zap,hm])
  have HB:=zh hb; have HO:=zh ho; have HM:=zh hm
  clear hb ho hm
  have hbit:=bit_of s i hs
  by_cases hlt:i < 64
  ·have hsz:=HB.out.size
   cases hbi:s.testBit i with
   | false =>
    rw [hbi] at hbit
    have HBI:=zh hbi
    clear hbi
    go_wp2
    go_roundg (64 - (i + 1))
    case rel =>
     refine ⟨i + 1,by omega,rfl,by go_num,HB.out,?_⟩
     rw [zjh,if_neg (by rw [HBI.out]; simp)]
     exact HO.out
    case measure => omega
   | true =>
    rw [hbi] at hbit
    have HBI:=zh hbi
    clear hbi
    go_wp2_with (at_builtin; refine zac eI rfl (.tmp 12) (.tmp 14) rfl w.heap.size _ _ rfl (VO.allocd HO.out _) _ [.int .i64 (i:Int)] rfl (VS.one (Row.new _ _ _)) (zpk [(i:Int)]) (by rw [zad,zap,<- HM.out]; simp; omega) (by simp only [World.size_alloc]; omega) ?_; intro v7 w7 ho7 hg7 _; have HO7:=zh ho7; have HB7:=zh (zat (w:=w) (by have:=HB.out; go_grown) (VO.allocd HO.out _) hg7 (by simp only [World.size_alloc]; omega)); clear ho7 hg7)
    go_roundg (64 - (i + 1))
    case rel =>
     refine ⟨i + 1,by omega,rfl,by go_num,HB7.out,?_⟩
     rw [zjh,if_pos HBI.out,zio]
     show VO 3 _ _ _ (iL _)
     rw [zgz]
     exact HO7.out
    case measure => omega
  ·have hie:i = 64:=by omega
   have ho:=HO.out
   rw [hie,zo6] at ho
   have HO2:=zh ho
   clear ho hbit
   go_wp2
   go_returns
   exact ⟨_,rfl,HB.out,HO2.out⟩
end Go.Proofs.YthdabkmkgkkmcaaGreatDoor
namespace Go.Proofs.YthdabkmkgkkmcaaGreatDoor
open Go.RowKit
theorem zkp (w:World) (n:Nat):Below w.heap.size w (w.drewN n):=⟨rfl,rfl,rfl,zn,fun _ _ => rfl⟩
theorem Nx.two {w:World} {v:Value} {n L:Nat} {f:Nat -> Nat -> Nat -> Nat} {b3 o3 c3:Nat} (h:Nx w v n L f b3 o3 c3) {l r x y:Nat} (hl:l < n) (hr:r < n) (hx:x < L) (hy:y < L) :
  ∃ b2 o2 c2 b1 o1 c1,b3 < w.heap.size /\ w.cell? ⟨b3,o3 + l,none⟩ = some (.slice (some ⟨b2,o2,none⟩) n c2) /\ n <= c2 /\ b2 < w.heap.size /\ w.cell? ⟨b2,o2 + r,none⟩ = some (.slice (some ⟨b1,o1,none⟩) L c1) /\ L <= c1 /\
  b1 < w.heap.size /\ w.cell? ⟨b1,o1 + x,none⟩ = some (.int .i64 (f l r x:Int)) /\ w.cell? ⟨b1,o1 + y,none⟩ = some (.int .i64 (f l r y:Int)):=by
 obtain ⟨b2,o2,c2,b1,o1,c1,h1,h2,h3,h4,h5,h6,h7,h8⟩:=h.at3 l r x hl hr hx
 obtain ⟨b2',o2',c2',b1',o1',c1',g1,g2,g3,g4,g5,g6,g7,g8⟩:=h.at3 l r y hl hr hy
 rw [h2] at g2
 simp only [Option.some.injEq,Value.slice.injEq,Addr.mk.injEq,and_true,true_and] at g2
 obtain ⟨⟨rfl,rfl⟩,rfl⟩:=g2
 rw [h5] at g5
 simp only [Option.some.injEq,Value.slice.injEq,Addr.mk.injEq,and_true,true_and] at g5
 obtain ⟨⟨rfl,rfl⟩,rfl⟩:=g5
 exact ⟨b2,o2,c2,b1,o1,c1,h1,h2,h3,h4,h5,h6,h7,h8,g8⟩
theorem lo_bits (x v:Nat) (hx:x < 8) (hv:v < 3):bits .andNot .i64 (x:Int) ((2 ^ v:Nat):Int) = ((loV v x:Nat):Int):=by
 have h:∀ (x:Fin 8) (v:Fin 3),bits .andNot .i64 ((x:Nat):Int) ((2 ^ (v:Nat):Nat):Int) = ((loV v x:Nat):Int):=by decide +kernel
 exact h ⟨x,hx⟩ ⟨v,hv⟩
theorem hi_bits (x v:Nat) (hx:x < 8) (hv:v < 3):bits .or .i64 (x:Int) ((2 ^ v:Nat):Int) = ((hiV v x:Nat):Int):=by
 have h:∀ (x:Fin 8) (v:Fin 3),bits .or .i64 ((x:Nat):Int) ((2 ^ (v:Nat):Nat):Int) = ((hiV v x:Nat):Int):=by decide +kernel
 exact h ⟨x,hx⟩ ⟨v,hv⟩
theorem zj8 (s:Nat) (hs:s < 64):IntKind.u64.wrap (2 ^ s) = ((2 ^ s:Nat):Int):=by
 have h:2 ^ s < 18446744073709551616:=Nat.lt_of_lt_of_le (Nat.pow_lt_pow_right (by omega) hs) (by omega)
 have e:(2:Int) ^ s = ((2 ^ s:Nat):Int):=by simp [Int.natCast_pow]
 rw [e,IntKind.wrap_u64]
 generalize 2 ^ s = u at h ⊢
 omega
theorem or_u64 (a b:Nat) (ha:a < 2 ^ 64) (hb:b < 2 ^ 64):bits .or .u64 (a:Int) (b:Int) = ((a ||| b:Nat):Int):=u64_or_nat a b (by simpa using ha) (by simpa using hb)
def setG (d:Dta) (v x p:Nat) (q ta:Nat):Nat:=ta ||| (2 ^ d.nx p q (loV v x) ||| 2 ^ d.nx p q (hiV v x))
theorem zhs {α:Type} (l:List α) (a:α) (F:α -> Nat -> Nat) (ta:Nat):orAll (l ++ [a]) F ta = F a (orAll l F ta):=by unfold orAll; rw [List.foldl_append]; rfl
theorem zin {α:Type} (F:α -> Nat -> Nat) (N:Nat) (l:List α) (h:∀ a ∈ l,∀ ta,ta < N -> F a ta < N):∀ ta,ta < N -> orAll l F ta < N:=by
 induction l with
 | nil => intro ta ht; exact ht
 | cons a l ih => intro ta ht; exact ih (fun b hb => h b (by simp [hb])) _ (h a (by simp) ta ht)
theorem zn1 {d:Dta} {v x p q:Nat} (h1:d.nx p q (loV v x) < 64) (h2:d.nx p q (hiV v x) < 64) {ta:Nat} (ht:ta < 2 ^ 64):setG d v x p q ta < 2 ^ 64 :=
 Nat.or_lt_two_pow ht (Nat.or_lt_two_pow (Nat.pow_lt_pow_right (by omega) h1) (Nat.pow_lt_pow_right (by omega) h2))
theorem zgd {l:List Nat} {i a:Nat} (h:l[i]? = some a):l.take (i + 1) = l.take i ++ [a]:=by rw [List.take_add_one,h]; rfl
theorem exists1 (d:Dta) (V v:Nat) (hd:d.Fit V) (hv:v < V) (w0:World) (gD gv:Nat) (vn vf:Value) (hD:AutV w0 gD V d vn vf) (hV:Row w0 gv 3 #[.int .i64 (v:Int)]) :
  NextS (fun s => s < 2 ^ d.n) (setF d v) d.L (.pointer (some ⟨gD,0,none⟩)) (.pointer (some ⟨gv,0,none⟩)) w0:=by
 intro l r x W hl hr hx hbw
 have hD2:=hD.below hbw zn
 have hV2:=hV.below hbw hV.lt
 have hn64:=hd.n64
 have hv3:v < 3:=Nat.lt_of_lt_of_le hv hd.v3
 have hx8:x < 8:=Nat.lt_of_lt_of_le hx hd.L8.2
 have h64:2 ^ d.n <= 2 ^ 64:=Nat.pow_le_pow_right (by omega) hn64
 have hml:=fun W => zec l (Nat.lt_of_lt_of_le hl h64) W
 have hmr:=fun W => zec r (Nat.lt_of_lt_of_le hr h64) W
 have hlo:loV v x < d.L:=by rw [hd.L] at hx ⊢; exact zo8 hv hx
 have hhi:hiV v x < d.L:=by rw [hd.L] at hx ⊢; exact zpm hv hx
 obtain ⟨b3,o3,c3,hN⟩:=hD2.hn.nx hd.pos hd.L8.1
 obtain rfl:=hN.form
 have hNN:=fun p q (hp:p < d.n) (hq:q < d.n) => hN.two hp hq hlo hhi
 have elo:=lo_bits x v hx8 hv3
 have ehi:=hi_bits x v hx8 hv3
 have hsh:=zdm v (by omega)
 have hnl:∀ p q,p < d.n -> q < d.n -> d.nx p q (loV v x) < 64 /\ d.nx p q (hiV v x) < 64:=fun p q hp hq => ⟨Nat.lt_of_lt_of_le (hd.ok.hn _ _ _ hp hq hlo) hn64,Nat.lt_of_lt_of_le (hd.ok.hn _ _ _ hp hq hhi) hn64⟩
 have hmem:∀ s,s < 2 ^ d.n -> ∀ p ∈ mem64 s,p < d.n:=fun s hs p hp => zgu hs ((zbu _ _).1 hp).2
 have hres:setF d v l r x = orAll (mem64 l) (fun p ta => orAll (mem64 r) (setG d v x p) ta) 0:=rfl
 obtain ⟨lo,hlo'⟩:=zx (loV v x)
 obtain ⟨hi,hhi'⟩:=zx (hiV v x)
 rw [<- hlo'] at elo hlo
 rw [<- hhi'] at ehi hhi
 simp only [<- hlo',<- hhi'] at hNN
 have HLO:=zh hlo'; have HHI:=zh hhi'
 have HML:=zh hml; have HMR:=zh hmr; have HNN:=zh hNN; have HNL:=zh hnl; have HMEM:=zh hmem; have HRES:=zh hres
 have RD:=zh hD2.row; have RV:=zh hV2
 have HDL:=zh hl; have HDR:=zh hr
 obtain ⟨n,hnn⟩:=zx d.n
 obtain ⟨L,hLL⟩:=zx d.L
 rw [<- hnn] at RD HNN HNL HMEM HDL HDR hn64
 rw [<- hLL] at HNN hlo hhi
 have elo':bits .andNot .i64 (x:Int) ((2:Int) ^ v) = (lo:Int):=by rw [<- elo]; simp [Int.natCast_pow]
 have ehi':bits .or .i64 (x:Int) ((2:Int) ^ v) = (hi:Int):=by rw [<- ehi]; simp [Int.natCast_pow]
 clear hD hV hD2 hV2 hml hmr hN hNN hnl hmem hres hnn hLL hlo' hhi' hbw hd hl hr hx h64
 unfold sV
 go_enter Tryz.func161,Tryz.ntmps161
 obtain ⟨kl,hkl⟩:=zx ((mem64 l).length)
 have HKL:=zh hkl; clear hkl
 go_wp2_with (go_at_call 162; refine (HML.out _).mono ?_; rintro e w2 ⟨v2,rfl,hb2,ho2⟩; obtain ⟨A2,c2,rfl⟩:=VO.formN (n:=kl) ho2 (by rw [zad,zap,HKL.out]); have HB2:=zh hb2; have HO2:=zh ho2.n1; clear hb2 ho2)
 go_loopg [8,17] kl (fun gk q8 q17 wr => ∃ i:Nat,i <= kl /\ gk = kl - i /\ q17 = .int .i64 i /\ q8 = .int .u64 ((orAll ((mem64 l).take i) (fun p ta => orAll (mem64 r) (setG d v x p) ta) 0:Nat):Int) /\ Below W.heap.size W wr /\ N1 wr (.slice A2 kl c2) (oI (mem64 l)))
 case atStart => exact ⟨0,Nat.zero_le _,rfl,rfl,rfl,HB2.out,HO2.out⟩
 case round =>
  clear HB2 HO2
  obtain ⟨i,hi',rfl,rfl,rfl,hb,ho⟩:=hrel
  have HB:=zh hb; have HO:=zh ho
  obtain ⟨ta,hto⟩:=zx (orAll ((mem64 l).take i) (fun p ta => orAll (mem64 r) (setG d v x p) ta) 0)
  rw [<- hto]
  have HTO:=zh hto
  clear hb hto
  by_cases hlt:i < kl
  ·obtain ⟨p,hp⟩:∃ p,(mem64 l)[i]? = some p:=⟨(mem64 l)[i]'(by rw [<- HKL.out]; exact hlt),List.getElem?_eq_getElem _⟩
   obtain ⟨A3,c3',he3,h1,h2,h3⟩:=ho.open
   rw [zap,<- HKL.out] at he3 h1
   simp only [Value.slice.injEq,true_and] at he3
   obtain ⟨rfl,rfl⟩:=he3
   obtain ⟨b,o,rfl,hbl,hc⟩:=h3 i _ (oI_at hp)
   have hpn:=HMEM.out l HDL.out p (List.mem_of_getElem? hp)
   have HP:=zh hp
   clear ho h3 hp
   obtain ⟨kr,hkr⟩:=zx ((mem64 r).length)
   have HKR:=zh hkr; clear hkr
   go_wp2_with (go_at_call 162; refine (HMR.out _).mono ?_; rintro e w3 ⟨v3,rfl,hb3,ho3⟩; obtain ⟨A3,c3x,rfl⟩:=VO.formN (n:=kr) ho3 (by rw [zad,zap,HKR.out]); have HB3:=zh (HB.out.trans (hb3.mono HB.out.size)); have HO1:=zh (N1.below HO.out hb3 zn); have HO3:=zh ho3.n1; clear hb3 ho3)
   clear hc
   go_loopg [8,24] kr (fun gk q8 q24 wr => ∃ j:Nat,j <= kr /\ gk = kr - j /\ q24 = .int .i64 j /\ q8 = .int .u64 ((orAll ((mem64 r).take j) (setG d v x p) ta:Nat):Int) /\ Below W.heap.size W wr /\ N1 wr (.slice (some ⟨b,o,none⟩) kl c2) (oI (mem64 l)) /\ N1 wr (.slice A3 kr c3x) (oI (mem64 r)))
   case atStart => exact ⟨0,Nat.zero_le _,rfl,rfl,rfl,HB3.out,HO1.out,HO3.out⟩
   case round =>
    clear HB3 HO1 HO3 HB HO
    obtain ⟨j,hj',rfl,rfl,rfl,hb,ho1,ho⟩:=hrel
    obtain ⟨wi,hwi⟩:=zx wr
    subst hwi
    have HB:=zh hb; have HO1:=zh ho1; have HO:=zh ho
    obtain ⟨t2,ht2⟩:=zx (orAll ((mem64 r).take j) (setG d v x p) ta)
    rw [<- ht2]
    have HT2:=zh ht2
    clear hb ht2 ho1
    by_cases hlt2:j < kr
    ·obtain ⟨q,hq⟩:∃ q,(mem64 r)[j]? = some q:=⟨(mem64 r)[j]'(by rw [<- HKR.out]; exact hlt2),List.getElem?_eq_getElem _⟩
     obtain ⟨A5,c5,he5,g1,g2,g3⟩:=ho.open
     rw [zap,<- HKR.out] at he5 g1
     simp only [Value.slice.injEq,true_and] at he5
     obtain ⟨rfl,rfl⟩:=he5
     obtain ⟨b',o',rfl,hbl',hc'⟩:=g3 j _ (oI_at hq)
     have hqn:=HMEM.out r HDR.out q (List.mem_of_getElem? hq)
     have HQ:=zh hq
     clear ho g3 hq
     obtain ⟨x1,x2,x3,y1,y2,y3,k1,k2,k3,k4,k5,k6,k7,k8,k9⟩:=HNN.out p q hpn hqn
     obtain ⟨n1,n2⟩:=HNL.out p q hpn hqn
     have z0:=(RD.out.below HB.out RD.out.lt).cell
     have z1:=(RV.out.below HB.out RV.out.lt).cell
     rw [<- HB.out.cell (p:=⟨b3,_,none⟩) k1] at k2
     rw [<- HB.out.cell (p:=⟨x1,_,none⟩) k4] at k5
     rw [<- HB.out.cell (p:=⟨y1,_,none⟩) k7] at k8 k9
     rw [<- HLO.out] at n1
     rw [<- HHI.out] at n2
     obtain ⟨s1,hs1⟩:=zx (d.nx p q lo)
     obtain ⟨s2,hs2⟩:=zx (d.nx p q hi)
     rw [<- hs1] at k8 n1
     rw [<- hs2] at k9 n2
     have e1:=zj8 s1 n1
     have e2:=zj8 s2 n2
     have f1:2 ^ s1 < 2 ^ 64:=Nat.pow_lt_pow_right (by omega) n1
     have f2:2 ^ s2 < 2 ^ 64:=Nat.pow_lt_pow_right (by omega) n2
     obtain ⟨u1,hu1⟩:=zx (2 ^ s1)
     obtain ⟨u2,hu2⟩:=zx (2 ^ s2)
     rw [<- hu1] at e1 f1
     rw [<- hu2] at e2 f2
     have e3:=or_u64 u1 u2 f1 f2
     have ht64:t2 < 2 ^ 64:=by
      rw [HT2.out]
      refine zin _ _ _ (fun q' hq' t ht => ?_) _ ?_
      ·have hq2:=HMEM.out r HDR.out q' (List.mem_of_mem_take hq')
       exact zn1 (HNL.out p q' hpn hq2).1 (HNL.out p q' hpn hq2).2 ht
      ·rw [HTO.out]
       refine zin _ _ _ (fun p' hp' t ht => ?_) _ (by decide)
       have hp2:=HMEM.out l HDL.out p' (List.mem_of_mem_take hp')
       exact zin _ _ _ (fun q' hq' t ht => zn1 (HNL.out p' q' hp2 (HMEM.out r HDR.out q' hq')).1 (HNL.out p' q' hp2 (HMEM.out r HDR.out q' hq')).2 ht) _ ht
     have e4:=or_u64 t2 (u1 ||| u2) ht64 (Nat.or_lt_two_pow f1 f2)
     have HE:Hid (t2 ||| (u1 ||| u2) = setG d v x p q t2):=by unfold Hid setG; rw [hu1,hu2,hs1,hs2,HLO.out,HHI.out]
     obtain ⟨t3,ht3⟩:=zx (t2 ||| (u1 ||| u2))
     rw [<- ht3] at e4 HE
     obtain ⟨u3,hu3⟩:=zx (u1 ||| u2)
     rw [<- hu3] at e3 e4
     clear ht3 hs1 hs2 f1 f2 ht64 hu1 hu2 hu3
     go_upto_region 8 with fail
     go_quiet (fail)
     go_wp2_with fail
     go_roundg (kr - (j + 1))
     case rel =>
      refine ⟨j + 1,by omega,rfl,by go_num,?_,HB.out.trans ((zkp _ _).mono HB.out.size),N1.below HO1.out (zkp _ _) zn,N1.below HO.out (zkp _ _) zn⟩
      rw [zgd HQ.out,zhs,<- HT2.out,<- HE.out]
     case measure => omega
    ·have hje:j = kr:=by omega
     have hfull:t2 = orAll (mem64 r) (setG d v x p) ta:=by rw [HT2.out,hje,HKR.out,List.take_length]
     have HF:=zh hfull
     clear ho hfull
     go_wp2
     go_roundg (kl - (i + 1))
     case rel =>
      refine ⟨i + 1,by omega,rfl,by go_num,?_,HB.out,HO1.out⟩
      rw [zgd HP.out,zhs,<- HTO.out,HF.out]
     case measure => omega
  ·have hie:i = kl:=by omega
   have hfull:ta = setF d v l r x:=by rw [HTO.out,hie,HKL.out,List.take_length,HRES.out]
   have HF:=zh hfull
   clear ho hfull
   go_wp2
   go_returns
   exact ⟨by rw [HF.out]; rfl,HB.out⟩
end Go.Proofs.YthdabkmkgkkmcaaGreatDoor
namespace Go.Proofs.YthdabkmkgkkmcaaGreatDoor
open Go.RowKit
theorem zrs (d:Dta) (V:Nat) (hd:d.Fit V) (w0:World) (gD:Nat) (vn vf:Value) (hD:AutV w0 gD V d vn vf) (s:Nat) (hs:s < d.n) (W:World) (hbw:Below w0.heap.size w0 W) :
  Calls Tryz.prog 166 #[.int .i64 (s:Int),.pointer (some ⟨gD,0,none⟩)] W fun e W' => e = .returned (.bool (d.fin s)) /\ Below W.heap.size W W':=by
 have hD2:=hD.below hbw zn
 obtain ⟨bk,ok,ck,rfl,hk1,hbk,hk2⟩:=hD2.hf.at hd.pos
 have c0:=hk2 s hs
 have z0:=hD2.row.cell
 obtain ⟨q,hq⟩:=zx (d.fin s)
 rw [<- hq] at c0 ⊢
 obtain ⟨n,hnn⟩:=zx d.n
 rw [<- hnn] at hs hk1 z0
 clear hD hD2 hk2 hq hnn hd hbw
 go_enter Tryz.func166,Tryz.ntmps166
 go_wp2
 go_returns
 exact ⟨rfl,Below.refl _ _⟩
theorem zph (l:List Nat) (g:Nat -> Bool) (j1 v:Value) (w:World) (hv:N1 w v (oI l)) (hl:l.length <= 64) (hcb:∀ p ∈ l,∀ W,Below w.heap.size w W -> Calls Tryz.prog 166 #[.int .i64 (p:Int),j1] W fun e W' => e = .returned (.bool (g p)) /\ Below W.heap.size W W') :
  Calls Tryz.prog 181 #[v,.func (.func 166) #[] #[j1]] w fun e w' => ∃ k:Int,e = .returned (.int .i64 k) /\ (decide (0 <= k) = l.any g) /\ Below w.heap.size w w':=by
 obtain ⟨n,hn⟩:=zx l.length
 obtain ⟨A,c,rfl,h1,h2,h3⟩:=hv.open
 rw [zap,<- hn] at h1 hv ⊢
 have HV:=zh hv; have HN:=zh hn; have HCB:=zh hcb; have H3:=zh h3
 rw [<- hn] at hl
 clear hv hn hcb h3
 go_enter Tryz.func181,Tryz.ntmps181
 go_wp2
 go_loopg [8] n (fun gk q8 wr => ∃ i:Nat,i <= n /\ gk = n - i /\ q8 = .int .i64 i /\ Below w.heap.size w wr /\ (l.take i).any g = false)
 case atStart => exact ⟨0,Nat.zero_le _,rfl,rfl,Below.refl _ _,by simp⟩
 case round =>
  obtain ⟨i,hi,rfl,rfl,hb,ha⟩:=hrel
  have HB:=zh hb; have HA:=zh ha
  obtain ⟨wl,hwl⟩:=zx wr
  subst hwl
  clear hb ha
  by_cases hlt:i < n
  ·obtain ⟨p,hp⟩:∃ p,l[i]? = some p:=⟨l[i]'(by rw [<- HN.out]; exact hlt),List.getElem?_eq_getElem _⟩
   obtain ⟨b,o,rfl,hbl,hc⟩:=H3.out i _ (oI_at hp)
   rw [<- HB.out.cell (p:=⟨b,_,none⟩) hbl] at hc
   have hcb:=HCB.out p (List.mem_of_getElem? hp) wl HB.out
   have HP:=zh hp
   clear hp
   cases hg:g p with
   | false =>
    rw [hg] at hcb
    have HC:=zh hcb; have HG:=zh hg
    clear hcb hg
    go_wp2_with (go_at_call 166; refine HC.out.mono ?_; rintro e w2 ⟨rfl,hb2⟩; have HB2:=zh hb2; clear hb2)
    go_roundg (n - (i + 1))
    case rel => exact ⟨i + 1,by omega,rfl,by go_num,HB.out.trans (HB2.out.mono HB.out.size),by rw [zgd HP.out,List.any_append,HA.out]; simp [HG.out]⟩
    case measure => omega
   | true =>
    rw [hg] at hcb
    have HC:=zh hcb; have HG:=zh hg
    clear hcb hg
    go_wp2_with (go_at_call 166; refine HC.out.mono ?_; rintro e w2 ⟨rfl,hb2⟩; have HB2:=zh hb2; clear hb2)
    go_returns
    refine ⟨_,rfl,?_,HB.out.trans (HB2.out.mono HB.out.size)⟩
    have:l.any g = true:=List.any_eq_true.2 ⟨p,List.mem_of_getElem? HP.out,HG.out⟩
    rw [this,decide_eq_true_eq]; omega
  ·have hie:i = n:=by omega
   have hf:l.any g = false:=by have h:=HA.out; rw [hie,HN.out,List.take_length] at h; exact h
   have HF:=zh hf
   clear hf
   go_wp2
   go_returns
   exact ⟨_,rfl,by rw [HF.out]; decide,HB.out⟩
theorem znb (l:List Nat) (g:Nat -> Bool) (j1 v:Value) (w:World) (hv:N1 w v (oI l)) (hl:l.length <= 64) (hcb:∀ p ∈ l,∀ W,Below w.heap.size w W -> Calls Tryz.prog 166 #[.int .i64 (p:Int),j1] W fun e W' => e = .returned (.bool (g p)) /\ Below W.heap.size W W') :
  Calls Tryz.prog 165 #[v,.func (.func 166) #[] #[j1]] w fun e w' => e = .returned (.bool (l.any g)) /\ Below w.heap.size w w':=by
 have HI:=zh (zph l g j1 v w hv hl hcb)
 obtain ⟨q,hq⟩:=zx (l.any g)
 rw [<- hq] at HI ⊢
 obtain ⟨A,c,rfl,_⟩:=hv.open
 clear hv hl hcb hq
 go_enter Tryz.func165,Tryz.ntmps165
 go_wp2_with (go_at_call 181; refine HI.out.mono ?_; rintro e w2 ⟨k,rfl,hk,hb2⟩; have HB2:=zh hb2; have HK:=zh hk; clear hb2 hk)
 go_returns
 exact ⟨by rw [<- HK.out]; rfl,HB2.out⟩
theorem exists2 (d:Dta) (V:Nat) (hd:d.Fit V) (w0:World) (gD:Nat) (vn vf:Value) (hD:AutV w0 gD V d vn vf) (s:Nat) (hs:s < 2 ^ d.n) (W:World) (hbw:Below w0.heap.size w0 W) :
  Calls Tryz.prog 164 #[sV s,.pointer (some ⟨gD,0,none⟩)] W fun e W' => e = .returned (.bool (za7 d s)) /\ Below W.heap.size W W':=by
 have h64:2 ^ d.n <= 2 ^ 64:=Nat.pow_le_pow_right (by omega) hd.n64
 have hml:=zec s (Nat.lt_of_lt_of_le hs h64) W
 have hlen:(mem64 s).length <= 64:=by have:=zlg s 64; rw [zo6] at this; exact this
 have hc:=fun (v:Value) (W1:World) (h1:Below W.heap.size W W1) (hv:N1 W1 v (oI (mem64 s))) => znb (mem64 s) d.fin (.pointer (some ⟨gD,0,none⟩)) v W1 hv hlen (fun p hp W2 hb2 => zrs d V hd w0 gD vn vf hD p (zgu hs ((zbu _ _).1 hp).2) W2 (hbw.trans ((h1.trans (hb2.mono h1.size)).mono hbw.size)))
 have HML:=zh hml; have HC:=zh hc
 obtain ⟨kl,hkl⟩:=zx ((mem64 s).length)
 have HKL:=zh hkl
 have HR:=zh (show (mem64 s).any d.fin = za7 d s from rfl)
 obtain ⟨q,hq⟩:=zx (za7 d s)
 rw [<- hq] at HR ⊢
 rw [HR.out] at HC
 unfold sV
 clear hml hc hD hbw hs h64 hlen hkl hq hd
 go_enter Tryz.func164,Tryz.ntmps164
 go_wp2_with (first
  | (go_at_call 162; refine HML.out.mono ?_; rintro e w2 ⟨v2,rfl,hb2,ho2⟩; obtain ⟨A2,c2,rfl⟩:=VO.formN (n:=kl) ho2 (by rw [zad,zap,HKL.out]); have HB2:=zh hb2; have HO2:=zh ho2.n1; clear hb2 ho2)
  | (go_at_call 165; refine (HC.out _ _ HB2.out HO2.out).mono ?_; rintro e w3 ⟨rfl,hb3⟩; have HB3:=zh (HB2.out.trans (hb3.mono HB2.out.size)); clear hb3))
 go_returns
 exact ⟨rfl,HB3.out⟩
def exR (d:Dta) (v M V:Nat):Raw × Nat:=if (setO d v).length <= M then ((zb0 d v).raw V,0) else (zeroR,10)
structure ExV (w:World) (G V v:Nat) (d:Dta) (vn vf:Value) (W:World):Prop where
 below:Below G w W
 hd:AutV W G V d vn vf
 hv:Row W (G + 1) 3 #[.int .i64 (v:Int)]
 hr:Row W (G + 1 + 1) 30 #[.int .i64 0,.int .i64 0,.slice none 0 0,.slice none 0 0]
theorem ExV.to {w W W':World} {G V v:Nat} {d:Dta} {vn vf:Value} (h:ExV w G V v d vn vf W) (hb:Below W.heap.size W W') (hG:G <= W.heap.size):ExV w G V v d vn vf W' :=
 ⟨h.below.trans (hb.mono hG),h.hd.below hb zn,h.hv.below hb h.hv.lt,h.hr.below hb h.hr.lt⟩
theorem zpq (d:Dta) (V v M:Nat) (hd:d.Fit V) (hv:v < V) (hM1:1 <= M) (hM:M <= 64) (va:Value) (w:World) (hva:TD w va (d.raw V)) :
  Calls Tryz.prog 140 #[va,.int .i64 (v:Int),.int .i64 (M:Int)] w (RetR w (exR d v M V).1 (exR d v M V).2):=by
 have hck:=fun W (h:Below w.heap.size w W) => zc7 (d.raw V) va W (hva.below h zn) (by have:=hd.n64; rw [(d.raw_len V).1,(d.raw_len V).2]; omega)
 rw [d.raw_check hd] at hck
 have he64:d.e < 64:=Nat.lt_of_lt_of_le hd.ok.he hd.n64
 have hex:=fun (w0:World) (gD gv:Nat) (vn vf:Value) (hD:AutV w0 gD V d vn vf) (hV:Row w0 gv 3 #[.int .i64 (v:Int)]) =>
  (show Calls Tryz.prog 160 #[.int .i64 (V:Int),.int .i64 (M:Int),.int .u64 ((2 ^ d.e:Nat):Int),.func (.func 161) #[] #[.pointer (some ⟨gD,0,none⟩),.pointer (some ⟨gv,0,none⟩)]] w0 (ExRetS (setF d v) d.L (2 ^ d.e) (fun s => s < 2 ^ d.n) M w0) from
   zm7 (fun s => s < 2 ^ d.n) (fun p hp => Nat.lt_of_lt_of_le hp (Nat.pow_le_pow_right (by omega) hd.n64)) (setF d v) V d.L M hd.v3 hd.L hM1 hM (2 ^ d.e) (Nat.pow_lt_pow_right (by omega) hd.ok.he) _ _ w0 (exists1 d V v hd hv w0 gD gv vn vf hD hV) (zgn hd.ok hd.L hv))
 have hmi:=fun (w0:World) (gD:Nat) (vn vf:Value) (hD:AutV w0 gD V d vn vf) (o:List Nat) (hE:Expl (setF d v) d.L (2 ^ d.e) o) (hP:∀ p ∈ o,p < 2 ^ d.n) (hl:o.length <= 64) (B:Nat) (kv rv:Value)
   (hk:KO 51 1 w0 B kv (o.map sC)) (hr:N3 w0 rv (nx3 o.length d.L (autE (setF d v) d.L (2 ^ d.e) o (za7 d)).nx)) =>
  (show Calls Tryz.prog 163 #[.int .i64 (V:Int),kv,rv,.func (.func 164) #[] #[.pointer (some ⟨gD,0,none⟩)]] w0 (RetR w0 ((zb0 d v).raw V) 0) from by
   have h:=zo3 (autE (setF d v) d.L (2 ^ d.e) o (za7 d)) V ⟨hE.ok _,hl,hd.v3,hd.L⟩ rfl o rfl (fun s => s < 2 ^ d.n) hP (za7 d) (fun i p hi => by show za7 d (o.getD i (2 ^ d.e)) = _; rw [getD_some hi]) _ w0 (fun p W hp hbw => exists2 d V hd w0 gD vn vf hD p hp W hbw) B kv rv hk hr
   have e:=(zg5 hd.ok hd.L hv hE).raw (Dta.mini_ok (hE.ok _)) (zg5 hd.ok hd.L hv hE).L V
   rw [e] at h
   exact h)
 have hlen:=fun (o:List Nat) (hE:Expl (setF d v) d.L (2 ^ d.e) o) => (show o.length = (setO d v).length from hE.len_eq (zbs hd.ok hd.L hv))
 have hmost:=fun (ks:List Nat) (h1:ks.Nodup) (h2:∀ s ∈ ks,AccK (setF d v) d.L (2 ^ d.e) s) => (zbs hd.ok hd.L hv).most h1 h2
 have hsh:=zj8 d.e he64
 obtain ⟨vn,vf,rfl,hn,hf⟩:=hva
 have hvars:(d.raw V).vars = (V:Int):=rfl
 have hemp:(d.raw V).empty = (d.e:Int):=rfl
 rw [hvars,hemp] at hck ⊢
 obtain ⟨A1,c1,rfl,_⟩:=hn.open
 obtain ⟨A2,c2,rfl,_⟩:=hf.open
 rw [(d.raw_len V).1,(d.raw_len V).2] at hck
 rw [(d.raw_len V).1] at hn ⊢
 rw [(d.raw_len V).2] at hf ⊢
 have HN:=zh hn; have HF:=zh hf
 have HLEN:=zh hlen; have HMOST:=zh hmost; have HMI:=zh hmi
 obtain ⟨n,hnn⟩:=zx d.n
 obtain ⟨E,hE⟩:=zx d.e
 obtain ⟨K,hK⟩:=zx (2 ^ d.e)
 have HV1:=zh (fun (W:World) (gA:Nat) (h:Row W gA 30 #[.int .i64 (V:Int),.int .i64 (E:Int),.slice A1 n c1,.slice A2 n c2]) (hb:Below w.heap.size w W) => (show AutV W gA V d (.slice A1 d.n c1) (.slice A2 d.n c2) from ⟨by rw [<- hE,<- hnn]; exact h,HN.out.below hb zn,HF.out.below hb zn⟩))
 rw [<- hnn] at HV1
 have HV1':Hid (∀ (W:World) (gA:Nat),AutV W gA V d (.slice A1 n c1) (.slice A2 n c2) -> Row W gA 30 #[.int .i64 (V:Int),.int .i64 (E:Int),.slice A1 n c1,.slice A2 n c2]):=fun W gA h => by rw [hE]; exact h.row
 rw [<- hnn,<- hE] at hck
 rw [<- hK] at hex hsh
 rw [<- hE] at hsh he64
 rw [<- hE,<- hnn]
 have HCK:=zh hck; have HEX:=zh hex; have HKK:=zh hK; have HSH:=zh hsh
 clear hck hex hmi hlen hmost hn hf hvars hemp hnn hE hK HN HF hsh
 obtain ⟨R,hR⟩:=zx ((exR d v M V))
 have HRR:=zh hR
 rw [<- hR]
 clear hR
 have b1:¬ ((v:Int) < 0):=by omega
 have b2:¬ ((V:Int) <= (v:Int)):=by omega
 have b3:¬ ((M:Int) < 1):=by omega
 have b4:¬ ((64:Int) < (M:Int)):=by omega
 have b5:(v:Int) < (V:Int):=by omega
 have b6:(0:Int) <= (v:Int):=by omega
 go_enter Tryz.func140,Tryz.ntmps140
 go_upto_region 1 with fail
 refine zaa (ExV w w.heap.size V v d (.slice A1 n c1) (.slice A2 n c2))
  ⟨by go_grown,HV1.out _ _ (((Row.new _ _ _).alloc _).alloc _) (by go_grown),(Row.lit (by simp)).alloc _,Row.lit (by simp)⟩ ?_
 rintro W0 hp
 have HP:=zh hp
 have y0:=(HV1'.out _ _ hp.hd).cell
 clear hp
 go_upto_region 4 with (go_at_call 36; refine (HCK.out _ HP.out.below).mono ?_; rintro e w2 ⟨rfl,hb2⟩; have HP2:=zh (HP.out.to hb2 HP.out.below.size); clear hb2)
 clear HP y0
 have y0:=(HV1'.out _ _ HP2.out.hd).cell; have y1:=HP2.out.hv.cell
 have hsz:=HP2.out.below.size
 go_upto_region 8 with fail
 clear b1 b2 b3 b4 b5 b6
 have HEXP:=zh (HEX.out w2.drew w.heap.size (w.heap.size + 1) _ _ (HP2.out.to ((Below.refl _ _).drew) hsz).hd (HP2.out.to ((Below.refl _ _).drew) hsz).hv)
 clear HEX HCK
 have HP3:=zh (HP2.out.to ((Below.refl w2.heap.size w2).drew) hsz)
 have hsh2:=HSH.out
 first
 | go_region_held3 (fun W => W.cell? ⟨w.heap.size,0,none⟩ = some (.int .i64 (V:Int)) /\ W.cell? ⟨w.heap.size,1,none⟩ = some (.int .i64 (E:Int))) (first | exact ⟨y0 0,y0 1⟩ | exact ⟨HC3.out.1,HC3.out.2⟩) (first | (go_at_call 160; refine HEXP.out.mono ?_; intro e w3 h3; obtain ⟨kv,rv,bo,rfl,hb3,hcase⟩:=h3.out; have HB3:Hid (Below w2.heap.size w2 w3):=⟨hb3.os,hb3.tape,hb3.output,hb3.size,hb3.block⟩; have HCASE:=zh hcase; have HC3:=zh (show w3.cell? ⟨w.heap.size,0,none⟩ = some (.int .i64 (V:Int)) /\ w3.cell? ⟨w.heap.size,1,none⟩ = some (.int .i64 (E:Int)) from ⟨(HV1'.out _ _ (HP2.out.to HB3.out hsz).hd).cell 0,(HV1'.out _ _ (HP2.out.to HB3.out hsz).hd).cell 1⟩); clear h3 hb3 hcase))
 | fail
 have HP4:=zh (HP2.out.to HB3.out hsz)
 have y0:=(HV1'.out _ _ HP4.out.hd).cell
 have z0:=HP4.out.hr.cell; have z1:=HP4.out.hr.free
 have hsz4:=HP4.out.below.size
 rw [HKK.out] at HCASE
 clear HP2 HP3 HEXP HC3
 rcases HCASE.out with ⟨rfl,o,hEo,hPo,hlo,hko,hro⟩ | ⟨rfl,ks,hk1,hk2,hk3⟩
 ·have hok:R = ((zb0 d v).raw V,0):=by rw [HRR.out]; unfold exR; rw [if_pos (by rw [<- HLEN.out o hEo]; exact hlo)]
  have HMM:=zh (HMI.out w3 w.heap.size _ _ HP4.out.hd o hEo hPo (Nat.le_trans hlo hM) _ kv rv hko (hro (za7 d)).n3)
  have HOK:=zh hok
  obtain ⟨R2,hR2⟩:=zx ((zb0 d v).raw V)
  rw [<- hR2] at HMM
  have HR2:=zh hR2
  clear HCASE hEo hPo hlo hko hro hok hR2
  go_wp2_with (go_at_call 163; refine HMM.out.mono ?_; intro e w6 h6; obtain ⟨A6,c6,A7,c7,rfl,hb6,ht6⟩:=h6.unfold; have HT:=zh ht6; have HB6:=zh hb6; have RR6:=zh (HP4.out.hr.below hb6 HP4.out.hr.lt); have b0:=RR6.out.cell; have b1:=RR6.out.free; clear h6 hb6 ht6 y0 z0 z1)
  refine zah (fun W => Row W (w.heap.size + 1 + 1) 30 #[.int .i64 R2.vars,.int .i64 R2.empty,.slice A6 R2.next.length c6,.slice A7 R2.fin.length c7] /\ TDO W w3.heap.size (.agg #[.int .i64 R2.vars,.int .i64 R2.empty,.slice A6 R2.next.length c6,.slice A7 R2.fin.length c7]) R2 /\ Below w.heap.size w W)
   (zaz RR6.out HT.out (HP4.out.below.trans (HB6.out.mono hsz4)) (by omega)) ?_
  clear b0 b1 RR6 HT
  rintro W5 ⟨r0,hT,hb⟩
  have b0:=r0.cell
  have q0:=b0 0; have q1:=b0 1; have q2:=b0 2; have q3:=b0 3
  simp only [zg] at q0 q1 q2 q3
  have HT:=zh (hT.mono hsz4); have HBX:=zh hb
  clear b0 r0 hT hb
  exact bodyPost_ret (v:=.tuple #[.agg #[.int .i64 R2.vars,.int .i64 R2.empty,.slice A6 R2.next.length c6,.slice A7 R2.fin.length c7],.int .i64 0]) (by simp [results,Tryz.results140,go_sem,q0,q1,q2,q3]) rfl ⟨_,by rw [HOK.out]; rfl,HBX.out,by rw [HOK.out]; show TDO _ _ _ ((zb0 d v).raw V); rw [<- HR2.out]; exact HT.out⟩
 ·have hok:R = (zeroR,10):=by rw [HRR.out]; unfold exR; rw [if_neg (by have:=HMOST.out ks hk1 hk2; omega)]
  have HOK:=zh hok
  clear HCASE hk1 hk2 hk3 hok y0
  go_wp2
  refine zah (fun W => Row W (w.heap.size + 1 + 1) 30 #[.int .i64 0,.int .i64 0,.slice none 0 0,.slice none 0 0] /\ TDO W w3.heap.size zeroV zeroR /\ Below w.heap.size w W) (zaz HP4.out.hr (zdj _ _) HP4.out.below (by omega)) ?_
  clear z0 z1
  rintro W5 ⟨r0,hT,hb⟩
  have b0:=r0.cell
  have q0:=b0 0; have q1:=b0 1; have q2:=b0 2; have q3:=b0 3
  simp only [zg] at q0 q1 q2 q3
  have HB:=zh hb
  clear b0 r0 hT hb
  exact bodyPost_ret (v:=.tuple #[zeroV,.int .i64 10]) (by simp [results,Tryz.results140,go_sem,q0,q1,q2,q3,zeroV]) rfl ⟨_,by rw [HOK.out]; rfl,HB.out,by rw [HOK.out]; exact zdj _ _⟩
end Go.Proofs.YthdabkmkgkkmcaaGreatDoor
namespace Go.Proofs.YthdabkmkgkkmcaaGreatDoor
open Go.RowKit
end Go.Proofs.YthdabkmkgkkmcaaGreatDoor

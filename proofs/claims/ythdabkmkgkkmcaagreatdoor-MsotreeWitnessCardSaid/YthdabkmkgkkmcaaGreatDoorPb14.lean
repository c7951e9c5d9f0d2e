/- Part 14 of the proof; it says: lemmas and contracts. No conditions but those that each theorem states. -/
import Derived.Deep.RegionLaw
import Derived.Laws.EntriesVeiled
import Derived.Test.YthdabkmkgkkmcaaGreatDoorPb01
import Derived.Test.YthdabkmkgkkmcaaGreatDoorPb13
set_option linter.unusedSimpArgs false
set_option linter.unusedVariables false
set_option linter.unusedSectionVars false
set_option maxRecDepth 100000
set_option maxHeartbeats 32000000
namespace Go.Proofs.YthdabkmkgkkmcaaGreatDoor
open Go.RowKit
structure ExRetP (f:Nat × Nat -> Nat × Nat -> Nat -> Nat × Nat) (L:Nat) (k0:Nat × Nat) (P:Nat × Nat -> Prop) (M:Nat) (w:World) (e:Ending) (W':World):Prop where
 out:∃ kv rv b,e = .returned (.tuple #[kv,rv,.bool b]) /\ Below w.heap.size w W' /\ ((b = true /\ ∃ o,Expl f L k0 o /\ (∀ p ∈ o,P p) /\ o.length <= M /\ KO 146 2 W' w.heap.size kv (o.map pC) /\ ∀ fin,O3 W' w.heap.size rv (nx3 o.length L (autE f L k0 o fin).nx)) \/
    (b = false /\ ∃ ks:List (Nat × Nat),ks.Nodup /\ (∀ s ∈ ks,AccK f L k0 s) /\ M < ks.length))
theorem VO.ne_own {E E':TypeId} {W:World} {B B':Nat} {v u:Value} {l l':List Value} (h:VO E W B v l) (h':VO E' W B' u l') (hne:E ≠ E'):v.ownBlock = none \/ v.ownBlock ≠ u.ownBlock:=by
 rcases h'.2.2 with ⟨hv,_⟩ | ⟨g,cap,cur,hv,_,hg,_⟩
 ·rw [hv]
  cases hvo:v.ownBlock with
  | none => exact .inl rfl
  | some g => exact .inr (by simp [Value.ownBlock])
 ·rw [hv]
  exact .inr (fun e => h.ne_row (show Row W g E' cur from hg) hne e)
theorem KO.lit2 (W:World) (p:Nat × Nat):KO 146 2 (W.alloc (.cells #[.int .i64 (p.1:Int),.int .i64 (p.2:Int)] 146)) W.heap.size (.slice (some ⟨W.heap.size,0,none⟩) 1 1) [pC p] :=
 ⟨fun l hl => by simp at hl; subst hl; exact pC_one p,World.ownsRow_lit W #[.int .i64 (p.1:Int),.int .i64 (p.2:Int)] 1 zn (by simp only [maxLen]; omega) (by simp)⟩
theorem Row.same {w:World} {g:Nat} {E:TypeId} {u:Value} (h:Row w g E #[u]):w.setCell ⟨g,0,none⟩ u = w:=by
 unfold Row at h
 have e:(w.setCell ⟨g,0,none⟩ u).heap = w.heap:=by
  apply Array.ext_getElem?
  intro i
  by_cases hi:i = g
  ·subst hi
   have h2:=(show Row w i E #[u] from h).set 0 u
   unfold Row at h2
   rw [h2,h]; simp
  ·exact Below.heap_setCell w ⟨g,0,none⟩ u i hi
 cases w
 simp only [World.setCell] at e ⊢
 simp only [e]
theorem zla {rows:List Value} {k:Nat} {x z:Value} (hk:rows.length = k):(rows ++ [x]).set k z = rows ++ [z]:=by
 subst hk
 rw [List.set_append_right _ _ (by simp)]
 simp
abbrev TAp:TypeId:=195
abbrev TNp:TypeId:=147
theorem tyOKp:TyOK TAp TNp:=by constructor <;> decide
structure ExS (P:Nat × Nat -> Prop) (f:Nat × Nat -> Nat × Nat -> Nat -> Nat × Nat) (L:Nat) (k0:Nat × Nat) (V gv ga gx go gn bm:Nat) (j1 j2:Value) (w:World) (ks:List (Nat × Nat)) (rv:Value) (rows all:List Value) (m:Nat -> Nat) (W:World):Prop where
 ki:KsI f L k0 P ks
 ex:ExP w go gn bm ks W
 gr:GrB TAp TNp V gv ga gx go gn j1 j2 W
 vo:VO 37 W w.heap.size rv rows
 gl:GL f L ks W w.heap.size all m
section
variable {P:Nat × Nat -> Prop} {f:Nat × Nat -> Nat × Nat -> Nat -> Nat × Nat} {L:Nat} {k0:Nat × Nat} {V gv ga gx go gn bm:Nat} {j1 j2:Value} {w:World} {ks:List (Nat × Nat)} {rv:Value} {rows all:List Value} {m:Nat -> Nat} {W:World}
theorem ExS.congr {m':Nat -> Nat} (h:ExS P f L k0 V gv ga gx go gn bm j1 j2 w ks rv rows all m W) (e:∀ i,i < all.length -> m i = m' i):ExS P f L k0 V gv ga gx go gn bm j1 j2 w ks rv rows all m' W :=
 ⟨h.ki,h.ex,h.gr,h.vo,h.gl.congr e⟩
theorem ExS.call (hPk:∀ p,P p -> pOK p) (hV:V <= 3) (hL:L = 2 ^ V) (hnx:NextP P f L j1 j2 w) (hok:∀ a b x,P a -> P b -> x < L -> P (f a b x)) (h:ExS P f L k0 V gv ga gx go gn bm j1 j2 w ks rv rows all m W) {i r:Nat} {v:Value} {a b:Nat × Nat} (hv:all[i]? = some v) (ha:ks[i]? = some a) (hmr:m i = r) (hb:ks[r]? = some b) (hl:ks.length <= 4900) (hr:r <= 1000) :
  Calls Tryz.prog 134 #[v,.int .i64 (i:Int),.int .i64 (r:Int),.pointer (some ⟨gv,0,none⟩),.pointer (some ⟨ga,0,none⟩),.pointer (some ⟨gx,0,none⟩),.pointer (some ⟨go,0,none⟩)] W
   fun e W' => ∃ v' ks',e = .returned v' /\ ks <+: ks' /\ ks'.length <= ks.length + 8 /\ (∃ A c,v' = .slice A (r + 1) c) /\ ExS P f L k0 V gv ga gx go gn bm j1 j2 w ks' rv rows (all.set i v') (fun q => if q = i then r + 1 else m q) W':=by
 obtain ⟨a',ha',us,hus,huo,hue⟩:=h.gl.at' i v hv
 rw [ha] at ha'
 cases ha'
 rw [hmr] at hus
 have hL8:L <= 8:=by rw [hL]; exact Nat.pow_le_pow_right (by omega) hV
 refine (grow_P P hPk f V L hV hL j1 j2 w TAp TNp tyOKp gv ga gx go gn bm hnx hok ks h.ki.hP hl i r a b ha hb w.heap.size v us (by omega) W h.ex h.gr huo h.ex.below.size zn).mono ?_
 rintro e W' ⟨v',u,rfl,hvo,hu,hex,hk,ho⟩
 have hsz:=h.ex.below.size
 have hlen:=zit f a b ks L
 refine ⟨v',_,rfl,zbj f a b ks L,by omega,?_,h.ki.ksX hok (List.mem_of_getElem? ha) (List.mem_of_getElem? hb) zn,hex,?_,?_,?_⟩
 ·obtain ⟨A,c,e⟩:=VO.formN (n:=r + 1) hvo (by simp [hus])
  exact ⟨A,c,e⟩
 ·exact ⟨h.gr.rv.keepG hk (by decide) (by decide) (fun e => huo.ne_row h.gr.rv (by decide) e.symm),h.gr.ra.keepG hk (by decide) (by decide) (fun e => huo.ne_row h.gr.ra (by decide) e.symm),h.gr.rx.keepG hk (by decide) (by decide) (fun e => huo.ne_row h.gr.rx (by decide) e.symm)⟩
 ·exact h.vo.keepG hk (by decide) (by decide) (h.vo.ne_own huo (by decide))
 ·have hg:=h.gl.grow (v':=v') (by decide) (by decide) (by decide) (by decide) hv (zbj f a b ks L) hk ho ha (by
   rw [hmr]
   refine ⟨us ++ [u],by simp [hus],hvo,fun q x hx => ?_⟩
   by_cases hq:q < us.length
   ·rw [List.getElem?_append_left hq] at hx
    obtain ⟨c,l,h1,h2,h3⟩:=hue q x hx
    exact ⟨c,l,zar (zbj f a b ks L) h1,h2.mono (zbj f a b ks L),h3.keepG hk (by decide) (by decide) (huo.not_int (by decide))⟩
   ·have hlx:=(List.getElem?_eq_some_iff.1 hx).1
    simp at hlx
    have e:q = us.length:=by omega
    subst e
    simp at hx
    subst hx
    exact ⟨b,_,zar (zbj f a b ks L) (by rw [hus]; exact hb),Good.made ks a b,hu.mono hsz⟩)
  rw [hmr] at hg
  exact hg
theorem ExS.store {g n cap j:Nat} {u:Value} (h:ExS P f L k0 V gv ga gx go gn bm j1 j2 w ks (.slice (some ⟨g,0,none⟩) n cap) rows all m W) (hn:rows.length = n) (hp:0 < n) (hu:u.oneCell' = true) :
  ExS P f L k0 V gv ga gx go gn bm j1 j2 w ks (.slice (some ⟨g,0,none⟩) n cap) (rows.set j u) all m (W.setCell ⟨g,j,none⟩ u):=by
 obtain ⟨g',cap',cs,he,hg,hrow,_,_,_⟩:=h.vo.row (by omega)
 simp only [Value.slice.injEq,Option.some.injEq,Addr.mk.injEq,and_true] at he
 obtain ⟨rfl,_,_⟩:=he
 exact ⟨h.ki,h.ex.setRow hrow (by decide) (by decide) (by decide) hg j u,⟨h.gr.rv.far (Row.ne h.gr.rv hrow (by decide)) _,h.gr.ra.far (Row.ne h.gr.ra hrow (by decide)) _,h.gr.rx.far (Row.ne h.gr.rx hrow (by decide)) _⟩,zeb h.vo hn j u hu,
  h.gl.map (fun x l hx => hx.setFar (hx.ne_row hrow (by decide)) _) (fun x l hx => VO.setFar hx (hx.ne_row hrow (by decide)) _)⟩
theorem ExS.append {X:Obj} {w':World} {rv':Value} {rows':List Value} (h:ExS P f L k0 V gv ga gx go gn bm j1 j2 w ks rv rows all m W) (hg:(W.alloc X).grownBy w' rv.ownBlock) (ho:VO 37 w' w.heap.size rv' rows') :
  ExS P f L k0 V gv ga gx go gn bm j1 j2 w ks rv' rows' all m w':=by
 have hv:=h.vo.allocd X
 exact ⟨h.ki,h.ex.far hg hv (by decide) (by decide) (by decide) zn,⟨(h.gr.rv.alloc X).far_own (by decide) hv.2 hg,(h.gr.ra.alloc X).far_own (by decide) hv.2 hg,(h.gr.rx.alloc X).far_own (by decide) hv.2 hg⟩,ho,
  h.gl.map (fun x l hx => (hx.allocd X).far (by decide) hv.2 hg) (fun x l hx => VO.far (VO.allocd hx X) (by decide) hv.2 hg)⟩
end
theorem zm8 (P:Nat × Nat -> Prop) (hPk:∀ p,P p -> pOK p) (f:Nat × Nat -> Nat × Nat -> Nat -> Nat × Nat) (V L M:Nat) (hV:V <= 3) (hL:L = 2 ^ V) (hM1:1 <= M) (hM:M <= 64) (k0:Nat × Nat) (hk0:P k0) (j1 j2:Value) (w:World) (hnx:NextP P f L j1 j2 w) (hok:∀ a b x,P a -> P b -> x < L -> P (f a b x)) :
  Calls Tryz.prog 94 #[.int .i64 (V:Int),.int .i64 (M:Int),pV k0,.func (.func 95) #[] #[j1,j2]] w
   (ExRetP f L k0 P M w):=by
 have hkey:=zli k0 (hPk _ hk0)
 have HK0:=zh (KsI.start (f:=f) (L:=L) hk0)
 have HNX:=zh hnx; have HOK:=zh hok; have HPK:=zh hPk
 unfold pV at hkey ⊢
 have HKEY:=zh hkey
 have HL:=zh hL
 clear hkey hnx hok hPk hL
 go_enter Tryz.func94,Tryz.ntmps94
 have hmm:=@run_makeMap Tryz.prog
 go_upto_region 1 with fail
 refine zaa (fun W => Below w.heap.size w W /\ Row W w.heap.size 3 #[.int .i64 (V:Int)] /\ Row W (w.heap.size + 1) 146 #[.int .i64 (k0.1:Int),.int .i64 (k0.2:Int)] /\ Row W (w.heap.size + 1 + 1) 147 #[.func (.func 95) #[] #[j1,j2]] /\ Row W (w.heap.size + 1 + 1 + 1) 142 #[.slice none 0 0])
  ⟨by go_grown,(((Row.new _ _ _).alloc _).alloc _).alloc _,((Row.lit (by simp)).alloc _).alloc _,(Row.lit (by simp)).alloc _,Row.lit (by simp)⟩ ?_
 rintro W ⟨hb,r1,r2,r3,r4⟩
 generalize hgo:w.heap.size + 1 + 1 + 1 = go at *
 generalize hgx:w.heap.size + 1 + 1 = gx at *
 generalize hgk:w.heap.size + 1 = gk at *
 have hgos:w.heap.size <= go:=by omega
 have hgxs:w.heap.size <= gx:=by omega
 have hgks:w.heap.size <= gk:=by omega
 obtain ⟨gv,hgv⟩:=zx w.heap.size
 rw [<- hgv] at r1 ⊢
 have hgvs:w.heap.size <= gv:=by omega
 clear hgo hgx hgk hgv
 have z2:=r2.cell; have z2':=fun X => (r2.alloc X).cell; have zk:=r2.lt
 have HB:=zh hb; have R1:=zh r1; have R2:=zh r2; have R3:=zh r3; have R4:=zh r4
 clear hb r1 r2 r3 r4
 go_upto_region 2 with (refine zaw (ks:=([]:List (Nat × Nat))) zpc zd1 rfl (.tmp 17) (.tmp 18) _ _ (.inr rfl) zem rfl (NM.new rfl) (by simp) k0 (by simp) _ rfl HKEY.out rfl ?_; intro w1 hm1 hg1; have HM1:=zh hm1; have HG1:=zh hg1; clear hm1 hg1 z2 z2')
 refine zaa (fun X => Below w.heap.size w X /\ Row X gv 3 #[.int .i64 (V:Int)] /\ Row X gk 146 #[.int .i64 (k0.1:Int),.int .i64 (k0.2:Int)] /\ Row X gx 147 #[.func (.func 95) #[] #[j1,j2]] /\ Row X go 142 #[.slice none 0 0] /\ Row X w1.heap.size 194 #[.map (some W.heap.size)] /\ NM 146 pL X W.heap.size [k0] /\ w.heap.size <= W.heap.size /\ w.heap.size <= w1.heap.size)
  (by
   have g1:=HG1.out; have s1:=g1.size; have s0:=HB.out.size
   simp only [World.size_alloc] at s1
   have l1:=R1.out.lt; have l2:=R2.out.lt; have l3:=R3.out.lt; have l4:=R4.out.lt
   have ne:∀ g,g < W.heap.size -> some g ≠ some W.heap.size:=fun g h e => by cases e; omega
   refine ⟨Below.alloc (Below.grown (Below.alloc HB.out s0 _) g1 (by simp only [World.size_alloc]; omega) (fun k hk => by cases hk; exact s0)) (by omega) _,((R1.out.alloc _).grown g1 (by exact ne _ l1)).alloc _,((R2.out.alloc _).grown g1 (by exact ne _ l2)).alloc _,((R3.out.alloc _).grown g1 (by exact ne _ l3)).alloc _,((R4.out.alloc _).grown g1 (by exact ne _ l4)).alloc _,Row.new _ _ _,HM1.out.alloc _,s0,by omega⟩) ?_
 clear HB R1 R2 R3 R4 HM1 HG1 zk
 generalize W.heap.size = bm
 generalize w1.heap.size = gn
 clear W w1
 rintro W ⟨hb,r1,r2,r3,r4,r5,hm,hbms,hgns⟩
 have z2:=r2.cell; have z2':=fun X => (r2.alloc X).cell; have z4:=r4.cell; have z4':=fun X => (r4.alloc X).cell; have z4f:=r4.free; have z4f':=fun X => (r4.alloc X).free
 have HB:=zh hb; have R1:=zh r1; have R2:=zh r2; have R3:=zh r3; have R4:=zh r4; have R5:=zh r5; have HM:=zh hm
 clear hb r1 r2 r3 r4 r5 hm
 go_upto_region 3 with fail
 refine zaa (fun X => ExP w go gn bm [k0] X /\ Row X gv 3 #[.int .i64 (V:Int)] /\ Row X gx 147 #[.func (.func 95) #[] #[j1,j2]])
  (by
   have s0:=HB.out.size
   have ra:=R4.out.alloc (.cells #[.int .i64 (k0.1:Int),.int .i64 (k0.2:Int)] 146)
   refine ⟨⟨(Below.alloc HB.out s0 _).setCell (p:=⟨go,0,none⟩) hgos _,(R5.out.alloc _).far (Row.ne (R5.out.alloc _) ra (by decide)) _,(HM.out.alloc _).setCell (fun e => (HM.out.alloc _).ne_row ra e) _,⟨_,ra.set 0 _,(KO.lit2 W k0).mono s0 |>.setFar ra (by decide) 0 _⟩,hgos,hgns,hbms⟩,(R1.out.alloc _).far (Row.ne (R1.out.alloc _) ra (by decide)) _,(R3.out.alloc _).far (Row.ne (R3.out.alloc _) ra (by decide)) _⟩) ?_
 clear HB R1 R2 R3 R4 R5 HM z2 z2' z4 z4' z4f z4f'
 generalize W.heap.size = gz
 rintro X ⟨hex,r1,r3⟩
 clear W
 have HEX:=zh hex; have R1:=zh r1; have R3:=zh r3
 clear hex r1 r3
 go_upto_region 4 with fail
 have hsz:=HEX.out.below.size
 refine zaa (fun W => ExP w go gn bm [k0] W /\ GrB 195 147 V gv X.heap.size gx go gn j1 j2 W) ⟨HEX.out.keep (by go_grown),⟨R1.out.alloc _,Row.new _ _ _,R3.out.alloc _⟩⟩ ?_
 clear HEX R1 R3
 generalize X.heap.size = ga at *
 rintro W ⟨hex,hgr⟩
 clear X
 have HEX:=zh hex; have HGR:=zh hgr
 have htt:TyOK 195 147:=by constructor <;> decide
 clear hex hgr
 go_wp2
 go_loopg [9,14] (M + 1) (fun gk q9 q14 wr => ∃ (k:Nat) (ks:List (Nat × Nat)) (vals:List Value),gk = M + 1 - k /\ q14 = .int .i64 (k:Int) /\ k <= ks.length /\ ks.length <= M /\ vals.length = k /\ ExS P f L k0 V gv ga gx go gn bm j1 j2 w ks q9 vals vals (fun _ => k) wr)
 case atStart => exact ⟨0,[k0],[],rfl,rfl,Nat.zero_le _,hM1,rfl,⟨HK0.out,HEX.out,HGR.out,VO.nil _ _ _,⟨fun i v h => by simp at h,fun i j v u _ h _ => by simp at h⟩⟩⟩
 case round =>
  clear HK0 HEX HGR
  obtain ⟨k,ks,vals,rfl,rfl,hkl,hkM,hvl,hs⟩:=hrel
  have HS:=zh hs
  obtain ⟨ov,ho1,ho2⟩:=hs.ex.ro
  obtain ⟨m,hm⟩:=zx ks.length
  obtain ⟨Ao,co,rfl⟩:=ho2.form (n:=m) (by rw [List.length_map,hm])
  obtain ⟨Ar,cr,rfl⟩:=VO.formN (n:=k) hs.vo hvl
  have z4:=ho1.cell
  have HML:=zh hm; have HVL:=zh hvl
  rw [<- hm] at hkl hkM
  by_cases hlt:k < m
  ·have hs0:ExS P f L k0 V gv ga gx go gn bm j1 j2 w ks (.slice Ar k cr) vals (vals ++ [.slice none 0 0]) (fun r => if r < 0 then k + 1 else if r < k then k else 0) wr:=by
    have hg:=hs.gl.snoc (a:=ks[k]'(by omega)) (by rw [hvl]; exact List.getElem?_eq_getElem _)
    exact ⟨hs.ki,hs.ex,hs.gr,hs.vo,hg.congr fun r _ => by rw [hvl]; simp⟩
   have HS0:=zh hs0
   clear hs ho1 ho2 hm hvl hs0
   go_wp2
   clear z4
   go_loopg [15,31] k (fun gk q15 q31 wr => ∃ (j:Nat) (ks':List (Nat × Nat)) (rows:List Value) (qv:Value),j <= k /\ gk = k - j /\ q15 = qv /\ q31 = .int .i64 (j:Int) /\ ks <+: ks' /\ ks'.length <= M + 16 * j /\ rows.length = k /\ ExS P f L k0 V gv ga gx go gn bm j1 j2 w ks' (.slice Ar k cr) rows (rows ++ [qv]) (fun r => if r < j then k + 1 else if r < k then k else j) wr)
   case atStart => exact ⟨0,ks,vals,_,Nat.zero_le _,rfl,rfl,rfl,List.prefix_refl _,by rw [<- HML.out]; omega,HVL.out,HS0.out⟩
   case round =>
    clear HS0 HS
    obtain ⟨j,ks',rows,qv,hj,rfl,hqv,rfl,hpre,hlen,hrl,hs⟩:=hrel
    have hpl:=hpre.length_le
    rw [<- HML.out] at hpl
    have hqk:(rows ++ [qv])[k]? = some qv:=by rw [List.getElem?_append_right (by omega),hrl]; simp
    obtain ⟨Aq,cq,rfl⟩:∃ A c,qv = .slice A j c:=by
     obtain ⟨_,_,us,h1,h2,_⟩:=hs.gl.at' k _ hqk
     rw [if_neg (by omega),if_neg (by omega)] at h1
     exact VO.formN h2 h1
    subst hqv
    obtain ⟨bk,hak⟩:∃ b,ks'[k]? = some b:=⟨ks'[k]'(by omega),List.getElem?_eq_getElem _⟩
    have HS:=zh hs; have HPRE:=zh hpre; have HRL:=zh hrl
    have HQK:=zh hqk; have HAK:=zh hak
    by_cases hjk:j < k
    ·obtain ⟨g3,cap3,cs3,he,hg3,hrow3,hc1,hc2,hcell3⟩:=hs.vo.row (by omega)
     rw [hrl] at he hc1
     simp only [Value.slice.injEq,true_and] at he
     obtain ⟨rfl,rfl⟩:=he
     have hvj:(rows ++ [Value.slice Aq j cq])[j]? = some (rows[j]'(by omega)):=by rw [List.getElem?_append_left (by omega)]; exact List.getElem?_eq_getElem _
     have hcj:=hcell3 j _ (List.getElem?_eq_getElem (by omega))
     generalize rows[j]'(by omega) = v1 at hvj hcj
     obtain ⟨A1,c1,rfl⟩:∃ A c,v1 = .slice A k c:=by
      obtain ⟨_,_,us,h1,h2,_⟩:=hs.gl.at' j _ hvj
      rw [if_neg (by omega),if_pos (by omega)] at h1
      exact VO.formN h2 h1
     obtain ⟨bj,haj⟩:∃ b,ks'[j]? = some b:=⟨ks'[j]'(by omega),List.getElem?_eq_getElem _⟩
     have hc:=ExS.call HPK.out hV HL.out HNX.out HOK.out hs hvj haj (r:=k) (by rw [if_neg (by omega),if_pos (by omega)]) hak (by omega) (by omega)
     have HC:=zh hc; have HAJ:=zh haj
     clear hs hpre hrl hqk hak hvj haj hc hcell3 hrow3
     go_upto_region 13 with (go_at_call 134; refine HC.out.mono ?_; rintro e w3 ⟨v3,k3,rfl,hp3,hl3,⟨A3,c3,rfl⟩,hs3⟩; have HS3:=zh hs3; have HP3:=zh hp3; have HL3:=zh hl3; obtain ⟨g4,cap4,cs4,he,_,hrow4,_,_,hcell4⟩:=hs3.vo.row (by have:=HRL.out; omega); simp only [Value.slice.injEq,Option.some.injEq,Addr.mk.injEq,and_true] at he; obtain ⟨rfl,hx,rfl⟩:=he; clear hx; have z5:=hcell4 j _ (List.getElem?_eq_getElem (by have:=HRL.out; omega)); have z6:=hrow4.free; clear hs3 hp3 hl3 hrow4 hcell4)
     refine zaa (fun W => ExS P f L k0 V gv ga gx go gn bm j1 j2 w k3 (.slice (some ⟨g3,0,none⟩) k cr) (rows.set j (.slice A3 (k + 1) c3)) (rows.set j (.slice A3 (k + 1) c3) ++ [.slice Aq j cq]) (fun r => if r = j then k + 1 else if r < j then k + 1 else if r < k then k else j) W)
      (by
       have h:=HS3.out.store (j:=j) (u:=.slice A3 (k + 1) c3) HRL.out (by omega) rfl
       rw [List.set_append_left _ _ (by have:=HRL.out; omega)] at h
       exact h) ?_
     intro W4 hs4
     clear HS HC HS3 z5 z6 hcj
     have hrl4:(rows.set j (.slice A3 (k + 1) c3)).length = k:=by rw [List.length_set]; exact HRL.out
     generalize rows.set j (.slice A3 (k + 1) c3) = rows4 at *
     have hqk4:(rows4 ++ [Value.slice Aq j cq])[k]? = some (.slice Aq j cq):=by rw [List.getElem?_append_right (by omega),hrl4]; simp
     have hc:=ExS.call HPK.out hV HL.out HNX.out HOK.out hs4 hqk4 (zar HP3.out HAK.out) (r:=j) (by rw [if_neg (by omega),if_neg (by omega),if_neg (by omega)]) (zar HP3.out HAJ.out) (by have:=HL3.out; omega) (by omega)
     have HC:=zh hc; have HRL4:=zh hrl4
     clear hs4 hqk4 hc hrl4
     go_wp2_with (go_at_call 134; refine HC.out.mono ?_; rintro e w5 ⟨v5,k5,rfl,hp5,hl5,⟨A5,c5,rfl⟩,hs5⟩; have HS5:=zh hs5; have HP5:=zh hp5; have HL5:=zh hl5; clear hs5 hp5 hl5)
     go_roundg (k - (j + 1))
     case rel =>
      refine ⟨j + 1,k5,rows4,.slice A5 (j + 1) c5,by omega,rfl,rfl,by go_num,HPRE.out.trans (HP3.out.trans HP5.out),by have:=HL3.out; have:=HL5.out; omega,HRL4.out,?_⟩
      have h:=HS5.out
      rw [List.set_append_right _ _ (by have:=HRL4.out; omega),show k - rows4.length = 0 by have:=HRL4.out; omega,List.set_cons_zero] at h
      refine h.congr fun r hr => ?_
      simp only [List.length_append,List.length_cons,List.length_nil,HRL4.out] at hr
      by_cases e1:r = k
      ·rw [if_pos e1,if_neg (by omega),if_neg (by omega)]
      ·rw [if_neg e1]
       by_cases e2:r = j
       ·rw [if_pos e2,if_pos (by omega)]
       ·rw [if_neg e2]
        by_cases e3:r < j
        ·rw [if_pos e3,if_pos (by omega)]
        ·have hrk:r < k:=by omega
         rw [if_neg e3,if_pos hrk,if_neg (show ¬ r < j + 1 by omega),if_pos hrk]
     case measure => omega
    ·have hjk':j = k:=by omega
     clear hjk
     subst hjk'
     have hc:=ExS.call HPK.out hV HL.out HNX.out HOK.out HS.out HQK.out HAK.out (r:=j) (by rw [if_neg (by omega),if_neg (by omega)]) HAK.out (by omega) (by omega)
     have HC:=zh hc
     clear hs hpre hrl hqk hak hc
     go_upto_region 16 with (first
      | (go_at_call 134; refine HC.out.mono ?_; rintro e w2 ⟨v',ks2,rfl,hp2,hl2,⟨A2,c2,rfl⟩,hs2⟩; have HS3:=zh hs2; have HP2:=zh hp2; have HL2:=zh hl2; clear hs2 hp2 hl2; try go_simp)
      | (at_builtin; refine zac eIII rfl (.tmp 51) (.tmp 57) rfl w.heap.size _ _ rfl (VO.allocd HS3.out.vo _) _ [.slice A2 (j + 1) c2] rfl (VS.one (Row.new _ _ _)) (by intro u hu; simp at hu; subst hu; rfl) (by rw [HRL.out]; simp; omega) (by simp only [World.size_alloc]; have:=HS3.out.ex.below.size; omega) ?_; intro v7 w7 ho7 hg7 _; have HS7:=zh (HS3.out.append hg7 ho7); obtain ⟨A7,c7,rfl⟩:=VO.formN (n:=j + 1) ho7 (by rw [List.length_append,HRL.out]; rfl); clear ho7 hg7))
     have HS8:=zh (show ExS P f L k0 V gv ga gx go gn bm j1 j2 w ks2 (.slice A7 (j + 1) c7) (rows ++ [.slice A2 (j + 1) c2]) (rows ++ [.slice A2 (j + 1) c2]) (fun _ => j + 1) w7 from by
      have h:=HS7.out
      rw [zla HRL.out] at h
      refine h.congr fun i hi => ?_
      simp only [List.length_append,HRL.out,List.length_singleton] at hi
      by_cases e1:i = j
      ·rw [if_pos e1]
      ·rw [if_neg e1,if_pos (by omega)])
     clear HS7 HS3 HC HS
     obtain ⟨m4,hm4⟩:=zx ks2.length
     obtain ⟨ov4,hr4,hk4⟩:=HS8.out.ex.ro
     obtain ⟨A4,c4,rfl⟩:=hk4.form (n:=m4) (by rw [List.length_map,hm4])
     have z4:=hr4.cell; have z5:=hr4.free
     have HM4:=zh hm4; have HK4:=zh hk4; have HR4:=zh hr4
     have hp2l:=HP2.out.length_le
     clear hk4 hm4 hr4
     by_cases hM4:M < m4
     ·go_wp2
      refine zah (fun W => Row W go 142 #[.slice none 0 0] /\ Below w.heap.size w W) ⟨HR4.out.set 0 _,HS8.out.ex.below.setCell (p:=⟨go,0,none⟩) hgos _⟩ ?_
      clear z4 z5
      rintro W5 ⟨r0,hb5⟩
      have q0:=r0.cell 0
      simp only [List.getElem?_toArray,List.getElem?_cons_zero] at q0
      have HB5:=zh hb5
      clear r0 hb5
      exact bodyPost_ret (v:=.tuple #[.slice none 0 0,.slice none 0 0,.bool false]) (by simp [results,Tryz.results94,go_sem,q0]) rfl ⟨⟨_,_,_,rfl,HB5.out,.inr ⟨rfl,ks2,HS8.out.ki.nodup,HS8.out.ki.acc,by rw [<- HM4.out]; exact hM4⟩⟩⟩
     ·clear z5
      go_wp2
      go_roundg (M + 1 - (j + 1))
      case rel => exact ⟨j + 1,ks2,_,rfl,by go_num,by omega,by have:=HM4.out; omega,by rw [List.length_append,HRL.out]; rfl,HS8.out⟩
      case measure => omega
  ·have hkm2:k = m:=by omega
   have HO1:=zh ho1; have HO2:=zh ho2
   have z5:=ho1.free
   clear hs ho1 ho2 hm hvl
   go_wp2
   rw [HO1.out.same]
   have q0:=z4 0
   simp only [List.getElem?_toArray,List.getElem?_cons_zero] at q0
   have hcl:=HS.out.gl.closed (by rw [HVL.out,hkm2,HML.out]) (fun i hi => by rw [hkm2,HML.out])
   have hE:Expl f L k0 ks:=⟨HS.out.ki.nodup,HS.out.ki.zero,HS.out.ki.acc,hcl⟩
   clear z4 z5
   exact bodyPost_ret (v:=.tuple #[.slice Ao m co,.slice Ar k cr,.bool true]) (by simp [results,Tryz.results94,go_sem,q0]) rfl ⟨⟨_,_,_,rfl,HS.out.ex.below,.inl ⟨rfl,ks,hE,HS.out.ki.hP,by rw [<- HML.out]; exact hkM,HO2.out,fun fin => HS.out.gl.n3 (by rw [HVL.out,hkm2,HML.out]) (fun i hi => by rw [hkm2,HML.out]) HS.out.ki.nodup HS.out.vo fin⟩⟩⟩
end Go.Proofs.YthdabkmkgkkmcaaGreatDoor

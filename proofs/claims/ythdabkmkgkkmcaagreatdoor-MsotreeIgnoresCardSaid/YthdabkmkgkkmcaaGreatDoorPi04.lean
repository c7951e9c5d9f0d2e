/- Part 4 of the proof; it says: lemmas and contracts. No conditions but those that each theorem states. -/
import Derived.Test.YthdabkmkgkkmcaaGreatDoorPb26
import Derived.Test.YthdabkmkgkkmcaaGreatDoorPb01
import Derived.Test.YthdabkmkgkkmcaaGreatDoorPb03
import Derived.Test.YthdabkmkgkkmcaaGreatDoorPb04
import Derived.Test.YthdabkmkgkkmcaaGreatDoorPb25
import Derived.Test.YthdabkmkgkkmcaaGreatDoorPb02
import Derived.Test.YthdabkmkgkkmcaaGreatDoorPi01
import Derived.Test.YthdabkmkgkkmcaaGreatDoorPi03
set_option linter.unusedSimpArgs false
set_option linter.unusedVariables false
set_option maxRecDepth 100000
set_option maxHeartbeats 32000000
namespace Go.Proofs.YthdabkmkgkkmcaaGreatDoor
open Go.RowKit
def Done (S:Nat -> Prop) (w:World) (I:World -> Prop) (e:Ending) (w':World):Prop:=e = .returned (.tuple #[]) /\ Keep S w w' /\ I w'
theorem zsw {σ:Type} (k1 k2:Value) (S:Nat -> Prop) (f:List Mk) (v:Value) (step:Nat -> List Int -> σ -> σ) (I:σ -> World -> Prop)
  (hS:Away S v) (hI:∀ s W W',I s W -> Below W.heap.size W W' -> I s W') (hIS:∀ s W,I s W -> ∀ b,S b -> b < W.heap.size)
  (hatom:∀ (j:Nat) (m:Mk) (ab:List Int) (abv:Value) (s:σ) (W:World),f[j]? = some m -> zes m.op m.x m.y -> MS W v f -> IS W abv ab -> Away S abv -> I s W ->
   Calls Tryz.prog 48 #[.int .i64 j,abv,k1,k2] W (Done S W (I (step j ab s)))) :
  ∀ (t:Tr) (p i:Nat) (ab:List Int) (abv:Value) (s:σ) (w:World),t.ok -> i + 1 = p + t.size -> i < 64 -> f.length <= 64 -> (∀ j,j < t.size -> f[p + j]? = (t.enc p)[j]?) -> MS w v f -> IS w abv ab -> Away S abv -> ab.length + t.size <= 100 -> I s w ->
   Calls Tryz.prog 47 #[v,.int .i64 i,abv,.func (.func 48) #[] #[k1,k2]] w (Done S w (I (trav step p ab t s))):=by
 intro t
 have HAT:=zh hatom; clear hatom
 have HI:=zh hI; clear hI
 have HIS:=zh hIS; clear hIS
 have HSS:=zh hS; clear hS
 have hfd:=zbw
 induction t with
 | leaf op x y =>
  intro p i ab abv s w hok hi h64 hfl hseg hv hab haw hlen hs
  have hip:i = p:=by simp [Tr.size] at hi; omega
  subst hip
  have hm:f[i]? = some ⟨op,x,y,0,0⟩:=by have:=hseg 0 (by simp [Tr.size]); simpa [Tr.enc] using this
  clear hseg hi
  have HV:=zh hv
  obtain ⟨hop,A,c,rfl,hc,hc2,hcell⟩:=hv
  have hil:i < f.length:=(List.getElem?_eq_some_iff.1 hm).1
  obtain ⟨b,o,rfl,hb,hcell⟩:=hcell (by omega)
  obtain ⟨c0,c1,c2,c3,c4⟩:=hcell i _ hm
  obtain ⟨m1,m2⟩:=hop _ (List.mem_of_getElem? hm)
  simp only at c0 c1 c2 c3 c4 m1 m2
  clear hcell hop
  have hnc:nc op = 0:=hok.2.1
  have HM:=zh hm; clear hm
  have HOK:=zh hok; clear hok
  have HAB:=zh hab; clear hab
  have HAW:=zh haw; clear haw
  have HS:=zh hs; clear hs
  go_enter Tryz.func47,Tryz.ntmps47
  go_wp2_with (first
   | (go_at_call 88; go_must (refine (zaj _ _ m1 m2).mono ?_; rintro e w2 ⟨rfl,hb2⟩; rw [hnc]; obtain ⟨x0,x1,hz1,HB2⟩:=za9 hb2; clear hb2))
   | (go_at_call 48; go_must (refine (HAT.out i _ ab abv s _ HM.out HOK.out (HV.out.below HB2.out zn) (HAB.out.below HB2.out zn) HAW.out (HI.out _ _ _ HS.out HB2.out)).mono ?_; rintro e w3 ⟨rfl,hk3,hs3⟩)))
  go_returns
  exact ⟨rfl,(Keep.of_below HB2.out zn).trans hk3,hs3⟩
 | un op x a ih =>
  intro p i ab abv s w hok hi h64 hfl hseg hv hab haw hlen hs
  have hip:i = p + a.size:=by simp [Tr.size] at hi; omega
  have hpos:=a.size_pos
  have hm:f[i]? = some ⟨op,x,0,((p + a.size - 1:Nat):Int),0⟩:=by
   have:=hseg a.size (by simp [Tr.size])
   rw [hip,this,Tr.enc,List.getElem?_append_right (by rw [Tr.enc_len]; exact zn),Tr.enc_len]; simp
  have hsega:∀ j,j < a.size -> f[p + j]? = (a.enc p)[j]?:=fun j hj => by
   rw [hseg j (by simp [Tr.size]; omega),Tr.enc,List.getElem?_append_left (by rw [Tr.enc_len]; exact hj)]
  clear hseg
  have HV:=zh hv
  obtain ⟨hop,A,c,rfl,hc,hc2,hcell⟩:=hv
  have hil:i < f.length:=(List.getElem?_eq_some_iff.1 hm).1
  obtain ⟨b,o,rfl,hb,hcell⟩:=hcell (by omega)
  obtain ⟨c0,c1,c2,c3,c4⟩:=hcell i _ hm
  obtain ⟨m1,m2⟩:=hop _ (List.mem_of_getElem? hm)
  simp only at c0 c1 c2 c3 c4 m1 m2
  clear hcell hop
  have hnc:nc op = 1:=hok.1.2.1
  have hq:isQ op = true \/ isQ op = false:=by cases isQ op <;> simp
  have hl2:ab.length + 1 + a.size <= 100:=by simp [Tr.size] at hlen; omega
  have hj1:p + a.size - 1 + 1 = p + a.size:=by omega
  have hj2:p + a.size - 1 < 64:=by omega
  have HJ1:=zh hj1; clear hj1
  have HIH:=zh ih; clear ih
  have HM:=zh hm; clear hm
  have HOK:=zh hok; clear hok
  have HAB:=zh hab; clear hab
  have HAW:=zh haw; clear haw
  have HS:=zh hs; clear hs
  have HSEG:=zh hsega; clear hsega
  have HI2:=zh hi; clear hi
  have HIP:=zh hip; clear hip
  generalize hJ:p + a.size - 1 = J at *
  have HJ:=zh hJ; clear hJ
  rcases hq with hq | hq
  ·go_enter Tryz.func47,Tryz.ntmps47
   go_wp2_with (first
    | (go_at_call 88; go_must (refine (zaj _ _ m1 m2).mono ?_; rintro e w2 ⟨rfl,hb2⟩; rw [hnc]; have R:=zh ((Row.new w _ _).below hb2 (by simp only [World.size_alloc]; omega)); obtain ⟨x0,x1,hz1,HB2⟩:=za9 hb2; clear hb2))
    | (go_at_call 89; go_must (refine (zsp op _).mono ?_; rintro e w3 ⟨rfl,rfl⟩; rw [hq])))
   have hlen2:ab.length <= 1000:=by omega
   go_region_law (first
    | (go_simp; go_at_call 90; refine (zs1 ab _ _ (HAB.out.below (B:=w.heap.size) (by have hh:=HB2.out; go_grown) zn) (by omega)).mono ?_; rintro e w4 ⟨v1,rfl,hb4,ho1⟩; replace ho1:OWI w4 (w.heap.size + 1) v1 ab:=OWI.mono ho1 (by have:=HB2.out.size; simp only [World.size_alloc,World.size_setCell,World.size_drew]; omega); have hz2:w.heap.size < w4.heap.size:=(by have h1:=hb4.size; simp only [World.size_alloc,World.size_setCell,World.size_drew] at h1; omega); have hbw:Hid (Below w.heap.size w w4):=(Below.trans (by have hh:=HB2.out; go_grown) (hb4.mono (by have:=HB2.out.size; simp only [World.size_alloc,World.size_setCell,World.size_drew]; omega))); have y0:∀ j,w4.cell? ⟨w.heap.size,j,none⟩ = #[Value.int .u8 op,.int .i64 x,.int .i64 0,.int .i64 J,.int .i64 0][j]?:=(Row.below (by first | exact R.out | exact R.out.drew | exact R.out.drew.alloc _ | exact (R.out.alloc _).drew) hb4 (by simp only [World.size_alloc,World.size_setCell,World.size_drew]; omega)).cell; try go_simp)
    | (refine zsh rfl (.tmp 41) (.tmp 44) rfl (w.heap.size + 1) v1 ab rfl (ho1.below (B':=w4.heap.size) (by go_grown) zn) _ [x] rfl (IS.lit 1 1 _ (by first | exact Row.new _ _ _ | exact (Row.litd (by simp)).below hb4 (by simp only [World.size_alloc,World.size_setCell,World.size_drew]; omega)) rfl (by omega) (by omega) (by intro i y hy; cases i with | zero => simpa using hy | succ i => simp at hy)) (by simp only [List.length_cons,List.length_nil]; omega) (by first | exact hz2 | (simp only [World.size_alloc,World.size_setCell,World.size_drew]; omega)) ?_; intro v3 w3 ho3 hg3 ht3))
   all_goals
    have HB3:Hid (Below w.heap.size w w3):=(by have hh:=hbw.out; refine Below.grown (w:=_) (by first | exact hh | exact hh.alloc (Nat.le_of_lt hz2) _) hg3 (by first | exact Nat.le_of_lt hz2 | (simp only [World.size_alloc,World.size_setCell,World.size_drew]; omega)) (fun k hk => Nat.le_of_succ_le (World.ownsRow.lt ho1 k hk).1))
    have y3:w3.cell? ⟨w.heap.size,3,none⟩ = some (.int .i64 J):=(by
     refine (hg3.cell (a:=⟨w.heap.size,3,none⟩) (v:=.int .i64 J) ?_ ?_)
     ·first | exact y0 3 | (go_simp)
     ·intro hc
      have:w.heap.size + 1 <= w.heap.size:=(World.ownsRow.lt ho1 _ hc.symm).1
      omega)
    have HO3:=zh ho3; clear ho3
    clear hg3 ht3 ho1 hb4 hbw y0 x0 x1 c0 c1 c2 c3 c4
    go_wp2_with (go_at_call 47; go_must (refine (HIH.out p J (ab ++ [x]) _ s _ HOK.out.2 (by rw [HJ1.out]) hj2 hfl HSEG.out (HV.out.below HB3.out zn) HO3.out.is ?_ (by simp; omega) (HI.out _ _ _ HS.out HB3.out)).mono ?_))
    ·intro bb hbb hSb
     have h1:=(World.ownsRow.lt HO3.out _ hbb).1
     have h2:=HIS.out s w HS.out bb hSb
     omega
    rintro e w5 ⟨rfl,hk5,hs5⟩
    go_wp2
    go_returns
    exact ⟨rfl,(Keep.of_below HB3.out zn).trans hk5,by simpa [trav,hq] using hs5⟩
  ·go_enter Tryz.func47,Tryz.ntmps47
   go_wp2_with (first
    | (go_at_call 88; go_must (refine (zaj _ _ m1 m2).mono ?_; rintro e w2 ⟨rfl,hb2⟩; rw [hnc]; obtain ⟨x0,x1,hz1,HB2⟩:=za9 hb2; clear hb2))
    | (go_at_call 89; go_must (refine (zsp op _).mono ?_; rintro e w3 ⟨rfl,rfl⟩; rw [hq]))
    | (go_at_call 47; go_must (refine (HIH.out p J ab _ s _ HOK.out.2 (by rw [HJ1.out]) hj2 hfl HSEG.out (HV.out.below HB2.out zn) (HAB.out.below HB2.out zn) HAW.out (by omega) (HI.out _ _ _ HS.out HB2.out)).mono ?_; rintro e w5 ⟨rfl,hk5,hs5⟩)))
   go_returns
   exact ⟨rfl,(Keep.of_below HB2.out zn).trans hk5,by simpa [trav,hq] using hs5⟩
 | bin op a b iha ihb =>
  intro p i ab abv s w hok hi h64 hfl hseg hv hab haw hlen hs
  have hip:i = p + a.size + b.size:=by simp [Tr.size] at hi; omega
  have hposa:=a.size_pos
  have hposb:=b.size_pos
  have hm:f[i]? = some ⟨op,0,0,((p + a.size - 1:Nat):Int),((p + a.size + b.size - 1:Nat):Int)⟩:=by
   have:=hseg (a.size + b.size) (by simp [Tr.size])
   rw [hip,Nat.add_assoc,this,Tr.enc,List.getElem?_append_right (by rw [Tr.enc_len]; omega),Tr.enc_len,List.getElem?_append_right (by rw [Tr.enc_len]; omega),Tr.enc_len]; simp; omega
  have hsega:∀ j,j < a.size -> f[p + j]? = (a.enc p)[j]?:=fun j hj => by
   rw [hseg j (by simp [Tr.size]; omega),Tr.enc,List.getElem?_append_left (by rw [Tr.enc_len]; exact hj)]
  have hsegb:∀ j,j < b.size -> f[p + a.size + j]? = (b.enc (p + a.size))[j]?:=fun j hj => by
   have:=hseg (a.size + j) (by simp [Tr.size]; omega)
   rw [Nat.add_assoc,this,Tr.enc,List.getElem?_append_right (by rw [Tr.enc_len]; omega),Tr.enc_len,List.getElem?_append_left (by rw [Tr.enc_len]; omega)]
   congr 1; omega
  clear hseg
  have HV:=zh hv
  obtain ⟨hop,A,c,rfl,hc,hc2,hcell⟩:=hv
  have hil:i < f.length:=(List.getElem?_eq_some_iff.1 hm).1
  obtain ⟨bb,o,rfl,hb,hcell⟩:=hcell (by omega)
  obtain ⟨c0,c1,c2,c3,c4⟩:=hcell i _ hm
  obtain ⟨m1,m2⟩:=hop _ (List.mem_of_getElem? hm)
  simp only at c0 c1 c2 c3 c4 m1 m2
  clear hcell hop
  have hnc:nc op = 2:=hok.1
  have hla:ab.length + a.size <= 100:=by simp [Tr.size] at hlen; omega
  have hlb:ab.length + b.size <= 100:=by simp [Tr.size] at hlen; omega
  have hj1:p + a.size - 1 + 1 = p + a.size:=by omega
  have hj2:p + a.size - 1 < 64:=by omega
  have hj3:p + a.size + b.size - 1 + 1 = p + a.size + b.size:=by omega
  have hj4:p + a.size + b.size - 1 < 64:=by omega
  have HJ1:=zh hj1; clear hj1
  have HJ3:=zh hj3; clear hj3
  have HIA:=zh iha; clear iha
  have HIB:=zh ihb; clear ihb
  have HM:=zh hm; clear hm
  have HOK:=zh hok; clear hok
  have HAB:=zh hab; clear hab
  have HAW:=zh haw; clear haw
  have HS:=zh hs; clear hs
  have HSA:=zh hsega; clear hsega
  have HSB:=zh hsegb; clear hsegb
  have HI2:=zh hi; clear hi
  have HIP:=zh hip; clear hip
  obtain ⟨J,hJ⟩:=zx (p + a.size - 1)
  obtain ⟨K,hK⟩:=zx (p + a.size + b.size - 1)
  rw [<- hJ] at c3 hj2 HJ1
  rw [<- hK] at c4 hj4 HJ3
  clear hJ hK
  go_enter Tryz.func47,Tryz.ntmps47
  go_wp2_with (go_at_call 88; go_must (refine (zaj _ _ m1 m2).mono ?_; rintro e w2 ⟨rfl,hb2⟩; rw [hnc]; obtain ⟨x0,x1,hz1,HB2⟩:=za9 hb2; clear hb2))
  refine (HIA.out p J ab _ s _ HOK.out.2.1 HJ1.out hj2 hfl HSA.out (HV.out.below HB2.out zn) (HAB.out.below HB2.out zn) HAW.out hla (HI.out _ _ _ HS.out HB2.out)).mono ?_
  rintro e w5 ⟨rfl,hk5,hs5⟩
  have HK:Hid (Keep S w w5):=(Keep.of_below HB2.out zn).trans hk5
  have y5:∀ j,w5.cell? ⟨w.heap.size,j,none⟩ = #[Value.int .u8 op,.int .i64 0,.int .i64 0,.int .i64 J,.int .i64 K][j]?:=fun j => (hk5.cell hz1 (fun hh => by have:=HIS.out s w HS.out _ hh; omega) j).trans (x0 j)
  clear hk5 x0 x1
  go_wp2_with fail
  refine (HIB.out (p + a.size) K ab _ _ _ HOK.out.2.2 HJ3.out hj4 hfl HSB.out (HV.out.keep HSS.out HK.out) (HAB.out.keep HAW.out HK.out) HAW.out hlb hs5).mono ?_
  rintro e w6 ⟨rfl,hk6,hs6⟩
  go_wp2
  go_returns
  exact ⟨rfl,HK.out.trans hk6,hs6⟩
def orv (ab:List Int) (s:Nat) (v:Int):Nat:=if ab.contains v then s else s ||| (1 <<< v.toNat)
def stepF (f:List Mk) (j:Nat) (ab:List Int) (s:Nat):Nat:=match f[j]? with
 | some m => (occ m).foldl (orv ab) s
 | none => s
theorem row_one {w:World} {g:Nat} {t:TypeId} {x:Value} {k:IntKind} {a b:Int} (h:Row w g t #[x]) (e:a = b):Row (w.setCell ⟨g,0,none⟩ (.int k a)) g t #[.int k b]:=e ▸ h.set 0 (.int k a)
def zsg (gf g:Nat) (v:Value) (s:Nat) (W:World):Prop:=Row W gf 23 #[v] /\ Row W g 51 #[.int .u64 s] /\ s < 64 /\ gf ≠ g
theorem zs3 (m:Mk) (h:zak m 6 = true):∀ x ∈ occ m,0 <= x /\ x < 6:=by
 intro x hx
 simp only [zak,Bool.and_eq_true,Bool.or_eq_true,decide_eq_true_eq] at h
 unfold occ at hx
 rcases zip m.op with hv | hv | hv <;> rw [hv] at hx h <;> simp at hx <;> omega
theorem orv_lt (ab:List Int) (s:Nat) (v:Int) (hs:s < 64) (h0:0 <= v) (h1:v < 6):orv ab s v < 64:=by
 unfold orv
 split
 ·exact hs
 ·have:1 <<< v.toNat < 64:=by
   have:v.toNat = 0 \/ v.toNat = 1 \/ v.toNat = 2 \/ v.toNat = 3 \/ v.toNat = 4 \/ v.toNat = 5:=by omega
   rcases this with h | h | h | h | h | h <;> rw [h] <;> decide
  exact Nat.or_lt_two_pow (n:=6) hs this
theorem free1 (gf g:Nat) (f:List Mk) (v:Value) (j:Nat) (m:Mk) (ab:List Int) (abv:Value) (s:Nat) (w:World) (hm:f[j]? = some m) (hok:zes m.op m.x m.y) (hv:MS w v f) (ha:Away (· = g) v) (hab:IS w abv ab) (haw:Away (· = g) abv) (hl:f.length <= 64) (hs:zsg gf g v s w) :
  Calls Tryz.prog 48 #[.int .i64 j,abv,.pointer (some ⟨gf,0,none⟩),.pointer (some ⟨g,0,none⟩)] w (Done (· = g) w (zsg gf g v (stepF f j ab s))):=by
 obtain ⟨r1,r2,hs64,hne⟩:=hs
 have hjl:j < f.length:=(List.getElem?_eq_some_iff.1 hm).1
 have hob:=zs3 m (by have:=hok.2.2.1; simpa [zak] using this)
 have HV:=zh hv
 obtain ⟨hop,A,c,rfl,hc,hc2,hcell⟩:=hv
 obtain ⟨b,o,rfl,hb,hcell⟩:=hcell (by omega)
 obtain ⟨c0,c1,c2,c3,c4⟩:=hcell j _ hm
 obtain ⟨m1,m2⟩:=hop _ (List.mem_of_getElem? hm)
 clear hcell hop
 have hstep:stepF f j ab s = (occ m).foldl (orv ab) s:=by rw [stepF,hm]
 have HST:=zh hstep; clear hstep
 have HM:=zh hm; clear hm
 have HOK:=zh hok; clear hok
 have HAB:=zh hab; clear hab
 have HAW:=zh haw; clear haw
 have HA:=zh ha; clear ha
 have x0:=r1.cell
 have R1:=zh r1; have R2:=zh r2
 clear r1 r2
 have HOB:=zh hob; clear hob
 go_enter Tryz.func48,Tryz.ntmps48
 obtain ⟨n,hn⟩:=zx ((occ m).length)
 have hn2:n <= 2:=by rw [hn,occ,List.length_take]; simp; omega
 have HN:=zh hn; clear hn
 go_wp2_with (go_at_call 49; go_must (refine (zsy m _ m1 m2).mono ?_; rintro e w2 ⟨v1,rfl,hb2,hfr2,hi2⟩; have HFR:=zh hfr2; clear hfr2; obtain ⟨A1,k1,rfl,hk1,hk2,hcell1⟩:=hi2; rw [<- HN.out] at hk1 hcell1 ⊢; have HC1:=zh hcell1; clear hcell1; have HB2:=zh hb2; clear hb2))
 go_loopg [14] n (fun gk q wr => ∃ (k:Nat) (s':Nat),k <= n /\ gk = n - k /\ q = .int .i64 k /\ Keep (· = g) w2 wr /\ Row wr g 51 #[.int .u64 s'] /\ s' < 64 /\ ((occ m).drop k).foldl (orv ab) s' = stepF f j ab s)
 case atStart => exact ⟨0,s,Nat.zero_le _,rfl,rfl,Keep.refl _ _,R2.out.below HB2.out R2.out.lt,hs64,by rw [List.drop_zero,HST.out]⟩
 case round =>
  obtain ⟨k,s',hk,rfl,rfl,hkp,hrow,hs',hfold⟩:=hrel
  have HKP:=zh hkp; clear hkp
  have hK2:Hid (Keep (· = g) w wr):=(Keep.of_below HB2.out zn).trans HKP.out
  by_cases hlt:k < n
  ·obtain ⟨y,hy⟩:∃ y,(occ m)[k]? = some y:=⟨(occ m)[k]'(by rw [<- HN.out]; exact hlt),List.getElem?_eq_getElem _⟩
   obtain ⟨y0,y1⟩:=HOB.out y (List.mem_of_getElem? hy)
   obtain ⟨b1,o1,rfl,hb1,hc1⟩:=HC1.out (by omega)
   have d0:=hc1 k y hy
   clear hc1
   have hg:g < w.heap.size:=R2.out.lt
   have hb1w:w.heap.size <= b1:=HFR.out b1 rfl
   rw [<- HKP.out.cell hb1 (by omega)] at d0
   have hcons:(occ m).drop k = y :: (occ m).drop (k + 1):=by
    have hk':k < (occ m).length:=(List.getElem?_eq_some_iff.1 hy).1
    rw [List.drop_eq_getElem_cons hk',(List.getElem?_eq_some_iff.1 hy).2]
   rw [hcons,List.foldl_cons] at hfold
   have HF:=zh hfold; clear hfold hcons hy
   have z0:=hrow.cell
   have z1:=hrow.free
   have HR:=zh hrow; clear hrow
   obtain ⟨t,ht⟩:=zx (ab.contains y)
   have HT:=zh ht; clear ht
   cases t with
   | true =>
    go_wp2_with (go_at_call 50; go_must (refine (zsb ab _ y _ (HAB.out.keep HAW.out hK2.out)).mono ?_; rintro e w3 ⟨rfl,rfl⟩; rw [<- HT.out]))
    go_roundg (n - (k + 1))
    case rel => exact ⟨k + 1,s',by omega,rfl,by go_num,HKP.out,HR.out,hs',by rw [<- HF.out,orv,if_pos HT.out.symm]⟩
    case measure => omega
   | false =>
    have hval:Hid (orv ab s' y = s' ||| 1 <<< y.toNat):=by unfold Hid; rw [orv,if_neg (by rw [<- HT.out]; simp)]
    have hlt2:Hid (orv ab s' y < 64):=orv_lt ab s' y hs' y0 y1
    have hy6:y = 0 \/ y = 1 \/ y = 2 \/ y = 3 \/ y = 4 \/ y = 5:=by omega
    rcases hy6 with rfl | rfl | rfl | rfl | rfl | rfl
    all_goals
     go_wp2_with (go_at_call 50; go_must (refine (zsb ab _ _ _ (HAB.out.keep HAW.out hK2.out)).mono ?_; rintro e w3 ⟨rfl,rfl⟩; rw [<- HT.out]))
     go_region
     go_wp2
     go_roundg (n - (k + 1))
     case measure => omega
     case rel =>
      refine ⟨k + 1,orv ab s' _,by omega,rfl,by go_num,HKP.out.drew.set (.inl rfl) _,?_,hlt2.out,by rw [<- HF.out]⟩
      refine row_one HR.out.drew ?_
      rw [hval.out]
      exact bits_or_u64_nat s' _ (by omega) (by decide)
  ·have hkn:k = n:=by omega
   rw [hkn,HN.out,List.drop_length,List.foldl_nil] at hfold
   have HF:=zh hfold; clear hfold
   go_wp2
   go_returns
   exact ⟨rfl,hK2.out,hK2.out.row R1.out (by simpa using hne),by rw [<- HF.out]; exact hrow,by rw [<- HF.out]; exact hs',hne⟩
theorem zs6 (gf g:Nat) (f:List Mk) (v:Value) (hl:f.length <= 64) (ha:Away (· = g) v) :
  ∀ (j:Nat) (m:Mk) (ab:List Int) (abv:Value) (s:Nat) (W:World),f[j]? = some m -> zes m.op m.x m.y -> MS W v f -> IS W abv ab -> Away (· = g) abv -> zsg gf g v s W ->
   Calls Tryz.prog 48 #[.int .i64 j,abv,.pointer (some ⟨gf,0,none⟩),.pointer (some ⟨g,0,none⟩)] W (Done (· = g) W (zsg gf g v (stepF f j ab s))) :=
 fun j m ab abv s W hm hok hv hab haw hs => free1 gf g f v j m ab abv s W hm hok hv ha hab haw hl hs
def freeS (f:List Mk) (t:Tr):Nat:=trav (stepF f) 0 [] t 0
def WS (w:World) (B:Nat) (v:Value) (l:List Nat):Prop:=w.ownsRow B 51 1 v l.length (l.map fun s:Nat => Value.int .u64 s)
def setOf (s:Nat):List Nat:=if s = 0 then [] else [s]
def RetWS (w:World) (l:List Nat) (e:Ending) (w':World):Prop:=∃ v,e = .returned v /\ Below w.heap.size w w' /\ WS w' w.heap.size v l
theorem ztb (f:List Mk) (t:Tr) (v:Value) (w:World) (hv:MS w v f) (hf:za4 f = true) (ht:f = t.enc 0) (hok:t.ok) (hsz:t.size = f.length):Calls Tryz.prog 18 #[v] w (RetWS w (setOf (freeS f t))):=by
 have HV:=zh hv; clear hv
 have hl:=zff f hf
 have HF:=zh hf; clear hf
 have HT:=zh ht; clear ht
 have HOK:=zh hok; clear hok
 have HB:Hid (Below w.heap.size w (w.alloc (.cells #[v] 23))):=Below.alloc (Below.refl _ _) zn _
 obtain ⟨hop,A,c,hvv,hc1,hc2,hcell⟩:=HV.out
 subst hvv
 obtain ⟨b,o,rfl,hb,_⟩:=hcell (by omega)
 clear hop hcell
 obtain ⟨n,hn⟩:=zx f.length
 rw [<- hn] at hl hc1 hsz HV HB ⊢
 have HN:=zh hn; clear hn
 obtain ⟨hl1,hl2⟩:=hl
 have HSZ:=zh hsz; clear hsz
 go_enter Tryz.func18,Tryz.ntmps18
 go_wp2_with (go_at_call 46; go_must (refine (za1 f _ _ (HV.out.below HB.out zn)).mono ?_; rintro e w1 ⟨rfl,hb1⟩; rw [HF.out]; have R:=zh ((Row.new w _ _).below hb1 (by simp only [World.size_alloc]; omega)); obtain ⟨x0,x1,hz1,HB1⟩:=za9 hb1; clear hb1))
 have hb1w:b < w1.heap.size:=by omega
 have hgf:w.heap.size ≠ w1.heap.size:=by omega
 have HAW:Hid (Away (· = w1.heap.size) (.slice (some ⟨b,o,none⟩) n c)):=by
  intro bb hbb hx
  simp only [Value.ownBlock,Option.some.injEq] at hbb
  omega
 have HBA:Hid (Below w1.heap.size w1 (w1.alloc (.cells #[.int .u64 0] 51))):=Below.alloc (Below.refl _ _) zn _
 have HV1:=zh ((HV.out.below HB1.out zn).below HBA.out zn)
 rw [show ((n:Int) - 1) = ((n - 1:Nat):Int) by omega]
 refine (zsw (.pointer (some ⟨w.heap.size,0,none⟩)) (.pointer (some ⟨w1.heap.size,0,none⟩)) (· = w1.heap.size) f _ (stepF f) (zsg w.heap.size w1.heap.size _) HAW.out
  (fun s W W' h hb => ⟨h.1.below hb h.1.lt,h.2.1.below hb h.2.1.lt,h.2.2.1,h.2.2.2⟩) (fun s W h bb hbb => by rw [hbb]; exact h.2.1.lt)
  (zs6 w.heap.size w1.heap.size f _ (by rw [<- HN.out]; exact hl2) HAW.out) t 0 (n - 1) [] (.slice none 0 0) 0 _ HOK.out (by rw [HSZ.out]; omega) (by omega) (by rw [<- HN.out]; exact hl2)
  (fun j hj => by rw [HT.out,Nat.zero_add]) HV1.out (IS.nil _) (by intro bb hbb; simp [Value.ownBlock] at hbb) (by rw [HSZ.out]; simp; omega) ⟨(R.out.alloc _),Row.new _ _ _,by omega,hgf⟩).mono ?_
 rintro e w5 ⟨rfl,hk5,r1,r2,hs5,_⟩
 have hz5:=hk5.size
 have hbw:Below w.heap.size w w5:=(HB1.out.alloc (by omega) _).trans (hk5.below (by simp only [World.size_alloc]; omega) (fun k hk hx => by omega))
 have HBW:=zh hbw
 clear hbw hk5 x0 x1
 have hfs:trav (stepF f) 0 [] t 0 = freeS f t:=rfl
 rw [hfs] at r2 hs5
 clear hfs
 generalize freeS f t = s at *
 have z0:=r2.cell
 have R1:=zh r1; have R2:=zh r2
 clear r1 r2
 simp only [World.size_alloc] at hz5
 by_cases h0:s = 0
 ·have h0':((s:Int) == 0) = true:=by simp [h0]
  have H0:=zh h0; clear h0
  go_wp2
  go_returns
  exact ⟨.slice none 0 0,rfl,HBW.out,by rw [setOf,if_pos H0.out]; exact World.ownsRow_nil _ _ _ _⟩
 ·have h0':((s:Int) == 0) = false:=by simp [h0]
  have H0:=zh h0; clear h0
  go_wp2
  go_returns
  refine ⟨.slice (some ⟨w5.heap.size,0,none⟩) 1 1,rfl,HBW.out.alloc HBW.out.size _,?_⟩
  rw [setOf,if_neg H0.out]
  exact World.ownsRow_lit (base:=w.heap.size) (e:=51) (size:=1) w5 #[.int .u64 s] 1 HBW.out.size (by simp [maxLen]) rfl
end Go.Proofs.YthdabkmkgkkmcaaGreatDoor

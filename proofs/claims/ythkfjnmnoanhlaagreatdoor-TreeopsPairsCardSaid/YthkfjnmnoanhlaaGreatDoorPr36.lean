/- Part 36 of the proof; it says: lemmas and contracts. No conditions but those that each theorem states. -/
import Derived.Test.YthkfjnmnoanhlaaGreatDoorPr01
import Derived.Test.YthkfjnmnoanhlaaGreatDoorPr04
import Derived.Test.YthkfjnmnoanhlaaGreatDoorPr18
import Derived.Test.YthkfjnmnoanhlaaGreatDoorPr19
set_option linter.unusedSimpArgs false
set_option linter.unusedVariables false
set_option maxRecDepth 100000
set_option maxHeartbeats 32000000
namespace Go.Proofs.YthkfjnmnoanhlaaGreatDoor
open Go.RowKit
theorem TS.to {w X:World} {v:Value} {f:List Lf} (h:TS w v f) (hb:Below w.heap.size w X):TS X v f:=h.below hb zn
abbrev CRForm (t:List Lf) (q:Bool):Prop:=∀ W v,TS W v t -> Calls Tryz.prog 110 #[v] W fun e w' => e = .returned (.bool q) /\ W = w'
theorem zlv (t:List Lf):CRForm t (zac t):=fun W v h => zjk t v W h
theorem zmx (lab:Int) (l r:List Lf) (v u:Value) (w:World) (hv:TS w v l) (hu:TS w u r) (h0:0 <= lab) (h1:lab <= 255) :
  Calls Tryz.prog 109 #[.int .u8 lab,v,u] w (RetTT w (joinE lab l r).1 (joinE lab l r).2):=by
 have HV:=zh hv
 have HU:=zh hu
 obtain ⟨A,c,rfl⟩:=hv.form
 obtain ⟨A2,c2,rfl⟩:=hu.form
 have HFL:=zh (zlv l)
 have HFR:=zh (zlv r)
 have hj:joinE lab l r = if zac l = false \/ zac r = false then ([],2) else if 31 <= l.length + r.length then ([],4) else (joinT lab l r,0):=rfl
 generalize joinE lab l r = R at *
 cases hfl:zac l with
 | false =>
  rw [hfl,if_pos (.inl rfl)] at hj
  rw [hfl] at HFL
  subst hj
  obtain ⟨n,hn⟩:=zx l.length
  obtain ⟨m,hm⟩:=zx r.length
  rw [<- hn] at HV ⊢
  rw [<- hm] at HU ⊢
  clear hv hu hfl hn hm HFR
  go_enter Tryz.func109,Tryz.ntmps109
  go_wp2_with (go_at_call 110; (with_reducible refine (HFL.out _ _ HV.out).mono ?_); rintro e w1 ⟨rfl,rfl⟩)
  go_returns
  exact ⟨_,rfl,Below.refl _ _,TO.nil _ _⟩
 | true =>
  cases hfr:zac r with
  | false =>
   rw [hfr,if_pos (.inr rfl)] at hj
   rw [hfl] at HFL
   rw [hfr] at HFR
   subst hj
   obtain ⟨n,hn⟩:=zx l.length
   obtain ⟨m,hm⟩:=zx r.length
   rw [<- hn] at HV ⊢
   rw [<- hm] at HU ⊢
   clear hv hu hfl hfr hn hm
   go_enter Tryz.func109,Tryz.ntmps109
   go_wp2_with (first
    | (go_at_call 110; (with_reducible refine (HFL.out _ _ HV.out).mono ?_); rintro e w1 ⟨rfl,rfl⟩)
    | (go_at_call 110; (with_reducible refine (HFR.out _ _ HU.out).mono ?_); rintro e w1 ⟨rfl,rfl⟩))
   go_returns
   exact ⟨_,rfl,Below.refl _ _,TO.nil _ _⟩
  | true =>
   rw [hfl,hfr,if_neg (by simp)] at hj
   have l31:=(za1 hfl).1
   have r31:=(za1 hfr).1
   have HJ:=zh (fun W (h1':TS W (.slice A l.length c) l) (h2':TS W (.slice A2 r.length c2) r) => zni lab l r _ _ W h1' h2' h0 h1 (by omega) (by omega) (zos hfl) (zos hfr))
   rw [hfl] at HFL
   rw [hfr] at HFR
   obtain ⟨n,hn⟩:=zx l.length
   obtain ⟨m,hm⟩:=zx r.length
   rw [<- hn] at HV HJ hj l31 ⊢
   rw [<- hm] at HU HJ hj r31 ⊢
   generalize joinT lab l r = T at *
   clear hv hu hfl hfr hn hm
   by_cases hs:31 <= n + m
   ·rw [if_pos hs] at hj
    subst hj
    have hsi:(31:Int) < (n:Int) + (m:Int) + 1:=by omega
    clear HJ hs
    go_enter Tryz.func109,Tryz.ntmps109
    go_wp2_with (first
     | (go_at_call 110; (with_reducible refine (HFL.out _ _ HV.out).mono ?_); rintro e w1 ⟨rfl,rfl⟩)
     | (go_at_call 110; (with_reducible refine (HFR.out _ _ HU.out).mono ?_); rintro e w1 ⟨rfl,rfl⟩))
    go_returns
    exact ⟨_,rfl,Below.refl _ _,TO.nil _ _⟩
   ·rw [if_neg hs] at hj
    subst hj
    have hsi:(n:Int) + (m:Int) + 1 <= 31:=by omega
    clear hs
    go_enter Tryz.func109,Tryz.ntmps109
    go_wp2_with (first
     | (go_at_call 110; (with_reducible refine (HFL.out _ _ HV.out).mono ?_); rintro e w1 ⟨rfl,rfl⟩)
     | (go_at_call 110; (with_reducible refine (HFR.out _ _ HU.out).mono ?_); rintro e w1 ⟨rfl,rfl⟩)
     | (go_at_call 136; (with_reducible refine (HJ.out _ HV.out HU.out).mono ?_); rintro e w3 ⟨v3,rfl,hb3,ho3⟩))
    go_returns
    exact ⟨v3,rfl,hb3,ho3⟩
theorem OWI.one {w:World} {B g:Nat} {x:Int} (h:Row w g 3 #[.int .i64 x]) (hB:B <= g):OWI w B (.slice (some ⟨g,0,none⟩) 1 1) [x] :=
 ⟨rfl,.inr ⟨g,1,_,rfl,hB,h,zn,by simp [maxLen],rfl,rfl⟩⟩
theorem zje {B:Nat} {w w1:World} (h:Below B w.drew w1):Below B w w1:=⟨h.os,h.tape,h.output,h.size,h.block⟩
theorem zqf (b:Bt):b.size <= 31 -> (∀ m ∈ b.enc 0,0 <= m.label /\ m.label <= 255) -> ∀ (v:Value) (w:World),TS w v (b.enc 0) ->
  Calls Tryz.prog 111 #[v] w (RetIO w b.code):=by
 induction b with
 | nil =>
  intro _ _ v w hv
  obtain ⟨A,c,rfl⟩:=(show TS w v [] from hv).form
  clear hv
  simp only [List.length_nil]
  go_enter Tryz.func111,Tryz.ntmps111
  go_wp2
  go_returns
  exact ⟨_,rfl,by go_grown,OWI.one (Row.new _ _ _) zn⟩
 | node lab l r ihl ihr =>
  intro hs hlb v w hv
  have HL:=zh (fun W v (h:TS W v ((Bt.node lab l r).enc 0)) => zqd lab l r v W h hs)
  have HR:=zh (fun W v (h:TS W v ((Bt.node lab l r).enc 0)) => znb lab l r v W h hs)
  have hn:((Bt.node lab l r).enc 0).length = l.size + r.size + 1:=by rw [Bt.enc_len]; rfl
  have hs2:l.size + r.size + 1 <= 31:=hs
  have hll:∀ m ∈ l.enc 0,0 <= m.label /\ m.label <= 255:=zqu (P:=fun x => 0 <= x /\ x <= 255) hlb
  have hlr:∀ m ∈ r.enc 0,0 <= m.label /\ m.label <= 255:=zon (P:=fun x => 0 <= x /\ x <= 255) hlb
  obtain ⟨l0,l1⟩:=hlb _ (List.mem_cons_self ..)
  have hroot:=(Seg.self (Bt.node lab l r)).root
  have IHL:=zh (ihl (by omega) hll)
  have IHR:=zh (ihr (by omega) hlr)
  have HC:=zh (show (Bt.node lab l r).code = [1 + lab] ++ l.code ++ r.code from rfl)
  have hcl:=Bt.code_len l
  have hcr:=Bt.code_len r
  simp only at l0 l1
  generalize (Bt.node lab l r).code = res at *
  generalize (Bt.node lab l r).enc 0 = t at *
  generalize l.code = cl at *
  generalize r.code = cr at *
  have HV:=zh hv
  obtain ⟨b,o,hA⟩:∃ b o,∃ c,v = .slice (some ⟨b,o,none⟩) t.length c:=by
   obtain ⟨A,c,rfl⟩:=hv.form
   obtain ⟨b,o,rfl⟩:=hv.addr (by omega)
   exact ⟨b,o,c,rfl⟩
  obtain ⟨c,rfl⟩:=hA
  obtain ⟨c0,_,_⟩:=hv.at3 hroot
  simp only [Nat.zero_mul,Nat.add_zero] at c0
  have hbl:b < w.heap.size:=World.block_lt_of_cell? _ _ c0
  rw [hn] at HV ⊢
  obtain ⟨n,hn'⟩:=zx (l.size + r.size + 1)
  have hn0:((n:Int) == 0) = false:=by rw [beq_eq_false_iff_ne]; omega
  have hnp:0 < n:=by omega
  have hcl2:cl.length <= 100:=by omega
  have hcr2:cr.length <= 100:=by omega
  rw [<- hn'] at HV ⊢
  have w0:IntKind.i64.wrap lab = lab:=IntWalk.i64_in _ (by omega)
  have w1:IntKind.i64.wrap (1 + lab) = 1 + lab:=IntWalk.i64_in _ (by omega)
  clear hv hn ihl ihr hs hs2 hn' hlb hll hlr hroot hcl hcr
  go_enter Tryz.func111,Tryz.ntmps111
  go_wp2
  first
  | go_region_held3 (fun W => W.cell? ⟨b,o,none⟩ = some (.int .u8 lab)) (first | exact (HB3.out.cell (p:=⟨b,_,none⟩) hbl).trans c0 | exact ((Below.alloc HB2.out (HB2.out.size) _).cell (p:=⟨b,_,none⟩) hbl).trans c0 | exact (HB2.out.cell (p:=⟨b,_,none⟩) hbl).trans c0 | exact ((Below.alloc HB1.out (HB1.out.size) _).cell (p:=⟨b,_,none⟩) hbl).trans c0 | exact (HB1.out.cell (p:=⟨b,_,none⟩) hbl).trans c0 | exact c0 | exact (((Below.refl w.heap.size w).alloc zn _).cell (p:=⟨b,_,none⟩) hbl).trans c0) (first
   | (go_at_call 138; (refine (HL.out _ _ (by exact HV.out.to (by first | exact Below.refl _ _ | go_grown))).mono ?_); rintro e wa ⟨v1,rfl,hb1,ho1⟩; have HX1:=zh ho1.ts; have hu:=zje hb1; have HB1:=zh (show Below w.heap.size w wa by first | exact hu | exact ((Below.refl w.heap.size w).alloc zn _).trans (hu.mono (by simp))); (first | (have HRL:=zh ((Row.new w _ _).below hu (by simp))) | skip); clear hb1 ho1 hu)
   | (go_at_call 111; (refine (IHL.out _ _ (by first | exact HX1.out | exact HX1.out.to (by go_grown))).mono ?_); rintro e wb ⟨v2,rfl,hb1,ho1⟩; have HX2:=zh ho1.is; have HB2:=zh (show Below w.heap.size w wb by first | exact HB1.out.trans (hb1.mono HB1.out.size) | exact (HB1.out.alloc HB1.out.size _).trans (hb1.mono (by have:=HB1.out.size; simp; omega))); (first | (replace HRL:=zh (HRL.out.below hb1 HRL.out.lt)) | (have HRL:=zh ((Row.new wa _ _).below hb1 (by simp))) | skip); clear hb1 ho1 HX1)
   | (refine zgp rfl (.tmp 14) (.tmp 17) rfl w.heap.size _ [1 + lab] rfl (OWI.one (by first | exact HRL.out | exact Row.new _ _ _) (by have h1:=HB1.out.size; have h2:=HB2.out.size; omega)) _ cl rfl (by first | exact HX2.out | exact HX2.out.below (Below.alloc (Below.refl _ _) zn _) zn) (by simp only [List.length_cons,List.length_nil]; omega) (by have h1:=HB2.out.size; first | exact h1 | (simp only [World.size_alloc]; omega)) ?_; intro v3 wc ho3 hg3 _; have HB3:=zh (show Below w.heap.size w wc by (first | refine HB2.out.grown hg3 HB2.out.size ?_ | refine (HB2.out.alloc HB2.out.size _).grown hg3 (by have h1:=HB2.out.size; simp only [World.size_alloc]; omega) ?_); intro k hk; have h2:=Option.some.inj hk; rw [<- h2]; first | exact zn | exact HB1.out.size | exact HB2.out.size); have HO3:=zh ho3; clear ho3 hg3))
  | fail
  all_goals
   have HV3:=zh (HV.out.to HB3.out)
   clear HX2 HB1 HB2
   first | clear HRL | skip
   go_wp2_with (first
    | (go_at_call 139; (with_reducible refine (HR.out _ _ HV3.out).mono ?_); rintro e wd ⟨v4,rfl,hb1,ho1⟩; have HX4:=zh ho1.ts; have HO4:=zh (HO3.out.below hb1 zn); have HB4:=zh (HB3.out.trans (hb1.mono HB3.out.size)); clear hb1 ho1)
    | (go_at_call 111; (with_reducible refine (IHR.out _ _ HX4.out).mono ?_); rintro e we ⟨v5,rfl,hb1,ho1⟩; have HX5:=zh ho1.is; have HO5:=zh (HO4.out.below hb1 zn); have HB5:=zh (HB4.out.trans (hb1.mono HB4.out.size)); clear hb1 ho1)
    | (at_builtin; go_must (refine zfb rfl (.tmp 19) (.tmp 22) rfl w.heap.size _ ([1 + lab] ++ cl) rfl HO5.out _ cr rfl HX5.out (by simp only [List.length_append,List.length_cons,List.length_nil]; omega) HB5.out.size ?_; intro v6 wf ho6 hg6 _)))
   go_returns
   exact ⟨v6,rfl,zjy HB5.out HO5.out hg6 HB5.out.size,by rw [HC.out]; exact ho6⟩
abbrev CRCode (t:List Lf) (c:List Int):Prop:=∀ W v,TS W v t -> Calls Tryz.prog 111 #[v] W (RetIO W c)
theorem crcode {t:List Lf} (hf:zac t = true):CRCode t (btOf t).code:=fun W v h => by
 obtain ⟨h31,hs,_,he⟩:=za1 hf
 exact zqf (btOf t) (by omega) (by rw [<- he]; exact h.lb) v W (by rw [<- he]; exact h)
theorem ret_io (c:List Int) (n:Nat) (hn:c.length = n) {w w':World} {e:Ending} (h:RetIO w c e w'):∃ A k,e = .returned (.slice A n k) /\ Below w.heap.size w w' /\ IS w' (.slice A n k) c:=by
 obtain ⟨v,he,hb,ho⟩:=h
 have hi:=ho.is
 obtain ⟨A,k,rfl,_⟩:=ho.is
 rw [hn] at he hi
 exact ⟨A,k,he,hb,hi⟩
theorem ziz (t:List Lf):zac (nf t) = true:=by
 unfold nf
 by_cases h:zac t = false
 ·rw [if_pos h]; rfl
 ·rw [if_neg h]; simpa using h
theorem TS.nf_nil {w:World} {t:List Lf} (h:zac t = false):TS w (.slice none 0 0) (nf t):=by
 unfold nf; rw [if_pos h]; exact TS.nil w
theorem IS.at' {w:World} {b o n c k:Nat} {f:List Int} {x:Int} (h:IS w (.slice (some ⟨b,o,none⟩) n c) f) (hx:f[k]? = some x):w.cell? ⟨b,o + k,none⟩ = some (.int .i64 x):=by
 obtain ⟨A,c',hv,_,_,h3⟩:=h
 obtain ⟨b',o',hA,_,hm⟩:=h3 (by have:=(List.getElem?_eq_some_iff.1 hx).1; omega)
 simp only [Value.slice.injEq] at hv
 have:=hv.1.trans hA
 simp only [Option.some.injEq,Addr.mk.injEq,and_true] at this
 obtain ⟨rfl,rfl⟩:=this
 exact hm k x hx
theorem IS.addr' {w:World} {A:Option Addr} {n c k:Nat} {f:List Int} {x:Int} (h:IS w (.slice A n c) f) (hx:f[k]? = some x):∃ b o,A = some ⟨b,o,none⟩:=by
 obtain ⟨A',c',hv,_,_,h3⟩:=h
 obtain ⟨b',o',hA,_,hm⟩:=h3 (by have:=(List.getElem?_eq_some_iff.1 hx).1; omega)
 simp only [Value.slice.injEq] at hv
 exact ⟨b',o',hv.1.trans hA⟩
theorem zk7 (a b:List Lf) (v u:Value) (w:World) (hv:TS w v a) (hu:TS w u b) :
    Calls Tryz.prog 69 #[v,u] w fun e w' => e = .returned (.int .i64 (zbv a b)) /\ Below w.heap.size w w':=by
  have HFA:=zh (zlv a)
  have HFB:=zh (zlv b)
  have HV:=zh hv
  have HU:=zh hu
  have hNA:∃ A c,zac a = true -> v = .slice A (nf a).length c /\ TS w v (nf a):=by
    obtain ⟨A,c,hvf⟩:=hv.form
    exact ⟨A,c,fun h => by rw [nf_of h]; exact ⟨hvf,hv⟩⟩
  have hfa:=ziz a
  have hfb:=ziz b
  have hCA:=crcode hfa
  have hCB:=crcode hfb
  have hR:zbv a b = if (nf a).length = (nf b).length then cmpL (btOf (nf a)).code (btOf (nf b)).code else if (nf a).length < (nf b).length then -1 else 1:=by
    unfold zbv
    by_cases h:(nf a).length = (nf b).length
    · rw [if_pos h,if_pos (zbp.2 (by rw [h]))]
    · rw [if_neg h,if_neg (fun h' => h (by have:=zbp.1 h'; omega))]
      unfold cmpI
      by_cases h2:(nf a).length < (nf b).length
      · rw [if_pos (by omega),if_pos h2]
      · rw [if_neg (by omega),if_pos (by omega),if_neg h2]
  have hca:=Bt.code_len (btOf (nf a))
  have hcb:=Bt.code_len (btOf (nf b))
  rw [bt_len hfa] at hca
  rw [bt_len hfb] at hcb
  have h31:=(za1 hfa).1
  have h32:=(za1 hfb).1
  have hza:zac a = false -> TS w (.slice none 0 0) (nf a) /\ (nf a).length = 0:=fun h => ⟨TS.nf_nil h,by unfold nf; rw [if_pos h]; rfl⟩
  have hzb:zac b = false -> TS w (.slice none 0 0) (nf b) /\ (nf b).length = 0:=fun h => ⟨TS.nf_nil h,by unfold nf; rw [if_pos h]; rfl⟩
  have hya:zac a = true -> nf a = a:=nf_of
  have hyb:zac b = true -> nf b = b:=nf_of
  generalize zbv a b = R at *
  generalize (btOf (nf a)).code = x at *
  generalize (btOf (nf b)).code = y at *
  obtain ⟨n,hn⟩:=zx ((nf a).length)
  obtain ⟨m,hm⟩:=zx ((nf b).length)
  rw [<- hn] at hR hca h31
  rw [<- hm] at hR hcb h32
  have hVA:(zac a = false /\ n = 0 /\ TS w (.slice none 0 0) (nf a)) \/ (zac a = true /\ ∃ A c,v = .slice A n c /\ TS w (.slice A n c) (nf a)):=by
    cases h:zac a with
    | false => exact .inl ⟨rfl,by rw [hn,(hza h).2],(hza h).1⟩
    | true =>
      refine .inr ⟨rfl,?_⟩
      obtain ⟨A,c,rfl⟩:=hv.form
      rw [hya h] at hn ⊢
      exact ⟨A,c,by rw [hn],by rw [hn]; exact hv⟩
  have hVB:(zac b = false /\ m = 0 /\ TS w (.slice none 0 0) (nf b)) \/ (zac b = true /\ ∃ A c,u = .slice A m c /\ TS w (.slice A m c) (nf b)):=by
    cases h:zac b with
    | false => exact .inl ⟨rfl,by rw [hm,(hzb h).2],(hzb h).1⟩
    | true =>
      refine .inr ⟨rfl,?_⟩
      obtain ⟨A,c,rfl⟩:=hu.form
      rw [hyb h] at hm ⊢
      exact ⟨A,c,by rw [hm],by rw [hm]; exact hu⟩
  have HCA:=zh hCA; have HCB:=zh hCB; have HR:=zh hR
  have HRX:=zh (fun (W W':World) (e:Ending) (h:RetIO W x e W') => ret_io x _ rfl h)
  have HRY:=zh (fun (W W':World) (e:Ending) (h:RetIO W y e W') => ret_io y _ rfl h)
  obtain ⟨lx,hlx⟩:=zx x.length
  obtain ⟨ly,hly⟩:=zx y.length
  rw [<- hlx] at hca HRX
  rw [<- hly] at hcb HRY
  have HLX:=zh hlx; have HLY:=zh hly
  obtain ⟨A0,c0,rfl⟩:=hv.form
  obtain ⟨A1,c1,rfl⟩:=hu.form
  obtain ⟨na,hna⟩:=zx a.length
  obtain ⟨nb,hnb⟩:=zx b.length
  rw [<- hna] at HV hVA ⊢
  rw [<- hnb] at HU hVB ⊢
  clear hv hu hNA hfa hfb hCA hCB hR hza hzb hya hyb hn hm hlx hly hna hnb
  have hVA2:∃ A c,(zac a = false /\ n = 0 /\ A = none /\ c = 0 \/ zac a = true /\ A = A0 /\ n = na /\ c = c0) /\ TS w (.slice A n c) (nf a):=by
    rcases hVA with ⟨h1,h2,h3⟩ | ⟨h1,A,c,h2,h3⟩
    · exact ⟨none,0,.inl ⟨h1,h2,rfl,rfl⟩,by rw [h2]; exact h3⟩
    · simp only [Value.slice.injEq] at h2
      exact ⟨A,c,.inr ⟨h1,h2.1.symm,h2.2.1.symm,h2.2.2.symm⟩,h3⟩
  have hVB2:∃ A c,(zac b = false /\ m = 0 /\ A = none /\ c = 0 \/ zac b = true /\ A = A1 /\ m = nb /\ c = c1) /\ TS w (.slice A m c) (nf b):=by
    rcases hVB with ⟨h1,h2,h3⟩ | ⟨h1,A,c,h2,h3⟩
    · exact ⟨none,0,.inl ⟨h1,h2,rfl,rfl⟩,by rw [h2]; exact h3⟩
    · simp only [Value.slice.injEq] at h2
      exact ⟨A,c,.inr ⟨h1,h2.1.symm,h2.2.1.symm,h2.2.2.symm⟩,h3⟩
  clear hVA hVB
  obtain ⟨VA,cA,hcA,htA⟩:=hVA2
  obtain ⟨VB,cB,hcB,htB⟩:=hVB2
  have HA:=zh htA; have HB:=zh htB
  clear htA htB
  have hcmp:(n < m /\ R = -1) \/ (m < n /\ R = 1) \/ (n = m /\ R = cmpL x y):=by
    rw [HR.out]
    by_cases h:n = m
    · exact .inr (.inr ⟨h,by rw [if_pos h]⟩)
    · by_cases h2:n < m
      · exact .inl ⟨h2,by rw [if_neg h,if_pos h2]⟩
      · exact .inr (.inl ⟨by omega,by rw [if_neg h,if_neg h2]⟩)
  clear HR
  rcases hcmp with ⟨hlt,hR⟩ | ⟨hlt,hR⟩ | ⟨heq,hR⟩
  · subst hR
    clear HCA HCB HRX HRY HLX HLY
    rcases hcA with ⟨e1,e2,e3,e4⟩ | ⟨e1,e2,e3,e4⟩ <;> rcases hcB with ⟨g1,g2,g3,g4⟩ | ⟨g1,g2,g3,g4⟩
    all_goals
      rw [e1] at HFA
      rw [g1] at HFB
      have i1:((n:Int) < (m:Int)):=Int.ofNat_lt.2 hlt
      have i2:((n:Int) != (m:Int)) = true:=by simp; omega
      have i3:((n:Int) == (m:Int)) = false:=by rw [beq_eq_false_iff_ne]; omega
      clear hlt
      subst e2; subst e3; subst e4; subst g2; subst g3; subst g4
      try simp only [Int.natCast_zero] at i1 i2 i3
      first
      | (exfalso; omega)
      | (clear e1 g1
         go_enter Tryz.func69,Tryz.ntmps69
         go_wp2_with (first
           | (go_at_call 110; (with_reducible refine (HFA.out _ _ HV.out).mono ?_); rintro e w1 ⟨rfl,rfl⟩)
           | (go_at_call 110; (with_reducible refine (HFB.out _ _ HU.out).mono ?_); rintro e w1 ⟨rfl,rfl⟩))
         go_returns
         exact ⟨rfl,Below.refl _ _⟩)
  · subst hR
    clear HCA HCB HRX HRY HLX HLY
    rcases hcA with ⟨e1,e2,e3,e4⟩ | ⟨e1,e2,e3,e4⟩ <;> rcases hcB with ⟨g1,g2,g3,g4⟩ | ⟨g1,g2,g3,g4⟩
    all_goals
      rw [e1] at HFA
      rw [g1] at HFB
      have i1:((m:Int) < (n:Int)):=Int.ofNat_lt.2 hlt
      have i2:((n:Int) != (m:Int)) = true:=by simp; omega
      have i3:((n:Int) == (m:Int)) = false:=by rw [beq_eq_false_iff_ne]; omega
      clear hlt
      subst e2; subst e3; subst e4; subst g2; subst g3; subst g4
      try simp only [Int.natCast_zero] at i1 i2 i3
      first
      | (exfalso; omega)
      | (clear e1 g1
         go_enter Tryz.func69,Tryz.ntmps69
         go_wp2_with (first
           | (go_at_call 110; (with_reducible refine (HFA.out _ _ HV.out).mono ?_); rintro e w1 ⟨rfl,rfl⟩)
           | (go_at_call 110; (with_reducible refine (HFB.out _ _ HU.out).mono ?_); rintro e w1 ⟨rfl,rfl⟩))
         go_returns
         exact ⟨rfl,Below.refl _ _⟩)
  · subst heq
    have HR:=zh hR
    have hxy:ly = lx:=by omega
    have hly1:ly <= 100:=by omega
    subst hxy
    clear hR hca hcb
    rcases hcA with ⟨e1,e2,e3,e4⟩ | ⟨e1,e2,e3,e4⟩ <;> rcases hcB with ⟨g1,g2,g3,g4⟩ | ⟨g1,g2,g3,g4⟩
    all_goals
      rw [e1] at HFA
      rw [g1] at HFB
      subst e2; subst e3; subst e4
      first | (subst g2) | (have g2':=g2.symm; subst g2') | skip
      subst g3; subst g4
      clear e1 g1
      first | clear g2 | skip
      go_enter Tryz.func69,Tryz.ntmps69
      go_wp2_with (first
        | (go_at_call 110; (with_reducible refine (HFA.out _ _ HV.out).mono ?_); rintro e w1 ⟨rfl,rfl⟩)
        | (go_at_call 110; (with_reducible refine (HFB.out _ _ HU.out).mono ?_); rintro e w1 ⟨rfl,rfl⟩)
        | (go_at_call 111; (with_reducible refine (HCA.out _ _ HA.out).mono ?_); rintro e w1 hx; obtain ⟨AX,cX,rfl,hb,hq⟩:=HRX.out _ _ _ hx; have HX:=zh hq; have HBW:=zh hb; clear hx hb hq)
        | (go_at_call 111; (with_reducible refine (HCB.out _ _ (HB.out.to HBW.out)).mono ?_); rintro e w2 hx; obtain ⟨AY,cY,rfl,hb,hq⟩:=HRY.out _ _ _ hx; have HY:=zh hq; replace HX:=zh (HX.out.below hb zn); replace HBW:=zh (HBW.out.trans (hb.mono HBW.out.size)); clear hx hb hq))
      clear HA HB HV HU
      go_loopg [7] ly (fun gk q wr => ∃ k:Nat,k <= ly /\ gk = ly - k /\ q = .int .i64 k /\ Below w2.heap.size w2 wr /\ cmpL (x.drop k) (y.drop k) = R)
      case atStart => exact ⟨0,Nat.zero_le _,rfl,rfl,Below.refl _ _,HR.out.symm⟩
      case round =>
        obtain ⟨k,hk,rfl,rfl,hbe,hacc⟩:=hrel
        have HBR:=zh hbe; have HAC:=zh hacc
        have HXr:=zh (HX.out.below hbe zn)
        have HYr:=zh (HY.out.below hbe zn)
        clear hbe hacc
        by_cases hlt:k < ly
        · obtain ⟨p,hp⟩:∃ p,x[k]? = some p:=⟨x[k]'(by rw [<- HLX.out]; exact hlt),List.getElem?_eq_getElem _⟩
          obtain ⟨q,hq⟩:∃ q,y[k]? = some q:=⟨y[k]'(by rw [<- HLY.out]; exact hlt),List.getElem?_eq_getElem _⟩
          obtain ⟨b1,o1,rfl⟩:=HXr.out.addr' hp
          obtain ⟨b2,o2,rfl⟩:=HYr.out.addr' hq
          have c0:=HXr.out.at' hp
          have c1:=HYr.out.at' hq
          have hst:R = if cmpI p q = 0 then cmpL (x.drop (k + 1)) (y.drop (k + 1)) else cmpI p q:=by
            rw [<- HAC.out,zex hp,zex hq]; rfl
          have HST:=zh hst
          have hki:(k:Int) < ly:=by omega
          have hk0:(0:Int) <= (k:Int):=by omega
          clear hp hq hst HAC
          by_cases h1:p < q
          · have HR1:Hid (R = -1):=by rw [Hid,HST.out]; unfold cmpI; rw [if_pos h1]; rfl
            clear HST
            go_wp2
            first | go_region | fail
            go_wp2
            go_returns
            exact ⟨ret_i HR1.out,by have h2:=HBW.out.trans (HBR.out.mono HBW.out.size); exact ⟨h2.os,h2.tape,h2.output,h2.size,h2.block⟩⟩
          · by_cases h2:q < p
            · have HR1:Hid (R = 1):=by rw [Hid,HST.out]; unfold cmpI; rw [if_neg h1,if_pos h2]; rfl
              have h1':q <= p:=by omega
              clear HST
              go_wp2
              first | go_region | fail
              go_wp2
              first | go_region | fail
              go_wp2
              go_returns
              exact ⟨ret_i HR1.out,by have h2:=HBW.out.trans (HBR.out.mono HBW.out.size); exact ⟨h2.os,h2.tape,h2.output,h2.size,h2.block⟩⟩
            · have hpq:p = q:=by omega
              subst hpq
              have HR1:Hid (cmpL (x.drop (k + 1)) (y.drop (k + 1)) = R):=by rw [Hid,HST.out]; unfold cmpI; rw [if_neg h1,if_neg h1]; rfl
              clear HST h1 h2
              go_wp2
              first | go_region | fail
              go_wp2
              first | go_region | fail
              go_wp2
              go_roundg (ly - (k + 1))
              case rel => exact ⟨k + 1,by omega,rfl,by go_num,⟨HBR.out.os,HBR.out.tape,HBR.out.output,HBR.out.size,HBR.out.block⟩,HR1.out⟩
              case measure => omega
        · have hkn:k = ly:=by omega
          have HR1:Hid (R = 0):=by
            have e1:x.drop k = []:=List.drop_eq_nil_of_le (by rw [<- HLX.out]; omega)
            have e2:y.drop k = []:=List.drop_eq_nil_of_le (by rw [<- HLY.out]; omega)
            rw [Hid,<- HAC.out,e1,e2]; rfl
          have hki:(ly:Int) <= k:=by omega
          clear HAC hkn
          go_wp2
          go_returns
          exact ⟨ret_i HR1.out,HBW.out.trans (HBR.out.mono HBW.out.size)⟩
end Go.Proofs.YthkfjnmnoanhlaaGreatDoor

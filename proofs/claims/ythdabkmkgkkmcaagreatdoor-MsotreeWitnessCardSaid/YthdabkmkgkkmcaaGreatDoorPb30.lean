/- Part 30 of the proof; it says: lemmas and contracts. No conditions but those that each theorem states. -/
import Derived.Test.YthdabkmkgkkmcaaGreatDoorPb01
import Derived.Test.YthdabkmkgkkmcaaGreatDoorPb22
import Derived.Test.YthdabkmkgkkmcaaGreatDoorPb24
import Derived.Test.YthdabkmkgkkmcaaGreatDoorPb29
set_option linter.unusedSimpArgs false
set_option linter.unusedVariables false
set_option maxRecDepth 100000
set_option maxHeartbeats 32000000
namespace Go.Proofs.YthdabkmkgkkmcaaGreatDoor
def Res (V:Nat):Option Dta -> Raw × Nat
 | some d => (d.raw V,0)
 | none => (zeroR,10)
theorem zdp (a b:Dta) (g:Bool -> Bool -> Bool) (V:Nat):opR a b g V = Res V (opC g a b):=by
 unfold opR opC
 split <;> rfl
theorem exR_res (d:Dta) (v M V:Nat):exR d v M V = Res V (exC v M d):=by
 unfold exR exC
 split <;> rfl
theorem zr4:binG 10 = fun p q => p && q:=rfl
theorem binG_or:binG 11 = fun p q => p || q:=rfl
theorem opC_can {a b d:Dta} {V:Nat} {g:Bool -> Bool -> Bool} (ha:a.Fit V) (hb:b.Fit V) (h:opC g a b = some d):d.Canon:=by
 unfold opC at h
 split at h
 ·cases h; exact (zf2 ha.ok hb.ok (ha.L.trans hb.L.symm) g).can
 ·cases h
theorem zps {d e:Dta} {V v M:Nat} (hd:d.Fit V) (hv:v < V) (h:exC v M d = some e):e.Canon:=by
 unfold exC at h
 split at h
 ·cases h
  exact (Dta.mini_canon ((zbs hd.ok hd.L hv).ok (za7 d))).1
 ·cases h
theorem ziq {d:Dta} (h:d.OK):d.notM.Canon:=(Dta.mini_canon (Dta.neg_ok h)).1
theorem unC_can {d e:Dta} {V M:Nat} {op x:Int} (hd:d.Fit V) (hx:op = 9 \/ (0 <= x /\ x < V)) (hM:M <= 64) (h:unC V M op x d = some e):e.Canon:=by
 have hs:=zgl x hd.v3
 have hn:=zbt hd
 unfold unC at h
 split at h
 ·cases h; exact ziq hd.ok
 ·rename_i h9
  have hv:x.toNat < V:=by omega
  split at h
  ·exact zps hd hv h
  ·split at h
   ·obtain ⟨d1,h1,rfl⟩:=Option.map_eq_some_iff.1 h
    exact ziq (zef hn hv hM h1).ok
   ·split at h
    ·obtain ⟨d1,h1,h2⟩:=Option.bind_eq_some_iff.1 h
     exact zps (zbz hd hs h1) hv h2
    ·obtain ⟨d2,h3,rfl⟩:=Option.map_eq_some_iff.1 h
     obtain ⟨d1,h1,h2⟩:=Option.bind_eq_some_iff.1 h3
     exact ziq (zef (zbz hn hs h1) hv hM h2).ok
theorem zrx {V M:Nat} (hV:V <= 3) (hM:M <= 64) (t:Tr) (hv:t.vOK V) {d:Dta} (h:cmpT V M t = some d):d.Canon:=by
 cases t with
 | leaf op x y =>
  have e2:=Option.some.inj (show some (atomA op x y V).mini = some d from h)
  rw [<- e2]
  exact (Dta.mini_canon (zcj op x y hV).ok).1
 | un op x a =>
  obtain ⟨e,h1,h2⟩:=Option.bind_eq_some_iff.1 (show (cmpT V M a).bind (unC V M op x) = some d from h)
  exact unC_can (zd4 hV hM a hv.2 e h1) (by rcases hv.1 with h | h; exact .inl h; exact .inr ⟨h.2.2.1,h.2.2.2⟩) hM h2
 | bin op a b =>
  obtain ⟨e,h1,h2⟩:=Option.bind_eq_some_iff.1 (show ((cmpT V M a).bind fun d => (cmpT V M b).bind fun e => opC (binG op) d e) = some d from h)
  obtain ⟨e2,h3,h4⟩:=Option.bind_eq_some_iff.1 h2
  exact opC_can (zd4 hV hM a hv.2.1 e h1) (zd4 hV hM b hv.2.2 e2 h3) h4
theorem zov {d:Dta} {V:Nat} (hd:d.Fit V) (h:d.Canon):d.notM.notM.raw V = d.raw V:=by
 have h1:=Dta.notM_is hd.ok
 have h2:=Dta.notM_is h1.can.ok
 have e:d.notM.notM.Same d:=h2.same (L:=d.notM.L) (S':=fun t => d.fin (d.run t)) ⟨h,h1.hL.symm,fun _ _ => rfl⟩ fun t ht => by
  rw [h1.lang t (by rw [<- h1.hL]; exact ht)]
  simp
 exact e.raw h2.can.ok (h2.hL.trans h1.hL) V
theorem zca (f:List Mk) (vars:Int):zai f vars true = 0 ↔ (0 <= vars /\ vars <= 3) /\ za4 f = true /\ ∀ m ∈ f,knows true m.op = true /\ zak m vars = true:=by
 constructor
 ·intro h
  have hf:=zdw h
  unfold zai at h
  by_cases hr:vars < 0 \/ (if true = true then (3:Int) else 6) < vars
  ·rw [if_pos hr] at h; omega
  ·rw [if_neg hr] at h
   obtain ⟨h1,h2,h3,h4⟩:=ze3 h
   simp at hr
   refine ⟨⟨by omega,by omega⟩,hf,fun m hm => ?_⟩
   obtain ⟨i,hi⟩:=List.getElem?_of_mem hm
   obtain ⟨a,b,c,d,e⟩:=zbi (h4 i m hi)
   exact ⟨b,c⟩
 ·rintro ⟨⟨h1,h2⟩,hf,hn⟩
  have hc:chk f 6 (fun _ => true) = 0:=of_decide_eq_true hf
  obtain ⟨a1,a2,a3,a4⟩:=ze3 hc
  unfold zai
  rw [if_neg (by simp; omega)]
  refine chk_mk a1 a2 a3 fun i m hm => ?_
  obtain ⟨b1,_,b3,b4,b5⟩:=zbi (a4 i m hm)
  obtain ⟨k1,k2⟩:=hn m (List.mem_of_getElem? hm)
  exact zfl b1 k1 k2 b4 b5
theorem zmd {m n:Mk} (vars:Int) (h1:m.op = n.op) (h2:m.x = n.x) (h3:m.y = n.y):zak m vars = zak n vars:=by
 unfold zak; rw [h1,h2,h3]
theorem enc_sh (s:Tr):∀ (p q:Nat) (m:Mk),m ∈ s.enc p -> ∃ m' ∈ s.enc q,m.op = m'.op /\ m.x = m'.x /\ m.y = m'.y:=by
 induction s with
 | leaf o x y => intro p q m hm; simp only [Tr.enc,List.mem_singleton] at hm ⊢; subst hm; exact ⟨_,rfl,rfl,rfl,rfl⟩
 | un o x a ih =>
  intro p q m hm
  simp only [Tr.enc,List.mem_append,List.mem_singleton] at hm ⊢
  rcases hm with hm | rfl
  ·obtain ⟨m',h1,h2⟩:=ih p q m hm; exact ⟨m',.inl h1,h2⟩
  ·exact ⟨_,.inr rfl,rfl,rfl,rfl⟩
 | bin o a b iha ihb =>
  intro p q m hm
  simp only [Tr.enc,List.mem_append,List.mem_singleton] at hm ⊢
  rcases hm with hm | hm | rfl
  ·obtain ⟨m',h1,h2⟩:=iha p q m hm; exact ⟨m',.inl h1,h2⟩
  ·obtain ⟨m',h1,h2⟩:=ihb _ (q + a.size) m hm; exact ⟨m',.inr (.inl h1),h2⟩
  ·exact ⟨_,.inr (.inr rfl),rfl,rfl,rfl⟩
theorem zly {t:Tr} (ok:t.ok) (hs:t.size < 64) (h:zai (t.enc 0) 3 true = 0):(Tr.un 9 0 t).ok /\ zai ((Tr.un 9 0 t).enc 0) 3 true = 0:=by
 obtain ⟨_,hf,hn⟩:=(zca _ _).1 h
 have okn:(Tr.un 9 0 t).ok:=un_ok (.inl ⟨rfl,rfl⟩) ok
 refine ⟨okn,(zca _ _).2 ⟨by simp,zc4 _ okn (by simp only [Tr.size]; omega),fun m hm => ?_⟩⟩
 simp only [Tr.enc,List.mem_append,List.mem_singleton] at hm
 rcases hm with hm | rfl
 ·exact hn m hm
 ·simp [knows,zak,nv]
theorem zjy {t s:Tr} (op:Int) (hop:op = 10 \/ op = 11) (ok:t.ok) (ok2:s.ok) (hs:t.size + s.size < 64) (h:zai (t.enc 0) 3 true = 0) (h2:zai (s.enc 0) 3 true = 0):(Tr.bin op t s).ok /\ zai ((Tr.bin op t s).enc 0) 3 true = 0:=by
 obtain ⟨_,hf,hn⟩:=(zca _ _).1 h
 obtain ⟨_,hf2,hn2⟩:=(zca _ _).1 h2
 have okn:(Tr.bin op t s).ok:=bin_ok hop ok ok2
 refine ⟨okn,(zca _ _).2 ⟨by simp,zc4 _ okn (by simp only [Tr.size]; omega),fun m hm => ?_⟩⟩
 simp only [Tr.enc,List.mem_append,List.mem_singleton] at hm
 rcases hm with hm | hm | rfl
 ·exact hn m hm
 ·obtain ⟨m',h1,h2,h3,h4⟩:=enc_sh s _ 0 m hm
  have:=hn2 m' h1
  rw [h2,zmd 3 h2 h3 h4]; exact this
 ·rcases hop with rfl | rfl <;> simp [knows,zak,nv]
theorem zlv {f:List Mk} {V M:Nat} (h:(compS f V M).2 = 0):1 <= M /\ M <= 64 /\ ∃ t:Tr,CkT f V t /\ ∃ d,cmpT V M t = some d /\ compS f V M = (d.raw V,0) /\ zai f V true = 0:=by
 by_cases hc:zai f V true = 0
 ·by_cases hM:(M:Int) < 1 \/ 64 < (M:Int)
  ·unfold compS at h
   rw [if_neg (by omega),if_pos hM] at h
   cases h
  ·obtain ⟨V',t,hV,ck⟩:=zd5 hc
   have hVe:V = V':=by omega
   subst hVe
   refine ⟨by omega,by omega,t,ck,?_⟩
   have e:=zne ck hc (M:=M) (by omega) (by omega)
   rw [e] at h ⊢
   cases hd:cmpT V M t with
   | none => rw [hd] at h; cases h
   | some d => exact ⟨d,rfl,rfl,hc⟩
 ·unfold compS at h
  rw [if_pos hc] at h
  exact absurd h hc
theorem ze1 {f:List Mk} {V M:Nat} {t:Tr} (hV:V <= 3) (h1:1 <= M) (hM:M <= 64) (hc:zai f V true = 0) (ok:t.ok) (he:f = t.enc 0):compS f V M = ((Res V (cmpT V M t)).1,((Res V (cmpT V M t)).2:Int)):=by
 unfold compS
 rw [if_neg (by omega),if_neg (by omega),Int.toNat_natCast,Int.toNat_natCast,he,zlq V M t ok 0 []]
 cases cmpT V M t <;> rfl
structure BoolL (x y:List Mk) (a b:Dta):Prop where
 fa:a.Fit 3
 fb:b.Fit 3
 ea:compS x 3 64 = (a.raw 3,0)
 eb:compS y 3 64 = (b.raw 3,0)
 not:∃ f g,wrapS x ⟨9,0,0,0,0⟩ = (f,0) /\ compS f 3 64 = (a.notM.raw 3,0) /\ wrapS f ⟨9,0,0,0,0⟩ = (g,0) /\ compS g 3 64 = (a.raw 3,0)
 and:∃ f,joinS 10 x y = (f,0) /\ compS f 3 64 = ((opR a b (fun p q => p && q) 3).1,((opR a b (fun p q => p && q) 3).2:Int))
 or:∃ f,joinS 11 x y = (f,0) /\ compS f 3 64 = ((opR a b (fun p q => p || q) 3).1,((opR a b (fun p q => p || q) 3).2:Int))
theorem zr1 {x y:List Mk} (hx:(compS x 3 64).2 = 0) (hy:(compS y 3 64).2 = 0) (hl:x.length <= 9) (hm:y.length <= 9):∃ a b,BoolL x y a b:=by
 obtain ⟨_,_,t,ck,a,ha,ea,ca⟩:=zlv (V:=3) (M:=64) hx
 obtain ⟨_,_,s,ck2,b,hb,eb,cb⟩:=zlv (V:=3) (M:=64) hy
 have fa:=zd4 (by omega) (by omega) t ck.v a ha
 have fb:=zd4 (by omega) (by omega) s ck2.v b hb
 have cna:=zrx (by omega) (by omega) t ck.v ha
 have sz:=ck.size; have sz2:=ck2.size
 refine ⟨a,b,fa,fb,ea,eb,?_,?_,?_⟩
 ·obtain ⟨ok1,c1⟩:=zly ck.ok (by omega) (by rw [<- ck.enc]; exact ca)
  obtain ⟨ok2,c2⟩:=zly ok1 (by simp only [Tr.size]; omega) c1
  have w1:=zk4 t ck.ok 9 0 (by omega)
  have w2:=zk4 _ ok1 9 0 (by simp only [Tr.size]; omega)
  refine ⟨_,_,by rw [ck.enc]; exact w1,?_,w2,?_⟩
  ·have:=ze1 (V:=3) (M:=64) (by omega) (by omega) (by omega) c1 ok1 rfl
   rw [zeg,ha] at this
   exact this
  ·have:=ze1 (V:=3) (M:=64) (by omega) (by omega) (by omega) c2 ok2 rfl
   rw [zeg,zeg,ha] at this
   refine this.trans ?_
   show (a.notM.notM.raw 3,(0:Int)) = _
   rw [zov fa cna]
 ·obtain ⟨ok1,c1⟩:=zjy 10 (.inl rfl) ck.ok ck2.ok (by omega) (by rw [<- ck.enc]; exact ca) (by rw [<- ck2.enc]; exact cb)
  have w1:=zlj t s ck.ok ck2.ok 10 (.inl rfl) (by omega)
  refine ⟨_,by rw [ck.enc,ck2.enc]; exact w1,?_⟩
  have:=ze1 (V:=3) (M:=64) (by omega) (by omega) (by omega) c1 ok1 rfl
  rw [zf8,ha,hb] at this
  rw [zdp]
  exact this
 ·obtain ⟨ok1,c1⟩:=zjy 11 (.inr rfl) ck.ok ck2.ok (by omega) (by rw [<- ck.enc]; exact ca) (by rw [<- ck2.enc]; exact cb)
  have w1:=zlj t s ck.ok ck2.ok 11 (.inr rfl) (by omega)
  refine ⟨_,by rw [ck.enc,ck2.enc]; exact w1,?_⟩
  have:=ze1 (V:=3) (M:=64) (by omega) (by omega) (by omega) c1 ok1 rfl
  rw [zf8,ha,hb] at this
  rw [zdp]
  exact this
end Go.Proofs.YthdabkmkgkkmcaaGreatDoor

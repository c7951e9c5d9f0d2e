/- Part 24 of the proof; it says: lemmas and contracts. No conditions but those that each theorem states. -/
import Derived.Test.YthdabkmkgkkmcaaGreatDoorPb01
import Derived.Test.YthdabkmkgkkmcaaGreatDoorPb22
import Derived.Test.YthdabkmkgkkmcaaGreatDoorPb23
set_option linter.unusedSimpArgs false
set_option linter.unusedVariables false
set_option maxRecDepth 100000
set_option maxHeartbeats 32000000
namespace Go.Proofs.YthdabkmkgkkmcaaGreatDoor
theorem nc_oneC {op:Int} (h:nc op = 1):op = 9 \/ 12 <= op /\ op <= 15:=by
 unfold nc at h
 split at h
 ·cases h
 ·split at h
  ·assumption
  ·cases h
theorem nc_twoC {op:Int} (h:nc op = 2):op = 10 \/ op = 11:=by
 unfold nc at h
 split at h
 ·assumption
 ·split at h <;> cases h
def Tr.vOK (V:Nat):Tr -> Prop
 | .leaf op x y => 0 <= x /\ 0 <= y
 | .un op x a => (op = 9 \/ 12 <= op /\ op <= 15 /\ 0 <= x /\ x < V) /\ a.vOK V
 | .bin op a b => (op = 10 \/ op = 11) /\ a.vOK V /\ b.vOK V
theorem vOK_of {V:Nat} (t:Tr):t.ok -> ∀ p:Nat,(∀ m ∈ t.enc p,zak m V = true) -> t.vOK V:=by
 induction t with
 | leaf op x y =>
  intro h p hm
  have h1:=h.2.2.1
  have h2:=h.2.2.2
  simp only [zak,spare,Bool.and_eq_true,Bool.or_eq_true,decide_eq_true_eq] at h1 h2
  exact ⟨by omega,by omega⟩
 | un op x a ih =>
  intro h p hm
  refine ⟨?_,ih h.2 p fun m hx => hm m (by simp [Tr.enc,hx])⟩
  rcases nc_oneC h.1.2.1 with e | e
  ·exact .inl e
  ·right
   have h1:=hm ⟨op,x,0,((p + a.size - 1:Nat):Int),0⟩ (by simp [Tr.enc])
   have h2:nv op = 1:=by unfold nv; rw [if_pos (by omega)]
   simp only [zak,h2,Bool.and_eq_true,Bool.or_eq_true,decide_eq_true_eq] at h1
   exact ⟨e.1,e.2,by omega,by omega⟩
 | bin op a b iha ihb =>
  intro h p hm
  exact ⟨nc_twoC h.1,iha h.2.1 p fun m hx => hm m (by simp [Tr.enc,hx]),ihb h.2.2 (p + a.size) fun m hx => hm m (by simp [Tr.enc,hx])⟩
structure CkT (f:List Mk) (V:Nat) (t:Tr):Prop where
 v3:V <= 3
 ok:t.ok
 enc:f = t.enc 0
 v:t.vOK V
 len:f.length <= 64
 size:t.size = f.length
theorem zd5 {f:List Mk} {vars:Int} (h:zai f vars true = 0):∃ (V:Nat) (t:Tr),vars = V /\ CkT f V t:=by
 obtain ⟨hl,t,h1,h2,h3⟩:=zg1 f (zdw h)
 have hc:0 <= vars /\ vars <= 3 /\ chk f vars (knows true) = 0:=by
  unfold zai at h
  by_cases hn:vars < 0 \/ (if true = true then (3:Int) else 6) < vars
  ·rw [if_pos hn] at h; omega
  ·rw [if_neg hn] at h; simp at hn; exact ⟨by omega,by omega,h⟩
 obtain ⟨V,rfl⟩:=Int.eq_ofNat_of_zero_le hc.1
 obtain ⟨_,_,_,h4⟩:=ze3 hc.2.2
 refine ⟨V,t,rfl,by have:=hc.2.1; omega,h1,h3,vOK_of t h1 0 fun m hm => ?_,hl,h2⟩
 rw [<- h3] at hm
 obtain ⟨i,hi⟩:=List.mem_iff_getElem?.1 hm
 exact (zbi (h4 i m hi)).2.2.1
theorem zd4 {V M:Nat} (hV:V <= 3) (hM:M <= 64) (t:Tr):t.vOK V -> ∀ d,cmpT V M t = some d -> d.Fit V:=by
 induction t with
 | leaf op x y =>
  intro _ d h
  have e:some (atomA op x y V).mini = some d:=h
  have e2:=Option.some.inj e
  rw [<- e2]
  exact zet (zcj op x y hV)
 | un op x a ih =>
  intro hv d h
  obtain ⟨e,h1,h2⟩:=Option.bind_eq_some_iff.1 (show (cmpT V M a).bind (unC V M op x) = some d from h)
  exact zns (ih hv.2 e h1) (by rcases hv.1 with h | h; exact .inl h; exact .inr ⟨h.2.2.1,h.2.2.2⟩) hM h2
 | bin op a b iha ihb =>
  intro hv d h
  obtain ⟨e,h1,h2⟩:=Option.bind_eq_some_iff.1 (show ((cmpT V M a).bind fun d => (cmpT V M b).bind fun e => opC (binG op) d e) = some d from h)
  obtain ⟨e2,h3,h4⟩:=Option.bind_eq_some_iff.1 h2
  exact zbz (iha hv.2.1 e h1) (ihb hv.2.2 e2 h3) h4
def compS (f:List Mk) (V M:Int):Raw × Int :=
 if zai f V true ≠ 0 then (zeroR,zai f V true)
 else if M < 1 \/ 64 < M then (zeroR,1)
 else match f.foldl (stepC V.toNat M.toNat) (some []) with
  | some (d :: _) => (d.raw V.toNat,0)
  | _ => (zeroR,10)
theorem zne {f:List Mk} {V M:Nat} {t:Tr} (h:CkT f V t) (hc:zai f V true = 0) (h1:1 <= M) (hM:M <= 64):compS f V M = match cmpT V M t with
  | some d => (d.raw V,0)
  | none => (zeroR,10):=by
 unfold compS
 rw [if_neg (by omega),if_neg (by omega),Int.toNat_natCast,Int.toNat_natCast,h.enc,zlq V M t h.ok 0 []]
 cases cmpT V M t <;> rfl
end Go.Proofs.YthdabkmkgkkmcaaGreatDoor

/- Part 26 of the proof; it says: lemmas and contracts. No conditions but those that each theorem states. -/
import Derived.BigRegion
import Derived.Deep.RegionHeld3
import Derived.Test.YthkfjnmnoanhlaaGreatDoorMt01
import Derived.Test.YthkfjnmnoanhlaaGreatDoorMt02
import Derived.Test.YthkfjnmnoanhlaaGreatDoorMt17
import Derived.Test.YthkfjnmnoanhlaaGreatDoorMt25
set_option linter.unusedSimpArgs false
set_option linter.unusedVariables false
namespace Go.Proofs.YthkfjnmnoanhlaaGreatDoor
open Go.RowKit
structure PxI (w : World) (V E : Nat) (vn vf : Value) (W : World) : Prop where
 below : Below w.heap.size w W
 ra : Row W w.heap.size 25 #[.int .i64 (V : Int), .int .i64 (E : Int), vn, vf]
 rr : Row W (w.heap.size + 1) 25 #[.int .i64 0, .int .i64 0, .slice none 0 0, .slice none 0 0]
theorem PxI.to {w W X : World} {V E : Nat} {vn vf : Value} (h : PxI w V E vn vf W) (hb : Below W.heap.size W X) : PxI w V E vn vf X :=
 ⟨h.below.trans (hb.mono h.below.size), h.ra.below hb h.ra.lt, h.rr.below hb h.rr.lt⟩
theorem PxI.own {w W X : World} {V E : Nat} {vn vf v : Value} {xs : List Value} {T : TypeId} (h : PxI w V E vn vf W) (hE : 25 ≠ T) (hv : VO T W w.heap.size v xs) (hg : W.grownBy X v.ownBlock) : PxI w V E vn vf X :=
 ⟨zaf h.below hv hg h.below.size, h.ra.far_own hE hv.2 hg, h.rr.far_own hE hv.2 hg⟩
structure PyI (w : World) (V E gD : Nat) (vn vf vN vF pk : Value) (ks : List (List Int)) (L3 : List (List (List Int))) (lf : List Bool) (W : World) : Prop where
 pr : PxI w V E vn vf W
 gB : w.heap.size + 1 < gD
 rd : Row W gD 25 #[.int .i64 (V : Int), .int .i64 0, vN, vF]
 o3 : O3 W w.heap.size vN L3
 of : OB W w.heap.size vF lf
 ok : O2 W w.heap.size pk ks
theorem PyI.to {w W X : World} {V E gD : Nat} {vn vf vN vF pk : Value} {ks : List (List Int)} {L3 : List (List (List Int))} {lf : List Bool} (h : PyI w V E gD vn vf vN vF pk ks L3 lf W) (hb : Below W.heap.size W X) : PyI w V E gD vn vf vN vF pk ks L3 lf X :=
 ⟨h.pr.to hb, h.gB, h.rd.below hb h.rd.lt, h.o3.below hb zn, OB.below h.of hb zn, h.ok.below hb zn⟩
theorem PyI.next {w W X : World} {V E gD i c' : Nat} {vn vf vF pk u v4 : Value} {A : Option Addr} {vs : List Value} {ks : List (List Int)} {L3 : List (List (List Int))} {l2 : List (List Int)} {lf : List Bool} (h : PyI w V E gD vn vf (.slice A i c') vF pk ks L3 lf W)
  (h1 : VO 54 W w.heap.size (.slice A i c') vs) (h2 : V2 W w.heap.size vs L3) (hu : O2 W w.heap.size u l2) (ho : VO 54 X w.heap.size v4 (vs ++ [u])) (hg : (W.alloc (.cells #[u] 54)).grownBy X (Value.slice A i c').ownBlock) :
  PyI w V E gD vn vf v4 vF pk ks (L3 ++ [l2]) lf (X.setCell ⟨gD, 2, none⟩ v4) := by
 have hA := Below.alloc (Below.refl W.heap.size W) zn (.cells #[u] 54)
 have hv := VO.allocd h1 (.cells #[u] 54)
 have hV24 := V2.far (V2.below h2 hA zn) (by decide) (by decide) hv hg
 have hO24 := O2.far (O2.below hu hA zn) (by decide) (by decide) hv hg
 have hF4 := OB.far (OB.below h.of hA zn) (by decide) hv hg
 have hK4 := O2.far (O2.below h.ok hA zn) (by decide) (by decide) hv hg
 have hP := PxI.own (h.pr.to hA) (by decide) hv hg
 have hR := (Row.alloc h.rd (.cells #[u] 54)).far_own (by decide) hv.2 hg
 have hO3 : O3 X w.heap.size v4 (L3 ++ [l2]) := ⟨_, ho, hV24.snoc hO24⟩
 have hgB := h.gB
 exact ⟨⟨hP.below.setCell (p := ⟨gD, 2, none⟩) (by show w.heap.size <= gD; omega) _, hP.ra.far (by show w.heap.size ≠ gD; omega) _, hP.rr.far (by show w.heap.size + 1 ≠ gD; omega) _⟩, hgB, hR.set 2 _, hO3.setRow hR (by decide) (by decide) (by decide) 2 _, hF4.setRow hR (by decide) 2 _, hK4.turns (Turns.cell X ⟨gD, 2, none⟩ v4) (hR.notT (by decide)) (hR.notT (by decide))⟩
theorem PyI.fin {w W X : World} {V E gD i c' : Nat} {vn vf vN pk v4 : Value} {A : Option Addr} {ks : List (List Int)} {L3 : List (List (List Int))} {lf : List Bool} {b : Bool} (h : PyI w V E gD vn vf vN (.slice A i c') pk ks L3 lf W)
  (ho : VO 4 X w.heap.size v4 (bL lf ++ [.bool b])) (hg : (W.alloc (.cells #[.bool b] 4)).grownBy X (Value.slice A i c').ownBlock) :
  PyI w V E gD vn vf vN v4 pk ks L3 (lf ++ [b]) (X.setCell ⟨gD, 3, none⟩ v4) := by
 have hA := Below.alloc (Below.refl W.heap.size W) zn (.cells #[.bool b] 4)
 have hv := VO.allocd (show VO 4 W w.heap.size (.slice A i c') (bL lf) from h.of) (.cells #[.bool b] 4)
 have hN4 := O3.far (O3.below h.o3 hA zn) (by decide) (by decide) (by decide) hv hg
 have hK4 := O2.far (O2.below h.ok hA zn) (by decide) (by decide) hv hg
 have hP := PxI.own (h.pr.to hA) (by decide) hv hg
 have hR := (Row.alloc h.rd (.cells #[.bool b] 4)).far_own (by decide) hv.2 hg
 have hF : OB X w.heap.size v4 (lf ++ [b]) := by
  show VO _ _ _ _ _
  have e : bL (lf ++ [b]) = bL lf ++ [.bool b] := by simp [bL]
  rw [e]; exact ho
 have hgB := h.gB
 exact ⟨⟨hP.below.setCell (p := ⟨gD, 3, none⟩) (by show w.heap.size <= gD; omega) _, hP.ra.far (by show w.heap.size ≠ gD; omega) _, hP.rr.far (by show w.heap.size + 1 ≠ gD; omega) _⟩, hgB, hR.set 3 _, hN4.setRow hR (by decide) (by decide) (by decide) 3 _, OB.setRow hF hR (by decide) 3 _, hK4.turns (Turns.cell X ⟨gD, 3, none⟩ v4) (hR.notT (by decide)) (hR.notT (by decide))⟩
set_option maxRecDepth 100000 in
set_option maxHeartbeats 32000000 in
theorem zj5 (d : Dta) (V v M : Nat) (hd : d.Fit V) (hv : v < V) (hM1 : 1 <= M) (hM : M <= 64) (va : Value) (w : World) (hva : TD w va (d.raw V)) :
  Calls Tryz.prog 17 #[va, .int .i64 (v : Int), .int .i64 (M : Int)] w (RetR w (exR d v M V).1 (exR d v M V).2) := by
 have hck := fun W (h : Below w.heap.size w W) => zbe (d.raw V) va W (hva.below h zn) (by have := hd.n64; exact ⟨by rw [(d.raw_len V).1]; omega, by rw [(d.raw_len V).2]; omega⟩)
 rw [d.raw_check hd] at hck
 have hPE := zcm hd.ok hd.L hv
 have he64 : d.e < 64 := Nat.lt_of_lt_of_le hd.ok.he hd.n64
 have hkP : (2 ^ d.e : Nat) < 2 ^ d.n := Nat.pow_lt_pow_right (by omega) hd.ok.he
 have HLONG : Hid (∀ o : List Nat, KsI (setF d v) d.L (2 ^ d.e) (fun S => S < 2 ^ d.n) o -> M < o.length -> exR d v M V = (zeroR, 10)) := by
  intro o ho hl
  have := hPE.most ho.nodup ho.acc
  unfold exR
  rw [if_neg (by omega)]
 have HMI : Hid (∀ o : List Nat, KsI (setF d v) d.L (2 ^ d.e) (fun S => S < 2 ^ d.n) o -> ClE (setF d v) d.L o o.length -> o.length <= M -> ∀ u W, TD W u ((autE (setF d v) d.L (2 ^ d.e) o (zaz d)).raw V) -> Calls Tryz.prog 53 #[u] W (RetR W (exR d v M V).1 (exR d v M V).2)) := by
  intro o ho hc hl u W hu
  have hE := hc.expl ho
  have hfit : (autE (setF d v) d.L (2 ^ d.e) o (zaz d)).Fit V := ⟨hE.ok _, by show o.length <= 64; omega, hd.v3, hd.L⟩
  have h := zcy _ V hfit u W hu
  have hle := hE.len_eq hPE
  have e1 : exR d v M V = ((zat d v).raw V, 0) := by unfold exR; rw [if_pos (by omega)]
  have e2 : (autE (setF d v) d.L (2 ^ d.e) o (zaz d)).mini.raw V = (zat d v).raw V := (zc0 hd.ok hd.L hv hE).raw (Dta.mini_ok (hE.ok _)) (zc0 hd.ok hd.L hv hE).L V
  rw [e1, <- e2]
  exact h
 have HAT : Hid (∀ o : List Nat, KsI (setF d v) d.L (2 ^ d.e) (fun S => S < 2 ^ d.n) o -> ClE (setF d v) d.L o o.length -> ∀ l r x p q, o[l]? = some p -> o[r]? = some q -> x < d.L -> zda (o.map sE) (sE (setF d v p q x)) = (((autE (setF d v) d.L (2 ^ d.e) o (zaz d)).nx l r x : Nat) : Int)) := by
  intro o ho hc l r x p q hl hr hx
  have hm := (hc.expl ho).closed _ _ _ (List.mem_of_getElem? hl) (List.mem_of_getElem? hr) hx
  rw [zgw (P := fun S => S < 2 ^ d.n) (sE_inj hd.n64) ho.hP (ho.hP _ hm) hm]
  unfold autE
  dsimp only
  rw [getD_some hl, getD_some hr]
 have HFI : Hid (∀ o : List Nat, ∀ i p, o[i]? = some p -> (mem64 p).any d.fin = (autE (setF d v) d.L (2 ^ d.e) o (zaz d)).fin i) := by
  intro o i p hp
  show zaz d p = zaz d (o.getD i (2 ^ d.e))
  rw [getD_some hp]
 have HOK := zh (zeq hd.ok hd.L hv)
 have HS0 : Hid (KsI (setF d v) d.L (2 ^ d.e) (fun S => S < 2 ^ d.n) [2 ^ d.e]) := KsI.start hkP
 have HINJ := zh (sE_inj hd.n64)
 have HMEM : Hid (∀ S, S < 2 ^ d.n -> ∀ p ∈ mem64 S, p < d.n) := fun S hS p hp => zdu hS ((zax _ _).1 hp).2
 have hone := sE_one he64
 have HAF := zh (fun (W : World) (S T x : Nat) (hb : Below w.heap.size w W) (hS : S < 2 ^ d.n) (hT : T < 2 ^ d.n) (hx : x < d.L) vl vr (hl : N1 W vl (sE S)) (hr : N1 W vr (sE T)) => after20 d V v hd hv S T x hS hT hx va vl vr W (hva.below hb zn) hl hr)
 obtain ⟨vn, vf, rfl, hnA, hfA⟩ := hva
 rw [show (d.raw V).vars = (V : Int) from rfl, show (d.raw V).empty = (d.e : Int) from rfl] at hck HAF ⊢
 obtain ⟨b3, o3, c3, hNA⟩ := (show N3 w vn (nx3 d.n d.L d.nx) from hnA).nx hd.pos hd.L8.1
 obtain rfl := hNA.form
 obtain ⟨bk, ok, ck, rfl, hk1, hbk, hk2⟩ := (show NB w vf ((List.range d.n).map d.fin) from hfA).at hd.pos
 have hsh := za5 V hd.v3
 rw [<- hd.L] at hsh
 have hv3i : (V : Int) <= 3 := by have := hd.v3; omega
 have ha64 := hd.n64; have hL8 := hd.L8.2; have hpA := hd.pos; have heA := hd.ok.he
 have hcA := hNA.cap
 have b2 : ¬ ((V : Int) <= (v : Int)) := by omega
 have HKA := zh hk2
 have HLR : Hid (∀ o : List Nat, (autE (setF d v) d.L (2 ^ d.e) o (zaz d)).raw V = ⟨(V : Int), ((0 : Nat) : Int), rwI (autE (setF d v) d.L (2 ^ d.e) o (zaz d)).nx d.L o.length o.length, finL (autE (setF d v) d.L (2 ^ d.e) o (zaz d)).fin o.length⟩) := fun o => rfl
 obtain ⟨R, hR⟩ := zx ((exR d v M V).1)
 obtain ⟨code, hcode⟩ := zx ((exR d v M V).2)
 rw [<- hR, <- hcode]
 rw [<- hR, <- hcode] at HMI
 have HRL : Hid (∀ o : List Nat, KsI (setF d v) d.L (2 ^ d.e) (fun S => S < 2 ^ d.n) o -> M < o.length -> R = zeroR /\ code = 10) := by
  intro o h1 h2
  rw [hR, hcode, HLONG.out o h1 h2]
  exact ⟨rfl, rfl⟩
 obtain ⟨F, hF⟩ := zx (setF d v)
 obtain ⟨PD, hPD⟩ := zx (fun o => autE (setF d v) d.L (2 ^ d.e) o (zaz d))
 obtain ⟨PP, hPP⟩ : ∃ P : Nat -> Prop, P = fun S => S < 2 ^ d.n := ⟨_, rfl⟩
 obtain ⟨KE, hKE⟩ := zx (2 ^ d.e)
 have HMI := zh (show ∀ o, KsI F d.L KE PP o -> ClE F d.L o o.length -> o.length <= M -> ∀ u W, TD W u ((PD o).raw V) -> Calls Tryz.prog 53 #[u] W (RetR W R code) by subst hF; subst hPD; subst hPP; subst hKE; exact HMI.out)
 have HAT := zh (show ∀ o, KsI F d.L KE PP o -> ClE F d.L o o.length -> ∀ l r x p q, o[l]? = some p -> o[r]? = some q -> x < d.L -> zda (o.map sE) (sE (F p q x)) = (((PD o).nx l r x : Nat) : Int) by subst hF; subst hPD; subst hPP; subst hKE; exact HAT.out)
 have HFI := zh (show ∀ (o : List Nat) i p, o[i]? = some p -> (mem64 p).any d.fin = (PD o).fin i by subst hPD; exact HFI.out)
 have HLR := zh (show ∀ (o : List Nat), (PD o).raw V = ⟨(V : Int), ((0 : Nat) : Int), rwI (PD o).nx d.L o.length o.length, finL (PD o).fin o.length⟩ by subst hPD; exact HLR.out)
 have HOK := zh (show ∀ S T x, PP S -> PP T -> x < d.L -> PP (F S T x) by subst hF; subst hPP; exact HOK.out)
 have HS0 := zh (show KsI F d.L KE PP [KE] by subst hF; subst hPP; subst hKE; exact HS0.out)
 have HRL := zh (show ∀ o : List Nat, KsI F d.L KE PP o -> M < o.length -> R = zeroR /\ code = 10 by subst hF; subst hPP; subst hKE; exact HRL.out)
 have HINJ := zh (show ∀ a b, PP a -> PP b -> sE a = sE b -> a = b by subst hPP; exact HINJ.out)
 have HMEM := zh (show ∀ S, PP S -> ∀ p ∈ mem64 S, p < d.n by subst hPP; exact HMEM.out)
 have HAF := zh (show ∀ (W : World) (S T x : Nat), Below w.heap.size w W -> PP S -> PP T -> x < d.L -> ∀ vl vr, N1 W vl (sE S) -> N1 W vr (sE T) -> Calls Tryz.prog 61 #[.agg #[.int .i64 (V : Int), .int .i64 (d.e : Int), .slice (some ⟨b3, o3, none⟩) d.n c3, .slice (some ⟨bk, ok, none⟩) d.n ck], vl, vr, .int .i64 (x : Int), .int .i64 (v : Int)] W fun e w' => ∃ A c, e = .returned (.slice A (sE (F S T x)).length c) /\ Below W.heap.size W w' /\ O1 w' W.heap.size (.slice A (sE (F S T x)).length c) (sE (F S T x)) by
  subst hF; subst hPP
  intro W S T x h1 h2 h3 h4 vl vr h5 h6
  have hq := HAF.out W S T x h1 h2 h3 h4 vl vr h5 h6
  have hl := zky (setF d v S T x)
  rw [hl]
  exact hq)
 rw [<- hKE] at hone
 clear hnA hfA hNA hk2 hPE HLONG hR hcode hd hv hF hPD hPP hkP hKE he64
 obtain ⟨L, hL⟩ := zx d.L
 obtain ⟨NA, hNNA⟩ := zx d.n
 obtain ⟨EE, hEA⟩ := zx d.e
 obtain ⟨fin, hfin⟩ := zx d.fin
 rw [<- hL] at hsh hL8 HMI HAT HRL HOK HS0 HLR HAF
 rw [<- hNNA] at ha64 hpA heA hcA HKA hk1 HMEM HAF
 rw [<- hEA] at heA HAF hone
 rw [<- hfin] at HFI HKA
 rw [<- hNNA, <- hEA] at hck
 rw [<- hNNA, <- hEA]
 have HCA := zh hck; have HONE := zh hone
 clear hL hNNA hEA hck hfin hone
 obtain ⟨hca1, hca2⟩ := hcA
 have b1 : ¬ ((v : Int) < 0) := by omega
 have b3' : ¬ ((M : Int) < 1) := by omega
 have b4' : ¬ ((64 : Int) < (M : Int)) := by omega
 go_enter Tryz.func17, Tryz.ntmps17
 go_upto_region 1 with fail
 refine zab (PxI w V EE (.slice (some ⟨b3, o3, none⟩) NA c3) (.slice (some ⟨bk, ok, none⟩) NA ck)) ⟨by go_grown, (Row.new _ _ _).alloc _, Row.lit (by simp)⟩ ?_
 rintro W hI
 have y0 := hI.ra.cell
 have HI := zh hI
 clear hI
 go_upto_region 4 with (go_at_call 52; refine (HCA.out _ HI.out.below).mono ?_; rintro e w2 ⟨rfl, hb2⟩; have HI3 := zh (HI.out.to hb2); clear hb2)
 clear y0 HI HCA
 have y0 := HI3.out.ra.cell
 go_upto_region 9 with fail
 clear b1 b2 b3' b4'
 refine zab (fun X => ∃ gk, gk = w2.heap.size + 1 /\ PxI w V EE (.slice (some ⟨b3, o3, none⟩) NA c3) (.slice (some ⟨bk, ok, none⟩) NA ck) X /\ O2 X w.heap.size (.slice (some ⟨gk, 0, none⟩) 1 1) ([KE].map sE)) ⟨_, rfl, HI3.out.to (by go_grown), by
  show O2 _ _ _ [sE KE]
  rw [HONE.out]
  exact (O2.lit1 w2 [(EE : Int)] (by simp)).mono HI3.out.below.size⟩ ?_
 clear y0 HI3
 rintro W0 ⟨gk, hgk, hI, hO⟩
 rw [<- hgk]
 have HI := zh hI; have HO := zh hO
 clear hI hO hgk HONE
 go_wp2
 go_loopg [9, 10] 65 (fun gk q10 q11 wr => ∃ (o : List Nat) (k : Nat), gk = 65 - k /\ q11 = .int .i64 k /\ KsI F L KE PP o /\ ClE F L o k /\ k <= o.length /\ o.length <= M /\ PxI w V EE (.slice (some ⟨b3, o3, none⟩) NA c3) (.slice (some ⟨bk, ok, none⟩) NA ck) wr /\ O2 wr w.heap.size q10 (o.map sE))
 case atStart => exact ⟨[KE], 0, by omega, rfl, HS0.out, ClE.zero _, by simp, by simpa using hM1, HI.out, HO.out⟩
 case round =>
  clear HI HO HS0
  obtain ⟨o, k, rfl, rfl, hks, hcl, hkl, hol, hi, ho⟩ := hrel
  obtain ⟨m, hm⟩ := zx o.length
  obtain ⟨A10, c10, rfl⟩ := O2.formN (m := m) ho (by rw [List.length_map, hm])
  have HKS := zh hks; have HCL := zh hcl; have HI := zh hi; have HO := zh ho
  rw [<- hm] at hkl hol
  have HM := zh hm
  clear hks hcl hi ho hm
  by_cases hlt : k < m
  ·have hlti : (k : Int) < (m : Int) := by omega
   have HR := zh (XpR.start HKS.out HCL.out (by rw [<- HM.out]; exact hlt))
   have hk64 : k < 64 := by omega
   clear HKS HCL
   go_wp2
   go_loopg [9, 11] (k + 1) (fun gk q10 q12 wr => ∃ (o : List Nat) (j : Nat), j <= k + 1 /\ gk = k + 1 - j /\ q12 = .int .i64 j /\ XpR F L KE PP o k j 0 /\ o.length <= M /\ PxI w V EE (.slice (some ⟨b3, o3, none⟩) NA c3) (.slice (some ⟨bk, ok, none⟩) NA ck) wr /\ O2 wr w.heap.size q10 (o.map sE))
   case atStart => exact ⟨o, 0, by omega, rfl, rfl, HR.out, by rw [<- HM.out]; exact hol, HI.out, HO.out⟩
   case round =>
    clear HR HI HO HM hlt hlti hkl hol
    obtain ⟨o, j, hj, rfl, rfl, hr, hol, hi, ho⟩ := hrel
    have HR := zh hr; have HI := zh hi; have HO := zh ho
    clear hr hi ho
    by_cases hjk : j <= k
    ·have hjki : (j : Int) <= (k : Int) := by omega
     go_wp2
     go_loopg [9, 12] L (fun gk q10 q13 wr => ∃ (o : List Nat) (x : Nat), x <= L /\ gk = L - x /\ q13 = .int .i64 x /\ XpR F L KE PP o k j x /\ o.length <= M /\ PxI w V EE (.slice (some ⟨b3, o3, none⟩) NA c3) (.slice (some ⟨bk, ok, none⟩) NA ck) wr /\ O2 wr w.heap.size q10 (o.map sE))
     case atStart => exact ⟨o, 0, by omega, rfl, rfl, HR.out, hol, HI.out, HO.out⟩
     case round =>
      clear HR HI HO hol
      obtain ⟨o, x, hx, rfl, rfl, hr, hol, hi, ho⟩ := hrel
      obtain ⟨W0, hW0⟩ := zx wr
      subst hW0
      obtain ⟨m, hm⟩ := zx o.length
      obtain ⟨A10, c10, rfl⟩ := O2.formN (m := m) ho (by rw [List.length_map, hm])
      rw [<- hm] at hol
      have hkm : k < m := by rw [hm]; exact hr.lt
      have y0 := hi.ra.cell
      by_cases hxl : x < L
      ·have hxli : (x : Int) < (L : Int) := by omega
       have hjm : (j : Int) < (m : Int) := by omega
       have hkmi : (k : Int) < (m : Int) := by omega
       obtain ⟨p, hp⟩ : ∃ p, o[j]? = some p := ⟨_, List.getElem?_eq_getElem (by omega)⟩
       obtain ⟨q, hq⟩ : ∃ p, o[k]? = some p := ⟨_, List.getElem?_eq_getElem (by omega)⟩
       obtain ⟨g10, Ap, cp, rfl, hg10, cj, hoj⟩ := ho.at (i := j) (l := sE p) (by rw [List.getElem?_map, hp]; rfl)
       obtain ⟨g10', Aq, cq, e10, _, ck', hok⟩ := ho.at (i := k) (l := sE q) (by rw [List.getElem?_map, hq]; rfl)
       simp only [Option.some.injEq, Addr.mk.injEq, and_true] at e10
       obtain rfl := e10
       have hPp := hr.ks.hP _ (List.mem_of_getElem? hp)
       have hPq := hr.ks.hP _ (List.mem_of_getElem? hq)
       have HST := zh (hr.step HOK.out hjk hxl hp hq)
       have HKN : Hid (∀ z, z = 0 \/ z = 1 -> KsI F L KE PP (adE o (F p q x) (F q p x) (z + 1))) := by
        rintro z (rfl | rfl)
        ·exact hr.ks.add HOK.out (List.mem_of_getElem? hp) (List.mem_of_getElem? hq) hxl
        ·exact HST.out.ks
       have hin1 := HOK.out p q x hPp hPq hxl
       have hin2 := HOK.out q p x hPq hPp hxl
       have HC1 := zh (fun (W : World) (hb : Below W0.heap.size W0 W) => HAF.out W p q x (hi.below.trans (hb.mono hi.below.size)) hPp hPq hxl _ _ (O1.n1 (VO.below hoj hb zn)) (O1.n1 (VO.below hok hb zn)))
       have HC2 := zh (fun (W : World) (hb : Below W0.heap.size W0 W) => HAF.out W q p x (hi.below.trans (hb.mono hi.below.size)) hPq hPp hxl _ _ (O1.n1 (VO.below hok hb zn)) (O1.n1 (VO.below hoj hb zn)))
       have hlp : (sE p).length <= 64 := by rw [zky]; exact zeb _
       obtain ⟨lp, hlp'⟩ := zx ((sE p).length)
       obtain ⟨lq, hlq'⟩ := zx ((sE q).length)
       rw [<- hlp'] at cj HC1 HC2
       rw [<- hlq'] at ck' HC1 HC2
       obtain ⟨s1, hs1⟩ := zx (F p q x)
       obtain ⟨s2, hs2⟩ := zx (F q p x)
       rw [<- hs1] at HC1
       rw [<- hs2] at HC2
       rw [<- hs1, <- hs2] at HST HKN
       rw [<- hs1] at hin1
       rw [<- hs2] at hin2
       have HR := zh hr; have HI := zh hi; have HO := zh ho; have HM := zh hm; have HIN1 := zh hin1; have HIN2 := zh hin2
       have HCJ := zh cj; have HCK := zh ck'
       clear hr hi ho hm hp hq hin1 hin2 hs1 hs2 hlp' hlq' hlp hoj hok hPp hPq cj ck'
       go_upto_region 18 with fail
       have HSX : Hid (∀ X, Below W0.heap.size W0 X -> X.cell? ⟨w.heap.size, 0, none⟩ = some (.int .i64 (V : Int)) /\ X.cell? ⟨w.heap.size, 1, none⟩ = some (.int .i64 (EE : Int)) /\ X.cell? ⟨w.heap.size, 2, none⟩ = some (.slice (some ⟨b3, o3, none⟩) NA c3) /\ X.cell? ⟨w.heap.size, 3, none⟩ = some (.slice (some ⟨bk, ok, none⟩) NA ck) /\ X.cell? ⟨g10, j, none⟩ = some (.slice Ap lp cp) /\ X.cell? ⟨g10, k, none⟩ = some (.slice Aq lq cq)) := by
        intro X hX
        have hra := (HI.out.to hX).ra
        exact ⟨(hra.cell 0).trans rfl, (hra.cell 1).trans rfl, (hra.cell 2).trans rfl, (hra.cell 3).trans rfl, (hX.cell (p := ⟨g10, j, none⟩) hg10).trans HCJ.out, (hX.cell (p := ⟨g10, k, none⟩) hg10).trans HCK.out⟩
       clear y0
       go_cut [13] from 67 to 91 (fun u13 W => ∃ u1 u2 gb cb, u13 = .slice (some ⟨gb, 0, none⟩) 2 cb /\ W0.heap.size <= gb /\ Below W0.heap.size W0 W /\ BothI W W0.heap.size u13 u1 u2 (sE s1) (sE s2))
       case first =>
        refine wp_region_held_drew (S := (fun X => X.cell? ⟨w.heap.size, 0, none⟩ = some (.int .i64 (V : Int)) /\ X.cell? ⟨w.heap.size, 1, none⟩ = some (.int .i64 (EE : Int)) /\ X.cell? ⟨w.heap.size, 2, none⟩ = some (.slice (some ⟨b3, o3, none⟩) NA c3) /\ X.cell? ⟨w.heap.size, 3, none⟩ = some (.slice (some ⟨bk, ok, none⟩) NA ck) /\ X.cell? ⟨g10, j, none⟩ = some (.slice Ap lp cp) /\ X.cell? ⟨g10, k, none⟩ = some (.slice Aq lq cq))) (by kernel_rfl) (HSX.out _ (Below.refl _ _).drew) (fun hHeld => ?_)
        refine tk 0 (oi := ⟨some 67, _, _, _, _, _⟩) ?_
        try simp only [zp]
        refine tk 1 (oi := ⟨some 68, _, _, _, _, _⟩) ?_
        try simp only [zp]
        refine tk 2 (oi := ⟨some 69, _, _, _, _, _⟩) ?_
        try simp only [zp]
        refine tk 3 (oi := ⟨some 70, _, _, _, _, _⟩) ?_
        try simp only [zp]
        refine tk 4 (oi := ⟨some 71, _, _, _, _, _⟩) ?_
        try simp only [zp]
        refine tk 5 (oi := ⟨some 72, _, _, _, _, _⟩) ?_
        try simp only [zp]
        refine tk 6 (oi := ⟨some 73, _, _, _, _, _⟩) ?_
        try simp only [zp]
        refine tk 7 (oi := ⟨some 74, _, _, _, _, _⟩) ?_
        try simp only [zp]
        refine tk 8 (oi := ⟨some 75, _, _, _, _, _⟩) ?_
        try simp only [zp]
        refine tk 9 (oi := ⟨some 76, _, _, _, _, _⟩) ?_
        try simp only [zp]
        refine tk 10 (oi := ⟨some 77, _, _, _, _, _⟩) ?_
        try simp only [zp]
        refine tk 12 (oi := ⟨some 79, _, _, _, _, _⟩) ?_
        try simp only [zp]
        refine tk 13 (oi := ⟨some 80, _, _, _, _, _⟩) ?_
        try simp only [zp]
        refine tk 14 (oi := ⟨some 81, _, _, _, _, _⟩) ?_
        try simp only [zp]
        refine tk 15 (oi := ⟨some 82, _, _, _, _, _⟩) ?_
        try simp only [zp]
        refine tk 16 (oi := ⟨some 83, _, _, _, _, _⟩) ?_
        try simp only [zp]
        refine tk 17 (oi := ⟨some 84, _, _, _, _, _⟩) ?_
        try simp only [zp]
        refine tk 18 (oi := ⟨some 85, _, _, _, _, _⟩) ?_
        try simp only [zp]
        refine tk 19 (oi := ⟨some 86, _, _, _, _, _⟩) ?_
        try simp only [zp]
        refine tk 20 (oi := ⟨some 87, _, _, _, _, _⟩) ?_
        try simp only [zp]
        refine tk 21 (oi := ⟨some 88, _, _, _, _, _⟩) ?_
        try simp only [zp]
        refine tk 22 (oi := ⟨some 89, _, _, _, _, _⟩) ?_
        try simp only [zp]
        have d0 : Below W0.heap.size W0 W0.drew := (Below.refl _ _).drew
        refine wpAnyH_ready (rs := [11]) (by kernel_rfl) (by simp) ?_
        refine AllReadyH.cons rfl (fun K hK => ?_) AllReadyH.nil
        go_simp
        (go_at_call 61; refine (HC1.out _ d0).mono ?_; rintro ee wa ⟨A1, e1, rfl, hba, hoa⟩)
        have a1 : Below W0.heap.size W0 wa := d0.trans hba
        have O1A := zh (show O1 wa W0.heap.size _ (sE s1) from hoa)
        refine hK.out _ _ (HSX.out _ a1) (fun hHeld1 => ?_)
        clear hK K hHeld hoa hba
        try simp only [zp]
        refine wpAnyH_ready (rs := [23]) (by kernel_rfl) (by simp) ?_
        refine AllReadyH.cons rfl (fun K hK => ?_) AllReadyH.nil
        go_simp
        (go_at_call 61; refine (HC2.out _ a1).mono ?_; rintro ee wb ⟨A2, e2, rfl, hbb, hob⟩)
        have a2 : Below W0.heap.size W0 wb := a1.trans (hbb.mono a1.size)
        have O1B := zh (show O1 wb W0.heap.size _ (sE s2) from VO.mono hob a1.size)
        have O1A2 := zh (show O1 wb W0.heap.size _ (sE s1) from VO.below O1A.out hbb zn)
        refine hK.out _ _ (HSX.out _ a2) (fun hHeld2 => ?_)
        clear hK K hHeld1 hob hbb O1A
        try simp only [zp]
        refine wpAnyH_ready (rs := [24]) (by kernel_rfl) (by simp) ?_
        refine AllReadyH.cons rfl (fun K hK => ?_) AllReadyH.nil
        go_simp
        have a3 := a2.alloc a2.size (.cells #[.slice A1 (sE s1).length e1, .slice A2 (sE s2).length e2] 53)
        refine hK.out _ _ (HSX.out _ a3) (fun hHeld3 => ?_)
        clear hK K hHeld2
        try simp only [zp]
        refine tk 25 (oi := ⟨some 13, _, _, _, _, _⟩) ?_
        try simp only [zp]
        refine wpAnyH_done (by kernel_rfl) ?_ _
        have v3 := VO.lit (E := 53) (w := wb) (n := 2) [.slice A1 (sE s1).length e1, .slice A2 (sE s2).length e2] rfl (by omega) (by intro u hu; simp at hu; rcases hu with rfl | rfl <;> rfl)
        clear hHeld3
        go_wp2
        go_meet
        refine ⟨_, _, _, _, rfl, a2.size, a3, ⟨v3.mono a2.size, ?_, ?_⟩⟩
        ·exact VO.allocd O1A2.out _
        ·exact VO.allocd O1B.out _
       case rest =>
        obtain ⟨u1, u2, gb, cb, rfl, hgb, hbx, hbo⟩ := hcut
        have hap : Apart (.slice (some ⟨gb, 0, none⟩) 2 cb) (.slice (some ⟨g10, 0, none⟩) m c10) := by
         intro g h1 h2
         simp only [Value.ownBlock, Option.some.injEq] at h1 h2
         omega
        have HI1 := zh (HI.out.to hbx); have HO1 := zh (HO.out.below hbx zn); have HBO := zh (show BothI _ w.heap.size _ _ _ _ _ from ⟨hbo.vo.mono HI.out.below.size, hbo.o1.mono HI.out.below.size, hbo.o2.mono HI.out.below.size⟩); have HAP := zh hap
        have HKS := zh HR.out.ks
        clear hbx hbo hap hgb HI HO HSX HR HC1 HC2 HCJ HCK
        go_wp2
        go_loopg [9, 14] 2 (fun gk q10 q17 wr => ∃ (z : Nat), z <= 2 /\ gk = 2 - z /\ q17 = .int .i64 z /\ KsI F L KE PP (adE o s1 s2 z) /\ (adE o s1 s2 z).length <= m + z /\ PxI w V EE (.slice (some ⟨b3, o3, none⟩) NA c3) (.slice (some ⟨bk, ok, none⟩) NA ck) wr /\ O2 wr w.heap.size q10 ((adE o s1 s2 z).map sE) /\ BothI wr w.heap.size (.slice (some ⟨gb, 0, none⟩) 2 cb) u1 u2 (sE s1) (sE s2) /\ Apart (.slice (some ⟨gb, 0, none⟩) 2 cb) q10)
        case atStart => exact ⟨0, by omega, rfl, rfl, HKS.out, by rw [HM.out]; exact zn, HI1.out, HO1.out, HBO.out, HAP.out⟩
        case round =>
         clear HI1 HO1 HBO HAP HKS
         obtain ⟨z, hz, rfl, rfl, hks, hlz, hi, ho, hbo, hap⟩ := hrel
         obtain ⟨W2, hW2⟩ := zx wr
         subst hW2
         by_cases hz2 : z < 2
         ·obtain ⟨s, u, hsP, huv, huo, had⟩ : ∃ (s : Nat) (u : Value), PP s /\ [u1, u2][z]? = some u /\ O1 W2 w.heap.size u (sE s) /\ adE o s1 s2 (z + 1) = addS (adE o s1 s2 z) s := by
           have hz01 : z = 0 \/ z = 1 := by omega
           rcases hz01 with rfl | rfl
           ·exact ⟨_, _, HIN1.out, rfl, hbo.o1, rfl⟩
           ·exact ⟨_, _, HIN2.out, rfl, hbo.o2, rfl⟩
          obtain ⟨oz, hoz⟩ := zx (adE o s1 s2 z)
          rw [<- hoz] at hks hlz ho had
          obtain ⟨n, hn⟩ := zx oz.length
          rw [<- hn] at hlz
          obtain ⟨A10, c10', rfl⟩ := O2.formN (m := n) ho (by rw [List.length_map, hn])
          obtain ⟨gb', capb, csb, heb, _, hrb, _, _, hcb⟩ := hbo.vo.row (by simp)
          simp only [Value.slice.injEq, Option.some.injEq, Addr.mk.injEq, and_true] at heb
          obtain ⟨rfl, -, rfl⟩ := heb
          have cz := hcb z u huv
          obtain ⟨ls, hls⟩ := zx ((sE s).length)
          obtain ⟨Au, cu, rfl⟩ := VO.formN (n := ls) huo (by rw [zah, hls])
          have hz2i : (z : Int) < 2 := by omega
          obtain ⟨pz, hpz⟩ := zx (zda (oz.map sE) (sE s))
          have hcall := zo9 (oz.map sE) (sE s) (.slice A10 n c10') (.slice Au ls cu) W2 ho.n2 huo.n1 (by rw [List.length_map, <- hn]; omega) (by intro x hx; obtain ⟨p, _, rfl⟩ := List.mem_map.1 hx; rw [zky]; have := zeb p; omega)
          rw [<- hpz] at hcall
          have HCALL := zh hcall
          have HKS := zh hks; have HI := zh hi; have HO := zh ho; have HBO := zh hbo; have HAP := zh hap; have HUO := zh huo; have HAD := zh had; have HNN := zh hn; have HUV := zh huv
          by_cases hin : s ∈ oz
          ·have hzz : ¬ pz < 0 := by rw [hpz, zgw (P := PP) HINJ.out hks.hP hsP hin]; omega
           have HSAME : Hid (adE o s1 s2 (z + 1) = oz) := by unfold Hid; rw [had]; exact zkk hin
           clear hks hi ho hbo hap huo hcall hrb hcb had hn hpz hoz huv hls
           go_wp2_with (go_at_call 62; refine HCALL.out.mono ?_; rintro e w3 ⟨rfl, hb3⟩; have HB3 := zh hb3; clear hb3)
           go_roundg (2 - (z + 1))
           case rel => exact ⟨z + 1, by omega, rfl, by go_num, by rw [HSAME.out]; exact HKS.out, by rw [HSAME.out, <- HNN.out]; omega, HI.out.to HB3.out, by rw [HSAME.out]; exact HO.out.below HB3.out zn, HBO.out.to HB3.out, HAP.out⟩
           case measure => omega
          ·have hzz : pz < 0 := by rw [hpz, zn5 (P := PP) HINJ.out hks.hP hsP hin]; omega
           have HNEW : Hid (adE o s1 s2 (z + 1) = oz ++ [s]) := by unfold Hid; rw [had]; exact zkl hin
           have HKS2 : Hid (KsI F L KE PP (adE o s1 s2 (z + 1))) := by
            unfold Hid
            have hz01 : z = 0 \/ z = 1 := by omega
            exact HKN.out z hz01
           obtain ⟨vs, hv1, hv2⟩ := id ho
           have HV1 := zh hv1; have HV2 := zh hv2
           clear hks hi ho hbo hap huo hcall hrb hcb had hn hpz hoz hin huv hv1 hv2 hls
           go_wp2_with (first
            | (at_builtin; refine zaa eII rfl (.tmp 103) (.tmp 108) rfl w.heap.size _ _ rfl (VO.allocd HV3.out _) _ [.slice Au ls cu] rfl (VS.one (Row.new _ _ _)) (by intro u hu; simp at hu; subst hu; rfl) (by rw [HV2.out.1, List.length_map, <- HNN.out]; simp; omega) (by simp only [World.size_alloc]; have := HI3.out.below.size; omega) ?_; intro v4 w4 ho4 hg4 hob4; obtain ⟨A4, c4x, rfl⟩ := VO.formN (n := n + 1) ho4 (by rw [List.length_append, HV2.out.1, List.length_map, <- HNN.out]; rfl); have HO4 := zh ho4; have HG4 := zh hg4; have HOB4 := zh hob4; clear ho4 hg4 hob4)
            | (go_at_call 62; refine HCALL.out.mono ?_; rintro e w3 ⟨rfl, hb3⟩; have HB3 := zh hb3; have HI3 := zh (HI.out.to hb3); have HV3 := zh (HV1.out.below hb3 zn); have HBO3 := zh (HBO.out.to hb3); clear cz; obtain ⟨gb2, capb2, csb2, heb2, _, hrb2, _, _, hcb2⟩ := HBO3.out.vo.row (by simp); simp only [Value.slice.injEq, Option.some.injEq, Addr.mk.injEq, and_true] at heb2; obtain ⟨rfl, -, -⟩ := heb2; have cz := hcb2 z _ HUV.out; clear hb3 hrb2 hcb2))
           have hA := Below.alloc (Below.refl w3.heap.size w3) zn (.cells #[.slice Au ls cu] 53)
           have hV24 := V1.far (V1.below (V1.below HV2.out HB3.out zn) hA zn) (by decide) (VO.allocd HV3.out _) HG4.out
           have hO14 := O1.far (O1.below (O1.below HUO.out HB3.out zn) hA zn) (by decide) (VO.allocd HV3.out _) HG4.out
           have hV5 := hV24.snoc hO14
           have hI4 := PxI.own (HI3.out.to hA) (by decide) (VO.allocd HV3.out _) HG4.out
           have hB4 := BothI.far (HBO3.out.to hA) HAP.out (VO.allocd HV3.out _) HG4.out
           have hAP4 : Apart (.slice (some ⟨gb, 0, none⟩) 2 cb) (.slice A4 (n + 1) c4x) := Apart.symm (Apart.grow HAP.out.symm HOB4.out HBO3.out.vo (by simp only [World.size_alloc]; omega))
           have H4 := zh hV5; have HI4 := zh hI4; have HB4 := zh hB4; have HAP4 := zh hAP4
           clear hA hV24 hO14 hV5 hI4 hB4 hAP4
           go_roundg (2 - (z + 1))
           case rel => exact ⟨z + 1, by omega, rfl, by go_num, HKS2.out, by rw [HNEW.out, List.length_append, <- HNN.out]; simp; omega, HI4.out, ⟨_, HO4.out, by rw [HNEW.out, List.map_append]; exact H4.out⟩, HB4.out, HAP4.out⟩
           case measure => omega
         ·obtain rfl : z = 2 := by omega
          have hst : XpR F L KE PP (adE o s1 s2 2) k j (x + 1) := HST.out
          have hz2i : ¬ ((2 : Nat) : Int) < 2 := by omega
          obtain ⟨m2, hm2⟩ := zx ((adE o s1 s2 2).length)
          obtain ⟨A10, c10', rfl⟩ := O2.formN (m := m2) ho (by rw [List.length_map, hm2])
          have HM2 := zh hm2
          rw [<- hm2] at hlz
          have HI := zh hi; have HO := zh ho; have HS3 := zh hst
          have z1 := hi.rr.cell; have z2 := hi.rr.free
          clear hks hi ho hbo hap hst hm2 HST HKN
          by_cases hMM : m2 <= M
          ·have hMi : ¬ (M : Int) < (m2 : Int) := by omega
           go_wp2
           go_roundg (L - (x + 1))
           case rel => exact ⟨_, x + 1, by omega, rfl, by go_num, HS3.out, by rw [<- HM2.out]; exact hMM, HI.out, HO.out⟩
           case measure => omega
          ·have hMi : (M : Int) < (m2 : Int) := by omega
           obtain ⟨rfl, rfl⟩ := HRL.out _ HS3.out.ks (by rw [<- HM2.out]; omega)
           go_upto_region 25 with fail
           iterate 6 go_step
           refine k_abs (fun X => Row X (w.heap.size + 1) 25 #[.int .i64 0, .int .i64 0, .slice none 0 0, .slice none 0 0] /\ TDO X W2.heap.size zeroV zeroR /\ Below w.heap.size w X) (zam HI.out.rr (zad _ _) HI.out.below (Nat.le_succ _)) ?_
           clear z1 z2
           rintro W5 ⟨r0, hT, hb⟩
           have HBX := zh hb
           have RX := zh r0
           clear r0 hT hb HO HI
           repeat go_step
           have b0 := RX.out.cell
           have q0 := b0 0; have q1 := b0 1; have q2 := b0 2; have q3 := b0 3
           simp only [zg] at q0 q1 q2 q3
           clear b0
           exact bodyPost_ret (v := .tuple #[zeroV, .int .i64 10]) (by simp [results, Tryz.results17, go_sem, q0, q1, q2, q3, zeroV]) rfl ⟨_, rfl, HBX.out, zad _ _⟩
      ·obtain rfl : x = L := by omega
       have hxli : ¬ (x : Int) < (x : Int) := by omega
       have HR := zh hr.nextj; have HI := zh hi; have HO := zh ho
       have HM := zh hm
       clear hr ho hm hi
       go_wp2
       go_roundg (k + 1 - (j + 1))
       case rel => exact ⟨o, j + 1, by omega, rfl, by go_num, HR.out, by rw [<- HM.out]; exact hol, HI.out, HO.out⟩
       case measure => omega
    ·obtain rfl : j = k + 1 := by omega
     have hjki : ¬ (((k + 1 : Nat) : Int) <= (k : Int)) := by omega
     have hjki2 : ¬ ((k : Int) + 1 <= (k : Int)) := by omega
     have HC := zh HR.out.nextk
     go_wp2
     go_roundg (65 - (k + 1))
     case rel => exact ⟨o, k + 1, rfl, by go_num, HR.out.ks, HC.out, HR.out.lt, hol, HI.out, HO.out⟩
     case measure => have := HR.out.lt; omega
  ·obtain rfl : k = m := by omega
   have hlti : ¬ (k : Int) < (k : Int) := by omega
   have HEX := zh HKS.out.zero
   obtain ⟨g10, Ag0, cg0, rfl, hg10, _⟩ := HO.out.at (i := 0) (l := sE KE) (by rw [List.getElem?_map, HKS.out.zero]; rfl)
   have HCLo := zh (show ClE F L o o.length by have := HCL.out; rw [HM.out] at this; exact this)
   obtain ⟨f, hf⟩ := zx ((PD o).nx)
   obtain ⟨ff, hff⟩ := zx ((PD o).fin)
   have HRAW := zh (HLR.out o)
   have HMIN := zh (HMI.out o HKS.out HCLo.out (by rw [<- HM.out]; exact hol))
   have HATT := zh (HAT.out o HKS.out HCLo.out)
   have HFIN := zh (HFI.out o)
   rw [<- hf] at HATT HRAW
   rw [<- hff] at HFIN HRAW
   rw [<- HM.out] at HRAW
   have HPO := zh HKS.out.hP
   clear hf hff HLR HMI HAT HFI HKS HCL HCLo HEX HRL HOK HINJ hg10
   have y0 := HI.out.ra.cell
   go_upto_region 27 with fail
   refine zab (fun X => ∃ gD, gD = wr.heap.size /\ PyI w V EE gD (.slice (some ⟨b3, o3, none⟩) NA c3) (.slice (some ⟨bk, ok, none⟩) NA ck) (.slice none 0 0) (.slice none 0 0) (.slice (some ⟨g10, 0, none⟩) k c10) (o.map sE) [] [] X) ⟨_, rfl, HI.out.to (by go_grown), HI.out.rr.lt, by first | exact Row.new _ _ _ | exact (Row.new _ _ _).drew, ⟨[], VO.nil _ _ _, rfl, fun i u h => by simp at h⟩, VO.nil _ _ _, HO.out.below (Below.alloc (Below.refl _ _) zn _) zn⟩ ?_
   clear y0 HI HO
   rintro W0 ⟨gD, hgD, hq⟩
   rw [<- hgD]
   have HQ := zh hq
   clear hq hgD
   go_wp2
   go_loopg [16] k (fun gk q19 W => ∃ (i : Nat) (vN vF : Value), i <= k /\ gk = k - i /\ q19 = .int .i64 i /\ PyI w V EE gD (.slice (some ⟨b3, o3, none⟩) NA c3) (.slice (some ⟨bk, ok, none⟩) NA ck) vN vF (.slice (some ⟨g10, 0, none⟩) k c10) (o.map sE) (rwI f L k i) (finL ff i) W)
   case atStart => exact ⟨0, _, _, Nat.zero_le _, rfl, rfl, HQ.out⟩
   case round =>
    clear HQ
    obtain ⟨i, vN, vF, hik, rfl, rfl, hq⟩ := hrel
    obtain ⟨wl, hwl⟩ := zx wr
    subst hwl
    have HQ := zh hq
    by_cases hit : i < k
    ·have hiti : (i : Int) < (k : Int) := by omega
     obtain ⟨p, hp⟩ : ∃ p, o[i]? = some p := ⟨_, List.getElem?_eq_getElem (by rw [<- HM.out]; exact hit)⟩
     have hPp := HPO.out _ (List.mem_of_getElem? hp)
     obtain ⟨g10', _, _, e10, hg10, _⟩ := hq.ok.at (i := i) (l := sE p) (by rw [List.getElem?_map, hp]; rfl)
     simp only [Option.some.injEq, Addr.mk.injEq, and_true] at e10
     obtain rfl := e10
     have HP := zh hp; have HPP := zh hPp
     clear hq hp hPp
     go_wp2
     go_loopg [17, 18] k (fun gk q21 q22 W => ∃ r : Nat, r <= k /\ gk = k - r /\ q22 = .int .i64 r /\ Below wl.heap.size wl W /\ O2 W wl.heap.size q21 (rwK f L i r))
     case atStart => exact ⟨0, Nat.zero_le _, rfl, rfl, Below.refl _ _, [], VO.nil _ _ _, rfl, fun i u h => by simp at h⟩
     case round =>
      obtain ⟨r, hrk, rfl, rfl, hbl, vs, hv1, hv2⟩ := hrel
      obtain ⟨wx, hwx⟩ := zx wr
      subst hwx
      obtain ⟨A9, c9, rfl⟩ := VO.formN (n := r) hv1 (by rw [hv2.1, zes])
      have HBL := zh hbl; have HV1 := zh hv1; have HV2 := zh hv2
      clear hbl hv1 hv2
      by_cases hrt : r < k
      ·have hrti : (r : Int) < (k : Int) := by omega
       obtain ⟨q, hq⟩ : ∃ p, o[r]? = some p := ⟨_, List.getElem?_eq_getElem (by rw [<- HM.out]; exact hrt)⟩
       have hPq := HPO.out _ (List.mem_of_getElem? hq)
       have HQQ := zh hq; have HPQ := zh hPq
       clear hq hPq
       go_wp2
       go_loopg [19, 20] L (fun gk q24 q25 W => ∃ x : Nat, x <= L /\ gk = L - x /\ q25 = .int .i64 x /\ Below wx.heap.size wx W /\ O1 W wx.heap.size q24 (rwX f i r x))
       case atStart => exact ⟨0, Nat.zero_le _, rfl, rfl, Below.refl _ _, VO.nil _ _ _⟩
       case round =>
        obtain ⟨x, hx, rfl, rfl, hbx, ho⟩ := hrel
        obtain ⟨W, hW⟩ := zx wr
        subst hW
        obtain ⟨A11, c11, rfl⟩ := VO.formN (n := x) ho (by rw [zah, zer])
        have HBX := zh hbx; have HO := zh ho
        have HBLX := zh (HBL.out.trans (hbx.mono HBL.out.size))
        have HQX := zh (HQ.out.to HBLX.out)
        clear hbx ho
        by_cases hxt : x < L
        ·have hxti : (x : Int) < (L : Int) := by omega
         have hat := HATT.out i r x _ _ HP.out HQQ.out hxt
         obtain ⟨g10', Ap, cp, e10, _, cj, hoj⟩ := HQX.out.ok.at (i := i) (l := sE p) (by rw [List.getElem?_map, HP.out]; rfl)
         simp only [Option.some.injEq, Addr.mk.injEq, and_true] at e10
         obtain rfl := e10
         obtain ⟨g10', Aq, cq, e10, _, ck', hok⟩ := HQX.out.ok.at (i := r) (l := sE q) (by rw [List.getElem?_map, HQQ.out]; rfl)
         simp only [Option.some.injEq, Addr.mk.injEq, and_true] at e10
         obtain rfl := e10
         have HCA := zh (fun (X : World) (hb : Below W.heap.size W X) => HAF.out X p q x (HQX.out.pr.below.trans (hb.mono HQX.out.pr.below.size)) HPP.out HPQ.out hxt _ _ (O1.n1 (VO.below hoj hb zn)) (O1.n1 (VO.below hok hb zn)))
         obtain ⟨lp, hlp'⟩ := zx ((sE p).length)
         obtain ⟨lq, hlq'⟩ := zx ((sE q).length)
         rw [<- hlp'] at cj HCA
         rw [<- hlq'] at ck' HCA
         obtain ⟨s1, hs1⟩ := zx (F p q x)
         rw [<- hs1] at hat HCA
         obtain ⟨fv, hfv⟩ := zx (f i r x)
         rw [<- hfv] at hat
         have HAT := zh hat; have HFV := zh hfv; have HCJ := zh cj; have HCK := zh ck'
         clear hs1 hat hfv hlp' hlq' hoj hok cj ck'
         have HSX : Hid (∀ X, Below wx.heap.size wx X -> X.cell? ⟨w.heap.size, 0, none⟩ = some (.int .i64 (V : Int)) /\ X.cell? ⟨w.heap.size, 1, none⟩ = some (.int .i64 (EE : Int)) /\ X.cell? ⟨w.heap.size, 2, none⟩ = some (.slice (some ⟨b3, o3, none⟩) NA c3) /\ X.cell? ⟨w.heap.size, 3, none⟩ = some (.slice (some ⟨bk, ok, none⟩) NA ck) /\ X.cell? ⟨g10, i, none⟩ = some (.slice Ap lp cp) /\ X.cell? ⟨g10, r, none⟩ = some (.slice Aq lq cq)) := by
          intro X hX
          have hlx := HBL.out.trans (hX.mono HBL.out.size)
          have hra := (HQ.out.to hlx).pr.ra
          have hg0 : g10 < wx.heap.size := Nat.lt_of_lt_of_le hg10 HBL.out.size
          have e1 := HBLX.out.cell (p := ⟨g10, i, none⟩) hg10
          have e2 := HBLX.out.cell (p := ⟨g10, r, none⟩) hg10
          exact ⟨(hra.cell 0).trans rfl, (hra.cell 1).trans rfl, (hra.cell 2).trans rfl, (hra.cell 3).trans rfl, ((hlx.cell (p := ⟨g10, i, none⟩) hg10).trans e1.symm).trans HCJ.out, ((hlx.cell (p := ⟨g10, r, none⟩) hg10).trans e2.symm).trans HCK.out⟩
         have y0 := HQX.out.pr.ra.cell
         go_upto_region 38 with fail
         clear y0
         refine wp_region_held_drew (S := (fun X => X.cell? ⟨w.heap.size, 0, none⟩ = some (.int .i64 (V : Int)) /\ X.cell? ⟨w.heap.size, 1, none⟩ = some (.int .i64 (EE : Int)) /\ X.cell? ⟨w.heap.size, 2, none⟩ = some (.slice (some ⟨b3, o3, none⟩) NA c3) /\ X.cell? ⟨w.heap.size, 3, none⟩ = some (.slice (some ⟨bk, ok, none⟩) NA ck) /\ X.cell? ⟨g10, i, none⟩ = some (.slice Ap lp cp) /\ X.cell? ⟨g10, r, none⟩ = some (.slice Aq lq cq))) (by kernel_rfl) (HSX.out _ HBX.out.drew) (fun hHeld => ?_)
         refine tk 0 (oi := ⟨some 137, _, _, _, _, _⟩) ?_
         try simp only [zp]
         refine tk 1 (oi := ⟨some 138, _, _, _, _, _⟩) ?_
         try simp only [zp]
         refine tk 2 (oi := ⟨some 139, _, _, _, _, _⟩) ?_
         try simp only [zp]
         refine tk 3 (oi := ⟨some 140, _, _, _, _, _⟩) ?_
         try simp only [zp]
         refine tk 4 (oi := ⟨some 141, _, _, _, _, _⟩) ?_
         try simp only [zp]
         refine tk 5 (oi := ⟨some 142, _, _, _, _, _⟩) ?_
         try simp only [zp]
         refine tk 6 (oi := ⟨some 143, _, _, _, _, _⟩) ?_
         try simp only [zp]
         refine tk 7 (oi := ⟨some 144, _, _, _, _, _⟩) ?_
         try simp only [zp]
         refine tk 8 (oi := ⟨some 145, _, _, _, _, _⟩) ?_
         try simp only [zp]
         refine tk 9 (oi := ⟨some 146, _, _, _, _, _⟩) ?_
         try simp only [zp]
         refine tk 10 (oi := ⟨some 147, _, _, _, _, _⟩) ?_
         try simp only [zp]
         refine tk 11 (oi := ⟨some 148, _, _, _, _, _⟩) ?_
         try simp only [zp]
         refine tk 12 (oi := ⟨some 149, _, _, _, _, _⟩) ?_
         try simp only [zp]
         have hWx := HBX.out.size
         have d0 : Below W.heap.size W W.drew := (Below.refl _ _).drew
         refine wpAnyH_ready (rs := [13]) (by kernel_rfl) (by simp) ?_
         refine AllReadyH.cons rfl (fun K hK => ?_) AllReadyH.nil
         go_simp
         (go_at_call 61; refine (HCA.out _ d0).mono ?_; rintro ee wa ⟨A1, e1, rfl, hba, hoa⟩)
         have a0 : Below W.heap.size W wa := d0.trans hba
         have a1 : Below wx.heap.size wx wa := HBX.out.trans (a0.mono hWx)
         refine hK.out _ _ (HSX.out _ a1) (fun hHeld1 => ?_)
         clear hK K hHeld
         try simp only [zp]
         have hcall := zo9 (o.map sE) (sE s1) (.slice (some ⟨g10, 0, none⟩) k c10) (.slice A1 (sE s1).length e1) wa ((HQ.out.to (HBL.out.trans (a1.mono HBL.out.size))).ok.n2) (O1.n1 hoa) (by rw [List.length_map, <- HM.out]; omega) (by intro x hx; obtain ⟨p, _, rfl⟩ := List.mem_map.1 hx; rw [zky]; have := zeb p; omega)
         rw [HAT.out] at hcall
         have HCALL := zh hcall
         clear hcall hba
         refine wpAnyH_ready (rs := [14]) (by kernel_rfl) (by simp) ?_
         refine AllReadyH.cons rfl (fun K hK => ?_) AllReadyH.nil
         go_simp
         (go_at_call 62; refine HCALL.out.mono ?_; rintro ee w5 ⟨rfl, hb5⟩)
         have a5 : Below wx.heap.size wx w5 := a1.trans (hb5.mono a1.size)
         refine hK.out _ _ (HSX.out _ a5) (fun hHeld2 => ?_)
         clear hK K hHeld1 HCALL
         try simp only [zp]
         refine wpAnyH_ready (rs := [15]) (by kernel_rfl) (by simp) ?_
         refine AllReadyH.cons rfl (fun K hK => ?_) AllReadyH.nil
         go_simp
         have a6 := a5.alloc a5.size (.cells #[.int .i64 (fv : Int)] 3)
         refine hK.out _ _ (HSX.out _ a6) (fun hHeld3 => ?_)
         clear hK K hHeld2
         try simp only [zp]
         have a15 : Below W.heap.size W w5 := a0.trans (hb5.mono a0.size)
         have vo5 := VO.allocd (VO.below HO.out a15 zn) (.cells #[.int .i64 (fv : Int)] 3)
         refine wpAnyH_ready (rs := [16]) (by kernel_rfl) (by simp) ?_
         refine AllReadyH.cons rfl (fun K hK => ?_) AllReadyH.nil
         refine zak eI rfl (.tmp 137) (.tmp 152) rfl wx.heap.size _ _ rfl vo5 _ [.int .i64 (fv : Int)] rfl (VS.one (by first | exact Row.new _ _ _ | exact Row.lit rfl | exact Row.litd rfl)) (by intro u hu; simp at hu; subst hu; rfl) (by rw [zah, zer]; simp; omega) (by have := a5.size; simp only [World.size_alloc]; omega) ?_; intro v4 w4 ho4 hg4 _; obtain ⟨A4, c4x, rfl⟩ := VO.formN (n := x + 1) ho4 (by rw [List.length_append, zah, zer]; rfl)
         have HO4 : Hid (O1 w4 wx.heap.size (.slice A4 (x + 1) c4x) (rwX f i r (x + 1))) := by have := ho4; rw [HFV.out, <- zb4, <- zkz] at this; exact this
         have hB4 : Below wx.heap.size wx w4 := zaf (w := wx) a6 vo5 hg4 (by have := a5.size; simp only [World.size_alloc]; omega)
         have HB4 := zh hB4
         clear ho4 hg4
         refine hK.out _ _ (HSX.out _ hB4) (fun hHeld4 => ?_)
         clear hK K hHeld3 hB4 vo5 a15 a6 a5 a1 a0 hb5 hoa
         try simp only [zp]
         refine tk 17 (oi := ⟨some 19, _, _, _, _, _⟩) ?_
         try simp only [zp]
         refine wpAnyH_done (by kernel_rfl) ?_ _
         clear hHeld4
         go_wp2
         go_roundg (L - (x + 1))
         case rel => exact ⟨x + 1, by omega, rfl, by go_num, HB4.out, HO4.out⟩
         case measure => omega
        ·obtain rfl : x = L := by omega
         have hxti : ¬ (x : Int) < (x : Int) := by omega
         have y0 := HQX.out.pr.ra.cell
         have HV1W := zh (HV1.out.below HBX.out zn)
         have HV2W := zh (V1.below HV2.out HBX.out zn)
         go_wp2_with (at_builtin; refine zaa eII rfl (.tmp 154) (.tmp 156) rfl wl.heap.size _ _ rfl (VO.allocd HV1W.out _) _ [.slice A11 x c11] rfl (VS.one (Row.new _ _ _)) (by intro u hu; simp at hu; subst hu; rfl) (by rw [HV2.out.1, zes]; simp; omega) (by simp only [World.size_alloc]; have := HBX.out.size; have := HBL.out.size; omega) ?_; intro v4 w4 ho4 hg4 _; obtain ⟨A4, c4x, rfl⟩ := VO.formN (n := r + 1) ho4 (by rw [List.length_append, HV2.out.1, zes]; rfl); have HO4 := zh ho4; have HG4 := zh hg4; clear ho4 hg4)
         have hV24 := V1.far (V1.below HV2W.out (Below.alloc (Below.refl W.heap.size W) zn _) zn) (by decide) (VO.allocd HV1W.out _) HG4.out
         have hO14 := O1.far (O1.below HO.out (Below.alloc (Below.refl W.heap.size W) zn _) zn) (by decide) (VO.allocd HV1W.out _) HG4.out
         have hB4 : Below wl.heap.size wl w4 := zaf (w := wl) (HBLX.out.alloc (by have := HBLX.out.size; omega) _) (VO.allocd HV1W.out _) HG4.out (by simp only [World.size_alloc]; have := HBLX.out.size; omega)
         have hV5 := hV24.snoc (hO14.mono HBL.out.size)
         have H4 := zh hV5; have HB4 := zh hB4
         clear hV24 hO14 hB4 hV5 y0
         try go_wp2
         go_roundg (k - (r + 1))
         case rel => exact ⟨r + 1, by omega, rfl, by go_num, HB4.out, ⟨_, HO4.out, by rw [zk0]; exact H4.out⟩⟩
         case measure => omega
      ·obtain rfl : k = r := by omega
       have hrti : ¬ (k : Int) < (k : Int) := by omega
       have HQX := zh (HQ.out.to HBL.out)
       have O2X := zh (show O2 wx w.heap.size (.slice A9 k c9) (rwK f L i k) from O2.mono ⟨vs, HV1.out, HV2.out⟩ HQ.out.pr.below.size)
       obtain ⟨vsn, hvn, hvn2⟩ := HQX.out.o3
       obtain ⟨An, cn, rfl⟩ := VO.formN (n := i) hvn (by rw [hvn2.1, zc8])
       obtain ⟨Af, cf, rfl⟩ := VO.formN (n := i) HQX.out.of (by rw [zap, zbm])
       have VNh := zh hvn; have VN2 := zh hvn2
       have z0 := HQX.out.rd.cell; have z1 := HQX.out.rd.free
       clear hvn hvn2 HV1 HV2
       go_upto_region 41 with (at_builtin; refine zaa eIII rfl (.tmp 159) (.tmp 161) rfl w.heap.size _ _ rfl (VO.allocd VNh.out _) _ [.slice A9 k c9] rfl (VS.one (Row.new _ _ _)) (by intro u hu; simp at hu; subst hu; rfl) (by rw [VN2.out.1, zc8]; simp; omega) (by simp only [World.size_alloc]; have := HQX.out.pr.below.size; omega) ?_; intro v4 w4 ho4 hg4 _; obtain ⟨A4, c4x, rfl⟩ := VO.formN (n := i + 1) ho4 (by rw [List.length_append, VN2.out.1, zc8]; rfl); have HO4 := zh ho4; have HG4 := zh hg4; have R74 := zh ((Row.alloc HQX.out.rd _).far_own (by decide) (VO.allocd VNh.out _).2 hg4); have z2 := R74.out.cell; have z3 := R74.out.free; clear ho4 hg4)
       refine zab (fun X => PyI w V EE gD (.slice (some ⟨b3, o3, none⟩) NA c3) (.slice (some ⟨bk, ok, none⟩) NA ck) (.slice A4 (i + 1) c4x) (.slice Af i cf) (.slice (some ⟨g10, 0, none⟩) k c10) (o.map sE) (rwI f L k (i + 1)) (finL ff i) X) (by rw [zk1]; exact HQX.out.next VNh.out VN2.out O2X.out HO4.out HG4.out) ?_
       clear z0 z1 z2 z3 R74 HO4 HG4 VNh VN2 O2X HQ HQX
       rintro X hq
       have HQ := zh hq
       have G1 := zh (HFIN.out i _ HP.out)
       obtain ⟨ms, hms⟩ := zx (mem64 p)
       have HMS := zh (show ∀ q ∈ ms, q < NA by rw [hms]; exact HMEM.out p HPP.out)
       rw [<- hms] at G1
       have HPE := zh (show (o.map sE)[i]? = some (oI ms) by rw [List.getElem?_map, HP.out, hms]; rfl)
       obtain ⟨lm, hlm⟩ := zx ms.length
       have hlm64 : lm <= 64 := by rw [hlm, hms]; exact zeb _
       have HLM := zh hlm
       clear hq hms hlm HPP
       go_wp2
       go_loopg [21, 22] lm (fun gk q21 q22 W => ∃ y : Nat, y <= lm /\ gk = lm - y /\ q22 = .int .i64 y /\ q21 = .bool ((ms.take y).any fin) /\ (fun X => PyI w V EE gD (.slice (some ⟨b3, o3, none⟩) NA c3) (.slice (some ⟨bk, ok, none⟩) NA ck) (.slice A4 (i + 1) c4x) (.slice Af i cf) (.slice (some ⟨g10, 0, none⟩) k c10) (o.map sE) (rwI f L k (i + 1)) (finL ff i) X) W)
       case atStart => exact ⟨0, Nat.zero_le _, rfl, rfl, by simp, HQ.out⟩
       case round =>
        clear HQ
        obtain ⟨y, hy, rfl, rfl, rfl, hq⟩ := hrel
        try dsimp only at hq
        obtain ⟨b, hb⟩ := zx ((ms.take y).any fin)
        rw [<- hb]
        have HBB := zh hb
        obtain ⟨g10', Am, cm, e10, hg10, cj, hoj⟩ := hq.ok.at HPE.out
        simp only [Option.some.injEq, Addr.mk.injEq, and_true] at e10
        obtain rfl := e10
        rw [zai, <- HLM.out] at cj
        have HQ := zh hq
        by_cases hyt : y < lm
        ·have hyti : (y : Int) < (lm : Int) := by omega
         obtain ⟨s, hs⟩ : ∃ s, ms[y]? = some s := ⟨_, List.getElem?_eq_getElem (by rw [<- HLM.out]; exact hyt)⟩
         have hsN := HMS.out s (List.mem_of_getElem? hs)
         obtain ⟨A', c', e', hc1, hc2, hst⟩ := N1.states (O1.n1 hoj)
         simp only [Value.slice.injEq] at e'
         obtain ⟨rfl, -, rfl⟩ := e'
         obtain ⟨bs, os, rfl, hbs, hcs⟩ := hst y s hs
         rw [<- HLM.out] at hc1
         have ka := (hq.pr.below.cell (p := ⟨bk, _, none⟩) hbk).trans (HKA.out s hsN)
         have y0 := hq.pr.ra.cell
         have hsNi : (s : Int) < (NA : Int) := by omega
         have HN : Hid ((ms.take (y + 1)).any fin = (b || fin s)) := by unfold Hid; rw [zh6 hs, <- HBB.out]
         obtain ⟨fs, hfs⟩ := zx (fin s)
         rw [<- hfs] at ka HN
         clear hq hs hoj hst hb hfs HBB
         cases b with
         | true =>
          have HN1 : Hid ((ms.take (y + 1)).any fin = true) := by unfold Hid; rw [HN.out]; rfl
          go_upto_region 45 with fail
          first | go_region | fail
          refine zbc (fun Y => PyI w V EE gD (.slice (some ⟨b3, o3, none⟩) NA c3) (.slice (some ⟨bk, ok, none⟩) NA ck) (.slice A4 (i + 1) c4x) (.slice Af i cf) (.slice (some ⟨g10, 0, none⟩) k c10) (o.map sE) (rwI f L k (i + 1)) (finL ff i) Y) (HQ.out.to (by go_grown)) ?_
          clear HQ y0 cj hcs ka
          rintro Y hq
          have HQ := zh hq
          clear hq
          go_wp2
          go_roundg (lm - (y + 1))
          case rel => exact ⟨y + 1, by omega, rfl, by go_num, by rw [HN1.out], HQ.out⟩
          case measure => omega
         | false =>
          have HN1 : Hid ((ms.take (y + 1)).any fin = fs) := by unfold Hid; rw [HN.out]; simp
          go_upto_region 45 with fail
          first | go_region | fail
          refine zbc (fun Y => PyI w V EE gD (.slice (some ⟨b3, o3, none⟩) NA c3) (.slice (some ⟨bk, ok, none⟩) NA ck) (.slice A4 (i + 1) c4x) (.slice Af i cf) (.slice (some ⟨g10, 0, none⟩) k c10) (o.map sE) (rwI f L k (i + 1)) (finL ff i) Y) (HQ.out.to (by go_grown)) ?_
          clear HQ y0 cj hcs ka
          rintro Y hq
          have HQ := zh hq
          clear hq
          go_wp2
          go_roundg (lm - (y + 1))
          case rel => exact ⟨y + 1, by omega, rfl, by go_num, by rw [HN1.out], HQ.out⟩
          case measure => omega
        ·obtain rfl : lm = y := by omega
         have hyti : ¬ (lm : Int) < (lm : Int) := by omega
         have HG : Hid (b = ff i) := by unfold Hid; rw [HBB.out, HLM.out, List.take_length]; exact G1.out
         have y7 := hq.rd.cell; have y8 := hq.rd.free
         have HVO := zh (show VO 4 (wr.alloc (.cells #[.bool b] 4)) w.heap.size (.slice Af i cf) (bL (finL ff i)) from VO.allocd hq.of _)
         clear hq hb HBB hoj
         go_wp2_with (at_builtin; refine zaa eB rfl (.tmp 188) (.tmp 190) rfl w.heap.size _ _ rfl HVO.out _ [.bool b] rfl (VS.one (Row.new _ _ _)) (by intro u hu; simp at hu; subst hu; rfl) (by rw [zap, zbm]; simp; omega) (by simp only [World.size_alloc]; have := HQ.out.pr.below.size; omega) ?_; intro v4 w4 ho4 hg4 _; obtain ⟨A5, c5x, rfl⟩ := VO.formN (n := i + 1) ho4 (by rw [List.length_append, zap, zbm]; rfl); have HO5 := zh ho4; have HG5 := zh hg4; have R75 := zh ((Row.alloc HQ.out.rd _).far_own (by decide) HVO.out.2 hg4); have z2 := R75.out.cell; have z3 := R75.out.free; clear ho4 hg4)
         go_roundg (k - (i + 1))
         case rel => exact ⟨i + 1, _, _, by omega, rfl, by go_num, by rw [zf7, <- HG.out]; exact HQ.out.fin HO5.out HG5.out⟩
         case measure => omega
    ·obtain rfl : k = i := by omega
     have hiti : ¬ (k : Int) < (k : Int) := by omega
     obtain ⟨vsn, hvn, hvn2⟩ := hq.o3
     obtain ⟨An, cn, rfl⟩ := VO.formN (n := k) hvn (by rw [hvn2.1, zc8])
     obtain ⟨Af, cf, rfl⟩ := VO.formN (n := k) hq.of (by rw [zap, zbm])
     have htd : TD wl (.agg #[.int .i64 (V : Int), .int .i64 0, .slice An k cn, .slice Af k cf]) ((PD o).raw V) := by
      rw [HRAW.out]
      exact ⟨_, _, rfl, hq.o3.n3, hq.of.nb⟩
     have HMM := zh (HMIN.out _ wl htd)
     have hbw := hq.pr.below
     have RR := zh hq.pr.rr; have HB := zh hbw
     have y7 := hq.rd.cell
     clear htd hq hvn hvn2 HMIN hbw
     go_wp2_with (go_at_call 53; refine HMM.out.mono ?_; intro e w6 h6; obtain ⟨A6, c6, A7, c7, rfl, hb6, ht6⟩ := h6.unfold; have HT := zh ht6; have HB6 := zh hb6; have RR6 := zh (RR.out.below hb6 RR.out.lt); have b0 := RR6.out.cell; have b1 := RR6.out.free; clear h6 hb6 ht6 y7)
     refine zae (fun X => Row X (w.heap.size + 1) 25 #[.int .i64 R.vars, .int .i64 R.empty, .slice A6 R.next.length c6, .slice A7 R.fin.length c7] /\ TDO X wl.heap.size (.agg #[.int .i64 R.vars, .int .i64 R.empty, .slice A6 R.next.length c6, .slice A7 R.fin.length c7]) R /\ Below w.heap.size w X)
      (zam RR6.out HT.out (HB.out.trans (HB6.out.mono HB.out.size)) (Nat.le_succ _)) ?_
     clear b0 b1 RR6 HT
     rintro W5 ⟨r0, hT, hb⟩
     have b0 := r0.cell
     have q0 := b0 0; have q1 := b0 1; have q2 := b0 2; have q3 := b0 3
     simp only [zg] at q0 q1 q2 q3
     have HT := zh (hT.mono HB.out.size); have HBX := zh hb
     clear b0 r0 hT hb
     exact bodyPost_ret (v := .tuple #[.agg #[.int .i64 R.vars, .int .i64 R.empty, .slice A6 R.next.length c6, .slice A7 R.fin.length c7], .int .i64 (code : Int)]) (by simp [results, Tryz.results17, go_sem, q0, q1, q2, q3]) rfl ⟨_, rfl, HBX.out, HT.out⟩
set_option maxRecDepth 100000 in
set_option maxHeartbeats 4000000 in
theorem zqb (r : Raw) (M : Int) (x : Value) (w : World) (hv : TD w x r) (hs : Small r) (h0 : r.check ≠ 0) : Calls Tryz.prog 23 #[x, .int .i64 M] w fun e w' => e = .returned (.tuple #[.int .u64 0, .int .i64 (r.check : Nat)]) /\ Below w.heap.size w w' := by
 have hck := fun W (h : Below w.heap.size w W) => zao r x W (hv.below h zn) hs
 obtain ⟨k, hk⟩ := zx r.check
 rw [<- hk] at h0 hck ⊢
 have h0' : ((k : Int) != 0) = true := by rw [bne_iff_ne]; omega
 obtain ⟨A3, c3, A4, c4, rfl⟩ := hv.form
 obtain ⟨n, hn⟩ := zx r.next.length
 obtain ⟨m, hm⟩ := zx r.fin.length
 obtain ⟨i0, hV⟩ := zx r.vars
 obtain ⟨i1, hE⟩ := zx r.empty
 rw [<- hn, <- hm, <- hV, <- hE] at hck ⊢
 have HC := zh hck
 clear hck hv hk hn hm hV hE hs h0
 go_enter Tryz.func23, Tryz.ntmps23
 go_wp2_with (go_at_call 50; refine (HC.out _ (by go_grown)).mono ?_; rintro e w2 ⟨rfl, hb2⟩; have HB2 := zh ((Below.alloc (Below.refl _ _) zn _).trans (hb2.mono (by simp only [World.size_alloc]; omega))); clear hb2)
 go_returns
 exact ⟨rfl, HB2.out⟩
set_option maxRecDepth 100000 in
set_option maxHeartbeats 4000000 in
theorem zqa (r : Raw) (M : Int) (x : Value) (w : World) (hv : TD w x r) (hs : Small r) (h0 : r.check = 0) (b1 : M < 0) : Calls Tryz.prog 23 #[x, .int .i64 M] w fun e w' => e = .returned (.tuple #[.int .u64 0, .int .i64 1]) /\ Below w.heap.size w w' := by
 have hck := fun W (h : Below w.heap.size w W) => zao r x W (hv.below h zn) hs
 rw [h0] at hck
 obtain ⟨A3, c3, A4, c4, rfl⟩ := hv.form
 obtain ⟨n, hn⟩ := zx r.next.length
 obtain ⟨m, hm⟩ := zx r.fin.length
 obtain ⟨i0, hV⟩ := zx r.vars
 obtain ⟨i1, hE⟩ := zx r.empty
 rw [<- hn, <- hm, <- hV, <- hE] at hck ⊢
 have HC := zh hck
 clear hck hv hn hm hV hE hs h0
 go_enter Tryz.func23, Tryz.ntmps23
 go_wp2_with (go_at_call 50; refine (HC.out _ (by go_grown)).mono ?_; rintro e w2 ⟨rfl, hb2⟩; have HB2 := zh ((Below.alloc (Below.refl _ _) zn _).trans (hb2.mono (by simp only [World.size_alloc]; omega))); clear hb2)
 go_returns
 exact ⟨rfl, HB2.out⟩
set_option maxRecDepth 100000 in
set_option maxHeartbeats 4000000 in
theorem zm7 (r : Raw) (M : Int) (x : Value) (w : World) (hv : TD w x r) (hs : Small r) (h0 : r.check = 0) (b1 : ¬ M < 0) (b2 : 31 < M) : Calls Tryz.prog 23 #[x, .int .i64 M] w fun e w' => e = .returned (.tuple #[.int .u64 0, .int .i64 1]) /\ Below w.heap.size w w' := by
 have hck := fun W (h : Below w.heap.size w W) => zao r x W (hv.below h zn) hs
 rw [h0] at hck
 obtain ⟨A3, c3, A4, c4, rfl⟩ := hv.form
 obtain ⟨n, hn⟩ := zx r.next.length
 obtain ⟨m, hm⟩ := zx r.fin.length
 obtain ⟨i0, hV⟩ := zx r.vars
 obtain ⟨i1, hE⟩ := zx r.empty
 rw [<- hn, <- hm, <- hV, <- hE] at hck ⊢
 have HC := zh hck
 have b1i : (0 : Int) <= M := by omega
 clear hck hv hn hm hV hE hs h0
 go_enter Tryz.func23, Tryz.ntmps23
 go_wp2_with (go_at_call 50; refine (HC.out _ (by go_grown)).mono ?_; rintro e w2 ⟨rfl, hb2⟩; have HB2 := zh ((Below.alloc (Below.refl _ _) zn _).trans (hb2.mono (by simp only [World.size_alloc]; omega))); clear hb2)
 go_returns
 exact ⟨rfl, HB2.out⟩
set_option maxRecDepth 100000 in
set_option maxHeartbeats 4000000 in
theorem zka (r : Raw) (M : Int) (x : Value) (w : World) (hv : TD w x r) (hs : Small r) (h0 : r.check ≠ 0) : Calls Tryz.prog 24 #[x, .int .i64 M] w fun e w' => e = .returned (.tuple #[.int .u64 0, .int .i64 (r.check : Nat)]) /\ Below w.heap.size w w' := by
 have hck := fun W (h : Below w.heap.size w W) => zbe r x W (hv.below h zn) hs
 obtain ⟨k, hk⟩ := zx r.check
 rw [<- hk] at h0 hck ⊢
 have h0' : ((k : Int) != 0) = true := by rw [bne_iff_ne]; omega
 obtain ⟨A3, c3, A4, c4, rfl⟩ := hv.form
 obtain ⟨n, hn⟩ := zx r.next.length
 obtain ⟨m, hm⟩ := zx r.fin.length
 obtain ⟨i0, hV⟩ := zx r.vars
 obtain ⟨i1, hE⟩ := zx r.empty
 rw [<- hn, <- hm, <- hV, <- hE] at hck ⊢
 have HC := zh hck
 clear hck hv hk hn hm hV hE hs h0
 go_enter Tryz.func24, Tryz.ntmps24
 go_wp2_with (go_at_call 52; refine (HC.out _ (by go_grown)).mono ?_; rintro e w2 ⟨rfl, hb2⟩; have HB2 := zh ((Below.alloc (Below.refl _ _) zn _).trans (hb2.mono (by simp only [World.size_alloc]; omega))); clear hb2)
 go_returns
 exact ⟨rfl, HB2.out⟩
set_option maxRecDepth 100000 in
set_option maxHeartbeats 4000000 in
theorem zj9 (r : Raw) (M : Int) (x : Value) (w : World) (hv : TD w x r) (hs : Small r) (h0 : r.check = 0) (b1 : M < 0) : Calls Tryz.prog 24 #[x, .int .i64 M] w fun e w' => e = .returned (.tuple #[.int .u64 0, .int .i64 1]) /\ Below w.heap.size w w' := by
 have hck := fun W (h : Below w.heap.size w W) => zbe r x W (hv.below h zn) hs
 rw [h0] at hck
 obtain ⟨A3, c3, A4, c4, rfl⟩ := hv.form
 obtain ⟨n, hn⟩ := zx r.next.length
 obtain ⟨m, hm⟩ := zx r.fin.length
 obtain ⟨i0, hV⟩ := zx r.vars
 obtain ⟨i1, hE⟩ := zx r.empty
 rw [<- hn, <- hm, <- hV, <- hE] at hck ⊢
 have HC := zh hck
 clear hck hv hn hm hV hE hs h0
 go_enter Tryz.func24, Tryz.ntmps24
 go_wp2_with (go_at_call 52; refine (HC.out _ (by go_grown)).mono ?_; rintro e w2 ⟨rfl, hb2⟩; have HB2 := zh ((Below.alloc (Below.refl _ _) zn _).trans (hb2.mono (by simp only [World.size_alloc]; omega))); clear hb2)
 go_returns
 exact ⟨rfl, HB2.out⟩
set_option maxRecDepth 100000 in
set_option maxHeartbeats 4000000 in
theorem zi7 (r : Raw) (M : Int) (x : Value) (w : World) (hv : TD w x r) (hs : Small r) (h0 : r.check = 0) (b1 : ¬ M < 0) (b2 : 31 < M) : Calls Tryz.prog 24 #[x, .int .i64 M] w fun e w' => e = .returned (.tuple #[.int .u64 0, .int .i64 1]) /\ Below w.heap.size w w' := by
 have hck := fun W (h : Below w.heap.size w W) => zbe r x W (hv.below h zn) hs
 rw [h0] at hck
 obtain ⟨A3, c3, A4, c4, rfl⟩ := hv.form
 obtain ⟨n, hn⟩ := zx r.next.length
 obtain ⟨m, hm⟩ := zx r.fin.length
 obtain ⟨i0, hV⟩ := zx r.vars
 obtain ⟨i1, hE⟩ := zx r.empty
 rw [<- hn, <- hm, <- hV, <- hE] at hck ⊢
 have HC := zh hck
 have b1i : (0 : Int) <= M := by omega
 clear hck hv hn hm hV hE hs h0
 go_enter Tryz.func24, Tryz.ntmps24
 go_wp2_with (go_at_call 52; refine (HC.out _ (by go_grown)).mono ?_; rintro e w2 ⟨rfl, hb2⟩; have HB2 := zh ((Below.alloc (Below.refl _ _) zn _).trans (hb2.mono (by simp only [World.size_alloc]; omega))); clear hb2)
 go_returns
 exact ⟨rfl, HB2.out⟩
set_option maxRecDepth 100000 in
set_option maxHeartbeats 4000000 in
theorem zjh (r : Raw) (x : Value) (w : World) (hv : TD w x r) (hs : Small r) (h0 : r.check ≠ 0) : Calls Tryz.prog 19 #[x] w (RetSm w ([], false, r.check)) := by
 have hck := fun W (h : Below w.heap.size w W) => zjl r x W (hv.below h zn) hs
 have he : zbd r = false := by unfold zbd; simp [h0]
 rw [he] at hck
 obtain ⟨k, hk⟩ := zx r.check
 rw [<- hk] at h0 hck ⊢
 have h0' : ((k : Int) != 0) = true := by rw [bne_iff_ne]; omega
 obtain ⟨A3, c3, A4, c4, rfl⟩ := hv.form
 obtain ⟨n, hn⟩ := zx r.next.length
 obtain ⟨m, hm⟩ := zx r.fin.length
 obtain ⟨i0, hV⟩ := zx r.vars
 obtain ⟨i1, hE⟩ := zx r.empty
 rw [<- hn, <- hm, <- hV, <- hE] at hck ⊢
 have HC := zh hck
 clear hck hv hk he hn hm hV hE hs h0
 go_enter Tryz.func19, Tryz.ntmps19
 go_wp2_with (go_at_call 21; refine (HC.out _ (by go_grown)).mono ?_; rintro e w2 ⟨rfl, hb2⟩; have HB2 := zh ((Below.alloc (Below.refl _ _) zn _).trans (hb2.mono (by simp only [World.size_alloc]; omega))); clear hb2)
 go_returns
 exact ⟨_, rfl, HB2.out, TO.nil _ _⟩
set_option maxRecDepth 100000 in
set_option maxHeartbeats 4000000 in
theorem zgk (r : Raw) (x : Value) (w : World) (hv : TD w x r) (hs : Small r) (h0 : r.check ≠ 0) : Calls Tryz.prog 20 #[x] w (RetSm w ([], false, r.check)) := by
 have hck := fun W (h : Below w.heap.size w W) => zh0 r x W (hv.below h zn) hs
 have he : zbd r = false := by unfold zbd; simp [h0]
 rw [he] at hck
 obtain ⟨k, hk⟩ := zx r.check
 rw [<- hk] at h0 hck ⊢
 have h0' : ((k : Int) != 0) = true := by rw [bne_iff_ne]; omega
 obtain ⟨A3, c3, A4, c4, rfl⟩ := hv.form
 obtain ⟨n, hn⟩ := zx r.next.length
 obtain ⟨m, hm⟩ := zx r.fin.length
 obtain ⟨i0, hV⟩ := zx r.vars
 obtain ⟨i1, hE⟩ := zx r.empty
 rw [<- hn, <- hm, <- hV, <- hE] at hck ⊢
 have HC := zh hck
 clear hck hv hk he hn hm hV hE hs h0
 go_enter Tryz.func20, Tryz.ntmps20
 go_wp2_with (go_at_call 22; refine (HC.out _ (by go_grown)).mono ?_; rintro e w2 ⟨rfl, hb2⟩; have HB2 := zh ((Below.alloc (Below.refl _ _) zn _).trans (hb2.mono (by simp only [World.size_alloc]; omega))); clear hb2)
 go_returns
 exact ⟨_, rfl, HB2.out, TO.nil _ _⟩
set_option maxRecDepth 100000 in
set_option maxHeartbeats 4000000 in
theorem zfq (r : Raw) (x : Value) (w : World) (hv : TD w x r) (hs : Small r) (h0 : r.check = 0) (h1 : zbd r = true) : Calls Tryz.prog 20 #[x] w (RetSm w ([], false, 0)) := by
 have hck := fun W (h : Below w.heap.size w W) => zh0 r x W (hv.below h zn) hs
 rw [h0, h1] at hck
 obtain ⟨A3, c3, A4, c4, rfl⟩ := hv.form
 obtain ⟨n, hn⟩ := zx r.next.length
 obtain ⟨m, hm⟩ := zx r.fin.length
 obtain ⟨i0, hV⟩ := zx r.vars
 obtain ⟨i1, hE⟩ := zx r.empty
 rw [<- hn, <- hm, <- hV, <- hE] at hck ⊢
 have HC := zh hck
 clear hck hv h1 hn hm hV hE hs h0
 go_enter Tryz.func20, Tryz.ntmps20
 go_wp2_with (go_at_call 22; refine (HC.out _ (by go_grown)).mono ?_; rintro e w2 ⟨rfl, hb2⟩; have HB2 := zh ((Below.alloc (Below.refl _ _) zn _).trans (hb2.mono (by simp only [World.size_alloc]; omega))); clear hb2)
 go_returns
 exact ⟨_, rfl, HB2.out, TO.nil _ _⟩
end Go.Proofs.YthkfjnmnoanhlaaGreatDoor

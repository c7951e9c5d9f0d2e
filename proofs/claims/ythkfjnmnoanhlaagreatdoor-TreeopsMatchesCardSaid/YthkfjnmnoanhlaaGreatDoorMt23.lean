/- Part 23 of the proof; it says: lemmas and contracts. No conditions but those that each theorem states. -/
import Derived.Deep.RegionHeld3
import Derived.BigRegion
import Derived.Deep.LoopGhost
import Derived.Test.YthkfjnmnoanhlaaGreatDoorMt01
import Derived.Test.YthkfjnmnoanhlaaGreatDoorMt02
import Derived.Test.YthkfjnmnoanhlaaGreatDoorMt09
import Derived.Test.YthkfjnmnoanhlaaGreatDoorMt19
import Derived.Test.YthkfjnmnoanhlaaGreatDoorMt22
set_option linter.unusedSimpArgs false
set_option linter.unusedVariables false
set_option maxRecDepth 100000
set_option maxHeartbeats 32000000
namespace Go.Proofs.YthkfjnmnoanhlaaGreatDoor
open Go.RowKit
def rwX (f : Nat -> Nat -> Nat -> Nat) (i k x : Nat) : List Int := (List.range x).map fun x => (f i k x : Int)
def rwK (f : Nat -> Nat -> Nat -> Nat) (L i k : Nat) : List (List Int) := (List.range k).map fun k => rwX f i k L
def rwI (f : Nat -> Nat -> Nat -> Nat) (L n i : Nat) : List (List (List Int)) := (List.range i).map fun i => rwK f L i n
theorem zkz (f : Nat -> Nat -> Nat -> Nat) (i k x : Nat) : rwX f i k (x + 1) = rwX f i k x ++ [(f i k x : Int)] := by simp [rwX, List.range_succ]
theorem zk0 (f : Nat -> Nat -> Nat -> Nat) (L i k : Nat) : rwK f L i (k + 1) = rwK f L i k ++ [rwX f i k L] := by simp [rwK, List.range_succ]
theorem zk1 (f : Nat -> Nat -> Nat -> Nat) (L n i : Nat) : rwI f L n (i + 1) = rwI f L n i ++ [rwK f L i n] := by simp [rwI, List.range_succ]
theorem zer (f : Nat -> Nat -> Nat -> Nat) (i k x : Nat) : (rwX f i k x).length = x := by simp [rwX]
theorem zes (f : Nat -> Nat -> Nat -> Nat) (L i k : Nat) : (rwK f L i k).length = k := by simp [rwK]
theorem zc8 (f : Nat -> Nat -> Nat -> Nat) (L n i : Nat) : (rwI f L n i).length = i := by simp [rwI]
def finL (f : Nat -> Bool) (i : Nat) : List Bool := (List.range i).map f
theorem zf7 (f : Nat -> Bool) (i : Nat) : finL f (i + 1) = finL f i ++ [f i] := by simp [finL, List.range_succ]
theorem zbm (f : Nat -> Bool) (i : Nat) : (finL f i).length = i := by simp [finL]
def Dta.quoL (d : Dta) (o : List Nat) (cl : Nat -> Nat) : Dta := ⟨o.length, o.idxOf (cl d.e), d.L, fun i k x => o.idxOf (cl (d.nx (o.getD i 0) (o.getD k 0) x)), fun i => d.fin (o.getD i 0)⟩
theorem zgv {o : List Nat} {s : Nat} (h : s ∈ o) : zc4 (oI o) (s : Int) = (o.idxOf s : Int) := by
 have h1 := List.idxOf_lt_length_of_mem h
 refine zim (oI_at (by rw [List.getElem?_eq_getElem h1, List.getElem_idxOf])) fun j hj y hy => ?_
 intro e
 have hjl : j < o.length := by omega
 rw [oI_at (List.getElem?_eq_getElem hjl)] at hy
 have := Option.some.inj hy
 have hne := List.not_of_lt_findIdx (p := (· == s)) (xs := o) hj
 simp only [beq_eq_false_iff_ne, ne_eq] at hne
 exact hne (by omega)
structure QuoI (w : World) (g7 V E e' : Nat) (vn vf vN vF : Value) (L3 : List (List (List Int))) (lf : List Bool) (W : World) : Prop where
 below : Below w.heap.size w W
 gB : w.heap.size < g7
 r3 : Row W w.heap.size 25 #[.int .i64 (V : Int), .int .i64 (E : Int), vn, vf]
 r6 : Row W (w.heap.size + 1) 25 #[.int .i64 0, .int .i64 0, .slice none 0 0, .slice none 0 0]
 r7 : Row W g7 25 #[.int .i64 (V : Int), .int .i64 (e' : Int), vN, vF]
 ne7 : g7 ≠ w.heap.size + 1
 o3 : O3 W w.heap.size vN L3
 of : OB W w.heap.size vF lf
theorem QuoI.to {w W X : World} {g7 V E e' : Nat} {vn vf vN vF : Value} {L3 : List (List (List Int))} {lf : List Bool} (h : QuoI w g7 V E e' vn vf vN vF L3 lf W) (hb : Below W.heap.size W X) : QuoI w g7 V E e' vn vf vN vF L3 lf X :=
 ⟨h.below.trans (hb.mono h.below.size), h.gB, h.r3.below hb h.r3.lt, h.r6.below hb h.r6.lt, h.r7.below hb h.r7.lt, h.ne7, h.o3.below hb zn, OB.below h.of hb zn⟩
theorem zdk (d : Dta) (V : Nat) (hd : d.Fit V) (o : List Nat) (cl : Nat -> Nat) (he0 : cl d.e ∈ o) (hcl : ∀ a ∈ o, ∀ b ∈ o, ∀ x, x < d.L -> cl (d.nx a b x) ∈ o) (hol : ∀ a ∈ o, a < d.n) (ho64 : o.length <= 64) (va vo vc : Value) (w : World) (hva : TD w va (d.raw V)) (hvo : N1 w vo (oI o)) (hvc : N1 w vc (oI ((List.range d.n).map cl))) :
  Calls Tryz.prog 99 #[va, vo, vc] w fun e w' => ∃ v', e = .returned v' /\ Below w.heap.size w w' /\ TDO w' w.heap.size v' ((d.quoL o cl).raw V) := by
 obtain ⟨vn, vf, rfl, hnn, hff⟩ := hva
 have hvars : (d.raw V).vars = (V : Int) := rfl
 have hemp : (d.raw V).empty = (d.e : Int) := rfl
 rw [hvars, hemp]
 obtain ⟨b3, o3, c3, hN⟩ := (show N3 w vn (nx3 d.n d.L d.nx) from hnn).nx hd.pos hd.L8.1
 obtain rfl := hN.form
 obtain ⟨bk, ok, ck, rfl, hk1, hbk, hk2⟩ := (show NB w vf ((List.range d.n).map d.fin) from hff).at hd.pos
 obtain ⟨f, hf⟩ := zx ((d.quoL o cl).nx)
 obtain ⟨ff, hfin⟩ := zx ((d.quoL o cl).fin)
 have HRAW : Hid ((d.quoL o cl).raw V = ⟨(V : Int), ((d.quoL o cl).e : Int), rwI f d.L o.length o.length, finL ff o.length⟩) := by unfold Hid; rw [hf, hfin]; rfl
 have hpl0 : zc4 (oI o) ((cl d.e : Nat) : Int) = ((d.quoL o cl).e : Int) := zgv he0
 have HAT : Hid (∀ i k x a b, o[i]? = some a -> o[k]? = some b -> x < d.L -> zc4 (oI o) ((cl (d.nx a b x) : Nat) : Int) = (f i k x : Int)) := by
  intro i k x a b ha hb hx
  rw [zgv (hcl _ (List.mem_of_getElem? ha) _ (List.mem_of_getElem? hb) _ hx), hf]
  show _ = ((o.idxOf (cl (d.nx (o.getD i 0) (o.getD k 0) x)) : Nat) : Int)
  rw [List.getD_eq_getElem?_getD, List.getD_eq_getElem?_getD, ha, hb]; rfl
 have HFI : Hid (∀ i a, o[i]? = some a -> d.fin a = ff i) := by
  intro i a ha
  rw [hfin]
  show _ = d.fin (o.getD i 0)
  rw [List.getD_eq_getElem?_getD, ha]; rfl
 obtain ⟨bo, oo, co, rfl, ho1, ho2, hbo, hoc⟩ : ∃ b o' c, vo = .slice (some ⟨b, o', none⟩) o.length c /\ o.length <= c /\ c <= 9223372036854775807 /\ b < w.heap.size /\ ∀ (i a : Nat), o[i]? = some a -> w.cell? ⟨b, o' + i, none⟩ = some (.int .i64 (a : Int)) := by
  obtain ⟨A, c, e, h1, h2, h3⟩ := hvo.open
  rw [zai] at e h1
  have hp : 0 < o.length := List.length_pos_of_mem he0
  obtain ⟨b, o', hA, hb, _⟩ := h3 0 (o[0] : Int) (oI_at (List.getElem?_eq_getElem hp))
  exact ⟨b, o', c, by rw [e, hA], h1, h2, hb, fun i a ha => by
   obtain ⟨b', o2, hA', _, hc⟩ := h3 i a (oI_at ha)
   rw [hA] at hA'
   simp only [Option.some.injEq, Addr.mk.injEq, and_true] at hA'
   obtain ⟨rfl, rfl⟩ := hA'
   exact hc⟩
 obtain ⟨bc, oc, cc, rfl, hc1, hc2, hbc, hcc⟩ : ∃ b o' c, vc = .slice (some ⟨b, o', none⟩) d.n c /\ d.n <= c /\ c <= 9223372036854775807 /\ b < w.heap.size /\ ∀ s, s < d.n -> w.cell? ⟨b, o' + s, none⟩ = some (.int .i64 (cl s : Int)) := by
  obtain ⟨A, c, e, h1, h2, h3⟩ := hvc.open
  have hln : ((List.range d.n).map cl).length = d.n := by simp
  rw [zai, hln] at e h1
  have hat : ∀ s, s < d.n -> (oI ((List.range d.n).map cl))[s]? = some ((cl s : Nat) : Int) := fun s hs => oI_at (by rw [List.getElem?_map, List.getElem?_range hs]; rfl)
  obtain ⟨b, o', hA, hb, _⟩ := h3 0 _ (hat 0 hd.pos)
  exact ⟨b, o', c, by rw [e, hA], h1, h2, hb, fun s hs => by
   obtain ⟨b', o2, hA', _, hc⟩ := h3 s _ (hat s hs)
   rw [hA] at hA'
   simp only [Option.some.injEq, Addr.mk.injEq, and_true] at hA'
   obtain ⟨rfl, rfl⟩ := hA'
   exact hc⟩
 have PL := zh fun W (h : Below w.heap.size w W) (x : Int) => zn6 (oI o) x _ W (hvo.below h zn)
 have hsh := za5 V hd.v3
 rw [<- hd.L] at hsh
 have hv3i : (V : Int) <= 3 := by have := hd.v3; omega
 have hn64 := hd.n64; have hL8 := hd.L8.2; have hpos := hd.pos; have hee := hd.ok.he
 have HD := zh hd.ok; have HN := zh hN.at3; have hcap := hN.cap
 have HOC := zh hoc; have HCC := zh hcc; have HK2 := zh hk2; have HOL := zh hol
 obtain ⟨e', he'⟩ := zx ((d.quoL o cl).e)
 rw [<- he'] at HRAW hpl0
 clear hnn hff hvars hemp hN hd hvo hvc hf hfin hoc hcc hk2 hcl he' hol
 obtain ⟨L, hL⟩ := zx d.L
 obtain ⟨N, hNN⟩ := zx d.n
 obtain ⟨E, hE⟩ := zx d.e
 obtain ⟨M, hM⟩ := zx o.length
 rw [<- hL] at hsh hL8 HN HRAW HAT
 rw [<- hNN] at hn64 hpos hee HN hcap HCC HK2 hk1 hc1 HOL
 rw [<- hE] at hpl0 hee
 rw [<- hM] at ho64 ho1 HRAW PL
 rw [<- hNN, <- hE, <- hM]
 have HL := zh hL; have HNE := zh hNN; have HM := zh hM
 clear hL hNN hE hM
 obtain ⟨hcp1, hcp2⟩ := hcap
 have hcE := HCC.out E hee
 have heei : (E : Int) < (N : Int) := by omega
 obtain ⟨pe, hpe⟩ : ∃ p : Nat, p = cl E := ⟨_, rfl⟩
 rw [<- hpe] at hpl0 hcE
 clear hpe he0
 go_enter Tryz.func99, Tryz.ntmps99
 go_upto_region 1 with fail
 refine zab (fun X => Below w.heap.size w X /\ Row X w.heap.size 25 #[.int .i64 (V : Int), .int .i64 (E : Int), .slice (some ⟨b3, o3, none⟩) N c3, .slice (some ⟨bk, ok, none⟩) N ck] /\ Row X (w.heap.size + 1) 25 #[.int .i64 0, .int .i64 0, .slice none 0 0, .slice none 0 0]) ⟨by go_grown, (Row.new _ _ _).alloc _, Row.lit (by simp)⟩ ?_
 rintro W0 ⟨hb, r3, r6⟩
 have hgt : w.heap.size + 1 < W0.heap.size := r6.lt
 have HB := zh hb; have R3 := zh r3; have R6 := zh r6
 have y0 := r3.cell 0; have y1 := r3.cell 1
 simp only [List.getElem?_toArray, List.getElem?_cons_zero, List.getElem?_cons_succ] at y0 y1
 have hcE0 := (hb.cell (p := ⟨bc, oc + E, none⟩) hbc).trans hcE
 clear hb r3 r6 hcE
 go_cut [7] from 13 to 22 (fun u7 W => ∃ g7 : Nat, u7 = .pointer (some ⟨g7, 0, none⟩) /\ QuoI w g7 V E e' (.slice (some ⟨b3, o3, none⟩) N c3) (.slice (some ⟨bk, ok, none⟩) N ck) (.slice none 0 0) (.slice none 0 0) [] [] W)
 case first =>
  refine wp_region_held_drew (S := fun X => X.cell? ⟨w.heap.size, 0, none⟩ = some (.int .i64 (V : Int)) /\ X.cell? ⟨w.heap.size, 1, none⟩ = some (.int .i64 (E : Int)) /\ X.cell? ⟨bc, oc + E, none⟩ = some (.int .i64 (pe : Int))) (by kernel_rfl) (⟨y0, y1, hcE0⟩) (fun hHeld => ?_)
  refine tk 0 (oi := ⟨some 13, _, _, _, _, _⟩) ?_
  try simp only [zp]
  refine tk 1 (oi := ⟨some 14, _, _, _, _, _⟩) ?_
  try simp only [zp]
  refine tk 2 (oi := ⟨some 15, _, _, _, _, _⟩) ?_
  try simp only [zp]
  refine tk 3 (oi := ⟨some 16, _, _, _, _, _⟩) ?_
  try simp only [zp]
  refine tk 4 (oi := ⟨some 17, _, _, _, _, _⟩) ?_
  try simp only [zp]
  refine tk 5 (oi := ⟨some 18, _, _, _, _, _⟩) ?_
  try simp only [zp]
  refine tk 6 (oi := ⟨some 19, _, _, _, _, _⟩) ?_
  try simp only [zp]
  refine tk 7 (oi := ⟨some 20, _, _, _, _, _⟩) ?_
  try simp only [zp]
  have hal := Below.alloc (Below.refl W0.heap.size W0) zn (.cells #[.int .i64 0, .int .i64 0, .slice none 0 0, .slice none 0 0] 25)
  have hdr := (Below.refl W0.heap.size W0).drew
  have hda : Below W0.heap.size W0 (W0.drew.alloc (.cells #[.int .i64 0, .int .i64 0, .slice none 0 0, .slice none 0 0] 25)) := hdr.alloc zn _
  refine wpAnyH_ready (rs := [8, 10]) (by kernel_rfl) (by simp) ?_
  refine AllReadyH.cons rfl (fun K hK => ?_) (AllReadyH.cons rfl (fun K hK => ?_) AllReadyH.nil)
  ·go_simp
   (go_at_call 133; refine (PL.out _ HB.out.drew _).mono ?_; rintro ee wy ⟨rfl, rfl⟩; rw [hpl0])
   refine hK.out _ _ (⟨y0, y1, hcE0⟩) (fun hHeld1 => ?_)
   clear hK K hHeld
   try simp only [zp]
   refine tk 9 (oi := ⟨some 22, _, _, _, _, _⟩) ?_
   try simp only [zp]
   refine wpAnyH_ready (rs := [10]) (by kernel_rfl) (by simp) ?_
   refine AllReadyH.cons rfl (fun K hK => ?_) AllReadyH.nil
   go_simp
   refine hK.out _ _ (⟨(R3.out.below hda R3.out.lt).cell 0, (R3.out.below hda R3.out.lt).cell 1, (hda.cell (p := ⟨bc, oc + E, none⟩) (Nat.lt_of_lt_of_le hbc HB.out.size)).trans hcE0⟩) (fun hHeld2 => ?_)
   clear hK K hHeld1
   try simp only [zp]
   refine wpAnyH_ready (rs := [11]) (by kernel_rfl) (by simp) ?_
   refine AllReadyH.cons rfl (fun K hK => ?_) AllReadyH.nil
   have r7 : Row (W0.drew.alloc (.cells #[.int .i64 0, .int .i64 0, .slice none 0 0, .slice none 0 0] 25)) W0.heap.size 25 #[.int .i64 0, .int .i64 0, .slice none 0 0, .slice none 0 0] := Row.new _ _ _
   have z0 := r7.cell; have z1 := r7.free; have z2 := r7.lt
   go_simp
   have kB : Below W0.heap.size W0 (W0.alloc (.cells #[.int .i64 (V : Int), .int .i64 (e' : Int), .slice none 0 0, .slice none 0 0] 25)).drew := (Below.alloc (Below.refl W0.heap.size W0) zn _).drew
   have k3 := R3.out.below kB R3.out.lt
   have k6 := R6.out.below kB R6.out.lt
   have k7 : Row (W0.alloc (.cells #[.int .i64 (V : Int), .int .i64 (e' : Int), .slice none 0 0, .slice none 0 0] 25)).drew W0.heap.size 25 #[.int .i64 (V : Int), .int .i64 (e' : Int), .slice none 0 0, .slice none 0 0] := (Row.new W0 _ _).drew
   have kc := (kB.cell (p := ⟨bc, oc + E, none⟩) (Nat.lt_of_lt_of_le hbc HB.out.size)).trans hcE0
   refine hK.out _ _ (⟨k3.cell 0, k3.cell 1, kc⟩) (fun hHeld9 => ?_)
   clear hK K hHeld9
   try simp only [zp]
   refine wpAnyH_done (by kernel_rfl) ?_ _
   have HQ := zh (QuoI.mk (vN := .slice none 0 0) (vF := .slice none 0 0) (L3 := []) (lf := []) (HB.out.trans (kB.mono HB.out.size)) (by have := R3.out.lt; omega) k3 k6 k7 (by omega) ⟨[], VO.nil _ _ _, rfl, fun i u h => by simp at h⟩ (VO.nil _ _ _))
   clear z0 z1 z2 r7 k3 k6 k7 kB kc hda hdr hal y0 y1 hcE0
   go_wp2
   go_meet
   exact ⟨_, rfl, HQ.out⟩
  ·go_simp
   refine hK.out _ _ (⟨(R3.out.below hda R3.out.lt).cell 0, (R3.out.below hda R3.out.lt).cell 1, (hda.cell (p := ⟨bc, oc + E, none⟩) (Nat.lt_of_lt_of_le hbc HB.out.size)).trans hcE0⟩) (fun hHeld1 => ?_)
   clear hK K hHeld
   try simp only [zp]
   refine wpAnyH_ready (rs := [8]) (by kernel_rfl) (by simp) ?_
   refine AllReadyH.cons rfl (fun K hK => ?_) AllReadyH.nil
   go_simp
   (go_at_call 133; refine (PL.out _ (HB.out.trans (hda.mono HB.out.size)) _).mono ?_; rintro ee wy ⟨rfl, rfl⟩; rw [hpl0])
   refine hK.out _ _ (⟨(R3.out.below hda R3.out.lt).cell 0, (R3.out.below hda R3.out.lt).cell 1, (hda.cell (p := ⟨bc, oc + E, none⟩) (Nat.lt_of_lt_of_le hbc HB.out.size)).trans hcE0⟩) (fun hHeld2 => ?_)
   clear hK K hHeld1
   try simp only [zp]
   refine tk 9 (oi := ⟨some 22, _, _, _, _, _⟩) ?_
   try simp only [zp]
   refine wpAnyH_ready (rs := [11]) (by kernel_rfl) (by simp) ?_
   refine AllReadyH.cons rfl (fun K hK => ?_) AllReadyH.nil
   have r7 : Row (W0.drew.alloc (.cells #[.int .i64 0, .int .i64 0, .slice none 0 0, .slice none 0 0] 25)) W0.heap.size 25 #[.int .i64 0, .int .i64 0, .slice none 0 0, .slice none 0 0] := Row.new _ _ _
   have z0 := r7.cell; have z1 := r7.free; have z2 := r7.lt
   go_simp
   have kB : Below W0.heap.size W0 (W0.alloc (.cells #[.int .i64 (V : Int), .int .i64 (e' : Int), .slice none 0 0, .slice none 0 0] 25)).drew := (Below.alloc (Below.refl W0.heap.size W0) zn _).drew
   have k3 := R3.out.below kB R3.out.lt
   have k6 := R6.out.below kB R6.out.lt
   have k7 : Row (W0.alloc (.cells #[.int .i64 (V : Int), .int .i64 (e' : Int), .slice none 0 0, .slice none 0 0] 25)).drew W0.heap.size 25 #[.int .i64 (V : Int), .int .i64 (e' : Int), .slice none 0 0, .slice none 0 0] := (Row.new W0 _ _).drew
   have kc := (kB.cell (p := ⟨bc, oc + E, none⟩) (Nat.lt_of_lt_of_le hbc HB.out.size)).trans hcE0
   refine hK.out _ _ (⟨k3.cell 0, k3.cell 1, kc⟩) (fun hHeld9 => ?_)
   clear hK K hHeld9
   try simp only [zp]
   refine wpAnyH_done (by kernel_rfl) ?_ _
   have HQ := zh (QuoI.mk (vN := .slice none 0 0) (vF := .slice none 0 0) (L3 := []) (lf := []) (HB.out.trans (kB.mono HB.out.size)) (by have := R3.out.lt; omega) k3 k6 k7 (by omega) ⟨[], VO.nil _ _ _, rfl, fun i u h => by simp at h⟩ (VO.nil _ _ _))
   clear z0 z1 z2 r7 k3 k6 k7 kB kc hda hdr hal y0 y1 hcE0
   go_wp2
   go_meet
   exact ⟨_, rfl, HQ.out⟩
 case rest =>
  obtain ⟨g7, rfl, hq⟩ := hcut
  clear HB R3 R6 y0 y1 hcE0 hgt hpl0
  have HQ := zh hq
  clear hq
  go_wp2
  go_loopg [8] M (fun gk q8 W => ∃ (i : Nat) (vN vF : Value), i <= M /\ gk = M - i /\ q8 = .int .i64 i /\ QuoI w g7 V E e' (.slice (some ⟨b3, o3, none⟩) N c3) (.slice (some ⟨bk, ok, none⟩) N ck) vN vF (rwI f L M i) (finL ff i) W)
  case atStart => exact ⟨0, _, _, Nat.zero_le _, rfl, rfl, HQ.out⟩
  case round =>
   clear HQ
   obtain ⟨i, vN, vF, hi, rfl, rfl, hq⟩ := hrel
   obtain ⟨wl, hwl⟩ := zx wr
   subst hwl
   have HQ := zh hq
   clear hq
   by_cases hlt : i < M
   ·have hlti : (i : Int) < (M : Int) := by omega
    obtain ⟨a, ha⟩ : ∃ a, o[i]? = some a := ⟨_, List.getElem?_eq_getElem (by rw [<- HM.out]; exact hlt)⟩
    have haN : a < N := HOL.out a (List.mem_of_getElem? ha)
    have hcoa := HOC.out i a ha
    have HA := zh ha
    clear ha
    go_wp2
    go_loopg [9, 10] M (fun gk q9 q10 W => ∃ k : Nat, k <= M /\ gk = M - k /\ q10 = .int .i64 k /\ Below wl.heap.size wl W /\ O2 W wl.heap.size q9 (rwK f L i k))
    case atStart => exact ⟨0, Nat.zero_le _, rfl, rfl, Below.refl _ _, [], VO.nil _ _ _, rfl, fun i u h => by simp at h⟩
    case round =>
     obtain ⟨k, hk, rfl, rfl, hbl, vs, hv1, hv2⟩ := hrel
     obtain ⟨wx, hwx⟩ := zx wr
     subst hwx
     obtain ⟨A9, c9, rfl⟩ := VO.formN (n := k) hv1 (by rw [hv2.1, zes])
     have HBL := zh hbl; have HV1 := zh hv1; have HV2 := zh hv2
     clear hbl hv1 hv2
     by_cases hkt : k < M
     ·have hkti : (k : Int) < (M : Int) := by omega
      obtain ⟨b, hbb⟩ : ∃ b, o[k]? = some b := ⟨_, List.getElem?_eq_getElem (by rw [<- HM.out]; exact hkt)⟩
      have hbN : b < N := HOL.out b (List.mem_of_getElem? hbb)
      have hcob := HOC.out k b hbb
      have HBBk := zh hbb
      clear hbb
      go_wp2
      go_loopg [11, 12] L (fun gk q11 q12 W => ∃ x : Nat, x <= L /\ gk = L - x /\ q12 = .int .i64 x /\ Below wx.heap.size wx W /\ O1 W wx.heap.size q11 (rwX f i k x))
      case atStart => exact ⟨0, Nat.zero_le _, rfl, rfl, Below.refl _ _, VO.nil _ _ _⟩
      case round =>
       obtain ⟨x, hx, rfl, rfl, hbx, ho⟩ := hrel
       obtain ⟨W, hW⟩ := zx wr
       subst hW
       obtain ⟨A11, c11, rfl⟩ := VO.formN (n := x) ho (by rw [zah, zer])
       have HBX := zh hbx; have HO := zh ho
       clear hbx ho
       have r3W := ((HQ.out.r3.below HBL.out HQ.out.r3.lt)).below HBX.out (Nat.lt_of_lt_of_le HQ.out.r3.lt HBL.out.size)
       have hWb := (HQ.out.below.trans (HBL.out.mono HQ.out.below.size)).trans (HBX.out.mono (Nat.le_trans HQ.out.below.size HBL.out.size))
       by_cases hxt : x < L
       ·have hxti : (x : Int) < (L : Int) := by omega
        obtain ⟨b2, o2, c2, b1, o1, c1, e1, e2, e3, e4, e5, e6, e7, e8⟩ := HN.out a b x haN hbN hxt
        obtain ⟨s, hs⟩ := zx (d.nx a b x)
        have hsN : s < N := by rw [hs, HNE.out]; exact HD.out.hn _ _ _ (by rw [<- HNE.out]; exact haN) (by rw [<- HNE.out]; exact hbN) (by rw [<- HL.out]; exact hxt)
        have hplv := HAT.out i k x a b HA.out HBBk.out hxt
        rw [<- hs] at e8 hplv
        have hccs := HCC.out s hsN
        obtain ⟨pc, hpc⟩ : ∃ p : Nat, p = cl s := ⟨_, rfl⟩
        obtain ⟨fv, hfv⟩ : ∃ p : Nat, p = f i k x := ⟨_, rfl⟩
        rw [<- hpc, <- hfv] at hplv
        rw [<- hpc] at hccs
        have hai : (a : Int) < (N : Int) := by omega
        have hbi : (b : Int) < (N : Int) := by omega
        have hsi : (s : Int) < (N : Int) := by omega
        have HSX : Hid (∀ X, Below w.heap.size w X -> Row X w.heap.size 25 #[.int .i64 (V : Int), .int .i64 (E : Int), .slice (some ⟨b3, o3, none⟩) N c3, .slice (some ⟨bk, ok, none⟩) N ck] -> X.cell? ⟨w.heap.size, 2, none⟩ = some (.slice (some ⟨b3, o3, none⟩) N c3) /\ X.cell? ⟨bo, oo + i, none⟩ = some (.int .i64 (a : Int)) /\ X.cell? ⟨bo, oo + k, none⟩ = some (.int .i64 (b : Int)) /\ X.cell? ⟨b3, o3 + a, none⟩ = some (.slice (some ⟨b2, o2, none⟩) N c2) /\ X.cell? ⟨b2, o2 + b, none⟩ = some (.slice (some ⟨b1, o1, none⟩) L c1) /\ X.cell? ⟨b1, o1 + x, none⟩ = some (.int .i64 (s : Int)) /\ X.cell? ⟨bc, oc + s, none⟩ = some (.int .i64 (pc : Int))) := fun X hb hr =>
         ⟨(hr.cell 2).trans rfl, (hb.cell (p := ⟨bo, oo + i, none⟩) hbo).trans hcoa, (hb.cell (p := ⟨bo, oo + k, none⟩) hbo).trans hcob, (hb.cell (p := ⟨b3, o3 + a, none⟩) e1).trans e2, (hb.cell (p := ⟨b2, o2 + b, none⟩) e4).trans e5, (hb.cell (p := ⟨b1, o1 + x, none⟩) e7).trans e8, (hb.cell (p := ⟨bc, oc + s, none⟩) hbc).trans hccs⟩
        have hplv' := hplv
        have HWB := zh hWb; have R3W := zh r3W; have HFV := zh hfv
        clear hs e1 e2 e4 e5 e7 e8 hccs hpc hfv hplv hWb r3W
        have y0 := R3W.out.cell
        go_upto_region 13 with fail
        clear y0
        refine wp_region_held_drew (S := fun X => X.cell? ⟨w.heap.size, 2, none⟩ = some (.slice (some ⟨b3, o3, none⟩) N c3) /\ X.cell? ⟨bo, oo + i, none⟩ = some (.int .i64 (a : Int)) /\ X.cell? ⟨bo, oo + k, none⟩ = some (.int .i64 (b : Int)) /\ X.cell? ⟨b3, o3 + a, none⟩ = some (.slice (some ⟨b2, o2, none⟩) N c2) /\ X.cell? ⟨b2, o2 + b, none⟩ = some (.slice (some ⟨b1, o1, none⟩) L c1) /\ X.cell? ⟨b1, o1 + x, none⟩ = some (.int .i64 (s : Int)) /\ X.cell? ⟨bc, oc + s, none⟩ = some (.int .i64 (pc : Int))) (by kernel_rfl) (HSX.out _ HWB.out.drew R3W.out.drew) (fun hHeld => ?_)
        refine tk 0 (oi := ⟨some 42, _, _, _, _, _⟩) ?_
        try simp only [zp]
        refine tk 1 (oi := ⟨some 43, _, _, _, _, _⟩) ?_
        try simp only [zp]
        refine tk 2 (oi := ⟨some 44, _, _, _, _, _⟩) ?_
        try simp only [zp]
        refine tk 3 (oi := ⟨some 45, _, _, _, _, _⟩) ?_
        try simp only [zp]
        refine tk 4 (oi := ⟨some 46, _, _, _, _, _⟩) ?_
        try simp only [zp]
        refine tk 5 (oi := ⟨some 47, _, _, _, _, _⟩) ?_
        try simp only [zp]
        refine tk 6 (oi := ⟨some 48, _, _, _, _, _⟩) ?_
        try simp only [zp]
        refine tk 7 (oi := ⟨some 49, _, _, _, _, _⟩) ?_
        try simp only [zp]
        refine tk 8 (oi := ⟨some 50, _, _, _, _, _⟩) ?_
        try simp only [zp]
        refine tk 9 (oi := ⟨some 51, _, _, _, _, _⟩) ?_
        try simp only [zp]
        refine tk 10 (oi := ⟨some 52, _, _, _, _, _⟩) ?_
        try simp only [zp]
        refine tk 11 (oi := ⟨some 53, _, _, _, _, _⟩) ?_
        try simp only [zp]
        refine tk 12 (oi := ⟨some 54, _, _, _, _, _⟩) ?_
        try simp only [zp]
        refine tk 13 (oi := ⟨some 55, _, _, _, _, _⟩) ?_
        try simp only [zp]
        refine tk 14 (oi := ⟨some 56, _, _, _, _, _⟩) ?_
        try simp only [zp]
        refine tk 15 (oi := ⟨some 57, _, _, _, _, _⟩) ?_
        try simp only [zp]
        refine tk 16 (oi := ⟨some 58, _, _, _, _, _⟩) ?_
        try simp only [zp]
        refine tk 17 (oi := ⟨some 59, _, _, _, _, _⟩) ?_
        try simp only [zp]
        refine tk 18 (oi := ⟨some 60, _, _, _, _, _⟩) ?_
        try simp only [zp]
        refine tk 19 (oi := ⟨some 61, _, _, _, _, _⟩) ?_
        try simp only [zp]
        refine tk 20 (oi := ⟨some 62, _, _, _, _, _⟩) ?_
        try simp only [zp]
        refine tk 21 (oi := ⟨some 63, _, _, _, _, _⟩) ?_
        try simp only [zp]
        refine wpAnyH_ready (rs := [22]) (by kernel_rfl) (by simp) ?_
        refine AllReadyH.cons rfl (fun K hK => ?_) AllReadyH.nil
        go_simp
        (go_at_call 133; refine (PL.out _ HWB.out.drew _).mono ?_; rintro ee wy ⟨rfl, rfl⟩; rw [hplv'])
        refine hK.out _ _ (HSX.out _ HWB.out.drew R3W.out.drew) (fun hHeld1 => ?_)
        clear hK K hHeld
        try simp only [zp]
        refine wpAnyH_ready (rs := [23]) (by kernel_rfl) (by simp) ?_
        refine AllReadyH.cons rfl (fun K hK => ?_) AllReadyH.nil
        go_simp
        have hal := HWB.out.drew.alloc HWB.out.size (.cells #[.int .i64 (fv : Int)] 3)
        have ral := R3W.out.drew.alloc (.cells #[.int .i64 (fv : Int)] 3)
        refine hK.out _ _ (HSX.out _ hal ral) (fun hHeld2 => ?_)
        clear hK K hHeld1
        try simp only [zp]
        refine wpAnyH_ready (rs := [24]) (by kernel_rfl) (by simp) ?_
        refine AllReadyH.cons rfl (fun K hK => ?_) AllReadyH.nil
        refine zak eI rfl (.tmp 42) (.tmp 65) rfl wx.heap.size _ _ rfl (VO.allocd (VO.below HO.out (Below.refl W.heap.size W).drew zn) _) _ [.int .i64 (fv : Int)] rfl (VS.one (by first | exact Row.new _ _ _ | exact Row.lit rfl | exact Row.litd rfl)) (by intro u hu; simp at hu; subst hu; rfl) (by rw [zah, zer]; simp; omega) (by have := HBX.out.size; go_grown) ?_; intro v4 w4 ho4 hg4 _; obtain ⟨A4, c4, rfl⟩ := VO.formN (n := x + 1) ho4 (by rw [List.length_append, zah, zer]; rfl)
        have HO4 : Hid (O1 w4 wx.heap.size (.slice A4 (x + 1) c4) (rwX f i k (x + 1))) := by have := ho4; rw [HFV.out, <- zb4, <- zkz] at this; exact this
        have hB4 : Below wx.heap.size wx w4 := zaf (w := wx) (HBX.out.drew.alloc (by have := HBX.out.size; exact this) _) (VO.allocd (VO.below HO.out (Below.refl W.heap.size W).drew zn) (.cells #[.int .i64 (fv : Int)] 3)) hg4 (by have := HBX.out.size; go_grown)
        have HB4 := zh hB4
        have hw4 : Below w.heap.size w w4 := (HQ.out.below.trans (HBL.out.mono HQ.out.below.size)).trans (hB4.mono (Nat.le_trans HQ.out.below.size HBL.out.size))
        have r34 := ((HQ.out.r3.below HBL.out HQ.out.r3.lt)).below hB4 (Nat.lt_of_lt_of_le HQ.out.r3.lt HBL.out.size)
        clear ho4 hg4 hB4
        refine hK.out _ _ (HSX.out _ hw4 r34) (fun hHeld3 => ?_)
        clear hK K hHeld2
        try simp only [zp]
        refine tk 25 (oi := ⟨some 11, _, _, _, _, _⟩) ?_
        try simp only [zp]
        refine wpAnyH_done (by kernel_rfl) ?_ _
        clear hw4 r34 hal ral hHeld3
        go_wp2
        go_roundg (L - (x + 1))
        case rel => exact ⟨x + 1, by omega, rfl, by go_num, HB4.out, HO4.out⟩
        case measure => omega
       ·obtain rfl : x = L := by omega
        have y0 := r3W.cell
        have HV1W := zh (HV1.out.below HBX.out zn)
        have HV2W := zh (V1.below HV2.out HBX.out zn)
        clear hWb
        go_wp2_with (at_builtin; refine zaa eII rfl (.tmp 67) (.tmp 69) rfl wl.heap.size _ _ rfl (VO.allocd HV1W.out _) _ [.slice A11 x c11] rfl (VS.one (Row.new _ _ _)) (by intro u hu; simp at hu; subst hu; rfl) (by rw [HV2.out.1, zes]; simp; omega) (by simp only [World.size_alloc]; have := HBX.out.size; have := HBL.out.size; omega) ?_; intro v4 w4 ho4 hg4 _; obtain ⟨A4, c4, rfl⟩ := VO.formN (n := k + 1) ho4 (by rw [List.length_append, HV2.out.1, zes]; rfl); have HO4 := zh ho4; have HG4 := zh hg4; clear ho4 hg4)
        have hV24 := V1.far (V1.below HV2W.out (Below.alloc (Below.refl W.heap.size W) zn _) zn) (by decide) (VO.allocd HV1W.out _) HG4.out
        have hO14 := O1.far (O1.below HO.out (Below.alloc (Below.refl W.heap.size W) zn _) zn) (by decide) (VO.allocd HV1W.out _) HG4.out
        have hB4 : Below wl.heap.size wl w4 := zaf (w := wl) ((HBL.out.trans (HBX.out.mono HBL.out.size)).alloc (by have := HBX.out.size; have := HBL.out.size; omega) _) (VO.allocd HV1W.out _) HG4.out (by simp only [World.size_alloc]; have := HBX.out.size; have := HBL.out.size; omega)
        have hV5 := hV24.snoc (hO14.mono HBL.out.size)
        have H4 := zh hV5; have HB4 := zh hB4
        clear hV24 hO14 hB4 hV5 y0
        try go_wp2
        go_roundg (M - (k + 1))
        case rel => exact ⟨k + 1, by omega, rfl, by go_num, HB4.out, ⟨_, HO4.out, by rw [zk0]; exact H4.out⟩⟩
        case measure => omega
     ·obtain rfl : k = M := by omega
      have HQX := zh (HQ.out.to HBL.out)
      have O2X := zh (show O2 wx wl.heap.size (.slice A9 k c9) (rwK f L i k) from ⟨vs, HV1.out, HV2.out⟩)
      have hbs := HQ.out.below.size
      obtain ⟨vsn, hvn, hvn2⟩ := HQX.out.o3
      obtain ⟨An, cn, rfl⟩ := VO.formN (n := i) hvn (by rw [hvn2.1, zc8])
      obtain ⟨Af, cf, rfl⟩ := VO.formN (n := i) HQX.out.of (by rw [zap, zbm])
      have VNh := zh hvn; have VN2 := zh hvn2
      have z0 := HQX.out.r7.cell; have z1 := HQX.out.r7.free
      clear hvn hvn2 HV1 HV2
      go_upto_region 16 with (at_builtin; refine zaa eIII rfl (.tmp 72) (.tmp 74) rfl w.heap.size _ _ rfl (VO.allocd VNh.out _) _ [.slice A9 k c9] rfl (VS.one (Row.new _ _ _)) (by intro u hu; simp at hu; subst hu; rfl) (by rw [VN2.out.1, zc8]; simp; omega) (by simp only [World.size_alloc]; have := HQX.out.below.size; omega) ?_; intro v4 w4 ho4 hg4 _; obtain ⟨A4, c4, rfl⟩ := VO.formN (n := i + 1) ho4 (by rw [List.length_append, VN2.out.1, zc8]; rfl); have HO4 := zh ho4; have HG4 := zh hg4; have R74 := zh ((Row.alloc HQX.out.r7 _).far_own (by decide) (VO.allocd VNh.out _).2 hg4); have z2 := R74.out.cell; have z3 := R74.out.free; clear ho4 hg4)
      have hA := Below.alloc (Below.refl wx.heap.size wx) zn (.cells #[.slice A9 k c9] 54)
      have hV24 := V2.far (V2.below VN2.out hA zn) (by decide) (by decide) (VO.allocd VNh.out _) HG4.out
      have hO24 := O2.far (O2.below O2X.out hA zn) (by decide) (by decide) (VO.allocd VNh.out _) HG4.out
      have hF4 := OB.far (OB.below HQX.out.of hA zn) (by decide) (VO.allocd VNh.out _) HG4.out
      have hB4 : Below w.heap.size w w4 := zaf (w := w) (HQX.out.below.alloc (by have := HQX.out.below.size; omega) _) (VO.allocd VNh.out _) HG4.out (by simp only [World.size_alloc]; have := HQX.out.below.size; omega)
      have hR34 := (Row.alloc HQX.out.r3 (.cells #[.slice A9 k c9] 54)).far_own (by decide) (VO.allocd VNh.out _).2 HG4.out
      have hR64 := (Row.alloc HQX.out.r6 (.cells #[.slice A9 k c9] 54)).far_own (by decide) (VO.allocd VNh.out _).2 HG4.out
      have hO34 : O3 w4 w.heap.size (.slice A4 (i + 1) c4) (rwI f L k (i + 1)) := ⟨_, HO4.out, by rw [zk1]; exact hV24.snoc (hO24.mono hbs)⟩
      have hgB := HQ.out.gB; have hn7 := HQ.out.ne7
      refine zab (fun X => QuoI w g7 V E e' (.slice (some ⟨b3, o3, none⟩) N c3) (.slice (some ⟨bk, ok, none⟩) N ck) (.slice A4 (i + 1) c4) (.slice Af i cf) (rwI f L k (i + 1)) (finL ff i) X)
       ⟨hB4.setCell (p := ⟨g7, 2, none⟩) (by show w.heap.size <= g7; omega) _, hgB, hR34.far (by show w.heap.size ≠ g7; omega) _, hR64.far (by show w.heap.size + 1 ≠ g7; omega) _, R74.out.set 2 _, hn7, hO34.setRow R74.out (by decide) (by decide) (by decide) 2 _, hF4.setRow R74.out (by decide) 2 _⟩ ?_
      clear hA hV24 hO24 hF4 hB4 hR34 hR64 hO34 z0 z1 z2 z3 R74 HO4 HG4 VNh VN2 O2X HQ HQX HBL
      rintro X hq
      have HQ := zh hq
      clear hq
      have hfi := HFI.out i a HA.out
      have hkf := HK2.out a haN
      rw [hfi] at hkf
      obtain ⟨fb', hfb⟩ := zx (ff i)
      rw [<- hfb] at hkf
      have HFB := zh hfb
      have hai : (a : Int) < (N : Int) := by omega
      have HSX : Hid (∀ Y, Below w.heap.size w Y -> Row Y w.heap.size 25 #[.int .i64 (V : Int), .int .i64 (E : Int), .slice (some ⟨b3, o3, none⟩) N c3, .slice (some ⟨bk, ok, none⟩) N ck] -> Y.cell? ⟨w.heap.size, 3, none⟩ = some (.slice (some ⟨bk, ok, none⟩) N ck) /\ Y.cell? ⟨bo, oo + i, none⟩ = some (.int .i64 (a : Int)) /\ Y.cell? ⟨bk, ok + a, none⟩ = some (.bool fb')) := fun Y hb hr =>
       ⟨(hr.cell 3).trans rfl, (hb.cell (p := ⟨bo, oo + i, none⟩) hbo).trans hcoa, (hb.cell (p := ⟨bk, ok + a, none⟩) hbk).trans hkf⟩
      clear hfi hkf hfb
      have hal := HQ.out.below.drew.alloc HQ.out.below.size (.cells #[.bool fb'] 4)
      have ral := HQ.out.r3.drew.alloc (.cells #[.bool fb'] 4)
      have y7 := HQ.out.r7.cell; have l7 := HQ.out.r7.lt
      have y9 := (HQ.out.r7.drew.alloc (.cells #[.bool fb'] 4)).cell
      refine wp_region_held_drew (S := fun Y => Y.cell? ⟨w.heap.size, 3, none⟩ = some (.slice (some ⟨bk, ok, none⟩) N ck) /\ Y.cell? ⟨bo, oo + i, none⟩ = some (.int .i64 (a : Int)) /\ Y.cell? ⟨bk, ok + a, none⟩ = some (.bool fb')) (by kernel_rfl) (HSX.out _ HQ.out.below.drew HQ.out.r3.drew) (fun hHeld => ?_)
      refine tk 0 (oi := ⟨some 77, _, _, _, _, _⟩) ?_
      try simp only [zp]
      refine tk 2 (oi := ⟨some 79, _, _, _, _, _⟩) ?_
      try simp only [zp]
      refine tk 3 (oi := ⟨some 80, _, _, _, _, _⟩) ?_
      try simp only [zp]
      refine tk 4 (oi := ⟨some 81, _, _, _, _, _⟩) ?_
      try simp only [zp]
      refine tk 5 (oi := ⟨some 82, _, _, _, _, _⟩) ?_
      try simp only [zp]
      refine tk 6 (oi := ⟨some 83, _, _, _, _, _⟩) ?_
      try simp only [zp]
      refine tk 7 (oi := ⟨some 84, _, _, _, _, _⟩) ?_
      try simp only [zp]
      refine tk 8 (oi := ⟨some 85, _, _, _, _, _⟩) ?_
      try simp only [zp]
      refine tk 9 (oi := ⟨some 86, _, _, _, _, _⟩) ?_
      try simp only [zp]
      refine wpAnyH_ready (rs := [1, 10]) (by kernel_rfl) (by simp) ?_
      refine AllReadyH.cons rfl (fun K hK => ?_) (AllReadyH.cons rfl (fun K hK => ?_) AllReadyH.nil)
      ·go_simp
       refine hK.out _ _ (HSX.out _ HQ.out.below.drew HQ.out.r3.drew) (fun hHeld1 => ?_)
       clear hK K hHeld
       try simp only [zp]
       refine wpAnyH_ready (rs := [10]) (by kernel_rfl) (by simp) ?_
       refine AllReadyH.cons rfl (fun K hK => ?_) AllReadyH.nil
       go_simp
       refine hK.out _ _ (HSX.out _ hal ral) (fun hHeld2 => ?_)
       clear hK K hHeld1
       try simp only [zp]
       refine wpAnyH_ready (rs := [11]) (by kernel_rfl) (by simp) ?_
       refine AllReadyH.cons rfl (fun K hK => ?_) AllReadyH.nil
       refine zak eB rfl (.tmp 78) (.tmp 87) rfl w.heap.size _ _ rfl (VO.allocd (VO.below HQ.out.of (Below.refl X.heap.size X).drew zn) _) _ [.bool fb'] rfl (VS.one (by first | exact Row.new _ _ _ | exact Row.lit rfl | exact Row.litd rfl)) (by intro u hu; simp at hu; subst hu; rfl) (by rw [zap, zbm]; simp; omega) (by have := HQ.out.below.size; go_grown) ?_; intro v4 w4 ho4 hg4 _; obtain ⟨A5, c5, rfl⟩ := VO.formN (n := i + 1) ho4 (by rw [List.length_append, zap, zbm]; rfl)
       have HO5 : Hid (OB w4 w.heap.size (.slice A5 (i + 1) c5) (finL ff (i + 1))) := by have := ho4; rw [HFB.out, show bL (finL ff i) ++ [Value.bool (ff i)] = bL (finL ff i ++ [ff i]) from by simp [bL], <- zf7] at this; exact this
       have HQ5 : Hid (QuoI w g7 V E e' (.slice (some ⟨b3, o3, none⟩) N c3) (.slice (some ⟨bk, ok, none⟩) N ck) (.slice A4 (i + 1) c4) (.slice Af i cf) (rwI f L k (i + 1)) [] w4 \/ True) := .inr trivial
       clear HQ5
       have hB5 : Below w.heap.size w w4 := zaf (w := w) hal (VO.allocd (VO.below HQ.out.of (Below.refl X.heap.size X).drew zn) (.cells #[.bool fb'] 4)) hg4 (by have := HQ.out.below.size; go_grown)
       have h35 := ral.far_own (by decide) (VO.allocd (VO.below HQ.out.of (Below.refl X.heap.size X).drew zn) (.cells #[.bool fb'] 4)).2 hg4
       have h65 := (HQ.out.r6.drew.alloc (.cells #[.bool fb'] 4)).far_own (by decide) (VO.allocd (VO.below HQ.out.of (Below.refl X.heap.size X).drew zn) (.cells #[.bool fb'] 4)).2 hg4
       have h75 := (HQ.out.r7.drew.alloc (.cells #[.bool fb'] 4)).far_own (by decide) (VO.allocd (VO.below HQ.out.of (Below.refl X.heap.size X).drew zn) (.cells #[.bool fb'] 4)).2 hg4
       have hO5 := O3.far (O3.below (O3.below HQ.out.o3 (Below.refl X.heap.size X).drew zn) (Below.alloc (Below.refl X.drew.heap.size X.drew) zn (.cells #[.bool fb'] 4)) zn) (by decide) (by decide) (by decide) (VO.allocd (VO.below HQ.out.of (Below.refl X.heap.size X).drew zn) (.cells #[.bool fb'] 4)) hg4
       have HB5 := zh hB5; have H35 := zh h35; have H65 := zh h65; have H75 := zh h75; have H5 := zh hO5
       have z2 := h75.cell; have z3 := h75.free; have z4 := h75.lt
       clear ho4 hg4 hB5 h35 h65 h75 hO5
       refine hK.out _ _ (HSX.out _ HB5.out H35.out) (fun hHeld3 => ?_)
       clear hK K hHeld2
       try simp only [zp]
       refine tk 12 (oi := ⟨some 89, _, _, _, _, _⟩) ?_
       try simp only [zp]
       refine wpAnyH_ready (rs := [13]) (by kernel_rfl) (by simp) ?_
       refine AllReadyH.cons rfl (fun K hK => ?_) AllReadyH.nil
       go_simp
       refine hK.out _ _ (HSX.out _ (HB5.out.setCell (p := ⟨g7, 3, none⟩) (by show w.heap.size <= g7; omega) _) (H35.out.far (by show w.heap.size ≠ g7; omega) _)) (fun hHeld4 => ?_)
       clear hK K hHeld3
       try simp only [zp]
       refine wpAnyH_done (by kernel_rfl) ?_ _
       clear hal ral y7 y9 l7 z2 z3 z4 hHeld4
       go_wp2
       go_roundg (k - (i + 1))
       case rel => exact ⟨i + 1, _, _, by omega, rfl, by go_num, HB5.out.setCell (p := ⟨g7, 3, none⟩) (by show w.heap.size <= g7; omega) _, hgB, H35.out.far (by show w.heap.size ≠ g7; omega) _, H65.out.far (by show w.heap.size + 1 ≠ g7; omega) _, H75.out.set 3 _, hn7, H5.out.setRow H75.out (by decide) (by decide) (by decide) 3 _, HO5.out.setRow H75.out (by decide) 3 _⟩
       case measure => omega
      ·go_simp
       refine hK.out _ _ (HSX.out _ hal ral) (fun hHeld1 => ?_)
       clear hK K hHeld
       try simp only [zp]
       refine wpAnyH_ready (rs := [1]) (by kernel_rfl) (by simp) ?_
       refine AllReadyH.cons rfl (fun K hK => ?_) AllReadyH.nil
       go_simp
       refine hK.out _ _ (HSX.out _ hal ral) (fun hHeld2 => ?_)
       clear hK K hHeld1
       try simp only [zp]
       refine wpAnyH_ready (rs := [11]) (by kernel_rfl) (by simp) ?_
       refine AllReadyH.cons rfl (fun K hK => ?_) AllReadyH.nil
       refine zak eB rfl (.tmp 78) (.tmp 87) rfl w.heap.size _ _ rfl (VO.allocd (VO.below HQ.out.of (Below.refl X.heap.size X).drew zn) _) _ [.bool fb'] rfl (VS.one (by first | exact Row.new _ _ _ | exact Row.lit rfl | exact Row.litd rfl)) (by intro u hu; simp at hu; subst hu; rfl) (by rw [zap, zbm]; simp; omega) (by have := HQ.out.below.size; go_grown) ?_; intro v4 w4 ho4 hg4 _; obtain ⟨A5, c5, rfl⟩ := VO.formN (n := i + 1) ho4 (by rw [List.length_append, zap, zbm]; rfl)
       have HO5 : Hid (OB w4 w.heap.size (.slice A5 (i + 1) c5) (finL ff (i + 1))) := by have := ho4; rw [HFB.out, show bL (finL ff i) ++ [Value.bool (ff i)] = bL (finL ff i ++ [ff i]) from by simp [bL], <- zf7] at this; exact this
       have HQ5 : Hid (QuoI w g7 V E e' (.slice (some ⟨b3, o3, none⟩) N c3) (.slice (some ⟨bk, ok, none⟩) N ck) (.slice A4 (i + 1) c4) (.slice Af i cf) (rwI f L k (i + 1)) [] w4 \/ True) := .inr trivial
       clear HQ5
       have hB5 : Below w.heap.size w w4 := zaf (w := w) hal (VO.allocd (VO.below HQ.out.of (Below.refl X.heap.size X).drew zn) (.cells #[.bool fb'] 4)) hg4 (by have := HQ.out.below.size; go_grown)
       have h35 := ral.far_own (by decide) (VO.allocd (VO.below HQ.out.of (Below.refl X.heap.size X).drew zn) (.cells #[.bool fb'] 4)).2 hg4
       have h65 := (HQ.out.r6.drew.alloc (.cells #[.bool fb'] 4)).far_own (by decide) (VO.allocd (VO.below HQ.out.of (Below.refl X.heap.size X).drew zn) (.cells #[.bool fb'] 4)).2 hg4
       have h75 := (HQ.out.r7.drew.alloc (.cells #[.bool fb'] 4)).far_own (by decide) (VO.allocd (VO.below HQ.out.of (Below.refl X.heap.size X).drew zn) (.cells #[.bool fb'] 4)).2 hg4
       have hO5 := O3.far (O3.below (O3.below HQ.out.o3 (Below.refl X.heap.size X).drew zn) (Below.alloc (Below.refl X.drew.heap.size X.drew) zn (.cells #[.bool fb'] 4)) zn) (by decide) (by decide) (by decide) (VO.allocd (VO.below HQ.out.of (Below.refl X.heap.size X).drew zn) (.cells #[.bool fb'] 4)) hg4
       have HB5 := zh hB5; have H35 := zh h35; have H65 := zh h65; have H75 := zh h75; have H5 := zh hO5
       have z2 := h75.cell; have z3 := h75.free; have z4 := h75.lt
       clear ho4 hg4 hB5 h35 h65 h75 hO5
       refine hK.out _ _ (HSX.out _ HB5.out H35.out) (fun hHeld3 => ?_)
       clear hK K hHeld2
       try simp only [zp]
       refine tk 12 (oi := ⟨some 89, _, _, _, _, _⟩) ?_
       try simp only [zp]
       refine wpAnyH_ready (rs := [13]) (by kernel_rfl) (by simp) ?_
       refine AllReadyH.cons rfl (fun K hK => ?_) AllReadyH.nil
       go_simp
       refine hK.out _ _ (HSX.out _ (HB5.out.setCell (p := ⟨g7, 3, none⟩) (by show w.heap.size <= g7; omega) _) (H35.out.far (by show w.heap.size ≠ g7; omega) _)) (fun hHeld4 => ?_)
       clear hK K hHeld3
       try simp only [zp]
       refine wpAnyH_done (by kernel_rfl) ?_ _
       clear hal ral y7 y9 l7 z2 z3 z4 hHeld4
       go_wp2
       go_roundg (k - (i + 1))
       case rel => exact ⟨i + 1, _, _, by omega, rfl, by go_num, HB5.out.setCell (p := ⟨g7, 3, none⟩) (by show w.heap.size <= g7; omega) _, hgB, H35.out.far (by show w.heap.size ≠ g7; omega) _, H65.out.far (by show w.heap.size + 1 ≠ g7; omega) _, H75.out.set 3 _, hn7, H5.out.setRow H75.out (by decide) (by decide) (by decide) 3 _, HO5.out.setRow H75.out (by decide) 3 _⟩
       case measure => omega
   ·obtain rfl : i = M := by omega
    obtain ⟨vsn, hvn, hvn2⟩ := HQ.out.o3
    obtain ⟨An, cn, rfl⟩ := VO.formN (n := i) hvn (by rw [hvn2.1, zc8])
    obtain ⟨Af, cf, rfl⟩ := VO.formN (n := i) HQ.out.of (by rw [zap, zbm])
    have hT : Hid (TDO wl w.heap.size (.agg #[.int .i64 (V : Int), .int .i64 (e' : Int), .slice An i cn, .slice Af i cf]) ((d.quoL o cl).raw V)) := by unfold Hid; rw [HRAW.out]; exact ⟨_, _, rfl, HQ.out.o3, HQ.out.of⟩
    clear hvn hvn2
    have R6 := zh HQ.out.r6; have HB := zh HQ.out.below
    have a0 := HQ.out.r7.cell; have a3 := HQ.out.r7.lt
    have b0 := R6.out.cell; have b1 := R6.out.free; have b3' := R6.out.lt
    have q0 := b0 0; have q1 := b0 1; have q2 := b0 2; have q3 := b0 3
    have p0 := a0 0; have p1 := a0 1; have p2 := a0 2; have p3 := a0 3
    simp only [zg] at q0 q1 q2 q3 p0 p1 p2 p3
    clear a0 b0 HQ
    go_wp2
    refine zae (fun W => Row W (w.heap.size + 1) 25 #[.int .i64 (V : Int), .int .i64 (e' : Int), (.slice An i cn), (.slice Af i cf)] /\ TDO W w.heap.size (.agg #[.int .i64 (V : Int), .int .i64 (e' : Int), .slice An i cn, .slice Af i cf]) ((d.quoL o cl).raw V) /\ Below w.heap.size w W) (zam R6.out hT.out HB.out (by omega)) ?_
    clear q0 q1 q2 q3 p0 p1 p2 p3 a3 b1 b3' R6 hT HB
    rintro W ⟨r0, hT, hb⟩
    have b0 := r0.cell
    have q0 := b0 0; have q1 := b0 1; have q2 := b0 2; have q3 := b0 3
    simp only [zg] at q0 q1 q2 q3
    have HT := zh hT; have HBB := zh hb
    clear b0 r0 hT hb
    refine bodyPost_ret (v := .agg #[.int .i64 (V : Int), .int .i64 (e' : Int), .slice An i cn, .slice Af i cf]) (by simp [results, Tryz.results99, go_sem, q0, q1, q2, q3]) rfl ?_
    exact ⟨_, rfl, HBB.out, HT.out⟩
theorem ze7 {α : Type} (l : List α) (k : Nat) : l.take (min l.length k) = l.take k := by
 by_cases h : l.length <= k
 ·rw [Nat.min_eq_left h, List.take_length, List.take_of_length_le h]
 ·rw [Nat.min_eq_right (by omega)]
theorem RowF.snoc {w W : World} {B : Nat} {v4 x : Value} {vs : List Value} {ll : List (List Int)} {l : List Int} (ho : VO 53 W B v4 (vs ++ [x])) (h2 : vs.length = ll.length) (h3 : ∀ (i : Nat) v, vs[i]? = some v -> ∃ l, ll[i]? = some l /\ N1 w v l) (hx : N1 w x l) : RowF w W B v4 (ll ++ [l]) := by
 refine ⟨_, ho, by simp [h2], fun i v hv => ?_⟩
 by_cases hi : i < vs.length
 ·rw [List.getElem?_append_left hi] at hv
  rw [List.getElem?_append_left (by omega)]
  exact h3 i v hv
 ·have hlen := (List.getElem?_eq_some_iff.1 hv).1
  simp at hlen
  have : i = vs.length := by omega
  subst this
  simp at hv
  subst hv
  exact ⟨l, by rw [h2]; simp, hx⟩
theorem RowF.mono {w W : World} {B B' : Nat} {u : Value} {ll : List (List Int)} (h : RowF w W B u ll) (hB : B' <= B) : RowF w W B' u ll := by
 obtain ⟨vs, h1, h2⟩ := h
 exact ⟨vs, h1.mono hB, h2⟩
theorem RowF.far {w W X : World} {B B' : Nat} {u v : Value} {ll : List (List Int)} {E : TypeId} {xs : List Value} (h : RowF w W B u ll) (hE : 53 ≠ E) (hv : VO E W B' v xs) (hg : W.grownBy X v.ownBlock) : RowF w X B u ll := by
 obtain ⟨vs, h1, h2⟩ := h
 exact ⟨vs, h1.far hE hv.2 hg, h2⟩
theorem RowF.allocd {w W : World} {B : Nat} {u : Value} {ll : List (List Int)} (h : RowF w W B u ll) (X : Obj) : RowF w (W.alloc X) B u ll := by
 obtain ⟨vs, h1, h2⟩ := h
 exact ⟨vs, VO.allocd h1 X, h2⟩
theorem RowsF.snoc {w W X : World} {B i c : Nat} {A : Option Addr} {v4 x : Value} {vs : List Value} {L3 : List (List (List Int))} {ll : List (List Int)} (h1 : VO 54 W B (.slice A i c) vs) (h2 : vs.length = L3.length) (h3 : ∀ (i : Nat) v, vs[i]? = some v -> ∃ ll, L3[i]? = some ll /\ RowF w W B v ll) (hx : RowF w W B x ll)
  (ho : VO 54 X B v4 (vs ++ [x])) (hg : (W.alloc (.cells #[x] 54)).grownBy X (Value.slice A i c).ownBlock) : RowsF w X B v4 (L3 ++ [ll]) := by
 have hfr : ∀ {u l}, RowF w W B u l -> RowF w X B u l := fun h => (h.allocd (.cells #[x] 54)).far (by decide) (VO.allocd h1 _) hg
 refine ⟨_, ho, by simp [h2], fun j v hv => ?_⟩
 by_cases hi : j < vs.length
 ·rw [List.getElem?_append_left hi] at hv
  rw [List.getElem?_append_left (by omega)]
  obtain ⟨l, e, h⟩ := h3 j v hv
  exact ⟨l, e, hfr h⟩
 ·have hlen := (List.getElem?_eq_some_iff.1 hv).1
  simp at hlen
  have : j = vs.length := by omega
  subst this
  simp at hv
  subst hv
  exact ⟨ll, by rw [h2]; simp, hfr hx⟩
theorem RowsF.setF {w W : World} {B g : Nat} {u : Value} {L3 : List (List (List Int))} {E : TypeId} {cs : Array Value} (h : RowsF w W B u L3) (hr : Row W g E cs) (h1 : 54 ≠ E) (h2 : 53 ≠ E) (i : Nat) (x : Value) : RowsF w (W.setCell ⟨g, i, none⟩ x) B u L3 := by
 obtain ⟨vs, k1, k2, k3⟩ := h
 refine ⟨vs, VO.setFar k1 (VO.ne_row k1 hr h1) x, k2, fun j v hv => ?_⟩
 obtain ⟨ll, e, us, q1, q2⟩ := k3 j v hv
 exact ⟨ll, e, us, VO.setFar q1 (VO.ne_row q1 hr h2) x, q2⟩
structure FwI (w : World) (a0 a1 a2 a3 : Value) (W : World) : Prop where
 below : Below w.heap.size w W
 ra : Row W w.heap.size 25 #[a0, a1, a2, a3]
 rr : Row W (w.heap.size + 1) 25 #[.int .i64 0, .int .i64 0, .slice none 0 0, .slice none 0 0]
theorem FwI.to {w W X : World} {a0 a1 a2 a3 : Value} (h : FwI w a0 a1 a2 a3 W) (hb : Below W.heap.size W X) : FwI w a0 a1 a2 a3 X :=
 ⟨h.below.trans (hb.mono h.below.size), h.ra.below hb h.ra.lt, h.rr.below hb h.rr.lt⟩
theorem FwI.own {w W X : World} {a0 a1 a2 a3 v x : Value} {xs : List Value} (h : FwI w a0 a1 a2 a3 W) (hv : VO 54 W w.heap.size v xs) (hg : (W.alloc (.cells #[x] 54)).grownBy X v.ownBlock) : FwI w a0 a1 a2 a3 X := by
 have hb := h.below.alloc h.below.size (.cells #[x] 54)
 have hv' := VO.allocd hv (.cells #[x] 54)
 exact ⟨zaf hb hv' hg hb.size, (h.ra.alloc _).far_own (by decide) hv'.2 hg, (h.rr.alloc _).far_own (by decide) hv'.2 hg⟩
theorem FwI.cut {w W : World} {a0 a1 a2 a3 : Value} (h : FwI w a0 a1 a2 a3 W) (u v : Value) : FwI w a0 a1 u v ((W.setCell ⟨w.heap.size, 2, none⟩ u).setCell ⟨w.heap.size, 3, none⟩ v) :=
 ⟨(h.below.setCell (p := ⟨w.heap.size, 2, none⟩) zn _).setCell (p := ⟨w.heap.size, 3, none⟩) zn _, (h.ra.set 2 _).set 3 _, (h.rr.far (by show w.heap.size + 1 ≠ w.heap.size; omega) _).far (by show w.heap.size + 1 ≠ w.heap.size; omega) _⟩
theorem few_any (r : Raw) (v : Value) (w : World) (hv : TD w v r) :
  Calls Tryz.prog 13 #[v] w fun e w' => ∃ v', e = .returned v' /\ Below w.heap.size w w' /\ TDO w' w.heap.size v' (fewR r) := by
 obtain ⟨vn, vf, rfl, hn, hff⟩ := hv
 have HN3 := zh hn; have HNB := zh hff
 obtain ⟨A3, c3, rfl, _, _, hcell⟩ := hn.open
 obtain ⟨A4, c4, rfl, hc41, hc42, _⟩ := hff.open
 obtain ⟨n, hn1⟩ := zx r.next.length
 obtain ⟨m, hm1⟩ := zx r.fin.length
 obtain ⟨i0, hi0⟩ := zx r.vars
 obtain ⟨i1, hi1⟩ := zx r.empty
 rw [<- hn1] at HN3 ⊢
 rw [<- hm1] at HNB hc41 ⊢
 rw [<- hi0, <- hi1]
 have HNL := zh hn1; have HI0 := zh hi0; have HI1 := zh hi1; have HC := zh hcell
 clear hn hff hcell hn1 hm1 hi0 hi1
 go_enter Tryz.func13, Tryz.ntmps13
 go_wp2
 refine zab (FwI w (.int .i64 i0) (.int .i64 i1) (.slice A3 n c3) (.slice A4 m c4)) ⟨by go_grown, (Row.new _ _ _).alloc _, Row.lit (by simp)⟩ ?_
 rintro W0 hI
 have HI := zh hI
 clear hI
 obtain ⟨N, hN⟩ := zx (min n 66)
 have hN1 : N <= n := by omega
 have hN2 : N <= 66 := by omega
 have HNN := zh hN
 clear hN
 go_loopg [3, 4] N (fun gk q3 q4 W => ∃ (s : Nat) (A : Option Addr) (c : Nat), s <= N /\ gk = N - s /\ q3 = .slice A s c /\ q4 = .int .i64 s /\ FwI w (.int .i64 i0) (.int .i64 i1) (.slice A3 n c3) (.slice A4 m c4) W /\ RowsF w W w.heap.size (.slice A s c) ((r.next.take s).map fewL))
 case atStart => exact ⟨0, _, _, Nat.zero_le _, rfl, rfl, rfl, HI.out, RowsF.nil _ _ _⟩
 case round =>
  clear HI
  obtain ⟨s, A, c, hsN, rfl, rfl, rfl, hi, hrows⟩ := hrel
  have y0 := hi.ra.cell
  have HI := zh hi; have HR := zh hrows
  clear hrows
  by_cases hlt : s < N
  ·have h1 : (s : Int) < (n : Int) := by omega
   have h2 : (s : Int) < 66 := by omega
   obtain ⟨ll, hll⟩ : ∃ x, r.next[s]? = some x := ⟨r.next[s]'(by rw [<- HNL.out]; omega), List.getElem?_eq_getElem _⟩
   obtain ⟨b3, o3, p, rfl, hb3, hc, hn2⟩ := HC.out s ll hll
   have d0 := (hi.below.cell (p := ⟨b3, _, none⟩) hb3).trans hc
   obtain ⟨A2, c2, rfl, _, _, hcell2⟩ := hn2.open
   obtain ⟨n2, hn2l⟩ := zx ll.length
   rw [<- hn2l] at d0
   have HC2 := zh hcell2; have HLL := zh hll; have HN2L := zh hn2l
   clear hi hc hn2 hcell2 hll hn2l
   obtain ⟨M, hM⟩ := zx (min n2 10)
   have hM1 : M <= n2 := by omega
   have hM2 : M <= 10 := by omega
   have HMM := zh hM
   clear hM
   go_wp2
   obtain ⟨W, hW⟩ := zx wr
   rw [<- hW] at HI HR y0 d0 ⊢
   clear hW
   have D0 := zh d0
   go_loopg [5, 6] M (fun gk q5 q6 X => ∃ (t : Nat) (A : Option Addr) (c : Nat), t <= M /\ gk = M - t /\ q5 = .slice A t c /\ q6 = .int .i64 t /\ Below W.heap.size W X /\ RowF w X W.heap.size (.slice A t c) ((ll.take t).map fun l => l.take 9))
   case atStart => exact ⟨0, _, _, Nat.zero_le _, rfl, rfl, rfl, Below.refl _ _, [], VO.nil _ _ _, rfl, fun i v h => by simp at h⟩
   case round =>
    obtain ⟨t, A5, c5, htM, rfl, rfl, rfl, hbX, hrow⟩ := hrel
    have HBX := zh hbX; have HROW := zh hrow
    have d1 := (hbX.cell (p := ⟨b3, o3 + s, none⟩) (Nat.lt_of_lt_of_le hb3 HI.out.below.size)).trans d0
    have z0 := (HI.out.to hbX).ra.cell
    clear hrow
    by_cases htl : t < M
    ·have k1 : (t : Int) < (n2 : Int) := by omega
     have k2 : (t : Int) < 10 := by omega
     obtain ⟨l, hl⟩ : ∃ x, ll[t]? = some x := ⟨ll[t]'(by rw [<- HN2L.out]; omega), List.getElem?_eq_getElem _⟩
     obtain ⟨b2, o2, p, rfl, hb2, hc, hn1⟩ := HC2.out t l hl
     have d2 := ((HI.out.to hbX).below.cell (p := ⟨b2, _, none⟩) hb2).trans hc
     obtain ⟨A1, c1, rfl, hc11, hc12, _⟩ := hn1.open
     obtain ⟨n1, hn1l⟩ := zx l.length
     rw [<- hn1l] at d2 hn1 hc11
     have HN1 := zh hn1; have HL := zh hl; have DC := zh (show w.cell? ⟨b2, o2 + t, none⟩ = some (.slice A1 n1 c1) from by rw [hc, hn1l])
     clear hc hn1 hl hn1l hbX
     go_upto_region 9 with fail
     have hmin : min (n1 : Int) 9 = ((min n1 9 : Nat) : Int) := by omega
     obtain ⟨k9, hk9⟩ := zx (min n1 9)
     have hk1 : k9 <= n1 := by omega
     have hk2 : k9 <= c1 := by omega
     have hk3 : k9 <= 9 := by omega
     rw [<- hk9] at hmin
     have HK9 := zh hk9
     clear hk9
     have HSX : Hid (∀ X, Below W.heap.size W X -> X.cell? ⟨w.heap.size, 2, none⟩ = some (.slice (some ⟨b3, o3, none⟩) n c3) /\ X.cell? ⟨b3, o3 + s, none⟩ = some (.slice (some ⟨b2, o2, none⟩) n2 c2) /\ X.cell? ⟨b2, o2 + t, none⟩ = some (.slice A1 n1 c1)) := by
      intro X hX
      have hI := HI.out.to hX
      exact ⟨(hI.ra.cell 2).trans rfl, (hX.cell (p := ⟨b3, o3 + s, none⟩) (Nat.lt_of_lt_of_le hb3 HI.out.below.size)).trans D0.out, (hI.below.cell (p := ⟨b2, _, none⟩) hb2).trans DC.out⟩
     obtain ⟨vs, hv1, hv2, hv3⟩ := HROW.out
     have HV1 := zh hv1; have HV2 := zh hv2; have HV3 := zh hv3
     clear hv1 hv2 hv3 d1 d2 z0
     refine wp_region_held_drew (S := (fun X => X.cell? ⟨w.heap.size, 2, none⟩ = some (.slice (some ⟨b3, o3, none⟩) n c3) /\ X.cell? ⟨b3, o3 + s, none⟩ = some (.slice (some ⟨b2, o2, none⟩) n2 c2) /\ X.cell? ⟨b2, o2 + t, none⟩ = some (.slice A1 n1 c1))) (by kernel_rfl) (HSX.out _ HBX.out.drew) (fun hHeld => ?_)
     refine tk 0 (oi := ⟨some 32, _, _, _, _, _⟩) ?_
     try simp only [zp]
     refine tk 1 (oi := ⟨some 33, _, _, _, _, _⟩) ?_
     try simp only [zp]
     refine tk 2 (oi := ⟨some 34, _, _, _, _, _⟩) ?_
     try simp only [zp]
     refine tk 3 (oi := ⟨some 35, _, _, _, _, _⟩) ?_
     try simp only [zp]
     refine tk 4 (oi := ⟨some 36, _, _, _, _, _⟩) ?_
     try simp only [zp]
     refine tk 5 (oi := ⟨some 37, _, _, _, _, _⟩) ?_
     try simp only [zp]
     refine tk 6 (oi := ⟨some 38, _, _, _, _, _⟩) ?_
     try simp only [zp]
     refine tk 7 (oi := ⟨some 39, _, _, _, _, _⟩) ?_
     try simp only [zp]
     refine tk 8 (oi := ⟨some 40, _, _, _, _, _⟩) ?_
     try simp only [zp]
     refine tk 9 (oi := ⟨some 41, _, _, _, _, _⟩) ?_
     try simp only [zp]
     refine tk 10 (oi := ⟨some 42, _, _, _, _, _⟩) ?_
     try simp only [zp]
     refine tk 11 (oi := ⟨some 43, _, _, _, _, _⟩) ?_
     try simp only [zp]
     refine tk 12 (oi := ⟨some 44, _, _, _, _, _⟩) ?_
     try simp only [zp]
     refine tk 13 (oi := ⟨some 45, _, _, _, _, _⟩) ?_
     try simp only [zp]
     refine tk 14 (oi := ⟨some 46, _, _, _, _, _⟩) ?_
     try simp only [zp]
     refine tk 15 (oi := ⟨some 47, _, _, _, _, _⟩) ?_
     try simp only [zp]
     refine tk 16 (oi := ⟨some 48, _, _, _, _, _⟩) ?_
     try simp only [zp]
     refine tk 17 (oi := ⟨some 49, _, _, _, _, _⟩) ?_
     try simp only [zp]
     refine tk 18 (oi := ⟨some 50, _, _, _, _, _⟩) ?_
     try simp only [zp]
     refine tk 19 (oi := ⟨some 51, _, _, _, _, _⟩) ?_
     try simp only [zp]
     refine wpAnyH_ready (rs := [20]) (by kernel_rfl) (by simp) ?_
     refine AllReadyH.cons rfl (fun K hK => ?_) AllReadyH.nil
     go_simp
     have a1 := HBX.out.drew.alloc HBX.out.size (.cells #[.slice A1 k9 c1] 53)
     refine hK.out _ _ (HSX.out _ a1) (fun hHeld1 => ?_)
     clear hK K hHeld
     try simp only [zp]
     have vo5 := VO.allocd (VO.below HV1.out (Below.refl wr.heap.size wr).drew zn) (.cells #[.slice A1 k9 c1] 53)
     refine wpAnyH_ready (rs := [21]) (by kernel_rfl) (by simp) ?_
     refine AllReadyH.cons rfl (fun K hK => ?_) AllReadyH.nil
     refine zak eII rfl (.tmp 32) (.tmp 52) rfl W.heap.size _ _ rfl vo5 _ [.slice A1 k9 c1] rfl (VS.one (by first | exact Row.new _ _ _ | exact Row.lit rfl | exact Row.litd rfl)) (by intro u hu; simp at hu; subst hu; rfl) (by rw [HV2.out, List.length_map, List.length_take]; simp; omega) (by have := HBX.out.size; simp only [World.size_alloc, World.size_drew]; omega) ?_; intro v4 w4 ho4 hg4 _; obtain ⟨A4', c4', rfl⟩ := VO.formN (n := t + 1) ho4 (by rw [List.length_append, HV2.out, List.length_map, List.length_take, <- HN2L.out]; simp; omega)
     have hB4 : Below W.heap.size W w4 := zaf (w := W) a1 vo5 hg4 (by have := HBX.out.size; simp only [World.size_alloc, World.size_drew]; omega)
     have HB4 := zh hB4; have HO4 := zh ho4
     clear ho4 hg4
     refine hK.out _ _ (HSX.out _ hB4) (fun hHeld4 => ?_)
     clear hK K hHeld1 hB4 vo5 a1
     try simp only [zp]
     refine tk 22 (oi := ⟨some 5, _, _, _, _, _⟩) ?_
     try simp only [zp]
     refine wpAnyH_done (by kernel_rfl) ?_ _
     clear hHeld4
     have HTK : Hid ((ll.take (t + 1)).map (fun l => l.take 9) = (ll.take t).map (fun l => l.take 9) ++ [l.take 9]) := by unfold Hid; rw [List.take_add_one, HL.out, List.map_append]; rfl
     have hN1k := HN1.out.take 9
     rw [<- HK9.out] at hN1k
     have HR4 := zh (RowF.snoc (W := w4) HO4.out HV2.out HV3.out hN1k)
     clear hN1k
     go_wp2
     go_roundg (M - (t + 1))
     case rel => exact ⟨t + 1, _, _, by omega, rfl, rfl, by go_num, HB4.out, by rw [HTK.out]; exact HR4.out⟩
     case measure => omega
    ·have htM : t = M := by omega
     have HROW2 := zh (show RowF w wr W.heap.size (.slice A5 t c5) (fewL ll) from by
      have := HROW.out
      have e : (ll.take t).map (fun l => l.take 9) = fewL ll := by rw [htM, HMM.out, HN2L.out, ze7]; rfl
      rw [e] at this
      exact this)
     have HI2 := zh (HI.out.to hbX)
     obtain ⟨vs, hv1, hv2, hv3⟩ := (HR.out.below hbX zn)
     have hv2' : vs.length = s := by
      have h := HNL.out
      rw [hv2, List.length_map, List.length_take]; omega
     have HV1 := zh hv1; have HV2 := zh hv2; have HV3 := zh hv3; have HVL := zh hv2'
     have HTK : Hid ((r.next.take (s + 1)).map fewL = (r.next.take s).map fewL ++ [fewL ll]) := by unfold Hid; rw [List.take_add_one, HLL.out, List.map_append]; rfl
     have hfin : ¬ (t : Int) < (n2 : Int) \/ ((t : Int) < (n2 : Int) /\ ¬ (t : Int) < 10) := by have := HMM.out; omega
     clear hv1 hv2 hv3 hv2' hbX HROW htM
     rcases hfin with k1 | ⟨k1, k2⟩
     all_goals
      go_wp2_with (at_builtin; refine zaa eIII rfl (.tmp 54) (.tmp 56) rfl w.heap.size _ _ rfl (VO.allocd HV1.out _) _ [.slice A5 t c5] rfl (VS.one (Row.new _ _ _)) (by intro u hu; simp at hu; subst hu; rfl) (by rw [HVL.out]; simp; omega) (by simp only [World.size_alloc]; have := HI2.out.below.size; omega) ?_; intro v4 w4 ho4 hg4 _; obtain ⟨A4', c4', rfl⟩ := VO.formN (n := s + 1) ho4 (by rw [List.length_append, HVL.out]; rfl); have HO4 := zh ho4; have HG4 := zh hg4; clear ho4 hg4)
      have hR4 := RowsF.snoc HV1.out HV2.out HV3.out (HROW2.out.mono HI.out.below.size) HO4.out HG4.out
      have hI4 := FwI.own HI2.out HV1.out HG4.out
      have HR4 := zh hR4; have HI4 := zh hI4
      clear hR4 hI4
      go_roundg (N - (s + 1))
      case rel => exact ⟨s + 1, _, _, by omega, rfl, rfl, by go_num, HI4.out, by rw [HTK.out]; exact HR4.out⟩
      case measure => omega
  ·have hsN' : s = N := by omega
   have HRX := zh (show RowsF w wr w.heap.size (.slice A s c) (fewR r).next from by
    have := HR.out
    have e : (r.next.take s).map fewL = (fewR r).next := by rw [hsN', HNN.out, HNL.out, ze7]; rfl
    rw [e] at this
    exact this)
   have hmin : min (m : Int) 66 = ((min m 66 : Nat) : Int) := by omega
   obtain ⟨k9, hk9⟩ := zx (min m 66)
   have hk1 : k9 <= m := by omega
   have hk2 : k9 <= c4 := by omega
   have hk3 : k9 <= 66 := by omega
   rw [<- hk9] at hmin
   have HNBk := HNB.out.take 66
   rw [<- hk9] at HNBk
   have HNF := zh HNBk
   clear hk9 HNBk
   have hfin : ¬ (s : Int) < (n : Int) \/ ((s : Int) < (n : Int) /\ ¬ (s : Int) < 66) := by have := HNN.out; omega
   have hfree := hi.ra.free; have hlt3 := hi.ra.lt
   clear hi HR hsN'
   rcases hfin with k1 | ⟨k1, k2⟩
   all_goals
    go_upto_region 13 with fail
    refine zab (fun X => FwI w (.int .i64 i0) (.int .i64 i1) (.slice A s c) (.slice A4 k9 c4) X /\ RowsF w X w.heap.size (.slice A s c) (fewR r).next) ⟨FwI.cut HI.out (.slice A s c) (.slice A4 k9 c4), (HRX.out.setF HI.out.ra (by decide) (by decide) 2 _).setF (HI.out.ra.set 2 _) (by decide) (by decide) 3 _⟩ ?_
    clear y0 hfree hlt3 HI HRX
    rintro X ⟨hi, hrow⟩
    have htd : TD X (.agg #[.int .i64 i0, .int .i64 i1, .slice A s c, .slice A4 k9 c4]) (fewR r) := ⟨_, _, by rw [HI0.out, HI1.out]; rfl, hrow.n3 hi.below, HNF.out.below hi.below zn⟩
    have CP := zh (zpq (fewR r) _ X htd (ziz r))
    have y0 := hi.ra.cell
    have HI := zh hi
    clear hi hrow htd
    obtain ⟨R, hR⟩ := zx (fewR r)
    rw [<- hR] at CP
    have HRR := zh hR
    clear hR
    go_wp2_with ((go_at_call 49; refine CP.out.mono ?_; rintro e w6 ⟨v', rfl, hb6, ht6⟩; obtain ⟨A6, c6, A7, c7, rfl⟩ := ht6.td.form; have HT := zh ht6; have HB6 := zh hb6; have RR6 := zh (HI.out.rr.below hb6 HI.out.rr.lt); have b0 := RR6.out.cell; have b1 := RR6.out.free; clear hb6 ht6 y0))
    refine zae (fun Y => Row Y (w.heap.size + 1) 25 #[.int .i64 R.vars, .int .i64 R.empty, .slice A6 R.next.length c6, .slice A7 R.fin.length c7] /\ TDO Y X.heap.size (.agg #[.int .i64 R.vars, .int .i64 R.empty, .slice A6 R.next.length c6, .slice A7 R.fin.length c7]) R /\ Below w.heap.size w Y)
     (zam RR6.out HT.out (HI.out.below.trans (HB6.out.mono HI.out.below.size)) (Nat.le_succ _)) ?_
    clear b0 b1 RR6 HT
    rintro W5 ⟨r0, hT, hb⟩
    have b0 := r0.cell
    have q0 := b0 0; have q1 := b0 1; have q2 := b0 2; have q3 := b0 3
    simp only [zg] at q0 q1 q2 q3
    have HT := zh (hT.mono HI.out.below.size); have HBX := zh hb
    clear b0 r0 hT hb
    refine bodyPost_ret (v := .agg #[.int .i64 R.vars, .int .i64 R.empty, .slice A6 R.next.length c6, .slice A7 R.fin.length c7]) (by simp [results, Tryz.results13, go_sem, q0, q1, q2, q3]) rfl ⟨_, rfl, HBX.out, ?_⟩
    rw [<- HRR.out]; exact HT.out
end Go.Proofs.YthkfjnmnoanhlaaGreatDoor

/- Part 25 of the proof; it says: lemmas and contracts. No conditions but those that each theorem states. -/
import Derived.Deep.RegionHeld3
import Derived.Deep.LoopGhost
import Derived.BigRegion
import Derived.Test.YthkfjnmnoanhlaaGreatDoorMt01
import Derived.Test.YthkfjnmnoanhlaaGreatDoorMt09
import Derived.Test.YthkfjnmnoanhlaaGreatDoorMt17
import Derived.Test.YthkfjnmnoanhlaaGreatDoorMt18
import Derived.Test.YthkfjnmnoanhlaaGreatDoorMt22
import Derived.Test.YthkfjnmnoanhlaaGreatDoorMt23
import Derived.Test.YthkfjnmnoanhlaaGreatDoorMt24
set_option linter.unusedSimpArgs false
set_option linter.unusedVariables false
namespace Go.Proofs.YthkfjnmnoanhlaaGreatDoor
open Go.RowKit
def Dta.renL (d : Dta) : Dta := d.quoL d.order (fun s => s)
theorem Dta.renL_eq (d : Dta) : d.renL = d.renum := by
 have h := d.order_zero
 have e : d.order.idxOf d.e = 0 := by
  cases ho : d.order with
  | nil => rw [ho] at h; cases h
  | cons a l =>
   rw [ho] at h
   have : a = d.e := Option.some.inj h
   rw [this, List.idxOf_cons_self]
 unfold Dta.renL Dta.quoL Dta.renum
 rw [e]
structure VqJ (w W0 : World) (d : Dta) (V gp gq : Nat) (a0 a1 a2 a3 : Value) (f : Nat -> Bool) (u0 u1 u2 u3 u4 u5 u6 : Value) (W : World) : Prop where
 h0 : f 0 = true -> u0 = .agg #[a0, a1, a2, a3]
 h1 : f 1 = true -> u1 = .agg #[a0, a1, a2, a3]
 h2 : f 2 = true -> f 6 = false -> O1 W w.heap.size u2 (oI d.order)
 h3 : f 3 = true -> u3 = .agg #[a0, a1, a2, a3]
 h4 : f 4 = true -> f 6 = false -> O1 W w.heap.size u4 (oI (List.range d.n))
 h5 : f 5 = true -> TDO W w.heap.size u5 (d.renL.raw V)
 h6 : u6 = .int .i64 0
 o5 : f 5 = true -> f 2 = true /\ f 4 = true
 o6 : f 6 = true -> f 5 = true
 below : Below w.heap.size w W
 sees : f 6 = false -> Below W0.heap.size W0 W
 rp : Row W gp 25 #[a0, a1, a2, a3]
 rq : f 6 = false -> Row W gq 25 #[.int .i64 0, .int .i64 0, .slice none 0 0, .slice none 0 0]
 rs : f 6 = true -> ∃ z0 z1 z2 z3, u5 = .agg #[z0, z1, z2, z3] /\ Row W gq 25 #[z0, z1, z2, z3]
theorem no_of {a b : Bool} (h : a = true -> b = true) (hb : b = false) : a = false := by cases e : a with | false => rfl | true => rw [h e] at hb; cases hb
theorem VqJ.call2 {w W0 : World} {d : Dta} {V gp gq : Nat} {a0 a1 a2 a3 : Value} {f : Nat -> Bool} {u0 u1 u2 u3 u4 u5 u6 : Value} {W X : World} {u : Value} (h : VqJ w W0 d V gp gq a0 a1 a2 a3 f u0 u1 u2 u3 u4 u5 u6 W) (hf : f 2 = false) (hb : Below W.heap.size W X) (ho : O1 X W.heap.size u (oI d.order)) :
  VqJ w W0 d V gp gq a0 a1 a2 a3 (fun j => j == 2 || f j) u0 u1 u u3 u4 u5 u6 X := by
 have f5 : f 5 = false := no_of (fun e => (h.o5 e).1) hf
 have f6 : f 6 = false := no_of h.o6 f5
 exact { h with
  h2 := fun _ _ => ho.mono h.below.size
  h4 := fun e e6 => (h.h4 e e6).below hb zn
  h5 := fun e => by
   have e : f 5 = true := e
   rw [f5] at e; cases e
  o5 := fun e => by
   have e : f 5 = true := e
   rw [f5] at e; cases e
  below := h.below.trans (hb.mono h.below.size)
  sees := fun e => (h.sees e).trans (hb.mono (h.sees e).size)
  rp := h.rp.below hb h.rp.lt
  rq := fun e => (h.rq e).below hb (h.rq e).lt
  o6 := fun e => by
   have e : f 6 = true := e
   rw [f6] at e; cases e
  rs := fun e => by
   have e : f 6 = true := e
   rw [f6] at e; cases e }
theorem VqJ.call4 {w W0 : World} {d : Dta} {V gp gq : Nat} {a0 a1 a2 a3 : Value} {f : Nat -> Bool} {u0 u1 u2 u3 u4 u5 u6 : Value} {W X : World} {u : Value} (h : VqJ w W0 d V gp gq a0 a1 a2 a3 f u0 u1 u2 u3 u4 u5 u6 W) (hf : f 4 = false) (hb : Below W.heap.size W X) (ho : O1 X W.heap.size u (oI (List.range d.n))) :
  VqJ w W0 d V gp gq a0 a1 a2 a3 (fun j => j == 4 || f j) u0 u1 u2 u3 u u5 u6 X := by
 have f5 : f 5 = false := no_of (fun e => (h.o5 e).2) hf
 have f6 : f 6 = false := no_of h.o6 f5
 exact { h with
  h2 := fun e e6 => (h.h2 e e6).below hb zn
  h4 := fun _ _ => ho.mono h.below.size
  h5 := fun e => by
   have e : f 5 = true := e
   rw [f5] at e; cases e
  o5 := fun e => by
   have e : f 5 = true := e
   rw [f5] at e; cases e
  below := h.below.trans (hb.mono h.below.size)
  sees := fun e => (h.sees e).trans (hb.mono (h.sees e).size)
  rp := h.rp.below hb h.rp.lt
  rq := fun e => (h.rq e).below hb (h.rq e).lt
  o6 := fun e => by
   have e : f 6 = true := e
   rw [f6] at e; cases e
  rs := fun e => by
   have e : f 6 = true := e
   rw [f6] at e; cases e }
theorem VqJ.call5 {w W0 : World} {d : Dta} {V gp gq : Nat} {a0 a1 a2 a3 : Value} {f : Nat -> Bool} {u0 u1 u2 u3 u4 u5 u6 : Value} {W X : World} {u : Value} (h : VqJ w W0 d V gp gq a0 a1 a2 a3 f u0 u1 u2 u3 u4 u5 u6 W) (hf : f 5 = false) (hb : Below W.heap.size W X) (ho : TDO X W.heap.size u (d.renL.raw V)) (h2 : f 2 = true) (h4 : f 4 = true) :
  VqJ w W0 d V gp gq a0 a1 a2 a3 (fun j => j == 5 || f j) u0 u1 u2 u3 u4 u u6 X := by
 have f5 : f 5 = false := hf
 have f6 : f 6 = false := no_of h.o6 f5
 exact { h with
  h2 := fun e e6 => (h.h2 e e6).below hb zn
  h4 := fun e e6 => (h.h4 e e6).below hb zn
  h5 := fun _ => ho.mono h.below.size
  o5 := fun _ => ⟨h2, h4⟩
  below := h.below.trans (hb.mono h.below.size)
  sees := fun e => (h.sees e).trans (hb.mono (h.sees e).size)
  rp := h.rp.below hb h.rp.lt
  rq := fun e => (h.rq e).below hb (h.rq e).lt
  o6 := fun e => by
   have e : f 6 = true := e
   rw [f6] at e; cases e
  rs := fun e => by
   have e : f 6 = true := e
   rw [f6] at e; cases e }
theorem VqJ.store {w W0 : World} {d : Dta} {V gp gq : Nat} {a0 a1 a2 a3 : Value} {f : Nat -> Bool} {u0 u1 u2 u3 u4 u5 u6 : Value} {W : World} (h : VqJ w W0 d V gp gq a0 a1 a2 a3 f u0 u1 u2 u3 u4 u5 u6 W) (hf : f 6 = false) (h5 : f 5 = true) (hne : gp ≠ gq) (hgq : w.heap.size <= gq) (a b c e : Value) (hu : u5 = .agg #[a, b, c, e]) :
  VqJ w W0 d V gp gq a0 a1 a2 a3 (fun j => j == 6 || f j) u0 u1 u2 u3 u4 u5 u6 (set4 W gq a b c e) := by
 have hs := zam (w := w) (B0 := w.heap.size) (a := a) (b := b) (c := c) (e := e) (h.rq hf) (h.h5 h5) h.below hgq
 exact { h with
  h2 := fun _ e => by cases e
  h4 := fun _ e => by cases e
  h5 := fun _ => hs.2.1
  o6 := fun _ => h5
  below := hs.2.2
  sees := fun e => by cases e
  rp := h.rp.set4 hne
  rq := fun e => by cases e
  rs := fun _ => ⟨a, b, c, e, hu, hs.1⟩ }
set_option maxRecDepth 100000 in
set_option maxHeartbeats 4000000 in
theorem zmd (r : Raw) (v : Value) (w : World) (hv : TD w v r) (hs : Small r) : Calls Tryz.prog 72 #[v] w (RetR w (resR Dta.renum r) r.check) := by
 have hck := fun W (h : Below w.heap.size w W) => zbe r v W (hv.below h zn) hs
 by_cases h0 : r.check = 0
 ·obtain ⟨V, hd, hr⟩ := Raw.check_ok h0
  have hV : r.vars = V := by rw [hr]; rfl
  rw [zc9 (D := r.dta) h0 hV, h0]
  have hv' : TD w v (r.dta.raw V) := by rw [<- hr]; exact hv
  obtain ⟨d, hd'⟩ := zx r.dta
  rw [<- hd'] at hd hv' ⊢
  rw [h0] at hck
  rw [<- d.renL_eq]
  clear hr hV hd' h0
  obtain ⟨A3, c3, A4, c4, rfl⟩ := hv'.form
  obtain ⟨i0, hi0⟩ := zx ((d.raw V).vars)
  obtain ⟨i1, hi1⟩ := zx ((d.raw V).empty)
  obtain ⟨n, hn⟩ := zx ((d.raw V).next.length)
  obtain ⟨m, hm⟩ := zx ((d.raw V).fin.length)
  rw [<- hi0, <- hi1, <- hn, <- hm] at hv' hck ⊢
  have HC := zh hck; have HV := zh hv'; have HFIT := zh hd
  clear hi0 hi1 hn hm hck hv' hd hs hv
  go_enter Tryz.func72, Tryz.ntmps72
  go_upto_region 4 with (go_at_call 52; refine (HC.out _ (by go_grown)).mono ?_; rintro e w2 ⟨rfl, hb2⟩; have X := zaw hb2; have HB2 := zh X.1; have R1 := zh X.2.1; have RR := zh X.2.2; clear hb2 X)
  obtain ⟨gp, hgp⟩ := zx w.heap.size
  obtain ⟨gq, hgq⟩ := zx (w.heap.size + 1)
  rw [<- hgq] at RR
  rw [<- hgp] at R1
  rw [<- hgq, <- hgp]
  have hgb : w.heap.size <= gq := by omega
  have hne : gp ≠ gq := by omega
  clear hgp hgq HC
  obtain ⟨W0, hW0⟩ := zx w2.drew
  have CV := zh fun W (h : Below w2.heap.size w2 W) => zjm d V HFIT.out _ W ((HV.out.below HB2.out zn).below h zn)
  have CO := zh fun W (h : Below w2.heap.size w2 W) => own19 d V HFIT.out _ W ((HV.out.below HB2.out zn).below h zn)
  have CQ := zh fun W (h : Below w2.heap.size w2 W) vo vc (ho : N1 W vo (oI d.order)) (hc : N1 W vc (oI (List.range d.n))) => zdk d V HFIT.out d.order (fun s => s) (List.mem_of_getElem? d.order_zero) (fun a ha b hb x hx => (d.order_iff HFIT.out.ok _).2 ((d.order_acc a ha).step (d.order_acc b hb) hx)) (fun a ha => (d.order_acc a ha).lt HFIT.out.ok) (Nat.le_trans (d.order_len HFIT.out.ok) HFIT.out.n64) _ vo vc W ((HV.out.below HB2.out zn).below h zn) ho (by rw [List.map_id']; exact hc)
  clear HV HFIT hW0 W0
  refine zb9 (by kernel_rfl) (by kernel_rfl) [11, 12, 13, 14, 15, 16, 3] [undef, undef, undef, undef, undef, undef, .int .i64 0] ?_ ?_ (fun f vs W => ∃ u0 u1 u2 u3 u4 u5 u6, vs = [u0, u1, u2, u3, u4, u5, u6] /\ VqJ w w2 d V gp gq (.int .i64 i0) (.int .i64 i1) (.slice A3 n c3) (.slice A4 m c4) f u0 u1 u2 u3 u4 u5 u6 W) ?_ ?_ ?_
  ·rfl
  ·simp only [putS, zp]
  ·exact ⟨_, _, _, _, _, _, _, rfl, ⟨by simp, by simp, by simp, by simp, by simp, by simp, rfl, by simp, by simp, HB2.out.drew, fun _ => (Below.refl _ _).drew, R1.out.drew, fun _ => RR.out.drew, by simp⟩⟩
  ·refine zaj.cons ?_ (zaj.cons ?_ (zaj.cons ?_ (zaj.cons ?_ (zaj.cons ?_ (zaj.cons ?_ (zaj.cons ?_ (zaj.cons ?_ (zaj.nil))))))))
   ·rintro f vs W hl hf hd ⟨u0, u1, u2, u3, u4, u5, u6, rfl, hJ⟩ K hK
    have y0 := hJ.rp.cell
    have q0 := y0 0; have q1 := y0 1; have q2 := y0 2; have q3 := y0 3
    simp only [zg] at q0 q1 q2 q3
    clear y0
    have HJ := zh hJ
    clear hJ
    simp only [putS, zp]
    go_simp
    have hz := hK.out [_, u1, u2, u3, u4, u5, u6] W rfl ⟨_, _, _, _, _, _, _, rfl, { HJ.out with h0 := fun _ => rfl }⟩
    simp only [putS, zp] at hz
    exact hz
   ·rintro f vs W hl hf hd ⟨u0, u1, u2, u3, u4, u5, u6, rfl, hJ⟩ K hK
    have y0 := hJ.rp.cell
    have q0 := y0 0; have q1 := y0 1; have q2 := y0 2; have q3 := y0 3
    simp only [zg] at q0 q1 q2 q3
    clear y0
    have HJ := zh hJ
    clear hJ
    simp only [putS, zp]
    go_simp
    have hz := hK.out [u0, _, u2, u3, u4, u5, u6] W rfl ⟨_, _, _, _, _, _, _, rfl, { HJ.out with h1 := fun _ => rfl }⟩
    simp only [putS, zp] at hz
    exact hz
   ·rintro f vs W hl hf hd ⟨u0, u1, u2, u3, u4, u5, u6, rfl, hJ⟩ K hK
    have e1 := hJ.h1 (zau hd 1 (by kernel_rfl))
    subst e1
    have d5 : f 5 = false := no_of (fun e => (hJ.o5 e).1) hf
    have HS := zh (hJ.sees (no_of hJ.o6 d5))
    clear d5
    have HJ := zh hJ
    clear hJ
    simp only [putS, zp]
    go_simp
    go_at_call 100
    refine (CV.out W HS.out).mono ?_
    rintro e wx ⟨A, c, rfl, hb, ho⟩
    have hz := hK.out [u0, _, _, u3, u4, u5, u6] wx rfl ⟨_, _, _, _, _, _, _, rfl, HJ.out.call2 hf hb ho⟩
    simp only [putS, zp] at hz
    exact hz
   ·rintro f vs W hl hf hd ⟨u0, u1, u2, u3, u4, u5, u6, rfl, hJ⟩ K hK
    have y0 := hJ.rp.cell
    have q0 := y0 0; have q1 := y0 1; have q2 := y0 2; have q3 := y0 3
    simp only [zg] at q0 q1 q2 q3
    clear y0
    have HJ := zh hJ
    clear hJ
    simp only [putS, zp]
    go_simp
    have hz := hK.out [u0, u1, u2, _, u4, u5, u6] W rfl ⟨_, _, _, _, _, _, _, rfl, { HJ.out with h3 := fun _ => rfl }⟩
    simp only [putS, zp] at hz
    exact hz
   ·rintro f vs W hl hf hd ⟨u0, u1, u2, u3, u4, u5, u6, rfl, hJ⟩ K hK
    have e3 := hJ.h3 (zau hd 3 (by kernel_rfl))
    subst e3
    have d5 : f 5 = false := no_of (fun e => (hJ.o5 e).2) hf
    have HS := zh (hJ.sees (no_of hJ.o6 d5))
    clear d5
    have HJ := zh hJ
    clear hJ
    simp only [putS, zp]
    go_simp
    go_at_call 101
    refine (CO.out W HS.out).mono ?_
    rintro e wx ⟨A, c, rfl, hb, ho⟩
    have hz := hK.out [u0, u1, u2, _, _, u5, u6] wx rfl ⟨_, _, _, _, _, _, _, rfl, HJ.out.call4 hf hb ho⟩
    simp only [putS, zp] at hz
    exact hz
   ·rintro f vs W hl hf hd ⟨u0, u1, u2, u3, u4, u5, u6, rfl, hJ⟩ K hK
    have d2 := zau hd 2 (by kernel_rfl); have d4 := zau hd 4 (by kernel_rfl)
    have e0 := hJ.h0 (zau hd 0 (by kernel_rfl))
    subst e0
    have f5 : f 5 = false := hf
    have f6 := no_of hJ.o6 f5
    have hN2 := (hJ.h2 d2 f6).n1; have hN4 := (hJ.h4 d4 f6).n1
    have HQ := zh (CQ.out W (hJ.sees f6) _ _ hN2 hN4)
    revert hK
    generalize hgen : (Shut _ -> _) = G
    obtain ⟨Ao, co, rfl, _⟩ := hN2.open
    obtain ⟨Ac, cc, rfl, _⟩ := hN4.open
    subst hgen
    intro hK
    have HD := zh (And.intro d2 d4)
    clear d2 d4 hN2 hN4 f5 f6
    have HJ := zh hJ
    clear hJ
    simp only [putS, zp]
    go_simp
    go_at_call 99
    refine HQ.out.mono ?_
    rintro e wx ⟨v', rfl, hb, ho⟩
    have hz := hK.out [_, u1, _, u3, _, _, u6] wx rfl ⟨_, _, _, _, _, _, _, rfl, HJ.out.call5 hf hb ho HD.out.1 HD.out.2⟩
    simp only [putS, zp] at hz
    exact hz
   ·rintro f vs W hl hf hd ⟨u0, u1, u2, u3, u4, u5, u6, rfl, hJ⟩ K hK
    have d5 := zau hd 5 (by kernel_rfl)
    revert hK
    generalize hgen : (Shut _ -> _) = G
    obtain ⟨j0, j1, A5, n5, c5, A6, n6, c6, rfl⟩ := (hJ.h5 d5).shape
    subst hgen
    intro hK
    have hf' : f 6 = false := hf
    have rq := hJ.rq hf'
    have y0 := rq.cell; have y1 := rq.free; have y2 := rq.lt
    have q0 := y0 0; have q1 := y0 1; have q2 := y0 2; have q3 := y0 3
    simp only [zg] at q0 q1 q2 q3
    have HD := zh d5
    clear y0 rq d5 hf'
    have HJ := zh hJ
    clear hJ
    simp only [putS, zp]
    go_simp
    have hz := hK.out [u0, u1, u2, u3, u4, _, u6] (set4 W gq (.int .i64 j0) (.int .i64 j1) (.slice A5 n5 c5) (.slice A6 n6 c6)) rfl ⟨_, _, _, _, _, _, _, rfl, HJ.out.store hf HD.out hne hgb _ _ _ _ rfl⟩
    simp only [putS, zp] at hz
    unfold set4 at hz
    exact hz
   ·rintro f vs W hl hf hd ⟨u0, u1, u2, u3, u4, u5, u6, rfl, hJ⟩ K hK
    have HJ := zh hJ
    clear hJ
    simp only [putS, zp]
    go_simp
    have hz := hK.out [u0, u1, u2, u3, u4, u5, _] W rfl ⟨_, _, _, _, _, _, _, rfl, { HJ.out with h6 := rfl }⟩
    simp only [putS, zp] at hz
    exact hz
  ·rintro f vs W hl hall ⟨u0, u1, u2, u3, u4, u5, u6, rfl, hJ⟩
   obtain ⟨z0, z1, z2, z3, e5, hrow⟩ := hJ.rs (hall 6 (by decide))
   have hT := hJ.h5 (hall 5 (by decide))
   rw [e5] at hT
   have HT := zh hT; have HBB := zh hJ.below
   have e6 := hJ.h6
   have b0 := hrow.cell
   have q0 := b0 0; have q1 := b0 1; have q2 := b0 2; have q3 := b0 3
   simp only [zg] at q0 q1 q2 q3
   subst e6
   clear hJ b0 hrow hT e5
   simp only [putS, zp]
   go_wp2
   refine bodyPost_ret (v := .tuple #[.agg #[z0, z1, z2, z3], .int .i64 0]) (by simp [results, Tryz.results72, go_sem, q0, q1, q2, q3]) rfl ?_
   exact ⟨_, rfl, HBB.out, HT.out⟩
 ·obtain ⟨k, hk⟩ := zx r.check
  have HZ := zh (show resR Dta.renum r = zeroR from zbl h0)
  rw [HZ.out]
  rw [<- hk] at h0 hck ⊢
  have h0' : ((k : Int) != 0) = true := by rw [bne_iff_ne]; omega
  obtain ⟨A3, c3, A4, c4, rfl⟩ := hv.form
  obtain ⟨n, hn⟩ := zx r.next.length
  obtain ⟨m, hm⟩ := zx r.fin.length
  obtain ⟨i0, hV⟩ := zx r.vars
  obtain ⟨i1, hE⟩ := zx r.empty
  rw [<- hn, <- hm, <- hV, <- hE] at hck ⊢
  have HC := zh hck
  clear hck hv hk hn hm hV hE hs h0 HZ
  go_enter Tryz.func72, Tryz.ntmps72
  go_wp2_with (go_at_call 52; refine (HC.out _ (by go_grown)).mono ?_; rintro e w2 ⟨rfl, hb2⟩; have X := zaw hb2; have HB2 := zh X.1; have R1 := zh X.2.1; have RR := zh X.2.2; have y0 := X.2.1.cell; have y2 := X.2.2.cell; have y3 := X.2.2.free; clear hb2 X)
  refine zae (fun W => Row W (w.heap.size + 1) 25 #[.int .i64 0, .int .i64 0, .slice none 0 0, .slice none 0 0] /\ TDO W w2.heap.size zeroV zeroR /\ Below w.heap.size w W) (zam RR.out (zad _ _) HB2.out (by omega)) ?_
  clear y0 y2 y3
  rintro W5 ⟨r0, hT, hb⟩
  have b0 := r0.cell
  have q0 := b0 0; have q1 := b0 1; have q2 := b0 2; have q3 := b0 3
  simp only [zg] at q0 q1 q2 q3
  have HB := zh hb
  clear b0 r0 hT hb
  exact bodyPost_ret (v := .tuple #[zeroV, .int .i64 (k : Int)]) (by simp [results, Tryz.results72, go_sem, q0, q1, q2, q3, zeroV]) rfl ⟨_, rfl, HB.out, zad _ _⟩
theorem Dta.coar_in {d : Dta} (hd : d.OK) {s : Nat} (h : s < d.n) : d.coar s ∈ d.fixed d.coar :=
 (d.fixed_mem _ _).2 ⟨by have := (d.coar_rep hd).1.le s h; omega, (d.coar_rep hd).1.idem s h⟩
theorem Dta.quoL_fit {d : Dta} {V : Nat} (hd : d.Fit V) : (d.quoL (d.fixed d.coar) d.coar).Fit V := by
 have hq := (Dta.clR_cong hd.ok).quot hd.ok
 refine ⟨hq.ok hd.ok, ?_, hd.v3, hd.L⟩
 exact Nat.le_trans (zbs (d.fixed_nodup _) (fun a ha => ((d.fixed_mem _ _).1 ha).1)) hd.n64
theorem Dta.miniR_eq (d : Dta) : (d.renum.quoL (d.renum.fixed d.renum.coar) d.renum.coar).renL = d.miniR := by rw [Dta.renL_eq]; rfl
theorem zmb (r : Raw) : resR Dta.miniR r = resR Dta.mini r := by
 by_cases h : r.check = 0
 ·obtain ⟨V, hd, hr⟩ := Raw.check_ok h
  have hs := (Dta.mini_same hd.ok hd.ok rfl fun t ht => rfl).2.1
  obtain ⟨c1, c2, _⟩ := r.dta.mini_canon hd.ok
  unfold resR
  rw [if_pos h, if_pos h]
  have hV : r.vars = V := by rw [hr]; rfl
  rw [hV]
  exact (hs.raw c1.ok (c2.trans (r.dta.miniR_canon hd.ok).2.1.symm) V).symm
 ·rw [zbl h, zbl h]
def fixT (cl : Nat -> Nat) (s : Nat) : List Nat := (List.range s).filter fun s => cl s == s
theorem zpg (cl : Nat -> Nat) (s : Nat) : fixT cl (s + 1) = if cl s = s then fixT cl s ++ [s] else fixT cl s := by
 unfold fixT
 rw [List.range_succ, List.filter_append]
 by_cases h : cl s = s
 ·rw [if_pos h, List.filter_cons_of_pos (by simp [h])]; rfl
 ·rw [if_neg h, List.filter_cons_of_neg (by simp [h])]; simp
theorem zrf (cl : Nat -> Nat) (s : Nat) : (fixT cl s).length <= s := by
 unfold fixT
 have := List.length_filter_le (fun s => cl s == s) (List.range s)
 rw [List.length_range] at this; exact this
structure VaJ (W0 : World) (d : Dta) (V : Nat) (a0 a1 a2 a3 : Value) (f : Nat -> Bool) (u0 u1 u2 u3 u4 u5 u6 : Value) (W : World) : Prop where
 h0 : f 0 = true -> u0 = .agg #[a0, a1, a2, a3]
 h1 : f 1 = true -> u1 = .agg #[a0, a1, a2, a3]
 h2 : f 2 = true -> f 7 = false -> O1 W W0.heap.size u2 (oI d.order)
 h3 : f 3 = true -> u3 = .agg #[a0, a1, a2, a3]
 h4 : f 4 = true -> f 7 = false -> O1 W W0.heap.size u4 (oI (List.range d.n))
 h5 : f 5 = true -> TDO W W0.heap.size u5 (d.renL.raw V)
 o5 : f 5 = true -> f 2 = true /\ f 4 = true
 o7 : f 7 = true -> f 5 = true /\ f 6 = true
 sees : Below W0.heap.size W0 W
 rs : f 6 = true -> ∃ g z0 z1 z2 z3, u6 = .pointer (some ⟨g, 0, none⟩) /\ W0.heap.size <= g /\ Row W g 25 #[z0, z1, z2, z3] /\ (f 7 = true -> u5 = .agg #[z0, z1, z2, z3])
theorem VaJ.call2 {W0 : World} {d : Dta} {V : Nat} {a0 a1 a2 a3 : Value} {f : Nat -> Bool} {u0 u1 u2 u3 u4 u5 u6 : Value} {W : World} {X : World} {u : Value} (h : VaJ W0 d V a0 a1 a2 a3 f u0 u1 u2 u3 u4 u5 u6 W) (hf : f 2 = false) (hb : Below W.heap.size W X) (ho : O1 X W.heap.size u (oI d.order)) :
  VaJ W0 d V a0 a1 a2 a3 (fun j => j == 2 || f j) u0 u1 u u3 u4 u5 u6 X := by
 have f5 : f 5 = false := no_of (fun e => (h.o5 e).1) hf
 have f7 : f 7 = false := no_of (fun e => (h.o7 e).1) f5
 exact { h with
  h2 := fun _ _ => ho.mono h.sees.size
  h4 := fun e e6 => (h.h4 e e6).below hb zn
  h5 := fun e => by
   have e : f 5 = true := e
   rw [f5] at e; cases e
  o5 := fun e => by
   have e : f 5 = true := e
   rw [f5] at e; cases e
  sees := h.sees.trans (hb.mono h.sees.size)
  o7 := fun e => by
   have e : f 7 = true := e
   rw [f7] at e; cases e
  rs := fun e => by
   obtain ⟨g, z0, z1, z2, z3, k1, k2, k3, k4⟩ := h.rs e
   exact ⟨g, z0, z1, z2, z3, k1, k2, k3.below hb k3.lt, fun e7 => by
    have e7 : f 7 = true := e7
    rw [f7] at e7; cases e7⟩ }
theorem VaJ.call4 {W0 : World} {d : Dta} {V : Nat} {a0 a1 a2 a3 : Value} {f : Nat -> Bool} {u0 u1 u2 u3 u4 u5 u6 : Value} {W : World} {X : World} {u : Value} (h : VaJ W0 d V a0 a1 a2 a3 f u0 u1 u2 u3 u4 u5 u6 W) (hf : f 4 = false) (hb : Below W.heap.size W X) (ho : O1 X W.heap.size u (oI (List.range d.n))) :
  VaJ W0 d V a0 a1 a2 a3 (fun j => j == 4 || f j) u0 u1 u2 u3 u u5 u6 X := by
 have f5 : f 5 = false := no_of (fun e => (h.o5 e).2) hf
 have f7 : f 7 = false := no_of (fun e => (h.o7 e).1) f5
 exact { h with
  h2 := fun e e6 => (h.h2 e e6).below hb zn
  h4 := fun _ _ => ho.mono h.sees.size
  h5 := fun e => by
   have e : f 5 = true := e
   rw [f5] at e; cases e
  o5 := fun e => by
   have e : f 5 = true := e
   rw [f5] at e; cases e
  sees := h.sees.trans (hb.mono h.sees.size)
  o7 := fun e => by
   have e : f 7 = true := e
   rw [f7] at e; cases e
  rs := fun e => by
   obtain ⟨g, z0, z1, z2, z3, k1, k2, k3, k4⟩ := h.rs e
   exact ⟨g, z0, z1, z2, z3, k1, k2, k3.below hb k3.lt, fun e7 => by
    have e7 : f 7 = true := e7
    rw [f7] at e7; cases e7⟩ }
theorem VaJ.call5 {W0 : World} {d : Dta} {V : Nat} {a0 a1 a2 a3 : Value} {f : Nat -> Bool} {u0 u1 u2 u3 u4 u5 u6 : Value} {W : World} {X : World} {u : Value} (h : VaJ W0 d V a0 a1 a2 a3 f u0 u1 u2 u3 u4 u5 u6 W) (hf : f 5 = false) (hb : Below W.heap.size W X) (ho : TDO X W.heap.size u (d.renL.raw V)) (h2 : f 2 = true) (h4 : f 4 = true) :
  VaJ W0 d V a0 a1 a2 a3 (fun j => j == 5 || f j) u0 u1 u2 u3 u4 u u6 X := by
 have f5 : f 5 = false := hf
 have f7 : f 7 = false := no_of (fun e => (h.o7 e).1) f5
 exact { h with
  h2 := fun e e6 => (h.h2 e e6).below hb zn
  h4 := fun e e6 => (h.h4 e e6).below hb zn
  h5 := fun _ => ho.mono h.sees.size
  o5 := fun _ => ⟨h2, h4⟩
  sees := h.sees.trans (hb.mono h.sees.size)
  o7 := fun e => by
   have e : f 7 = true := e
   rw [f7] at e; cases e
  rs := fun e => by
   obtain ⟨g, z0, z1, z2, z3, k1, k2, k3, k4⟩ := h.rs e
   exact ⟨g, z0, z1, z2, z3, k1, k2, k3.below hb k3.lt, fun e7 => by
    have e7 : f 7 = true := e7
    rw [f7] at e7; cases e7⟩ }
theorem VaJ.alloc {W0 : World} {d : Dta} {V : Nat} {a0 a1 a2 a3 : Value} {f : Nat -> Bool} {u0 u1 u2 u3 u4 u5 u6 : Value} {W : World} (h : VaJ W0 d V a0 a1 a2 a3 f u0 u1 u2 u3 u4 u5 u6 W) (hf : f 6 = false) (z0 z1 z2 z3 : Value) :
  VaJ W0 d V a0 a1 a2 a3 (fun j => j == 6 || f j) u0 u1 u2 u3 u4 u5 (.pointer (some ⟨W.heap.size, 0, none⟩)) (W.alloc (.cells #[z0, z1, z2, z3] 25)) := by
 have f7 : f 7 = false := no_of (fun e => (h.o7 e).2) hf
 have hb : Below W.heap.size W (W.alloc (.cells #[z0, z1, z2, z3] 25)) := Below.alloc (Below.refl _ _) zn _
 exact { h with
  h2 := fun e e6 => (h.h2 e e6).below hb zn
  h4 := fun e e6 => (h.h4 e e6).below hb zn
  h5 := fun e => (h.h5 e).below hb zn
  sees := h.sees.trans (hb.mono h.sees.size)
  o7 := fun e => by
   have e : f 7 = true := e
   rw [f7] at e; cases e
  rs := fun _ => ⟨_, z0, z1, z2, z3, rfl, h.sees.size, Row.new _ _ _, fun e7 => by
   have e7 : f 7 = true := e7
   rw [f7] at e7; cases e7⟩ }
theorem VaJ.store {W0 : World} {d : Dta} {V : Nat} {a0 a1 a2 a3 : Value} {f : Nat -> Bool} {u0 u1 u2 u3 u4 u5 u6 : Value} {W : World} (h : VaJ W0 d V a0 a1 a2 a3 f u0 u1 u2 u3 u4 u5 u6 W) (h5 : f 5 = true) (h6 : f 6 = true) (g : Nat) (z0 z1 z2 z3 a b c e : Value) (hg : W0.heap.size <= g) (hr : Row W g 25 #[z0, z1, z2, z3]) (hp : u6 = .pointer (some ⟨g, 0, none⟩)) (hu : u5 = .agg #[a, b, c, e]) :
  VaJ W0 d V a0 a1 a2 a3 (fun j => j == 7 || f j) u0 u1 u2 u3 u4 u5 u6 (set4 W g a b c e) := by
 have hs := zam (w := W0) (B0 := W0.heap.size) (a := a) (b := b) (c := c) (e := e) hr (h.h5 h5) h.sees hg
 exact { h with
  h2 := fun _ e => by cases e
  h4 := fun _ e => by cases e
  h5 := fun _ => hs.2.1
  o7 := fun _ => ⟨h5, h6⟩
  sees := hs.2.2
  rs := fun _ => ⟨g, a, b, c, e, hp, hg, hs.1, fun _ => hu⟩ }
set_option maxRecDepth 100000 in
set_option maxHeartbeats 8000000 in
theorem zmh (r : Raw) (v : Value) (w : World) (hv : TD w v r) (hs : Small r) : Calls Tryz.prog 53 #[v] w (RetR w (resR Dta.miniR r) r.check) := by
 have hck := fun W (h : Below w.heap.size w W) => zbe r v W (hv.below h zn) hs
 by_cases h0 : r.check = 0
 ·obtain ⟨V, hd, hr⟩ := Raw.check_ok h0
  have hV : r.vars = V := by rw [hr]; rfl
  rw [zc9 (D := r.dta) h0 hV, h0]
  have hv' : TD w v (r.dta.raw V) := by rw [<- hr]; exact hv
  obtain ⟨d, hd'⟩ := zx r.dta
  rw [<- hd'] at hd hv' ⊢
  rw [h0] at hck
  rw [<- d.miniR_eq, <- d.renL_eq]
  have hdr : d.renL.Fit V := by rw [d.renL_eq]; exact hd.renum
  obtain ⟨D, hD⟩ := zx d.renL
  rw [<- hD] at hdr ⊢
  obtain ⟨M, hM⟩ := zx (D.quoL (D.fixed D.coar) D.coar)
  rw [<- hM]
  have HDD := zh hD; have HMM := zh hM
  clear hD hM
  clear hr hV hd' h0
  obtain ⟨A3, c3, A4, c4, rfl⟩ := hv'.form
  obtain ⟨i0, hi0⟩ := zx ((d.raw V).vars)
  obtain ⟨i1, hi1⟩ := zx ((d.raw V).empty)
  obtain ⟨n, hn⟩ := zx ((d.raw V).next.length)
  obtain ⟨m, hm⟩ := zx ((d.raw V).fin.length)
  rw [<- hi0, <- hi1, <- hn, <- hm] at hv' hck ⊢
  have HC := zh hck; have HV := zh hv'; have HFIT := zh hd; have HFR := zh hdr
  clear hi0 hi1 hn hm hck hv' hd hs hv hdr
  go_enter Tryz.func53, Tryz.ntmps53
  go_upto_region 4 with (go_at_call 52; refine (HC.out _ (by go_grown)).mono ?_; rintro e w2 ⟨rfl, hb2⟩; have X := zaw hb2; have HB2 := zh X.1; have R1 := zh X.2.1; have RR := zh X.2.2; clear hb2 X)
  obtain ⟨gp, hgp⟩ := zx w.heap.size
  obtain ⟨gq, hgq⟩ := zx (w.heap.size + 1)
  rw [<- hgq] at RR
  rw [<- hgp] at R1
  rw [<- hgq, <- hgp]
  have hgb : w.heap.size <= gq := by omega
  have hne : gp ≠ gq := by omega
  clear hgp hgq HC
  have CV := zh fun W (h : Below w2.heap.size w2 W) => zjm d V HFIT.out _ W ((HV.out.below HB2.out zn).below h zn)
  have CO := zh fun W (h : Below w2.heap.size w2 W) => own19 d V HFIT.out _ W ((HV.out.below HB2.out zn).below h zn)
  have CQ := zh fun W (h : Below w2.heap.size w2 W) vo vc (ho : N1 W vo (oI d.order)) (hc : N1 W vc (oI (List.range d.n))) => zdk d V HFIT.out d.order (fun s => s) (List.mem_of_getElem? d.order_zero) (fun a ha b hb x hx => (d.order_iff HFIT.out.ok _).2 ((d.order_acc a ha).step (d.order_acc b hb) hx)) (fun a ha => (d.order_acc a ha).lt HFIT.out.ok) (Nat.le_trans (d.order_len HFIT.out.ok) HFIT.out.n64) _ vo vc W ((HV.out.below HB2.out zn).below h zn) ho (by rw [List.map_id']; exact hc)
  clear HV HFIT
  refine zb9 (by kernel_rfl) (by kernel_rfl) [16, 17, 18, 19, 20, 21, 5] [undef, undef, undef, undef, undef, undef, undef] ?_ ?_ (fun f vs W => ∃ u0 u1 u2 u3 u4 u5 u6, vs = [u0, u1, u2, u3, u4, u5, u6] /\ VaJ w2 d V (.int .i64 i0) (.int .i64 i1) (.slice A3 n c3) (.slice A4 m c4) f u0 u1 u2 u3 u4 u5 u6 W) ?_ ?_ ?_
  ·rfl
  ·simp only [putS, zp]
  ·exact ⟨_, _, _, _, _, _, _, rfl, ⟨by simp, by simp, by simp, by simp, by simp, by simp, by simp, by simp, (Below.refl _ _).drew, by simp⟩⟩
  ·refine zaj.cons ?_ (zaj.cons ?_ (zaj.cons ?_ (zaj.cons ?_ (zaj.cons ?_ (zaj.cons ?_ (zaj.cons ?_ (zaj.cons ?_ (zaj.nil))))))))
   ·rintro f vs W hl hf hd ⟨u0, u1, u2, u3, u4, u5, u6, rfl, hJ⟩ K hK
    have y0 := (R1.out.below hJ.sees R1.out.lt).cell
    have q0 := y0 0; have q1 := y0 1; have q2 := y0 2; have q3 := y0 3
    simp only [zg] at q0 q1 q2 q3
    clear y0
    have HJ := zh hJ
    clear hJ
    simp only [putS, zp]
    go_simp
    have hz := hK.out [_, u1, u2, u3, u4, u5, u6] W rfl ⟨_, _, _, _, _, _, _, rfl, { HJ.out with h0 := fun _ => rfl }⟩
    simp only [putS, zp] at hz
    exact hz
   ·rintro f vs W hl hf hd ⟨u0, u1, u2, u3, u4, u5, u6, rfl, hJ⟩ K hK
    have y0 := (R1.out.below hJ.sees R1.out.lt).cell
    have q0 := y0 0; have q1 := y0 1; have q2 := y0 2; have q3 := y0 3
    simp only [zg] at q0 q1 q2 q3
    clear y0
    have HJ := zh hJ
    clear hJ
    simp only [putS, zp]
    go_simp
    have hz := hK.out [u0, _, u2, u3, u4, u5, u6] W rfl ⟨_, _, _, _, _, _, _, rfl, { HJ.out with h1 := fun _ => rfl }⟩
    simp only [putS, zp] at hz
    exact hz
   ·rintro f vs W hl hf hd ⟨u0, u1, u2, u3, u4, u5, u6, rfl, hJ⟩ K hK
    have e1 := hJ.h1 (zau hd 1 (by kernel_rfl))
    subst e1
    have HJ := zh hJ
    clear hJ
    simp only [putS, zp]
    go_simp
    go_at_call 100
    refine (CV.out W HJ.out.sees).mono ?_
    rintro e wx ⟨A, c, rfl, hb, ho⟩
    have hz := hK.out [u0, _, _, u3, u4, u5, u6] wx rfl ⟨_, _, _, _, _, _, _, rfl, HJ.out.call2 hf hb ho⟩
    simp only [putS, zp] at hz
    exact hz
   ·rintro f vs W hl hf hd ⟨u0, u1, u2, u3, u4, u5, u6, rfl, hJ⟩ K hK
    have y0 := (R1.out.below hJ.sees R1.out.lt).cell
    have q0 := y0 0; have q1 := y0 1; have q2 := y0 2; have q3 := y0 3
    simp only [zg] at q0 q1 q2 q3
    clear y0
    have HJ := zh hJ
    clear hJ
    simp only [putS, zp]
    go_simp
    have hz := hK.out [u0, u1, u2, _, u4, u5, u6] W rfl ⟨_, _, _, _, _, _, _, rfl, { HJ.out with h3 := fun _ => rfl }⟩
    simp only [putS, zp] at hz
    exact hz
   ·rintro f vs W hl hf hd ⟨u0, u1, u2, u3, u4, u5, u6, rfl, hJ⟩ K hK
    have e3 := hJ.h3 (zau hd 3 (by kernel_rfl))
    subst e3
    have HJ := zh hJ
    clear hJ
    simp only [putS, zp]
    go_simp
    go_at_call 101
    refine (CO.out W HJ.out.sees).mono ?_
    rintro e wx ⟨A, c, rfl, hb, ho⟩
    have hz := hK.out [u0, u1, u2, _, _, u5, u6] wx rfl ⟨_, _, _, _, _, _, _, rfl, HJ.out.call4 hf hb ho⟩
    simp only [putS, zp] at hz
    exact hz
   ·rintro f vs W hl hf hd ⟨u0, u1, u2, u3, u4, u5, u6, rfl, hJ⟩ K hK
    have d2 := zau hd 2 (by kernel_rfl); have d4 := zau hd 4 (by kernel_rfl)
    have e0 := hJ.h0 (zau hd 0 (by kernel_rfl))
    subst e0
    have f5 : f 5 = false := hf
    have f7 := no_of (fun e => (hJ.o7 e).1) f5
    have hN2 := (hJ.h2 d2 f7).n1; have hN4 := (hJ.h4 d4 f7).n1
    have HQ := zh (CQ.out W hJ.sees _ _ hN2 hN4)
    revert hK
    generalize hgen : (Shut _ -> _) = G
    obtain ⟨Ao, co, rfl, _⟩ := hN2.open
    obtain ⟨Ac, cc, rfl, _⟩ := hN4.open
    subst hgen
    intro hK
    have HD := zh (And.intro d2 d4)
    clear d2 d4 hN2 hN4 f5 f7
    have HJ := zh hJ
    clear hJ
    simp only [putS, zp]
    go_simp
    go_at_call 99
    refine HQ.out.mono ?_
    rintro e wx ⟨v', rfl, hb, ho⟩
    have hz := hK.out [_, u1, _, u3, _, _, u6] wx rfl ⟨_, _, _, _, _, _, _, rfl, HJ.out.call5 hf hb ho HD.out.1 HD.out.2⟩
    simp only [putS, zp] at hz
    exact hz
   ·rintro f vs W hl hf hd ⟨u0, u1, u2, u3, u4, u5, u6, rfl, hJ⟩ K hK
    have HJ := zh hJ
    clear hJ
    simp only [putS, zp]
    go_simp
    have hz := hK.out [u0, u1, u2, u3, u4, u5, _] _ rfl ⟨_, _, _, _, _, _, _, rfl, HJ.out.alloc hf (.int .i64 0) (.int .i64 0) (.slice none 0 0) (.slice none 0 0)⟩
    simp only [putS, zp] at hz
    exact hz
   ·rintro f vs W hl hf hd ⟨u0, u1, u2, u3, u4, u5, u6, rfl, hJ⟩ K hK
    have d5 := zau hd 5 (by kernel_rfl); have d6 := zau hd 6 (by kernel_rfl)
    revert hK
    generalize hgen : (Shut _ -> _) = G
    obtain ⟨j0, j1, A5, n5, c5, A6, n6, c6, rfl⟩ := (hJ.h5 d5).shape
    obtain ⟨g, z0, z1, z2, z3, rfl, hg, hr, _⟩ := hJ.rs d6
    subst hgen
    intro hK
    have y0 := hr.cell; have y1 := hr.free; have y2 := hr.lt
    have q0 := y0 0; have q1 := y0 1; have q2 := y0 2; have q3 := y0 3
    simp only [zg] at q0 q1 q2 q3
    have HD := zh d5; have HD6 := zh d6; have HR := zh hr
    clear y0 hr d5 d6
    have HJ := zh hJ
    clear hJ
    simp only [putS, zp]
    go_simp
    have hz := hK.out [u0, u1, u2, u3, u4, _, _] (set4 W g (.int .i64 j0) (.int .i64 j1) (.slice A5 n5 c5) (.slice A6 n6 c6)) rfl ⟨_, _, _, _, _, _, _, rfl, HJ.out.store HD.out HD6.out g _ _ _ _ _ _ _ _ hg HR.out rfl rfl⟩
    simp only [putS, zp] at hz
    unfold set4 at hz
    exact hz
  ·rintro f vs W hl hall ⟨u0, u1, u2, u3, u4, u5, u6, rfl, hJ⟩
   obtain ⟨g5, z0, z1, z2, z3, e6, hg5, hr5, hz⟩ := hJ.rs (hall 6 (by decide))
   have e5 := hz (hall 7 (by decide))
   have hT := hJ.h5 (hall 5 (by decide))
   rw [e5, <- HDD.out] at hT
   have HT := zh (hT.mono HB2.out.size); have HBB := zh (HB2.out.trans (hJ.sees.mono HB2.out.size))
   have RQ := zh (RR.out.below hJ.sees RR.out.lt)
   have hg5n : g5 ≠ gq := by have := RR.out.lt; omega
   have hg5b : w.heap.size <= g5 := Nat.le_trans HB2.out.size hg5
   subst e6
   clear hJ hT e5 hz CV CO CQ R1 RR HB2 hl hall hg5
   have R5 := zh hr5
   clear hr5
   have CC := zh fun X (h : Below W.heap.size W X) => zmx D V HFR.out _ X (HT.out.td.below h zn)
   obtain ⟨N, hN⟩ := zx D.n
   have hn64 : N <= 64 := by rw [hN]; exact HFR.out.n64
   have hpos : 1 <= N := by rw [hN]; exact HFR.out.pos
   rw [<- hN] at CC
   have HN := zh hN
   clear hN
   simp only [putS, zp]
   have b0 := R5.out.cell
   have q0 := b0 0; have q1 := b0 1; have q2 := b0 2; have q3 := b0 3
   simp only [zg] at q0 q1 q2 q3
   clear b0
   go_wp2_with (go_at_call 102; refine (CC.out _ (Below.refl _ _)).mono ?_; rintro e w3 ⟨A, c, rfl, hb3, ho3⟩; have HB3 := zh hb3; have HO3 := zh ho3; clear hb3 ho3 q0 q1 q2 q3 CC)
   obtain ⟨gc, cc, e, hgc1, hgc2, hcl⟩ := HO3.out.at hpos
   obtain ⟨rfl, rfl⟩ : A = some ⟨gc, 0, none⟩ /\ c = cc := by simp only [Value.slice.injEq, true_and] at e; exact e
   clear e
   have HCL := zh hcl
   clear hcl
   obtain ⟨cl, hcl⟩ := zx D.coar
   rw [<- hcl] at HO3 HCL
   go_loopg [7, 8] N (fun gk q7 q8 X => ∃ (s : Nat) (A : Option Addr) (k c : Nat), s <= N /\ gk = N - s /\ q7 = .slice A k c /\ q8 = .int .i64 s /\ Below w3.heap.size w3 X /\ k = (fixT cl s).length /\ O1 X w3.heap.size (.slice A k c) (oI (fixT cl s)))
   case atStart => exact ⟨0, _, _, _, Nat.zero_le _, rfl, rfl, rfl, Below.refl _ _, rfl, VO.nil _ _ _⟩
   case round =>
    obtain ⟨s, A, k, c, hsN, rfl, rfl, rfl, hbX, hk, hoX⟩ := hrel
    by_cases hlt : s < N
    ·have hlti : (s : Int) < (N : Int) := by omega
     have hcs := (hbX.cell (p := ⟨gc, s, none⟩) hgc2).trans (HCL.out s hlt)
     have hst := zpg cl s
     have hk64 : k <= 64 := by have := zrf cl s; omega
     have HBX := zh hbX; have HOX := zh hoX; have HK := zh hk
     clear hbX hoX hk
     by_cases hc : cl s = s
     ·rw [if_pos hc] at hst
      rw [hc] at hcs
      have HST := zh hst
      clear hst hc
      go_wp2_with (at_builtin; refine zaa eI rfl (.tmp 36) (.tmp 38) rfl w3.heap.size _ _ rfl (VO.allocd HOX.out _) _ [.int .i64 (s : Int)] rfl (VS.one (Row.new _ _ _)) (by intro u hu; simp at hu; subst hu; rfl) (by rw [zah, zai, <- HK.out]; simp; omega) (by have := HBX.out.size; simp only [World.size_alloc]; omega) ?_; intro v4 w4 ho4 hg4 _; obtain ⟨A4, c4, rfl⟩ := VO.formN (n := k + 1) ho4 (by rw [List.length_append, zah, zai, <- HK.out]; rfl); have HO4 := zh ho4; have HG4 := zh hg4; clear ho4 hg4)
      have hIN : Hid (Below w3.heap.size w3 w4) := zaf (w := w3) (HBX.out.alloc (by have := HBX.out.size; omega) _) (VO.allocd HOX.out _) HG4.out (by have := HBX.out.size; simp only [World.size_alloc]; omega)
      go_roundg (N - (s + 1))
      case rel => exact ⟨s + 1, A4, k + 1, c4, by omega, rfl, rfl, by go_num, hIN.out, by rw [HST.out, List.length_append, <- HK.out]; rfl, by have := HO4.out; rw [<- zb4, <- zdc, <- HST.out] at this; exact this⟩
      case measure => omega
     ·rw [if_neg hc] at hst
      have HST := zh hst
      have hci : ((cl s : Nat) : Int) ≠ (s : Int) := by omega
      have hcb : (((cl s : Nat) : Int) == (s : Int)) = false := by rw [beq_eq_false_iff_ne]; exact hci
      clear hst hc hci
      obtain ⟨y, hy⟩ := zx (cl s)
      rw [<- hy] at hcs hcb
      clear hy
      go_wp2
      go_roundg (N - (s + 1))
      case rel => exact ⟨s + 1, A, k, c, by omega, rfl, rfl, by go_num, HBX.out, by rw [HST.out]; exact HK.out, by rw [HST.out]; exact HOX.out⟩
      case measure => omega
    ·obtain rfl : N = s := by omega
     have hlti : ¬ ((N : Nat) : Int) < (N : Int) := by omega
     have e7 : fixT cl N = D.fixed D.coar := by rw [hcl, HN.out]; rfl
     rw [e7] at hoX hk
     have hq := zh (Dta.quoL_fit HFR.out)
     have HQ := zh fun Y (h : Below wr.heap.size wr Y) vo vc (ho : N1 Y vo (oI (D.fixed D.coar))) (hc : N1 Y vc (oI ((List.range D.n).map D.coar))) => zdk D V HFR.out (D.fixed D.coar) D.coar (Dta.coar_in HFR.out.ok HFR.out.ok.he) (fun a ha b hb x hx => Dta.coar_in HFR.out.ok (HFR.out.ok.hn _ _ _ ((D.fixed_mem _ _).1 ha).1 ((D.fixed_mem _ _).1 hb).1 hx)) (fun a ha => ((D.fixed_mem _ _).1 ha).1) (Nat.le_trans (zbs (D.fixed_nodup _) (fun a ha => ((D.fixed_mem _ _).1 ha).1)) HFR.out.n64) _ vo vc Y (((HT.out.td.below HB3.out zn).below hbX zn).below h zn) ho hc
     have HN1 := zh (And.intro hoX.n1 (show N1 wr _ (oI ((List.range D.n).map D.coar)) from by have := (HO3.out.below hbX zn).n1; rw [hcl] at this; rw [<- HN.out]; exact this))
     have HX := zh (HBB.out.trans ((HB3.out.trans (hbX.mono HB3.out.size)).mono HBB.out.size))
     have RQ2 := zh ((RQ.out.below HB3.out RQ.out.lt).below hbX (by have := RQ.out.lt; have := HB3.out.size; omega))
     have R52 := (R5.out.below HB3.out R5.out.lt).below hbX (by have := R5.out.lt; have := HB3.out.size; omega)
     have b0 := R52.cell
     have q0 := b0 0; have q1 := b0 1; have q2 := b0 2; have q3 := b0 3
     simp only [zg] at q0 q1 q2 q3
     clear hbX hoX hk b0 R52 HT HBB R5 RQ HB3 HO3 HCL hcl e7 HFR
     rw [<- HMM.out] at hq HQ
     go_upto_region 13 with (go_at_call 99; refine (HQ.out _ (Below.refl _ _) _ _ HN1.out.1 HN1.out.2).mono ?_; rintro e w5 ⟨v5, rfl, hb5, ho5⟩; obtain ⟨j0, j1, A5, n5, c5, A6, n6, c6, rfl⟩ := ho5.shape; have HB5 := zh hb5; have HO5 := zh ho5; clear hb5 ho5 HQ HN1 q0 q1 q2 q3)
     refine zab (fun Y => Below w5.heap.size w5 Y /\ Row Y w5.heap.size 25 #[.int .i64 j0, .int .i64 j1, .slice A5 n5 c5, .slice A6 n6 c6]) ⟨by go_grown, by first | exact Row.new _ _ _ | (refine Row.lit ?_; simp only [World.size_alloc] <;> omega)⟩ ?_
     rintro Y ⟨hY, r9⟩
     obtain ⟨g9, hg9⟩ := zx w5.heap.size
     rw [<- hg9] at r9
     rw [<- hg9]
     have hlq := RQ2.out.lt
     have hsz := HB5.out.size
     clear hne
     have hne : g9 ≠ gq := by omega
     have R9 := zh r9
     have RQ := zh ((RQ2.out.below HB5.out RQ2.out.lt).below hY (by omega))
     have HBY := zh (HX.out.trans ((HB5.out.trans (hY.mono hsz)).mono HX.out.size))
     have HM := zh ((HO5.out.below hY zn).td)
     clear hY r9 RQ2 HX HB5 HO5 hlq hsz hg9
     have CV := zh fun W (h : Below Y.heap.size Y W) => zjm M V hq.out _ W (HM.out.below h zn)
     have CO := zh fun W (h : Below Y.heap.size Y W) => own19 M V hq.out _ W (HM.out.below h zn)
     have CQ := zh fun W (h : Below Y.heap.size Y W) vo vc (ho : N1 W vo (oI M.order)) (hc : N1 W vc (oI (List.range M.n))) => zdk M V hq.out M.order (fun s => s) (List.mem_of_getElem? M.order_zero) (fun a ha b hb x hx => (M.order_iff hq.out.ok _).2 ((M.order_acc a ha).step (M.order_acc b hb) hx)) (fun a ha => (M.order_acc a ha).lt hq.out.ok) (Nat.le_trans (M.order_len hq.out.ok) hq.out.n64) _ vo vc W (HM.out.below h zn) ho (by rw [List.map_id']; exact hc)
     refine zb9 (by kernel_rfl) (by kernel_rfl) [44, 45, 46, 47, 48, 49, 3] [undef, undef, undef, undef, undef, undef, .int .i64 0] ?_ ?_ (fun f vs W => ∃ u0 u1 u2 u3 u4 u5 u6, vs = [u0, u1, u2, u3, u4, u5, u6] /\ VqJ w Y M V g9 gq (.int .i64 j0) (.int .i64 j1) (.slice A5 n5 c5) (.slice A6 n6 c6) f u0 u1 u2 u3 u4 u5 u6 W) ?_ ?_ ?_
     ·rfl
     ·simp only [putS, zp]
     ·exact ⟨_, _, _, _, _, _, _, rfl, ⟨by simp, by simp, by simp, by simp, by simp, by simp, rfl, by simp, by simp, HBY.out.drew, fun _ => (Below.refl _ _).drew, R9.out.drew, fun _ => RQ.out.drew, by simp⟩⟩
     ·refine zaj.cons ?_ (zaj.cons ?_ (zaj.cons ?_ (zaj.cons ?_ (zaj.cons ?_ (zaj.cons ?_ (zaj.cons ?_ (zaj.cons ?_ (zaj.nil))))))))
      ·rintro f vs W hl hf hd ⟨u0, u1, u2, u3, u4, u5, u6, rfl, hJ⟩ K hK
       have y0 := hJ.rp.cell
       have q0 := y0 0; have q1 := y0 1; have q2 := y0 2; have q3 := y0 3
       simp only [zg] at q0 q1 q2 q3
       clear y0
       have HJ := zh hJ
       clear hJ
       simp only [putS, zp]
       go_simp
       have hz := hK.out [_, u1, u2, u3, u4, u5, u6] W rfl ⟨_, _, _, _, _, _, _, rfl, { HJ.out with h0 := fun _ => rfl }⟩
       simp only [putS, zp] at hz
       exact hz
      ·rintro f vs W hl hf hd ⟨u0, u1, u2, u3, u4, u5, u6, rfl, hJ⟩ K hK
       have y0 := hJ.rp.cell
       have q0 := y0 0; have q1 := y0 1; have q2 := y0 2; have q3 := y0 3
       simp only [zg] at q0 q1 q2 q3
       clear y0
       have HJ := zh hJ
       clear hJ
       simp only [putS, zp]
       go_simp
       have hz := hK.out [u0, _, u2, u3, u4, u5, u6] W rfl ⟨_, _, _, _, _, _, _, rfl, { HJ.out with h1 := fun _ => rfl }⟩
       simp only [putS, zp] at hz
       exact hz
      ·rintro f vs W hl hf hd ⟨u0, u1, u2, u3, u4, u5, u6, rfl, hJ⟩ K hK
       have e1 := hJ.h1 (zau hd 1 (by kernel_rfl))
       subst e1
       have d5 : f 5 = false := no_of (fun e => (hJ.o5 e).1) hf
       have HS := zh (hJ.sees (no_of hJ.o6 d5))
       clear d5
       have HJ := zh hJ
       clear hJ
       simp only [putS, zp]
       go_simp
       go_at_call 100
       refine (CV.out W HS.out).mono ?_
       rintro e wx ⟨A, c, rfl, hb, ho⟩
       have hz := hK.out [u0, _, _, u3, u4, u5, u6] wx rfl ⟨_, _, _, _, _, _, _, rfl, HJ.out.call2 hf hb ho⟩
       simp only [putS, zp] at hz
       exact hz
      ·rintro f vs W hl hf hd ⟨u0, u1, u2, u3, u4, u5, u6, rfl, hJ⟩ K hK
       have y0 := hJ.rp.cell
       have q0 := y0 0; have q1 := y0 1; have q2 := y0 2; have q3 := y0 3
       simp only [zg] at q0 q1 q2 q3
       clear y0
       have HJ := zh hJ
       clear hJ
       simp only [putS, zp]
       go_simp
       have hz := hK.out [u0, u1, u2, _, u4, u5, u6] W rfl ⟨_, _, _, _, _, _, _, rfl, { HJ.out with h3 := fun _ => rfl }⟩
       simp only [putS, zp] at hz
       exact hz
      ·rintro f vs W hl hf hd ⟨u0, u1, u2, u3, u4, u5, u6, rfl, hJ⟩ K hK
       have e3 := hJ.h3 (zau hd 3 (by kernel_rfl))
       subst e3
       have d5 : f 5 = false := no_of (fun e => (hJ.o5 e).2) hf
       have HS := zh (hJ.sees (no_of hJ.o6 d5))
       clear d5
       have HJ := zh hJ
       clear hJ
       simp only [putS, zp]
       go_simp
       go_at_call 101
       refine (CO.out W HS.out).mono ?_
       rintro e wx ⟨A, c, rfl, hb, ho⟩
       have hz := hK.out [u0, u1, u2, _, _, u5, u6] wx rfl ⟨_, _, _, _, _, _, _, rfl, HJ.out.call4 hf hb ho⟩
       simp only [putS, zp] at hz
       exact hz
      ·rintro f vs W hl hf hd ⟨u0, u1, u2, u3, u4, u5, u6, rfl, hJ⟩ K hK
       have d2 := zau hd 2 (by kernel_rfl); have d4 := zau hd 4 (by kernel_rfl)
       have e0 := hJ.h0 (zau hd 0 (by kernel_rfl))
       subst e0
       have f5 : f 5 = false := hf
       have f6 := no_of hJ.o6 f5
       have hN2 := (hJ.h2 d2 f6).n1; have hN4 := (hJ.h4 d4 f6).n1
       have HQ := zh (CQ.out W (hJ.sees f6) _ _ hN2 hN4)
       revert hK
       generalize hgen : (Shut _ -> _) = G
       obtain ⟨Ao, co, rfl, _⟩ := hN2.open
       obtain ⟨Ac, cc, rfl, _⟩ := hN4.open
       subst hgen
       intro hK
       have HD := zh (And.intro d2 d4)
       clear d2 d4 hN2 hN4 f5 f6
       have HJ := zh hJ
       clear hJ
       simp only [putS, zp]
       go_simp
       go_at_call 99
       refine HQ.out.mono ?_
       rintro e wx ⟨v', rfl, hb, ho⟩
       have hz := hK.out [_, u1, _, u3, _, _, u6] wx rfl ⟨_, _, _, _, _, _, _, rfl, HJ.out.call5 hf hb ho HD.out.1 HD.out.2⟩
       simp only [putS, zp] at hz
       exact hz
      ·rintro f vs W hl hf hd ⟨u0, u1, u2, u3, u4, u5, u6, rfl, hJ⟩ K hK
       have d5 := zau hd 5 (by kernel_rfl)
       revert hK
       generalize hgen : (Shut _ -> _) = G
       obtain ⟨j0, j1, A5, n5, c5, A6, n6, c6, rfl⟩ := (hJ.h5 d5).shape
       subst hgen
       intro hK
       have hf' : f 6 = false := hf
       have rq := hJ.rq hf'
       have y0 := rq.cell; have y1 := rq.free; have y2 := rq.lt
       have q0 := y0 0; have q1 := y0 1; have q2 := y0 2; have q3 := y0 3
       simp only [zg] at q0 q1 q2 q3
       have HD := zh d5
       clear y0 rq d5 hf'
       have HJ := zh hJ
       clear hJ
       simp only [putS, zp]
       go_simp
       have hz := hK.out [u0, u1, u2, u3, u4, _, u6] (set4 W gq (.int .i64 j0) (.int .i64 j1) (.slice A5 n5 c5) (.slice A6 n6 c6)) rfl ⟨_, _, _, _, _, _, _, rfl, HJ.out.store hf HD.out hne hgb _ _ _ _ rfl⟩
       simp only [putS, zp] at hz
       unfold set4 at hz
       exact hz
      ·rintro f vs W hl hf hd ⟨u0, u1, u2, u3, u4, u5, u6, rfl, hJ⟩ K hK
       have HJ := zh hJ
       clear hJ
       simp only [putS, zp]
       go_simp
       have hz := hK.out [u0, u1, u2, u3, u4, u5, _] W rfl ⟨_, _, _, _, _, _, _, rfl, { HJ.out with h6 := rfl }⟩
       simp only [putS, zp] at hz
       exact hz
     ·rintro f vs W hl hall ⟨u0, u1, u2, u3, u4, u5, u6, rfl, hJ⟩
      obtain ⟨z0, z1, z2, z3, e5, hrow⟩ := hJ.rs (hall 6 (by decide))
      have hT := hJ.h5 (hall 5 (by decide))
      rw [e5] at hT
      have HT := zh hT; have HBB := zh hJ.below
      have e6 := hJ.h6
      have b0 := hrow.cell
      have q0 := b0 0; have q1 := b0 1; have q2 := b0 2; have q3 := b0 3
      simp only [zg] at q0 q1 q2 q3
      subst e6
      clear hJ b0 hrow hT e5
      simp only [putS, zp]
      go_wp2
      refine bodyPost_ret (v := .tuple #[.agg #[z0, z1, z2, z3], .int .i64 0]) (by simp [results, Tryz.results53, go_sem, q0, q1, q2, q3]) rfl ?_
      exact ⟨_, rfl, HBB.out, HT.out⟩
 ·obtain ⟨k, hk⟩ := zx r.check
  have HZ := zh (show resR Dta.miniR r = zeroR from zbl h0)
  rw [HZ.out]
  rw [<- hk] at h0 hck ⊢
  have h0' : ((k : Int) != 0) = true := by rw [bne_iff_ne]; omega
  obtain ⟨A3, c3, A4, c4, rfl⟩ := hv.form
  obtain ⟨n, hn⟩ := zx r.next.length
  obtain ⟨m, hm⟩ := zx r.fin.length
  obtain ⟨i0, hV⟩ := zx r.vars
  obtain ⟨i1, hE⟩ := zx r.empty
  rw [<- hn, <- hm, <- hV, <- hE] at hck ⊢
  have HC := zh hck
  clear hck hv hk hn hm hV hE hs h0 HZ
  go_enter Tryz.func53, Tryz.ntmps53
  go_wp2_with (go_at_call 52; refine (HC.out _ (by go_grown)).mono ?_; rintro e w2 ⟨rfl, hb2⟩; have X := zaw hb2; have HB2 := zh X.1; have R1 := zh X.2.1; have RR := zh X.2.2; have y0 := X.2.1.cell; have y2 := X.2.2.cell; have y3 := X.2.2.free; clear hb2 X)
  refine zae (fun W => Row W (w.heap.size + 1) 25 #[.int .i64 0, .int .i64 0, .slice none 0 0, .slice none 0 0] /\ TDO W w2.heap.size zeroV zeroR /\ Below w.heap.size w W) (zam RR.out (zad _ _) HB2.out (by omega)) ?_
  clear y0 y2 y3
  rintro W5 ⟨r0, hT, hb⟩
  have b0 := r0.cell
  have q0 := b0 0; have q1 := b0 1; have q2 := b0 2; have q3 := b0 3
  simp only [zg] at q0 q1 q2 q3
  have HB := zh hb
  clear b0 r0 hT hb
  exact bodyPost_ret (v := .tuple #[zeroV, .int .i64 (k : Int)]) (by simp [results, Tryz.results53, go_sem, q0, q1, q2, q3, zeroV]) rfl ⟨_, rfl, HB.out, zad _ _⟩
theorem Dta.raw_fine {d : Dta} {V : Nat} (h : d.Fit V) : (d.raw V).Fine := by
 have h64 := h.n64; have h8 := h.L8.2
 refine ⟨by rw [(d.raw_len V).1]; omega, by rw [(d.raw_len V).2]; omega, ?_⟩
 intro l hl
 obtain ⟨i, _, rfl⟩ := List.mem_map.1 hl
 refine ⟨by simp; omega, ?_⟩
 intro k hk
 obtain ⟨j, _, rfl⟩ := List.mem_map.1 hk
 simp; omega
theorem zhm {D : Dta} {V : Nat} (h : D.Fit V) : resR Dta.mini (D.raw V) = D.mini.raw V := by
 have hc := D.raw_check h
 obtain ⟨V', hd, hr⟩ := Raw.check_ok hc
 have hV : V = V' := by
  have h1 : ((V : Nat) : Int) = (V' : Int) := congrArg Raw.vars hr
  omega
 subst hV
 rw [zc9 (D := (D.raw V).dta) hc rfl]
 have hL : (D.raw V).dta.L = D.L := hd.L.trans h.L.symm
 have hs : (D.raw V).dta.Same D := zqs hL hr.symm
 have hm := (Dta.mini_same hd.ok h.ok hL fun t ht => (hs.lang h.ok t ht).2).1
 obtain ⟨c1, c2, _⟩ := (D.raw V).dta.mini_canon hd.ok
 obtain ⟨_, d2, _⟩ := D.mini_canon h.ok
 exact hm.raw c1.ok (c2.trans (hL.trans d2.symm)) V
theorem zcy (d : Dta) (V : Nat) (hd : d.Fit V) (v : Value) (w : World) (hv : TD w v (d.raw V)) : Calls Tryz.prog 53 #[v] w (RetR w (d.mini.raw V) 0) := by
 have h := zmh (d.raw V) v w hv (by have := hd.n64; exact ⟨by rw [(d.raw_len V).1]; omega, by rw [(d.raw_len V).2]; omega⟩)
 rw [zmb, zhm hd, d.raw_check hd] at h
 exact h
structure NoI (w : World) (d : Dta) (gq g5 : Nat) (i0 i1 : Int) (vn vf : Value) (nx : List (List (List Int))) (s : Nat) (W : World) : Prop where
 below : Below w.heap.size w W
 rq : Row W gq 25 #[.int .i64 0, .int .i64 0, .slice none 0 0, .slice none 0 0]
 r5 : Row W g5 25 #[.int .i64 i0, .int .i64 i1, vn, vf]
 hn : O3 W w.heap.size vn nx
 hf : OB W w.heap.size vf (negL d s)
theorem NoI.to {w W X : World} {d : Dta} {gq g5 : Nat} {i0 i1 : Int} {vn vf : Value} {nx : List (List (List Int))} {s : Nat} (h : NoI w d gq g5 i0 i1 vn vf nx s W) (hb : Below W.heap.size W X) : NoI w d gq g5 i0 i1 vn vf nx s X :=
 ⟨h.below.trans (hb.mono h.below.size), h.rq.below hb h.rq.lt, h.r5.below hb h.r5.lt, h.hn.below hb zn, VO.below h.hf hb zn⟩
theorem NoI.set {w W : World} {d : Dta} {gq g5 gF c : Nat} {i0 i1 : Int} {vn : Value} {nx : List (List (List Int))} {s : Nat} (h : NoI w d gq g5 i0 i1 vn (.slice (some ⟨gF, 0, none⟩) d.n c) nx s W) (hs : s < d.n) : NoI w d gq g5 i0 i1 vn (.slice (some ⟨gF, 0, none⟩) d.n c) nx (s + 1) (W.setCell ⟨gF, s, none⟩ (.bool (!d.fin s))) := by
 obtain ⟨g3, cap3, cs3, he3, hg3, hrow3, _, _, hcell3⟩ := VO.row h.hf (by rw [zap, za1]; omega)
 simp only [Value.slice.injEq, Option.some.injEq, Addr.mk.injEq, and_true] at he3
 obtain ⟨rfl, -⟩ := he3
 have hset := zbf h.hf (by rw [zap, za1]) s (.bool (!d.fin s)) rfl
 rw [bL_set, zlb] at hset
 exact ⟨h.below.setCell (p := ⟨gF, s, none⟩) hg3 _, h.rq.far (Row.ne h.rq hrow3 (by decide)) _, h.r5.far (Row.ne h.r5 hrow3 (by decide)) _, h.hn.setRow hrow3 (by decide) (by decide) (by decide) s _, hset⟩
theorem NoI.at {w W : World} {d : Dta} {gq g5 gF c : Nat} {i0 i1 : Int} {vn : Value} {nx : List (List (List Int))} {s : Nat} (h : NoI w d gq g5 i0 i1 vn (.slice (some ⟨gF, 0, none⟩) d.n c) nx s W) (hs : s < d.n) : W.cell? ⟨gF, s, none⟩ = some (.bool (d.fin s)) /\ (∀ i, W.frozen? ⟨gF, i, none⟩ = false) /\ gF < W.heap.size := by
 obtain ⟨g3, cap3, cs3, he3, hg3, hrow3, _, _, hcell3⟩ := VO.row h.hf (by rw [zap, za1]; omega)
 simp only [Value.slice.injEq, Option.some.injEq, Addr.mk.injEq, and_true] at he3
 obtain ⟨rfl, -⟩ := he3
 have := h.hf.nb.at' hs (by rw [za1]) (zoj d s hs)
 exact ⟨by simpa using this, hrow3.free, hrow3.lt⟩
set_option maxRecDepth 100000 in
set_option maxHeartbeats 8000000 in
theorem zqz (d : Dta) (V : Nat) (hd : d.Fit V) (v : Value) (w : World) (hv : TD w v (d.raw V)) : Calls Tryz.prog 15 #[v] w (RetR w (d.neg.mini.raw V) 0) := by
 have hck := fun W (h : Below w.heap.size w W) => zbe (d.raw V) v W (hv.below h zn) (by have := hd.n64; exact ⟨by rw [(d.raw_len V).1]; omega, by rw [(d.raw_len V).2]; omega⟩)
 rw [d.raw_check hd] at hck
 have hcp : ∀ W, Below w.heap.size w W -> Calls Tryz.prog 49 #[v] W fun e w' => ∃ A c A' c', e = .returned (.agg #[.int .i64 (d.raw V).vars, .int .i64 (d.raw V).empty, .slice A d.n c, .slice A' d.n c']) /\ Below W.heap.size W w' /\ O3 w' W.heap.size (.slice A d.n c) (d.raw V).next /\ OB w' W.heap.size (.slice A' d.n c') (negL d 0) := by
  intro W h
  refine (zpq (d.raw V) v W (hv.below h zn) (Dta.raw_fine hd)).mono ?_
  rintro e w' ⟨v', rfl, hb, ho⟩
  obtain ⟨A, c, A', c', rfl⟩ := ho.td.form
  obtain ⟨vn, vf, e, h1, h2⟩ := ho
  simp only [Value.agg.injEq, Array.mk.injEq, List.cons.injEq, and_true, true_and] at e
  obtain ⟨rfl, rfl⟩ := e
  rw [(d.raw_len V).1] at h1
  rw [(d.raw_len V).2] at h2
  rw [(d.raw_len V).1, (d.raw_len V).2]
  exact ⟨_, _, _, _, rfl, hb, h1, by rw [zir]; exact h2⟩
 have hmi := fun v W (h : TD W v (d.neg.raw V)) => zcy d.neg V hd.neg v W h
 obtain ⟨A3, c3, A4, c4, rfl⟩ := hv.form
 obtain ⟨i0, hi0⟩ := zx ((d.raw V).vars)
 obtain ⟨i1, hi1⟩ := zx ((d.raw V).empty)
 obtain ⟨n, hn⟩ := zx ((d.raw V).next.length)
 obtain ⟨m, hm⟩ := zx ((d.raw V).fin.length)
 obtain ⟨N, hN⟩ := zx d.n
 rw [<- hi0, <- hi1, <- hn, <- hm] at hck hcp ⊢
 rw [<- hN] at hcp
 have hn64 : N <= 64 := by rw [hN]; exact hd.n64
 have hpos : 1 <= N := by rw [hN]; exact hd.pos
 have HC := zh hck; have CP := zh hcp; have HMI := zh hmi
 have HN := zh hN; have HI0 := zh hi0; have HI1 := zh hi1
 obtain ⟨R, hR⟩ := zx (d.neg.mini.raw V)
 have HRR := zh hR
 rw [<- hR]
 clear hi0 hi1 hn hm hck hcp hd hv hmi hN hR
 go_enter Tryz.func15, Tryz.ntmps15
 go_upto_region 5 with (first
  | (go_at_call 52; refine (HC.out _ (by go_grown)).mono ?_; rintro e w2 ⟨rfl, hb2⟩; have X := zaw hb2; have HB2 := zh X.1; have R1 := zh X.2.1; have RR := zh X.2.2; have y0 := X.2.1.cell; clear hb2 X)
  | (go_at_call 49; refine (CP.out _ HB2.out).mono ?_; rintro e w4 ⟨A6, c6, A5, c5, rfl, hb4, ho4, hf4⟩; have HO4 := zh ho4; have HF4 := zh hf4; have HB4 := zh hb4; clear hb4 ho4 hf4 y0))
 refine zab (fun Y => Below w4.heap.size w4 Y /\ Row Y w4.heap.size 25 #[.int .i64 i0, .int .i64 i1, .slice A6 N c6, .slice A5 N c5]) ⟨by go_grown, by first | exact Row.new _ _ _ | (refine Row.lit ?_; simp only [World.size_alloc] <;> omega)⟩ ?_
 rintro Y ⟨hY, r5⟩
 obtain ⟨g5, hg5⟩ := zx w4.heap.size
 obtain ⟨gq, hgq⟩ := zx (w.heap.size + 1)
 rw [<- hg5] at r5
 rw [<- hgq] at RR
 rw [<- hg5, <- hgq]
 have hI : NoI w d gq g5 i0 i1 (.slice A6 N c6) (.slice A5 N c5) (d.raw V).next 0 Y :=
  ⟨HB2.out.trans ((HB4.out.trans (hY.mono HB4.out.size)).mono HB2.out.size), (RR.out.below HB4.out RR.out.lt).below hY (by have := RR.out.lt; have := HB4.out.size; omega), r5, (HO4.out.below hY zn).mono HB2.out.size, (VO.below HF4.out hY zn).mono HB2.out.size⟩
 have hgqb : w.heap.size <= gq := by omega
 obtain ⟨gF, cF, csF, heF, hgF, hrF, _, _, _⟩ := VO.row hI.hf (by rw [zap, za1, <- HN.out]; omega)
 rw [zap, za1, <- HN.out] at heF
 simp only [Value.slice.injEq, true_and] at heF
 obtain ⟨rfl, -⟩ := heF
 have HI := zh hI
 clear hI hrF hY r5 HB2 HB4 RR R1 HO4 HF4 hg5 hgq
 go_wp2
 go_loopg [6] N (fun gk q6 W => ∃ s : Nat, s <= N /\ gk = N - s /\ q6 = .int .i64 s /\ NoI w d gq g5 i0 i1 (.slice A6 N c6) (.slice (some ⟨gF, 0, none⟩) N c5) (d.raw V).next s W)
 case atStart => exact ⟨0, Nat.zero_le _, rfl, rfl, HI.out⟩
 case round =>
  clear HI
  obtain ⟨s, hs, rfl, rfl, hi⟩ := hrel
  have y0 := hi.r5.cell; have y1 := hi.r5.lt
  have q0 := y0 0; have q1 := y0 1; have q2 := y0 2; have q3 := y0 3
  simp only [zg] at q0 q1 q2 q3
  by_cases hlt : s < N
  ·have hlti : (s : Int) < (N : Int) := by omega
   have hi' := hi
   rw [HN.out] at hi'
   have hat := hi'.at (by rw [<- HN.out]; exact hlt)
   have hst := hi'.set (by rw [<- HN.out]; exact hlt)
   rw [<- HN.out] at hst
   obtain ⟨f1, f2, f3⟩ := hat
   have f2s := f2 s
   obtain ⟨b, hb⟩ := zx (d.fin s)
   rw [<- hb] at f1 hst
   have HST := zh hst; have HI := zh hi
   clear hi hi' hst hb y0 f2
   go_upto_region 8 with fail
   first | go_region | fail
   refine zbc (fun X => NoI w d gq g5 i0 i1 (.slice A6 N c6) (.slice (some ⟨gF, 0, none⟩) N c5) (d.raw V).next (s + 1) X) (HST.out.to (Below.refl _ _).drew) ?_
   clear HI HST q0 q1 q2 q3 f1 f2s f3
   rintro W1 hi
   have HI := zh hi
   clear hi
   go_wp2
   go_roundg (N - (s + 1))
   case rel => exact ⟨s + 1, by omega, rfl, by go_num, HI.out⟩
   case measure => omega
  ·obtain rfl : N = s := by omega
   have hlti : ¬ ((N : Nat) : Int) < (N : Int) := by omega
   have htd : TD wr (.agg #[.int .i64 i0, .int .i64 i1, .slice A6 N c6, .slice (some ⟨gF, 0, none⟩) N c5]) (d.neg.raw V) := ⟨_, _, by rw [HI0.out, HI1.out]; rfl, hi.hn.n3, by have := hi.hf.nb; rw [show negL d N = negL d d.n from by rw [HN.out], zis] at this; exact this⟩
   have HMM := zh (HMI.out _ wr htd)
   rw [<- HRR.out] at HMM
   have RR := zh hi.rq; have HB := zh hi.below
   clear hi htd y0
   go_wp2_with (go_at_call 53; refine HMM.out.mono ?_; intro e w6 h6; obtain ⟨A6, c6, A7, c7, rfl, hb6, ht6⟩ := h6.unfold; have HT := zh ht6; have HB6 := zh hb6; have RR6 := zh (RR.out.below hb6 RR.out.lt); have b0 := RR6.out.cell; have b1 := RR6.out.free; clear h6 hb6 ht6 q0 q1 q2 q3)
   refine zae (fun W => Row W gq 25 #[.int .i64 R.vars, .int .i64 R.empty, .slice A6 R.next.length c6, .slice A7 R.fin.length c7] /\ TDO W wr.heap.size (.agg #[.int .i64 R.vars, .int .i64 R.empty, .slice A6 R.next.length c6, .slice A7 R.fin.length c7]) R /\ Below w.heap.size w W)
    (zam RR6.out HT.out (HB.out.trans (HB6.out.mono HB.out.size)) hgqb) ?_
   clear b0 b1 RR6 HT
   rintro W5 ⟨r0, hT, hb⟩
   have b0 := r0.cell
   have q0 := b0 0; have q1 := b0 1; have q2 := b0 2; have q3 := b0 3
   simp only [zg] at q0 q1 q2 q3
   have HT := zh (hT.mono HB.out.size); have HBX := zh hb
   clear b0 r0 hT hb
   exact bodyPost_ret (v := .tuple #[.agg #[.int .i64 R.vars, .int .i64 R.empty, .slice A6 R.next.length c6, .slice A7 R.fin.length c7], .int .i64 0]) (by simp [results, Tryz.results15, go_sem, q0, q1, q2, q3]) rfl ⟨_, rfl, HBX.out, HT.out⟩
def zbd (r : Raw) : Bool := decide (r.check = 0) && zcb r.dta
theorem zmt (d : Dta) : zcb d = !((List.range d.renum.n).any d.renum.fin) := rfl
set_option maxRecDepth 100000 in
set_option maxHeartbeats 4000000 in
theorem zjl (r : Raw) (va : Value) (w : World) (hva : TD w va r) (hs : Small r) :
  Calls Tryz.prog 21 #[va] w fun e w' => e = .returned (.tuple #[.bool (zbd r), .int .i64 (r.check : Nat)]) /\ Below w.heap.size w w' := by
 by_cases h0 : r.check = 0
 ·obtain ⟨V, hd, hr⟩ := Raw.check_ok h0
  have h := zls r.dta V hd va w (by rw [<- hr]; exact hva)
  unfold zbd
  rw [h0]
  simpa using h
 ·have hre := fun W (h : Below w.heap.size w W) => zjj r va W (hva.below h zn) hs
  rw [zbl h0] at hre
  have he : zbd r = false := by unfold zbd; simp [h0]
  rw [he]
  obtain ⟨A1, c1, A2, c2, rfl⟩ := hva.form
  obtain ⟨k, hk⟩ := zx r.check
  obtain ⟨n1, h1⟩ := zx r.next.length
  obtain ⟨n2, h2⟩ := zx r.fin.length
  obtain ⟨V1, h5⟩ := zx r.vars
  obtain ⟨E1, h6⟩ := zx r.empty
  rw [<- h1, <- h2, <- h5, <- h6, <- hk] at hre ⊢
  rw [<- hk] at h0
  have hk0 : ((k : Int) == 0) = false := by rw [beq_eq_false_iff_ne]; omega
  have HRE := zh hre
  clear hre hva hk h1 h2 h5 h6 hs he h0
  go_enter Tryz.func21, Tryz.ntmps21
  go_upto_region 1 with fail
  refine zab (fun W => Below w.heap.size w W /\ Row W w.heap.size 25 #[.int .i64 V1, .int .i64 E1, .slice A1 n1 c1, .slice A2 n2 c2]) ⟨by go_grown, Row.new _ _ _⟩ ?_
  rintro W ⟨hb, r1⟩
  have y0 := r1.cell
  have HB := zh hb
  clear hb r1
  go_upto_region 2 with (go_at_call 70; refine (HRE.out _ HB.out).mono ?_; intro e w6 h6; obtain ⟨A6, c6, A7, c7, rfl, hb6, ht6⟩ := h6.unfold; have HT := zh ht6; have HB6 := zh (HB.out.trans (hb6.mono HB.out.size)); clear h6 hb6 ht6)
  clear y0
  refine zab (fun X => Below w.heap.size w X) (by have := HB6.out; have := this.size; go_grown) ?_
  rintro X hb
  have HBX := zh hb
  clear hb
  go_wp2
  go_returns
  exact ⟨rfl, HBX.out⟩
set_option maxRecDepth 100000 in
set_option maxHeartbeats 4000000 in
theorem zh0 (r : Raw) (va : Value) (w : World) (hva : TD w va r) (hs : Small r) :
  Calls Tryz.prog 22 #[va] w fun e w' => e = .returned (.tuple #[.bool (zbd r), .int .i64 (r.check : Nat)]) /\ Below w.heap.size w w' := by
 have hre := fun W (h : Below w.heap.size w W) => zmd r va W (hva.below h zn) hs
 obtain ⟨k, hk⟩ := zx r.check
 rw [<- hk] at hre ⊢
 by_cases h0 : k = 0
 ·obtain ⟨V, hd, hr⟩ := Raw.check_ok (hk ▸ h0)
  have hV : r.vars = V := by rw [hr]; rfl
  have hres : resR Dta.renum r = r.dta.renum.raw V := zc9 (D := r.dta) (hk ▸ h0) hV
  rw [hres, h0] at hre
  have hes : zbd r = !((List.range r.dta.renum.n).any r.dta.renum.fin) := by unfold zbd; rw [<- hk, h0]; simp [zmt]
  rw [h0, hes]
  have hdn := hd.renum
  obtain ⟨D, hD⟩ := zx r.dta.renum
  rw [<- hD] at hre hdn ⊢
  have hpos := hdn.pos; have hn64 := hdn.n64
  obtain ⟨Z, hZ⟩ := zx (!((List.range D.n).any D.fin))
  rw [<- hZ]
  have HZ := zh hZ
  clear hZ
  obtain ⟨A1, c1, A2, c2, rfl⟩ := hva.form
  obtain ⟨n1, h1⟩ := zx r.next.length
  obtain ⟨n2, h2⟩ := zx r.fin.length
  obtain ⟨V1, h5⟩ := zx r.vars
  obtain ⟨E1, h6⟩ := zx r.empty
  rw [<- h1, <- h2, <- h5, <- h6] at hre ⊢
  have HRE := zh hre
  clear hre hva hk h1 h2 h5 h6 hs h0 hr hV hres hes hd hD hdn
  go_enter Tryz.func22, Tryz.ntmps22
  go_upto_region 1 with fail
  refine zab (fun W => Below w.heap.size w W /\ Row W w.heap.size 25 #[.int .i64 V1, .int .i64 E1, .slice A1 n1 c1, .slice A2 n2 c2]) ⟨by go_grown, Row.new _ _ _⟩ ?_
  rintro W ⟨hb, r1⟩
  have y0 := r1.cell
  have HB := zh hb
  clear hb r1
  go_upto_region 2 with (go_at_call 72; refine (HRE.out _ HB.out).mono ?_; intro e w6 h6; obtain ⟨A6, c6, A7, c7, rfl, hb6, ht6⟩ := h6.unfold; have HT := zh ht6; have HB6 := zh (HB.out.trans (hb6.mono HB.out.size)); clear h6 hb6 ht6)
  clear y0
  have hfin := HT.out.td
  obtain ⟨vn, vf, hvv, _, hnb⟩ := hfin
  simp only [Value.agg.injEq, Array.mk.injEq, List.cons.injEq, and_true, true_and] at hvv
  obtain ⟨-, rfl⟩ := hvv
  rw [(D.raw_len V).2] at hnb
  rw [(D.raw_len V).2, (D.raw_len V).1]
  have hq := (show NB w6 (.slice A7 D.n c7) ((List.range D.n).map D.fin) from hnb).at hpos
  obtain ⟨bk, ok, ck, e, hk1, hbk, hk2⟩ := hq
  simp only [Value.slice.injEq, true_and] at e
  obtain ⟨rfl, rfl⟩ := e
  have HK := zh hk2
  obtain ⟨i0, hi0⟩ := zx ((D.raw V).vars)
  obtain ⟨i1, hi1⟩ := zx ((D.raw V).empty)
  rw [<- hi0, <- hi1]
  refine zab (fun X => Below w.heap.size w X /\ Below w6.heap.size w6 X /\ Row X w6.heap.size 25 #[.int .i64 i0, .int .i64 i1, .slice A6 D.n c6, .slice (some ⟨bk, ok, none⟩) D.n c7])
   ⟨by have := HB6.out; have := this.size; go_grown, by go_grown, Row.new _ _ _⟩ ?_
  rintro X ⟨hb, hb6, r1⟩
  have y0 := r1.cell; have y1 := r1.lt
  have HBX := zh hb
  have HC := zh fun s (h : s < D.n) => (hb6.cell (p := ⟨bk, ok + s, none⟩) hbk).trans (HK.out s h)
  obtain ⟨g4, hg4⟩ := zx w6.heap.size
  rw [<- hg4] at y0 y1
  rw [<- hg4]
  obtain ⟨N, hN⟩ := zx D.n
  rw [<- hN] at HZ HC y0 hpos hn64 hk1 ⊢
  have q0 := y0 0; have q1 := y0 1; have q2 := y0 2; have q3 := y0 3
  simp only [zg] at q0 q1 q2 q3
  clear hb hb6 r1 hnb hk2 HK HT HB6 HB HRE y0 hi0 hi1 hg4 hN
  go_wp2
  go_loopg [6] N (fun gk q6 Y => ∃ s : Nat, s <= N /\ gk = N - s /\ q6 = .int .i64 s /\ Y = X /\ (List.range s).any D.fin = false)
  case atStart => exact ⟨0, Nat.zero_le _, rfl, rfl, rfl, rfl⟩
  case round =>
   obtain ⟨s, hs, rfl, rfl, rfl, ha⟩ := hrel
   by_cases hlt : s < N
   ·have hlti : (s : Int) < (N : Int) := by omega
    have hc := HC.out s hlt
    cases hb : D.fin s with
    | false =>
     rw [hb] at hc
     have HA := zh (show (List.range (s + 1)).any D.fin = false by rw [List.range_succ, List.any_append, ha]; simp [hb])
     clear ha hb
     go_wp2
     go_roundg (N - (s + 1))
     case rel => exact ⟨s + 1, by omega, rfl, by go_num, rfl, HA.out⟩
     case measure => omega
    | true =>
     rw [hb] at hc
     have HA := zh (show (List.range N).any D.fin = true from List.any_eq_true.2 ⟨s, List.mem_range.2 hlt, hb⟩)
     clear ha hb
     go_wp2
     go_returns
     exact ⟨by rw [HZ.out, HA.out]; rfl, HBX.out⟩
   ·obtain rfl : N = s := by omega
    have hlti : ¬ ((N : Nat) : Int) < (N : Int) := by omega
    have HA := zh ha
    clear ha
    go_wp2
    go_returns
    exact ⟨by rw [HZ.out, HA.out]; rfl, HBX.out⟩
 ·have hk0 : ((k : Int) != 0) = true := by rw [bne_iff_ne]; omega
  have he : zbd r = false := by unfold zbd; rw [<- hk]; simp [h0]
  rw [he]
  rw [zbl (hk ▸ h0)] at hre
  obtain ⟨A1, c1, A2, c2, rfl⟩ := hva.form
  obtain ⟨n1, h1⟩ := zx r.next.length
  obtain ⟨n2, h2⟩ := zx r.fin.length
  obtain ⟨V1, h5⟩ := zx r.vars
  obtain ⟨E1, h6⟩ := zx r.empty
  rw [<- h1, <- h2, <- h5, <- h6] at hre ⊢
  have HRE := zh hre
  clear hre hva hk h1 h2 h5 h6 hs he h0
  go_enter Tryz.func22, Tryz.ntmps22
  go_upto_region 1 with fail
  refine zab (fun W => Below w.heap.size w W /\ Row W w.heap.size 25 #[.int .i64 V1, .int .i64 E1, .slice A1 n1 c1, .slice A2 n2 c2]) ⟨by go_grown, Row.new _ _ _⟩ ?_
  rintro W ⟨hb, r1⟩
  have y0 := r1.cell
  have HB := zh hb
  clear hb r1
  go_upto_region 2 with (go_at_call 72; refine (HRE.out _ HB.out).mono ?_; intro e w6 h6; obtain ⟨A6, c6, A7, c7, rfl, hb6, ht6⟩ := h6.unfold; have HT := zh ht6; have HB6 := zh (HB.out.trans (hb6.mono HB.out.size)); clear h6 hb6 ht6)
  clear y0
  refine zab (fun X => Below w.heap.size w X) (by have := HB6.out; have := this.size; go_grown) ?_
  rintro X hb
  have HBX := zh hb
  clear hb
  go_wp2
  go_returns
  exact ⟨rfl, HBX.out⟩
set_option maxRecDepth 100000 in
set_option maxHeartbeats 4000000 in
theorem Not_any (r : Raw) (v : Value) (w : World) (hv : TD w v r) (hs : Small r) : Calls Tryz.prog 14 #[v] w (RetR w (resR (fun d => d.neg.mini) r) r.check) := by
 by_cases h0 : r.check = 0
 ·obtain ⟨V, hd, hr⟩ := Raw.check_ok h0
  have hV : r.vars = V := by rw [hr]; rfl
  have h := zoh r.dta V hd v w (by rw [<- hr]; exact hv)
  rw [zc9 (D := r.dta) h0 hV, h0]
  exact h
 ·have hck := fun W (h : Below w.heap.size w W) => zao r v W (hv.below h zn) hs
  obtain ⟨k, hk⟩ := zx r.check
  rw [zbl h0]
  rw [<- hk] at h0 hck ⊢
  have h0' : ((k : Int) != 0) = true := by rw [bne_iff_ne]; omega
  obtain ⟨A3, c3, A4, c4, rfl⟩ := hv.form
  obtain ⟨n, hn⟩ := zx r.next.length
  obtain ⟨m, hm⟩ := zx r.fin.length
  obtain ⟨i0, hV⟩ := zx r.vars
  obtain ⟨i1, hE⟩ := zx r.empty
  rw [<- hn, <- hm, <- hV, <- hE] at hck ⊢
  have HC := zh hck
  clear hck hv hk hn hm hV hE hs h0
  go_enter Tryz.func14, Tryz.ntmps14
  go_wp2_with (go_at_call 50; refine (HC.out _ (by go_grown)).mono ?_; rintro e w2 ⟨rfl, hb2⟩; have X := zaw hb2; have HB2 := zh X.1; have R1 := zh X.2.1; have RR := zh X.2.2; have y0 := X.2.1.cell; have y2 := X.2.2.cell; have y3 := X.2.2.free; clear hb2 X)
  refine zae (fun W => Row W (w.heap.size + 1) 25 #[.int .i64 0, .int .i64 0, .slice none 0 0, .slice none 0 0] /\ TDO W w2.heap.size zeroV zeroR /\ Below w.heap.size w W) (zam RR.out (zad _ _) HB2.out (by omega)) ?_
  clear y0 y2 y3
  rintro W5 ⟨r0, hT, hb⟩
  have b0 := r0.cell
  have q0 := b0 0; have q1 := b0 1; have q2 := b0 2; have q3 := b0 3
  simp only [zg] at q0 q1 q2 q3
  have HB := zh hb
  clear b0 r0 hT hb
  exact bodyPost_ret (v := .tuple #[zeroV, .int .i64 (k : Int)]) (by simp [results, Tryz.results14, go_sem, q0, q1, q2, q3, zeroV]) rfl ⟨_, rfl, HB.out, zad _ _⟩
set_option maxRecDepth 100000 in
set_option maxHeartbeats 4000000 in
theorem not20 (r : Raw) (v : Value) (w : World) (hv : TD w v r) (hs : Small r) : Calls Tryz.prog 15 #[v] w (RetR w (resR (fun d => d.neg.mini) r) r.check) := by
 by_cases h0 : r.check = 0
 ·obtain ⟨V, hd, hr⟩ := Raw.check_ok h0
  have hV : r.vars = V := by rw [hr]; rfl
  have h := zqz r.dta V hd v w (by rw [<- hr]; exact hv)
  rw [zc9 (D := r.dta) h0 hV, h0]
  exact h
 ·have hck := fun W (h : Below w.heap.size w W) => zbe r v W (hv.below h zn) hs
  obtain ⟨k, hk⟩ := zx r.check
  rw [zbl h0]
  rw [<- hk] at h0 hck ⊢
  have h0' : ((k : Int) != 0) = true := by rw [bne_iff_ne]; omega
  obtain ⟨A3, c3, A4, c4, rfl⟩ := hv.form
  obtain ⟨n, hn⟩ := zx r.next.length
  obtain ⟨m, hm⟩ := zx r.fin.length
  obtain ⟨i0, hV⟩ := zx r.vars
  obtain ⟨i1, hE⟩ := zx r.empty
  rw [<- hn, <- hm, <- hV, <- hE] at hck ⊢
  have HC := zh hck
  clear hck hv hk hn hm hV hE hs h0
  go_enter Tryz.func15, Tryz.ntmps15
  go_wp2_with (go_at_call 52; refine (HC.out _ (by go_grown)).mono ?_; rintro e w2 ⟨rfl, hb2⟩; have X := zaw hb2; have HB2 := zh X.1; have R1 := zh X.2.1; have RR := zh X.2.2; have y0 := X.2.1.cell; have y2 := X.2.2.cell; have y3 := X.2.2.free; clear hb2 X)
  refine zae (fun W => Row W (w.heap.size + 1) 25 #[.int .i64 0, .int .i64 0, .slice none 0 0, .slice none 0 0] /\ TDO W w2.heap.size zeroV zeroR /\ Below w.heap.size w W) (zam RR.out (zad _ _) HB2.out (by omega)) ?_
  clear y0 y2 y3
  rintro W5 ⟨r0, hT, hb⟩
  have b0 := r0.cell
  have q0 := b0 0; have q1 := b0 1; have q2 := b0 2; have q3 := b0 3
  simp only [zg] at q0 q1 q2 q3
  have HB := zh hb
  clear b0 r0 hT hb
  exact bodyPost_ret (v := .tuple #[zeroV, .int .i64 (k : Int)]) (by simp [results, Tryz.results15, go_sem, q0, q1, q2, q3, zeroV]) rfl ⟨_, rfl, HB.out, zad _ _⟩
theorem k_abs {K : Act -> World -> Prop} {a : Act} {w : World} (F : World -> Prop) (hF : F w) (hk : ∀ W, F W -> K a W) : K a w := hk w hF
def adE {α : Type} [DecidableEq α] (o : List α) (s t : α) : Nat -> List α
 | 0 => o
 | 1 => addS o s
 | _ => addS (addS o s) t
theorem O2.formN {W : World} {B m : Nat} {v : Value} {ll : List (List Int)} (h : O2 W B v ll) (hm : ll.length = m) : ∃ A c, v = .slice A m c := by
 obtain ⟨vs, h1, h2, _⟩ := h
 exact VO.formN h1 (h2.trans hm)
theorem O2.lit1 (w : World) (l : List Int) (hl : l.length <= 1000) : O2 ((w.alloc (.cells (iL l).toArray 3)).alloc (.cells #[.slice (some ⟨w.heap.size, 0, none⟩) l.length l.length] 53)) w.heap.size (.slice (some ⟨w.heap.size + 1, 0, none⟩) 1 1) [l] := by
 have h1 := VO.lit (E := 3) (w := w) (n := l.length) (iL l) (zah l) (by omega) (zf5 l)
 have h2 := VO.lit (E := 53) (w := w.alloc (.cells (iL l).toArray 3)) (n := 1) [.slice (some ⟨w.heap.size, 0, none⟩) l.length l.length] rfl (by omega) (by intro u hu; simp at hu; subst hu; rfl)
 simp only [World.size_alloc] at h2
 refine ⟨_, h2.mono (by omega), rfl, fun i u hu => ?_⟩
 have : i = 0 := by have := (List.getElem?_eq_some_iff.1 hu).1; simp at this; omega
 subst this
 simp at hu
 subst hu
 exact ⟨l, rfl, VO.allocd h1 _⟩
structure BothI (W : World) (B : Nat) (v u1 u2 : Value) (l1 l2 : List Int) : Prop where
 vo : VO 53 W B v [u1, u2]
 o1 : O1 W B u1 l1
 o2 : O1 W B u2 l2
theorem BothI.to {W X : World} {B : Nat} {v u1 u2 : Value} {l1 l2 : List Int} (h : BothI W B v u1 u2 l1 l2) (hb : Below W.heap.size W X) : BothI X B v u1 u2 l1 l2 :=
 ⟨h.vo.below hb zn, VO.below h.o1 hb zn, VO.below h.o2 hb zn⟩
theorem BothI.far {W X : World} {B B' : Nat} {v u1 u2 p : Value} {l1 l2 : List Int} {xs : List Value} (h : BothI W B v u1 u2 l1 l2) (hne : Apart v p) (hp : VO 53 W B' p xs) (hg : W.grownBy X p.ownBlock) : BothI X B v u1 u2 l1 l2 :=
 ⟨h.vo.farB hne hg, h.o1.far (by decide) hp hg, h.o2.far (by decide) hp hg⟩
theorem O2.at {W : World} {B m c : Nat} {A : Option Addr} {ll : List (List Int)} (h : O2 W B (.slice A m c) ll) {i : Nat} {l : List Int} (hl : ll[i]? = some l) :
  ∃ g Ai ci, A = some ⟨g, 0, none⟩ /\ g < W.heap.size /\ W.cell? ⟨g, i, none⟩ = some (.slice Ai l.length ci) /\ O1 W B (.slice Ai l.length ci) l := by
 obtain ⟨vs, h1, h2, h3⟩ := h
 have hi : i < vs.length := by rw [h2]; exact (List.getElem?_eq_some_iff.1 hl).1
 obtain ⟨g, cap, cs, he, _, hr, _, _, hcell⟩ := h1.row (by omega)
 simp only [Value.slice.injEq] at he
 obtain ⟨l', h4, h5⟩ := h3 i _ (List.getElem?_eq_getElem hi)
 rw [hl] at h4; cases h4
 obtain ⟨Ai, ci, e⟩ := VO.formN (n := l.length) h5 (zah l)
 refine ⟨g, Ai, ci, he.1, hr.lt, by rw [hcell i _ (List.getElem?_eq_getElem hi), e], by rw [<- e]; exact h5⟩
theorem zq0 {U n : Nat} (h : U < 2 ^ n) (hn : n <= 64) : mem64 U = (List.range n).filter U.testBit := by
 unfold mem64
 have e : 64 = n + (64 - n) := by omega
 rw [e, List.range_add, List.filter_append]
 have : ((List.range (64 - n)).map fun x => n + x).filter U.testBit = [] := by
  rw [List.filter_eq_nil_iff]
  intro a ha
  obtain ⟨b, _, rfl⟩ := List.mem_map.1 ha
  have := Nat.testBit_lt_two_pow (Nat.lt_of_lt_of_le h (Nat.pow_le_pow_right (show 0 < 2 by omega) (show n <= n + b by omega)))
  rw [this]; simp
 rw [this, List.append_nil]
theorem lo_add (x v : Nat) (hx : x < 8) (hv : v < 3) : loV v x + 2 ^ v = hiV v x := by
 have h : ∀ (x : Fin 8) (v : Fin 3), loV (v : Nat) (x : Nat) + 2 ^ (v : Nat) = hiV (v : Nat) (x : Nat) := by decide +kernel
 exact h ⟨x, hx⟩ ⟨v, hv⟩
def hitB (d : Dta) (lo hi p s q : Nat) : Bool := d.nx p q lo == s || d.nx p q hi == s
def fndB (d : Dta) (lo hi : Nat) (L1 L2 : List Nat) (s : Nat) : Bool := L1.any fun p => L2.any (hitB d lo hi p s)
theorem fnd_bit (d : Dta) (v l r x s : Nat) : fndB d (loV v x) (hiV v x) (mem64 l) (mem64 r) s = (setF d v l r x).testBit s := by
 rw [Bool.eq_iff_iff, zhe]
 unfold fndB
 simp only [List.any_eq_true, zax]
 constructor
 ·rintro ⟨p, hp, q, hq, h⟩
  unfold hitB at h
  simp only [Bool.or_eq_true, beq_iff_eq] at h
  exact ⟨p, q, hp, hq, h.imp Eq.symm Eq.symm⟩
 ·rintro ⟨p, q, hp, hq, h⟩
  refine ⟨p, hp, q, hq, ?_⟩
  unfold hitB
  simp only [Bool.or_eq_true, beq_iff_eq]
  exact h.imp Eq.symm Eq.symm
theorem zh6 {f : Nat -> Bool} {l : List Nat} {i a : Nat} (h : l[i]? = some a) : (l.take (i + 1)).any f = ((l.take i).any f || f a) := by
 rw [zd4 h, List.any_append]; simp
theorem zf8 (f : Nat -> Bool) (s : Nat) : (List.range (s + 1)).filter f = (List.range s).filter f ++ (if f s then [s] else []) := by
 rw [List.range_succ, List.filter_append]
 congr 1
 cases h : f s <;> simp [h]
theorem N1.states {w : World} {v : Value} {l : List Nat} (h : N1 w v (oI l)) : ∃ A c, v = .slice A l.length c /\ l.length <= c /\ c <= 9223372036854775807 /\ ∀ (i a : Nat), l[i]? = some a -> ∃ b o, A = some ⟨b, o, none⟩ /\ b < w.heap.size /\ w.cell? ⟨b, o + i, none⟩ = some (.int .i64 (a : Int)) := by
 obtain ⟨A, c, e, h1, h2, h3⟩ := h.open
 rw [zai] at e h1
 exact ⟨A, c, e, h1, h2, fun i a ha => h3 i _ (oI_at ha)⟩
set_option maxRecDepth 100000 in
set_option maxHeartbeats 16000000 in
theorem after20 (d : Dta) (V v : Nat) (hd : d.Fit V) (hv : v < V) (S T x : Nat) (hS : S < 2 ^ d.n) (hT : T < 2 ^ d.n) (hx : x < d.L) (va vl vr : Value) (w : World) (hva : TD w va (d.raw V)) (hvl : N1 w vl (oI (mem64 S))) (hvr : N1 w vr (oI (mem64 T))) :
  Calls Tryz.prog 61 #[va, vl, vr, .int .i64 (x : Int), .int .i64 (v : Int)] w fun e w' => ∃ A c, e = .returned (.slice A (mem64 (setF d v S T x)).length c) /\ Below w.heap.size w w' /\ O1 w' w.heap.size (.slice A (mem64 (setF d v S T x)).length c) (oI (mem64 (setF d v S T x))) := by
 obtain ⟨vn, vf, rfl, hnn, hff⟩ := hva
 rw [show (d.raw V).vars = (V : Int) from rfl, show (d.raw V).empty = (d.e : Int) from rfl]
 obtain ⟨b3, o3, c3, hN⟩ := (show N3 w vn (nx3 d.n d.L d.nx) from hnn).nx hd.pos hd.L8.1
 obtain rfl := hN.form
 obtain ⟨Af, cf, rfl, _⟩ := (show NB w vf ((List.range d.n).map d.fin) from hff).open
 obtain ⟨mf, hmf⟩ := zx (((List.range d.n).map d.fin).length)
 rw [<- hmf]
 obtain ⟨Al, cl, rfl, hl1, hl2, hlc⟩ := hvl.states
 obtain ⟨Ar, cr, rfl, hr1, hr2, hrc⟩ := hvr.states
 have hn64 := hd.n64
 have hv3 : v < 3 := Nat.lt_of_lt_of_le hv hd.v3
 have hx8 : x < 8 := Nat.lt_of_lt_of_le hx hd.L8.2
 have hlo : loV v x < d.L := by rw [hd.L] at hx ⊢; exact zot hv hx
 have hhi8 : hiV v x < 8 := by have := hd.L8.2; have h : hiV v x < d.L := (by rw [hd.L] at hx ⊢; exact zll hv hx); omega
 have hhi : hiV v x < d.L := by rw [hd.L] at hx ⊢; exact zll hv hx
 have elo := zos x v hx8 hv3
 have eadd := lo_add x v hx8 hv3
 have hsh := za5 v (by omega)
 have hU := zeq hd.ok hd.L hv S T x hS hT hx
 have HU := zh (zq0 hU hn64)
 have HB := zh fun s => fnd_bit d v S T x s
 have hm1 : Hid (∀ p ∈ mem64 S, p < d.n) := fun p hp => zdu hS ((zax _ _).1 hp).2
 have hm2 : Hid (∀ p ∈ mem64 T, p < d.n) := fun p hp => zdu hT ((zax _ _).1 hp).2
 have h2 : 2 ^ v <= 4 := Nat.pow_le_pow_right (show 0 < 2 by omega) (show v <= 2 by omega)
 obtain ⟨U, hUU⟩ := zx (setF d v S T x)
 rw [<- hUU] at HU HB
 rw [<- hUU]
 have HN := zh hN.at3; have hcap := hN.cap
 obtain ⟨lo, hlo'⟩ := zx (loV v x)
 obtain ⟨hi, hhi'⟩ := zx (hiV v x)
 rw [<- hlo'] at elo hlo eadd HB
 rw [<- hhi'] at hhi hhi8 eadd HB
 obtain ⟨P, hP⟩ := zx (2 ^ v)
 rw [<- hP] at elo eadd hsh
 have eaddi : (lo : Int) + (P : Int) = (hi : Int) := by omega
 clear hP h2
 obtain ⟨L1, hL1⟩ := zx (mem64 S)
 obtain ⟨L2, hL2⟩ := zx (mem64 T)
 rw [<- hL1] at hlc hl1 hm1 HB
 rw [<- hL2] at hrc hr1 hm2 HB
 rw [<- hL1, <- hL2]
 obtain ⟨E, hE⟩ := zx d.e
 rw [<- hE]
 have HLC := zh hlc; have HRC := zh hrc
 clear hnn hff hmf hvl hvr hlc hrc hd hS hT hx hU hUU hN hlo' hhi' hL1 hL2 hE
 obtain ⟨n, hnn⟩ := zx d.n
 obtain ⟨L, hLL⟩ := zx d.L
 obtain ⟨k1, hk1⟩ := zx L1.length
 obtain ⟨k2, hk2⟩ := zx L2.length
 rw [<- hnn] at HN hcap hm1 hm2 hn64 HU
 rw [<- hLL] at HN hlo hhi
 rw [<- hk1] at hl1
 rw [<- hk2] at hr1
 rw [<- hnn, <- hk1, <- hk2]
 have HK1 := zh hk1; have HK2 := zh hk2
 clear hnn hLL hk1 hk2 hv eadd
 obtain ⟨hcap1, hcap2⟩ := hcap
 go_enter Tryz.func61, Tryz.ntmps61
 go_upto_region 1 with fail
 refine zab (fun X => Below w.heap.size w X /\ Row X w.heap.size 25 #[.int .i64 (V : Int), .int .i64 (E : Int), .slice (some ⟨b3, o3, none⟩) n c3, .slice Af mf cf]) ⟨by go_grown, Row.new _ _ _⟩ ?_
 rintro W0 ⟨hb, hr⟩
 have HB0 := zh hb; have HR0 := zh hr
 clear hb hr
 go_wp2
 go_loopg [11, 13] n (fun gk q11 q13 W => ∃ s : Nat, s <= n /\ gk = n - s /\ q13 = .int .i64 s /\ Below w.heap.size w W /\ Row W w.heap.size 25 #[.int .i64 (V : Int), .int .i64 (E : Int), .slice (some ⟨b3, o3, none⟩) n c3, .slice Af mf cf] /\ O1 W w.heap.size q11 (oI ((List.range s).filter U.testBit)))
 case atStart => exact ⟨0, Nat.zero_le _, rfl, rfl, HB0.out, HR0.out, VO.nil _ _ _⟩
 case round =>
  clear HB0 HR0
  obtain ⟨s, hs, rfl, rfl, hb, hr, ho⟩ := hrel
  obtain ⟨wl, hwl⟩ := zx wr
  subst hwl
  obtain ⟨m, hm⟩ := zx (((List.range s).filter U.testBit).length)
  obtain ⟨A11, c11, rfl⟩ := VO.formN (n := m) ho (by rw [zah, zai, hm])
  have hms : m <= s := by rw [hm]; have := List.length_filter_le U.testBit (List.range s); simpa using this
  have HB0 := zh hb; have HR0 := zh hr; have HO := zh ho; have HM := zh hm
  have y0 := hr.cell
  clear hb hr ho hm
  by_cases hlt : s < n
  ·have hlti : (s : Int) < (n : Int) := by omega
   go_wp2
   clear y0
   go_loopg [14, 15] k1 (fun gk q14 q15 W => ∃ i : Nat, i <= k1 /\ gk = k1 - i /\ q15 = .int .i64 i /\ q14 = .bool (fndB d lo hi (L1.take i) L2 s) /\ Below wl.heap.size wl W)
   case atStart => exact ⟨0, Nat.zero_le _, rfl, rfl, rfl, Below.refl _ _⟩
   case round =>
    obtain ⟨i, hi1, rfl, rfl, rfl, hb⟩ := hrel
    obtain ⟨f1, hf1⟩ := zx (fndB d lo hi (L1.take i) L2 s)
    rw [<- hf1]
    have HF1 := zh hf1; have HBX := zh hb
    clear hf1 hb
    by_cases hit : i < k1
    ·have hiti : (i : Int) < (k1 : Int) := by omega
     obtain ⟨p, hp⟩ : ∃ p, L1[i]? = some p := ⟨_, List.getElem?_eq_getElem (by rw [<- HK1.out]; exact hit)⟩
     obtain ⟨bp, op, rfl, hbp, hcp⟩ := HLC.out i p hp
     have hpn := hm1.out p (List.mem_of_getElem? hp)
     have HP := zh hp; have HCP := zh hcp
     clear hp hcp
     go_wp2
     go_loopg [14, 16] k2 (fun gk q14 q16 W => ∃ k : Nat, k <= k2 /\ gk = k2 - k /\ q16 = .int .i64 k /\ q14 = .bool (f1 || (L2.take k).any (hitB d lo hi p s)) /\ Below wl.heap.size wl W)
     case atStart => exact ⟨0, Nat.zero_le _, rfl, rfl, by simp, HBX.out⟩
     case round =>
      clear HBX
      obtain ⟨k, hk3, rfl, rfl, rfl, hb⟩ := hrel
      obtain ⟨f2, hf2⟩ := zx ((f1 || (L2.take k).any (hitB d lo hi p s)))
      rw [<- hf2]
      have HF2 := zh hf2; have HBX := zh hb
      clear hf2 hb
      by_cases hkt : k < k2
      ·have hkti : (k : Int) < (k2 : Int) := by omega
       obtain ⟨q, hq⟩ : ∃ p, L2[k]? = some p := ⟨_, List.getElem?_eq_getElem (by rw [<- HK2.out]; exact hkt)⟩
       obtain ⟨bq, oq, rfl, hbq, hcq⟩ := HRC.out k q hq
       have hqn := hm2.out q (List.mem_of_getElem? hq)
       have HQ := zh hq
       have hw := HB0.out.trans (HBX.out.mono HB0.out.size)
       obtain ⟨b2, o2, c2, b1, o1, c1, e1, e2, e3, e4, e5, e6, e7, e8⟩ := HN.out p q lo hpn hqn hlo
       obtain ⟨b2', o2', c2', b1', o1', c1', g1, g2, g3, g4, g5, g6, g7, g8⟩ := HN.out p q hi hpn hqn hhi
       rw [e2] at g2
       simp only [Option.some.injEq, Value.slice.injEq, Addr.mk.injEq, and_true, true_and] at g2
       obtain ⟨⟨rfl, rfl⟩, rfl⟩ := g2
       rw [e5] at g5
       simp only [Option.some.injEq, Value.slice.injEq, Addr.mk.injEq, and_true, true_and] at g5
       obtain ⟨⟨rfl, rfl⟩, rfl⟩ := g5
       rw [<- hw.cell (p := ⟨b3, _, none⟩) e1] at e2
       rw [<- hw.cell (p := ⟨b2, _, none⟩) e4] at e5
       have hcp := (hw.cell (p := ⟨bp, _, none⟩) hbp).trans HCP.out
       rw [<- hw.cell (p := ⟨bq, _, none⟩) hbq] at hcq
       obtain ⟨s1, hs1⟩ := zx (d.nx p q lo)
       obtain ⟨s2, hs2⟩ := zx (d.nx p q hi)
       rw [<- hs1] at e8
       rw [<- hs2] at g8
       have e8 := zh ((hw.cell (p := ⟨b1, _, none⟩) e7).trans e8)
       have g8 := zh ((hw.cell (p := ⟨b1, _, none⟩) e7).trans g8)
       have HH : Hid ((f1 || (L2.take (k + 1)).any (hitB d lo hi p s)) = (f2 || s1 == s || s2 == s)) := by
        unfold Hid
        rw [zh6 HQ.out, <- Bool.or_assoc, <- HF2.out]
        unfold hitB
        rw [<- hs1, <- hs2, Bool.or_assoc]
       have hpi : (p : Int) < (n : Int) := by omega
       have hqi : (q : Int) < (n : Int) := by omega
       have y0 := (HR0.out.below HBX.out HR0.out.lt).cell
       clear hs1 hs2 hw hq
       go_upto_region 13 with fail
       first | go_region | fail
       refine zbc (fun X => Below wl.heap.size wl X /\ X.cell? ⟨b1, o1 + lo, none⟩ = some (.int .i64 (s1 : Int)) /\ X.cell? ⟨b1, o1 + hi, none⟩ = some (.int .i64 (s2 : Int))) ⟨by have := HBX.out; go_grown, e8.out, g8.out⟩ ?_
       clear e2 e5 hcp hcq y0 e8 g8 HBX
       rintro X ⟨hbx, x1, x2⟩
       have HBX := zh hbx
       clear hbx
       have hloi : (lo : Int) < (L : Int) := by omega
       have hhii : (hi : Int) < (L : Int) := by omega
       have whi : wrap64 (hi : Int) = (hi : Int) := by unfold wrap64; omega
       cases hf : f2 with
       | true =>
        rw [hf] at HH
        go_upto_region 14 with fail
        repeat (first | go_skip | go_guarded | go_step)
        go_roundg (k2 - (k + 1))
        case rel => exact ⟨k + 1, by omega, rfl, by go_num, by rw [HH.out]; simp, HBX.out⟩
        case measure => omega
       | false =>
        rw [hf] at HH
        by_cases h1 : s1 = s
        ·have h1i : ((s1 : Int) == (s : Int)) = true := by rw [beq_iff_eq]; omega
         have HH1 : Hid ((f1 || (L2.take (k + 1)).any (hitB d lo hi p s)) = true) := by unfold Hid; rw [HH.out, h1]; simp
         clear h1
         go_wp2
         go_roundg (k2 - (k + 1))
         case rel => exact ⟨k + 1, by omega, rfl, by go_num, by rw [HH1.out], HBX.out⟩
         case measure => omega
        ·have h1i : ((s1 : Int) == (s : Int)) = false := by rw [beq_eq_false_iff_ne]; omega
         have h1n : (s1 == s) = false := by rw [beq_eq_false_iff_ne]; exact h1
         obtain ⟨b, hb⟩ := zx ((s2 == s))
         have h2i : ((s2 : Int) == (s : Int)) = b := by rw [hb, Bool.eq_iff_iff, beq_iff_eq, beq_iff_eq]; omega
         have HH1 : Hid ((f1 || (L2.take (k + 1)).any (hitB d lo hi p s)) = b) := by unfold Hid; rw [HH.out, h1n, <- hb]; simp
         clear h1 h1n hb
         cases b with
         | true =>
          go_wp2
          go_roundg (k2 - (k + 1))
          case rel => exact ⟨k + 1, by omega, rfl, by go_num, by rw [HH1.out], HBX.out⟩
          case measure => omega
         | false =>
          go_wp2
          go_roundg (k2 - (k + 1))
          case rel => exact ⟨k + 1, by omega, rfl, by go_num, by rw [HH1.out], HBX.out⟩
          case measure => omega
      ·obtain rfl : k2 = k := by omega
       have hkti : ¬ (k2 : Int) < (k2 : Int) := by omega
       have HE : Hid (fndB d lo hi (L1.take (i + 1)) L2 s = f2) := by
        unfold Hid fndB
        rw [zh6 HP.out, HF2.out, HF1.out, HK2.out, List.take_length]
        rfl
       go_wp2
       go_roundg (k1 - (i + 1))
       case rel => exact ⟨i + 1, by omega, rfl, by go_num, by rw [HE.out], HBX.out⟩
       case measure => omega
    ·obtain rfl : k1 = i := by omega
     have hiti : ¬ (k1 : Int) < (k1 : Int) := by omega
     have HE : Hid (f1 = U.testBit s) := by
      unfold Hid
      rw [HF1.out, HK1.out, List.take_length]
      exact HB.out s
     cases hf : f1 with
     | false =>
      rw [hf] at HE
      have HL : Hid ((List.range (s + 1)).filter U.testBit = (List.range s).filter U.testBit) := by unfold Hid; rw [zf8, <- HE.out]; simp
      go_wp2
      go_roundg (n - (s + 1))
      case rel => exact ⟨s + 1, by omega, rfl, by go_num, HB0.out.trans (HBX.out.mono HB0.out.size), HR0.out.below HBX.out HR0.out.lt, by rw [HL.out]; exact O1.below HO.out HBX.out zn⟩
      case measure => omega
     | true =>
      rw [hf] at HE
      have HL : Hid ((List.range (s + 1)).filter U.testBit = (List.range s).filter U.testBit ++ [s]) := by unfold Hid; rw [zf8, <- HE.out]; simp
      have HO2 : Hid (VO 3 wr w.heap.size (.slice A11 m c11) (iL (oI ((List.range s).filter U.testBit)))) := O1.below HO.out HBX.out zn
      have HB2 := zh (HB0.out.trans (HBX.out.mono HB0.out.size))
      have HR2 := zh (HR0.out.below HBX.out HR0.out.lt)
      go_wp2_with (at_builtin; refine zaa eI rfl (.tmp 76) (.tmp 78) rfl w.heap.size _ _ rfl (VO.allocd HO2.out _) _ [.int .i64 (s : Int)] rfl (VS.one (Row.new _ _ _)) (by intro u hu; simp at hu; subst hu; rfl) (by rw [zah, zai, <- HM.out]; simp; omega) (by simp only [World.size_alloc]; have := HB2.out.size; omega) ?_; intro v4 w4 ho4 hg4 _; obtain ⟨A4, c4, rfl⟩ := VO.formN (n := m + 1) ho4 (by rw [List.length_append, zah, zai, <- HM.out]; rfl); have HO4 := zh ho4; have HG4 := zh hg4; clear ho4 hg4)
      have hB4 : Below w.heap.size w w4 := zaf (w := w) (HB2.out.alloc (by have := HB2.out.size; omega) _) (VO.allocd HO2.out _) HG4.out (by simp only [World.size_alloc]; have := HB2.out.size; omega)
      have hR4 := (HR2.out.alloc (.cells #[.int .i64 (s : Int)] 3)).far_own (by decide) (VO.allocd HO2.out _).2 HG4.out
      have HB4 := zh hB4; have HR4 := zh hR4
      clear hB4 hR4
      go_roundg (n - (s + 1))
      case rel => exact ⟨s + 1, by omega, rfl, by go_num, HB4.out, HR4.out, by have := HO4.out; rw [<- zb4, <- zdc] at this; rw [HL.out]; exact this⟩
      case measure => omega
  ·obtain rfl : n = s := by omega
   have hlti : ¬ (n : Int) < (n : Int) := by omega
   have HE := zh (show mem64 U = (List.range n).filter U.testBit from HU.out)
   go_wp2
   go_returns
   rw [HE.out, <- HM.out]
   exact ⟨A11, c11, rfl, HB0.out, HO.out⟩
theorem zoq {S T n : Nat} (hn : n <= 64) (hS : S < 2 ^ n) (hT : T < 2 ^ n) (h : mem64 S = mem64 T) : S = T := by
 apply Nat.eq_of_testBit_eq
 intro i
 by_cases hi : i < 64
 ·rw [Bool.eq_iff_iff]
  have h1 := zax S i
  have h2 := zax T i
  rw [h] at h1
  exact ⟨fun e => (h2.1 (h1.2 ⟨hi, e⟩)).2, fun e => (h1.1 (h2.2 ⟨hi, e⟩)).2⟩
 ·have hp : 2 ^ n <= 2 ^ i := Nat.pow_le_pow_right (by omega) (by omega)
  rw [Nat.testBit_lt_two_pow (Nat.lt_of_lt_of_le hS hp), Nat.testBit_lt_two_pow (Nat.lt_of_lt_of_le hT hp)]
def sE (S : Nat) : List Int := oI (mem64 S)
theorem sE_inj {n : Nat} (hn : n <= 64) : ∀ a b, a < 2 ^ n -> b < 2 ^ n -> sE a = sE b -> a = b := fun a b ha hb h => by
 refine zoq hn ha hb ?_
 unfold sE oI at h
 exact (List.map_inj_right (fun (x y : Nat) (e : (x : Int) = (y : Int)) => by omega)).1 h
theorem zky (S : Nat) : (sE S).length = (mem64 S).length := by simp [sE, oI]
theorem zeb (S : Nat) : (mem64 S).length <= 64 := by
 have := List.length_filter_le S.testBit (List.range 64)
 simpa [mem64] using this
theorem sE_one {e : Nat} (h : e < 64) : sE (2 ^ e) = [(e : Int)] := by
 have : mem64 (2 ^ e) = [e] := by
  unfold mem64
  have hf : (2 ^ e).testBit = fun s => decide (s = e) := by
   funext s
   rw [Bool.eq_iff_iff, zhb]; simp
  rw [hf]
  have h1 : 64 = e + (1 + (63 - e)) := by omega
  rw [h1, List.range_add, List.filter_append, List.range_add, List.map_append, List.filter_append]
  have a1 : (List.range e).filter (fun s => decide (s = e)) = [] := by
   rw [List.filter_eq_nil_iff]
   intro a ha
   have := List.mem_range.1 ha
   simp; omega
  have a3 : ((List.map (fun x => 1 + x) (List.range (63 - e))).map fun x => e + x).filter (fun s => decide (s = e)) = [] := by
   rw [List.filter_eq_nil_iff]
   intro a ha
   obtain ⟨b, hb, rfl⟩ := List.mem_map.1 ha
   obtain ⟨c, _, rfl⟩ := List.mem_map.1 hb
   simp
  rw [a1, a3]
  simp
 unfold sE
 rw [this]; rfl
theorem Raw.check_dta {r : Raw} (h : r.check = 0) : ∃ V : Nat, r.vars = (V : Int) /\ r.dta.Fit V /\ r = r.dta.raw V := by
 obtain ⟨V, hd, hr⟩ := Raw.check_ok h
 exact ⟨V, by rw [hr]; rfl, hd, hr⟩
set_option maxRecDepth 100000 in
set_option maxHeartbeats 4000000 in
theorem zm5 (r : Raw) (v M : Int) (x : Value) (w : World) (hv : TD w x r) (hs : Small r) (h0 : r.check ≠ 0) : Calls Tryz.prog 16 #[x, .int .i64 v, .int .i64 M] w (RetR w zeroR r.check) := by
 have hck := fun W (h : Below w.heap.size w W) => zao r x W (hv.below h zn) hs
 obtain ⟨k, hk⟩ := zx r.check
 rw [<- hk] at h0 hck ⊢
 have h0' : ((k : Int) != 0) = true := by rw [bne_iff_ne]; omega
 obtain ⟨A3, c3, A4, c4, rfl⟩ := hv.form
 obtain ⟨n, hn⟩ := zx r.next.length
 obtain ⟨m, hm⟩ := zx r.fin.length
 obtain ⟨i0, hV⟩ := zx r.vars
 obtain ⟨i1, hE⟩ := zx r.empty
 rw [<- hn, <- hm, <- hV, <- hE] at hck ⊢
 have HC := zh hck
 clear hck hv hk hn hm hV hE hs h0
 go_enter Tryz.func16, Tryz.ntmps16
 go_upto_region 1 with fail
 refine zab (fun W => Below w.heap.size w W /\ Row W w.heap.size 25 #[.int .i64 i0, .int .i64 i1, .slice A3 n c3, .slice A4 m c4] /\ Row W (w.heap.size + 1) 3 #[.int .i64 v] /\ Row W (w.heap.size + 1 + 1) 25 #[.int .i64 0, .int .i64 0, .slice none 0 0, .slice none 0 0])
  ⟨by go_grown, ((Row.new _ _ _).alloc _).alloc _, (Row.lit (by simp)).alloc _, Row.lit (by simp)⟩ ?_
 rintro W ⟨hb, r1, r2, r3⟩
 have y0 := r1.cell
 have HB := zh hb; have R1 := zh r1; have R2 := zh r2; have R3 := zh r3
 clear hb r1 r2 r3
 go_upto_region 2 with (go_at_call 50; refine (HC.out _ HB.out).mono ?_; rintro e w2 ⟨rfl, hb2⟩; have HB2 := zh hb2; clear hb2)
 clear y0
 have y0 := (R1.out.below HB2.out R1.out.lt).cell; have y1 := (R2.out.below HB2.out R2.out.lt).cell
 have z0 := (R3.out.below HB2.out R3.out.lt).cell; have z1 := (R3.out.below HB2.out R3.out.lt).free
 have RR := zh (R3.out.below HB2.out R3.out.lt)
 have HBB := zh (HB.out.trans (HB2.out.mono HB.out.size))
 clear HB HB2 R1 R2 R3 HC
 go_wp2
 all_goals
  refine zae (fun X => Row X (w.heap.size + 1 + 1) 25 #[.int .i64 0, .int .i64 0, .slice none 0 0, .slice none 0 0] /\ TDO X w2.heap.size zeroV zeroR /\ Below w.heap.size w X) (zam RR.out (zad _ _) HBB.out (by omega)) ?_
  clear y0 y1 z0 z1
  rintro W5 ⟨r0, hT, hb⟩
  have b0 := r0.cell
  have q0 := b0 0; have q1 := b0 1; have q2 := b0 2; have q3 := b0 3
  simp only [zg] at q0 q1 q2 q3
  have HB := zh hb
  clear b0 r0 hT hb
  exact bodyPost_ret (v := .tuple #[zeroV, .int .i64 (k : Int)]) (by simp [results, Tryz.results16, go_sem, q0, q1, q2, q3, zeroV]) rfl ⟨_, rfl, HB.out, zad _ _⟩
set_option maxRecDepth 100000 in
set_option maxHeartbeats 4000000 in
theorem zm2 (r : Raw) (v M : Int) (x : Value) (w : World) (hv : TD w x r) (hs : Small r) (h0 : r.check = 0) (b1 : v < 0) : Calls Tryz.prog 16 #[x, .int .i64 v, .int .i64 M] w (RetR w zeroR 7) := by
 have hck := fun W (h : Below w.heap.size w W) => zao r x W (hv.below h zn) hs
 rw [h0] at hck
 obtain ⟨A3, c3, A4, c4, rfl⟩ := hv.form
 obtain ⟨n, hn⟩ := zx r.next.length
 obtain ⟨m, hm⟩ := zx r.fin.length
 obtain ⟨i0, hV⟩ := zx r.vars
 obtain ⟨i1, hE⟩ := zx r.empty
 rw [<- hn, <- hm, <- hV, <- hE] at hck ⊢
 have HC := zh hck
 clear hck hv hn hm hV hE hs h0
 go_enter Tryz.func16, Tryz.ntmps16
 go_upto_region 1 with fail
 refine zab (fun W => Below w.heap.size w W /\ Row W w.heap.size 25 #[.int .i64 i0, .int .i64 i1, .slice A3 n c3, .slice A4 m c4] /\ Row W (w.heap.size + 1) 3 #[.int .i64 v] /\ Row W (w.heap.size + 1 + 1) 25 #[.int .i64 0, .int .i64 0, .slice none 0 0, .slice none 0 0])
  ⟨by go_grown, ((Row.new _ _ _).alloc _).alloc _, (Row.lit (by simp)).alloc _, Row.lit (by simp)⟩ ?_
 rintro W ⟨hb, r1, r2, r3⟩
 have y0 := r1.cell
 have HB := zh hb; have R1 := zh r1; have R2 := zh r2; have R3 := zh r3
 clear hb r1 r2 r3
 go_upto_region 2 with (go_at_call 50; refine (HC.out _ HB.out).mono ?_; rintro e w2 ⟨rfl, hb2⟩; have HB2 := zh hb2; clear hb2)
 clear y0
 have y0 := (R1.out.below HB2.out R1.out.lt).cell; have y1 := (R2.out.below HB2.out R2.out.lt).cell
 have z0 := (R3.out.below HB2.out R3.out.lt).cell; have z1 := (R3.out.below HB2.out R3.out.lt).free
 have RR := zh (R3.out.below HB2.out R3.out.lt)
 have HBB := zh (HB.out.trans (HB2.out.mono HB.out.size))
 clear HB HB2 R1 R2 R3 HC
 go_wp2
 all_goals
  refine zae (fun X => Row X (w.heap.size + 1 + 1) 25 #[.int .i64 0, .int .i64 0, .slice none 0 0, .slice none 0 0] /\ TDO X w2.heap.size zeroV zeroR /\ Below w.heap.size w X) (zam RR.out (zad _ _) HBB.out (by omega)) ?_
  clear y0 y1 z0 z1
  rintro W5 ⟨r0, hT, hb⟩
  have b0 := r0.cell
  have q0 := b0 0; have q1 := b0 1; have q2 := b0 2; have q3 := b0 3
  simp only [zg] at q0 q1 q2 q3
  have HB := zh hb
  clear b0 r0 hT hb
  exact bodyPost_ret (v := .tuple #[zeroV, .int .i64 7]) (by simp [results, Tryz.results16, go_sem, q0, q1, q2, q3, zeroV]) rfl ⟨_, rfl, HB.out, zad _ _⟩
set_option maxRecDepth 100000 in
set_option maxHeartbeats 4000000 in
theorem zm4 (r : Raw) (v M : Int) (x : Value) (w : World) (hv : TD w x r) (hs : Small r) (h0 : r.check = 0) (b1 : ¬ v < 0) (b2 : r.vars <= v) : Calls Tryz.prog 16 #[x, .int .i64 v, .int .i64 M] w (RetR w zeroR 7) := by
 have hck := fun W (h : Below w.heap.size w W) => zao r x W (hv.below h zn) hs
 rw [h0] at hck
 obtain ⟨A3, c3, A4, c4, rfl⟩ := hv.form
 obtain ⟨n, hn⟩ := zx r.next.length
 obtain ⟨m, hm⟩ := zx r.fin.length
 obtain ⟨i0, hV⟩ := zx r.vars
 obtain ⟨i1, hE⟩ := zx r.empty
 rw [<- hn, <- hm, <- hV, <- hE] at hck ⊢
 rw [<- hV] at b2
 have b1i : (0 : Int) <= v := by omega
 have HC := zh hck
 clear hck hv hn hm hV hE hs h0
 go_enter Tryz.func16, Tryz.ntmps16
 go_upto_region 1 with fail
 refine zab (fun W => Below w.heap.size w W /\ Row W w.heap.size 25 #[.int .i64 i0, .int .i64 i1, .slice A3 n c3, .slice A4 m c4] /\ Row W (w.heap.size + 1) 3 #[.int .i64 v] /\ Row W (w.heap.size + 1 + 1) 25 #[.int .i64 0, .int .i64 0, .slice none 0 0, .slice none 0 0])
  ⟨by go_grown, ((Row.new _ _ _).alloc _).alloc _, (Row.lit (by simp)).alloc _, Row.lit (by simp)⟩ ?_
 rintro W ⟨hb, r1, r2, r3⟩
 have y0 := r1.cell
 have HB := zh hb; have R1 := zh r1; have R2 := zh r2; have R3 := zh r3
 clear hb r1 r2 r3
 go_upto_region 2 with (go_at_call 50; refine (HC.out _ HB.out).mono ?_; rintro e w2 ⟨rfl, hb2⟩; have HB2 := zh hb2; clear hb2)
 clear y0
 have y0 := (R1.out.below HB2.out R1.out.lt).cell; have y1 := (R2.out.below HB2.out R2.out.lt).cell
 have z0 := (R3.out.below HB2.out R3.out.lt).cell; have z1 := (R3.out.below HB2.out R3.out.lt).free
 have RR := zh (R3.out.below HB2.out R3.out.lt)
 have HBB := zh (HB.out.trans (HB2.out.mono HB.out.size))
 clear HB HB2 R1 R2 R3 HC
 go_wp2
 all_goals
  refine zae (fun X => Row X (w.heap.size + 1 + 1) 25 #[.int .i64 0, .int .i64 0, .slice none 0 0, .slice none 0 0] /\ TDO X w2.heap.size zeroV zeroR /\ Below w.heap.size w X) (zam RR.out (zad _ _) HBB.out (by omega)) ?_
  clear y0 y1 z0 z1
  rintro W5 ⟨r0, hT, hb⟩
  have b0 := r0.cell
  have q0 := b0 0; have q1 := b0 1; have q2 := b0 2; have q3 := b0 3
  simp only [zg] at q0 q1 q2 q3
  have HB := zh hb
  clear b0 r0 hT hb
  exact bodyPost_ret (v := .tuple #[zeroV, .int .i64 7]) (by simp [results, Tryz.results16, go_sem, q0, q1, q2, q3, zeroV]) rfl ⟨_, rfl, HB.out, zad _ _⟩
set_option maxRecDepth 100000 in
set_option maxHeartbeats 4000000 in
theorem zm3 (r : Raw) (v M : Int) (x : Value) (w : World) (hv : TD w x r) (hs : Small r) (h0 : r.check = 0) (b1 : ¬ v < 0) (b2 : ¬ r.vars <= v) (b3 : M < 1) : Calls Tryz.prog 16 #[x, .int .i64 v, .int .i64 M] w (RetR w zeroR 1) := by
 have hck := fun W (h : Below w.heap.size w W) => zao r x W (hv.below h zn) hs
 rw [h0] at hck
 obtain ⟨A3, c3, A4, c4, rfl⟩ := hv.form
 obtain ⟨n, hn⟩ := zx r.next.length
 obtain ⟨m, hm⟩ := zx r.fin.length
 obtain ⟨i0, hV⟩ := zx r.vars
 obtain ⟨i1, hE⟩ := zx r.empty
 rw [<- hn, <- hm, <- hV, <- hE] at hck ⊢
 rw [<- hV] at b2
 have b1i : (0 : Int) <= v := by omega
 have b2i : v < i0 := by omega
 have HC := zh hck
 clear hck hv hn hm hV hE hs h0
 go_enter Tryz.func16, Tryz.ntmps16
 go_upto_region 1 with fail
 refine zab (fun W => Below w.heap.size w W /\ Row W w.heap.size 25 #[.int .i64 i0, .int .i64 i1, .slice A3 n c3, .slice A4 m c4] /\ Row W (w.heap.size + 1) 3 #[.int .i64 v] /\ Row W (w.heap.size + 1 + 1) 25 #[.int .i64 0, .int .i64 0, .slice none 0 0, .slice none 0 0])
  ⟨by go_grown, ((Row.new _ _ _).alloc _).alloc _, (Row.lit (by simp)).alloc _, Row.lit (by simp)⟩ ?_
 rintro W ⟨hb, r1, r2, r3⟩
 have y0 := r1.cell
 have HB := zh hb; have R1 := zh r1; have R2 := zh r2; have R3 := zh r3
 clear hb r1 r2 r3
 go_upto_region 2 with (go_at_call 50; refine (HC.out _ HB.out).mono ?_; rintro e w2 ⟨rfl, hb2⟩; have HB2 := zh hb2; clear hb2)
 clear y0
 have y0 := (R1.out.below HB2.out R1.out.lt).cell; have y1 := (R2.out.below HB2.out R2.out.lt).cell
 have z0 := (R3.out.below HB2.out R3.out.lt).cell; have z1 := (R3.out.below HB2.out R3.out.lt).free
 have RR := zh (R3.out.below HB2.out R3.out.lt)
 have HBB := zh (HB.out.trans (HB2.out.mono HB.out.size))
 clear HB HB2 R1 R2 R3 HC
 go_wp2
 all_goals
  refine zae (fun X => Row X (w.heap.size + 1 + 1) 25 #[.int .i64 0, .int .i64 0, .slice none 0 0, .slice none 0 0] /\ TDO X w2.heap.size zeroV zeroR /\ Below w.heap.size w X) (zam RR.out (zad _ _) HBB.out (by omega)) ?_
  clear y0 y1 z0 z1
  rintro W5 ⟨r0, hT, hb⟩
  have b0 := r0.cell
  have q0 := b0 0; have q1 := b0 1; have q2 := b0 2; have q3 := b0 3
  simp only [zg] at q0 q1 q2 q3
  have HB := zh hb
  clear b0 r0 hT hb
  exact bodyPost_ret (v := .tuple #[zeroV, .int .i64 1]) (by simp [results, Tryz.results16, go_sem, q0, q1, q2, q3, zeroV]) rfl ⟨_, rfl, HB.out, zad _ _⟩
set_option maxRecDepth 100000 in
set_option maxHeartbeats 4000000 in
theorem zkn (r : Raw) (v M : Int) (x : Value) (w : World) (hv : TD w x r) (hs : Small r) (h0 : r.check = 0) (b1 : ¬ v < 0) (b2 : ¬ r.vars <= v) (b3 : ¬ M < 1) (b4 : 64 < M) : Calls Tryz.prog 16 #[x, .int .i64 v, .int .i64 M] w (RetR w zeroR 1) := by
 have hck := fun W (h : Below w.heap.size w W) => zao r x W (hv.below h zn) hs
 rw [h0] at hck
 obtain ⟨A3, c3, A4, c4, rfl⟩ := hv.form
 obtain ⟨n, hn⟩ := zx r.next.length
 obtain ⟨m, hm⟩ := zx r.fin.length
 obtain ⟨i0, hV⟩ := zx r.vars
 obtain ⟨i1, hE⟩ := zx r.empty
 rw [<- hn, <- hm, <- hV, <- hE] at hck ⊢
 rw [<- hV] at b2
 have b1i : (0 : Int) <= v := by omega
 have b2i : v < i0 := by omega
 have b3i : (1 : Int) <= M := by omega
 have HC := zh hck
 clear hck hv hn hm hV hE hs h0
 go_enter Tryz.func16, Tryz.ntmps16
 go_upto_region 1 with fail
 refine zab (fun W => Below w.heap.size w W /\ Row W w.heap.size 25 #[.int .i64 i0, .int .i64 i1, .slice A3 n c3, .slice A4 m c4] /\ Row W (w.heap.size + 1) 3 #[.int .i64 v] /\ Row W (w.heap.size + 1 + 1) 25 #[.int .i64 0, .int .i64 0, .slice none 0 0, .slice none 0 0])
  ⟨by go_grown, ((Row.new _ _ _).alloc _).alloc _, (Row.lit (by simp)).alloc _, Row.lit (by simp)⟩ ?_
 rintro W ⟨hb, r1, r2, r3⟩
 have y0 := r1.cell
 have HB := zh hb; have R1 := zh r1; have R2 := zh r2; have R3 := zh r3
 clear hb r1 r2 r3
 go_upto_region 2 with (go_at_call 50; refine (HC.out _ HB.out).mono ?_; rintro e w2 ⟨rfl, hb2⟩; have HB2 := zh hb2; clear hb2)
 clear y0
 have y0 := (R1.out.below HB2.out R1.out.lt).cell; have y1 := (R2.out.below HB2.out R2.out.lt).cell
 have z0 := (R3.out.below HB2.out R3.out.lt).cell; have z1 := (R3.out.below HB2.out R3.out.lt).free
 have RR := zh (R3.out.below HB2.out R3.out.lt)
 have HBB := zh (HB.out.trans (HB2.out.mono HB.out.size))
 clear HB HB2 R1 R2 R3 HC
 go_wp2
 all_goals
  refine zae (fun X => Row X (w.heap.size + 1 + 1) 25 #[.int .i64 0, .int .i64 0, .slice none 0 0, .slice none 0 0] /\ TDO X w2.heap.size zeroV zeroR /\ Below w.heap.size w X) (zam RR.out (zad _ _) HBB.out (by omega)) ?_
  clear y0 y1 z0 z1
  rintro W5 ⟨r0, hT, hb⟩
  have b0 := r0.cell
  have q0 := b0 0; have q1 := b0 1; have q2 := b0 2; have q3 := b0 3
  simp only [zg] at q0 q1 q2 q3
  have HB := zh hb
  clear b0 r0 hT hb
  exact bodyPost_ret (v := .tuple #[zeroV, .int .i64 1]) (by simp [results, Tryz.results16, go_sem, q0, q1, q2, q3, zeroV]) rfl ⟨_, rfl, HB.out, zad _ _⟩
set_option maxRecDepth 100000 in
set_option maxHeartbeats 4000000 in
theorem zi3 (r : Raw) (v M : Int) (x : Value) (w : World) (hv : TD w x r) (hs : Small r) (h0 : r.check ≠ 0) : Calls Tryz.prog 17 #[x, .int .i64 v, .int .i64 M] w (RetR w zeroR r.check) := by
 have hck := fun W (h : Below w.heap.size w W) => zbe r x W (hv.below h zn) hs
 obtain ⟨k, hk⟩ := zx r.check
 rw [<- hk] at h0 hck ⊢
 have h0' : ((k : Int) != 0) = true := by rw [bne_iff_ne]; omega
 obtain ⟨A3, c3, A4, c4, rfl⟩ := hv.form
 obtain ⟨n, hn⟩ := zx r.next.length
 obtain ⟨m, hm⟩ := zx r.fin.length
 obtain ⟨i0, hV⟩ := zx r.vars
 obtain ⟨i1, hE⟩ := zx r.empty
 rw [<- hn, <- hm, <- hV, <- hE] at hck ⊢
 have HC := zh hck
 clear hck hv hk hn hm hV hE hs h0
 go_enter Tryz.func17, Tryz.ntmps17
 go_upto_region 2 with (go_at_call 52; refine (HC.out _ (by go_grown)).mono ?_; rintro e w2 ⟨rfl, hb2⟩; have X := zaw hb2; have HBB := zh X.1; have RR := zh X.2.2; have y0 := X.2.1.cell; have y2 := X.2.2.cell; have y3 := X.2.2.free; clear hb2 X)
 go_wp2
 all_goals
  refine zae (fun X => Row X (w.heap.size + 1) 25 #[.int .i64 0, .int .i64 0, .slice none 0 0, .slice none 0 0] /\ TDO X w2.heap.size zeroV zeroR /\ Below w.heap.size w X) (zam RR.out (zad _ _) HBB.out (by omega)) ?_
  clear y0 y2 y3
  rintro W5 ⟨r0, hT, hb⟩
  have b0 := r0.cell
  have q0 := b0 0; have q1 := b0 1; have q2 := b0 2; have q3 := b0 3
  simp only [zg] at q0 q1 q2 q3
  have HB := zh hb
  clear b0 r0 hT hb
  exact bodyPost_ret (v := .tuple #[zeroV, .int .i64 (k : Int)]) (by simp [results, Tryz.results17, go_sem, q0, q1, q2, q3, zeroV]) rfl ⟨_, rfl, HB.out, zad _ _⟩
set_option maxRecDepth 100000 in
set_option maxHeartbeats 4000000 in
theorem zi0 (r : Raw) (v M : Int) (x : Value) (w : World) (hv : TD w x r) (hs : Small r) (h0 : r.check = 0) (b1 : v < 0) : Calls Tryz.prog 17 #[x, .int .i64 v, .int .i64 M] w (RetR w zeroR 7) := by
 have hck := fun W (h : Below w.heap.size w W) => zbe r x W (hv.below h zn) hs
 rw [h0] at hck
 obtain ⟨A3, c3, A4, c4, rfl⟩ := hv.form
 obtain ⟨n, hn⟩ := zx r.next.length
 obtain ⟨m, hm⟩ := zx r.fin.length
 obtain ⟨i0, hV⟩ := zx r.vars
 obtain ⟨i1, hE⟩ := zx r.empty
 rw [<- hn, <- hm, <- hV, <- hE] at hck ⊢
 have HC := zh hck
 clear hck hv hn hm hV hE hs h0
 go_enter Tryz.func17, Tryz.ntmps17
 go_upto_region 2 with (go_at_call 52; refine (HC.out _ (by go_grown)).mono ?_; rintro e w2 ⟨rfl, hb2⟩; have X := zaw hb2; have HBB := zh X.1; have RR := zh X.2.2; have y0 := X.2.1.cell; have y2 := X.2.2.cell; have y3 := X.2.2.free; clear hb2 X)
 go_wp2
 all_goals
  refine zae (fun X => Row X (w.heap.size + 1) 25 #[.int .i64 0, .int .i64 0, .slice none 0 0, .slice none 0 0] /\ TDO X w2.heap.size zeroV zeroR /\ Below w.heap.size w X) (zam RR.out (zad _ _) HBB.out (by omega)) ?_
  clear y0 y2 y3
  rintro W5 ⟨r0, hT, hb⟩
  have b0 := r0.cell
  have q0 := b0 0; have q1 := b0 1; have q2 := b0 2; have q3 := b0 3
  simp only [zg] at q0 q1 q2 q3
  have HB := zh hb
  clear b0 r0 hT hb
  exact bodyPost_ret (v := .tuple #[zeroV, .int .i64 7]) (by simp [results, Tryz.results17, go_sem, q0, q1, q2, q3, zeroV]) rfl ⟨_, rfl, HB.out, zad _ _⟩
set_option maxRecDepth 100000 in
set_option maxHeartbeats 4000000 in
theorem zi2 (r : Raw) (v M : Int) (x : Value) (w : World) (hv : TD w x r) (hs : Small r) (h0 : r.check = 0) (b1 : ¬ v < 0) (b2 : r.vars <= v) : Calls Tryz.prog 17 #[x, .int .i64 v, .int .i64 M] w (RetR w zeroR 7) := by
 have hck := fun W (h : Below w.heap.size w W) => zbe r x W (hv.below h zn) hs
 rw [h0] at hck
 obtain ⟨A3, c3, A4, c4, rfl⟩ := hv.form
 obtain ⟨n, hn⟩ := zx r.next.length
 obtain ⟨m, hm⟩ := zx r.fin.length
 obtain ⟨i0, hV⟩ := zx r.vars
 obtain ⟨i1, hE⟩ := zx r.empty
 rw [<- hn, <- hm, <- hV, <- hE] at hck ⊢
 rw [<- hV] at b2
 have b1i : (0 : Int) <= v := by omega
 have HC := zh hck
 clear hck hv hn hm hV hE hs h0
 go_enter Tryz.func17, Tryz.ntmps17
 go_upto_region 2 with (go_at_call 52; refine (HC.out _ (by go_grown)).mono ?_; rintro e w2 ⟨rfl, hb2⟩; have X := zaw hb2; have HBB := zh X.1; have RR := zh X.2.2; have y0 := X.2.1.cell; have y2 := X.2.2.cell; have y3 := X.2.2.free; clear hb2 X)
 go_wp2
 all_goals
  refine zae (fun X => Row X (w.heap.size + 1) 25 #[.int .i64 0, .int .i64 0, .slice none 0 0, .slice none 0 0] /\ TDO X w2.heap.size zeroV zeroR /\ Below w.heap.size w X) (zam RR.out (zad _ _) HBB.out (by omega)) ?_
  clear y0 y2 y3
  rintro W5 ⟨r0, hT, hb⟩
  have b0 := r0.cell
  have q0 := b0 0; have q1 := b0 1; have q2 := b0 2; have q3 := b0 3
  simp only [zg] at q0 q1 q2 q3
  have HB := zh hb
  clear b0 r0 hT hb
  exact bodyPost_ret (v := .tuple #[zeroV, .int .i64 7]) (by simp [results, Tryz.results17, go_sem, q0, q1, q2, q3, zeroV]) rfl ⟨_, rfl, HB.out, zad _ _⟩
set_option maxRecDepth 100000 in
set_option maxHeartbeats 4000000 in
theorem zi1 (r : Raw) (v M : Int) (x : Value) (w : World) (hv : TD w x r) (hs : Small r) (h0 : r.check = 0) (b1 : ¬ v < 0) (b2 : ¬ r.vars <= v) (b3 : M < 1) : Calls Tryz.prog 17 #[x, .int .i64 v, .int .i64 M] w (RetR w zeroR 1) := by
 have hck := fun W (h : Below w.heap.size w W) => zbe r x W (hv.below h zn) hs
 rw [h0] at hck
 obtain ⟨A3, c3, A4, c4, rfl⟩ := hv.form
 obtain ⟨n, hn⟩ := zx r.next.length
 obtain ⟨m, hm⟩ := zx r.fin.length
 obtain ⟨i0, hV⟩ := zx r.vars
 obtain ⟨i1, hE⟩ := zx r.empty
 rw [<- hn, <- hm, <- hV, <- hE] at hck ⊢
 rw [<- hV] at b2
 have b1i : (0 : Int) <= v := by omega
 have b2i : v < i0 := by omega
 have HC := zh hck
 clear hck hv hn hm hV hE hs h0
 go_enter Tryz.func17, Tryz.ntmps17
 go_upto_region 2 with (go_at_call 52; refine (HC.out _ (by go_grown)).mono ?_; rintro e w2 ⟨rfl, hb2⟩; have X := zaw hb2; have HBB := zh X.1; have RR := zh X.2.2; have y0 := X.2.1.cell; have y2 := X.2.2.cell; have y3 := X.2.2.free; clear hb2 X)
 go_wp2
 all_goals
  refine zae (fun X => Row X (w.heap.size + 1) 25 #[.int .i64 0, .int .i64 0, .slice none 0 0, .slice none 0 0] /\ TDO X w2.heap.size zeroV zeroR /\ Below w.heap.size w X) (zam RR.out (zad _ _) HBB.out (by omega)) ?_
  clear y0 y2 y3
  rintro W5 ⟨r0, hT, hb⟩
  have b0 := r0.cell
  have q0 := b0 0; have q1 := b0 1; have q2 := b0 2; have q3 := b0 3
  simp only [zg] at q0 q1 q2 q3
  have HB := zh hb
  clear b0 r0 hT hb
  exact bodyPost_ret (v := .tuple #[zeroV, .int .i64 1]) (by simp [results, Tryz.results17, go_sem, q0, q1, q2, q3, zeroV]) rfl ⟨_, rfl, HB.out, zad _ _⟩
set_option maxRecDepth 100000 in
set_option maxHeartbeats 4000000 in
theorem zhy (r : Raw) (v M : Int) (x : Value) (w : World) (hv : TD w x r) (hs : Small r) (h0 : r.check = 0) (b1 : ¬ v < 0) (b2 : ¬ r.vars <= v) (b3 : ¬ M < 1) (b4 : 64 < M) : Calls Tryz.prog 17 #[x, .int .i64 v, .int .i64 M] w (RetR w zeroR 1) := by
 have hck := fun W (h : Below w.heap.size w W) => zbe r x W (hv.below h zn) hs
 rw [h0] at hck
 obtain ⟨A3, c3, A4, c4, rfl⟩ := hv.form
 obtain ⟨n, hn⟩ := zx r.next.length
 obtain ⟨m, hm⟩ := zx r.fin.length
 obtain ⟨i0, hV⟩ := zx r.vars
 obtain ⟨i1, hE⟩ := zx r.empty
 rw [<- hn, <- hm, <- hV, <- hE] at hck ⊢
 rw [<- hV] at b2
 have b1i : (0 : Int) <= v := by omega
 have b2i : v < i0 := by omega
 have b3i : (1 : Int) <= M := by omega
 have HC := zh hck
 clear hck hv hn hm hV hE hs h0
 go_enter Tryz.func17, Tryz.ntmps17
 go_upto_region 2 with (go_at_call 52; refine (HC.out _ (by go_grown)).mono ?_; rintro e w2 ⟨rfl, hb2⟩; have X := zaw hb2; have HBB := zh X.1; have RR := zh X.2.2; have y0 := X.2.1.cell; have y2 := X.2.2.cell; have y3 := X.2.2.free; clear hb2 X)
 go_wp2
 all_goals
  refine zae (fun X => Row X (w.heap.size + 1) 25 #[.int .i64 0, .int .i64 0, .slice none 0 0, .slice none 0 0] /\ TDO X w2.heap.size zeroV zeroR /\ Below w.heap.size w X) (zam RR.out (zad _ _) HBB.out (by omega)) ?_
  clear y0 y2 y3
  rintro W5 ⟨r0, hT, hb⟩
  have b0 := r0.cell
  have q0 := b0 0; have q1 := b0 1; have q2 := b0 2; have q3 := b0 3
  simp only [zg] at q0 q1 q2 q3
  have HB := zh hb
  clear b0 r0 hT hb
  exact bodyPost_ret (v := .tuple #[zeroV, .int .i64 1]) (by simp [results, Tryz.results17, go_sem, q0, q1, q2, q3, zeroV]) rfl ⟨_, rfl, HB.out, zad _ _⟩
end Go.Proofs.YthkfjnmnoanhlaaGreatDoor

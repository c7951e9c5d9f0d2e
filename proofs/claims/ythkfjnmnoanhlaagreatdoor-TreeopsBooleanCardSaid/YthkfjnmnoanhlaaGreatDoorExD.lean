/- Contracts: the connectives of And, Or and Minus, and the function that product hands to minimal. -/
/- Contract: minimal of the package treeops, for pairs. -/
/- The state of an exploring loop: the keys, plain; the rows, in memory. -/
import Derived.Test.YthkfjnmnoanhlaaGreatDoorExK
import Derived.Deep.RegionLaw
import Derived.Test.YthkfjnmnoanhlaaGreatDoorExB
set_option linter.unusedSimpArgs false
set_option linter.unusedVariables false
namespace Go.Proofs.YthkfjnmnoanhlaaGreatDoor
open Go.RowKit

set_option maxRecDepth 100000 in
theorem con_And (p q : Bool) (w : World) : Calls Tryz.prog 78 #[.bool p, .bool q] w fun e w' => e = .returned (.bool (p && q)) ∧ w = w' := by
  cases p <;> cases q <;> (go_enter Tryz.func78, Tryz.ntmps78; go_wp2; go_returns; exact ⟨rfl, rfl⟩)
set_option maxRecDepth 100000 in
set_option maxHeartbeats 4000000 in
theorem product2_And (a b : Dta) (V : Nat) (ha : a.Fit V) (hb : b.Fit V) (w0 : World) (gf gA gB : Nat) (TF : TypeId) (vn vf un uf : Value) (hF : Row w0 gf TF #[.func (.func 78) #[] #[]]) (hA : AutV w0 gA V a vn vf) (hB : AutV w0 gB V b un uf) (p : Nat × Nat) (hp : inP a b p) (W : World) (hbw : Below w0.heap.size w0 W) :
    Calls Tryz.prog 118 #[pV p, .pointer (some ⟨gf, 0, none⟩), .pointer (some ⟨gA, 0, none⟩), .pointer (some ⟨gB, 0, none⟩)] W fun e W' => e = .returned (.bool ((fun p q => p && q) (a.fin p.1) (b.fin p.2))) ∧ Below W.heap.size W W' := by
  have hA2 := hA.below hbw (Nat.le_refl _)
  have hB2 := hB.below hbw (Nat.le_refl _)
  have hF2 := hF.below hbw hF.lt
  obtain ⟨bk, ok, ck, rfl, hk1, hbk, hk2⟩ := hA2.hf.at ha.pos
  obtain ⟨bl, ol, cl, rfl, hl1, hbl, hl2⟩ := hB2.hf.at hb.pos
  obtain ⟨p1, p2⟩ := p
  obtain ⟨hp1, hp2⟩ := hp
  simp only at hp1 hp2
  have c0 := hk2 p1 hp1
  have d0 := hl2 p2 hp2
  unfold pV
  simp only
  obtain ⟨s, hs⟩ : ∃ s, s = a.fin p1 := ⟨_, rfl⟩
  obtain ⟨t, ht⟩ : ∃ t, t = b.fin p2 := ⟨_, rfl⟩
  rw [← hs] at c0 ⊢
  rw [← ht] at d0 ⊢
  have RA := Lib.hid hA2.row; have RB := Lib.hid hB2.row; have RF := Lib.hid hF2
  obtain ⟨n, hnn⟩ : ∃ n, n = a.n := ⟨_, rfl⟩
  obtain ⟨n', hnn'⟩ : ∃ n, n = b.n := ⟨_, rfl⟩
  rw [← hnn] at hp1 RA
  rw [← hnn'] at hp2 RB
  have HCC := Lib.hid (fun W1 (h : Below W.heap.size W W1) => (show W1.cell? ⟨bk, ok + p1, none⟩ = _ ∧ W1.cell? ⟨bl, ol + p2, none⟩ = _ from ⟨(h.cell (p := ⟨bk, _, none⟩) hbk).trans c0, (h.cell (p := ⟨bl, _, none⟩) hbl).trans d0⟩))
  clear hA hB hF hA2 hB2 hF2 hk2 hl2 c0 d0 hs ht hnn hnn' hbw ha hb hbk hbl hk1 hl1
  go_enter Tryz.func118, Tryz.ntmps118
  go_upto_region 1 with fail
  refine wp_abs (fun W1 => Below W.heap.size W W1 ∧ Row W1 W.heap.size 143 #[.int .i64 (p1 : Int), .int .i64 (p2 : Int)]) ⟨by go_grown, Row.new _ _ _⟩ ?_
  rintro W1 ⟨hb, r1⟩
  obtain ⟨c0, d0⟩ := HCC.out W1 hb
  have z1 := (RA.out.below hb RA.out.lt).cell; have z2 := (RB.out.below hb RB.out.lt).cell; have z3 := (RF.out.below hb RF.out.lt).cell
  have y1 := r1.cell
  have HB := Lib.hid hb
  clear hb r1 HCC RA RB RF
  go_still_tail 13, (by kernel_rfl)
  change wpList _ _ _ _ _ W1.drew
  have HBD := Lib.hid (HB.out.drew)
  generalize W1.drew = W2 at *
  go_wp2_with (go_at_call 78; refine (con_And s t _).mono ?_; rintro e w3 ⟨rfl, rfl⟩)
  go_returns
  exact ⟨rfl, HBD.out⟩
set_option maxRecDepth 100000 in
theorem con_Or (p q : Bool) (w : World) : Calls Tryz.prog 80 #[.bool p, .bool q] w fun e w' => e = .returned (.bool (p || q)) ∧ w = w' := by
  cases p <;> cases q <;> (go_enter Tryz.func80, Tryz.ntmps80; go_wp2; go_returns; exact ⟨rfl, rfl⟩)
set_option maxRecDepth 100000 in
set_option maxHeartbeats 4000000 in
theorem product2_Or (a b : Dta) (V : Nat) (ha : a.Fit V) (hb : b.Fit V) (w0 : World) (gf gA gB : Nat) (TF : TypeId) (vn vf un uf : Value) (hF : Row w0 gf TF #[.func (.func 80) #[] #[]]) (hA : AutV w0 gA V a vn vf) (hB : AutV w0 gB V b un uf) (p : Nat × Nat) (hp : inP a b p) (W : World) (hbw : Below w0.heap.size w0 W) :
    Calls Tryz.prog 118 #[pV p, .pointer (some ⟨gf, 0, none⟩), .pointer (some ⟨gA, 0, none⟩), .pointer (some ⟨gB, 0, none⟩)] W fun e W' => e = .returned (.bool ((fun p q => p || q) (a.fin p.1) (b.fin p.2))) ∧ Below W.heap.size W W' := by
  have hA2 := hA.below hbw (Nat.le_refl _)
  have hB2 := hB.below hbw (Nat.le_refl _)
  have hF2 := hF.below hbw hF.lt
  obtain ⟨bk, ok, ck, rfl, hk1, hbk, hk2⟩ := hA2.hf.at ha.pos
  obtain ⟨bl, ol, cl, rfl, hl1, hbl, hl2⟩ := hB2.hf.at hb.pos
  obtain ⟨p1, p2⟩ := p
  obtain ⟨hp1, hp2⟩ := hp
  simp only at hp1 hp2
  have c0 := hk2 p1 hp1
  have d0 := hl2 p2 hp2
  unfold pV
  simp only
  obtain ⟨s, hs⟩ : ∃ s, s = a.fin p1 := ⟨_, rfl⟩
  obtain ⟨t, ht⟩ : ∃ t, t = b.fin p2 := ⟨_, rfl⟩
  rw [← hs] at c0 ⊢
  rw [← ht] at d0 ⊢
  have RA := Lib.hid hA2.row; have RB := Lib.hid hB2.row; have RF := Lib.hid hF2
  obtain ⟨n, hnn⟩ : ∃ n, n = a.n := ⟨_, rfl⟩
  obtain ⟨n', hnn'⟩ : ∃ n, n = b.n := ⟨_, rfl⟩
  rw [← hnn] at hp1 RA
  rw [← hnn'] at hp2 RB
  have HCC := Lib.hid (fun W1 (h : Below W.heap.size W W1) => (show W1.cell? ⟨bk, ok + p1, none⟩ = _ ∧ W1.cell? ⟨bl, ol + p2, none⟩ = _ from ⟨(h.cell (p := ⟨bk, _, none⟩) hbk).trans c0, (h.cell (p := ⟨bl, _, none⟩) hbl).trans d0⟩))
  clear hA hB hF hA2 hB2 hF2 hk2 hl2 c0 d0 hs ht hnn hnn' hbw ha hb hbk hbl hk1 hl1
  go_enter Tryz.func118, Tryz.ntmps118
  go_upto_region 1 with fail
  refine wp_abs (fun W1 => Below W.heap.size W W1 ∧ Row W1 W.heap.size 143 #[.int .i64 (p1 : Int), .int .i64 (p2 : Int)]) ⟨by go_grown, Row.new _ _ _⟩ ?_
  rintro W1 ⟨hb, r1⟩
  obtain ⟨c0, d0⟩ := HCC.out W1 hb
  have z1 := (RA.out.below hb RA.out.lt).cell; have z2 := (RB.out.below hb RB.out.lt).cell; have z3 := (RF.out.below hb RF.out.lt).cell
  have y1 := r1.cell
  have HB := Lib.hid hb
  clear hb r1 HCC RA RB RF
  go_still_tail 13, (by kernel_rfl)
  change wpList _ _ _ _ _ W1.drew
  have HBD := Lib.hid (HB.out.drew)
  generalize W1.drew = W2 at *
  go_wp2_with (go_at_call 80; refine (con_Or s t _).mono ?_; rintro e w3 ⟨rfl, rfl⟩)
  go_returns
  exact ⟨rfl, HBD.out⟩
set_option maxRecDepth 100000 in
theorem con_Minus (p q : Bool) (w : World) : Calls Tryz.prog 81 #[.bool p, .bool q] w fun e w' => e = .returned (.bool (p && !q)) ∧ w = w' := by
  cases p <;> cases q <;> (go_enter Tryz.func81, Tryz.ntmps81; go_wp2; go_returns; exact ⟨rfl, rfl⟩)
set_option maxRecDepth 100000 in
set_option maxHeartbeats 4000000 in
theorem product2_Minus (a b : Dta) (V : Nat) (ha : a.Fit V) (hb : b.Fit V) (w0 : World) (gf gA gB : Nat) (TF : TypeId) (vn vf un uf : Value) (hF : Row w0 gf TF #[.func (.func 81) #[] #[]]) (hA : AutV w0 gA V a vn vf) (hB : AutV w0 gB V b un uf) (p : Nat × Nat) (hp : inP a b p) (W : World) (hbw : Below w0.heap.size w0 W) :
    Calls Tryz.prog 118 #[pV p, .pointer (some ⟨gf, 0, none⟩), .pointer (some ⟨gA, 0, none⟩), .pointer (some ⟨gB, 0, none⟩)] W fun e W' => e = .returned (.bool ((fun p q => p && !q) (a.fin p.1) (b.fin p.2))) ∧ Below W.heap.size W W' := by
  have hA2 := hA.below hbw (Nat.le_refl _)
  have hB2 := hB.below hbw (Nat.le_refl _)
  have hF2 := hF.below hbw hF.lt
  obtain ⟨bk, ok, ck, rfl, hk1, hbk, hk2⟩ := hA2.hf.at ha.pos
  obtain ⟨bl, ol, cl, rfl, hl1, hbl, hl2⟩ := hB2.hf.at hb.pos
  obtain ⟨p1, p2⟩ := p
  obtain ⟨hp1, hp2⟩ := hp
  simp only at hp1 hp2
  have c0 := hk2 p1 hp1
  have d0 := hl2 p2 hp2
  unfold pV
  simp only
  obtain ⟨s, hs⟩ : ∃ s, s = a.fin p1 := ⟨_, rfl⟩
  obtain ⟨t, ht⟩ : ∃ t, t = b.fin p2 := ⟨_, rfl⟩
  rw [← hs] at c0 ⊢
  rw [← ht] at d0 ⊢
  have RA := Lib.hid hA2.row; have RB := Lib.hid hB2.row; have RF := Lib.hid hF2
  obtain ⟨n, hnn⟩ : ∃ n, n = a.n := ⟨_, rfl⟩
  obtain ⟨n', hnn'⟩ : ∃ n, n = b.n := ⟨_, rfl⟩
  rw [← hnn] at hp1 RA
  rw [← hnn'] at hp2 RB
  have HCC := Lib.hid (fun W1 (h : Below W.heap.size W W1) => (show W1.cell? ⟨bk, ok + p1, none⟩ = _ ∧ W1.cell? ⟨bl, ol + p2, none⟩ = _ from ⟨(h.cell (p := ⟨bk, _, none⟩) hbk).trans c0, (h.cell (p := ⟨bl, _, none⟩) hbl).trans d0⟩))
  clear hA hB hF hA2 hB2 hF2 hk2 hl2 c0 d0 hs ht hnn hnn' hbw ha hb hbk hbl hk1 hl1
  go_enter Tryz.func118, Tryz.ntmps118
  go_upto_region 1 with fail
  refine wp_abs (fun W1 => Below W.heap.size W W1 ∧ Row W1 W.heap.size 143 #[.int .i64 (p1 : Int), .int .i64 (p2 : Int)]) ⟨by go_grown, Row.new _ _ _⟩ ?_
  rintro W1 ⟨hb, r1⟩
  obtain ⟨c0, d0⟩ := HCC.out W1 hb
  have z1 := (RA.out.below hb RA.out.lt).cell; have z2 := (RB.out.below hb RB.out.lt).cell; have z3 := (RF.out.below hb RF.out.lt).cell
  have y1 := r1.cell
  have HB := Lib.hid hb
  clear hb r1 HCC RA RB RF
  go_still_tail 13, (by kernel_rfl)
  change wpList _ _ _ _ _ W1.drew
  have HBD := Lib.hid (HB.out.drew)
  generalize W1.drew = W2 at *
  go_wp2_with (go_at_call 81; refine (con_Minus s t _).mono ?_; rintro e w3 ⟨rfl, rfl⟩)
  go_returns
  exact ⟨rfl, HBD.out⟩
end Go.Proofs.YthkfjnmnoanhlaaGreatDoor

namespace Go.Proofs.YthkfjnmnoanhlaaGreatDoor
open Go.RowKit

theorem under_pair_cells (p : Nat × Nat) : (pC p).toArray = #[.int .i64 (p.1 : Int), .int .i64 (p.2 : Int)] := rfl
set_option maxRecDepth 100000 in
set_option maxHeartbeats 8000000 in
theorem minimal_P (D : Dta) (V : Nat) (hD : D.Fit V) (he : D.e = 0) (o : List (Nat × Nat)) (hn : o.length = D.n) (P : Nat × Nat → Prop) (hP : ∀ p ∈ o, P p) (fin : Nat × Nat → Bool) (hfin : ∀ i p, o[i]? = some p → D.fin i = fin p) (j1 j2 j3 : Value) (w : World)
    (hcb : ∀ p W, P p → Below w.heap.size w W → Calls Tryz.prog 118 #[pV p, j1, j2, j3] W fun e W' => e = .returned (.bool (fin p)) ∧ Below W.heap.size W W')
    (B : Nat) (kv rv : Value) (hk : KO 143 2 w B kv (o.map pC)) (hr : N3 w rv (nx3 D.n D.L D.nx)) :
    Calls Tryz.prog 117 #[.int .i64 (V : Int), kv, rv, .func (.func 118) #[] #[j1, j2, j3]] w (RetR w (D.mini.raw V) 0) := by
  have hn64 := hD.n64
  have hpos := hD.pos
  obtain ⟨Ar, cr, rfl, _⟩ := hr.open
  have hlen3 : (nx3 D.n D.L D.nx).length = D.n := by simp [nx3]
  rw [hlen3] at hr ⊢
  obtain ⟨g, cap, cs, rfl, hgB, hrow, hc1, hc2, hcell⟩ := hk.row (by rw [List.length_map]; omega)
  rw [List.length_map] at hc1 ⊢
  have hglt := hrow.lt
  have HCL := Lib.hid (fun i p (hi : o[i]? = some p) => (show w.cell? ⟨g, i * 2, none⟩ = some (.int .i64 (p.1 : Int)) ∧ w.cell? ⟨g, i * 2 + 1, none⟩ = some (.int .i64 (p.2 : Int)) from
    ⟨by have h := hcell i (pC p) (by rw [List.getElem?_map, hi]; rfl) 0 (by omega); simpa [pC] using h, by have h := hcell i (pC p) (by rw [List.getElem?_map, hi]; rfl) 1 (by omega); simpa [pC] using h⟩))
  have hmi := fun v W (h : TD W v (D.raw V)) => minimize_ok D V hD v W h
  have HMI := Lib.hid hmi; have HCB := Lib.hid hcb; have HR := Lib.hid hr; have HP := Lib.hid hP; have HFIN := Lib.hid hfin; have HE := Lib.hid he
  rw [hn] at hc1 ⊢
  have HN := Lib.hid hn
  obtain ⟨n, hnn⟩ : ∃ n, n = D.n := ⟨_, rfl⟩
  rw [← hnn] at hn64 hpos hc1 HR HN ⊢
  have HNN := Lib.hid hnn
  clear hmi hcb hr hP hfin he hk hrow hcell hn hnn hlen3 hD
  go_enter Tryz.func117, Tryz.ntmps117
  go_wp2
  refine wp_abs (fun W => Below w.heap.size w W ∧ Row W w.heap.size 25 #[.int .i64 0, .int .i64 0, .slice none 0 0, .slice none 0 0] ∧ Row W (w.heap.size + 1) 25 #[.int .i64 (V : Int), .int .i64 0, .slice Ar n cr, .slice none 0 0]) ⟨by go_grown, (Row.new _ _ _).alloc _, Row.lit (by simp)⟩ ?_
  rintro w1 ⟨hb, hr0, hr1⟩
  have HB := Lib.hid hb; have R0 := Lib.hid hr0; have R1 := Lib.hid hr1
  clear hb hr0 hr1
  go_loopg [18] n (fun gk q wr => ∃ (i : Nat) (vf : Value), i ≤ n ∧ gk = n - i ∧ q = .int .i64 i ∧ Below w.heap.size w wr ∧ Row wr w.heap.size 25 #[.int .i64 0, .int .i64 0, .slice none 0 0, .slice none 0 0] ∧ Row wr (w.heap.size + 1) 25 #[.int .i64 (V : Int), .int .i64 0, .slice Ar n cr, vf] ∧ OB wr w.heap.size vf ((List.range i).map D.fin))
  case atStart => exact ⟨0, _, Nat.zero_le _, rfl, rfl, HB.out, R0.out, R1.out, VO.nil _ _ _⟩
  case round =>
    clear HB R0 R1
    obtain ⟨i, vf, hi, rfl, rfl, hb, hr0, hr1, hof⟩ := hrel
    obtain ⟨wl, hwl⟩ : ∃ x, x = wr := ⟨_, rfl⟩
    subst hwl
    obtain ⟨Af, cf, rfl⟩ := VO.formN (n := i) hof (by simp [bL])
    have HB := Lib.hid hb; have R0 := Lib.hid hr0; have R1 := Lib.hid hr1; have OF := Lib.hid hof
    by_cases hlt : i < n
    · obtain ⟨p, hp⟩ : ∃ p, o[i]? = some p := ⟨o[i]'(by rw [HN.out]; exact hlt), List.getElem?_eq_getElem _⟩
      obtain ⟨c0, c1⟩ := HCL.out i p hp
      rw [← hb.cell (p := ⟨g, _, none⟩) hglt] at c0 c1
      have hPp := HP.out p (List.mem_of_getElem? hp)
      have hfp := HFIN.out i p hp
      obtain ⟨s, hs⟩ : ∃ s, s = fin p := ⟨_, rfl⟩
      have HS := Lib.hid (show s = D.fin i by rw [hs, hfp])
      have hcb := fun W (h : Below wl.heap.size wl W) => HCB.out p W hPp (hb.trans (h.mono hb.size))
      rw [← hs] at hcb
      unfold pV at hcb
      have HCP := Lib.hid hcb
      clear hb hr0 hr1 hof hp hPp hfp hs hcb
      go_upto_region 5 with fail
      refine wp_abs (fun W => Below wl.heap.size wl W ∧ ∃ gp, gp = wl.heap.size ∧ Row W gp 143 #[.int .i64 (p.1 : Int), .int .i64 (p.2 : Int)]) ⟨by go_grown, _, rfl, Row.new _ _ _⟩ ?_
      rintro W ⟨hb, gp, hgp, hrp⟩
      rw [← hgp]
      have R0W := Lib.hid (R0.out.below hb R0.out.lt); have R1W := Lib.hid (R1.out.below hb R1.out.lt); have OFW := Lib.hid (OF.out.below hb (Nat.le_refl _))
      have HBW := Lib.hid (HB.out.trans (hb.mono HB.out.size))
      have HCW := Lib.hid (fun W' (h : Below W.heap.size W W') => HCP.out W' (hb.trans (h.mono hb.size)))
      have z0 := R1W.out.cell; have z1 := R1W.out.free; have hz := R1W.out.lt
      have y0 := hrp.cell
      have HRP := Lib.hid hrp
      clear hb hgp hrp c0 c1 HB R0 R1 OF HCP
      first
      | go_region_law (first
        | (go_simp; go_at_call 118; refine (HCW.out _ (by go_grown)).mono ?_; rintro e w3 ⟨rfl, hb3⟩; have HB3 : Hid (Below W.heap.size W w3) := (show Below W.heap.size W w3 from ⟨hb3.os, hb3.tape, hb3.output, hb3.size, hb3.block⟩); have hz3 : w.heap.size + 1 < w3.heap.size := Nat.lt_of_lt_of_le hz HB3.out.size; have x0 := (R1W.out.below HB3.out hz).cell; have x1 := fun X => ((R1W.out.below HB3.out hz).alloc X).cell; clear hb3; try go_simp)
        | (refine step_append_vs eB rfl (.tmp 23) (.tmp 27) rfl w.heap.size _ _ rfl (VO.allocd (OFW.out.below HB3.out (Nat.le_refl _)) _) _ [.bool s] rfl (VS.one (by first | exact Row.new _ _ _ | exact Row.lit rfl | exact Row.litd rfl)) (bL_one [s]) (by rw [bL_len]; simp; omega) (by simp only [World.size_alloc]; have := HB3.out.size; have := HBW.out.size; omega) ?_; intro v4 w4 ho4 hg4 _; obtain ⟨A5, c5, rfl⟩ := VO.formN (n := i + 1) ho4 (by rw [List.length_append, bL_len]; simp); have HO4 := Lib.hid ho4; have R04 := Lib.hid ((Row.alloc (R0W.out.below HB3.out R0W.out.lt) _).far_own (by decide) (VO.allocd (OFW.out.below HB3.out (Nat.le_refl _)) _).2 hg4); have R14 := Lib.hid ((Row.alloc (R1W.out.below HB3.out hz) _).far_own (by decide) (VO.allocd (OFW.out.below HB3.out (Nat.le_refl _)) _).2 hg4); have HB4 := Lib.hid (own_below_v (w := w) (by have h1 := HBW.out.trans (HB3.out.mono HBW.out.size); have h2 := h1.size; go_grown) (VO.allocd (OFW.out.below HB3.out (Nat.le_refl _)) _) hg4 (by simp only [World.size_alloc]; have := HB3.out.size; have := HBW.out.size; omega)); have z04 := R14.out.cell; have z14 := R14.out.free; clear ho4 hg4))
      | fail
      all_goals
        have OF4 : Hid (OB w4 w.heap.size (.slice A5 (i + 1) c5) ((List.range (i + 1)).map D.fin)) := by
          have h := HO4.out
          unfold Hid OB
          rw [List.range_succ, List.map_append, List.map_cons, List.map_nil, ← HS.out]
          unfold bL at h ⊢
          rw [List.map_append]
          exact h
        go_wp2
        go_roundg (n - (i + 1))
        case rel => exact ⟨i + 1, _, by omega, rfl, by go_num, HB4.out.setCell (p := ⟨w.heap.size + 1, 3, none⟩) (by simp) _, R04.out.far (by simp) _, R14.out.set 3 _, OF4.out.setRow R14.out (by decide) 3 _⟩
        case measure => omega
    · have hie : i = n := by omega
      have hof' : OB wl w.heap.size (.slice Af i cf) ((List.range D.n).map D.fin) := by rw [← HNN.out, ← hie]; exact hof
      have htd : TD wl (.agg #[.int .i64 (V : Int), .int .i64 0, .slice Ar n cr, .slice Af i cf]) (D.raw V) := ⟨_, _, by rw [show (D.raw V).empty = 0 by show ((D.e : Nat) : Int) = 0; rw [HE.out]; rfl]; rfl, (show N3 wl (.slice Ar n cr) (nx3 D.n D.L D.nx) by rw [← HNN.out]; exact HR.out.below hb (Nat.le_refl _)), hof'.nb⟩
      obtain ⟨R, hR⟩ : ∃ R, R = D.mini.raw V := ⟨_, rfl⟩
      have HRR := Lib.hid hR
      have HMM := Lib.hid (HMI.out _ wl htd)
      rw [← hR] at HMM
      have z0 := hr1.cell
      clear hb hr0 hr1 hof hof' htd hR hie
      go_wp2_with (go_at_call 41; refine HMM.out.mono ?_; intro e w6 h6; obtain ⟨A6, c6, A7, c7, rfl, hb6, ht6⟩ := h6.unfold; have HT := Lib.hid ht6; have HB6 := Lib.hid hb6; have RR6 := Lib.hid (R0.out.below hb6 R0.out.lt); have b0 := RR6.out.cell; have b1 := RR6.out.free; clear h6 hb6 ht6 z0)
      refine post_abs2 (fun W => Row W w.heap.size 25 #[.int .i64 R.vars, .int .i64 R.empty, .slice A6 R.next.length c6, .slice A7 R.fin.length c7] ∧ TDO W wl.heap.size (.agg #[.int .i64 R.vars, .int .i64 R.empty, .slice A6 R.next.length c6, .slice A7 R.fin.length c7]) R ∧ Below w.heap.size w W)
        (store4 RR6.out HT.out (HB.out.trans (HB6.out.mono HB.out.size)) (Nat.le_refl _)) ?_
      clear b0 b1 RR6 HT
      rintro W5 ⟨r0, hT, hb⟩
      have b0 := r0.cell
      have q0 := b0 0; have q1 := b0 1; have q2 := b0 2; have q3 := b0 3
      simp only [List.getElem?_toArray, List.getElem?_cons_zero, List.getElem?_cons_succ] at q0 q1 q2 q3
      have HT := Lib.hid (hT.mono HB.out.size); have HBX := Lib.hid hb
      clear b0 r0 hT hb
      refine bodyPost_ret (v := .tuple #[.agg #[.int .i64 R.vars, .int .i64 R.empty, .slice A6 R.next.length c6, .slice A7 R.fin.length c7], .int .i64 0]) (by simp [results, Tryz.results117, go_sem, q0, q1, q2, q3]) rfl ⟨_, rfl, HBX.out, ?_⟩
      rw [← HRR.out]; exact HT.out
end Go.Proofs.YthkfjnmnoanhlaaGreatDoor

set_option linter.unusedSectionVars false
namespace Go.Proofs.YthkfjnmnoanhlaaGreatDoor
open Go.RowKit

section
variable {α : Type} [DecidableEq α] {f : α → α → Nat → α} {L : Nat} {k0 : α} {P : α → Prop}
structure KsI (f : α → α → Nat → α) (L : Nat) (k0 : α) (P : α → Prop) (ks : List α) : Prop where
  nodup : ks.Nodup
  zero : ks[0]? = some k0
  acc : ∀ s ∈ ks, AccK f L k0 s
  hP : ∀ s ∈ ks, P s
theorem KsI.start (h : P k0) : KsI f L k0 P [k0] := ⟨by simp, rfl, fun s hs => by simp at hs; subst hs; exact AccK.zero f L s, fun s hs => by simp at hs; subst hs; exact h⟩
theorem KsI.add {ks : List α} (h : KsI f L k0 P ks) (hok : ∀ a b x, P a → P b → x < L → P (f a b x)) {a b : α} (ha : a ∈ ks) (hb : b ∈ ks) {x : Nat} (hx : x < L) : KsI f L k0 P (addS ks (f a b x)) :=
  ⟨addS_nodup h.nodup, pre_get (addS_pre _ _) h.zero, addS_all h.acc (AccK.step f (h.acc a ha) (h.acc b hb) hx), addS_all h.hP (hok a b x (h.hP a ha) (h.hP b hb) hx)⟩
theorem KsI.ksX {ks : List α} (h : KsI f L k0 P ks) (hok : ∀ a b x, P a → P b → x < L → P (f a b x)) {a b : α} (ha : a ∈ ks) (hb : b ∈ ks) : ∀ {x : Nat}, x ≤ L → KsI f L k0 P (ksX f a b ks x) := by
  intro x
  induction x with
  | zero => intro _; exact h
  | succ x ih =>
    intro hx
    rw [ksX_succ]
    exact (ih (by omega)).add hok ((ksX_pre f a b ks x).subset ha) ((ksX_pre f a b ks x).subset hb) (show x < L from hx)
/-- The successors of a and b, numbered. -/
def Good (f : α → α → Nat → α) (L : Nat) (ks : List α) (a b : α) (l : List Nat) : Prop := l.length = L ∧ ∀ x, x < L → ∃ c, l[x]? = some c ∧ ks[c]? = some (f a b x)
theorem Good.mono {ks ks' : List α} {a b : α} {l : List Nat} (h : Good f L ks a b l) (hp : ks <+: ks') : Good f L ks' a b l :=
  ⟨h.1, fun x hx => by obtain ⟨c, h1, h2⟩ := h.2 x hx; exact ⟨c, h1, pre_get hp h2⟩⟩
theorem Good.made (ks : List α) (a b : α) : Good f L (_root_.Go.Proofs.YthkfjnmnoanhlaaGreatDoor.ksX f a b ks L) a b ((List.range L).map (cX f a b ks)) :=
  ⟨by simp, fun x hx => ⟨cX f a b ks x, by rw [List.getElem?_map, List.getElem?_range hx]; rfl, cX_get f a b ks hx⟩⟩
/-- A key's row, m long. -/
def GRow (f : α → α → Nat → α) (L : Nat) (ks : List α) (W : World) (B : Nat) (a : α) (m : Nat) (v : Value) : Prop :=
  ∃ us : List Value, us.length = m ∧ VO 53 W B v us ∧ ∀ (r : Nat) u, us[r]? = some u → ∃ b l, ks[r]? = some b ∧ Good f L ks a b l ∧ O1 W B u (oI l)
theorem GRow.mono {ks ks' : List α} {W : World} {B : Nat} {a : α} {m : Nat} {v : Value} (h : GRow f L ks W B a m v) (hp : ks <+: ks') : GRow f L ks' W B a m v := by
  obtain ⟨us, h1, h2, h3⟩ := h
  exact ⟨us, h1, h2, fun r u hu => by obtain ⟨b, l, h4, h5, h6⟩ := h3 r u hu; exact ⟨b, l, pre_get hp h4, h5.mono hp, h6⟩⟩
theorem GRow.map {ks : List α} {W W' : World} {B : Nat} {a : α} {m : Nat} {v : Value} (h : GRow f L ks W B a m v) (h1 : ∀ l, VO 53 W B v l → VO 53 W' B v l) (h2 : ∀ u l, VO 3 W B u l → VO 3 W' B u l) : GRow f L ks W' B a m v := by
  obtain ⟨us, h3, h4, h5⟩ := h
  exact ⟨us, h3, h1 _ h4, fun r u hu => by obtain ⟨b, l, h6, h7, h8⟩ := h5 r u hu; exact ⟨b, l, h6, h7, h2 _ _ h8⟩⟩
theorem GRow.nil (ks : List α) (W : World) (B : Nat) (a : α) : GRow f L ks W B a 0 (.slice none 0 0) := ⟨[], rfl, VO.nil _ _ _, fun r u hu => by simp at hu⟩
theorem GRow.lt {ks : List α} {W : World} {B : Nat} {a : α} {m : Nat} {v : Value} (h : GRow f L ks W B a m v) {g : Nat} (hg : v.ownBlock = some g) : g < W.heap.size := by
  obtain ⟨us, _, h2, _⟩ := h; exact h2.blk_lt hg
theorem GRow.one {ks : List α} {W : World} {B : Nat} {a : α} {m : Nat} {v : Value} (h : GRow f L ks W B a m v) : v.oneCell' = true := by
  obtain ⟨us, _, h2, _⟩ := h; exact h2.oneCell
/-- The values are rows of the first keys; no two lie in one block. -/
structure GL (f : α → α → Nat → α) (L : Nat) (ks : List α) (W : World) (B : Nat) (vals : List Value) (m : Nat → Nat) : Prop where
  at' : ∀ (i : Nat) v, vals[i]? = some v → ∃ a, ks[i]? = some a ∧ GRow f L ks W B a (m i) v
  ap : ∀ (i j : Nat) v u, i ≠ j → vals[i]? = some v → vals[j]? = some u → Apart v u
theorem GL.map {ks : List α} {W W' : World} {B : Nat} {vals : List Value} {m : Nat → Nat} (h : GL f L ks W B vals m) (h1 : ∀ v l, VO 53 W B v l → VO 53 W' B v l) (h2 : ∀ u l, VO 3 W B u l → VO 3 W' B u l) : GL f L ks W' B vals m :=
  ⟨fun i v hv => by obtain ⟨a, h3, h4⟩ := h.at' i v hv; exact ⟨a, h3, h4.map (h1 v) h2⟩, h.ap⟩
theorem GL.below {ks : List α} {W W' : World} {B : Nat} {vals : List Value} {m : Nat → Nat} (h : GL f L ks W B vals m) (hb : Below W.heap.size W W') : GL f L ks W' B vals m :=
  h.map (fun _ _ h => h.below hb (Nat.le_refl _)) (fun _ _ h => h.below hb (Nat.le_refl _))
theorem GL.congr {ks : List α} {W : World} {B : Nat} {vals : List Value} {m m' : Nat → Nat} (h : GL f L ks W B vals m) (e : ∀ i, i < vals.length → m i = m' i) : GL f L ks W B vals m' :=
  ⟨fun i v hv => by
    obtain ⟨a, h3, h4⟩ := h.at' i v hv
    exact ⟨a, h3, by rw [← e i (List.getElem?_eq_some_iff.1 hv).1]; exact h4⟩, h.ap⟩
theorem set_get {vals : List Value} {i j : Nat} {v u : Value} (h : (vals.set i v)[j]? = some u) : (j = i ∧ u = v) ∨ (j ≠ i ∧ vals[j]? = some u) := by
  by_cases e : i = j
  · subst e
    rw [List.getElem?_set] at h
    simp only [if_true] at h
    split at h
    · cases h; exact .inl ⟨rfl, rfl⟩
    · cases h
  · rw [List.getElem?_set_ne e] at h
    exact .inr ⟨Ne.symm e, h⟩
/-- One row grows. -/
theorem GL.grow {E1 E2 : TypeId} (e1 : 53 ≠ E1) (e2 : 53 ≠ E2) (e3 : 3 ≠ E1) (e4 : 3 ≠ E2) {ks ks' : List α} {W W' : World} {B : Nat} {vals : List Value} {m : Nat → Nat} (h : GL f L ks W B vals m) {i : Nat} {v v' : Value} (hv : vals[i]? = some v)
    (hp : ks <+: ks') (hk : KeepG E1 E2 v.ownBlock W W') (ho : v'.ownBlock = v.ownBlock ∨ ∃ g, v'.ownBlock = some g ∧ W.heap.size ≤ g) {a : α} (ha : ks[i]? = some a) (hn : GRow f L ks' W' B a (m i + 1) v') :
    GL f L ks' W' B (vals.set i v') (fun r => if r = i then m i + 1 else m r) := by
  obtain ⟨a2, _, us2, hm2, hvo2, _⟩ := h.at' i v hv
  have hni := hvo2.not_int (by decide)
  refine ⟨fun j u hu => ?_, fun j r u z hne hu hz => ?_⟩
  · rcases set_get hu with ⟨rfl, rfl⟩ | ⟨hji, hu⟩
    · exact ⟨a, pre_get hp ha, by simpa using hn⟩
    · obtain ⟨b, h3, h4⟩ := h.at' j u hu
      refine ⟨b, pre_get hp h3, ?_⟩
      simp only [if_neg hji]
      have hap := h.ap j i u v hji hu hv
      refine (h4.mono hp).map (fun l hl => hl.keepG hk e1 e2 ?_) (fun x l hl => VO.keepG hl hk e3 e4 ?_)
      · cases hub : u.ownBlock with
        | none => exact .inl rfl
        | some g => exact .inr (fun e => hap g hub e.symm)
      · cases hub : x.ownBlock with
        | none => exact .inl rfl
        | some g =>
          refine .inr (fun e => ?_)
          rcases hl.2.2 with ⟨hv2, _⟩ | ⟨g2, cap, cur, hv2, _, hg, _⟩
          · rw [hv2] at hub; cases hub
          · rw [hv2] at hub
            simp only [Value.ownBlock, Option.some.injEq] at hub
            subst hub
            exact hni g2 cur (0, 0) e.symm hg
  · have hfar : ∀ (j : Nat) (u : Value), j ≠ i → vals[j]? = some u → Apart v' u := fun j u hj hu g h1 h2 => by
      rcases ho with ho | ⟨g2, ho, hg2⟩
      · exact h.ap j i u v hj hu hv g h2 (ho ▸ h1)
      · obtain ⟨_, _, h4⟩ := h.at' j u hu
        have := h4.lt h2
        rw [ho] at h1
        cases h1
        omega
    rcases set_get hu with ⟨hj, hu'⟩ | ⟨hji, hu'⟩ <;> rcases set_get hz with ⟨hr, hz'⟩ | ⟨hri, hz'⟩
    · exact absurd (hj.trans hr.symm) hne
    · rw [hu']; exact hfar r z hri hz'
    · rw [hz']; exact (hfar j u hji hu').symm
    · exact h.ap j r u z hne hu' hz'
/-- A new row. -/
theorem GL.snoc {ks : List α} {W : World} {B : Nat} {vals : List Value} {m : Nat → Nat} (h : GL f L ks W B vals m) {a : α} (ha : ks[vals.length]? = some a) : GL f L ks W B (vals ++ [.slice none 0 0]) (fun r => if r < vals.length then m r else 0) := by
  have key : ∀ (j : Nat) (u : Value), (vals ++ [Value.slice none 0 0])[j]? = some u → (j < vals.length ∧ vals[j]? = some u) ∨ (j = vals.length ∧ u = .slice none 0 0) := fun j u hu => by
    by_cases hj : j < vals.length
    · rw [List.getElem?_append_left hj] at hu; exact .inl ⟨hj, hu⟩
    · have hlen := (List.getElem?_eq_some_iff.1 hu).1
      simp at hlen
      have : j = vals.length := by omega
      subst this
      simp at hu
      exact .inr ⟨rfl, hu.symm⟩
  refine ⟨fun j u hu => ?_, fun j r u z hne hu hz => ?_⟩
  · rcases key j u hu with ⟨hj, hu⟩ | ⟨rfl, rfl⟩
    · obtain ⟨b, h3, h4⟩ := h.at' j u hu
      exact ⟨b, h3, by rw [if_pos hj]; exact h4⟩
    · exact ⟨a, ha, by rw [if_neg (by omega)]; exact GRow.nil _ _ _ _⟩
  · rcases key j u hu with ⟨hj, hu⟩ | ⟨rfl, rfl⟩ <;> rcases key r z hz with ⟨hr, hz⟩ | ⟨rfl, rfl⟩
    · exact h.ap j r u z hne hu hz
    · intro g h1 h2; cases h2
    · intro g h1 h2; cases h1
    · exact absurd rfl hne
theorem nodup_idx {ks : List α} (h : ks.Nodup) {c : Nat} {s : α} (hc : ks[c]? = some s) : c = ks.idxOf s := by
  have h1 := idx_getK (List.mem_of_getElem? hc)
  have hl := (List.getElem?_eq_some_iff.1 hc).1
  exact (List.getElem?_inj hl h).1 (hc.trans h1.symm)
/-- All rows are there. -/
theorem GL.closed {ks : List α} {W : World} {B : Nat} {vals : List Value} {m : Nat → Nat} (h : GL f L ks W B vals m) (hl : vals.length = ks.length) (hm : ∀ i, i < ks.length → m i = ks.length) : ClosedE f L ks := by
  intro a b x ha hb hx
  obtain ⟨i, hi, rfl⟩ := List.mem_iff_getElem.1 ha
  obtain ⟨r, hr, rfl⟩ := List.mem_iff_getElem.1 hb
  obtain ⟨a2, h3, us, h4, h5, h6⟩ := h.at' i _ (List.getElem?_eq_getElem (by omega))
  rw [hm i hi] at h4
  obtain ⟨b2, l, h7, h8, _⟩ := h6 r _ (List.getElem?_eq_getElem (by omega))
  obtain ⟨c, _, h9⟩ := h8.2 x hx
  rw [List.getElem?_eq_getElem hi] at h3
  rw [List.getElem?_eq_getElem hr] at h7
  cases h3; cases h7
  exact List.mem_of_getElem? h9
theorem GL.n3 {ks : List α} {W : World} {B : Nat} {rv : Value} {vals : List Value} {m : Nat → Nat} (h : GL f L ks W B vals m) (hl : vals.length = ks.length) (hm : ∀ i, i < ks.length → m i = ks.length) (hn : ks.Nodup) (hv : VO 54 W B rv vals) (fin : α → Bool) :
    O3 W B rv (nx3 ks.length L (autE f L k0 ks fin).nx) := by
  refine ⟨vals, hv, by simp [nx3, hl], fun i v hvi => ?_⟩
  have hi : i < ks.length := by rw [← hl]; exact (List.getElem?_eq_some_iff.1 hvi).1
  refine ⟨_, by rw [nx3, List.getElem?_map, List.getElem?_range hi]; rfl, ?_⟩
  obtain ⟨a, h3, us, h4, h5, h6⟩ := h.at' i v hvi
  rw [hm i hi] at h4
  refine ⟨us, h5, by simp [h4], fun r u hu => ?_⟩
  have hr : r < ks.length := by rw [← h4]; exact (List.getElem?_eq_some_iff.1 hu).1
  refine ⟨_, by rw [List.getElem?_map, List.getElem?_range hr]; rfl, ?_⟩
  obtain ⟨b, l, h7, ⟨h8, h9⟩, h10⟩ := h6 r u hu
  have : oI l = (List.range L).map fun x => ((autE f L k0 ks fin).nx i r x : Int) := by
    apply List.ext_getElem?
    intro x
    by_cases hx : x < L
    · obtain ⟨c, h11, h12⟩ := h9 x hx
      rw [oI_at h11, List.getElem?_map, List.getElem?_range hx, Option.map_some]
      have e : (autE f L k0 ks fin).nx i r x = c := by
        show ks.idxOf (f (ks.getD i k0) (ks.getD r k0) x) = c
        rw [getD_some h3, getD_some h7]
        exact (nodup_idx hn h12).symm
      rw [e]
    · rw [List.getElem?_eq_none (by rw [oI_len]; omega), List.getElem?_eq_none (by simp; omega)]
  show O1 W B u (List.map (fun x => ((autE f L k0 ks fin).nx i r x : Int)) (List.range L))
  rw [← this]
  exact h10
end
theorem ExI.setRow {α : Type} [DecidableEq α] {K SK MT : TypeId} {n : Nat} {lit : α → Lit} {kC : α → List Value} {w0 : World} {go gn bm : Nat} {ks : List α} {W : World} (h : ExI K SK MT n lit kC w0 go gn bm ks W) {g : Nat} {E : TypeId} {cs : Array Value} (r : Row W g E cs) (h1 : K ≠ E) (h2 : SK ≠ E) (h3 : MT ≠ E) (hB : w0.heap.size ≤ g) (j : Nat) (u : Value) : ExI K SK MT n lit kC w0 go gn bm ks (W.setCell ⟨g, j, none⟩ u) := by
  obtain ⟨ov, r1, r2⟩ := h.ro
  exact ⟨h.below.setCell (p := ⟨g, j, none⟩) hB _, h.rn.far (Row.ne h.rn r h3) _, h.nm.setCell (fun e => h.nm.ne_row r e) _, ⟨ov, r1.far (Row.ne r1 r h2) _, r2.setFar r h1 j u⟩, h.bd⟩
end Go.Proofs.YthkfjnmnoanhlaaGreatDoor

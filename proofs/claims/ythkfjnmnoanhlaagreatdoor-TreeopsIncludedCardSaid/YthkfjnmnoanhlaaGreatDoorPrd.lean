/- Contract: product of the package treeops, for valid automata over the same variables. -/
/- Contracts: And, Or and Minus of the package treeops, for valid automata over the same variables. -/
/- Contract: Included of the package treeops, for valid automata over the same variables. -/
import Derived.Test.YthkfjnmnoanhlaaGreatDoorExG
import Derived.Test.YthkfjnmnoanhlaaGreatDoorDtP
import Derived.Test.YthkfjnmnoanhlaaGreatDoorSzd
set_option linter.unusedSimpArgs false
set_option linter.unusedVariables false
namespace Go.Proofs.YthkfjnmnoanhlaaGreatDoor
open Go.RowKit

/-- What a product returns. -/
def opR (a b : Dta) (g : Bool → Bool → Bool) (V : Nat) : Raw × Nat := if (prodO a b).length ≤ 64 then ((prodM a b g).raw V, 0) else (zeroR, 10)
/-- The function that product hands to minimal. -/
abbrev FinP (fid : Nat) (g : Bool → Bool → Bool) (a b : Dta) (V : Nat) : Prop := ∀ (w0 : World) (gf gA gB : Nat) (vn vf un uf : Value), Row w0 gf 103 #[.func (.func fid) #[] #[]] → AutV w0 gA V a vn vf → AutV w0 gB V b un uf → ∀ (p : Nat × Nat) (W : World), inP a b p → Below w0.heap.size w0 W →
  Calls Tryz.prog 118 #[pV p, .pointer (some ⟨gf, 0, none⟩), .pointer (some ⟨gA, 0, none⟩), .pointer (some ⟨gB, 0, none⟩)] W fun e W' => e = .returned (.bool (g (a.fin p.1) (b.fin p.2))) ∧ Below W.heap.size W W'
/-- The variables of product. -/
structure PrV (w : World) (G fid V : Nat) (a b : Dta) (vn vf un uf : Value) (W : World) : Prop where
  below : Below G w W
  ha : AutV W G V a vn vf
  hb : AutV W (G + 1) V b un uf
  hf : Row W (G + 1 + 1) 103 #[.func (.func fid) #[] #[]]
  hr : Row W (G + 1 + 1 + 1) 25 #[.int .i64 0, .int .i64 0, .slice none 0 0, .slice none 0 0]
theorem PrV.to {w W W' : World} {G fid V : Nat} {a b : Dta} {vn vf un uf : Value} (h : PrV w G fid V a b vn vf un uf W) (hb : Below W.heap.size W W') (hG : G ≤ W.heap.size) : PrV w G fid V a b vn vf un uf W' :=
  ⟨h.below.trans (hb.mono hG), h.ha.below hb (Nat.le_refl _), h.hb.below hb (Nat.le_refl _), h.hf.below hb h.hf.lt, h.hr.below hb h.hr.lt⟩
theorem two_idx (W : World) (a b c d e f g h : Value) : (Instr.index 55 (.agg #[a, b, c, d, e, f, g, h]) (.int .i64 0)).run Tryz.prog W = .ok (.agg #[a, b, c, d]) W ∧ (Instr.index 55 (.agg #[a, b, c, d, e, f, g, h]) (.int .i64 1)).run Tryz.prog W = .ok (.agg #[e, f, g, h]) W := ⟨by kernel_rfl, by kernel_rfl⟩
set_option maxRecDepth 100000 in
set_option maxHeartbeats 8000000 in
theorem product_ok (fid : Nat) (g : Bool → Bool → Bool) (a b : Dta) (V : Nat) (ha : a.Fit V) (hb : b.Fit V) (hP2 : FinP fid g a b V) (va vb : Value) (w : World) (hva : TD w va (a.raw V)) (hvb : TD w vb (b.raw V)) :
    Calls Tryz.prog 77 #[va, vb, .func (.func fid) #[] #[]] w (RetR w (opR a b g V).1 (opR a b g V).2) := by
  have hL : a.L = b.L := ha.L.trans hb.L.symm
  have hckA := fun W (h : Below w.heap.size w W) => det_check (a.raw V) va W (hva.below h (Nat.le_refl _)) (by have := ha.n64; rw [(a.raw_len V).1, (a.raw_len V).2]; omega)
  rw [a.raw_check ha] at hckA
  have hckB := fun W (h : Below w.heap.size w W) => det_check (b.raw V) vb W (hvb.below h (Nat.le_refl _)) (by have := hb.n64; rw [(b.raw_len V).1, (b.raw_len V).2]; omega)
  rw [b.raw_check hb] at hckB
  have hex := fun (w0 : World) (gA gB : Nat) (vn vf un uf : Value) (hA : AutV w0 gA V a vn vf) (hB : AutV w0 gB V b un uf) =>
    (show Calls Tryz.prog 115 #[.int .i64 (V : Int), .int .i64 64, .agg #[.int .i64 (a.e : Int), .int .i64 (b.e : Int)], .func (.func 116) #[] #[.pointer (some ⟨gA, 0, none⟩), .pointer (some ⟨gB, 0, none⟩)]] w0 (ExRetP (pairF a b) a.L (a.e, b.e) (inP a b) 64 w0) from
      explored_P (inP a b) (fun p hp => ⟨Nat.lt_of_lt_of_le hp.1 ha.n64, Nat.lt_of_lt_of_le hp.2 hb.n64⟩) (pairF a b) V a.L 64 ha.v3 ha.L (by omega) (by omega) (a.e, b.e) ⟨ha.ok.he, hb.ok.he⟩ _ _ w0 (product1 a b V ha hb w0 gA gB vn vf un uf hA hB) (inPr_step ha.ok hb.ok hL))
  have hmi := fun (w0 : World) (gf gA gB : Nat) (vn vf un uf : Value) (hF : Row w0 gf 103 #[.func (.func fid) #[] #[]]) (hA : AutV w0 gA V a vn vf) (hB : AutV w0 gB V b un uf) (o : List (Nat × Nat)) (hE : Expl (pairF a b) a.L (a.e, b.e) o) (hP : ∀ p ∈ o, inP a b p) (hl : o.length ≤ 64) (B : Nat) (kv rv : Value)
      (hk : KO 143 2 w0 B kv (o.map pC)) (hr : N3 w0 rv (nx3 o.length a.L (prodA a b o g).nx)) =>
    (show Calls Tryz.prog 117 #[.int .i64 (V : Int), kv, rv, .func (.func 118) #[] #[.pointer (some ⟨gf, 0, none⟩), .pointer (some ⟨gA, 0, none⟩), .pointer (some ⟨gB, 0, none⟩)]] w0 (RetR w0 ((prodM a b g).raw V) 0) from by
      have h := minimal_P (prodA a b o g) V ⟨hE.ok _, hl, ha.v3, ha.L⟩ rfl o rfl (inP a b) hP (fun p => g (a.fin p.1) (b.fin p.2)) (fun i p hi => by show g (a.fin (o.getD i (a.e, b.e)).1) (b.fin (o.getD i (a.e, b.e)).2) = _; rw [getD_some hi]) _ _ _ w0 (fun p W hp hbw => hP2 w0 gf gA gB vn vf un uf hF hA hB p W hp hbw) B kv rv hk hr
      have e := (prodM_raw ha.ok hb.ok hL g hE).raw (Dta.mini_ok (hE.ok _)) (prodM_raw ha.ok hb.ok hL g hE).L V
      rw [e] at h
      exact h)
  have hlen := fun (o : List (Nat × Nat)) (hE : Expl (pairF a b) a.L (a.e, b.e) o) => (show o.length = (prodO a b).length from hE.len_eq (prodO_expl ha.ok hb.ok hL))
  have hmost := fun (ks : List (Nat × Nat)) (h1 : ks.Nodup) (h2 : ∀ s ∈ ks, AccK (pairF a b) a.L (a.e, b.e) s) => (prodO_expl ha.ok hb.ok hL).most h1 h2
  obtain ⟨vn, vf, rfl, hn, hf⟩ := hva
  obtain ⟨un, uf, rfl, hm, hg⟩ := hvb
  have hvars : (a.raw V).vars = (V : Int) := rfl
  have hemp : (a.raw V).empty = (a.e : Int) := rfl
  have hvars' : (b.raw V).vars = (V : Int) := rfl
  have hemp' : (b.raw V).empty = (b.e : Int) := rfl
  rw [hvars, hemp] at hckA ⊢
  rw [hvars', hemp'] at hckB ⊢
  obtain ⟨A1, c1, rfl, _⟩ := hn.open
  obtain ⟨A2, c2, rfl, _⟩ := hf.open
  obtain ⟨A3, c3, rfl, _⟩ := hm.open
  obtain ⟨A4, c4, rfl, _⟩ := hg.open
  rw [(a.raw_len V).1, (a.raw_len V).2] at hckA
  rw [(b.raw_len V).1, (b.raw_len V).2] at hckB
  rw [(a.raw_len V).1] at hn ⊢
  rw [(a.raw_len V).2] at hf ⊢
  rw [(b.raw_len V).1] at hm ⊢
  rw [(b.raw_len V).2] at hg ⊢
  have HCA := Lib.hid hckA; have HCB := Lib.hid hckB; have HEX := Lib.hid hex; have HMI := Lib.hid hmi; have HLEN := Lib.hid hlen; have HMOST := Lib.hid hmost
  have HN := Lib.hid hn; have HF := Lib.hid hf; have HM := Lib.hid hm; have HG := Lib.hid hg
  clear hckA hckB hex hmi hlen hmost hn hf hm hg hvars hemp hvars' hemp' hP2
  obtain ⟨n, hnn⟩ : ∃ n, n = a.n := ⟨_, rfl⟩
  obtain ⟨m, hmm⟩ : ∃ n, n = b.n := ⟨_, rfl⟩
  obtain ⟨E, hE⟩ : ∃ n, n = a.e := ⟨_, rfl⟩
  obtain ⟨E', hE'⟩ : ∃ n, n = b.e := ⟨_, rfl⟩
  have HV1 := Lib.hid (fun (W : World) (gA : Nat) (h : Row W gA 25 #[.int .i64 (V : Int), .int .i64 (E : Int), .slice A1 n c1, .slice A2 n c2]) (hb : Below w.heap.size w W) => (show AutV W gA V a (.slice A1 a.n c1) (.slice A2 a.n c2) from ⟨by rw [← hE, ← hnn]; exact h, HN.out.below hb (Nat.le_refl _), HF.out.below hb (Nat.le_refl _)⟩))
  have HV2 := Lib.hid (fun (W : World) (gA : Nat) (h : Row W gA 25 #[.int .i64 (V : Int), .int .i64 (E' : Int), .slice A3 m c3, .slice A4 m c4]) (hb : Below w.heap.size w W) => (show AutV W gA V b (.slice A3 b.n c3) (.slice A4 b.n c4) from ⟨by rw [← hE', ← hmm]; exact h, HM.out.below hb (Nat.le_refl _), HG.out.below hb (Nat.le_refl _)⟩))
  rw [← hnn, ← hE] at HCA
  rw [← hmm, ← hE'] at HCB
  rw [← hnn] at HV1
  rw [← hmm] at HV2
  have HV1' : Hid (∀ (W : World) (gA : Nat), AutV W gA V a (.slice A1 n c1) (.slice A2 n c2) → Row W gA 25 #[.int .i64 (V : Int), .int .i64 (E : Int), .slice A1 n c1, .slice A2 n c2]) := fun W gA h => by rw [hE]; exact h.row
  have HV2' : Hid (∀ (W : World) (gA : Nat), AutV W gA V b (.slice A3 m c3) (.slice A4 m c4) → Row W gA 25 #[.int .i64 (V : Int), .int .i64 (E' : Int), .slice A3 m c3, .slice A4 m c4]) := fun W gA h => by rw [hE']; exact h.row
  rw [← hE, ← hE', ← hnn, ← hmm]
  have HEE := Lib.hid hE; have HEE' := Lib.hid hE'
  clear hnn hmm hE hE' HN HF HM HG
  obtain ⟨R, hR⟩ : ∃ R, R = (opR a b g V) := ⟨_, rfl⟩
  have HRR := Lib.hid hR
  rw [← hR]
  clear hR
  go_enter Tryz.func77, Tryz.ntmps77
  go_wp2
  refine wp_abs (PrV w w.heap.size fid V a b (.slice A1 n c1) (.slice A2 n c2) (.slice A3 m c3) (.slice A4 m c4))
    ⟨by go_grown, HV1.out _ _ ((((Row.new _ _ _).alloc _).alloc _).alloc _) (by go_grown), HV2.out _ _ (((Row.lit (by simp)).alloc _).alloc _) (by go_grown), (Row.lit (by simp)).alloc _, Row.lit (by simp)⟩ ?_
  rintro W0 hp
  have HP := Lib.hid hp
  clear hp
  go_loopg [17] 2 (fun gk q wr => ∃ i : Nat, i ≤ 2 ∧ gk = 2 - i ∧ q = .int .i64 i ∧ PrV w w.heap.size fid V a b (.slice A1 n c1) (.slice A2 n c2) (.slice A3 m c3) (.slice A4 m c4) wr)
  case atStart => exact ⟨0, by omega, rfl, rfl, HP.out⟩
  case round =>
    clear HP
    obtain ⟨i, hi, rfl, rfl, hp⟩ := hrel
    obtain ⟨wl, hwl⟩ : ∃ y, y = wr := ⟨_, rfl⟩
    subst hwl
    have HP := Lib.hid hp
    have hsz := hp.below.size
    clear hp
    by_cases hlt : i < 2
    · have h01 : i = 0 ∨ i = 1 := by omega
      have hix := two_idx wl (.int .i64 (V : Int)) (.int .i64 (E : Int)) (.slice A1 n c1) (.slice A2 n c2) (.int .i64 (V : Int)) (.int .i64 (E' : Int)) (.slice A3 m c3) (.slice A4 m c4)
      obtain ⟨hi0, hi1⟩ := hix
      rcases h01 with rfl | rfl
      · go_wp2_with (go_at_call 50; refine (HCA.out _ (by have := HP.out.below; go_grown)).mono ?_; rintro e w2 ⟨rfl, hb2⟩; have HB2 := Lib.hid hb2; clear hb2)
        go_roundg 1
        case rel => exact ⟨1, by omega, rfl, by go_num, HP.out.to ((Below.alloc (Below.refl _ _) (Nat.le_refl _) _).trans (HB2.out.mono (by simp))) hsz⟩
        case measure => omega
      · go_wp2_with (go_at_call 50; refine (HCB.out _ (by have := HP.out.below; go_grown)).mono ?_; rintro e w2 ⟨rfl, hb2⟩; have HB2 := Lib.hid hb2; clear hb2)
        go_roundg 0
        case rel => exact ⟨2, by omega, rfl, by go_num, HP.out.to ((Below.alloc (Below.refl _ _) (Nat.le_refl _) _).trans (HB2.out.mono (by simp))) hsz⟩
        case measure => omega
    · have hp := HP.out
      have y0 := (HV1'.out _ _ hp.ha).cell; have y1 := (HV2'.out _ _ hp.hb).cell
      have HEXP := Lib.hid (HEX.out wl w.heap.size (w.heap.size + 1) _ _ _ _ hp.ha hp.hb)
      rw [← HEE.out, ← HEE'.out] at HEXP
      clear hp HEX HCA HCB
      go_upto_region 11 with (go_at_call 115; refine HEXP.out.mono ?_; intro e w2 h2; obtain ⟨kv, rv, bo, rfl, hb2, hcase⟩ := h2.out; have HB2 := Lib.hid hb2; have HCASE := Lib.hid hcase; clear h2 hb2 hcase)
      have HP2 := Lib.hid (HP.out.to HB2.out hsz)
      have y0 := (HV1'.out _ _ HP2.out.ha).cell
      have z0 := HP2.out.hr.cell; have z1 := HP2.out.hr.free
      have hsz2 := HP2.out.below.size
      rw [HEE.out, HEE'.out] at HCASE
      rcases HCASE.out with ⟨rfl, o, hEo, hPo, hlo, hko, hro⟩ | ⟨rfl, ks, hk1, hk2, hk3⟩
      · have hok : R = ((prodM a b g).raw V, 0) := by rw [HRR.out]; unfold opR; rw [if_pos (by rw [← HLEN.out o hEo]; exact hlo)]
        have HMM := Lib.hid (HMI.out w2 (w.heap.size + 1 + 1) w.heap.size (w.heap.size + 1) _ _ _ _ HP2.out.hf HP2.out.ha HP2.out.hb o hEo hPo hlo _ kv rv hko (hro (fun p => g (a.fin p.1) (b.fin p.2))).n3)
        have HOK := Lib.hid hok
        obtain ⟨R2, hR2⟩ : ∃ R, R = (prodM a b g).raw V := ⟨_, rfl⟩
        rw [← hR2] at HMM
        have HR2 := Lib.hid hR2
        clear HCASE hEo hPo hlo hko hro hok hR2
        go_wp2_with (go_at_call 117; refine HMM.out.mono ?_; intro e w6 h6; obtain ⟨A6, c6, A7, c7, rfl, hb6, ht6⟩ := h6.unfold; have HT := Lib.hid ht6; have HB6 := Lib.hid hb6; have RR6 := Lib.hid (HP2.out.hr.below hb6 HP2.out.hr.lt); have b0 := RR6.out.cell; have b1 := RR6.out.free; clear h6 hb6 ht6 y0 z0 z1)
        refine post_abs2 (fun W => Row W (w.heap.size + 1 + 1 + 1) 25 #[.int .i64 R2.vars, .int .i64 R2.empty, .slice A6 R2.next.length c6, .slice A7 R2.fin.length c7] ∧ TDO W w2.heap.size (.agg #[.int .i64 R2.vars, .int .i64 R2.empty, .slice A6 R2.next.length c6, .slice A7 R2.fin.length c7]) R2 ∧ Below w.heap.size w W)
          (store4 RR6.out HT.out (HP2.out.below.trans (HB6.out.mono hsz2)) (by omega)) ?_
        clear b0 b1 RR6 HT
        rintro W5 ⟨r0, hT, hb⟩
        have b0 := r0.cell
        have q0 := b0 0; have q1 := b0 1; have q2 := b0 2; have q3 := b0 3
        simp only [List.getElem?_toArray, List.getElem?_cons_zero, List.getElem?_cons_succ] at q0 q1 q2 q3
        have HT := Lib.hid (hT.mono hsz2); have HBX := Lib.hid hb
        clear b0 r0 hT hb
        exact bodyPost_ret (v := .tuple #[.agg #[.int .i64 R2.vars, .int .i64 R2.empty, .slice A6 R2.next.length c6, .slice A7 R2.fin.length c7], .int .i64 0]) (by simp [results, Tryz.results77, go_sem, q0, q1, q2, q3]) rfl ⟨_, by rw [HOK.out]; rfl, HBX.out, by rw [HOK.out]; show TDO _ _ _ ((prodM a b g).raw V); rw [← HR2.out]; exact HT.out⟩
      · have hok : R = (zeroR, 10) := by rw [HRR.out]; unfold opR; rw [if_neg (by have := HMOST.out ks hk1 hk2; omega)]
        have HOK := Lib.hid hok
        clear HCASE hk1 hk2 hk3 hok y0
        go_wp2
        refine post_abs2 (fun W => Row W (w.heap.size + 1 + 1 + 1) 25 #[.int .i64 0, .int .i64 0, .slice none 0 0, .slice none 0 0] ∧ TDO W w2.heap.size zeroV zeroR ∧ Below w.heap.size w W) (store4 HP2.out.hr (zeroV_tdo _ _) HP2.out.below (by omega)) ?_
        clear z0 z1
        rintro W5 ⟨r0, hT, hb⟩
        have b0 := r0.cell
        have q0 := b0 0; have q1 := b0 1; have q2 := b0 2; have q3 := b0 3
        simp only [List.getElem?_toArray, List.getElem?_cons_zero, List.getElem?_cons_succ] at q0 q1 q2 q3
        have HB := Lib.hid hb
        clear b0 r0 hT hb
        exact bodyPost_ret (v := .tuple #[zeroV, .int .i64 10]) (by simp [results, Tryz.results77, go_sem, q0, q1, q2, q3, zeroV]) rfl ⟨_, by rw [HOK.out]; rfl, HB.out, by rw [HOK.out]; exact zeroV_tdo _ _⟩
end Go.Proofs.YthkfjnmnoanhlaaGreatDoor

namespace Go.Proofs.YthkfjnmnoanhlaaGreatDoor
open Go.RowKit

set_option maxRecDepth 100000 in
set_option maxHeartbeats 4000000 in
theorem And_ok (a b : Dta) (V : Nat) (ha : a.Fit V) (hb : b.Fit V) (va vb : Value) (w : World) (hva : TD w va (a.raw V)) (hvb : TD w vb (b.raw V)) :
    Calls Tryz.prog 31 #[va, vb] w (RetR w (opR a b (fun p q => p && q) V).1 (opR a b (fun p q => p && q) V).2) := by
  have hpr := fun W (h : Below w.heap.size w W) => product_ok 78 (fun p q => p && q) a b V ha hb (fun w0 gf gA gB vn vf un uf hF hA hB p W hp hbw => product2_And a b V ha hb w0 gf gA gB _ vn vf un uf hF hA hB p hp W hbw) va vb W (hva.below h (Nat.le_refl _)) (hvb.below h (Nat.le_refl _))
  obtain ⟨A1, c1, A2, c2, rfl⟩ := hva.form
  obtain ⟨A3, c3, A4, c4, rfl⟩ := hvb.form
  obtain ⟨R, hR⟩ : ∃ R, R = opR a b (fun p q => p && q) V := ⟨_, rfl⟩
  rw [← hR] at hpr ⊢
  obtain ⟨ra, hra⟩ : ∃ R, R = a.raw V := ⟨_, rfl⟩
  obtain ⟨rb, hrb⟩ : ∃ R, R = b.raw V := ⟨_, rfl⟩
  rw [← hra, ← hrb] at hpr ⊢
  obtain ⟨n1, h1⟩ : ∃ n, n = ra.next.length := ⟨_, rfl⟩
  obtain ⟨n2, h2⟩ : ∃ n, n = ra.fin.length := ⟨_, rfl⟩
  obtain ⟨n3, h3⟩ : ∃ n, n = rb.next.length := ⟨_, rfl⟩
  obtain ⟨n4, h4⟩ : ∃ n, n = rb.fin.length := ⟨_, rfl⟩
  obtain ⟨V1, h5⟩ : ∃ n, n = ra.vars := ⟨_, rfl⟩
  obtain ⟨E1, h6⟩ : ∃ n, n = ra.empty := ⟨_, rfl⟩
  obtain ⟨V2, h7⟩ : ∃ n, n = rb.vars := ⟨_, rfl⟩
  obtain ⟨E2, h8⟩ : ∃ n, n = rb.empty := ⟨_, rfl⟩
  rw [← h1, ← h2, ← h3, ← h4, ← h5, ← h6, ← h7, ← h8] at hpr ⊢
  have HPR := Lib.hid hpr
  clear hpr hva hvb hR hra hrb h1 h2 h3 h4 h5 h6 h7 h8
  obtain ⟨R2, k⟩ := R
  simp only at HPR ⊢
  go_enter Tryz.func31, Tryz.ntmps31
  go_upto_region 1 with fail
  refine wp_abs (fun W => Below w.heap.size w W ∧ Row W w.heap.size 25 #[.int .i64 V1, .int .i64 E1, .slice A1 n1 c1, .slice A2 n2 c2] ∧ Row W (w.heap.size + 1) 25 #[.int .i64 V2, .int .i64 E2, .slice A3 n3 c3, .slice A4 n4 c4] ∧ Row W (w.heap.size + 1 + 1) 25 #[.int .i64 0, .int .i64 0, .slice none 0 0, .slice none 0 0])
    ⟨by go_grown, ((Row.new _ _ _).alloc _).alloc _, (Row.lit (by simp)).alloc _, Row.lit (by simp)⟩ ?_
  rintro W ⟨hb, r1, r2, r3⟩
  have y0 := r1.cell; have y1 := r2.cell
  have HB := Lib.hid hb; have R3 := Lib.hid r3
  have hsz := hb.size
  clear hb r1 r2 r3
  go_wp2_with (go_at_call 77; refine (HPR.out _ HB.out).mono ?_; intro e w6 h6; obtain ⟨A6, c6, A7, c7, rfl, hb6, ht6⟩ := h6.unfold; have HT := Lib.hid ht6; have HB6 := Lib.hid hb6; have RR6 := Lib.hid (R3.out.below hb6 R3.out.lt); have b0 := RR6.out.cell; have b1 := RR6.out.free; clear h6 hb6 ht6 y0 y1)
  refine post_abs2 (fun X => Row X (w.heap.size + 1 + 1) 25 #[.int .i64 R2.vars, .int .i64 R2.empty, .slice A6 R2.next.length c6, .slice A7 R2.fin.length c7] ∧ TDO X W.heap.size (.agg #[.int .i64 R2.vars, .int .i64 R2.empty, .slice A6 R2.next.length c6, .slice A7 R2.fin.length c7]) R2 ∧ Below w.heap.size w X)
    (store4 RR6.out HT.out (HB.out.trans (HB6.out.mono hsz)) (by omega)) ?_
  clear b0 b1 RR6 HT
  rintro W5 ⟨r0, hT, hb⟩
  have b0 := r0.cell
  have q0 := b0 0; have q1 := b0 1; have q2 := b0 2; have q3 := b0 3
  simp only [List.getElem?_toArray, List.getElem?_cons_zero, List.getElem?_cons_succ] at q0 q1 q2 q3
  have HT := Lib.hid (hT.mono hsz); have HBX := Lib.hid hb
  clear b0 r0 hT hb
  exact bodyPost_ret (v := .tuple #[.agg #[.int .i64 R2.vars, .int .i64 R2.empty, .slice A6 R2.next.length c6, .slice A7 R2.fin.length c7], .int .i64 (k : Int)]) (by simp [results, Tryz.results31, go_sem, q0, q1, q2, q3]) rfl ⟨_, rfl, HBX.out, HT.out⟩
set_option maxRecDepth 100000 in
set_option maxHeartbeats 4000000 in
theorem Or_ok (a b : Dta) (V : Nat) (ha : a.Fit V) (hb : b.Fit V) (va vb : Value) (w : World) (hva : TD w va (a.raw V)) (hvb : TD w vb (b.raw V)) :
    Calls Tryz.prog 33 #[va, vb] w (RetR w (opR a b (fun p q => p || q) V).1 (opR a b (fun p q => p || q) V).2) := by
  have hpr := fun W (h : Below w.heap.size w W) => product_ok 80 (fun p q => p || q) a b V ha hb (fun w0 gf gA gB vn vf un uf hF hA hB p W hp hbw => product2_Or a b V ha hb w0 gf gA gB _ vn vf un uf hF hA hB p hp W hbw) va vb W (hva.below h (Nat.le_refl _)) (hvb.below h (Nat.le_refl _))
  obtain ⟨A1, c1, A2, c2, rfl⟩ := hva.form
  obtain ⟨A3, c3, A4, c4, rfl⟩ := hvb.form
  obtain ⟨R, hR⟩ : ∃ R, R = opR a b (fun p q => p || q) V := ⟨_, rfl⟩
  rw [← hR] at hpr ⊢
  obtain ⟨ra, hra⟩ : ∃ R, R = a.raw V := ⟨_, rfl⟩
  obtain ⟨rb, hrb⟩ : ∃ R, R = b.raw V := ⟨_, rfl⟩
  rw [← hra, ← hrb] at hpr ⊢
  obtain ⟨n1, h1⟩ : ∃ n, n = ra.next.length := ⟨_, rfl⟩
  obtain ⟨n2, h2⟩ : ∃ n, n = ra.fin.length := ⟨_, rfl⟩
  obtain ⟨n3, h3⟩ : ∃ n, n = rb.next.length := ⟨_, rfl⟩
  obtain ⟨n4, h4⟩ : ∃ n, n = rb.fin.length := ⟨_, rfl⟩
  obtain ⟨V1, h5⟩ : ∃ n, n = ra.vars := ⟨_, rfl⟩
  obtain ⟨E1, h6⟩ : ∃ n, n = ra.empty := ⟨_, rfl⟩
  obtain ⟨V2, h7⟩ : ∃ n, n = rb.vars := ⟨_, rfl⟩
  obtain ⟨E2, h8⟩ : ∃ n, n = rb.empty := ⟨_, rfl⟩
  rw [← h1, ← h2, ← h3, ← h4, ← h5, ← h6, ← h7, ← h8] at hpr ⊢
  have HPR := Lib.hid hpr
  clear hpr hva hvb hR hra hrb h1 h2 h3 h4 h5 h6 h7 h8
  obtain ⟨R2, k⟩ := R
  simp only at HPR ⊢
  go_enter Tryz.func33, Tryz.ntmps33
  go_upto_region 1 with fail
  refine wp_abs (fun W => Below w.heap.size w W ∧ Row W w.heap.size 25 #[.int .i64 V1, .int .i64 E1, .slice A1 n1 c1, .slice A2 n2 c2] ∧ Row W (w.heap.size + 1) 25 #[.int .i64 V2, .int .i64 E2, .slice A3 n3 c3, .slice A4 n4 c4] ∧ Row W (w.heap.size + 1 + 1) 25 #[.int .i64 0, .int .i64 0, .slice none 0 0, .slice none 0 0])
    ⟨by go_grown, ((Row.new _ _ _).alloc _).alloc _, (Row.lit (by simp)).alloc _, Row.lit (by simp)⟩ ?_
  rintro W ⟨hb, r1, r2, r3⟩
  have y0 := r1.cell; have y1 := r2.cell
  have HB := Lib.hid hb; have R3 := Lib.hid r3
  have hsz := hb.size
  clear hb r1 r2 r3
  go_wp2_with (go_at_call 77; refine (HPR.out _ HB.out).mono ?_; intro e w6 h6; obtain ⟨A6, c6, A7, c7, rfl, hb6, ht6⟩ := h6.unfold; have HT := Lib.hid ht6; have HB6 := Lib.hid hb6; have RR6 := Lib.hid (R3.out.below hb6 R3.out.lt); have b0 := RR6.out.cell; have b1 := RR6.out.free; clear h6 hb6 ht6 y0 y1)
  refine post_abs2 (fun X => Row X (w.heap.size + 1 + 1) 25 #[.int .i64 R2.vars, .int .i64 R2.empty, .slice A6 R2.next.length c6, .slice A7 R2.fin.length c7] ∧ TDO X W.heap.size (.agg #[.int .i64 R2.vars, .int .i64 R2.empty, .slice A6 R2.next.length c6, .slice A7 R2.fin.length c7]) R2 ∧ Below w.heap.size w X)
    (store4 RR6.out HT.out (HB.out.trans (HB6.out.mono hsz)) (by omega)) ?_
  clear b0 b1 RR6 HT
  rintro W5 ⟨r0, hT, hb⟩
  have b0 := r0.cell
  have q0 := b0 0; have q1 := b0 1; have q2 := b0 2; have q3 := b0 3
  simp only [List.getElem?_toArray, List.getElem?_cons_zero, List.getElem?_cons_succ] at q0 q1 q2 q3
  have HT := Lib.hid (hT.mono hsz); have HBX := Lib.hid hb
  clear b0 r0 hT hb
  exact bodyPost_ret (v := .tuple #[.agg #[.int .i64 R2.vars, .int .i64 R2.empty, .slice A6 R2.next.length c6, .slice A7 R2.fin.length c7], .int .i64 (k : Int)]) (by simp [results, Tryz.results33, go_sem, q0, q1, q2, q3]) rfl ⟨_, rfl, HBX.out, HT.out⟩
set_option maxRecDepth 100000 in
set_option maxHeartbeats 4000000 in
theorem Minus_ok (a b : Dta) (V : Nat) (ha : a.Fit V) (hb : b.Fit V) (va vb : Value) (w : World) (hva : TD w va (a.raw V)) (hvb : TD w vb (b.raw V)) :
    Calls Tryz.prog 35 #[va, vb] w (RetR w (opR a b (fun p q => p && !q) V).1 (opR a b (fun p q => p && !q) V).2) := by
  have hpr := fun W (h : Below w.heap.size w W) => product_ok 81 (fun p q => p && !q) a b V ha hb (fun w0 gf gA gB vn vf un uf hF hA hB p W hp hbw => product2_Minus a b V ha hb w0 gf gA gB _ vn vf un uf hF hA hB p hp W hbw) va vb W (hva.below h (Nat.le_refl _)) (hvb.below h (Nat.le_refl _))
  obtain ⟨A1, c1, A2, c2, rfl⟩ := hva.form
  obtain ⟨A3, c3, A4, c4, rfl⟩ := hvb.form
  obtain ⟨R, hR⟩ : ∃ R, R = opR a b (fun p q => p && !q) V := ⟨_, rfl⟩
  rw [← hR] at hpr ⊢
  obtain ⟨ra, hra⟩ : ∃ R, R = a.raw V := ⟨_, rfl⟩
  obtain ⟨rb, hrb⟩ : ∃ R, R = b.raw V := ⟨_, rfl⟩
  rw [← hra, ← hrb] at hpr ⊢
  obtain ⟨n1, h1⟩ : ∃ n, n = ra.next.length := ⟨_, rfl⟩
  obtain ⟨n2, h2⟩ : ∃ n, n = ra.fin.length := ⟨_, rfl⟩
  obtain ⟨n3, h3⟩ : ∃ n, n = rb.next.length := ⟨_, rfl⟩
  obtain ⟨n4, h4⟩ : ∃ n, n = rb.fin.length := ⟨_, rfl⟩
  obtain ⟨V1, h5⟩ : ∃ n, n = ra.vars := ⟨_, rfl⟩
  obtain ⟨E1, h6⟩ : ∃ n, n = ra.empty := ⟨_, rfl⟩
  obtain ⟨V2, h7⟩ : ∃ n, n = rb.vars := ⟨_, rfl⟩
  obtain ⟨E2, h8⟩ : ∃ n, n = rb.empty := ⟨_, rfl⟩
  rw [← h1, ← h2, ← h3, ← h4, ← h5, ← h6, ← h7, ← h8] at hpr ⊢
  have HPR := Lib.hid hpr
  clear hpr hva hvb hR hra hrb h1 h2 h3 h4 h5 h6 h7 h8
  obtain ⟨R2, k⟩ := R
  simp only at HPR ⊢
  go_enter Tryz.func35, Tryz.ntmps35
  go_upto_region 1 with fail
  refine wp_abs (fun W => Below w.heap.size w W ∧ Row W w.heap.size 25 #[.int .i64 V1, .int .i64 E1, .slice A1 n1 c1, .slice A2 n2 c2] ∧ Row W (w.heap.size + 1) 25 #[.int .i64 V2, .int .i64 E2, .slice A3 n3 c3, .slice A4 n4 c4] ∧ Row W (w.heap.size + 1 + 1) 25 #[.int .i64 0, .int .i64 0, .slice none 0 0, .slice none 0 0])
    ⟨by go_grown, ((Row.new _ _ _).alloc _).alloc _, (Row.lit (by simp)).alloc _, Row.lit (by simp)⟩ ?_
  rintro W ⟨hb, r1, r2, r3⟩
  have y0 := r1.cell; have y1 := r2.cell
  have HB := Lib.hid hb; have R3 := Lib.hid r3
  have hsz := hb.size
  clear hb r1 r2 r3
  go_wp2_with (go_at_call 77; refine (HPR.out _ HB.out).mono ?_; intro e w6 h6; obtain ⟨A6, c6, A7, c7, rfl, hb6, ht6⟩ := h6.unfold; have HT := Lib.hid ht6; have HB6 := Lib.hid hb6; have RR6 := Lib.hid (R3.out.below hb6 R3.out.lt); have b0 := RR6.out.cell; have b1 := RR6.out.free; clear h6 hb6 ht6 y0 y1)
  refine post_abs2 (fun X => Row X (w.heap.size + 1 + 1) 25 #[.int .i64 R2.vars, .int .i64 R2.empty, .slice A6 R2.next.length c6, .slice A7 R2.fin.length c7] ∧ TDO X W.heap.size (.agg #[.int .i64 R2.vars, .int .i64 R2.empty, .slice A6 R2.next.length c6, .slice A7 R2.fin.length c7]) R2 ∧ Below w.heap.size w X)
    (store4 RR6.out HT.out (HB.out.trans (HB6.out.mono hsz)) (by omega)) ?_
  clear b0 b1 RR6 HT
  rintro W5 ⟨r0, hT, hb⟩
  have b0 := r0.cell
  have q0 := b0 0; have q1 := b0 1; have q2 := b0 2; have q3 := b0 3
  simp only [List.getElem?_toArray, List.getElem?_cons_zero, List.getElem?_cons_succ] at q0 q1 q2 q3
  have HT := Lib.hid (hT.mono hsz); have HBX := Lib.hid hb
  clear b0 r0 hT hb
  exact bodyPost_ret (v := .tuple #[.agg #[.int .i64 R2.vars, .int .i64 R2.empty, .slice A6 R2.next.length c6, .slice A7 R2.fin.length c7], .int .i64 (k : Int)]) (by simp [results, Tryz.results35, go_sem, q0, q1, q2, q3]) rfl ⟨_, rfl, HBX.out, HT.out⟩
end Go.Proofs.YthkfjnmnoanhlaaGreatDoor

namespace Go.Proofs.YthkfjnmnoanhlaaGreatDoor
open Go.RowKit

/-- What Included returns. -/
def inclO (a b : Dta) : List Lf × Bool × Nat := if (prodO a b).length ≤ 64 then ((smallO (prodM a b fun p q => p && !q)).1, decide ((smallO (prodM a b fun p q => p && !q)).2.2 = 0) && !(smallO (prodM a b fun p q => p && !q)).2.1, (smallO (prodM a b fun p q => p && !q)).2.2) else ([], false, 10)
theorem prodM_fit {a b : Dta} {V : Nat} (ha : a.Fit V) (hb : b.Fit V) (g : Bool → Bool → Bool) (hl : (prodO a b).length ≤ 64) : (prodM a b g).Fit V :=
  ⟨(prodM_is ha.ok hb.ok (ha.L.trans hb.L.symm) g).can.ok, Nat.le_trans (prodM_n ha.ok hb.ok (ha.L.trans hb.L.symm) g) hl, ha.v3, (prodM_is ha.ok hb.ok (ha.L.trans hb.L.symm) g).hL.trans ha.L⟩
set_option maxRecDepth 100000 in
set_option maxHeartbeats 4000000 in
theorem included_ok (a b : Dta) (V : Nat) (ha : a.Fit V) (hb : b.Fit V) (va vb : Value) (w : World) (hva : TD w va (a.raw V)) (hvb : TD w vb (b.raw V)) :
    Calls Tryz.prog 30 #[va, vb] w (RetSm w (inclO a b)) := by
  have hmi := fun W (h : Below w.heap.size w W) => Minus_ok a b V ha hb va vb W (hva.below h (Nat.le_refl _)) (hvb.below h (Nat.le_refl _))
  have hsm := fun (hl : (prodO a b).length ≤ 64) v W (h : TD W v ((prodM a b fun p q => p && !q).raw V)) => smallest_ok (prodM a b fun p q => p && !q) V (prodM_fit ha hb _ hl) v W h
  obtain ⟨A1, c1, A2, c2, rfl⟩ := hva.form
  obtain ⟨A3, c3, A4, c4, rfl⟩ := hvb.form
  obtain ⟨R, hR⟩ : ∃ R, R = inclO a b := ⟨_, rfl⟩
  rw [← hR]
  have HRR := Lib.hid hR
  obtain ⟨ra, hra⟩ : ∃ R, R = a.raw V := ⟨_, rfl⟩
  obtain ⟨rb, hrb⟩ : ∃ R, R = b.raw V := ⟨_, rfl⟩
  rw [← hra, ← hrb] at hmi ⊢
  obtain ⟨n1, h1⟩ : ∃ n, n = ra.next.length := ⟨_, rfl⟩
  obtain ⟨n2, h2⟩ : ∃ n, n = ra.fin.length := ⟨_, rfl⟩
  obtain ⟨n3, h3⟩ : ∃ n, n = rb.next.length := ⟨_, rfl⟩
  obtain ⟨n4, h4⟩ : ∃ n, n = rb.fin.length := ⟨_, rfl⟩
  obtain ⟨V1, h5⟩ : ∃ n, n = ra.vars := ⟨_, rfl⟩
  obtain ⟨E1, h6⟩ : ∃ n, n = ra.empty := ⟨_, rfl⟩
  obtain ⟨V2, h7⟩ : ∃ n, n = rb.vars := ⟨_, rfl⟩
  obtain ⟨E2, h8⟩ : ∃ n, n = rb.empty := ⟨_, rfl⟩
  rw [← h1, ← h2, ← h3, ← h4, ← h5, ← h6, ← h7, ← h8] at hmi ⊢
  have HMI := Lib.hid hmi; have HSM := Lib.hid hsm
  clear hmi hsm hva hvb hR hra hrb h1 h2 h3 h4 h5 h6 h7 h8 ha hb
  by_cases hl : (prodO a b).length ≤ 64
  · have hop : opR a b (fun p q => p && !q) V = ((prodM a b fun p q => p && !q).raw V, 0) := by unfold opR; rw [if_pos hl]
    rw [hop] at HMI
    have HS := Lib.hid (HSM.out hl)
    obtain ⟨S, hS⟩ : ∃ S, S = smallO (prodM a b fun p q => p && !q) := ⟨_, rfl⟩
    have HR2 : Hid (R = (S.1, decide (S.2.2 = 0) && !S.2.1, S.2.2)) := by unfold Hid; rw [HRR.out, hS]; unfold inclO; rw [if_pos hl]
    rw [← hS] at HS
    obtain ⟨M, hM⟩ : ∃ M, M = (prodM a b fun p q => p && !q).raw V := ⟨_, rfl⟩
    rw [← hM] at HS HMI
    clear hop hl hS hM HRR HSM
    obtain ⟨S1, S2, S3⟩ := S
    simp only at HR2
    go_enter Tryz.func30, Tryz.ntmps30
    go_upto_region 1 with fail
    refine wp_abs (fun W => Below w.heap.size w W ∧ Row W w.heap.size 25 #[.int .i64 V1, .int .i64 E1, .slice A1 n1 c1, .slice A2 n2 c2] ∧ Row W (w.heap.size + 1) 25 #[.int .i64 V2, .int .i64 E2, .slice A3 n3 c3, .slice A4 n4 c4])
      ⟨by go_grown, (Row.new _ _ _).alloc _, Row.lit (by simp)⟩ ?_
    rintro W ⟨hb, r1, r2⟩
    have y0 := r1.cell; have y1 := r2.cell
    have HB := Lib.hid hb
    clear hb r1 r2
    go_upto_region 2 with (go_at_call 35; refine (HMI.out _ HB.out).mono ?_; intro e w6 h6; obtain ⟨A6, c6, A7, c7, rfl, hb6, ht6⟩ := h6.unfold; have HT := Lib.hid ht6.td; have HB6 := Lib.hid (HB.out.trans (hb6.mono HB.out.size)); clear h6 hb6 ht6)
    refine wp_abs (fun X => Below w.heap.size w X ∧ Row X w6.heap.size 25 #[.int .i64 M.vars, .int .i64 M.empty, .slice A6 M.next.length c6, .slice A7 M.fin.length c7] ∧ TD X (.agg #[.int .i64 M.vars, .int .i64 M.empty, .slice A6 M.next.length c6, .slice A7 M.fin.length c7]) M)
      ⟨by have h1 := HB6.out; have h2 := h1.size; go_grown, Row.new _ _ _, HT.out.below (Below.alloc (Below.refl _ _) (Nat.le_refl _) _) (Nat.le_refl _)⟩ ?_
    clear HB6 HT HB y0 y1
    rintro X ⟨hb, r1, ht⟩
    have y0 := r1.cell
    have HB := Lib.hid hb; have HT := Lib.hid ht
    clear hb r1 ht
    obtain ⟨mv, hmv⟩ : ∃ x, x = M.vars := ⟨_, rfl⟩
    obtain ⟨me, hme⟩ : ∃ x, x = M.empty := ⟨_, rfl⟩
    obtain ⟨mn, hmn⟩ : ∃ x, x = M.next.length := ⟨_, rfl⟩
    obtain ⟨mf, hmf⟩ : ∃ x, x = M.fin.length := ⟨_, rfl⟩
    rw [← hmv, ← hme, ← hmn, ← hmf] at HT ⊢
    simp only [← hmv, ← hme, ← hmn, ← hmf] at y0
    clear hmv hme hmn hmf
    by_cases h30 : S3 = 0
    · subst h30
      go_wp2_with (go_at_call 19; refine (HS.out _ _ HT.out).mono ?_; rintro e w7 ⟨v7, rfl, hb7, ht7⟩; obtain ⟨_, A8, c8, hf8, _⟩ := ht7.ts; subst hf8; have HB7 := Lib.hid (HB.out.trans (hb7.mono HB.out.size)); have HT7 := Lib.hid (ht7.mono HB.out.size); clear hb7 ht7)
      go_returns
      exact ⟨.slice A8 S1.length c8, by rw [HR2.out]; simp, HB7.out, by rw [HR2.out]; exact HT7.out⟩
    · have h3b : (((S3 : Nat) : Int) == 0) = false := by rw [beq_eq_false_iff_ne]; omega
      have H30 := Lib.hid h30
      clear h30
      go_wp2_with (go_at_call 19; refine (HS.out _ _ HT.out).mono ?_; rintro e w7 ⟨v7, rfl, hb7, ht7⟩; obtain ⟨_, A8, c8, hf8, _⟩ := ht7.ts; subst hf8; have HB7 := Lib.hid (HB.out.trans (hb7.mono HB.out.size)); have HT7 := Lib.hid (ht7.mono HB.out.size); clear hb7 ht7)
      go_returns
      exact ⟨.slice A8 S1.length c8, by rw [HR2.out, decide_eq_false H30.out]; simp, HB7.out, by rw [HR2.out]; exact HT7.out⟩
  · have hop : opR a b (fun p q => p && !q) V = (zeroR, 10) := by unfold opR; rw [if_neg hl]
    rw [hop] at HMI
    have HR2 : Hid (R = ([], false, 10)) := by unfold Hid; rw [HRR.out]; unfold inclO; rw [if_neg hl]
    clear hop hl HRR HSM
    go_enter Tryz.func30, Tryz.ntmps30
    go_upto_region 1 with fail
    refine wp_abs (fun W => Below w.heap.size w W ∧ Row W w.heap.size 25 #[.int .i64 V1, .int .i64 E1, .slice A1 n1 c1, .slice A2 n2 c2] ∧ Row W (w.heap.size + 1) 25 #[.int .i64 V2, .int .i64 E2, .slice A3 n3 c3, .slice A4 n4 c4])
      ⟨by go_grown, (Row.new _ _ _).alloc _, Row.lit (by simp)⟩ ?_
    rintro W ⟨hb, r1, r2⟩
    have y0 := r1.cell; have y1 := r2.cell
    have HB := Lib.hid hb
    clear hb r1 r2
    go_upto_region 2 with (go_at_call 35; refine (HMI.out _ HB.out).mono ?_; intro e w6 h6; obtain ⟨A6, c6, A7, c7, rfl, hb6, ht6⟩ := h6.unfold; have HB6 := Lib.hid (HB.out.trans (hb6.mono HB.out.size)); clear h6 hb6 ht6)
    refine wp_abs (fun X => Below w.heap.size w X) (by have h1 := HB6.out; have h2 := h1.size; go_grown) ?_
    clear y0 y1
    rintro X hb
    have HBX := Lib.hid hb
    clear hb
    go_wp2
    go_returns
    exact ⟨_, by rw [HR2.out]; rfl, HBX.out, by rw [HR2.out]; exact TO.nil _ _⟩
end Go.Proofs.YthkfjnmnoanhlaaGreatDoor

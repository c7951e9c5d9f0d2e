/- Contract: Exists of the package treeops, for valid automata. -/
/- Contracts: Exists of the package treeops where a number is out of its range. -/
import Derived.Test.YthkfjnmnoanhlaaGreatDoorMem
import Derived.Deep.RegionLaw
import Derived.Deep.RegionHeld3
set_option linter.unusedSimpArgs false
set_option linter.unusedVariables false
namespace Go.Proofs.YthkfjnmnoanhlaaGreatDoor
open Go.RowKit

set_option maxRecDepth 100000 in
set_option maxHeartbeats 4000000 in
theorem exists21 (d : Dta) (V : Nat) (hd : d.Fit V) (w0 : World) (gD : Nat) (vn vf : Value) (hD : AutV w0 gD V d vn vf) (s : Nat) (hs : s < d.n) (W : World) (hbw : Below w0.heap.size w0 W) :
    Calls Tryz.prog 60 #[.int .i64 (s : Int), .pointer (some ⟨gD, 0, none⟩)] W fun e W' => e = .returned (.bool (d.fin s)) ∧ Below W.heap.size W W' := by
  have hD2 := hD.below hbw (Nat.le_refl _)
  obtain ⟨bk, ok, ck, rfl, hk1, hbk, hk2⟩ := hD2.hf.at hd.pos
  have c0 := hk2 s hs
  have z0 := hD2.row.cell
  obtain ⟨q, hq⟩ : ∃ q, q = d.fin s := ⟨_, rfl⟩
  rw [← hq] at c0 ⊢
  obtain ⟨n, hnn⟩ : ∃ n, n = d.n := ⟨_, rfl⟩
  rw [← hnn] at hs hk1 z0
  clear hD hD2 hk2 hq hnn hd hbw
  go_enter Tryz.func60, Tryz.ntmps60
  go_wp2
  go_returns
  exact ⟨rfl, Below.refl _ _⟩
set_option maxRecDepth 100000 in
set_option maxHeartbeats 4000000 in
theorem idxf_ints (l : List Nat) (g : Nat → Bool) (j1 v : Value) (w : World) (hv : N1 w v (oI l)) (hl : l.length ≤ 64) (hcb : ∀ p ∈ l, ∀ W, Below w.heap.size w W → Calls Tryz.prog 60 #[.int .i64 (p : Int), j1] W fun e W' => e = .returned (.bool (g p)) ∧ Below W.heap.size W W') :
    Calls Tryz.prog 105 #[v, .func (.func 60) #[] #[j1]] w fun e w' => ∃ k : Int, e = .returned (.int .i64 k) ∧ (decide (0 ≤ k) = l.any g) ∧ Below w.heap.size w w' := by
  obtain ⟨n, hn⟩ : ∃ n, n = l.length := ⟨_, rfl⟩
  obtain ⟨A, c, rfl, h1, h2, h3⟩ := hv.open
  rw [oI_len, ← hn] at h1 hv ⊢
  have HV := Lib.hid hv; have HN := Lib.hid hn; have HCB := Lib.hid hcb; have H3 := Lib.hid h3
  rw [← hn] at hl
  clear hv hn hcb h3
  go_enter Tryz.func105, Tryz.ntmps105
  go_wp2
  go_loopg [8] n (fun gk q8 wr => ∃ i : Nat, i ≤ n ∧ gk = n - i ∧ q8 = .int .i64 i ∧ Below w.heap.size w wr ∧ (l.take i).any g = false)
  case atStart => exact ⟨0, Nat.zero_le _, rfl, rfl, Below.refl _ _, by simp⟩
  case round =>
    obtain ⟨i, hi, rfl, rfl, hb, ha⟩ := hrel
    have HB := Lib.hid hb; have HA := Lib.hid ha
    obtain ⟨wl, hwl⟩ : ∃ y, y = wr := ⟨_, rfl⟩
    subst hwl
    clear hb ha
    by_cases hlt : i < n
    · obtain ⟨p, hp⟩ : ∃ p, l[i]? = some p := ⟨l[i]'(by rw [← HN.out]; exact hlt), List.getElem?_eq_getElem _⟩
      obtain ⟨b, o, rfl, hbl, hc⟩ := H3.out i _ (oI_at hp)
      rw [← HB.out.cell (p := ⟨b, _, none⟩) hbl] at hc
      have hcb := HCB.out p (List.mem_of_getElem? hp) wl HB.out
      have HP := Lib.hid hp
      clear hp
      cases hg : g p with
      | false =>
        rw [hg] at hcb
        have HC := Lib.hid hcb; have HG := Lib.hid hg
        clear hcb hg
        go_wp2_with (go_at_call 60; refine HC.out.mono ?_; rintro e w2 ⟨rfl, hb2⟩; have HB2 := Lib.hid hb2; clear hb2)
        go_roundg (n - (i + 1))
        case rel => exact ⟨i + 1, by omega, rfl, by go_num, HB.out.trans (HB2.out.mono HB.out.size), by rw [take_snoc HP.out, List.any_append, HA.out]; simp [HG.out]⟩
        case measure => omega
      | true =>
        rw [hg] at hcb
        have HC := Lib.hid hcb; have HG := Lib.hid hg
        clear hcb hg
        go_wp2_with (go_at_call 60; refine HC.out.mono ?_; rintro e w2 ⟨rfl, hb2⟩; have HB2 := Lib.hid hb2; clear hb2)
        go_returns
        refine ⟨_, rfl, ?_, HB.out.trans (HB2.out.mono HB.out.size)⟩
        have : l.any g = true := List.any_eq_true.2 ⟨p, List.mem_of_getElem? HP.out, HG.out⟩
        rw [this, decide_eq_true_eq]; omega
    · have hie : i = n := by omega
      have hf : l.any g = false := by have h := HA.out; rw [hie, HN.out, List.take_length] at h; exact h
      have HF := Lib.hid hf
      clear hf
      go_wp2
      go_returns
      exact ⟨_, rfl, by rw [HF.out]; decide, HB.out⟩
set_option maxRecDepth 100000 in
set_option maxHeartbeats 4000000 in
theorem contf_ints (l : List Nat) (g : Nat → Bool) (j1 v : Value) (w : World) (hv : N1 w v (oI l)) (hl : l.length ≤ 64) (hcb : ∀ p ∈ l, ∀ W, Below w.heap.size w W → Calls Tryz.prog 60 #[.int .i64 (p : Int), j1] W fun e W' => e = .returned (.bool (g p)) ∧ Below W.heap.size W W') :
    Calls Tryz.prog 59 #[v, .func (.func 60) #[] #[j1]] w fun e w' => e = .returned (.bool (l.any g)) ∧ Below w.heap.size w w' := by
  have HI := Lib.hid (idxf_ints l g j1 v w hv hl hcb)
  obtain ⟨q, hq⟩ : ∃ q, q = l.any g := ⟨_, rfl⟩
  rw [← hq] at HI ⊢
  obtain ⟨A, c, rfl, _⟩ := hv.open
  clear hv hl hcb hq
  go_enter Tryz.func59, Tryz.ntmps59
  go_wp2_with (go_at_call 105; refine HI.out.mono ?_; rintro e w2 ⟨k, rfl, hk, hb2⟩; have HB2 := Lib.hid hb2; have HK := Lib.hid hk; clear hb2 hk)
  go_returns
  exact ⟨by rw [← HK.out]; rfl, HB2.out⟩
set_option maxRecDepth 100000 in
set_option maxHeartbeats 4000000 in
theorem exists2 (d : Dta) (V : Nat) (hd : d.Fit V) (w0 : World) (gD : Nat) (vn vf : Value) (hD : AutV w0 gD V d vn vf) (s : Nat) (hs : s < 2 ^ d.n) (W : World) (hbw : Below w0.heap.size w0 W) :
    Calls Tryz.prog 58 #[sV s, .pointer (some ⟨gD, 0, none⟩)] W fun e W' => e = .returned (.bool (setFin d s)) ∧ Below W.heap.size W W' := by
  have h64 : 2 ^ d.n ≤ 2 ^ 64 := Nat.pow_le_pow_right (by omega) hd.n64
  have hml := members_any s (Nat.lt_of_lt_of_le hs h64) W
  have hlen : (mem64 s).length ≤ 64 := by have := memK_len s 64; rw [memK_64] at this; exact this
  have hc := fun (v : Value) (W1 : World) (h1 : Below W.heap.size W W1) (hv : N1 W1 v (oI (mem64 s))) => contf_ints (mem64 s) d.fin (.pointer (some ⟨gD, 0, none⟩)) v W1 hv hlen (fun p hp W2 hb2 => exists21 d V hd w0 gD vn vf hD p (lt_set hs ((mem64_iff _ _).1 hp).2) W2 (hbw.trans ((h1.trans (hb2.mono h1.size)).mono hbw.size)))
  have HML := Lib.hid hml; have HC := Lib.hid hc
  obtain ⟨kl, hkl⟩ : ∃ k, k = (mem64 s).length := ⟨_, rfl⟩
  have HKL := Lib.hid hkl
  have HR := Lib.hid (show (mem64 s).any d.fin = setFin d s from rfl)
  obtain ⟨q, hq⟩ : ∃ q, q = setFin d s := ⟨_, rfl⟩
  rw [← hq] at HR ⊢
  rw [HR.out] at HC
  unfold sV
  clear hml hc hD hbw hs h64 hlen hkl hq hd
  go_enter Tryz.func58, Tryz.ntmps58
  go_wp2_with (first
    | (go_at_call 56; refine HML.out.mono ?_; rintro e w2 ⟨v2, rfl, hb2, ho2⟩; obtain ⟨A2, c2, rfl⟩ := VO.formN (n := kl) ho2 (by rw [iL_len, oI_len, HKL.out]); have HB2 := Lib.hid hb2; have HO2 := Lib.hid ho2.n1; clear hb2 ho2)
    | (go_at_call 59; refine (HC.out _ _ HB2.out HO2.out).mono ?_; rintro e w3 ⟨rfl, hb3⟩; have HB3 := Lib.hid (HB2.out.trans (hb3.mono HB2.out.size)); clear hb3))
  go_returns
  exact ⟨rfl, HB3.out⟩
/-- What Exists returns. -/
def exR (d : Dta) (v M V : Nat) : Raw × Nat := if (setO d v).length ≤ M then ((existsM d v).raw V, 0) else (zeroR, 10)
structure ExV (w : World) (G V v : Nat) (d : Dta) (vn vf : Value) (W : World) : Prop where
  below : Below G w W
  hd : AutV W G V d vn vf
  hv : Row W (G + 1) 3 #[.int .i64 (v : Int)]
  hr : Row W (G + 1 + 1) 25 #[.int .i64 0, .int .i64 0, .slice none 0 0, .slice none 0 0]
theorem ExV.to {w W W' : World} {G V v : Nat} {d : Dta} {vn vf : Value} (h : ExV w G V v d vn vf W) (hb : Below W.heap.size W W') (hG : G ≤ W.heap.size) : ExV w G V v d vn vf W' :=
  ⟨h.below.trans (hb.mono hG), h.hd.below hb (Nat.le_refl _), h.hv.below hb h.hv.lt, h.hr.below hb h.hr.lt⟩
set_option maxRecDepth 100000 in
set_option maxHeartbeats 8000000 in
theorem exists_ok (d : Dta) (V v M : Nat) (hd : d.Fit V) (hv : v < V) (hM1 : 1 ≤ M) (hM : M ≤ 64) (va : Value) (w : World) (hva : TD w va (d.raw V)) :
    Calls Tryz.prog 16 #[va, .int .i64 (v : Int), .int .i64 (M : Int)] w (RetR w (exR d v M V).1 (exR d v M V).2) := by
  have hck := fun W (h : Below w.heap.size w W) => det_check (d.raw V) va W (hva.below h (Nat.le_refl _)) (by have := hd.n64; rw [(d.raw_len V).1, (d.raw_len V).2]; omega)
  rw [d.raw_check hd] at hck
  have he64 : d.e < 64 := Nat.lt_of_lt_of_le hd.ok.he hd.n64
  have hex := fun (w0 : World) (gD gv : Nat) (vn vf : Value) (hD : AutV w0 gD V d vn vf) (hV : Row w0 gv 3 #[.int .i64 (v : Int)]) =>
    (show Calls Tryz.prog 54 #[.int .i64 (V : Int), .int .i64 (M : Int), .int .u64 ((2 ^ d.e : Nat) : Int), .func (.func 55) #[] #[.pointer (some ⟨gD, 0, none⟩), .pointer (some ⟨gv, 0, none⟩)]] w0 (ExRetS (setF d v) d.L (2 ^ d.e) (fun s => s < 2 ^ d.n) M w0) from
      explored_S (fun s => s < 2 ^ d.n) (fun p hp => Nat.lt_of_lt_of_le hp (Nat.pow_le_pow_right (by omega) hd.n64)) (setF d v) V d.L M hd.v3 hd.L hM1 hM (2 ^ d.e) (Nat.pow_lt_pow_right (by omega) hd.ok.he) _ _ w0 (exists1 d V v hd hv w0 gD gv vn vf hD hV) (setF_lt hd.ok hd.L hv))
  have hmi := fun (w0 : World) (gD : Nat) (vn vf : Value) (hD : AutV w0 gD V d vn vf) (o : List Nat) (hE : Expl (setF d v) d.L (2 ^ d.e) o) (hP : ∀ p ∈ o, p < 2 ^ d.n) (hl : o.length ≤ 64) (B : Nat) (kv rv : Value)
      (hk : KO 39 1 w0 B kv (o.map sC)) (hr : N3 w0 rv (nx3 o.length d.L (autE (setF d v) d.L (2 ^ d.e) o (setFin d)).nx)) =>
    (show Calls Tryz.prog 57 #[.int .i64 (V : Int), kv, rv, .func (.func 58) #[] #[.pointer (some ⟨gD, 0, none⟩)]] w0 (RetR w0 ((existsM d v).raw V) 0) from by
      have h := minimal_S (autE (setF d v) d.L (2 ^ d.e) o (setFin d)) V ⟨hE.ok _, hl, hd.v3, hd.L⟩ rfl o rfl (fun s => s < 2 ^ d.n) hP (setFin d) (fun i p hi => by show setFin d (o.getD i (2 ^ d.e)) = _; rw [getD_some hi]) _ w0 (fun p W hp hbw => exists2 d V hd w0 gD vn vf hD p hp W hbw) B kv rv hk hr
      have e := (existsM_raw hd.ok hd.L hv hE).raw (Dta.mini_ok (hE.ok _)) (existsM_raw hd.ok hd.L hv hE).L V
      rw [e] at h
      exact h)
  have hlen := fun (o : List Nat) (hE : Expl (setF d v) d.L (2 ^ d.e) o) => (show o.length = (setO d v).length from hE.len_eq (setO_expl hd.ok hd.L hv))
  have hmost := fun (ks : List Nat) (h1 : ks.Nodup) (h2 : ∀ s ∈ ks, AccK (setF d v) d.L (2 ^ d.e) s) => (setO_expl hd.ok hd.L hv).most h1 h2
  have hsh := shl_u64 d.e he64
  obtain ⟨vn, vf, rfl, hn, hf⟩ := hva
  have hvars : (d.raw V).vars = (V : Int) := rfl
  have hemp : (d.raw V).empty = (d.e : Int) := rfl
  rw [hvars, hemp] at hck ⊢
  obtain ⟨A1, c1, rfl, _⟩ := hn.open
  obtain ⟨A2, c2, rfl, _⟩ := hf.open
  rw [(d.raw_len V).1, (d.raw_len V).2] at hck
  rw [(d.raw_len V).1] at hn ⊢
  rw [(d.raw_len V).2] at hf ⊢
  have HN := Lib.hid hn; have HF := Lib.hid hf
  have HLEN := Lib.hid hlen; have HMOST := Lib.hid hmost; have HMI := Lib.hid hmi
  obtain ⟨n, hnn⟩ : ∃ n, n = d.n := ⟨_, rfl⟩
  obtain ⟨E, hE⟩ : ∃ n, n = d.e := ⟨_, rfl⟩
  obtain ⟨K, hK⟩ : ∃ n, n = 2 ^ d.e := ⟨_, rfl⟩
  have HV1 := Lib.hid (fun (W : World) (gA : Nat) (h : Row W gA 25 #[.int .i64 (V : Int), .int .i64 (E : Int), .slice A1 n c1, .slice A2 n c2]) (hb : Below w.heap.size w W) => (show AutV W gA V d (.slice A1 d.n c1) (.slice A2 d.n c2) from ⟨by rw [← hE, ← hnn]; exact h, HN.out.below hb (Nat.le_refl _), HF.out.below hb (Nat.le_refl _)⟩))
  rw [← hnn] at HV1
  have HV1' : Hid (∀ (W : World) (gA : Nat), AutV W gA V d (.slice A1 n c1) (.slice A2 n c2) → Row W gA 25 #[.int .i64 (V : Int), .int .i64 (E : Int), .slice A1 n c1, .slice A2 n c2]) := fun W gA h => by rw [hE]; exact h.row
  rw [← hnn, ← hE] at hck
  rw [← hK] at hex hsh
  rw [← hE] at hsh he64
  rw [← hE, ← hnn]
  have HCK := Lib.hid hck; have HEX := Lib.hid hex; have HKK := Lib.hid hK; have HSH := Lib.hid hsh
  clear hck hex hmi hlen hmost hn hf hvars hemp hnn hE hK HN HF hsh
  obtain ⟨R, hR⟩ : ∃ R, R = (exR d v M V) := ⟨_, rfl⟩
  have HRR := Lib.hid hR
  rw [← hR]
  clear hR
  have b1 : ¬ ((v : Int) < 0) := by omega
  have b2 : ¬ ((V : Int) ≤ (v : Int)) := by omega
  have b3 : ¬ ((M : Int) < 1) := by omega
  have b4 : ¬ ((64 : Int) < (M : Int)) := by omega
  have b5 : (v : Int) < (V : Int) := by omega
  have b6 : (0 : Int) ≤ (v : Int) := by omega
  go_enter Tryz.func16, Tryz.ntmps16
  go_upto_region 1 with fail
  refine wp_abs (ExV w w.heap.size V v d (.slice A1 n c1) (.slice A2 n c2))
    ⟨by go_grown, HV1.out _ _ (((Row.new _ _ _).alloc _).alloc _) (by go_grown), (Row.lit (by simp)).alloc _, Row.lit (by simp)⟩ ?_
  rintro W0 hp
  have HP := Lib.hid hp
  have y0 := (HV1'.out _ _ hp.hd).cell
  clear hp
  go_upto_region 4 with (go_at_call 50; refine (HCK.out _ HP.out.below).mono ?_; rintro e w2 ⟨rfl, hb2⟩; have HP2 := Lib.hid (HP.out.to hb2 HP.out.below.size); clear hb2)
  clear HP y0
  have y0 := (HV1'.out _ _ HP2.out.hd).cell; have y1 := HP2.out.hv.cell
  have hsz := HP2.out.below.size
  go_upto_region 8 with fail
  clear b1 b2 b3 b4 b5 b6
  have HEXP := Lib.hid (HEX.out w2.drew w.heap.size (w.heap.size + 1) _ _ (HP2.out.to ((Below.refl _ _).drew) hsz).hd (HP2.out.to ((Below.refl _ _).drew) hsz).hv)
  clear HEX HCK
  have HP3 := Lib.hid (HP2.out.to ((Below.refl w2.heap.size w2).drew) hsz)
  have hsh2 := HSH.out
  first
  | go_region_held3 (fun W => W.cell? ⟨w.heap.size, 0, none⟩ = some (.int .i64 (V : Int)) ∧ W.cell? ⟨w.heap.size, 1, none⟩ = some (.int .i64 (E : Int))) (first | exact ⟨y0 0, y0 1⟩ | exact ⟨HC3.out.1, HC3.out.2⟩) (first | (go_at_call 54; refine HEXP.out.mono ?_; intro e w3 h3; obtain ⟨kv, rv, bo, rfl, hb3, hcase⟩ := h3.out; have HB3 : Hid (Below w2.heap.size w2 w3) := ⟨hb3.os, hb3.tape, hb3.output, hb3.size, hb3.block⟩; have HCASE := Lib.hid hcase; have HC3 := Lib.hid (show w3.cell? ⟨w.heap.size, 0, none⟩ = some (.int .i64 (V : Int)) ∧ w3.cell? ⟨w.heap.size, 1, none⟩ = some (.int .i64 (E : Int)) from ⟨(HV1'.out _ _ (HP2.out.to HB3.out hsz).hd).cell 0, (HV1'.out _ _ (HP2.out.to HB3.out hsz).hd).cell 1⟩); clear h3 hb3 hcase))
  | fail
  have HP4 := Lib.hid (HP2.out.to HB3.out hsz)
  have y0 := (HV1'.out _ _ HP4.out.hd).cell
  have z0 := HP4.out.hr.cell; have z1 := HP4.out.hr.free
  have hsz4 := HP4.out.below.size
  rw [HKK.out] at HCASE
  clear HP2 HP3 HEXP HC3
  rcases HCASE.out with ⟨rfl, o, hEo, hPo, hlo, hko, hro⟩ | ⟨rfl, ks, hk1, hk2, hk3⟩
  · have hok : R = ((existsM d v).raw V, 0) := by rw [HRR.out]; unfold exR; rw [if_pos (by rw [← HLEN.out o hEo]; exact hlo)]
    have HMM := Lib.hid (HMI.out w3 w.heap.size _ _ HP4.out.hd o hEo hPo (Nat.le_trans hlo hM) _ kv rv hko (hro (setFin d)).n3)
    have HOK := Lib.hid hok
    obtain ⟨R2, hR2⟩ : ∃ R, R = (existsM d v).raw V := ⟨_, rfl⟩
    rw [← hR2] at HMM
    have HR2 := Lib.hid hR2
    clear HCASE hEo hPo hlo hko hro hok hR2
    go_wp2_with (go_at_call 57; refine HMM.out.mono ?_; intro e w6 h6; obtain ⟨A6, c6, A7, c7, rfl, hb6, ht6⟩ := h6.unfold; have HT := Lib.hid ht6; have HB6 := Lib.hid hb6; have RR6 := Lib.hid (HP4.out.hr.below hb6 HP4.out.hr.lt); have b0 := RR6.out.cell; have b1 := RR6.out.free; clear h6 hb6 ht6 y0 z0 z1)
    refine post_abs2 (fun W => Row W (w.heap.size + 1 + 1) 25 #[.int .i64 R2.vars, .int .i64 R2.empty, .slice A6 R2.next.length c6, .slice A7 R2.fin.length c7] ∧ TDO W w3.heap.size (.agg #[.int .i64 R2.vars, .int .i64 R2.empty, .slice A6 R2.next.length c6, .slice A7 R2.fin.length c7]) R2 ∧ Below w.heap.size w W)
      (store4 RR6.out HT.out (HP4.out.below.trans (HB6.out.mono hsz4)) (by omega)) ?_
    clear b0 b1 RR6 HT
    rintro W5 ⟨r0, hT, hb⟩
    have b0 := r0.cell
    have q0 := b0 0; have q1 := b0 1; have q2 := b0 2; have q3 := b0 3
    simp only [List.getElem?_toArray, List.getElem?_cons_zero, List.getElem?_cons_succ] at q0 q1 q2 q3
    have HT := Lib.hid (hT.mono hsz4); have HBX := Lib.hid hb
    clear b0 r0 hT hb
    exact bodyPost_ret (v := .tuple #[.agg #[.int .i64 R2.vars, .int .i64 R2.empty, .slice A6 R2.next.length c6, .slice A7 R2.fin.length c7], .int .i64 0]) (by simp [results, Tryz.results16, go_sem, q0, q1, q2, q3]) rfl ⟨_, by rw [HOK.out]; rfl, HBX.out, by rw [HOK.out]; show TDO _ _ _ ((existsM d v).raw V); rw [← HR2.out]; exact HT.out⟩
  · have hok : R = (zeroR, 10) := by rw [HRR.out]; unfold exR; rw [if_neg (by have := HMOST.out ks hk1 hk2; omega)]
    have HOK := Lib.hid hok
    clear HCASE hk1 hk2 hk3 hok y0
    go_wp2
    refine post_abs2 (fun W => Row W (w.heap.size + 1 + 1) 25 #[.int .i64 0, .int .i64 0, .slice none 0 0, .slice none 0 0] ∧ TDO W w3.heap.size zeroV zeroR ∧ Below w.heap.size w W) (store4 HP4.out.hr (zeroV_tdo _ _) HP4.out.below (by omega)) ?_
    clear z0 z1
    rintro W5 ⟨r0, hT, hb⟩
    have b0 := r0.cell
    have q0 := b0 0; have q1 := b0 1; have q2 := b0 2; have q3 := b0 3
    simp only [List.getElem?_toArray, List.getElem?_cons_zero, List.getElem?_cons_succ] at q0 q1 q2 q3
    have HB := Lib.hid hb
    clear b0 r0 hT hb
    exact bodyPost_ret (v := .tuple #[zeroV, .int .i64 10]) (by simp [results, Tryz.results16, go_sem, q0, q1, q2, q3, zeroV]) rfl ⟨_, by rw [HOK.out]; rfl, HB.out, by rw [HOK.out]; exact zeroV_tdo _ _⟩
end Go.Proofs.YthkfjnmnoanhlaaGreatDoor

namespace Go.Proofs.YthkfjnmnoanhlaaGreatDoor
open Go.RowKit

set_option maxRecDepth 100000 in
set_option maxHeartbeats 8000000 in
theorem exists_vars (d : Dta) (V v M : Nat) (hd : d.Fit V) (h : V ≤ v) (hv : v ≤ 1000) (va : Value) (w : World) (hva : TD w va (d.raw V)) :
    Calls Tryz.prog 16 #[va, .int .i64 (v : Int), .int .i64 (M : Int)] w (RetR w zeroR 7) := by
  have hck := fun W (h : Below w.heap.size w W) => det_check (d.raw V) va W (hva.below h (Nat.le_refl _)) (by have := hd.n64; rw [(d.raw_len V).1, (d.raw_len V).2]; omega)
  rw [d.raw_check hd] at hck
  obtain ⟨A1, c1, A2, c2, rfl⟩ := hva.form
  have hvars : (d.raw V).vars = (V : Int) := rfl
  rw [hvars] at hck ⊢
  obtain ⟨n, hnn⟩ : ∃ n, n = (d.raw V).next.length := ⟨_, rfl⟩
  obtain ⟨m, hmm⟩ : ∃ n, n = (d.raw V).fin.length := ⟨_, rfl⟩
  obtain ⟨E, hE⟩ : ∃ n, n = (d.raw V).empty := ⟨_, rfl⟩
  rw [← hnn, ← hmm, ← hE] at hck ⊢
  have HCK := Lib.hid hck
  have hV3 := hd.v3
  clear hck hnn hmm hE hva hd
  have b1 : ¬ ((v : Int) < 0) := by omega
  have b2 : (V : Int) ≤ (v : Int) := by omega
  have b3 : (0 : Int) ≤ (v : Int) := by omega
  go_enter Tryz.func16, Tryz.ntmps16
  go_upto_region 1 with fail
  refine wp_abs (fun W => Below w.heap.size w W ∧ Row W w.heap.size 25 #[.int .i64 (V : Int), .int .i64 E, .slice A1 n c1, .slice A2 m c2] ∧ Row W (w.heap.size + 1) 3 #[.int .i64 (v : Int)] ∧ Row W (w.heap.size + 1 + 1) 25 #[.int .i64 0, .int .i64 0, .slice none 0 0, .slice none 0 0])
    ⟨by go_grown, ((Row.new _ _ _).alloc _).alloc _, (Row.lit (by simp)).alloc _, Row.lit (by simp)⟩ ?_
  rintro W ⟨hb, r1, r2, r3⟩
  have y0 := r1.cell
  have HB := Lib.hid hb; have R1 := Lib.hid r1; have R2 := Lib.hid r2; have R3 := Lib.hid r3
  clear hb r1 r2 r3
  go_upto_region 4 with (go_at_call 50; refine (HCK.out _ HB.out).mono ?_; rintro e w2 ⟨rfl, hb2⟩; have HB2 := Lib.hid hb2; clear hb2)
  clear y0
  have y0 := (R1.out.below HB2.out R1.out.lt).cell; have y1 := (R2.out.below HB2.out R2.out.lt).cell
  have z0 := (R3.out.below HB2.out R3.out.lt).cell; have z1 := (R3.out.below HB2.out R3.out.lt).free
  have RR := Lib.hid (R3.out.below HB2.out R3.out.lt)
  have HBB := Lib.hid (HB.out.trans (HB2.out.mono HB.out.size))
  clear HB HB2 R1 R2 R3 HCK
  go_wp2
  all_goals
    refine post_abs2 (fun X => Row X (w.heap.size + 1 + 1) 25 #[.int .i64 0, .int .i64 0, .slice none 0 0, .slice none 0 0] ∧ TDO X w2.heap.size zeroV zeroR ∧ Below w.heap.size w X) (store4 RR.out (zeroV_tdo _ _) HBB.out (by omega)) ?_
    clear y0 y1 z0 z1
    rintro W5 ⟨r0, hT, hb⟩
    have b0 := r0.cell
    have q0 := b0 0; have q1 := b0 1; have q2 := b0 2; have q3 := b0 3
    simp only [List.getElem?_toArray, List.getElem?_cons_zero, List.getElem?_cons_succ] at q0 q1 q2 q3
    have HB := Lib.hid hb
    clear b0 r0 hT hb
    exact bodyPost_ret (v := .tuple #[zeroV, .int .i64 7]) (by simp [results, Tryz.results16, go_sem, q0, q1, q2, q3, zeroV]) rfl ⟨_, rfl, HB.out, zeroV_tdo _ _⟩
set_option maxRecDepth 100000 in
set_option maxHeartbeats 8000000 in
theorem exists_arg (d : Dta) (V v M : Nat) (hd : d.Fit V) (hv : v < V) (hM : M < 1 ∨ 64 < M ∧ M ≤ 1000) (va : Value) (w : World) (hva : TD w va (d.raw V)) :
    Calls Tryz.prog 16 #[va, .int .i64 (v : Int), .int .i64 (M : Int)] w (RetR w zeroR 1) := by
  have hck := fun W (h : Below w.heap.size w W) => det_check (d.raw V) va W (hva.below h (Nat.le_refl _)) (by have := hd.n64; rw [(d.raw_len V).1, (d.raw_len V).2]; omega)
  rw [d.raw_check hd] at hck
  obtain ⟨A1, c1, A2, c2, rfl⟩ := hva.form
  have hvars : (d.raw V).vars = (V : Int) := rfl
  rw [hvars] at hck ⊢
  obtain ⟨n, hnn⟩ : ∃ n, n = (d.raw V).next.length := ⟨_, rfl⟩
  obtain ⟨m, hmm⟩ : ∃ n, n = (d.raw V).fin.length := ⟨_, rfl⟩
  obtain ⟨E, hE⟩ : ∃ n, n = (d.raw V).empty := ⟨_, rfl⟩
  rw [← hnn, ← hmm, ← hE] at hck ⊢
  have HCK := Lib.hid hck
  have hV3 := hd.v3
  clear hck hnn hmm hE hva hd
  have b1 : ¬ ((v : Int) < 0) := by omega
  have b2 : ¬ ((V : Int) ≤ (v : Int)) := by omega
  have b3 : (v : Int) < (V : Int) := by omega
  have b4 : (0 : Int) ≤ (v : Int) := by omega
  have b5 : (M : Int) < 1 ∨ (64 : Int) < (M : Int) := by omega
  go_enter Tryz.func16, Tryz.ntmps16
  go_upto_region 1 with fail
  refine wp_abs (fun W => Below w.heap.size w W ∧ Row W w.heap.size 25 #[.int .i64 (V : Int), .int .i64 E, .slice A1 n c1, .slice A2 m c2] ∧ Row W (w.heap.size + 1) 3 #[.int .i64 (v : Int)] ∧ Row W (w.heap.size + 1 + 1) 25 #[.int .i64 0, .int .i64 0, .slice none 0 0, .slice none 0 0])
    ⟨by go_grown, ((Row.new _ _ _).alloc _).alloc _, (Row.lit (by simp)).alloc _, Row.lit (by simp)⟩ ?_
  rintro W ⟨hb, r1, r2, r3⟩
  have y0 := r1.cell
  have HB := Lib.hid hb; have R1 := Lib.hid r1; have R2 := Lib.hid r2; have R3 := Lib.hid r3
  clear hb r1 r2 r3
  go_upto_region 4 with (go_at_call 50; refine (HCK.out _ HB.out).mono ?_; rintro e w2 ⟨rfl, hb2⟩; have HB2 := Lib.hid hb2; clear hb2)
  clear y0
  have y0 := (R1.out.below HB2.out R1.out.lt).cell; have y1 := (R2.out.below HB2.out R2.out.lt).cell
  have z0 := (R3.out.below HB2.out R3.out.lt).cell; have z1 := (R3.out.below HB2.out R3.out.lt).free
  have RR := Lib.hid (R3.out.below HB2.out R3.out.lt)
  have HBB := Lib.hid (HB.out.trans (HB2.out.mono HB.out.size))
  clear HB HB2 R1 R2 R3 HCK
  go_wp2
  all_goals
    refine post_abs2 (fun X => Row X (w.heap.size + 1 + 1) 25 #[.int .i64 0, .int .i64 0, .slice none 0 0, .slice none 0 0] ∧ TDO X w2.heap.size zeroV zeroR ∧ Below w.heap.size w X) (store4 RR.out (zeroV_tdo _ _) HBB.out (by omega)) ?_
    clear y0 y1 z0 z1
    rintro W5 ⟨r0, hT, hb⟩
    have b0 := r0.cell
    have q0 := b0 0; have q1 := b0 1; have q2 := b0 2; have q3 := b0 3
    simp only [List.getElem?_toArray, List.getElem?_cons_zero, List.getElem?_cons_succ] at q0 q1 q2 q3
    have HB := Lib.hid hb
    clear b0 r0 hT hb
    exact bodyPost_ret (v := .tuple #[zeroV, .int .i64 1]) (by simp [results, Tryz.results16, go_sem, q0, q1, q2, q3, zeroV]) rfl ⟨_, rfl, HB.out, zeroV_tdo _ _⟩
end Go.Proofs.YthkfjnmnoanhlaaGreatDoor

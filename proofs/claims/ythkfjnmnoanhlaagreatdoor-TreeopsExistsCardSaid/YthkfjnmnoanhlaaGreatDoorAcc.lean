/- Contracts: both and Accepts of the package treedet, for valid automata and any tree. -/
import Derived.Test.YthkfjnmnoanhlaaGreatDoorRun
import Derived.Test.YthkfjnmnoanhlaaGreatDoorTrB
import Derived.Test.YthkfjnmnoanhlaaGreatDoorRgT
set_option linter.unusedSimpArgs false
set_option linter.unusedVariables false
namespace Go.Proofs.YthkfjnmnoanhlaaGreatDoor
open Go.RowKit

set_option maxRecDepth 100000 in
set_option maxHeartbeats 4000000 in
theorem both_ok (d : Dta) (V : Nat) (hd : d.Fit V) (va u : Value) (t : List Lf) (w : World) (hva : TD w va (d.raw V)) (hu : TS w u t) :
    Calls Tryz.prog 87 #[va, u] w fun e w' => e = .returned (.int .i64 (checkT t V)) ∧ Below w.heap.size w w' := by
  have hck := fun W (h : Below w.heap.size w W) => det_check (d.raw V) va W (hva.below h (Nat.le_refl _)) (by have := hd.n64; rw [(d.raw_len V).1, (d.raw_len V).2]; omega)
  rw [d.raw_check hd] at hck
  have htc := fun W (h : Below w.heap.size w W) => TreeCheck_any t u V W (hu.below h (Nat.le_refl _))
  obtain ⟨A1, c1, A2, c2, rfl⟩ := hva.form
  have hvars : (d.raw V).vars = (V : Int) := rfl
  rw [hvars] at hck ⊢
  obtain ⟨_, Au, cu, rfl, _⟩ := hu
  obtain ⟨k, hk⟩ : ∃ k, k = checkT t V := ⟨_, rfl⟩
  rw [← hk] at htc ⊢
  obtain ⟨n, hnn⟩ : ∃ n, n = (d.raw V).next.length := ⟨_, rfl⟩
  obtain ⟨m, hmm⟩ : ∃ n, n = (d.raw V).fin.length := ⟨_, rfl⟩
  obtain ⟨E, hE⟩ : ∃ n, n = (d.raw V).empty := ⟨_, rfl⟩
  rw [← hnn, ← hmm, ← hE] at hck ⊢
  obtain ⟨tl, htl⟩ : ∃ n, n = t.length := ⟨_, rfl⟩
  rw [← htl] at htc ⊢
  have HCK := Lib.hid hck; have HTC := Lib.hid htc
  clear hck htc hva hk hnn hmm hE hd htl
  go_enter Tryz.func87, Tryz.ntmps87
  go_upto_region 1 with fail
  refine wp_abs (fun W => Below w.heap.size w W ∧ Row W w.heap.size 25 #[.int .i64 (V : Int), .int .i64 E, .slice A1 n c1, .slice A2 m c2]) ⟨by go_grown, Row.new _ _ _⟩ ?_
  rintro W ⟨hb, r1⟩
  have y0 := r1.cell
  have HB := Lib.hid hb; have R1 := Lib.hid r1
  clear hb r1
  go_wp2_with (first
    | (go_at_call 50; refine (HCK.out _ HB.out).mono ?_; rintro e w2 ⟨rfl, hb2⟩; have HB2 := Lib.hid (HB.out.trans (hb2.mono HB.out.size)); have y1 := (R1.out.below hb2 R1.out.lt).cell; clear hb2 y0)
    | (go_at_call 44; refine (HTC.out _ HB2.out).mono ?_; rintro e w3 ⟨rfl, hb3⟩; have HB3 := Lib.hid (HB2.out.trans (hb3.mono HB2.out.size)); clear hb3))
  go_returns
  exact ⟨rfl, HB3.out⟩
/-- What Accepts returns. -/
def accR (d : Dta) (V : Nat) (t : List Lf) : Bool × Int := if checkT t V = 0 then (d.fin (d.run (btOf t)), 0) else (false, checkT t V)
set_option maxRecDepth 100000 in
set_option maxHeartbeats 8000000 in
theorem accepts_ok (d : Dta) (V : Nat) (hd : d.Fit V) (va u : Value) (t : List Lf) (w : World) (hva : TD w va (d.raw V)) (hu : TS w u t) (hlb : ∀ m ∈ t, 0 ≤ m.label) :
    Calls Tryz.prog 43 #[va, u] w fun e w' => e = .returned (.tuple #[.bool (accR d V t).1, .int .i64 (accR d V t).2]) ∧ Below w.heap.size w w' := by
  have hbo := fun W (h : Below w.heap.size w W) => both_ok d V hd va u t W (hva.below h (Nat.le_refl _)) (hu.below h (Nat.le_refl _))
  have hrn := fun (hc : checkT t V = 0) W (h : Below w.heap.size w W) => run_ok d V hd va u t W (hva.below h (Nat.le_refl _)) (hu.below h (Nat.le_refl _)) (check_zero hd.v3 hlb hc).1 (fun m hm => by rw [hd.L]; exact (check_zero hd.v3 hlb hc).2.2 m hm) hlb
  have hsl := fun (hc : checkT t V = 0) => stN_lt hd.ok (check_zero hd.v3 hlb hc).1 (fun m hm => by rw [hd.L]; exact (check_zero hd.v3 hlb hc).2.2 m hm) _ 0 (Nat.le_refl _) (Nat.zero_le _)
  obtain ⟨vn, vf, rfl, hn, hf⟩ := hva
  obtain ⟨bk, ok, ck, rfl, hk1, hbk, hk2⟩ := (show NB w vf ((List.range d.n).map d.fin) from hf).at hd.pos
  obtain ⟨A1, c1, rfl, _⟩ := hn.open
  rw [(d.raw_len V).1] at hbo hrn ⊢
  have hvars : (d.raw V).vars = (V : Int) := rfl
  have hemp : (d.raw V).empty = (d.e : Int) := rfl
  rw [hvars, hemp] at hbo hrn ⊢
  obtain ⟨_, Au, cu, rfl, _⟩ := hu
  obtain ⟨k, hk⟩ : ∃ k, k = checkT t V := ⟨_, rfl⟩
  rw [← hk] at hbo hrn hsl
  have HAC := Lib.hid (show accR d V t = if k = 0 then (d.fin (d.run (btOf t)), 0) else (false, k) by rw [hk]; rfl)
  obtain ⟨R, hR⟩ : ∃ R, R = accR d V t := ⟨_, rfl⟩
  rw [← hR] at HAC ⊢
  obtain ⟨tl, htl⟩ : ∃ n, n = t.length := ⟨_, rfl⟩
  rw [← htl] at hbo hrn ⊢
  obtain ⟨n, hnn⟩ : ∃ n, n = d.n := ⟨_, rfl⟩
  obtain ⟨E, hE⟩ : ∃ n, n = d.e := ⟨_, rfl⟩
  rw [← hnn, ← hE] at hbo hrn ⊢
  rw [← hnn] at hsl hk1 hk2
  have HBO := Lib.hid hbo; have HRN := Lib.hid hrn; have HSL := Lib.hid hsl; have HK2 := Lib.hid hk2; have HTL := Lib.hid htl
  have hn64 : n ≤ 64 := by rw [hnn]; exact hd.n64
  clear hbo hrn hsl hn hf hvars hemp hk hR hnn hE hd hk2 hlb htl
  by_cases hc : k = 0
  · rw [if_pos hc] at HAC
    have HRUN := Lib.hid (HRN.out hc)
    have hs0 := HSL.out hc
    obtain ⟨s, hs⟩ : ∃ s, s = stN d t 0 := ⟨_, rfl⟩
    rw [← hs] at hs0
    have hcf := HK2.out s hs0
    have HS := Lib.hid hs
    have HS2 := Lib.hid (show s = d.run (btOf t) from hs)
    obtain ⟨q, hq⟩ : ∃ q, q = d.fin s := ⟨_, rfl⟩
    have HQ := Lib.hid hq
    rw [← hq] at hcf
    subst hc
    clear HRN HSL HK2 hs hq
    go_enter Tryz.func43, Tryz.ntmps43
    go_upto_region 1 with fail
    refine wp_abs (fun W => Below w.heap.size w W ∧ Row W w.heap.size 25 #[.int .i64 (V : Int), .int .i64 (E : Int), .slice A1 n c1, .slice (some ⟨bk, ok, none⟩) n ck]) ⟨by go_grown, Row.new _ _ _⟩ ?_
    rintro W ⟨hb, r1⟩
    have y0 := r1.cell
    have HB := Lib.hid hb; have R1 := Lib.hid r1
    clear hb r1
    go_upto_region 4 with (go_at_call 87; refine (HBO.out _ HB.out).mono ?_; rintro e w2 ⟨rfl, hb2⟩; have HB2 := Lib.hid (HB.out.trans (hb2.mono HB.out.size)); have R2 := Lib.hid (R1.out.below hb2 R1.out.lt); clear hb2 y0)
    have y0 := R2.out.cell
    have hcf2 := hcf
    rw [← HB2.out.cell (p := ⟨bk, _, none⟩) hbk] at hcf2
    have hlt := R2.out.lt
    refine RgA.start (c := 7) (S := (fun X => X.cell? ⟨w.heap.size, 0, none⟩ = some (.int .i64 (V : Int)) ∧ X.cell? ⟨w.heap.size, 1, none⟩ = some (.int .i64 (E : Int)) ∧ X.cell? ⟨w.heap.size, 2, none⟩ = some (.slice A1 n c1) ∧ X.cell? ⟨w.heap.size, 3, none⟩ = some (.slice (some ⟨bk, ok, none⟩) n ck))) (by kernel_rfl) ⟨y0 0, y0 1, y0 2, y0 3⟩ ?_
    refine RgA.take0 (i := 0) (oi := ⟨some 13, _, _, _, _, _⟩) (v := ?_) rfl (by kernel_rfl) (by kernel_rfl) (by kernel_rfl) (fun _ _ _ h => h) rfl (Or.inl ⟨by rfl, ?_⟩) ?_
    rotate_left 1
    · (intro w hSw; (first | (go_simp; done) | (go_simp; with_reducible rfl)))
    try simp only [Act.put, List.setIfInBounds_toArray, List.set_cons_zero, List.set_cons_succ]
    refine RgA.take (i := 1) (oi := ⟨some 14, _, _, _, _, _⟩) (v := ?_) rfl (by kernel_rfl) (by kernel_rfl) (by kernel_rfl) (fun _ _ _ h => h) [1] (by kernel_rfl) (by rfl) rfl (Or.inl ⟨by rfl, ?_⟩) ?_
    rotate_left 1
    · (rintro w ⟨s0, s1, s2, s3⟩; (first | (go_simp; done) | (go_simp; with_reducible rfl)))
    try simp only [Act.put, List.setIfInBounds_toArray, List.set_cons_zero, List.set_cons_succ]
    refine RgA.take (i := 2) (oi := ⟨some 15, _, _, _, _, _⟩) (v := ?_) rfl (by kernel_rfl) (by kernel_rfl) (by kernel_rfl) (fun _ _ _ h => h) [6, 5, 4, 2] (by kernel_rfl) (by rfl) rfl (Or.inl ⟨by rfl, ?_⟩) ?_
    rotate_left 1
    · (rintro w ⟨s0, s1, s2, s3⟩; (first | (go_simp; done) | (go_simp; with_reducible rfl)))
    try simp only [Act.put, List.setIfInBounds_toArray, List.set_cons_zero, List.set_cons_succ]
    refine RgA.take0 (i := 3) (oi := ⟨some 16, _, _, _, _, _⟩) (v := ?_) rfl (by kernel_rfl) (by kernel_rfl) (by kernel_rfl) (fun _ _ _ h => h) rfl (Or.inl ⟨by rfl, ?_⟩) ?_
    rotate_left 1
    · (intro w hSw; (first | (go_simp; done) | (go_simp; with_reducible rfl)))
    try simp only [Act.put, List.setIfInBounds_toArray, List.set_cons_zero, List.set_cons_succ]
    refine RgA.one (i := 4) (by kernel_rfl) rfl (fun K hK => ?_)
    go_simp
    (go_at_call 88; refine (HRUN.out _ HB2.out.drew).mono ?_; rintro e w3 ⟨v3, rfl, hb3, ho3⟩)
    have HB3 : Hid (Below w2.heap.size w2 w3) := ⟨hb3.os, hb3.tape, hb3.output, hb3.size, hb3.block⟩
    obtain ⟨g3, cap3, cs3, rfl, _, hrow3, hc31, hc32, hcell3⟩ := VO.row ho3 (by rw [iL_len, oI_len]; simp)
    have hcs := hcell3 0 (.int .i64 (s : Int)) (by rw [HS.out]; exact iL_at (oI_at (by rw [List.getElem?_map, List.getElem?_range (by omega)]; rfl)))
    rw [iL_len, oI_len, List.length_map, List.length_range] at hc31 ⊢
    have htl : (0 : Int) < (tl : Int) + 1 := by omega
    have HC3 := Lib.hid (show w3.cell? ⟨w.heap.size, 0, none⟩ = some (.int .i64 (V : Int)) ∧ w3.cell? ⟨w.heap.size, 1, none⟩ = some (.int .i64 (E : Int)) ∧ w3.cell? ⟨w.heap.size, 2, none⟩ = some (.slice A1 n c1) ∧ w3.cell? ⟨w.heap.size, 3, none⟩ = some (.slice (some ⟨bk, ok, none⟩) n ck) from ⟨(R2.out.below HB3.out hlt).cell 0, (R2.out.below HB3.out hlt).cell 1, (R2.out.below HB3.out hlt).cell 2, (R2.out.below HB3.out hlt).cell 3⟩)
    have hcf3 := (HB3.out.cell (p := ⟨bk, _, none⟩) (Nat.lt_of_lt_of_le hbk HB2.out.size)).trans hcf2
    clear hb3 ho3 hcell3 hrow3
    refine hK.out _ _ (fun _ => HC3.out) ?_
    clear hK K
    try simp only [Act.put, List.setIfInBounds_toArray, List.set_cons_zero, List.set_cons_succ]
    refine RgA.one (i := 5) (by kernel_rfl) rfl (fun K hK => ?_)
    go_simp
    refine hK.out _ _ (fun _ => HC3.out) ?_
    clear hK K
    try simp only [Act.put, List.setIfInBounds_toArray, List.set_cons_zero, List.set_cons_succ]
    refine RgA.one (i := 6) (by kernel_rfl) rfl (fun K hK => ?_)
    go_simp
    refine hK.out _ _ (fun _ => HC3.out) ?_
    clear hK K
    try simp only [Act.put, List.setIfInBounds_toArray, List.set_cons_zero, List.set_cons_succ]
    refine RgA.one (i := 7) (by kernel_rfl) rfl (fun K hK => ?_)
    go_simp
    refine hK.out _ _ (fun hc => by simp at hc) ?_
    clear hK K
    try simp only [Act.put, List.setIfInBounds_toArray, List.set_cons_zero, List.set_cons_succ]
    refine RgA.one (i := 8) (by kernel_rfl) rfl (fun K hK => ?_)
    go_simp
    refine hK.out _ _ (fun hc => by simp at hc) ?_
    clear hK K
    try simp only [Act.put, List.setIfInBounds_toArray, List.set_cons_zero, List.set_cons_succ]
    refine RgA.one (i := 9) (by kernel_rfl) rfl (fun K hK => ?_)
    go_simp
    refine hK.out _ _ (fun hc => by simp at hc) ?_
    clear hK K
    try simp only [Act.put, List.setIfInBounds_toArray, List.set_cons_zero, List.set_cons_succ]
    refine RgA.one (i := 10) (by kernel_rfl) rfl (fun K hK => ?_)
    go_simp
    refine hK.out _ _ (fun hc => by simp at hc) ?_
    clear hK K
    try simp only [Act.put, List.setIfInBounds_toArray, List.set_cons_zero, List.set_cons_succ]
    refine RgA.done (by kernel_rfl) ?_
    go_wp2
    go_returns
    exact ⟨by rw [HAC.out, ← HS2.out, ← HQ.out]; rfl, HB2.out.trans (HB3.out.mono HB2.out.size)⟩
  · rw [if_neg hc] at HAC
    have h0 : (k != 0) = true := by rw [bne_iff_ne]; exact hc
    have HK := Lib.hid hc
    clear HRN HSL HK2 hc
    go_enter Tryz.func43, Tryz.ntmps43
    go_upto_region 1 with fail
    refine wp_abs (fun W => Below w.heap.size w W ∧ Row W w.heap.size 25 #[.int .i64 (V : Int), .int .i64 (E : Int), .slice A1 n c1, .slice (some ⟨bk, ok, none⟩) n ck]) ⟨by go_grown, Row.new _ _ _⟩ ?_
    rintro W ⟨hb, r1⟩
    have y0 := r1.cell
    have HB := Lib.hid hb
    clear hb r1
    go_wp2_with (go_at_call 87; refine (HBO.out _ HB.out).mono ?_; rintro e w2 ⟨rfl, hb2⟩; have HB2 := Lib.hid (HB.out.trans (hb2.mono HB.out.size)); clear hb2 y0)
    go_returns
    exact ⟨by rw [HAC.out]; rfl, HB2.out⟩
end Go.Proofs.YthkfjnmnoanhlaaGreatDoor

/- Contract of the reference: Check (written by gen_refl.py). -/
/- Contract of the reference: Check for trees (written by gen_refl.py). -/
import Derived.Test.YtcjblbhmajdmjaaDoorRefB
import Derived.Test.YtcjblbhmajdmjaaDoorChk
set_option linter.unusedSimpArgs false
set_option linter.unusedVariables false
namespace Go.Proofs.YtcjblbhmajdmjaaDoor
open Go.RowKit

theorem chkList_nil (vars : Int) (known : Int → Bool) (ss : List Nat) : chkList vars known [] ss = 0 := by simp [chkList]
theorem beq_of {a b : Int} (h : a = b) : (a == b) = true := by simp [h]
theorem beq_not {a b : Int} (h : a ≠ b) : (a == b) = false := by simp [h]

set_option maxRecDepth 100000 in
set_option maxHeartbeats 8000000 in
theorem RCheck_false (f : List Mk) (v : Value) (vars : Int) (w : World) (hv : MS w v f) : Calls Tryd.prog 13 #[v, .int .i64 vars, .bool false] w fun e w' => e = .returned (.int .i64 (checkS f vars false)) ∧ Below w.heap.size w w' := by
  have HV := Lib.hid hv
  obtain ⟨hop, A, c, rfl, hc, hc2, hcell⟩ := hv
  obtain ⟨n, hn⟩ : ∃ n, n = f.length := ⟨_, rfl⟩
  have hT : checkS f vars false = if vars < 0 ∨ 6 < vars then 7 else chk f vars (knows false) := rfl
  generalize checkS f vars false = T at *
  rw [← hn] at HV hc
  rw [← hn]
  clear hcell
  by_cases hbad : vars < 0 ∨ 6 < vars
  · rw [if_pos hbad] at hT
    rw [hT]
    have hcs : vars < 0 ∨ (0 ≤ vars ∧ 6 < vars) := by omega
    clear hn hT hbad hop HV
    rcases hcs with q1 | ⟨q1, q2⟩
    all_goals
      go_enter Tryd.func13, Tryd.ntmps13
      go_wp2
      go_returns
      exact ⟨rfl, by go_grown⟩
  rw [if_neg hbad] at hT
  have v1 : 0 ≤ vars := by omega
  have v2 : vars ≤ 6 := by omega
  have v3 : vars ≤ 6 := by omega
  clear hbad
  by_cases hn0 : n = 0
  · have e : T = 3 := by rw [hT, chk, if_pos (by omega)]
    rw [e]
    subst hn0
    clear hn hT e
    go_enter Tryd.func13, Tryd.ntmps13
    go_wp2
    go_returns
    exact ⟨rfl, by go_grown⟩
  have hn0' : ((n : Int) == 0) = false := by simp [hn0]
  by_cases hn1 : 64 < n
  · have e : T = 4 := by rw [hT, chk, if_neg (by omega), if_pos (by omega)]
    rw [e]
    clear hn hT e hn0
    go_enter Tryd.func13, Tryd.ntmps13
    go_wp2
    go_returns
    exact ⟨rfl, by go_grown⟩
  have hnn : decide (64 < (n : Int)) = false := by simp; omega
  have hn2 : n ≤ 64 := by omega
  have hnp : 1 ≤ n := by omega
  obtain ⟨R, hR⟩ : ∃ R, R = chkList vars (knows false) f (szs f) := ⟨_, rfl⟩
  have hfin : T = if R = 0 then (if (szs f).getD (n - 1) 0 = n then 0 else 2) else R := by rw [hT, chk, if_neg (by omega), if_neg (by omega), hR, hn]
  have HF := Lib.hid hfin; have HR := Lib.hid hR; have HN := Lib.hid hn; have HOP := Lib.hid hop
  have hsl : (szs f).length = n := by rw [szs_len, hn]
  have HSL := Lib.hid hsl
  have HCS := Lib.hid fun W (h : Below w.heap.size w W) => RSizes_any f _ W (HV.out.below h (Nat.le_refl _)) (by omega)
  clear hn hn0 hn1 hR hT hfin hop hsl
  go_enter Tryd.func13, Tryd.ntmps13
  go_wp2_with (go_at_call 38; go_must (refine (HCS.out _ (Below.refl _ _)).mono ?_; rintro e w1 ⟨v1, rfl, hb1, hfr1, hi1⟩; obtain ⟨A2, c2, rfl, hi2, hi3, hi4⟩ := hi1; rw [ints_len, HSL.out] at hi2 hi4 ⊢; obtain ⟨b2, o2, rfl, hb2, hcl⟩ := hi4 (by omega); have HB1 := Lib.hid hb1; have HCL := Lib.hid hcl; clear hb1 hcl hi4 hfr1))
  go_loopg [8] n (fun gk q wr => ∃ k : Nat, k ≤ n ∧ gk = n - k ∧ q = .int .i64 k ∧ Below w1.heap.size w1 wr ∧ chkList vars (knows false) (f.drop k) ((szs f).drop k) = R)
  case atStart => exact ⟨0, Nat.zero_le _, rfl, rfl, Below.refl _ _, by rw [HR.out, List.drop_zero, List.drop_zero]⟩
  case round =>
    obtain ⟨k, hk, rfl, rfl, hbe, hR⟩ := hrel
    have hbw : Below w.heap.size w wr := HB1.out.trans (hbe.mono HB1.out.size)
    have hbl2 : b2 < wr.heap.size := by have := hbe.size; omega
    by_cases hlt : k < n
    · obtain ⟨m, hm⟩ : ∃ m, f[k]? = some m := ⟨f[k]'(by rw [← HN.out]; exact hlt), List.getElem?_eq_getElem _⟩
      obtain ⟨m1, m2⟩ := HOP.out m (List.mem_of_getElem? hm)
      obtain ⟨b, o, rfl⟩ := HV.out.addr (by rw [← HN.out]; omega)
      obtain ⟨c0, c1, c2', c3, c4⟩ := (HV.out.below hbw (Nat.le_refl _)).at5 hm
      have hbl : b < wr.heap.size := World.block_lt_of_cell? _ _ c0
      have d0 := (hbe.cell (p := ⟨b2, o2 + k, none⟩) hb2).trans (HCL.out k _ (ints_get (by rw [HSL.out]; exact hlt)))
      rw [chkList_drop vars (knows false) f (szs f) k m hm (szs_len f)] at hR
      generalize (szs f).getD k 0 = s at *
      have hux := fun W => RUsesX_any m.op W m1 m2
      have huy := fun W => RUsesY_any m.op W m1 m2
      obtain ⟨kk, hkk⟩ : ∃ kk, kk = nv m.op := ⟨_, rfl⟩
      have hkc : kk = 0 ∨ kk = 1 ∨ kk = 2 := by rw [hkk]; exact nv_cases _
      have hwi : within m vars = true ↔ (kk < 1 ∨ (0 ≤ m.x ∧ m.x < vars)) ∧ (kk < 2 ∨ (0 ≤ m.y ∧ m.y < vars)) := by
        unfold within
        rw [← hkk]
        simp only [Bool.and_eq_true, Bool.or_eq_true, decide_eq_true_eq]
      rw [← hkk] at hux huy
      have HRR := Lib.hid hR; have HBW := Lib.hid hbw; have HBE := Lib.hid hbe
      clear hR hbw hbe hm hkk
      have fin : ∀ W (e : Int), Below w.heap.size w W → chkNode vars (knows false) m s = e → e ≠ 0 → (Ending.returned (.int .i64 e) = .returned (.int .i64 T) ∧ Below w.heap.size w W) := by
        intro W e hW he hne
        have h2 := HRR.out
        rw [he, if_neg hne] at h2
        rw [HF.out, if_neg (by rw [← h2]; exact hne), ← h2]
        exact ⟨rfl, hW⟩
      have FIN := Lib.hid fin; clear fin
      by_cases hnm : nm m.op = []
      · have hcn : chkNode vars (knows false) m s = 6 := by unfold chkNode; rw [if_pos hnm]
        have HCN := Lib.hid hcn; have HUX := Lib.hid hux; have HUY := Lib.hid huy; clear hcn hux huy hwi hkc
        go_wp2_with (first
          | (go_at_call 39; go_must (refine (RName_any _ _ m1 m2).mono ?_; rintro e w2 ⟨rfl, hb2⟩; obtain ⟨x0, x1, hz1, HB2⟩ := after1 hb2; clear hb2; have HBR : Hid (Below w.heap.size w w2) := HBW.out.trans (HB2.out.mono HBW.out.size)))
          | (go_at_call 40; go_must ((with_reducible refine (HUX.out _).mono ?_); rintro e w4 ⟨rfl, rfl⟩))
          | (go_at_call 41; go_must ((with_reducible refine (HUY.out _).mono ?_); rintro e w4 ⟨rfl, rfl⟩))
          | (go_at_call 42; go_must (refine (Rfields_any m _ m1 m2).mono ?_; rintro e w3 ⟨rfl, hb3⟩; replace HBR := Lib.hid (HBR.out.trans (hb3.mono HBR.out.size)); have HB3 : Hid (Below wr.heap.size wr w3) := HB2.out.trans (hb3.mono HB2.out.size); have d3 := (HB3.out.cell (p := ⟨b2, o2 + k, none⟩) hbl2).trans d0; clear hb3)))
        go_returns
        exact FIN.out _ _ HBR.out HCN.out (by omega)
      have hnm' : (nm m.op).isEmpty = false := by simp [hnm]
      by_cases hb7 : m.op = 7 ∨ m.op = 8
      · have hcn : chkNode vars (knows false) m s = 6 := by unfold chkNode; rw [if_neg hnm, if_pos (by rcases hb7 with h | h <;> simp [knows, h])]
        have HCN := Lib.hid hcn; have HUX := Lib.hid hux; have HUY := Lib.hid huy; clear hcn hux huy hwi hkc hnm
        have hcs : (m.op == 7) = true ∨ ((m.op == 7) = false ∧ (m.op == 8) = true) := by
          rcases hb7 with h | h
          · exact .inl (beq_of h)
          · exact .inr ⟨beq_not (by omega), beq_of h⟩
        clear hb7
        rcases hcs with e7 | ⟨e7, e8⟩
        all_goals
          go_wp2_with (first
            | (go_at_call 39; go_must (refine (RName_any _ _ m1 m2).mono ?_; rintro e w2 ⟨rfl, hb2⟩; obtain ⟨x0, x1, hz1, HB2⟩ := after1 hb2; clear hb2; have HBR : Hid (Below w.heap.size w w2) := HBW.out.trans (HB2.out.mono HBW.out.size)))
            | (go_at_call 40; go_must ((with_reducible refine (HUX.out _).mono ?_); rintro e w4 ⟨rfl, rfl⟩))
            | (go_at_call 41; go_must ((with_reducible refine (HUY.out _).mono ?_); rintro e w4 ⟨rfl, rfl⟩))
            | (go_at_call 42; go_must (refine (Rfields_any m _ m1 m2).mono ?_; rintro e w3 ⟨rfl, hb3⟩; replace HBR := Lib.hid (HBR.out.trans (hb3.mono HBR.out.size)); have HB3 : Hid (Below wr.heap.size wr w3) := HB2.out.trans (hb3.mono HB2.out.size); have d3 := (HB3.out.cell (p := ⟨b2, o2 + k, none⟩) hbl2).trans d0; clear hb3)))
          go_returns
          exact FIN.out _ _ HBR.out HCN.out (by omega)
      have e7 : (m.op == 7) = false := beq_not (by omega)
      have e8 : (m.op == 8) = false := beq_not (by omega)
      have hknow : knows false m.op = true := by simp [knows]; omega
      clear hb7
      have hnode : chkNode vars (knows false) m s = if within m vars = false then 7 else if spare m = false then 2 else if s = 0 then 2 else 0 := by unfold chkNode; rw [if_neg hnm, if_neg (by rw [hknow]; simp)]
      clear hnm hknow
      by_cases hwt : within m vars = true
      · have hw2 := hwi.1 hwt
        rw [hwt, if_neg (by simp)] at hnode
        have hcs : kk = 0 ∨ (kk = 1 ∧ 0 ≤ m.x ∧ m.x < vars) ∨ (kk = 2 ∧ 0 ≤ m.x ∧ m.x < vars ∧ 0 ≤ m.y ∧ m.y < vars) := by omega
        clear hwi hw2 hwt hkc
        by_cases hg : spare m = true ∧ s ≠ 0
        · obtain ⟨h6, h7⟩ := hg
          have h7' : ((s : Int) == 0) = false := by simp [h7]
          rw [if_neg (by simp [h6]), if_neg h7] at hnode
          have HZ := Lib.hid hnode; clear hnode h7
          rcases hcs with rfl | ⟨rfl, p1, p2⟩ | ⟨rfl, p1, p2, p3, p4⟩
          all_goals
            have HUX := Lib.hid hux; have HUY := Lib.hid huy; clear hux huy
            go_wp2_with (first
              | (go_at_call 39; go_must (refine (RName_any _ _ m1 m2).mono ?_; rintro e w2 ⟨rfl, hb2⟩; obtain ⟨x0, x1, hz1, HB2⟩ := after1 hb2; clear hb2; have HBR : Hid (Below w.heap.size w w2) := HBW.out.trans (HB2.out.mono HBW.out.size)))
              | (go_at_call 40; go_must ((with_reducible refine (HUX.out _).mono ?_); rintro e w4 ⟨rfl, rfl⟩))
              | (go_at_call 41; go_must ((with_reducible refine (HUY.out _).mono ?_); rintro e w4 ⟨rfl, rfl⟩))
              | (go_at_call 42; go_must (refine (Rfields_any m _ m1 m2).mono ?_; rintro e w3 ⟨rfl, hb3⟩; replace HBR := Lib.hid (HBR.out.trans (hb3.mono HBR.out.size)); have HB3 : Hid (Below wr.heap.size wr w3) := HB2.out.trans (hb3.mono HB2.out.size); have d3 := (HB3.out.cell (p := ⟨b2, o2 + k, none⟩) hbl2).trans d0; clear hb3)))
            go_roundg (n - (k + 1))
            case rel =>
              have h2 := HRR.out
              rw [if_pos HZ.out] at h2
              exact ⟨k + 1, by omega, rfl, by go_num, HBE.out.trans (HB3.out.mono HBE.out.size), h2⟩
            case measure => omega
        · have hcn : chkNode vars (knows false) m s = 2 := by
            rw [hnode]
            by_cases h : spare m = false
            · rw [if_pos h]
            · rw [if_neg h]
              have h0 : s = 0 := by
                apply Decidable.byContradiction
                intro h1
                exact hg ⟨by simpa using h, h1⟩
              rw [if_pos h0]
          have hsp : spare m = false ∨ (spare m = true ∧ ((s : Int) == 0) = true) := by
            cases h : spare m
            · exact .inl rfl
            · refine .inr ⟨rfl, ?_⟩
              have h0 : s = 0 := by
                apply Decidable.byContradiction
                intro h1
                exact hg ⟨h, h1⟩
              simp [h0]
          have HCN := Lib.hid hcn
          clear hg hnode hcn
          rcases hcs with rfl | ⟨rfl, p1, p2⟩ | ⟨rfl, p1, p2, p3, p4⟩ <;> rcases hsp with h6 | ⟨h6, h7⟩
          all_goals
            have HUX := Lib.hid hux; have HUY := Lib.hid huy; clear hux huy
            go_wp2_with (first
              | (go_at_call 39; go_must (refine (RName_any _ _ m1 m2).mono ?_; rintro e w2 ⟨rfl, hb2⟩; obtain ⟨x0, x1, hz1, HB2⟩ := after1 hb2; clear hb2; have HBR : Hid (Below w.heap.size w w2) := HBW.out.trans (HB2.out.mono HBW.out.size)))
              | (go_at_call 40; go_must ((with_reducible refine (HUX.out _).mono ?_); rintro e w4 ⟨rfl, rfl⟩))
              | (go_at_call 41; go_must ((with_reducible refine (HUY.out _).mono ?_); rintro e w4 ⟨rfl, rfl⟩))
              | (go_at_call 42; go_must (refine (Rfields_any m _ m1 m2).mono ?_; rintro e w3 ⟨rfl, hb3⟩; replace HBR := Lib.hid (HBR.out.trans (hb3.mono HBR.out.size)); have HB3 : Hid (Below wr.heap.size wr w3) := HB2.out.trans (hb3.mono HB2.out.size); have d3 := (HB3.out.cell (p := ⟨b2, o2 + k, none⟩) hbl2).trans d0; clear hb3)))
            go_returns
            exact FIN.out _ _ HBR.out HCN.out (by omega)
      · have hw0 : within m vars = false := by simpa using hwt
        rw [hw0, if_pos rfl] at hnode
        have hcs : (kk = 1 ∧ m.x < 0) ∨ (kk = 1 ∧ 0 ≤ m.x ∧ vars ≤ m.x) ∨ (kk = 2 ∧ m.x < 0) ∨ (kk = 2 ∧ 0 ≤ m.x ∧ vars ≤ m.x) ∨ (kk = 2 ∧ 0 ≤ m.x ∧ m.x < vars ∧ m.y < 0) ∨ (kk = 2 ∧ 0 ≤ m.x ∧ m.x < vars ∧ 0 ≤ m.y ∧ vars ≤ m.y) := by
          rw [hwi] at hwt
          omega
        clear hwi hwt hkc hw0
        have HCN := Lib.hid hnode; clear hnode
        rcases hcs with ⟨rfl, p1⟩ | ⟨rfl, p1, p2⟩ | ⟨rfl, p1⟩ | ⟨rfl, p1, p2⟩ | ⟨rfl, p1, p2, p3⟩ | ⟨rfl, p1, p2, p3, p4⟩
        all_goals
          have HUX := Lib.hid hux; have HUY := Lib.hid huy; clear hux huy
          go_wp2_with (first
            | (go_at_call 39; go_must (refine (RName_any _ _ m1 m2).mono ?_; rintro e w2 ⟨rfl, hb2⟩; obtain ⟨x0, x1, hz1, HB2⟩ := after1 hb2; clear hb2; have HBR : Hid (Below w.heap.size w w2) := HBW.out.trans (HB2.out.mono HBW.out.size)))
            | (go_at_call 40; go_must ((with_reducible refine (HUX.out _).mono ?_); rintro e w4 ⟨rfl, rfl⟩))
            | (go_at_call 41; go_must ((with_reducible refine (HUY.out _).mono ?_); rintro e w4 ⟨rfl, rfl⟩))
            | (go_at_call 42; go_must (refine (Rfields_any m _ m1 m2).mono ?_; rintro e w3 ⟨rfl, hb3⟩; replace HBR := Lib.hid (HBR.out.trans (hb3.mono HBR.out.size)); have HB3 : Hid (Below wr.heap.size wr w3) := HB2.out.trans (hb3.mono HB2.out.size); have d3 := (HB3.out.cell (p := ⟨b2, o2 + k, none⟩) hbl2).trans d0; clear hb3)))
          go_returns
          exact FIN.out _ _ HBR.out HCN.out (by omega)
    · have hkn : k = n := by omega
      have h0 : R = 0 := by
        rw [← hR, hkn, HN.out, List.drop_length]
        exact chkList_nil _ _ _
      have d0 := (hbe.cell (p := ⟨b2, o2 + (n - 1), none⟩) hb2).trans (HCL.out (n - 1) _ (ints_get (by rw [HSL.out]; omega)))
      have hsz := szs_le f (n - 1)
      generalize hs : (szs f).getD (n - 1) 0 = s at *
      have HS := Lib.hid h0; have HBW := Lib.hid hbw
      clear hR hbw h0 hs hkn hbe
      have y1 : ((n : Int) - 1).toNat = n - 1 := by omega
      by_cases hsn : s = n
      · have hb : ((s : Int) != (n : Int)) = false := by simp [hsn]
        have hT : T = 0 := by rw [HF.out, HS.out, if_pos rfl, if_pos hsn]
        have HTT := Lib.hid hT; clear hT hsn
        go_wp2
        go_returns
        exact ⟨by rw [HTT.out]; rfl, HBW.out⟩
      · have hb : ((s : Int) != (n : Int)) = true := by simp; omega
        have hT : T = 2 := by rw [HF.out, HS.out, if_pos rfl, if_neg hsn]
        have HTT := Lib.hid hT; clear hT hsn
        go_wp2
        go_returns
        exact ⟨by rw [HTT.out]; rfl, HBW.out⟩
end Go.Proofs.YtcjblbhmajdmjaaDoor

namespace Go.Proofs.YtcjblbhmajdmjaaDoor
open Go.RowKit

set_option maxRecDepth 100000 in
set_option maxHeartbeats 8000000 in
theorem RCheck_true (f : List Mk) (v : Value) (vars : Int) (w : World) (hv : MS w v f) : Calls Tryd.prog 13 #[v, .int .i64 vars, .bool true] w fun e w' => e = .returned (.int .i64 (checkS f vars true)) ∧ Below w.heap.size w w' := by
  have HV := Lib.hid hv
  obtain ⟨hop, A, c, rfl, hc, hc2, hcell⟩ := hv
  obtain ⟨n, hn⟩ : ∃ n, n = f.length := ⟨_, rfl⟩
  have hT : checkS f vars true = if vars < 0 ∨ 3 < vars then 7 else chk f vars (knows true) := rfl
  generalize checkS f vars true = T at *
  rw [← hn] at HV hc
  rw [← hn]
  clear hcell
  by_cases hbad : vars < 0 ∨ 3 < vars
  · rw [if_pos hbad] at hT
    rw [hT]
    have hcs : vars < 0 ∨ (0 ≤ vars ∧ 6 < vars) ∨ (0 ≤ vars ∧ vars ≤ 6 ∧ 3 < vars) := by omega
    clear hn hT hbad hop HV
    rcases hcs with q1 | ⟨q1, q2⟩ | ⟨q1, q2, q3⟩
    all_goals
      go_enter Tryd.func13, Tryd.ntmps13
      go_wp2
      go_returns
      exact ⟨rfl, by go_grown⟩
  rw [if_neg hbad] at hT
  have v1 : 0 ≤ vars := by omega
  have v2 : vars ≤ 3 := by omega
  have v3 : vars ≤ 6 := by omega
  clear hbad
  by_cases hn0 : n = 0
  · have e : T = 3 := by rw [hT, chk, if_pos (by omega)]
    rw [e]
    subst hn0
    clear hn hT e
    go_enter Tryd.func13, Tryd.ntmps13
    go_wp2
    go_returns
    exact ⟨rfl, by go_grown⟩
  have hn0' : ((n : Int) == 0) = false := by simp [hn0]
  by_cases hn1 : 64 < n
  · have e : T = 4 := by rw [hT, chk, if_neg (by omega), if_pos (by omega)]
    rw [e]
    clear hn hT e hn0
    go_enter Tryd.func13, Tryd.ntmps13
    go_wp2
    go_returns
    exact ⟨rfl, by go_grown⟩
  have hnn : decide (64 < (n : Int)) = false := by simp; omega
  have hn2 : n ≤ 64 := by omega
  have hnp : 1 ≤ n := by omega
  obtain ⟨R, hR⟩ : ∃ R, R = chkList vars (knows true) f (szs f) := ⟨_, rfl⟩
  have hfin : T = if R = 0 then (if (szs f).getD (n - 1) 0 = n then 0 else 2) else R := by rw [hT, chk, if_neg (by omega), if_neg (by omega), hR, hn]
  have HF := Lib.hid hfin; have HR := Lib.hid hR; have HN := Lib.hid hn; have HOP := Lib.hid hop
  have hsl : (szs f).length = n := by rw [szs_len, hn]
  have HSL := Lib.hid hsl
  have HCS := Lib.hid fun W (h : Below w.heap.size w W) => RSizes_any f _ W (HV.out.below h (Nat.le_refl _)) (by omega)
  clear hn hn0 hn1 hR hT hfin hop hsl
  go_enter Tryd.func13, Tryd.ntmps13
  go_wp2_with (go_at_call 38; go_must (refine (HCS.out _ (Below.refl _ _)).mono ?_; rintro e w1 ⟨v1, rfl, hb1, hfr1, hi1⟩; obtain ⟨A2, c2, rfl, hi2, hi3, hi4⟩ := hi1; rw [ints_len, HSL.out] at hi2 hi4 ⊢; obtain ⟨b2, o2, rfl, hb2, hcl⟩ := hi4 (by omega); have HB1 := Lib.hid hb1; have HCL := Lib.hid hcl; clear hb1 hcl hi4 hfr1))
  go_loopg [8] n (fun gk q wr => ∃ k : Nat, k ≤ n ∧ gk = n - k ∧ q = .int .i64 k ∧ Below w1.heap.size w1 wr ∧ chkList vars (knows true) (f.drop k) ((szs f).drop k) = R)
  case atStart => exact ⟨0, Nat.zero_le _, rfl, rfl, Below.refl _ _, by rw [HR.out, List.drop_zero, List.drop_zero]⟩
  case round =>
    obtain ⟨k, hk, rfl, rfl, hbe, hR⟩ := hrel
    have hbw : Below w.heap.size w wr := HB1.out.trans (hbe.mono HB1.out.size)
    have hbl2 : b2 < wr.heap.size := by have := hbe.size; omega
    by_cases hlt : k < n
    · obtain ⟨m, hm⟩ : ∃ m, f[k]? = some m := ⟨f[k]'(by rw [← HN.out]; exact hlt), List.getElem?_eq_getElem _⟩
      obtain ⟨m1, m2⟩ := HOP.out m (List.mem_of_getElem? hm)
      obtain ⟨b, o, rfl⟩ := HV.out.addr (by rw [← HN.out]; omega)
      obtain ⟨c0, c1, c2', c3, c4⟩ := (HV.out.below hbw (Nat.le_refl _)).at5 hm
      have hbl : b < wr.heap.size := World.block_lt_of_cell? _ _ c0
      have d0 := (hbe.cell (p := ⟨b2, o2 + k, none⟩) hb2).trans (HCL.out k _ (ints_get (by rw [HSL.out]; exact hlt)))
      rw [chkList_drop vars (knows true) f (szs f) k m hm (szs_len f)] at hR
      generalize (szs f).getD k 0 = s at *
      have hux := fun W => RUsesX_any m.op W m1 m2
      have huy := fun W => RUsesY_any m.op W m1 m2
      obtain ⟨kk, hkk⟩ : ∃ kk, kk = nv m.op := ⟨_, rfl⟩
      have hkc : kk = 0 ∨ kk = 1 ∨ kk = 2 := by rw [hkk]; exact nv_cases _
      have hwi : within m vars = true ↔ (kk < 1 ∨ (0 ≤ m.x ∧ m.x < vars)) ∧ (kk < 2 ∨ (0 ≤ m.y ∧ m.y < vars)) := by
        unfold within
        rw [← hkk]
        simp only [Bool.and_eq_true, Bool.or_eq_true, decide_eq_true_eq]
      rw [← hkk] at hux huy
      have HRR := Lib.hid hR; have HBW := Lib.hid hbw; have HBE := Lib.hid hbe
      clear hR hbw hbe hm hkk
      have fin : ∀ W (e : Int), Below w.heap.size w W → chkNode vars (knows true) m s = e → e ≠ 0 → (Ending.returned (.int .i64 e) = .returned (.int .i64 T) ∧ Below w.heap.size w W) := by
        intro W e hW he hne
        have h2 := HRR.out
        rw [he, if_neg hne] at h2
        rw [HF.out, if_neg (by rw [← h2]; exact hne), ← h2]
        exact ⟨rfl, hW⟩
      have FIN := Lib.hid fin; clear fin
      by_cases hnm : nm m.op = []
      · have hcn : chkNode vars (knows true) m s = 6 := by unfold chkNode; rw [if_pos hnm]
        have HCN := Lib.hid hcn; have HUX := Lib.hid hux; have HUY := Lib.hid huy; clear hcn hux huy hwi hkc
        go_wp2_with (first
          | (go_at_call 39; go_must (refine (RName_any _ _ m1 m2).mono ?_; rintro e w2 ⟨rfl, hb2⟩; obtain ⟨x0, x1, hz1, HB2⟩ := after1 hb2; clear hb2; have HBR : Hid (Below w.heap.size w w2) := HBW.out.trans (HB2.out.mono HBW.out.size)))
          | (go_at_call 40; go_must ((with_reducible refine (HUX.out _).mono ?_); rintro e w4 ⟨rfl, rfl⟩))
          | (go_at_call 41; go_must ((with_reducible refine (HUY.out _).mono ?_); rintro e w4 ⟨rfl, rfl⟩))
          | (go_at_call 42; go_must (refine (Rfields_any m _ m1 m2).mono ?_; rintro e w3 ⟨rfl, hb3⟩; replace HBR := Lib.hid (HBR.out.trans (hb3.mono HBR.out.size)); have HB3 : Hid (Below wr.heap.size wr w3) := HB2.out.trans (hb3.mono HB2.out.size); have d3 := (HB3.out.cell (p := ⟨b2, o2 + k, none⟩) hbl2).trans d0; clear hb3)))
        go_returns
        exact FIN.out _ _ HBR.out HCN.out (by omega)
      have hnm' : (nm m.op).isEmpty = false := by simp [hnm]
      by_cases hb5 : m.op = 5
      · have e5 := beq_of hb5
        have hcn : chkNode vars (knows true) m s = 6 := by unfold chkNode; rw [if_neg hnm, if_pos (by simp [knows, hb5])]
        have HCN := Lib.hid hcn; have HUX := Lib.hid hux; have HUY := Lib.hid huy; clear hcn hux huy hwi hkc hnm hb5
        go_wp2_with (first
          | (go_at_call 39; go_must (refine (RName_any _ _ m1 m2).mono ?_; rintro e w2 ⟨rfl, hb2⟩; obtain ⟨x0, x1, hz1, HB2⟩ := after1 hb2; clear hb2; have HBR : Hid (Below w.heap.size w w2) := HBW.out.trans (HB2.out.mono HBW.out.size)))
          | (go_at_call 40; go_must ((with_reducible refine (HUX.out _).mono ?_); rintro e w4 ⟨rfl, rfl⟩))
          | (go_at_call 41; go_must ((with_reducible refine (HUY.out _).mono ?_); rintro e w4 ⟨rfl, rfl⟩))
          | (go_at_call 42; go_must (refine (Rfields_any m _ m1 m2).mono ?_; rintro e w3 ⟨rfl, hb3⟩; replace HBR := Lib.hid (HBR.out.trans (hb3.mono HBR.out.size)); have HB3 : Hid (Below wr.heap.size wr w3) := HB2.out.trans (hb3.mono HB2.out.size); have d3 := (HB3.out.cell (p := ⟨b2, o2 + k, none⟩) hbl2).trans d0; clear hb3)))
        go_returns
        exact FIN.out _ _ HBR.out HCN.out (by omega)
      have e5 := beq_not hb5
      have hknow : knows true m.op = true := by simp [knows, hb5]
      clear hb5
      have hnode : chkNode vars (knows true) m s = if within m vars = false then 7 else if spare m = false then 2 else if s = 0 then 2 else 0 := by unfold chkNode; rw [if_neg hnm, if_neg (by rw [hknow]; simp)]
      clear hnm hknow
      by_cases hwt : within m vars = true
      · have hw2 := hwi.1 hwt
        rw [hwt, if_neg (by simp)] at hnode
        have hcs : kk = 0 ∨ (kk = 1 ∧ 0 ≤ m.x ∧ m.x < vars) ∨ (kk = 2 ∧ 0 ≤ m.x ∧ m.x < vars ∧ 0 ≤ m.y ∧ m.y < vars) := by omega
        clear hwi hw2 hwt hkc
        by_cases hg : spare m = true ∧ s ≠ 0
        · obtain ⟨h6, h7⟩ := hg
          have h7' : ((s : Int) == 0) = false := by simp [h7]
          rw [if_neg (by simp [h6]), if_neg h7] at hnode
          have HZ := Lib.hid hnode; clear hnode h7
          rcases hcs with rfl | ⟨rfl, p1, p2⟩ | ⟨rfl, p1, p2, p3, p4⟩
          all_goals
            have HUX := Lib.hid hux; have HUY := Lib.hid huy; clear hux huy
            go_wp2_with (first
              | (go_at_call 39; go_must (refine (RName_any _ _ m1 m2).mono ?_; rintro e w2 ⟨rfl, hb2⟩; obtain ⟨x0, x1, hz1, HB2⟩ := after1 hb2; clear hb2; have HBR : Hid (Below w.heap.size w w2) := HBW.out.trans (HB2.out.mono HBW.out.size)))
              | (go_at_call 40; go_must ((with_reducible refine (HUX.out _).mono ?_); rintro e w4 ⟨rfl, rfl⟩))
              | (go_at_call 41; go_must ((with_reducible refine (HUY.out _).mono ?_); rintro e w4 ⟨rfl, rfl⟩))
              | (go_at_call 42; go_must (refine (Rfields_any m _ m1 m2).mono ?_; rintro e w3 ⟨rfl, hb3⟩; replace HBR := Lib.hid (HBR.out.trans (hb3.mono HBR.out.size)); have HB3 : Hid (Below wr.heap.size wr w3) := HB2.out.trans (hb3.mono HB2.out.size); have d3 := (HB3.out.cell (p := ⟨b2, o2 + k, none⟩) hbl2).trans d0; clear hb3)))
            go_roundg (n - (k + 1))
            case rel =>
              have h2 := HRR.out
              rw [if_pos HZ.out] at h2
              exact ⟨k + 1, by omega, rfl, by go_num, HBE.out.trans (HB3.out.mono HBE.out.size), h2⟩
            case measure => omega
        · have hcn : chkNode vars (knows true) m s = 2 := by
            rw [hnode]
            by_cases h : spare m = false
            · rw [if_pos h]
            · rw [if_neg h]
              have h0 : s = 0 := by
                apply Decidable.byContradiction
                intro h1
                exact hg ⟨by simpa using h, h1⟩
              rw [if_pos h0]
          have hsp : spare m = false ∨ (spare m = true ∧ ((s : Int) == 0) = true) := by
            cases h : spare m
            · exact .inl rfl
            · refine .inr ⟨rfl, ?_⟩
              have h0 : s = 0 := by
                apply Decidable.byContradiction
                intro h1
                exact hg ⟨h, h1⟩
              simp [h0]
          have HCN := Lib.hid hcn
          clear hg hnode hcn
          rcases hcs with rfl | ⟨rfl, p1, p2⟩ | ⟨rfl, p1, p2, p3, p4⟩ <;> rcases hsp with h6 | ⟨h6, h7⟩
          all_goals
            have HUX := Lib.hid hux; have HUY := Lib.hid huy; clear hux huy
            go_wp2_with (first
              | (go_at_call 39; go_must (refine (RName_any _ _ m1 m2).mono ?_; rintro e w2 ⟨rfl, hb2⟩; obtain ⟨x0, x1, hz1, HB2⟩ := after1 hb2; clear hb2; have HBR : Hid (Below w.heap.size w w2) := HBW.out.trans (HB2.out.mono HBW.out.size)))
              | (go_at_call 40; go_must ((with_reducible refine (HUX.out _).mono ?_); rintro e w4 ⟨rfl, rfl⟩))
              | (go_at_call 41; go_must ((with_reducible refine (HUY.out _).mono ?_); rintro e w4 ⟨rfl, rfl⟩))
              | (go_at_call 42; go_must (refine (Rfields_any m _ m1 m2).mono ?_; rintro e w3 ⟨rfl, hb3⟩; replace HBR := Lib.hid (HBR.out.trans (hb3.mono HBR.out.size)); have HB3 : Hid (Below wr.heap.size wr w3) := HB2.out.trans (hb3.mono HB2.out.size); have d3 := (HB3.out.cell (p := ⟨b2, o2 + k, none⟩) hbl2).trans d0; clear hb3)))
            go_returns
            exact FIN.out _ _ HBR.out HCN.out (by omega)
      · have hw0 : within m vars = false := by simpa using hwt
        rw [hw0, if_pos rfl] at hnode
        have hcs : (kk = 1 ∧ m.x < 0) ∨ (kk = 1 ∧ 0 ≤ m.x ∧ vars ≤ m.x) ∨ (kk = 2 ∧ m.x < 0) ∨ (kk = 2 ∧ 0 ≤ m.x ∧ vars ≤ m.x) ∨ (kk = 2 ∧ 0 ≤ m.x ∧ m.x < vars ∧ m.y < 0) ∨ (kk = 2 ∧ 0 ≤ m.x ∧ m.x < vars ∧ 0 ≤ m.y ∧ vars ≤ m.y) := by
          rw [hwi] at hwt
          omega
        clear hwi hwt hkc hw0
        have HCN := Lib.hid hnode; clear hnode
        rcases hcs with ⟨rfl, p1⟩ | ⟨rfl, p1, p2⟩ | ⟨rfl, p1⟩ | ⟨rfl, p1, p2⟩ | ⟨rfl, p1, p2, p3⟩ | ⟨rfl, p1, p2, p3, p4⟩
        all_goals
          have HUX := Lib.hid hux; have HUY := Lib.hid huy; clear hux huy
          go_wp2_with (first
            | (go_at_call 39; go_must (refine (RName_any _ _ m1 m2).mono ?_; rintro e w2 ⟨rfl, hb2⟩; obtain ⟨x0, x1, hz1, HB2⟩ := after1 hb2; clear hb2; have HBR : Hid (Below w.heap.size w w2) := HBW.out.trans (HB2.out.mono HBW.out.size)))
            | (go_at_call 40; go_must ((with_reducible refine (HUX.out _).mono ?_); rintro e w4 ⟨rfl, rfl⟩))
            | (go_at_call 41; go_must ((with_reducible refine (HUY.out _).mono ?_); rintro e w4 ⟨rfl, rfl⟩))
            | (go_at_call 42; go_must (refine (Rfields_any m _ m1 m2).mono ?_; rintro e w3 ⟨rfl, hb3⟩; replace HBR := Lib.hid (HBR.out.trans (hb3.mono HBR.out.size)); have HB3 : Hid (Below wr.heap.size wr w3) := HB2.out.trans (hb3.mono HB2.out.size); have d3 := (HB3.out.cell (p := ⟨b2, o2 + k, none⟩) hbl2).trans d0; clear hb3)))
          go_returns
          exact FIN.out _ _ HBR.out HCN.out (by omega)
    · have hkn : k = n := by omega
      have h0 : R = 0 := by
        rw [← hR, hkn, HN.out, List.drop_length]
        exact chkList_nil _ _ _
      have d0 := (hbe.cell (p := ⟨b2, o2 + (n - 1), none⟩) hb2).trans (HCL.out (n - 1) _ (ints_get (by rw [HSL.out]; omega)))
      have hsz := szs_le f (n - 1)
      generalize hs : (szs f).getD (n - 1) 0 = s at *
      have HS := Lib.hid h0; have HBW := Lib.hid hbw
      clear hR hbw h0 hs hkn hbe
      have y1 : ((n : Int) - 1).toNat = n - 1 := by omega
      by_cases hsn : s = n
      · have hb : ((s : Int) != (n : Int)) = false := by simp [hsn]
        have hT : T = 0 := by rw [HF.out, HS.out, if_pos rfl, if_pos hsn]
        have HTT := Lib.hid hT; clear hT hsn
        go_wp2
        go_returns
        exact ⟨by rw [HTT.out]; rfl, HBW.out⟩
      · have hb : ((s : Int) != (n : Int)) = true := by simp; omega
        have hT : T = 2 := by rw [HF.out, HS.out, if_pos rfl, if_neg hsn]
        have HTT := Lib.hid hT; clear hT hsn
        go_wp2
        go_returns
        exact ⟨by rw [HTT.out]; rfl, HBW.out⟩
theorem RCheck_any (f : List Mk) (v : Value) (vars : Int) (trees : Bool) (w : World) (hv : MS w v f) : Calls Tryd.prog 13 #[v, .int .i64 vars, .bool trees] w fun e w' => e = .returned (.int .i64 (checkS f vars trees)) ∧ Below w.heap.size w w' := by
  cases trees
  · exact RCheck_false f v vars w hv
  · exact RCheck_true f v vars w hv
end Go.Proofs.YtcjblbhmajdmjaaDoor

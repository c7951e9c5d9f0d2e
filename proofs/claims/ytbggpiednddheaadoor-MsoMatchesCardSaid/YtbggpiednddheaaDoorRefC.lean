/- Contract of the reference: Formed. -/
import Derived.Test.YtbggpiednddheaaDoorRefB
set_option linter.unusedSimpArgs false
set_option linter.unusedVariables false
namespace Go.Proofs.YtbggpiednddheaaDoor
open Go.RowKit

def goodN (m : Mk) (s : Nat) : Prop := nm m.op ≠ [] ∧ 0 ≤ m.x ∧ m.x < 6 ∧ 0 ≤ m.y ∧ m.y < 6 ∧ spare m = true ∧ s ≠ 0
theorem chkNode_good (m : Mk) (s : Nat) : chkNode 6 (fun _ => true) m s = 0 ↔ goodN m s := by
  unfold chkNode goodN
  by_cases h1 : nm m.op = []
  · simp [h1]
  rw [if_neg h1, if_neg (by simp)]
  by_cases h4 : spare m = true
  · have hw : within m 6 = true ↔ (0 ≤ m.x ∧ m.x < 6 ∧ 0 ≤ m.y ∧ m.y < 6) := by
      unfold spare at h4
      unfold within
      simp only [Bool.and_eq_true, Bool.or_eq_true, decide_eq_true_eq] at h4 ⊢
      omega
    by_cases h3 : within m 6 = true
    · rw [if_neg (by simp [h3]), if_neg (by simp [h4])]
      have := hw.1 h3
      by_cases h5 : s = 0
      · rw [if_pos h5]; simp [h5]
      · rw [if_neg h5]; simp [h1, h4, h5]; omega
    · have h3' : within m 6 = false := by simpa using h3
      rw [if_pos h3']
      simp only [show ((7 : Int) = 0) = False by simp, false_iff]
      intro q
      exact h3 (hw.2 ⟨q.2.1, q.2.2.1, q.2.2.2.1, q.2.2.2.2.1⟩)
  · have h4' : spare m = false := by simpa using h4
    by_cases h3 : within m 6 = false
    · rw [if_pos h3]; simp [h4']
    · rw [if_neg h3, if_pos h4']; simp [h4']

set_option maxRecDepth 100000 in
set_option maxHeartbeats 4000000 in
theorem RFormed_any (f : List Mk) (v : Value) (w : World) (hv : MS w v f) : Calls Tryd.prog 58 #[v] w fun e w' => e = .returned (.bool (formedS f)) ∧ Below w.heap.size w w' := by
  have HV := Lib.hid hv
  obtain ⟨hop, A, c, rfl, hc, hc2, hcell⟩ := hv
  obtain ⟨n, hn⟩ : ∃ n, n = f.length := ⟨_, rfl⟩
  obtain ⟨T, hT⟩ : ∃ T, T = formedS f := ⟨_, rfl⟩
  rw [← hn] at HV hc
  rw [← hn, ← hT]
  clear hcell
  by_cases hn0 : n = 0
  · have e : T = false := by rw [hT, formedS, chk, if_pos (by omega)]; rfl
    rw [e]
    subst hn0
    clear hn hT e
    go_enter Tryd.func58, Tryd.ntmps58
    go_wp2
    go_returns
    exact ⟨rfl, by go_grown⟩
  have hn0' : ((n : Int) == 0) = false := by simp [hn0]
  by_cases hn1 : 64 < n
  · have e : T = false := by rw [hT, formedS, chk, if_neg (by omega), if_pos (by omega)]; rfl
    rw [e]
    clear hn hT e hn0
    go_enter Tryd.func58, Tryd.ntmps58
    go_wp2
    go_returns
    exact ⟨rfl, by go_grown⟩
  have hnn : decide (64 < (n : Int)) = false := by simp; omega
  have hn2 : n ≤ 64 := by omega
  have hnp : 1 ≤ n := by omega
  obtain ⟨R, hR⟩ : ∃ R, R = chkList 6 (fun _ => true) f (szs f) := ⟨_, rfl⟩
  have hfin : T = decide ((if R = 0 then (if (szs f).getD (n - 1) 0 = n then 0 else 2) else R) = 0) := by rw [hT, formedS, chk, if_neg (by omega), if_neg (by omega), hR, hn]
  have HF := Lib.hid hfin; have HR := Lib.hid hR; have HN := Lib.hid hn; have HOP := Lib.hid hop
  have hsl : (szs f).length = n := by rw [szs_len, hn]
  have HSL := Lib.hid hsl
  have HCS := Lib.hid fun W (h : Below w.heap.size w W) => RSizes_any f _ W (HV.out.below h (Nat.le_refl _)) (by omega)
  clear hn hn0 hn1 hR hT hfin hop hsl
  go_enter Tryd.func58, Tryd.ntmps58
  go_wp2_with (go_at_call 47; go_must (refine (HCS.out _ (Below.refl _ _)).mono ?_; rintro e w1 ⟨v1, rfl, hb1, hfr1, hi1⟩; obtain ⟨A2, c2, rfl, hi2, hi3, hi4⟩ := hi1; rw [ints_len, HSL.out] at hi2 hi4 ⊢; obtain ⟨b2, o2, rfl, hb2, hcl⟩ := hi4 (by omega); have HB1 := Lib.hid hb1; have HCL := Lib.hid hcl; clear hb1 hcl hi4 hfr1))
  go_loopg [4] n (fun gk q wr => ∃ k : Nat, k ≤ n ∧ gk = n - k ∧ q = .int .i64 k ∧ Below w1.heap.size w1 wr ∧ chkList 6 (fun _ => true) (f.drop k) ((szs f).drop k) = R)
  case atStart => exact ⟨0, Nat.zero_le _, rfl, rfl, Below.refl _ _, by rw [HR.out, List.drop_zero, List.drop_zero]⟩
  case round =>
    obtain ⟨k, hk, rfl, rfl, hbe, hR⟩ := hrel
    have hbw : Below w.heap.size w wr := HB1.out.trans (hbe.mono HB1.out.size)
    have hbl2 : b2 < wr.heap.size := by have := hbe.size; omega
    by_cases hlt : k < n
    · obtain ⟨m, hm⟩ : ∃ m, f[k]? = some m := ⟨f[k]'(by rw [← HN.out]; exact hlt), List.getElem?_eq_getElem _⟩
      obtain ⟨m1, m2⟩ := HOP.out m (List.mem_of_getElem? hm)
      obtain ⟨b, o, rfl⟩ := HV.out.addr (by rw [← HN.out]; omega)
      obtain ⟨c0, c1, c2', c3, c4⟩ := (HV.out.below hbw (Nat.le_refl _)).at5 hm
      have hbl : b < wr.heap.size := World.block_lt_of_cell? _ _ c0
      have d0 := (hbe.cell (p := ⟨b2, o2 + k, none⟩) hb2).trans (HCL.out k _ (ints_get (by rw [HSL.out]; exact hlt)))
      rw [chkList_drop 6 (fun _ => true) f (szs f) k m hm (szs_len f)] at hR
      generalize (szs f).getD k 0 = s at *
      have hgood := chkNode_good m s
      have HRR := Lib.hid hR; have HBW := Lib.hid hbw; have HBE := Lib.hid hbe; have HM := Lib.hid hm; have HGD := Lib.hid hgood
      clear hR hbw hbe hm hgood
      have fin : ∀ W, Below w.heap.size w W → chkNode 6 (fun _ => true) m s ≠ 0 → (Ending.returned (.bool false) = .returned (.bool T) ∧ Below w.heap.size w W) := by
        intro W hW hne
        have h2 := HRR.out
        rw [if_neg hne] at h2
        rw [HF.out, if_neg (by rw [← h2]; exact hne), decide_eq_false (by rw [← h2]; exact hne)]
        exact ⟨rfl, hW⟩
      have FIN := Lib.hid fin; clear fin
      by_cases hg : goodN m s
      · have hz := HGD.out.2 hg
        obtain ⟨t1, t2, t3, t4, t5, t6, t7⟩ := hg
        have t1' : (nm m.op).isEmpty = false := by simp [t1]
        have t7' : ((s : Int) == 0) = false := by simp [t7]
        have HZ := Lib.hid hz; clear hz t1 t7
        go_wp2_with (first
          | (go_at_call 48; go_must (refine (RName_any _ _ m1 m2).mono ?_; rintro e w2 ⟨rfl, hb2⟩; obtain ⟨x0, x1, hz1, HB2⟩ := after1 hb2; clear hb2; have HBR : Hid (Below w.heap.size w w2) := HBW.out.trans (HB2.out.mono HBW.out.size)))
          | (go_at_call 51; go_must (refine (Rfields_any m _ m1 m2).mono ?_; rintro e w3 ⟨rfl, hb3⟩; replace HBR := Lib.hid (HBR.out.trans (hb3.mono HBR.out.size)); have HB3 : Hid (Below wr.heap.size wr w3) := HB2.out.trans (hb3.mono HB2.out.size); have d3 := (HB3.out.cell (p := ⟨b2, o2 + k, none⟩) hbl2).trans d0; clear hb3)))
        go_roundg (n - (k + 1))
        case rel =>
          have h2 := HRR.out
          rw [if_pos HZ.out] at h2
          exact ⟨k + 1, by omega, rfl, by go_num, HBE.out.trans (HB3.out.mono HBE.out.size), h2⟩
        case measure => omega
      · have HBAD := Lib.hid hg
        have hcs : nm m.op = [] ∨ (nm m.op).isEmpty = false ∧ (m.x < 0 ∨ 0 ≤ m.x ∧ (6 ≤ m.x ∨ m.x < 6 ∧ (m.y < 0 ∨ 0 ≤ m.y ∧ (6 ≤ m.y ∨ m.y < 6 ∧ (spare m = false ∨ spare m = true ∧ s = 0))))) := by
          by_cases h1 : nm m.op = []
          · exact .inl h1
          refine .inr ⟨by simp [h1], ?_⟩
          unfold goodN at hg
          cases h2 : spare m
          · simp only [true_or, and_true]; omega
          · rw [h2] at hg
            have : ¬ (0 ≤ m.x ∧ m.x < 6 ∧ 0 ≤ m.y ∧ m.y < 6 ∧ s ≠ 0) := fun q => hg ⟨h1, q.1, q.2.1, q.2.2.1, q.2.2.2.1, rfl, q.2.2.2.2⟩
            simp only [true_and, Bool.true_eq_false, false_or]
            omega
        clear hg
        rcases hcs with h1 | ⟨h1, h2 | ⟨h2, h3 | ⟨h3, h4 | ⟨h4, h5 | ⟨h5, h6 | ⟨h6, h7⟩⟩⟩⟩⟩⟩
        rotate_right 1
        · have h7' : ((s : Int) == 0) = true := by simp [h7]
          clear h7
          go_wp2_with (first
          | (go_at_call 48; go_must (refine (RName_any _ _ m1 m2).mono ?_; rintro e w2 ⟨rfl, hb2⟩; obtain ⟨x0, x1, hz1, HB2⟩ := after1 hb2; clear hb2; have HBR : Hid (Below w.heap.size w w2) := HBW.out.trans (HB2.out.mono HBW.out.size)))
          | (go_at_call 51; go_must (refine (Rfields_any m _ m1 m2).mono ?_; rintro e w3 ⟨rfl, hb3⟩; replace HBR := Lib.hid (HBR.out.trans (hb3.mono HBR.out.size)); have HB3 : Hid (Below wr.heap.size wr w3) := HB2.out.trans (hb3.mono HB2.out.size); have d3 := (HB3.out.cell (p := ⟨b2, o2 + k, none⟩) hbl2).trans d0; clear hb3)))
          go_returns
          exact FIN.out _ HBR.out fun q => HBAD.out (HGD.out.1 q)
        all_goals
          go_wp2_with (first
          | (go_at_call 48; go_must (refine (RName_any _ _ m1 m2).mono ?_; rintro e w2 ⟨rfl, hb2⟩; obtain ⟨x0, x1, hz1, HB2⟩ := after1 hb2; clear hb2; have HBR : Hid (Below w.heap.size w w2) := HBW.out.trans (HB2.out.mono HBW.out.size)))
          | (go_at_call 51; go_must (refine (Rfields_any m _ m1 m2).mono ?_; rintro e w3 ⟨rfl, hb3⟩; replace HBR := Lib.hid (HBR.out.trans (hb3.mono HBR.out.size)); have HB3 : Hid (Below wr.heap.size wr w3) := HB2.out.trans (hb3.mono HB2.out.size); have d3 := (HB3.out.cell (p := ⟨b2, o2 + k, none⟩) hbl2).trans d0; clear hb3)))
          go_returns
          exact FIN.out _ HBR.out fun q => HBAD.out (HGD.out.1 q)
    · have hkn : k = n := by omega
      have h0 : R = 0 := by
        rw [← hR, hkn, HN.out, List.drop_length, chkList]
        intros; simp_all
      have d0 := (hbe.cell (p := ⟨b2, o2 + (n - 1), none⟩) hb2).trans (HCL.out (n - 1) _ (ints_get (by rw [HSL.out]; omega)))
      have hsz := szs_le f (n - 1)
      generalize hs : (szs f).getD (n - 1) 0 = s at *
      have HS := Lib.hid h0; have HBW := Lib.hid hbw
      clear hR hbw h0 hs hkn hbe
      have y1 : ((n : Int) - 1).toNat = n - 1 := by omega
      obtain ⟨t, ht⟩ : ∃ t, ((s : Int) == n) = t := ⟨_, rfl⟩
      have hT : T = t := by
        rw [HF.out, HS.out, if_pos rfl, ← ht]
        by_cases h : s = n
        · simp [h]
        · rw [if_neg h, Bool.eq_iff_iff]; simp; omega
      have HTT := Lib.hid hT; clear hT
      go_wp2
      go_returns
      exact ⟨by rw [HTT.out]; rfl, HBW.out⟩
end Go.Proofs.YtbggpiednddheaaDoor

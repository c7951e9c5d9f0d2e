/- Contract of the reference: Substitute; Free and Substitute of both sides together. -/
import Derived.Test.YtbggpiednddheaaDoorRefJ
set_option linter.unusedSimpArgs false
set_option linter.unusedVariables false
namespace Go.Proofs.YtbggpiednddheaaDoor
open Go.RowKit

set_option maxRecDepth 100000 in
set_option maxHeartbeats 4000000 in
theorem RSubst_range (f : List Mk) (v : Value) (x y : Int) (w : World) (hv : MS w v f) (h : rangeBad x y) : Calls Tryd.prog 22 #[v, .int .i64 x, .int .i64 y] w (RetFE w [] 7) := by
  obtain ⟨_, A, c, rfl, _⟩ := hv
  have hcs : x < 0 ∨ (0 ≤ x ∧ 6 ≤ x) ∨ (0 ≤ x ∧ x < 6 ∧ y < 0) ∨ (0 ≤ x ∧ x < 6 ∧ 0 ≤ y ∧ 6 ≤ y) := by unfold rangeBad at h; omega
  clear h
  rcases hcs with q1 | ⟨q1, q2⟩ | ⟨q1, q2, q3⟩ | ⟨q1, q2, q3, q4⟩
  all_goals
    go_enter Tryd.func22, Tryd.ntmps22
    go_wp2
    go_returns
    exact ⟨.slice none 0 0, rfl, Below.refl _ _, MO.nil _ _⟩
set_option maxRecDepth 100000 in
set_option maxHeartbeats 4000000 in
theorem RSubst_form (f : List Mk) (v : Value) (x y : Int) (w : World) (h0 : 0 ≤ x) (h1 : x < 6) (h2 : 0 ≤ y) (h3 : y < 6) (hv : MS w v f) (hf : formedS f = false) : Calls Tryd.prog 22 #[v, .int .i64 x, .int .i64 y] w (RetFE w [] 2) := by
  have hF := fun W (h : MS W v f) => RFormed_any f v W h
  rw [hf] at hF
  have HV := Lib.hid hv; have HF := Lib.hid hF; clear hF hf
  obtain ⟨_, A, c, rfl, _⟩ := hv
  go_enter Tryd.func22, Tryd.ntmps22
  go_wp2_with (go_at_call 58; go_must ((with_reducible refine (HF.out _ HV.out).mono ?_); rintro e w1 ⟨rfl, hb1⟩))
  go_returns
  exact ⟨.slice none 0 0, rfl, hb1, MO.nil _ _⟩
set_option maxRecDepth 100000 in
set_option maxHeartbeats 4000000 in
theorem RSubst_yes (f : List Mk) (t : Tr) (v : Value) (x y : Int) (r : List Mk × Int) (w : World) (h0 : 0 ≤ x) (h1 : x < 6) (h2 : 0 ≤ y) (h3 : y < 6) (hv : MS w v f) (hf : formedS f = true) (ht : f = t.enc 0) (hok : t.ok)
    (hr : r = if capT x y t = true ∧ x ≠ y then ([], 16) else ((repT x y t).enc 0, 0)) : Calls Tryd.prog 22 #[v, .int .i64 x, .int .i64 y] w (RetFE w r.1 r.2) := by
  have hF := fun W (h : MS W v f) => RFormed_any f v W h
  rw [hf] at hF
  have hl2 := (formed_len f hf).2
  have hsz : f.length = t.size := by rw [ht, Tr.enc_len]
  have hp := t.size_pos
  have hC := Rcap_any f v x y t hok 0 (by rw [ht]; exact Lies.self t)
  rw [Nat.zero_add] at hC
  have hRp := fun gr cap B => Rrep_any gr f.length cap B x y t hok 0 f rfl (by rw [ht]; exact Lies.self t)
  rw [Nat.zero_add] at hRp
  have hfin : ∀ g', RepRel f g' 0 (repT x y t) → g' = (repT x y t).enc 0 := fun g' h => Lies.whole h.2.1 (by rw [h.1, hsz, repT_size])
  have HV := Lib.hid hv; have HF := Lib.hid hF; clear hF hf
  obtain ⟨_, A, c, rfl, hc, hc2, _⟩ := hv
  obtain ⟨n, hn⟩ : ∃ n, n = f.length := ⟨_, rfl⟩
  have e1 : (((t.size - 1 : Nat)) : Int) = (n : Int) - 1 := by omega
  rw [e1] at hC hRp
  rw [← hn] at HV HF hC hRp hc hl2
  rw [← hn]
  have hn1 : 1 ≤ n := by omega
  obtain ⟨cp, hcp⟩ : ∃ b, b = capT x y t := ⟨_, rfl⟩
  rw [← hcp] at hC hr
  generalize (repT x y t).enc 0 = G at *
  have HN := Lib.hid hn; have HC := Lib.hid hC; have HRP := Lib.hid hRp; have HFIN := Lib.hid hfin; have HRR := Lib.hid hr
  clear hsz hp e1 ht hok hn hC hRp hfin hr hcp
  have hcs : (x ≠ y ∧ cp = true) ∨ (x ≠ y ∧ cp = false) ∨ x = y := by
    by_cases h : x = y
    · exact .inr (.inr h)
    · cases cp <;> simp [h]
  rcases hcs with ⟨hxy, rfl⟩ | hrest
  · have hne : (x != y) = true := by simp [hxy]
    have HE : Hid (r = ([], 16)) := by unfold Hid; rw [HRR.out, if_pos ⟨rfl, hxy⟩]
    clear HRR hxy
    go_enter Tryd.func22, Tryd.ntmps22
    go_wp2_with (first
      | (go_at_call 58; go_must ((with_reducible refine (HF.out _ HV.out).mono ?_); rintro e w1 ⟨rfl, hb1⟩; have HB := Lib.hid hb1; clear hb1))
      | (go_at_call 63; go_must ((with_reducible refine (HC.out _ (HV.out.below HB.out (Nat.le_refl _))).mono ?_); rintro e w2 ⟨rfl, hb2⟩; replace HB := Lib.hid (HB.out.trans (hb2.mono HB.out.size)); clear hb2)))
    go_returns
    exact ⟨.slice none 0 0, by rw [HE.out]; rfl, HB.out, by rw [HE.out]; exact MO.nil _ _⟩
  · have HE : Hid (r = (G, 0)) := by
      unfold Hid
      rw [HRR.out, if_neg]
      rintro ⟨a, b⟩
      rcases hrest with ⟨_, h⟩ | h
      · rw [h] at a; simp at a
      · exact b h
    clear HRR
    have hcs : ((x != y) = true ∧ cp = false) ∨ (x != y) = false := by
      rcases hrest with ⟨h, h'⟩ | h
      · exact .inl ⟨by simp [h], h'⟩
      · exact .inr (by simp [h])
    clear hrest
    have arm : True := trivial
    rcases hcs with ⟨hne, rfl⟩ | hne
    all_goals
      go_enter Tryd.func22, Tryd.ntmps22
      go_wp2_with (first
        | (go_at_call 58; go_must ((with_reducible refine (HF.out _ HV.out).mono ?_); rintro e w1 ⟨rfl, hb1⟩; have HB := Lib.hid hb1; clear hb1))
        | (go_at_call 63; go_must ((with_reducible refine (HC.out _ (HV.out.below HB.out (Nat.le_refl _))).mono ?_); rintro e w2 ⟨rfl, hb2⟩; replace HB := Lib.hid (HB.out.trans (hb2.mono HB.out.size)); clear hb2))
        | (go_at_call 35; go_must (have HSZ := Lib.hid HB.out.size; refine (copy_any f _ _ (HV.out.below HB.out (Nat.le_refl _)) (by rw [← HN.out]; omega)).mono ?_; rintro e w3 ⟨v3, rfl, hb3, ho3⟩; obtain ⟨gr, cap, rfl, hgB, hgl⟩ := ho3.shape HN.out (by omega); replace HB := Lib.hid (HB.out.trans (hb3.mono HB.out.size)); have HO := Lib.hid (ho3.mono HSZ.out); have HG : Hid (w.heap.size ≤ gr) := Nat.le_trans HSZ.out hgB; clear hb3 ho3 hgB))
        | (go_at_call 64; go_must ((with_reducible refine (HRP.out gr cap w.heap.size _ HO.out).mono ?_); rintro e w4 ⟨rfl, hk, g', hg', ho4⟩; have HG2 := Lib.hid (HFIN.out g' hg'); have HO4 := Lib.hid ho4; replace HB := Lib.hid (HB.out.trans (hk.below HB.out.size fun b hb hx => (by have h9 := HG.out; omega))); clear hk hg' ho4)))
      go_returns
      exact ⟨_, by rw [HE.out]; rfl, HB.out, by rw [HE.out, ← HG2.out]; exact HO4.out⟩

/-- Both sides of Substitute return the same. -/
theorem sub_pair (f : List Mk) (x y : Int) : ∃ (r : List Mk) (e : Int), r.length ≤ 1000 ∧ (∀ W v, MS W v f → Calls Tryd.prog 21 #[v, .int .i64 x, .int .i64 y] W (RetFE W r e)) ∧
    (∀ W v, MS W v f → Calls Tryd.prog 22 #[v, .int .i64 x, .int .i64 y] W (RetFE W r e)) := by
  by_cases hr : rangeBad x y
  · exact ⟨[], 7, by simp, fun W v h => Subst_range f v x y W h hr, fun W v h => RSubst_range f v x y W h hr⟩
  have h0 : 0 ≤ x := by unfold rangeBad at hr; omega
  have h1 : x < 6 := by unfold rangeBad at hr; omega
  have h2 : 0 ≤ y := by unfold rangeBad at hr; omega
  have h3 : y < 6 := by unfold rangeBad at hr; omega
  cases hf : formedS f with
  | false => exact ⟨[], 2, by simp, fun W v h => Subst_form f v x y W h0 h1 h2 h3 h hf, fun W v h => RSubst_form f v x y W h0 h1 h2 h3 h hf⟩
  | true =>
    obtain ⟨t, ok, hs, ht, _⟩ := formed_is f hf
    have hst := substR_tree t ok x y
    rw [← ht] at hst
    refine ⟨(substR f t x y).1, (substR f t x y).2, ?_, fun W v h => Subst_yes f t v x y W h0 h1 h2 h3 h hf ht ok (by rw [ht, Tr.enc_len]), fun W v h => RSubst_yes f t v x y _ W h0 h1 h2 h3 h hf ht ok hst⟩
    rw [hst]
    split
    · simp
    · rw [Tr.enc_len, repT_size]; omega
/-- Both sides of Free return the same. -/
theorem free_pair (f : List Mk) : ∃ l : List Nat, l.length ≤ 1 ∧ (∀ W v, MS W v f → Calls Tryd.prog 16 #[v] W (RetWS W l)) ∧ (∀ W v, MS W v f → Calls Tryd.prog 24 #[v] W (RetWS W l)) := by
  cases hf : formedS f with
  | false => exact ⟨[], by simp, fun W v h => Free_no f v W h hf, fun W v h => RFree_no f v W h hf⟩
  | true =>
    obtain ⟨t, ok, hs, ht, _⟩ := formed_is f hf
    refine ⟨setOf (freeS f t), by unfold setOf; split <;> simp, fun W v h => Free_yes f t v W h hf ht ok (by rw [ht, Tr.enc_len]), fun W v h => ?_⟩
    have e : freeS f t = wordT t 6 := by rw [ht]; exact freeS_word t ok
    rw [e]
    exact RFree_yes f t v W h hf ht ok
end Go.Proofs.YtbggpiednddheaaDoor

/- Contracts of the reference: Not, Bind, Free, Substitute; both sides of Free and Substitute together. -/
/- Contract of the reference: Substitute; Free and Substitute of both sides together. -/
import Derived.Test.YtcjblbhmajdmjaaDoorRefH
import Derived.Test.YtcjblbhmajdmjaaDoorRefB
set_option linter.unusedSimpArgs false
set_option linter.unusedVariables false
namespace Go.Proofs.YtcjblbhmajdmjaaDoor
open Go.RowKit

set_option maxRecDepth 100000 in
set_option maxHeartbeats 4000000 in
theorem RNot_any (f : List Mk) (v : Value) (w : World) (hv : MS w v f) : Calls Tryd.prog 16 #[v] w (RetFE w (wrapS f ⟨9, 0, 0, 0, 0⟩).1 (wrapS f ⟨9, 0, 0, 0, 0⟩).2) := by
  have hfl := formed_len f
  obtain ⟨t, ht⟩ : ∃ t, t = formedS f := ⟨_, rfl⟩
  have hF := fun W (h : MS W v f) => RFormed_any f v W h
  have hw : wrapS f ⟨9, 0, 0, 0, 0⟩ = if t then (if f.length = 64 then ([], 4) else (f ++ [⟨9, 0, 0, f.length - 1, 0⟩], 0)) else ([], 2) := by unfold wrapS; rw [ht]
  rw [← ht] at hF hfl
  rw [hw]
  clear ht hw
  have HV := Lib.hid hv; have HF := Lib.hid hF; clear hF
  obtain ⟨_, A, c, rfl, hc, hc2, _⟩ := hv
  cases t with
  | false =>
    go_enter Tryd.func16, Tryd.ntmps16
    go_wp2_with (go_at_call 49; go_must ((with_reducible refine (HF.out _ HV.out).mono ?_); rintro e w1 ⟨rfl, hb1⟩))
    go_returns
    exact ⟨.slice none 0 0, rfl, hb1, MO.nil _ _⟩
  | true =>
    have hl2 := (hfl rfl).2
    obtain ⟨n, hn⟩ : ∃ n, n = f.length := ⟨_, rfl⟩
    rw [← hn] at HV HF hc hl2 ⊢
    simp only [if_true]
    have HN := Lib.hid hn; clear hn hfl
    by_cases h64 : n = 64
    · subst h64
      go_enter Tryd.func16, Tryd.ntmps16
      go_wp2_with (go_at_call 49; go_must ((with_reducible refine (HF.out _ HV.out).mono ?_); rintro e w1 ⟨rfl, hb1⟩))
      go_returns
      exact ⟨.slice none 0 0, rfl, hb1, MO.nil _ _⟩
    · rw [if_neg h64]
      go_enter Tryd.func16, Tryd.ntmps16
      go_wp2_with (first
        | (go_at_call 49; go_must ((with_reducible refine (HF.out _ HV.out).mono ?_); rintro e w1 ⟨rfl, hb1⟩; have HB1 := Lib.hid hb1; clear hb1))
        | (go_at_call 4; go_must (refine (copy_any f _ _ (HV.out.below HB1.out (Nat.le_refl _)) (by rw [← HN.out]; omega)).mono ?_; rintro e w3 ⟨v3, rfl, hb3, ho3⟩; have HB := Lib.hid (HB1.out.trans (hb3.mono HB1.out.size)); have HO := Lib.hid (ho3.mono HB1.out.size); clear hb3 ho3))
        | (at_builtin; go_must (refine wpList_append_ms rfl (.tmp 11) (.tmp 16) rfl w.heap.size _ f rfl (HO.out.below (B' := w3.heap.size) (by go_grown) (Nat.le_refl _)) _ [⟨9, 0, 0, n - 1, 0⟩] rfl (ms_one5 (Row.litd2 (by simp)) (by omega) (by omega)) (by rw [← HN.out, List.length_singleton]; omega) (by have := HB.out.size; simp only [World.size_alloc]; omega) ?_; intro v6 w6 ho6 hg6 ht6)))
      go_returns
      exact ⟨v6, rfl, own_below (v' := v6) (g := f) (Below.alloc HB.out HB.out.size _) (HO.out.below (B' := w3.heap.size) (by go_grown) (Nat.le_refl _)) hg6 (by have := HB.out.size; simp only [World.size_alloc]; omega), ho6⟩
set_option maxRecDepth 100000 in
set_option maxHeartbeats 4000000 in
theorem RBind_any (op x : Int) (f : List Mk) (v : Value) (w : World) (hv : MS w v f) (h0 : 0 ≤ op) (h1 : op ≤ 255) : Calls Tryd.prog 18 #[.int .u8 op, .int .i64 x, v] w (RetFE w (bindS op x f).1 (bindS op x f).2) := by
  have hfl := formed_len f
  obtain ⟨t, ht⟩ : ∃ t, t = formedS f := ⟨_, rfl⟩
  have hF := fun W (h : MS W v f) => RFormed_any f v W h
  have hw : bindS op x f = if op < 12 ∨ 15 < op then ([], 6) else if x < 0 ∨ 6 ≤ x then ([], 7) else if t then (if f.length = 64 then ([], 4) else (f ++ [⟨op, x, 0, f.length - 1, 0⟩], 0)) else ([], 2) := by
    unfold bindS wrapS
    rw [ht]
    have e : (isQ op = false) = (op < 12 ∨ 15 < op) := by unfold isQ; simp; omega
    simp only [e]
  rw [← ht] at hF hfl
  rw [hw]
  clear ht hw
  have HV := Lib.hid hv; have HF := Lib.hid hF; clear hF
  obtain ⟨_, A, c, rfl, hc, hc2, _⟩ := hv
  by_cases hop : op < 12 ∨ 15 < op
  · rw [if_pos hop]
    have hcs : op < 12 ∨ (12 ≤ op ∧ 15 < op) := by omega
    clear HV HF hfl hop
    rcases hcs with q1 | ⟨q1, q2⟩
    all_goals
      go_enter Tryd.func18, Tryd.ntmps18
      go_wp2
      go_returns
      exact ⟨.slice none 0 0, rfl, Below.refl _ _, MO.nil _ _⟩
  rw [if_neg hop]
  have p1 : 12 ≤ op := by omega
  have p2 : op ≤ 15 := by omega
  clear hop
  by_cases hx : x < 0 ∨ 6 ≤ x
  · rw [if_pos hx]
    have hcs : x < 0 ∨ (0 ≤ x ∧ 6 ≤ x) := by omega
    clear HV HF hfl hx
    rcases hcs with q1 | ⟨q1, q2⟩
    all_goals
      go_enter Tryd.func18, Tryd.ntmps18
      go_wp2
      go_returns
      exact ⟨.slice none 0 0, rfl, Below.refl _ _, MO.nil _ _⟩
  rw [if_neg hx]
  have p3 : 0 ≤ x := by omega
  have p4 : x < 6 := by omega
  clear hx
  cases t with
  | false =>
    go_enter Tryd.func18, Tryd.ntmps18
    go_wp2_with (go_at_call 49; go_must ((with_reducible refine (HF.out _ HV.out).mono ?_); rintro e w1 ⟨rfl, hb1⟩))
    go_returns
    exact ⟨.slice none 0 0, rfl, hb1, MO.nil _ _⟩
  | true =>
    have hl2 := (hfl rfl).2
    obtain ⟨n, hn⟩ : ∃ n, n = f.length := ⟨_, rfl⟩
    rw [← hn] at HV HF hc hl2 ⊢
    simp only [if_true]
    have HN := Lib.hid hn; clear hn hfl
    by_cases h64 : n = 64
    · subst h64
      go_enter Tryd.func18, Tryd.ntmps18
      go_wp2_with (go_at_call 49; go_must ((with_reducible refine (HF.out _ HV.out).mono ?_); rintro e w1 ⟨rfl, hb1⟩))
      go_returns
      exact ⟨.slice none 0 0, rfl, hb1, MO.nil _ _⟩
    · rw [if_neg h64]
      go_enter Tryd.func18, Tryd.ntmps18
      go_wp2_with (first
        | (go_at_call 49; go_must ((with_reducible refine (HF.out _ HV.out).mono ?_); rintro e w1 ⟨rfl, hb1⟩; have HB1 := Lib.hid hb1; clear hb1))
        | (go_at_call 4; go_must (refine (copy_any f _ _ (HV.out.below HB1.out (Nat.le_refl _)) (by rw [← HN.out]; omega)).mono ?_; rintro e w3 ⟨v3, rfl, hb3, ho3⟩; have HB := Lib.hid (HB1.out.trans (hb3.mono HB1.out.size)); have HO := Lib.hid (ho3.mono HB1.out.size); clear hb3 ho3))
        | (at_builtin; go_must (refine wpList_append_ms rfl (.tmp 27) (.tmp 34) rfl w.heap.size _ f rfl (HO.out.below (B' := w3.heap.size) (by go_grown) (Nat.le_refl _)) _ [⟨op, x, 0, n - 1, 0⟩] rfl (ms_one5 (Row.litd2 (by simp)) (by omega) (by omega)) (by rw [← HN.out, List.length_singleton]; omega) (by have := HB.out.size; simp only [World.size_alloc]; omega) ?_; intro v6 w6 ho6 hg6 ht6)))
      go_returns
      exact ⟨v6, rfl, own_below (v' := v6) (g := f) (Below.alloc HB.out HB.out.size _) (HO.out.below (B' := w3.heap.size) (by go_grown) (Nat.le_refl _)) hg6 (by have := HB.out.size; simp only [World.size_alloc]; omega), ho6⟩

-- Free
theorem wordT_lt (t : Tr) : ∀ k, wordT t k < 2 ^ k := by
  intro k
  induction k with
  | zero => simp [wordT]
  | succ k ih =>
    rw [wordT, Nat.pow_succ]
    split <;> omega
theorem WS.one {w : World} {g s : Nat} (h : Row w g 63 #[.int .u64 s]) : WS w g (.slice (some ⟨g, 0, none⟩) 1 1) [s] :=
  ⟨by simp, .inr ⟨g, 1, #[.int .u64 s], rfl, Nat.le_refl _, h, Nat.le_refl _, by simp [maxLen], rfl, rfl⟩⟩
set_option maxRecDepth 100000 in
set_option maxHeartbeats 4000000 in
theorem RFree_no (f : List Mk) (v : Value) (w : World) (hv : MS w v f) (hf : formedS f = false) : Calls Tryd.prog 22 #[v] w (RetWS w []) := by
  have hF := fun W (h : MS W v f) => RFormed_any f v W h
  rw [hf] at hF
  have HV := Lib.hid hv; have HF := Lib.hid hF; clear hF hf
  obtain ⟨_, A, c, rfl, hc, hc2, _⟩ := hv
  go_enter Tryd.func22, Tryd.ntmps22
  go_wp2_with (go_at_call 49; go_must ((with_reducible refine (HF.out _ HV.out).mono ?_); rintro e w1 ⟨rfl, hb1⟩))
  go_returns
  exact ⟨.slice none 0 0, rfl, hb1, World.ownsRow_nil _ _ _ _⟩
set_option maxRecDepth 100000 in
set_option maxHeartbeats 8000000 in
theorem RFree_yes (f : List Mk) (t : Tr) (v : Value) (w : World) (hv : MS w v f) (hf : formedS f = true) (ht : f = t.enc 0) (hok : t.ok) : Calls Tryd.prog 22 #[v] w (RetWS w (setOf (wordT t 6))) := by
  have hF := fun W (h : MS W v f) => RFormed_any f v W h
  rw [hf] at hF
  have hsz : f.length = t.size := by rw [ht, Tr.enc_len]
  have hp := t.size_pos
  have hR := fun x => Rfree_any f v x t hok 0 (by rw [ht]; exact Lies.self t)
  rw [Nat.zero_add] at hR
  have hlt := wordT_lt t
  have HV := Lib.hid hv; have HF := Lib.hid hF; clear hF hf
  obtain ⟨_, A, c, rfl, hc, hc2, _⟩ := hv
  obtain ⟨n, hn⟩ : ∃ n, n = f.length := ⟨_, rfl⟩
  have e1 : (((t.size - 1 : Nat)) : Int) = (n : Int) - 1 := by omega
  rw [e1] at hR
  rw [← hn] at HV HF hR hc
  rw [← hn]
  have hn1 : 1 ≤ n := by omega
  clear hsz hp e1 ht hok hn
  have HR := Lib.hid hR; have HLT := Lib.hid hlt; clear hR hlt
  obtain ⟨s6, hs6⟩ : ∃ s, s = wordT t 6 := ⟨_, rfl⟩
  rw [← hs6]
  have HS6 := Lib.hid hs6; clear hs6
  go_enter Tryd.func22, Tryd.ntmps22
  go_wp2_with (go_at_call 49; go_must ((with_reducible refine (HF.out _ HV.out).mono ?_); rintro e w1 ⟨rfl, hb1⟩; have HB1 := Lib.hid hb1; clear hb1))
  go_loopg [3, 4] 6 (fun gk s q wr => ∃ k : Nat, k ≤ 6 ∧ gk = 6 - k ∧ q = .int .i64 k ∧ s = .int .u64 (wordT t k) ∧ Below w.heap.size w wr)
  case atStart => exact ⟨0, by omega, rfl, rfl, rfl, HB1.out⟩
  case round =>
    obtain ⟨k, hk, rfl, rfl, rfl, hb⟩ := hrel
    have HB := Lib.hid hb; clear hb
    by_cases hlt : k < 6
    · have hstep : wordT t (k + 1) = wordT t k + if frT (k : Int) t = true then 2 ^ k else 0 := rfl
      have hwl := HLT.out k
      obtain ⟨b, hb⟩ : ∃ b, b = frT (k : Int) t := ⟨_, rfl⟩
      have hR := fun W h => HR.out (k : Int) W h
      rw [← hb] at hstep hR
      obtain ⟨s, hs⟩ : ∃ s, s = wordT t k := ⟨_, rfl⟩
      rw [← hs] at hstep hwl ⊢
      have HST := Lib.hid hstep; have HR2 := Lib.hid hR
      clear hstep hR hb hs
      have hkc : k = 0 ∨ k = 1 ∨ k = 2 ∨ k = 3 ∨ k = 4 ∨ k = 5 := by omega
      cases b
      · go_wp2_with (go_at_call 56; go_must ((with_reducible refine (HR2.out _ (HV.out.below HB.out (Nat.le_refl _))).mono ?_); rintro e w2 ⟨rfl, hb2⟩; replace HB := Lib.hid (HB.out.trans (hb2.mono HB.out.size)); clear hb2))
        go_roundg (6 - (k + 1))
        case rel => exact ⟨k + 1, by omega, rfl, by go_num, by rw [HST.out]; rfl, HB.out⟩
        case measure => omega
      · rcases hkc with rfl | rfl | rfl | rfl | rfl | rfl
        · simp only [Nat.reducePow] at hwl
          go_wp2_with (go_at_call 56; (refine (HR2.out _ (HV.out.below HB.out (Nat.le_refl _))).mono ?_); rintro e w2 ⟨rfl, hb2⟩; replace HB := Lib.hid (HB.out.trans (hb2.mono HB.out.size)); clear hb2)
          go_roundg 5
          case rel => exact ⟨1, by omega, rfl, by go_num, by rw [show wordT t 1 = s + 1 from HST.out]; rfl, HB.out⟩
          case measure => omega
        · simp only [Nat.reducePow] at hwl
          go_wp2_with (go_at_call 56; (refine (HR2.out _ (HV.out.below HB.out (Nat.le_refl _))).mono ?_); rintro e w2 ⟨rfl, hb2⟩; replace HB := Lib.hid (HB.out.trans (hb2.mono HB.out.size)); clear hb2)
          go_roundg 4
          case rel => exact ⟨2, by omega, rfl, by go_num, by rw [show wordT t 2 = s + 2 from HST.out]; rfl, HB.out⟩
          case measure => omega
        · simp only [Nat.reducePow] at hwl
          go_wp2_with (go_at_call 56; (refine (HR2.out _ (HV.out.below HB.out (Nat.le_refl _))).mono ?_); rintro e w2 ⟨rfl, hb2⟩; replace HB := Lib.hid (HB.out.trans (hb2.mono HB.out.size)); clear hb2)
          go_roundg 3
          case rel => exact ⟨3, by omega, rfl, by go_num, by rw [show wordT t 3 = s + 4 from HST.out]; rfl, HB.out⟩
          case measure => omega
        · simp only [Nat.reducePow] at hwl
          go_wp2_with (go_at_call 56; (refine (HR2.out _ (HV.out.below HB.out (Nat.le_refl _))).mono ?_); rintro e w2 ⟨rfl, hb2⟩; replace HB := Lib.hid (HB.out.trans (hb2.mono HB.out.size)); clear hb2)
          go_roundg 2
          case rel => exact ⟨4, by omega, rfl, by go_num, by rw [show wordT t 4 = s + 8 from HST.out]; rfl, HB.out⟩
          case measure => omega
        · simp only [Nat.reducePow] at hwl
          go_wp2_with (go_at_call 56; (refine (HR2.out _ (HV.out.below HB.out (Nat.le_refl _))).mono ?_); rintro e w2 ⟨rfl, hb2⟩; replace HB := Lib.hid (HB.out.trans (hb2.mono HB.out.size)); clear hb2)
          go_roundg 1
          case rel => exact ⟨5, by omega, rfl, by go_num, by rw [show wordT t 5 = s + 16 from HST.out]; rfl, HB.out⟩
          case measure => omega
        · simp only [Nat.reducePow] at hwl
          go_wp2_with (go_at_call 56; (refine (HR2.out _ (HV.out.below HB.out (Nat.le_refl _))).mono ?_); rintro e w2 ⟨rfl, hb2⟩; replace HB := Lib.hid (HB.out.trans (hb2.mono HB.out.size)); clear hb2)
          go_roundg 0
          case rel => exact ⟨6, by omega, rfl, by go_num, by rw [show wordT t 6 = s + 32 from HST.out]; rfl, HB.out⟩
          case measure => omega
    · have hk6 : k = 6 := by omega
      subst hk6
      rw [← HS6.out]
      obtain ⟨s, hs⟩ : ∃ s, s = s6 := ⟨_, rfl⟩
      subst hs
      by_cases h0 : s = 0
      · subst h0
        go_wp2
        go_returns
        exact ⟨.slice none 0 0, rfl, HB.out, World.ownsRow_nil _ _ _ _⟩
      · have h0' : ((s : Int) == 0) = false := by simp [h0]
        have e : setOf s = [s] := by unfold setOf; rw [if_neg h0]
        have HE := Lib.hid e
        clear e h0
        go_wp2
        go_returns
        have hbs := HB.out.size
        exact ⟨_, rfl, Below.alloc HB.out HB.out.size _, by rw [HE.out]; exact (WS.one (Row.new wr _ _)).mono hbs⟩
end Go.Proofs.YtcjblbhmajdmjaaDoor

namespace Go.Proofs.YtcjblbhmajdmjaaDoor
open Go.RowKit

set_option maxRecDepth 100000 in
set_option maxHeartbeats 4000000 in
theorem RSubst_range (f : List Mk) (v : Value) (x y : Int) (w : World) (hv : MS w v f) (h : rangeBad x y) : Calls Tryd.prog 20 #[v, .int .i64 x, .int .i64 y] w (RetFE w [] 7) := by
  obtain ⟨_, A, c, rfl, _⟩ := hv
  have hcs : x < 0 ∨ (0 ≤ x ∧ 6 ≤ x) ∨ (0 ≤ x ∧ x < 6 ∧ y < 0) ∨ (0 ≤ x ∧ x < 6 ∧ 0 ≤ y ∧ 6 ≤ y) := by unfold rangeBad at h; omega
  clear h
  rcases hcs with q1 | ⟨q1, q2⟩ | ⟨q1, q2, q3⟩ | ⟨q1, q2, q3, q4⟩
  all_goals
    go_enter Tryd.func20, Tryd.ntmps20
    go_wp2
    go_returns
    exact ⟨.slice none 0 0, rfl, Below.refl _ _, MO.nil _ _⟩
set_option maxRecDepth 100000 in
set_option maxHeartbeats 4000000 in
theorem RSubst_form (f : List Mk) (v : Value) (x y : Int) (w : World) (h0 : 0 ≤ x) (h1 : x < 6) (h2 : 0 ≤ y) (h3 : y < 6) (hv : MS w v f) (hf : formedS f = false) : Calls Tryd.prog 20 #[v, .int .i64 x, .int .i64 y] w (RetFE w [] 2) := by
  have hF := fun W (h : MS W v f) => RFormed_any f v W h
  rw [hf] at hF
  have HV := Lib.hid hv; have HF := Lib.hid hF; clear hF hf
  obtain ⟨_, A, c, rfl, _⟩ := hv
  go_enter Tryd.func20, Tryd.ntmps20
  go_wp2_with (go_at_call 49; go_must ((with_reducible refine (HF.out _ HV.out).mono ?_); rintro e w1 ⟨rfl, hb1⟩))
  go_returns
  exact ⟨.slice none 0 0, rfl, hb1, MO.nil _ _⟩
set_option maxRecDepth 100000 in
set_option maxHeartbeats 4000000 in
theorem RSubst_yes (f : List Mk) (t : Tr) (v : Value) (x y : Int) (r : List Mk × Int) (w : World) (h0 : 0 ≤ x) (h1 : x < 6) (h2 : 0 ≤ y) (h3 : y < 6) (hv : MS w v f) (hf : formedS f = true) (ht : f = t.enc 0) (hok : t.ok)
    (hr : r = if capT x y t = true ∧ x ≠ y then ([], 16) else ((repT x y t).enc 0, 0)) : Calls Tryd.prog 20 #[v, .int .i64 x, .int .i64 y] w (RetFE w r.1 r.2) := by
  have hF := fun W (h : MS W v f) => RFormed_any f v W h
  rw [hf] at hF
  have hl2 := (formed_len f hf).2
  have hsz : f.length = t.size := by rw [ht, Tr.enc_len]
  have hp := t.size_pos
  have hC := Rcap_any f v x y t hok 0 (by rw [ht]; exact Lies.self t)
  rw [Nat.zero_add] at hC
  have hRp := fun gr cap B => Rrep_any gr f.length cap B x y t hok 0 f rfl (by rw [ht]; exact Lies.self t)
  rw [Nat.zero_add] at hRp
  have hfin : ∀ g', RepRel f g' 0 (repT x y t) → g' = (repT x y t).enc 0 := fun g' h => Lies.whole h.2.1 (by rw [h.1, hsz, repT_size])
  have HV := Lib.hid hv; have HF := Lib.hid hF; clear hF hf
  obtain ⟨_, A, c, rfl, hc, hc2, _⟩ := hv
  obtain ⟨n, hn⟩ : ∃ n, n = f.length := ⟨_, rfl⟩
  have e1 : (((t.size - 1 : Nat)) : Int) = (n : Int) - 1 := by omega
  rw [e1] at hC hRp
  rw [← hn] at HV HF hC hRp hc hl2
  rw [← hn]
  have hn1 : 1 ≤ n := by omega
  obtain ⟨cp, hcp⟩ : ∃ b, b = capT x y t := ⟨_, rfl⟩
  rw [← hcp] at hC hr
  generalize (repT x y t).enc 0 = G at *
  have HN := Lib.hid hn; have HC := Lib.hid hC; have HRP := Lib.hid hRp; have HFIN := Lib.hid hfin; have HRR := Lib.hid hr
  clear hsz hp e1 ht hok hn hC hRp hfin hr hcp
  have hcs : (x ≠ y ∧ cp = true) ∨ (x ≠ y ∧ cp = false) ∨ x = y := by
    by_cases h : x = y
    · exact .inr (.inr h)
    · cases cp <;> simp [h]
  rcases hcs with ⟨hxy, rfl⟩ | hrest
  · have hne : (x != y) = true := by simp [hxy]
    have HE : Hid (r = ([], 16)) := by unfold Hid; rw [HRR.out, if_pos ⟨rfl, hxy⟩]
    clear HRR hxy
    go_enter Tryd.func20, Tryd.ntmps20
    go_wp2_with (first
      | (go_at_call 49; go_must ((with_reducible refine (HF.out _ HV.out).mono ?_); rintro e w1 ⟨rfl, hb1⟩; have HB := Lib.hid hb1; clear hb1))
      | (go_at_call 54; go_must ((with_reducible refine (HC.out _ (HV.out.below HB.out (Nat.le_refl _))).mono ?_); rintro e w2 ⟨rfl, hb2⟩; replace HB := Lib.hid (HB.out.trans (hb2.mono HB.out.size)); clear hb2)))
    go_returns
    exact ⟨.slice none 0 0, by rw [HE.out]; rfl, HB.out, by rw [HE.out]; exact MO.nil _ _⟩
  · have HE : Hid (r = (G, 0)) := by
      unfold Hid
      rw [HRR.out, if_neg]
      rintro ⟨a, b⟩
      rcases hrest with ⟨_, h⟩ | h
      · rw [h] at a; simp at a
      · exact b h
    clear HRR
    have hcs : ((x != y) = true ∧ cp = false) ∨ (x != y) = false := by
      rcases hrest with ⟨h, h'⟩ | h
      · exact .inl ⟨by simp [h], h'⟩
      · exact .inr (by simp [h])
    clear hrest
    have arm : True := trivial
    rcases hcs with ⟨hne, rfl⟩ | hne
    all_goals
      go_enter Tryd.func20, Tryd.ntmps20
      go_wp2_with (first
        | (go_at_call 49; go_must ((with_reducible refine (HF.out _ HV.out).mono ?_); rintro e w1 ⟨rfl, hb1⟩; have HB := Lib.hid hb1; clear hb1))
        | (go_at_call 54; go_must ((with_reducible refine (HC.out _ (HV.out.below HB.out (Nat.le_refl _))).mono ?_); rintro e w2 ⟨rfl, hb2⟩; replace HB := Lib.hid (HB.out.trans (hb2.mono HB.out.size)); clear hb2))
        | (go_at_call 4; go_must (have HSZ := Lib.hid HB.out.size; refine (copy_any f _ _ (HV.out.below HB.out (Nat.le_refl _)) (by rw [← HN.out]; omega)).mono ?_; rintro e w3 ⟨v3, rfl, hb3, ho3⟩; obtain ⟨gr, cap, rfl, hgB, hgl⟩ := ho3.shape HN.out (by omega); replace HB := Lib.hid (HB.out.trans (hb3.mono HB.out.size)); have HO := Lib.hid (ho3.mono HSZ.out); have HG : Hid (w.heap.size ≤ gr) := Nat.le_trans HSZ.out hgB; clear hb3 ho3 hgB))
        | (go_at_call 55; go_must ((with_reducible refine (HRP.out gr cap w.heap.size _ HO.out).mono ?_); rintro e w4 ⟨rfl, hk, g', hg', ho4⟩; have HG2 := Lib.hid (HFIN.out g' hg'); have HO4 := Lib.hid ho4; replace HB := Lib.hid (HB.out.trans (hk.below HB.out.size fun b hb hx => (by have h9 := HG.out; omega))); clear hk hg' ho4)))
      go_returns
      exact ⟨_, by rw [HE.out]; rfl, HB.out, by rw [HE.out, ← HG2.out]; exact HO4.out⟩

/-- Both sides of Substitute return the same. -/
theorem sub_pair (f : List Mk) (x y : Int) : ∃ (r : List Mk) (e : Int), r.length ≤ 1000 ∧ (∀ W v, MS W v f → Calls Tryd.prog 19 #[v, .int .i64 x, .int .i64 y] W (RetFE W r e)) ∧
    (∀ W v, MS W v f → Calls Tryd.prog 20 #[v, .int .i64 x, .int .i64 y] W (RetFE W r e)) := by
  by_cases hr : rangeBad x y
  · exact ⟨[], 7, by simp, fun W v h => Subst_range f v x y W h hr, fun W v h => RSubst_range f v x y W h hr⟩
  have h0 : 0 ≤ x := by unfold rangeBad at hr; omega
  have h1 : x < 6 := by unfold rangeBad at hr; omega
  have h2 : 0 ≤ y := by unfold rangeBad at hr; omega
  have h3 : y < 6 := by unfold rangeBad at hr; omega
  cases hf : formedS f with
  | false => exact ⟨[], 2, by simp, fun W v h => Subst_form f v x y W h0 h1 h2 h3 h hf, fun W v h => RSubst_form f v x y W h0 h1 h2 h3 h hf⟩
  | true =>
    obtain ⟨t, ok, hs, ht, _⟩ := formed_is f hf
    have hst := substR_tree t ok x y
    rw [← ht] at hst
    refine ⟨(substR f t x y).1, (substR f t x y).2, ?_, fun W v h => Subst_yes f t v x y W h0 h1 h2 h3 h hf ht ok (by rw [ht, Tr.enc_len]), fun W v h => RSubst_yes f t v x y _ W h0 h1 h2 h3 h hf ht ok hst⟩
    rw [hst]
    split
    · simp
    · rw [Tr.enc_len, repT_size]; omega
/-- Both sides of Free return the same. -/
theorem free_pair (f : List Mk) : ∃ l : List Nat, l.length ≤ 1 ∧ (∀ W v, MS W v f → Calls Tryd.prog 14 #[v] W (RetWS W l)) ∧ (∀ W v, MS W v f → Calls Tryd.prog 22 #[v] W (RetWS W l)) := by
  cases hf : formedS f with
  | false => exact ⟨[], by simp, fun W v h => Free_no f v W h hf, fun W v h => RFree_no f v W h hf⟩
  | true =>
    obtain ⟨t, ok, hs, ht, _⟩ := formed_is f hf
    refine ⟨setOf (freeS f t), by unfold setOf; split <;> simp, fun W v h => Free_yes f t v W h hf ht ok (by rw [ht, Tr.enc_len]), fun W v h => ?_⟩
    have e : freeS f t = wordT t 6 := by rw [ht]; exact freeS_word t ok
    rw [e]
    exact RFree_yes f t v W h hf ht ok
end Go.Proofs.YtcjblbhmajdmjaaDoor

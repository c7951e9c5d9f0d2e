/- Contracts: formed and Check of the package tree. -/
/- Contracts of the reference of chapter 15: end, Formed, Check. -/
import Derived.Test.YthkfjnmnoanhlaaGreatDoorLfA
import Derived.Test.YthkfjnmnoanhlaaGreatDoorModS
import Derived.Deep.QuietTactic
import Derived.BigQuiet
set_option linter.unusedSimpArgs false
set_option linter.unusedVariables false
namespace Go.Proofs.YthkfjnmnoanhlaaGreatDoor
open Go.RowKit

theorem ret_b' {R b : Bool} (h : R = b) : Ending.returned (.bool b) = .returned (.bool R) := by rw [h]
set_option maxRecDepth 100000 in
set_option maxHeartbeats 1000000 in
theorem formedT_any (t : List Lf) (v : Value) (w : World) (hv : TS w v t) :
    Calls Tryz.prog 89 #[v] w fun e w' => e = .returned (.bool (formedT t)) ∧ Below w.heap.size w w' := by
  have HV := Lib.hid hv
  obtain ⟨_, A, c, rfl, hc1, hc2, _⟩ := hv
  have hend := fun W (h : t.length ≤ 1000) (h2 : 0 < t.length) (hW : TS W (.slice A t.length c) t) => end_any t _ h _ 0 W (Nat.le_refl _) h2 hW
  obtain ⟨n, hn⟩ : ∃ n, n = t.length := ⟨_, rfl⟩
  rw [← hn] at hc1 HV hend ⊢
  obtain ⟨R, hR⟩ : ∃ R, R = formedT t := ⟨_, rfl⟩
  rw [← hR]
  unfold formedT at hR
  rw [← hn] at hR
  have hb : ((optI (endS t 0) == (n : Int)) = true) ↔ endS t 0 = some n := by
    rw [beq_iff_eq]
    cases endS t 0 with
    | none => simp [optI]
    | some m => simp only [optI, Option.some.injEq]; omega
  have HEND := Lib.hid hend; have HR := Lib.hid hR; have HBI := Lib.hid hb
  clear hend hn hR hb
  by_cases h0 : n = 0
  · have hRR : R = true := by rw [HR.out]; simp [h0]
    have HRR := Lib.hid hRR
    have h0' : ((n : Int) == 0) = true := by simp [h0]
    clear hRR h0
    go_enter Tryz.func89, Tryz.ntmps89
    go_wp2
    go_returns
    exact ⟨ret_b' HRR.out, Below.refl _ _⟩
  have h0' : ((n : Int) == 0) = false := by simp [h0]
  by_cases h31 : n ≤ 31
  · have hp : 0 < n := by omega
    have h1000 : n ≤ 1000 := by omega
    obtain ⟨E, hE⟩ : ∃ E, E = optI (endS t 0) := ⟨_, rfl⟩
    rw [← hE] at HBI
    have HR2 : Hid (R = (E == (n : Int))) := by
      rw [Hid, HR.out, Bool.eq_iff_iff, HBI.out]
      simp [h0, h31]
    have HE := Lib.hid hE; clear hE h0
    go_enter Tryz.func89, Tryz.ntmps89
    go_wp2_with (go_at_call 126; go_must (refine (HEND.out _ h1000 hp HV.out).mono ?_; rintro e w1 ⟨he, hb1⟩; obtain rfl : e = .returned (.int .i64 E) := he.trans (by rw [HE.out]); clear he; have HB := Lib.hid hb1; clear hb1))
    go_returns
    exact ⟨ret_b' HR2.out, HB.out⟩
  · have hRR : R = false := by rw [HR.out]; simp [h0, h31]
    have HRR := Lib.hid hRR
    clear hRR h0
    go_enter Tryz.func89, Tryz.ntmps89
    go_wp2
    go_returns
    exact ⟨ret_b' HRR.out, Below.refl _ _⟩

theorem badLabel_at (V : Nat) (x : Lf) : badLabel (V : Int) x = (x.label / 2 ^ V != 0) := by
  rw [Bool.eq_iff_iff]; simp [badLabel]
theorem any_take_snoc {α : Type} {l : List α} {k : Nat} {x : α} (g : α → Bool) (h : l[k]? = some x) : (l.take (k + 1)).any g = ((l.take k).any g || g x) := by
  rw [List.take_add_one, h]; simp
theorem any_of_at {α : Type} {l : List α} {k : Nat} {x : α} (g : α → Bool) (h : l[k]? = some x) (hg : g x = true) : l.any g = true := List.any_eq_true.2 ⟨x, List.mem_of_getElem? h, hg⟩

set_option maxRecDepth 100000 in
set_option maxHeartbeats 2000000 in
theorem TreeCheck_any (t : List Lf) (v : Value) (vars : Int) (w : World) (hv : TS w v t) :
    Calls Tryz.prog 44 #[v, .int .i64 vars] w fun e w' => e = .returned (.int .i64 (checkT t vars)) ∧ Below w.heap.size w w' := by
  have HV := Lib.hid hv
  obtain ⟨hop, A, c, rfl, hc1, hc2, hcell⟩ := hv
  obtain ⟨n, hn⟩ : ∃ n, n = t.length := ⟨_, rfl⟩
  rw [← hn] at hc1 HV hcell ⊢
  obtain ⟨R, hR⟩ : ∃ R, R = checkT t vars := ⟨_, rfl⟩
  rw [← hR]
  unfold checkT at hR
  rw [← hn] at hR
  have HR := Lib.hid hR; have HN := Lib.hid hn; have HC := Lib.hid hcell; have HOP := Lib.hid hop
  clear hR hn hcell hop
  by_cases hv1 : vars < 0
  · have HRR : Hid (R = 7) := by rw [Hid, HR.out, if_pos (.inl hv1)]
    go_enter Tryz.func44, Tryz.ntmps44
    go_wp2
    go_returns
    exact ⟨ret_i HRR.out, Below.refl _ _⟩
  by_cases hv2 : 3 < vars
  · have HRR : Hid (R = 7) := by rw [Hid, HR.out, if_pos (.inr hv2)]
    go_enter Tryz.func44, Tryz.ntmps44
    go_wp2
    go_returns
    exact ⟨ret_i HRR.out, Below.refl _ _⟩
  by_cases h31 : 31 < n
  · have HRR : Hid (R = 4) := by rw [Hid, HR.out, if_neg (by omega), if_pos h31]
    go_enter Tryz.func44, Tryz.ntmps44
    go_wp2
    go_returns
    exact ⟨ret_i HRR.out, Below.refl _ _⟩
  have HR3 : Hid (R = if t.any (badLabel vars) then 1 else if formedT t then 0 else 2) := by rw [Hid, HR.out, if_neg (by omega), if_neg h31]
  obtain ⟨V, rfl⟩ : ∃ V : Nat, vars = V := ⟨vars.toNat, by omega⟩
  have hV3 : V ≤ 3 := by omega
  go_enter Tryz.func44, Tryz.ntmps44
  go_wp2
  go_loopg [20] n (fun gk v wr => ∃ k : Nat, k ≤ n ∧ gk = n - k ∧ v = .int .i64 k ∧ Below w.heap.size w wr ∧ (t.take k).any (badLabel V) = false)
  case atStart => exact ⟨0, Nat.zero_le _, rfl, rfl, Below.refl _ _, by simp⟩
  case round =>
    obtain ⟨k, hk, rfl, rfl, hbe, hacc⟩ := hrel
    have HB := Lib.hid hbe; have HA := Lib.hid hacc; clear hbe hacc
    by_cases hlt : k < n
    · obtain ⟨x, hx⟩ : ∃ x, t[k]? = some x := ⟨t[k]'(by rw [← HN.out]; exact hlt), List.getElem?_eq_getElem _⟩
      obtain ⟨b, o, rfl, hb, hcell⟩ := HC.out (by omega)
      obtain ⟨c0, c1, c2⟩ := hcell k x hx
      rw [← HB.out.cell (p := ⟨b, _, none⟩) hb] at c0 c1 c2
      obtain ⟨l1, l2⟩ := HOP.out x (List.mem_of_getElem? hx)
      have hb' : b < wr.heap.size := by have := HB.out.size; omega
      have hbl := badLabel_at V x
      have hsn := any_take_snoc (badLabel V) hx
      have hat := any_of_at (badLabel V) hx
      rw [hbl] at hsn hat
      have HS := Lib.hid hsn; have HAT := Lib.hid hat
      clear hcell hx hbl hsn hat
      obtain ⟨lb, l, r⟩ := x
      simp only at c0 c1 c2 HS HAT l1 l2
      cases hbb : (lb / 2 ^ V != 0)
      · go_wp2
        go_roundg (n - (k + 1))
        case rel => exact ⟨k + 1, by omega, rfl, by go_num, by have := HB.out; have := HB.out.size; go_grown, by rw [HS.out, HA.out, hbb]; rfl⟩
        case measure => omega
      · have HRR : Hid (R = 1) := by rw [Hid, HR3.out, if_pos (HAT.out hbb)]
        go_wp2
        go_returns
        exact ⟨ret_i HRR.out, by have := HB.out; have := HB.out.size; go_grown⟩
    · have hkn : k = n := by omega
      have hall : t.any (badLabel V) = false := by
        have := HA.out
        rw [hkn, List.take_of_length_le (by rw [← HN.out]; exact Nat.le_refl _)] at this
        exact this
      have HRR : Hid (R = if formedT t then 0 else 2) := by rw [Hid, HR3.out, hall]; rfl
      clear hkn hall
      cases hf : formedT t
      all_goals
        have HF := Lib.hid hf; clear hf
        go_wp2_with (go_at_call 89; go_must (refine (formedT_any t _ _ (HV.out.below HB.out (Nat.le_refl _))).mono ?_; rintro e w1 ⟨rfl, hb1⟩; rw [HF.out]; replace HB := Lib.hid (HB.out.trans (hb1.mono HB.out.size)); clear hb1))
        go_returns
        exact ⟨ret_i (by rw [HRR.out, HF.out]; rfl), HB.out⟩
end Go.Proofs.YthkfjnmnoanhlaaGreatDoor

namespace Go.Proofs.YthkfjnmnoanhlaaGreatDoor
open Go.RowKit

theorem endS_out {t : List Lf} {i : Nat} (h : t.length ≤ i) : endS t i = none := by
  unfold endS
  rw [show t.length - i = 0 by omega]
  rfl
theorem ret_ri {R b : Int} (h : R = b) : Ending.returned (.int .i64 b) = .returned (.int .i64 R) := by rw [h]
set_option maxRecDepth 100000 in
set_option maxHeartbeats 4000000 in
theorem rend_any (t : List Lf) (v : Value) (hl : t.length ≤ 1000) : ∀ (d i : Nat) (w : World), t.length - i ≤ d → i ≤ 2000 → TS w v t →
    Calls Tryz.prog 137 #[v, .int .i64 i] w fun e w' => e = .returned (.int .i64 (optI (endS t i))) ∧ w = w' := by
  intro d
  induction d with
  | zero =>
    intro i w hd hi2 hv
    rw [endS_out (by omega)]
    obtain ⟨_, A, c, rfl, hc, hc2, -⟩ := hv
    obtain ⟨n, hn⟩ : ∃ n, n = t.length := ⟨_, rfl⟩
    rw [← hn] at hc hd hl ⊢
    clear hn
    have h1 : n ≤ i := by omega
    clear hd
    go_enter Tryz.func137, Tryz.ntmps137
    go_wp2
    go_returns
    exact ⟨rfl, rfl⟩
  | succ d ih =>
    intro i w hd hi2 hv
    by_cases hil : t.length ≤ i
    · exact ih i w (by omega) hi2 hv
    · obtain ⟨x, hx⟩ : ∃ x, t[i]? = some x := ⟨t[i]'(by omega), List.getElem?_eq_getElem _⟩
      have heq := endS_eq t i x hx
      have HIH := Lib.hid (fun (j : Nat) (hj : i < j) (hj2 : j ≤ 2000) => ih j w (by omega) hj2 hv)
      obtain ⟨_, A, c, rfl, hc, hc2, hcell⟩ := hv
      obtain ⟨b, o, rfl, hb, hm⟩ := hcell (by omega)
      obtain ⟨d0, d1, d2⟩ := hm i x hx
      obtain ⟨n, hn⟩ : ∃ n, n = t.length := ⟨_, rfl⟩
      obtain ⟨R, hR⟩ : ∃ R, R = optI (endS t i) := ⟨_, rfl⟩
      have hgt := fun j m (h : endS t j = some m) => endS_gt h
      rw [← hR]
      rw [heq] at hR
      rw [← hn] at hc hl hil HIH hR hgt ⊢
      have hin : i < n := by omega
      have HR := Lib.hid hR; have HGT := Lib.hid hgt; have HN := Lib.hid hn
      clear hn hR hgt heq ih hd hil hm hcell hx
      obtain ⟨xlab, xl, xr⟩ := x
      simp only at d0 d1 d2 HR
      have out : ∀ (next : Nat), i < next → next ≤ n → (kid n (endS t) xl (i + 1)) = some next → R = optI (kid n (endS t) xr next) := fun next _ _ h => by rw [HR.out, h]; rfl
      have HO := Lib.hid out; clear out
      by_cases hl1 : xl = -1
      · subst hl1
        have ho := HO.out (i + 1) (by omega) (by omega) (by unfold kid; rw [if_pos rfl])
        clear HO HR HGT
        by_cases hr1 : xr = -1
        · subst hr1
          have hRR : R = ((i + 1 : Nat) : Int) := by rw [ho]; unfold kid; rw [if_pos rfl]; rfl
          have HRR := Lib.hid hRR; clear hRR ho HIH
          go_enter Tryz.func137, Tryz.ntmps137
          go_wp2
          go_returns
          exact ⟨ret_ri (by rw [HRR.out]; omega), rfl⟩
        · have hr1' : (xr != -1) = true := by simp [hr1]
          by_cases hr2 : xr = ((i + 1 : Nat) : Int)
          · have hRR : R = optI (endS t (i + 1)) := by
              rw [ho]; unfold kid
              rw [if_neg hr1]
              by_cases h : n ≤ i + 1
              · rw [if_pos (.inr h), endS_out (by rw [← HN.out]; exact h)]
              · rw [if_neg (by omega)]
            have hih := HIH.out (i + 1) (by omega) (by omega)
            rw [← hRR] at hih
            have HC := Lib.hid hih
            have hr2' : (xr != (i : Int) + 1) = false := by simp; omega
            have hri : xr = (i : Int) + 1 := by omega
            clear hih hRR ho hr1 hr2 HIH
            go_enter Tryz.func137, Tryz.ntmps137
            go_wp2_with (go_at_call 137; go_must (refine (HC.out).mono ?_; rintro e w1 ⟨rfl, rfl⟩))
            go_returns
            exact ⟨rfl, rfl⟩
          · have hRR : R = -1 := by rw [ho]; unfold kid; rw [if_neg hr1, if_pos (.inl hr2)]; rfl
            have HRR := Lib.hid hRR
            have hr2' : (xr != (i : Int) + 1) = true := by simp; omega
            clear hRR ho hr1 hr2 HIH
            go_enter Tryz.func137, Tryz.ntmps137
            go_wp2
            go_returns
            exact ⟨ret_ri HRR.out, rfl⟩
      · have hl1' : (xl != -1) = true := by simp [hl1]
        by_cases hl2 : xl = ((i + 1 : Nat) : Int)
        · have hkid : kid n (endS t) xl (i + 1) = endS t (i + 1) := by
            unfold kid
            rw [if_neg hl1]
            by_cases h : n ≤ i + 1
            · rw [if_pos (.inr h), endS_out (by rw [← HN.out]; exact h)]
            · rw [if_neg (by omega)]
          have hih := HIH.out (i + 1) (by omega) (by omega)
          have hl2' : (xl != (i : Int) + 1) = false := by simp; omega
          rw [hkid] at HO HR
          cases he : endS t (i + 1) with
          | none =>
            rw [he] at hih
            have hih2 : Calls Tryz.prog 137 #[.slice (some ⟨b, o, none⟩) n c, .int .i64 ((i + 1 : Nat) : Int)] w fun e w' => e = .returned (.int .i64 (-1)) ∧ w = w' := hih
            have HC := Lib.hid hih2
            have hRR : R = -1 := by rw [HR.out, he]; rfl
            have HRR := Lib.hid hRR
            clear hih hih2 hRR HO HR hl1 hl2 hkid he HIH HGT
            go_enter Tryz.func137, Tryz.ntmps137
            go_wp2_with (go_at_call 137; go_must (refine (HC.out).mono ?_; rintro e w1 ⟨rfl, rfl⟩))
            go_returns
            exact ⟨ret_ri HRR.out, rfl⟩
          | some m =>
            rw [he] at hih
            have hih2 : Calls Tryz.prog 137 #[.slice (some ⟨b, o, none⟩) n c, .int .i64 ((i + 1 : Nat) : Int)] w fun e w' => e = .returned (.int .i64 (m : Int)) ∧ w = w' := hih
            have HC := Lib.hid hih2
            have hm := HGT.out (i + 1) m he
            have ho := HO.out m (by omega) (by omega) he
            clear hih hih2 HO HR hl1 hl2 hkid he HGT
            by_cases hr1 : xr = -1
            · subst hr1
              have hRR : R = (m : Int) := by rw [ho]; unfold kid; rw [if_pos rfl]; rfl
              have HRR := Lib.hid hRR; clear hRR ho HIH
              go_enter Tryz.func137, Tryz.ntmps137
              go_wp2_with (go_at_call 137; go_must (refine (HC.out).mono ?_; rintro e w1 ⟨rfl, rfl⟩))
              go_returns
              exact ⟨ret_ri HRR.out, rfl⟩
            · have hr1' : (xr != -1) = true := by simp [hr1]
              by_cases hr2 : xr = (m : Int)
              · have hRR : R = optI (endS t m) := by
                  rw [ho]; unfold kid
                  rw [if_neg hr1]
                  by_cases h : n ≤ m
                  · rw [if_pos (.inr h), endS_out (by rw [← HN.out]; exact h)]
                  · rw [if_neg (by omega)]
                have hih := HIH.out m (by omega) (by omega)
                rw [← hRR] at hih
                have HC2 := Lib.hid hih
                have hr2' : (xr != (m : Int)) = false := by simp [hr2]
                clear hih hRR ho hr1 HIH
                subst hr2
                go_enter Tryz.func137, Tryz.ntmps137
                go_wp2_with (first
                  | (go_at_call 137; ((with_reducible refine (HC2.out).mono ?_); rintro e w1 ⟨rfl, rfl⟩))
                  | (go_at_call 137; (refine (HC.out).mono ?_; rintro e w1 ⟨rfl, rfl⟩)))
                go_returns
                exact ⟨rfl, rfl⟩
              · have hRR : R = -1 := by rw [ho]; unfold kid; rw [if_neg hr1, if_pos (.inl hr2)]; rfl
                have HRR := Lib.hid hRR
                have hr2' : (xr != (m : Int)) = true := by simp [hr2]
                clear hRR ho hr1 hr2 HIH
                go_enter Tryz.func137, Tryz.ntmps137
                go_wp2_with (go_at_call 137; go_must (refine (HC.out).mono ?_; rintro e w1 ⟨rfl, rfl⟩))
                go_returns
                exact ⟨ret_ri HRR.out, rfl⟩
        · have hRR : R = -1 := by rw [HR.out]; unfold kid; rw [if_neg hl1, if_pos (.inl hl2)]; rfl
          have HRR := Lib.hid hRR
          have hl2' : (xl != (i : Int) + 1) = true := by simp; omega
          clear hRR HO HR hl1 hl2 HIH HGT
          go_enter Tryz.func137, Tryz.ntmps137
          go_wp2
          go_returns
          exact ⟨ret_ri HRR.out, rfl⟩

theorem ret_rb {R b : Bool} (h : R = b) : Ending.returned (.bool b) = .returned (.bool R) := by rw [h]
set_option maxRecDepth 100000 in
set_option maxHeartbeats 2000000 in
theorem RFormedT_any (t : List Lf) (v : Value) (w : World) (hv : TS w v t) :
    Calls Tryz.prog 110 #[v] w fun e w' => e = .returned (.bool (formedT t)) ∧ w = w' := by
  have hend := fun (h : t.length ≤ 1000) => rend_any t v h (t.length - 0) 0 w (Nat.le_refl _) (by omega) hv
  obtain ⟨_, A, c, rfl, hc, hc2, -⟩ := hv
  obtain ⟨n, hn⟩ : ∃ n, n = t.length := ⟨_, rfl⟩
  obtain ⟨R, hR⟩ : ∃ R, R = formedT t := ⟨_, rfl⟩
  rw [← hR]
  unfold formedT at hR
  rw [← hn] at hc hend hR ⊢
  clear hn
  by_cases h31 : 31 < n
  · have hRR : R = false := by rw [hR, decide_eq_false (by omega), decide_eq_false (by omega)]; rfl
    have HRR := Lib.hid hRR
    clear hRR hR hend
    go_enter Tryz.func110, Tryz.ntmps110
    go_wp2
    go_returns
    exact ⟨ret_rb HRR.out, rfl⟩
  · by_cases h0 : n = 0
    · have hRR : R = true := by rw [hR, decide_eq_true h0]; rfl
      have HRR := Lib.hid hRR
      have h0' : ((n : Int) == 0) = true := by simp [h0]
      clear hRR hR hend h0
      go_enter Tryz.func110, Tryz.ntmps110
      go_wp2
      go_returns
      exact ⟨ret_rb HRR.out, rfl⟩
    · have h0' : ((n : Int) == 0) = false := by simp [h0]
      obtain ⟨E, hE⟩ : ∃ E, E = optI (endS t 0) := ⟨_, rfl⟩
      have hC := hend (by omega)
      rw [← hE] at hC
      have hRR : R = (E == (n : Int)) := by
        rw [hR, decide_eq_false h0, decide_eq_true (by omega), Bool.false_or, Bool.true_and, hE, Bool.eq_iff_iff]
        cases endS t 0 with
        | none => simp [optI]
        | some m => simp only [optI, Option.some.injEq, decide_eq_true_eq, beq_iff_eq]; omega
      have HRR := Lib.hid hRR; have HC := Lib.hid hC
      clear hRR hR hend hC h0 hE
      go_enter Tryz.func110, Tryz.ntmps110
      go_wp2_with (go_at_call 137; go_must (refine (HC.out).mono ?_; rintro e w1 ⟨rfl, rfl⟩))
      go_returns
      exact ⟨ret_rb HRR.out, rfl⟩

theorem badLabel_le (V : Nat) (x : Lf) (h0 : 0 ≤ x.label) : badLabel (V : Int) x = decide (((2 ^ V : Nat) : Int) ≤ x.label) := by
  rw [Bool.eq_iff_iff]
  simp only [badLabel, Int.toNat_natCast, decide_eq_true_eq]
  obtain ⟨m, hm⟩ : ∃ m : Nat, x.label = m := ⟨x.label.toNat, by omega⟩
  rw [hm]
  have hp : 0 < 2 ^ V := Nat.pos_of_ne_zero (by simp)
  have : ((m : Int) / 2 ^ V) = ((m / 2 ^ V : Nat) : Int) := by norm_cast
  rw [this]
  constructor
  · intro h
    have : m / 2 ^ V ≠ 0 := by omega
    have := Nat.not_lt.1 fun hlt => this (Nat.div_eq_of_lt hlt)
    exact_mod_cast this
  · intro h
    have h2 : 2 ^ V ≤ m := by exact_mod_cast h
    have : 0 < m / 2 ^ V := Nat.div_pos h2 hp
    omega
theorem below_d15 {B : Nat} {w w' : World} (h : Below B w w') (n : Nat) : Below B w (w'.drewN n) := ⟨h.os, h.tape, h.output, h.size, h.block⟩
end Go.Proofs.YthkfjnmnoanhlaaGreatDoor

/- Contracts: formed and Check of the package tree. -/
import Derived.Test.YtdlibehffgfhlaaDoorLfB
import Derived.Test.YtdlibehffgfhlaaDoorModP
set_option linter.unusedSimpArgs false
set_option linter.unusedVariables false
namespace Go.Proofs.YtdlibehffgfhlaaDoor
open Go.RowKit

theorem ret_b' {R b : Bool} (h : R = b) : Ending.returned (.bool b) = .returned (.bool R) := by rw [h]
set_option maxRecDepth 100000 in
set_option maxHeartbeats 1000000 in
theorem formedT_any (t : List Lf) (v : Value) (w : World) (hv : TS w v t) :
    Calls Tryd.prog 71 #[v] w fun e w' => e = .returned (.bool (formedT t)) ∧ Below w.heap.size w w' := by
  have HV := Lib.hid hv
  obtain ⟨_, A, c, rfl, hc1, hc2, _⟩ := hv
  have hend := fun W (h : t.length ≤ 1000) (h2 : 0 < t.length) (hW : TS W (.slice A t.length c) t) => end_any t _ h _ 0 W (Nat.le_refl _) h2 hW
  obtain ⟨n, hn⟩ : ∃ n, n = t.length := ⟨_, rfl⟩
  rw [← hn] at hc1 HV hend ⊢
  obtain ⟨R, hR⟩ : ∃ R, R = formedT t := ⟨_, rfl⟩
  rw [← hR]
  unfold formedT at hR
  rw [← hn] at hR
  have hb : ((optI (endS t 0) == (n : Int)) = true) ↔ endS t 0 = some n := by
    rw [beq_iff_eq]
    cases endS t 0 with
    | none => simp [optI]
    | some m => simp only [optI, Option.some.injEq]; omega
  have HEND := Lib.hid hend; have HR := Lib.hid hR; have HBI := Lib.hid hb
  clear hend hn hR hb
  by_cases h0 : n = 0
  · have hRR : R = true := by rw [HR.out]; simp [h0]
    have HRR := Lib.hid hRR
    have h0' : ((n : Int) == 0) = true := by simp [h0]
    clear hRR h0
    go_enter Tryd.func71, Tryd.ntmps71
    go_wp2
    go_returns
    exact ⟨ret_b' HRR.out, Below.refl _ _⟩
  have h0' : ((n : Int) == 0) = false := by simp [h0]
  by_cases h31 : n ≤ 31
  · have hp : 0 < n := by omega
    have h1000 : n ≤ 1000 := by omega
    obtain ⟨E, hE⟩ : ∃ E, E = optI (endS t 0) := ⟨_, rfl⟩
    rw [← hE] at HBI
    have HR2 : Hid (R = (E == (n : Int))) := by
      rw [Hid, HR.out, Bool.eq_iff_iff, HBI.out]
      simp [h0, h31]
    have HE := Lib.hid hE; clear hE h0
    go_enter Tryd.func71, Tryd.ntmps71
    go_wp2_with (go_at_call 112; go_must (refine (HEND.out _ h1000 hp HV.out).mono ?_; rintro e w1 ⟨he, hb1⟩; obtain rfl : e = .returned (.int .i64 E) := he.trans (by rw [HE.out]); clear he; have HB := Lib.hid hb1; clear hb1))
    go_returns
    exact ⟨ret_b' HR2.out, HB.out⟩
  · have hRR : R = false := by rw [HR.out]; simp [h0, h31]
    have HRR := Lib.hid hRR
    clear hRR h0
    go_enter Tryd.func71, Tryd.ntmps71
    go_wp2
    go_returns
    exact ⟨ret_b' HRR.out, Below.refl _ _⟩

theorem badLabel_at (V : Nat) (x : Lf) : badLabel (V : Int) x = (x.label / 2 ^ V != 0) := by
  rw [Bool.eq_iff_iff]; simp [badLabel]
theorem any_take_snoc {α : Type} {l : List α} {k : Nat} {x : α} (g : α → Bool) (h : l[k]? = some x) : (l.take (k + 1)).any g = ((l.take k).any g || g x) := by
  rw [List.take_add_one, h]; simp
theorem any_of_at {α : Type} {l : List α} {k : Nat} {x : α} (g : α → Bool) (h : l[k]? = some x) (hg : g x = true) : l.any g = true := List.any_eq_true.2 ⟨x, List.mem_of_getElem? h, hg⟩

set_option maxRecDepth 100000 in
set_option maxHeartbeats 2000000 in
theorem TreeCheck_any (t : List Lf) (v : Value) (vars : Int) (w : World) (hv : TS w v t) :
    Calls Tryd.prog 35 #[v, .int .i64 vars] w fun e w' => e = .returned (.int .i64 (checkT t vars)) ∧ Below w.heap.size w w' := by
  have HV := Lib.hid hv
  obtain ⟨hop, A, c, rfl, hc1, hc2, hcell⟩ := hv
  obtain ⟨n, hn⟩ : ∃ n, n = t.length := ⟨_, rfl⟩
  rw [← hn] at hc1 HV hcell ⊢
  obtain ⟨R, hR⟩ : ∃ R, R = checkT t vars := ⟨_, rfl⟩
  rw [← hR]
  unfold checkT at hR
  rw [← hn] at hR
  have HR := Lib.hid hR; have HN := Lib.hid hn; have HC := Lib.hid hcell; have HOP := Lib.hid hop
  clear hR hn hcell hop
  by_cases hv1 : vars < 0
  · have HRR : Hid (R = 7) := by rw [Hid, HR.out, if_pos (.inl hv1)]
    go_enter Tryd.func35, Tryd.ntmps35
    go_wp2
    go_returns
    exact ⟨ret_i HRR.out, Below.refl _ _⟩
  by_cases hv2 : 3 < vars
  · have HRR : Hid (R = 7) := by rw [Hid, HR.out, if_pos (.inr hv2)]
    go_enter Tryd.func35, Tryd.ntmps35
    go_wp2
    go_returns
    exact ⟨ret_i HRR.out, Below.refl _ _⟩
  by_cases h31 : 31 < n
  · have HRR : Hid (R = 4) := by rw [Hid, HR.out, if_neg (by omega), if_pos h31]
    go_enter Tryd.func35, Tryd.ntmps35
    go_wp2
    go_returns
    exact ⟨ret_i HRR.out, Below.refl _ _⟩
  have HR3 : Hid (R = if t.any (badLabel vars) then 1 else if formedT t then 0 else 2) := by rw [Hid, HR.out, if_neg (by omega), if_neg h31]
  obtain ⟨V, rfl⟩ : ∃ V : Nat, vars = V := ⟨vars.toNat, by omega⟩
  have hV3 : V ≤ 3 := by omega
  go_enter Tryd.func35, Tryd.ntmps35
  go_wp2
  go_loopg [20] n (fun gk v wr => ∃ k : Nat, k ≤ n ∧ gk = n - k ∧ v = .int .i64 k ∧ Below w.heap.size w wr ∧ (t.take k).any (badLabel V) = false)
  case atStart => exact ⟨0, Nat.zero_le _, rfl, rfl, Below.refl _ _, by simp⟩
  case round =>
    obtain ⟨k, hk, rfl, rfl, hbe, hacc⟩ := hrel
    have HB := Lib.hid hbe; have HA := Lib.hid hacc; clear hbe hacc
    by_cases hlt : k < n
    · obtain ⟨x, hx⟩ : ∃ x, t[k]? = some x := ⟨t[k]'(by rw [← HN.out]; exact hlt), List.getElem?_eq_getElem _⟩
      obtain ⟨b, o, rfl, hb, hcell⟩ := HC.out (by omega)
      obtain ⟨c0, c1, c2⟩ := hcell k x hx
      rw [← HB.out.cell (p := ⟨b, _, none⟩) hb] at c0 c1 c2
      obtain ⟨l1, l2⟩ := HOP.out x (List.mem_of_getElem? hx)
      have hb' : b < wr.heap.size := by have := HB.out.size; omega
      have hbl := badLabel_at V x
      have hsn := any_take_snoc (badLabel V) hx
      have hat := any_of_at (badLabel V) hx
      rw [hbl] at hsn hat
      have HS := Lib.hid hsn; have HAT := Lib.hid hat
      clear hcell hx hbl hsn hat
      obtain ⟨lb, l, r⟩ := x
      simp only at c0 c1 c2 HS HAT l1 l2
      cases hbb : (lb / 2 ^ V != 0)
      · go_wp2
        go_roundg (n - (k + 1))
        case rel => exact ⟨k + 1, by omega, rfl, by go_num, by have := HB.out; have := HB.out.size; go_grown, by rw [HS.out, HA.out, hbb]; rfl⟩
        case measure => omega
      · have HRR : Hid (R = 1) := by rw [Hid, HR3.out, if_pos (HAT.out hbb)]
        go_wp2
        go_returns
        exact ⟨ret_i HRR.out, by have := HB.out; have := HB.out.size; go_grown⟩
    · have hkn : k = n := by omega
      have hall : t.any (badLabel V) = false := by
        have := HA.out
        rw [hkn, List.take_of_length_le (by rw [← HN.out]; exact Nat.le_refl _)] at this
        exact this
      have HRR : Hid (R = if formedT t then 0 else 2) := by rw [Hid, HR3.out, hall]; rfl
      clear hkn hall
      cases hf : formedT t
      all_goals
        have HF := Lib.hid hf; clear hf
        go_wp2_with (go_at_call 71; go_must (refine (formedT_any t _ _ (HV.out.below HB.out (Nat.le_refl _))).mono ?_; rintro e w1 ⟨rfl, hb1⟩; rw [HF.out]; replace HB := Lib.hid (HB.out.trans (hb1.mono HB.out.size)); clear hb1))
        go_returns
        exact ⟨ret_i (by rw [HRR.out, HF.out]; rfl), HB.out⟩
end Go.Proofs.YtdlibehffgfhlaaDoor

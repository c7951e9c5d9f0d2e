/- Contracts: Word, Tree and Cost of the package model. -/
/- Contracts of the helpers of the model's statements: parsed, word, few, letters, awake. -/
import Derived.Test.YtgeklibilgfjbaaDoorMdlE
import Derived.Test.YtgeklibilgfjbaaDoorTrB
import Derived.Test.YtgeklibilgfjbaaDoorChk
import Derived.Test.YtgeklibilgfjbaaDoorLaw
import Derived.Deep.RegionHeld3
set_option linter.unusedSimpArgs false
set_option linter.unusedVariables false
namespace Go.Proofs.YtgeklibilgfjbaaDoor
open Go.RowKit

theorem ret_fst {R : Bool × Int} {b : Bool} {k : Int} (h : R = (b, k)) : Ending.returned (.tuple #[.bool b, .int .i64 k]) = Ending.returned (.tuple #[.bool R.1, .int .i64 R.2]) := by rw [h]
theorem badL_at (V x : Nat) : badL (V : Int) x = ((x : Int) / 2 ^ V != 0) := by
  rw [Bool.eq_iff_iff]; simp [badL]
theorem check_vars {f : List Mk} {vars : Int} {trees : Bool} (h : checkS f vars trees = 0) : 0 ≤ vars ∧ vars ≤ 6 := by
  unfold checkS at h
  by_cases hr : vars < 0 ∨ (if trees then (3 : Int) else 6) < vars
  · rw [if_pos hr] at h; omega
  · cases trees
    · simp only [Bool.false_eq_true, if_false] at hr; omega
    · simp only [if_true] at hr; omega

set_option maxRecDepth 100000 in
set_option maxHeartbeats 2000000 in
theorem Word_any (f : List Mk) (v u : Value) (vars : Int) (l : List Nat) (w : World) (hv : MS w v f) (hu : YS w u l) (h256 : ∀ x ∈ l, x < 256) (hdb : DB w) :
    Calls Tryd.prog 79 #[v, .int .i64 vars, u] w fun e w' => e = .returned (.tuple #[.bool (wordS f vars l).1, .int .i64 (wordS f vars l).2]) ∧ Below w.heap.size w w' := by
  have HV := Lib.hid hv; have HU := Lib.hid hu; have HDB := Lib.hid hdb; have H256 := Lib.hid h256
  obtain ⟨_, Af, cf, rfl, hcf, hcf2, _⟩ := hv
  obtain ⟨Au, cu, rfl, hcu, hcu2, hcell⟩ := hu
  obtain ⟨R, hR⟩ : ∃ R, R = wordS f vars l := ⟨_, rfl⟩
  rw [← hR]
  unfold wordS at hR
  obtain ⟨K, hK⟩ : ∃ K, K = checkS f vars false := ⟨_, rfl⟩
  have hCK := fun W (hW : MS W (.slice Af f.length cf) f) => Check_any f _ vars false W hW
  rw [← hK] at hR hCK
  have hform : K = 0 → formedS f = true ∧ 0 ≤ vars ∧ vars ≤ 6 := fun h => by rw [hK] at h; exact ⟨check_formed_of h, check_vars h⟩
  obtain ⟨n, hn⟩ : ∃ n, n = l.length := ⟨_, rfl⟩
  rw [← hn] at hcu hcell HU hR ⊢
  have HCK := Lib.hid hCK; have HF := Lib.hid hform; have HN := Lib.hid hn; have HR := Lib.hid hR; have HC2 := Lib.hid hcell
  clear hR hK hCK hform hn hcell h256 hdb
  by_cases hk0 : K = 0
  · subst hk0
    obtain ⟨hf, hv0, hv6⟩ := HF.out rfl
    have HFO := Lib.hid hf; clear hf
    have hR2 : R = if 64 < n then (false, 4) else if l.any (badL vars) then (false, 1) else evalS (stcWord n) f l := by rw [HR.out]; rfl
    replace HR := Lib.hid hR2; clear hR2
    by_cases h64 : 64 < n
    · have HRR : Hid (R = (false, 4)) := by rw [Hid, HR.out, if_pos h64]
      go_enter Tryd.func79, Tryd.ntmps79
      go_wp2_with (go_at_call 54; go_must ((with_reducible refine (HCK.out _ HV.out).mono ?_); rintro e w1 ⟨rfl, hb1⟩; have HB := Lib.hid hb1; clear hb1))
      go_returns
      exact ⟨ret_fst HRR.out, HB.out⟩
    have hR2 : R = if l.any (badL vars) then (false, 1) else evalS (stcWord n) f l := by rw [HR.out, if_neg h64]
    replace HR := Lib.hid hR2; clear hR2
    obtain ⟨V, rfl⟩ : ∃ V : Nat, vars = V := ⟨vars.toNat, by omega⟩
    go_enter Tryd.func79, Tryd.ntmps79
    go_wp2_with (go_at_call 54; go_must ((with_reducible refine (HCK.out _ HV.out).mono ?_); rintro e w1 ⟨rfl, hb1⟩; have HB := Lib.hid hb1; clear hb1))
    go_loopg [22] n (fun gk v wr => ∃ k : Nat, k ≤ n ∧ gk = n - k ∧ v = .int .i64 k ∧ Below w.heap.size w wr ∧ (l.take k).any (badL V) = false)
    case atStart => exact ⟨0, Nat.zero_le _, rfl, rfl, HB.out, by simp⟩
    case round =>
      obtain ⟨k, hk, rfl, rfl, hbe, hacc⟩ := hrel
      replace HB := Lib.hid hbe; have HA := Lib.hid hacc; clear hbe hacc
      by_cases hlt : k < n
      · obtain ⟨x, hx⟩ : ∃ x, l[k]? = some x := ⟨l[k]'(by rw [← HN.out]; exact hlt), List.getElem?_eq_getElem _⟩
        have hx256 := bytes_at H256.out hx
        obtain ⟨b, o, rfl, hb, hcell⟩ := HC2.out (by omega)
        have c0 : wr.cell? ⟨b, o + k, none⟩ = some (.int .u8 x) := (HB.out.cell (p := ⟨b, _, none⟩) hb).trans (hcell k x hx)
        have hbl := badL_at V x
        have hsn := any_take_snoc (badL V) hx
        have hat := any_of_at (badL V) hx
        rw [hbl] at hsn hat
        have HS := Lib.hid hsn; have HAT := Lib.hid hat
        clear hcell hx hbl hsn hat
        cases hbb : ((x : Int) / 2 ^ V != 0)
        · go_wp2
          go_roundg (n - (k + 1))
          case rel => exact ⟨k + 1, by omega, rfl, by go_num, HB.out, by rw [HS.out, HA.out, hbb]; rfl⟩
          case measure => omega
        · have HRR : Hid (R = (false, 1)) := by rw [Hid, HR.out, if_pos (HAT.out hbb)]
          go_wp2
          go_returns
          exact ⟨ret_fst HRR.out, HB.out⟩
      · have hkn : k = n := by omega
        have hall : l.any (badL V) = false := by
          have := HA.out
          rw [hkn, List.take_of_length_le (by rw [← HN.out]; exact Nat.le_refl _)] at this
          exact this
        have HRR : Hid (R = evalS (stcWord n) f l) := by rw [Hid, HR.out, hall]; rfl
        clear hkn hall
        go_wp2_with (go_at_call 156; go_must ((with_reducible refine (evaluate_W n (by omega) f _ _ l _ (HV.out.below HB.out (Nat.le_refl _)) HFO.out (HU.out.below HB.out (Nat.le_refl _)) H256.out HN.out.symm (HDB.out.below HB.out (Nat.le_refl _))).mono ?_); rintro e w2 ⟨he, hb2⟩; obtain rfl : e = .returned (.tuple #[.bool R.1, .int .i64 R.2]) := he.trans (by rw [HRR.out]); replace HB := Lib.hid (HB.out.trans (hb2.mono HB.out.size)); clear hb2 he))
        go_returns
        exact ⟨rfl, HB.out⟩
  · have HRR : Hid (R = (false, K)) := by rw [Hid, HR.out, if_pos hk0]
    have hk0' : (K != 0) = true := by simp [hk0]
    go_enter Tryd.func79, Tryd.ntmps79
    go_wp2_with (go_at_call 54; go_must ((with_reducible refine (HCK.out _ HV.out).mono ?_); rintro e w1 ⟨rfl, hb1⟩; have HB := Lib.hid hb1; clear hb1))
    go_returns
    exact ⟨ret_fst HRR.out, HB.out⟩

set_option maxRecDepth 100000 in
set_option maxHeartbeats 2000000 in
theorem MTree_any (f : List Mk) (v u : Value) (vars : Int) (t : List Lf) (w : World) (hv : MS w v f) (hu : TS w u t) (hdb : DB w) :
    Calls Tryd.prog 85 #[v, .int .i64 vars, u] w fun e w' => e = .returned (.tuple #[.bool (modelTreeS f vars t).1, .int .i64 (modelTreeS f vars t).2]) ∧ Below w.heap.size w w' := by
  have HV := Lib.hid hv; have HU := Lib.hid hu; have HDB := Lib.hid hdb
  obtain ⟨_, Af, cf, rfl, hcf, hcf2, _⟩ := hv
  obtain ⟨hop, Au, cu, rfl, hcu, hcu2, hcell⟩ := hu
  obtain ⟨R, hR⟩ : ∃ R, R = modelTreeS f vars t := ⟨_, rfl⟩
  rw [← hR]
  unfold modelTreeS at hR
  obtain ⟨K, hK⟩ : ∃ K, K = checkS f vars true := ⟨_, rfl⟩
  obtain ⟨J, hJ⟩ : ∃ J, J = checkT t vars := ⟨_, rfl⟩
  have hCK := fun W (hW : MS W (.slice Af f.length cf) f) => Check_any f _ vars true W hW
  have hCT := fun W (hW : TS W (.slice Au t.length cu) t) => TreeCheck_any t _ vars W hW
  rw [← hK, ← hJ] at hR
  rw [← hK] at hCK
  rw [← hJ] at hCT
  have hform : K = 0 → formedS f = true := fun h => by rw [hK] at h; exact check_formed_of h
  have htree : J = 0 → t.length ≤ 31 ∧ KidsOk t ∧ (∀ x ∈ t, x.label < 256) := fun h => by
    rw [hJ] at h
    unfold checkT at h
    by_cases a1 : vars < 0 ∨ 3 < vars
    · rw [if_pos a1] at h; omega
    · by_cases a2 : 31 < t.length
      · rw [if_neg a1, if_pos a2] at h; omega
      · by_cases a3 : t.any (badLabel vars) = true
        · rw [if_neg a1, if_neg a2, if_pos a3] at h; omega
        · by_cases a4 : formedT t = true
          · exact ⟨by omega, kids_ok a4, fun x hx => by have := (hop x hx).2; omega⟩
          · rw [if_neg a1, if_neg a2, if_neg a3, if_neg a4] at h; omega
  obtain ⟨n, hn⟩ : ∃ n, n = t.length := ⟨_, rfl⟩
  rw [← hn] at hcu hcell HU htree hCT ⊢
  have HCK := Lib.hid hCK; have HCT := Lib.hid hCT; have HF := Lib.hid hform; have HTR := Lib.hid htree; have HN := Lib.hid hn; have HR := Lib.hid hR; have HC2 := Lib.hid hcell; have HOP := Lib.hid hop
  clear hR hK hJ hCK hCT hform htree hn hcell hop hdb
  by_cases hk0 : K = 0
  · subst hk0
    have HFO := Lib.hid (HF.out rfl)
    by_cases hj0 : J = 0
    · subst hj0
      obtain ⟨h31, hkids, hlab⟩ := HTR.out rfl
      have HRR : Hid (R = evalS (stcTree t) f (labelsS t)) := by rw [Hid, HR.out]; rfl
      have HK := Lib.hid hkids; have HLB := Lib.hid hlab; clear hkids hlab
      go_enter Tryd.func85, Tryd.ntmps85
      go_wp2_with (first
        | (go_at_call 54; go_must ((with_reducible refine (HCK.out _ HV.out).mono ?_); rintro e w1 ⟨rfl, hb1⟩; have HB := Lib.hid hb1; clear hb1))
        | (go_at_call 27; go_must ((with_reducible refine (HCT.out _ (HU.out.below HB.out (Nat.le_refl _))).mono ?_); rintro e w1 ⟨rfl, hb1⟩; replace HB := Lib.hid (HB.out.trans (hb1.mono HB.out.size)); clear hb1)))
      go_loopg [10, 27] n (fun gk q v wr => ∃ k : Nat, k ≤ n ∧ gk = n - k ∧ v = .int .i64 k ∧ Below w.heap.size w wr ∧ YO wr w.heap.size q (labelsS (t.take k)))
      case atStart => exact ⟨0, Nat.zero_le _, rfl, rfl, HB.out, YO.nil _ _⟩
      case round =>
        obtain ⟨k, hk, rfl, rfl, hbe, hown⟩ := hrel
        replace HB := Lib.hid hbe; have HO := Lib.hid hown; clear hbe hown
        by_cases hlt : k < n
        · obtain ⟨x, hx⟩ : ∃ x, t[k]? = some x := ⟨t[k]'(by rw [← HN.out]; exact hlt), List.getElem?_eq_getElem _⟩
          obtain ⟨b, o, rfl, hb, hcell⟩ := HC2.out (by omega)
          obtain ⟨c0, c1, c2⟩ := hcell k x hx
          rw [← HB.out.cell (p := ⟨b, _, none⟩) hb] at c0 c1 c2
          have hlx := HOP.out x (List.mem_of_getElem? hx)
          have hb' : b < wr.heap.size := by have := HB.out.size; omega
          have htk : Hid (labelsS (t.take (k + 1)) = labelsS (t.take k) ++ [x.label.toNat]) := by
            rw [Hid, List.take_add_one, hx]; simp [labelsS]
          obtain ⟨lb, l, r⟩ := x
          simp only at c0 c1 c2 htk hlx
          obtain ⟨m, rfl⟩ : ∃ m : Nat, lb = m := ⟨lb.toNat, by omega⟩
          simp only [Int.toNat_natCast] at htk
          have hll : (labelsS (t.take k)).length ≤ 100 := by simp [labelsS]; omega
          clear hcell hx
          go_wp2_with (at_builtin; go_must (refine wpList_append_ys rfl (.tmp 31) (.tmp 34) rfl w.heap.size u10 (labelsS (t.take k)) rfl (HO.out.below (B' := wr.heap.size) (by go_grown) (Nat.le_refl _)) _ [m] rfl (YS.lit 1 1 #[.int .u8 m] (by first | exact Row.new _ _ _ | exact Row.lit (by simp only [World.size_alloc])) rfl (by omega) (by omega) (by intro i y hy; cases i with | zero => (simp at hy; subst hy; rfl) | succ i => simp at hy)) (by simp only [List.length_cons, List.length_nil]; omega) (by have := HB.out.size; simp only [World.size_alloc]; omega) ?_; intro v3 w3 ho3 hg3 _))
          have HB3 := Lib.hid (own_below_y (w := w) (by have h1 := HB.out; have h2 := h1.size; go_grown) (HO.out.below (B' := wr.heap.size) (by go_grown) (Nat.le_refl _)) hg3 (by have := HB.out.size; simp only [World.size_alloc]; omega))
          rw [← htk.out] at ho3
          have HO3 := Lib.hid ho3; clear ho3 hg3
          go_wp2
          go_roundg (n - (k + 1))
          case rel => exact ⟨k + 1, by omega, rfl, by go_num, HB3.out, HO3.out⟩
          case measure => omega
        · have hkn : k = n := by omega
          have ho := HO.out
          rw [hkn, List.take_of_length_le (by rw [← HN.out]; exact Nat.le_refl _)] at ho
          have HY := Lib.hid ho.ys
          have hl256 : Hid (∀ x ∈ labelsS t, x < 256) := fun x hx => by
            simp only [labelsS, List.mem_map] at hx
            obtain ⟨y, hy, rfl⟩ := hx
            have h1 := (HOP.out y hy); omega
          have hlen : Hid ((labelsS t).length = n) := by rw [Hid, HN.out]; simp [labelsS]
          clear ho hkn
          go_wp2_with (go_at_call 156; go_must ((with_reducible refine (evaluate_T t Au n cu HN.out HK.out (by omega) f _ _ (labelsS t) _ (HV.out.below HB.out (Nat.le_refl _)) HFO.out HY.out hl256.out hlen.out (HDB.out.below HB.out (Nat.le_refl _)) (HU.out.below HB.out (Nat.le_refl _))).mono ?_); rintro e w2 ⟨he, hb2⟩; obtain rfl : e = .returned (.tuple #[.bool R.1, .int .i64 R.2]) := he.trans (by rw [HRR.out]); replace HB := Lib.hid (HB.out.trans (hb2.mono HB.out.size)); clear hb2 he))
          go_returns
          exact ⟨rfl, HB.out⟩
    · have HRR : Hid (R = (false, J)) := by rw [Hid, HR.out]; simp [hj0]
      have hj0' : (J != 0) = true := by simp [hj0]
      go_enter Tryd.func85, Tryd.ntmps85
      go_wp2_with (first
        | (go_at_call 54; go_must ((with_reducible refine (HCK.out _ HV.out).mono ?_); rintro e w1 ⟨rfl, hb1⟩; have HB := Lib.hid hb1; clear hb1))
        | (go_at_call 27; go_must ((with_reducible refine (HCT.out _ (HU.out.below HB.out (Nat.le_refl _))).mono ?_); rintro e w1 ⟨rfl, hb1⟩; replace HB := Lib.hid (HB.out.trans (hb1.mono HB.out.size)); clear hb1)))
      go_returns
      exact ⟨ret_fst HRR.out, HB.out⟩
  · have HRR : Hid (R = (false, K)) := by rw [Hid, HR.out, if_pos hk0]
    have hk0' : (K != 0) = true := by simp [hk0]
    go_enter Tryd.func85, Tryd.ntmps85
    go_wp2_with (go_at_call 54; go_must ((with_reducible refine (HCK.out _ HV.out).mono ?_); rintro e w1 ⟨rfl, hb1⟩; have HB := Lib.hid hb1; clear hb1))
    go_returns
    exact ⟨ret_fst HRR.out, HB.out⟩

theorem ret_cost {R : Int × Int} {b k : Int} (h : R = (b, k)) : Ending.returned (.tuple #[.int .i64 b, .int .i64 k]) = Ending.returned (.tuple #[.int .i64 R.1, .int .i64 R.2]) := by rw [h]
set_option maxRecDepth 100000 in
set_option maxHeartbeats 2000000 in
theorem Cost_any (f : List Mk) (v : Value) (n : Int) (w : World) (hv : MS w v f) :
    Calls Tryd.prog 81 #[v, .int .i64 n] w fun e w' => e = .returned (.tuple #[.int .i64 (modelCostS f n).1, .int .i64 (modelCostS f n).2]) ∧ Below w.heap.size w w' := by
  have HV := Lib.hid hv
  obtain ⟨_, Af, cf, rfl, hcf, hcf2, _⟩ := hv
  obtain ⟨R, hR⟩ : ∃ R, R = modelCostS f n := ⟨_, rfl⟩
  rw [← hR]
  unfold modelCostS at hR
  by_cases hn1 : n < 0
  · have HRR : Hid (R = (0, 1)) := by rw [Hid, hR, if_pos (.inl hn1)]
    clear hR
    go_enter Tryd.func81, Tryd.ntmps81
    go_wp2
    go_returns
    exact ⟨ret_cost HRR.out, Below.refl _ _⟩
  by_cases hn2 : 64 < n
  · have HRR : Hid (R = (0, 1)) := by rw [Hid, hR, if_pos (.inr hn2)]
    clear hR
    go_enter Tryd.func81, Tryd.ntmps81
    go_wp2
    go_returns
    exact ⟨ret_cost HRR.out, Below.refl _ _⟩
  rw [if_neg (by omega)] at hR
  obtain ⟨M, rfl⟩ : ∃ M : Nat, n = M := ⟨n.toNat, by omega⟩
  have hFM := fun W (hW : MS W (.slice Af f.length cf) f) => Format_text f _ W hW
  cases hf : formedS f
  · have HRR : Hid (R = (0, 2)) := by rw [Hid, hR, hf]; rfl
    rw [hf] at hFM
    have HFM : Hid (∀ W, MS W (.slice Af f.length cf) f → Calls Tryd.prog 69 #[.slice Af f.length cf] W fun e w' => (∃ S : ByteArray, e = .returned (.tuple #[.string S, .int .i64 2])) ∧ Below W.heap.size W w') := fun W hW => (hFM W hW).mono fun e w' ⟨he, hb⟩ => ⟨⟨_, he⟩, hb⟩
    clear hR hFM hf
    go_enter Tryd.func81, Tryd.ntmps81
    go_wp2_with (go_at_call 69; go_must ((with_reducible refine (HFM.out _ HV.out).mono ?_); rintro e w1 ⟨⟨S, rfl⟩, hb1⟩; have HB := Lib.hid hb1; clear hb1))
    go_returns
    exact ⟨ret_cost HRR.out, HB.out⟩
  · rw [hf] at hR hFM
    have HFM : Hid (∀ W, MS W (.slice Af f.length cf) f → Calls Tryd.prog 69 #[.slice Af f.length cf] W fun e w' => (∃ S : ByteArray, e = .returned (.tuple #[.string S, .int .i64 0])) ∧ Below W.heap.size W w') := fun W hW => (hFM W hW).mono fun e w' ⟨he, hb⟩ => ⟨⟨_, he⟩, hb⟩
    have hkids := kids_of hf
    have hl := formed_len f hf
    have hce := costS_eq hf M
    unfold costS at hce
    obtain ⟨C, hC⟩ : ∃ C, C = costT M (treeOf f) := ⟨_, rfl⟩
    rw [Int.toNat_natCast, ← hC] at hR
    have HRR : Hid (R = ((C : Int), 0)) := by rw [Hid, hR]; rfl
    rw [← hC] at hce
    have hoc := outc_get f.length (csts M f) (f.length - 1) (by omega) (by rw [csts_len]; exact Nat.le_refl _)
    rw [hce] at hoc
    have HCO := Lib.hid (fun W (hW : MS W (.slice Af f.length cf) f) => costs_any f _ M (by omega) W hW hl.2 hkids)
    obtain ⟨N, hN⟩ : ∃ N, N = f.length := ⟨_, rfl⟩
    rw [← hN] at HV hcf HCO hoc hl HFM ⊢
    have hlast : ((N : Int) - 1).toNat = N - 1 := by omega
    have HOC := Lib.hid hoc
    clear hR hFM hf hkids hce hC hoc hN
    go_enter Tryd.func81, Tryd.ntmps81
    go_wp2_with (first
      | (go_at_call 69; go_must ((with_reducible refine (HFM.out _ HV.out).mono ?_); rintro e w1 ⟨⟨S, rfl⟩, hb1⟩; have HB := Lib.hid hb1; clear hb1))
      | (go_at_call 161; go_must ((with_reducible refine (HCO.out _ (HV.out.below HB.out (Nat.le_refl _))).mono ?_); rintro e w2 ⟨rfl, hb2, hr2⟩; have r1 := hr2.cell (N - 1); rw [HOC.out] at r1; have r2 := hr2.lt; replace HB := Lib.hid (HB.out.trans (hb2.mono HB.out.size)); clear hb2 hr2)))
    go_returns
    exact ⟨ret_cost HRR.out, HB.out⟩
end Go.Proofs.YtgeklibilgfjbaaDoor

namespace Go.Proofs.YtgeklibilgfjbaaDoor
open Go.RowKit

theorem chain16 {B : Nat} {a b W c : World} (hB : B ≤ a.heap.size) (h : Below B a b) (hx : Below b.heap.size b W) (hb : Below W.heap.size W c) : Below B a c :=
  h.trans ((hx.mono (Nat.le_trans hB h.size)).trans (hb.mono (Nat.le_trans (Nat.le_trans hB h.size) hx.size)))
set_option maxRecDepth 100000 in
set_option maxHeartbeats 1000000 in
theorem parsed_any (S : ByteArray) (w : World) : Calls Tryd.prog 88 #[.string S] w (RetMO w (parseS (bts S)).1) := by
  have hp := Parse_any S w
  generalize parseS (bts S) = r at *
  have HP := Lib.hid hp; clear hp
  go_enter Tryd.func88, Tryd.ntmps88
  go_wp2_with (go_at_call 20; refine HP.out.mono ?_; rintro e w1 ⟨v, rfl, hb1, ho1⟩)
  go_returns
  exact ⟨v, rfl, hb1, ho1⟩

def wordB (S : ByteArray) (vars : Int) (want : Bool) (err : Int) (l : List Nat) : Bool := (wordS (parseS (bts S)).1 vars l).1 == want && (wordS (parseS (bts S)).1 vars l).2 == err
set_option maxRecDepth 100000 in
set_option maxHeartbeats 1000000 in
theorem word_true (S : ByteArray) (vars : Int) (want : Bool) (err : Int) (l : List Nat) (u : Value) (w : World) (hu : YS w u l) (h256 : ∀ x ∈ l, x < 256) (hdb : DB w) (h : wordB S vars want err l = true) :
    Calls Tryd.prog 87 #[.string S, .int .i64 vars, .bool want, .int .i64 err, u] w fun e w' => e = .returned (.bool true) ∧ Below w.heap.size w w' := by
  unfold wordB at h
  simp only [Bool.and_eq_true, beq_iff_eq] at h
  obtain ⟨h1, h2⟩ := h
  have hp := parsed_any S w
  generalize (parseS (bts S)).1 = f at *
  have HP := Lib.hid hp; have HU := Lib.hid hu; have HDB := Lib.hid hdb
  have hw := fun v W (hv : MS W v f) (hu : YS W u l) (hdb : DB W) => Word_any f v u vars l W hv hu h256 hdb
  rw [h1, h2] at hw
  have HW := Lib.hid hw
  clear hw hp hu hdb h1 h2
  go_enter Tryd.func87, Tryd.ntmps87
  go_wp2_with (first
    | (go_at_call 88; go_must (refine HP.out.mono ?_; rintro e w1 ⟨v, rfl, hb1, ho1⟩; have HB := Lib.hid hb1; have HO := Lib.hid ho1.ms; clear hb1 ho1))
    | (go_at_call 79; go_must ((with_reducible refine (HW.out v _ HO.out (HU.out.below HB.out (Nat.le_refl _)) (HDB.out.below HB.out (Nat.le_refl _))).mono ?_); rintro e w2 ⟨rfl, hb2⟩; replace HB := Lib.hid (HB.out.trans (hb2.mono HB.out.size)); clear hb2)))
  go_returns
  exact ⟨ret_bool (by simp), HB.out⟩
theorem take_min {α : Type} (f : List α) (n k : Nat) (hn : n = f.length) : f.take (min (n : Int) (k : Int)).toNat = f.take k := by
  by_cases h : n ≤ k
  · rw [List.take_of_length_le (by omega), List.take_of_length_le (by omega)]
  · rw [show (min (n : Int) (k : Int)).toNat = k by omega]
set_option maxRecDepth 100000 in
set_option maxHeartbeats 400000 in
theorem few16_any (f : List Mk) (v : Value) (w : World) (hv : MS w v f) : Calls Tryd.prog 78 #[v] w (RetMO w (f.take 70)) := by
  have HV := Lib.hid hv
  obtain ⟨_, A, c, rfl, hc1, hc2, _⟩ := hv
  obtain ⟨n, hn⟩ : ∃ n, n = f.length := ⟨_, rfl⟩
  rw [← hn] at hc1 HV ⊢
  have hcp := fun W (hW : MS W (.slice A n c) f) => copy_any (f.take (min (n : Int) 70).toNat) _ W (hW.cut (min (n : Int) 70).toNat (by omega) A (fun _ => rfl)) (by rw [List.length_take]; omega)
  rw [show (70 : Int) = ((70 : Nat) : Int) from rfl] at hcp
  rw [take_min f n 70 hn] at hcp
  have HCP := Lib.hid hcp; clear hcp hn
  go_enter Tryd.func78, Tryd.ntmps78
  go_wp2_with (go_at_call 15; go_must (refine (HCP.out _ HV.out).mono ?_; rintro e w1 ⟨v1, rfl, hb1, ho1⟩))
  go_returns
  exact ⟨v1, rfl, hb1, ho1⟩
/-- A literal of bytes. -/
theorem YS.litL {w : World} {g : Nat} (l : List Nat) (hl : l.length ≤ 1000) (h : Row w g 5 (l.map byV).toArray) : YS w (.slice (some ⟨g, 0, none⟩) l.length l.length) l :=
  YS.lit l.length l.length _ h rfl (Nat.le_refl _) (by omega) (fun i x hi => by simp [hi])
theorem TS.litL {w : World} {g : Nat} (t : List Lf) (hl : t.length ≤ 1000) (hb : LbOk t) (h : Row w g 42 (lcells t).toArray) : TS w (.slice (some ⟨g, 0, none⟩) t.length t.length) t := by
  refine ⟨hb, some ⟨g, 0, none⟩, t.length, rfl, Nat.le_refl _, by omega, fun _ => ⟨g, 0, rfl, h.lt, fun i m hi => ?_⟩⟩
  have key : ∀ j, j < 3 → w.cell? ⟨g, 0 + i * 3 + j, none⟩ = m.cells[j]? := fun j hj => by
    rw [h.cell, Nat.zero_add, ← Array.getElem?_toList, lcells_get t i m hi j hj]
  exact ⟨key 0 (by omega), key 1 (by omega), key 2 (by omega)⟩

abbrev Z1 : ByteArray := { data := #[40, 115, 117, 98, 32, 65, 32, 66, 41] }
abbrev Z2 : ByteArray := { data := #[40, 101, 120, 105, 115, 116, 115, 32, 66, 32, 40, 97, 110, 100, 32, 40, 115, 117, 98, 32, 66, 32, 65, 41, 32, 40, 115, 105, 110, 103, 108, 101, 32, 66, 41, 41, 41] }
abbrev Z3 : ByteArray := { data := #[40, 101, 97, 99, 104, 32, 66, 32, 40, 115, 111, 109, 101, 32, 67, 32, 40, 110, 101, 120, 116, 32, 66, 32, 67, 41, 41, 41] }
abbrev Z4 : ByteArray := { data := #[40, 115, 111, 109, 101, 32, 66, 32, 40, 108, 101, 102, 116, 32, 65, 32, 66, 41, 41] }
abbrev Z5 : ByteArray := { data := #[40, 101, 120, 105, 115, 116, 115, 32, 65, 32, 40, 115, 111, 109, 101, 32, 66, 32, 40, 108, 101, 115, 115, 32, 65, 32, 66, 41, 41, 41] }
theorem w_a1 : wordB Z1 2 true 0 [3, 2] = true := by decide +kernel
theorem w_a2 : wordB Z1 2 false 0 [1] = true := by decide +kernel
theorem w_a3 : wordB Z1 2 true 0 [] = true := by decide +kernel
theorem w_b1 : wordB Z2 2 true 0 [0, 1, 0] = true := by decide +kernel
theorem w_b2 : wordB Z2 2 false 0 [0, 0] = true := by decide +kernel
theorem w_b3 : wordB Z3 3 false 0 [0, 0] = true := by decide +kernel
theorem w_b4 : wordB Z3 3 true 0 [] = true := by decide +kernel
theorem w_c1 : wordB Z1 2 false 1 [4] = true := by decide +kernel
theorem w_c2 : wordB Z1 1 false 7 [] = true := by decide +kernel
abbrev F4 : List Mk := [⟨7, 0, 1, 0, 0⟩, ⟨14, 1, 0, 0, 0⟩]
theorem p_4 : (parseS (bts Z4)).1 = F4 := by decide +kernel
abbrev LA : List Lf := [⟨1, 1, -1⟩, ⟨0, -1, -1⟩]
abbrev LB : List Lf := [⟨1, -1, 1⟩, ⟨0, -1, -1⟩]
theorem t_a : modelTreeS F4 2 LA = (true, 0) := by decide +kernel
theorem t_b : modelTreeS F4 2 LB = (false, 0) := by decide +kernel
theorem c_3 : modelCostS (parseS (bts Z5)).1 3 = (33, 0) := by decide +kernel
theorem c_64 : modelCostS (parseS (bts Z5)).1 64 = (1073741824, 0) := by decide +kernel
theorem mk16 (w : World) : (Instr.makeSlice 36 (.int .i64 16) (.int .i64 16)).run Tryd.prog w = .ok (.slice (some ⟨w.heap.size, 0, none⟩) 16 16) (w.alloc (.cells #[Value.int .u8 0, .int .u8 0, .int .u8 0, .int .u8 0, .int .u8 0, .int .u8 0, .int .u8 0, .int .u8 0, .int .u8 0, .int .u8 0, .int .u8 0, .int .u8 0, .int .u8 0, .int .u8 0, .int .u8 0, .int .u8 0] 5)) := by kernel_rfl
theorem w_16 : wordS (parseS (bts Z5)).1 2 [0, 0, 0, 0, 0, 0, 0, 0, 0, 0, 0, 0, 0, 0, 0, 0] = (false, 10) := by decide +kernel

set_option maxRecDepth 100000 in
set_option maxHeartbeats 8000000 in
theorem awake16 (w : World) (hdb : DB w) : Calls Tryd.prog 25 #[] w fun e w' => e = .returned (.bool true) ∧ Below w.heap.size w w' := by
  have HDB := Lib.hid hdb; clear hdb
  have HB : Hid (Below w.heap.size w w) := Below.refl _ _
  have A1 := Lib.hid fun W u (h : YS W u [3, 2]) (hd : DB W) => word_true Z1 2 true 0 [3, 2] u W h (by decide) hd w_a1
  have A2 := Lib.hid fun W u (h : YS W u [1]) (hd : DB W) => word_true Z1 2 false 0 [1] u W h (by decide) hd w_a2
  have A3 := Lib.hid fun W (hd : DB W) => word_true Z1 2 true 0 [] _ W (YS.nil W) (by decide) hd w_a3
  have B1 := Lib.hid fun W u (h : YS W u [0, 1, 0]) (hd : DB W) => word_true Z2 2 true 0 [0, 1, 0] u W h (by decide) hd w_b1
  have B2 := Lib.hid fun W u (h : YS W u [0, 0]) (hd : DB W) => word_true Z2 2 false 0 [0, 0] u W h (by decide) hd w_b2
  have B3 := Lib.hid fun W u (h : YS W u [0, 0]) (hd : DB W) => word_true Z3 3 false 0 [0, 0] u W h (by decide) hd w_b3
  have B4 := Lib.hid fun W (hd : DB W) => word_true Z3 3 true 0 [] _ W (YS.nil W) (by decide) hd w_b4
  have C1 := Lib.hid fun W u (h : YS W u [4]) (hd : DB W) => word_true Z1 2 false 1 [4] u W h (by decide) hd w_c1
  have C2 := Lib.hid fun W (hd : DB W) => word_true Z1 1 false 7 [] _ W (YS.nil W) (by decide) hd w_c2
  have P4 := Lib.hid fun W => (show Calls Tryd.prog 88 #[.string Z4] W (RetMO W F4) from by have q := parsed_any Z4 W; rw [p_4] at q; exact q)
  obtain ⟨G, hG⟩ : ∃ G, G = (parseS (bts Z5)).1 := ⟨_, rfl⟩
  have P5 := Lib.hid fun W => (show Calls Tryd.prog 88 #[.string Z5] W (RetMO W G) from by have q := parsed_any Z5 W; rw [← hG] at q; exact q)
  have T1 := Lib.hid fun v u W (h : MS W v F4) (h2 : TS W u LA) (hd : DB W) => (show Calls Tryd.prog 85 #[v, .int .i64 2, u] W fun e w' => e = .returned (.tuple #[.bool true, .int .i64 0]) ∧ Below W.heap.size W w' from by have q := MTree_any F4 v u 2 LA W h h2 hd; rw [t_a] at q; exact q)
  have T2 := Lib.hid fun v u W (h : MS W v F4) (h2 : TS W u LB) (hd : DB W) => (show Calls Tryd.prog 85 #[v, .int .i64 2, u] W fun e w' => e = .returned (.tuple #[.bool false, .int .i64 0]) ∧ Below W.heap.size W w' from by have q := MTree_any F4 v u 2 LB W h h2 hd; rw [t_b] at q; exact q)
  have c3 := c_3; have c64 := c_64; have w16 := w_16
  rw [← hG] at c3 c64 w16
  have S3 := Lib.hid fun v W (h : MS W v G) => (show Calls Tryd.prog 81 #[v, .int .i64 3] W fun e w' => e = .returned (.tuple #[.int .i64 33, .int .i64 0]) ∧ Below W.heap.size W w' from by have q := Cost_any G v 3 W h; rw [c3] at q; exact q)
  have S64 := Lib.hid fun v W (h : MS W v G) => (show Calls Tryd.prog 81 #[v, .int .i64 64] W fun e w' => e = .returned (.tuple #[.int .i64 1073741824, .int .i64 0]) ∧ Below W.heap.size W w' from by have q := Cost_any G v 64 W h; rw [c64] at q; exact q)
  have W16 := Lib.hid fun v u W (h : MS W v G) (h2 : YS W u [0, 0, 0, 0, 0, 0, 0, 0, 0, 0, 0, 0, 0, 0, 0, 0]) (hd : DB W) => (show Calls Tryd.prog 79 #[v, .int .i64 2, u] W fun e w' => e = .returned (.tuple #[.bool false, .int .i64 10]) ∧ Below W.heap.size W w' from by have q := Word_any G v u 2 _ W h h2 (by decide) hd; rw [w16] at q; exact q)
  clear c3 c64 w16 hG
  go_enter Tryd.func25, Tryd.ntmps25
  go_upto_region 14 with (first
    | (go_at_call 87; (with_reducible refine (A1.out _ _ ?_ (HDB.out.below (B := w.heap.size) (by have h1 := HB.out; have h2 := h1.size; go_grown) (Nat.le_refl _))).mono ?_); (exact YS.litL [3, 2] (by decide) (Row.new _ _ _)); rintro e wx ⟨rfl, hb⟩; replace HB := Lib.hid (chain16 (Nat.le_refl _) HB.out (by go_grown) hb); clear hb)
    | (go_at_call 87; (with_reducible refine (A2.out _ _ ?_ (HDB.out.below (B := w.heap.size) (by have h1 := HB.out; have h2 := h1.size; go_grown) (Nat.le_refl _))).mono ?_); (exact YS.litL [1] (by decide) (Row.new _ _ _)); rintro e wx ⟨rfl, hb⟩; replace HB := Lib.hid (chain16 (Nat.le_refl _) HB.out (by go_grown) hb); clear hb)
    | (go_at_call 87; (with_reducible refine (A3.out _ (HDB.out.below (B := w.heap.size) (by have h1 := HB.out; have h2 := h1.size; go_grown) (Nat.le_refl _))).mono ?_); rintro e wx ⟨rfl, hb⟩; replace HB := Lib.hid (chain16 (Nat.le_refl _) HB.out (by go_grown) hb); clear hb)
    | (go_at_call 87; (with_reducible refine (B1.out _ _ ?_ (HDB.out.below (B := w.heap.size) (by have h1 := HB.out; have h2 := h1.size; go_grown) (Nat.le_refl _))).mono ?_); (exact YS.litL [0, 1, 0] (by decide) (Row.new _ _ _)); rintro e wx ⟨rfl, hb⟩; replace HB := Lib.hid (chain16 (Nat.le_refl _) HB.out (by go_grown) hb); clear hb)
    | (go_at_call 87; (with_reducible refine (B2.out _ _ ?_ (HDB.out.below (B := w.heap.size) (by have h1 := HB.out; have h2 := h1.size; go_grown) (Nat.le_refl _))).mono ?_); (exact YS.litL [0, 0] (by decide) (Row.new _ _ _)); rintro e wx ⟨rfl, hb⟩; replace HB := Lib.hid (chain16 (Nat.le_refl _) HB.out (by go_grown) hb); clear hb)
    | (go_at_call 87; (with_reducible refine (B3.out _ _ ?_ (HDB.out.below (B := w.heap.size) (by have h1 := HB.out; have h2 := h1.size; go_grown) (Nat.le_refl _))).mono ?_); (exact YS.litL [0, 0] (by decide) (Row.new _ _ _)); rintro e wx ⟨rfl, hb⟩; replace HB := Lib.hid (chain16 (Nat.le_refl _) HB.out (by go_grown) hb); clear hb)
    | (go_at_call 87; (with_reducible refine (B4.out _ (HDB.out.below (B := w.heap.size) (by have h1 := HB.out; have h2 := h1.size; go_grown) (Nat.le_refl _))).mono ?_); rintro e wx ⟨rfl, hb⟩; replace HB := Lib.hid (chain16 (Nat.le_refl _) HB.out (by go_grown) hb); clear hb)
    | (go_at_call 88; (with_reducible refine (P4.out _).mono ?_); rintro e wf ⟨vf, rfl, hb, ho⟩; have HF := Lib.hid ho.ms; clear ho; have HBF : Hid (Below wf.heap.size wf wf) := Below.refl _ _; replace HB := Lib.hid (chain16 (Nat.le_refl _) HB.out (by go_grown) hb); clear hb)
    | (go_at_call 88; (with_reducible refine (P5.out _).mono ?_); rintro e wg ⟨vg, rfl, hb, ho⟩; have HG := Lib.hid ho.ms; clear ho; replace HB := Lib.hid (chain16 (Nat.le_refl _) HB.out (by go_grown) hb); clear hb)
    | (go_at_call 85; (with_reducible refine (T1.out _ _ _ (HF.out.below (B := wf.heap.size) (by have h1 := HBF.out; have h2 := h1.size; go_grown) (Nat.le_refl _)) ?_ (HDB.out.below (B := w.heap.size) (by have h1 := HB.out; have h2 := h1.size; go_grown) (Nat.le_refl _))).mono ?_); (exact TS.litL LA (by decide) (by simp [LbOk]) (Row.new _ _ _)); rintro e wx ⟨rfl, hb⟩; replace HBF := Lib.hid (chain16 (Nat.le_refl _) HBF.out (by go_grown) hb); replace HB := Lib.hid (chain16 (Nat.le_refl _) HB.out (by go_grown) hb); clear hb)
    | (go_at_call 85; (with_reducible refine (T2.out _ _ _ (HF.out.below (B := wf.heap.size) (by have h1 := HBF.out; have h2 := h1.size; go_grown) (Nat.le_refl _)) ?_ (HDB.out.below (B := w.heap.size) (by have h1 := HB.out; have h2 := h1.size; go_grown) (Nat.le_refl _))).mono ?_); (exact TS.litL LB (by decide) (by simp [LbOk]) (Row.new _ _ _)); rintro e wx ⟨rfl, hb⟩; replace HB := Lib.hid (chain16 (Nat.le_refl _) HB.out (by go_grown) hb); clear hb)
    | (go_at_call 81; (with_reducible refine (S3.out _ _ HG.out).mono ?_); rintro e wx ⟨rfl, hb⟩; replace HB := Lib.hid (chain16 (Nat.le_refl _) HB.out (by go_grown) hb); clear hb)
    | (go_at_call 81; (with_reducible refine (S64.out _ _ HG.out).mono ?_); rintro e wx ⟨rfl, hb⟩; replace HB := Lib.hid (chain16 (Nat.le_refl _) HB.out (by go_grown) hb); clear hb))
  refine wp_abs (fun W => Below w.heap.size w W) HB.out ?_
  clear HB
  rintro W hb0
  have HB := Lib.hid hb0; clear hb0
  have hmk := mk16
  first
  | go_region_law (first
      | (go_simp; go_at_call 88; refine (P5.out _).mono ?_; rintro e wp ⟨vp, rfl, hbp, hop⟩; have HP := Lib.hid hop.ms; have HBP := Lib.hid hbp; have HBW := Lib.hid (chain16 (Nat.le_refl _) HB.out (by go_grown) hbp); clear hop hbp; try go_simp)
      | (go_simp; go_at_call 79; (refine (W16.out vp _ _ ?_ ?_ ?_).mono ?_); (first | exact HP.out | exact HP.out.below (B := wp.heap.size) (by go_grown) (Nat.le_refl _)); (first | exact YS.litL [0, 0, 0, 0, 0, 0, 0, 0, 0, 0, 0, 0, 0, 0, 0, 0] (by decide) (Row.new _ _ _) | exact YS.litL [0, 0, 0, 0, 0, 0, 0, 0, 0, 0, 0, 0, 0, 0, 0, 0] (by decide) (Row.litd (by simp)) | exact YS.litL [0, 0, 0, 0, 0, 0, 0, 0, 0, 0, 0, 0, 0, 0, 0, 0] (by decide) ((Row.new _ _ _).below HBP.out (by simp only [World.size_alloc]; omega)) | exact YS.litL [0, 0, 0, 0, 0, 0, 0, 0, 0, 0, 0, 0, 0, 0, 0, 0] (by decide) ((Row.new _ _ _).drew.below HBP.out (by simp only [World.size_alloc, World.size_drew]; omega))); (exact HDB.out.below (HBW.out.trans (Below.mono (B := wp.heap.size) (by go_grown) HBW.out.size)) (Nat.le_refl _)); rintro e wq ⟨rfl, hbq⟩; have HBQ := Lib.hid (chain16 (Nat.le_refl _) HBW.out (by go_grown) hbq); clear hbq; try go_simp))
  | fail
  all_goals
    have HB := HBQ
    clear HBQ
    go_wp2_with (first
      | (go_at_call 87; (with_reducible refine (C1.out _ _ ?_ (HDB.out.below (B := w.heap.size) (by have h1 := HB.out; have h2 := h1.size; go_grown) (Nat.le_refl _))).mono ?_); (exact YS.litL [4] (by decide) (Row.new _ _ _)); rintro e wx ⟨rfl, hb⟩; replace HB := Lib.hid (chain16 (Nat.le_refl _) HB.out (by go_grown) hb); clear hb)
      | (go_at_call 87; (with_reducible refine (C2.out _ (HDB.out.below (B := w.heap.size) (by have h1 := HB.out; have h2 := h1.size; go_grown) (Nat.le_refl _))).mono ?_); rintro e wx ⟨rfl, hb⟩; replace HB := Lib.hid (chain16 (Nat.le_refl _) HB.out (by go_grown) hb); clear hb))
    go_returns
    exact ⟨rfl, HB.out⟩
end Go.Proofs.YtgeklibilgfjbaaDoor

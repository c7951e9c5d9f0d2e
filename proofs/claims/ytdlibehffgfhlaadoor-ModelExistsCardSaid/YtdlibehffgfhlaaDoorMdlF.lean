/- Contracts: Word, Tree and Cost of the package model. -/
import Derived.Test.YtdlibehffgfhlaaDoorMdlE
import Derived.Test.YtdlibehffgfhlaaDoorTrB
import Derived.Test.YtdlibehffgfhlaaDoorChk
import Derived.Test.YtdlibehffgfhlaaDoorLaw
set_option linter.unusedSimpArgs false
set_option linter.unusedVariables false
namespace Go.Proofs.YtdlibehffgfhlaaDoor
open Go.RowKit

theorem ret_fst {R : Bool × Int} {b : Bool} {k : Int} (h : R = (b, k)) : Ending.returned (.tuple #[.bool b, .int .i64 k]) = Ending.returned (.tuple #[.bool R.1, .int .i64 R.2]) := by rw [h]
theorem badL_at (V x : Nat) : badL (V : Int) x = ((x : Int) / 2 ^ V != 0) := by
  rw [Bool.eq_iff_iff]; simp [badL]
theorem check_vars {f : List Mk} {vars : Int} {trees : Bool} (h : checkS f vars trees = 0) : 0 ≤ vars ∧ vars ≤ 6 := by
  unfold checkS at h
  by_cases hr : vars < 0 ∨ (if trees then (3 : Int) else 6) < vars
  · rw [if_pos hr] at h; omega
  · cases trees
    · simp only [Bool.false_eq_true, if_false] at hr; omega
    · simp only [if_true] at hr; omega

set_option maxRecDepth 100000 in
set_option maxHeartbeats 2000000 in
theorem Word_any (f : List Mk) (v u : Value) (vars : Int) (l : List Nat) (w : World) (hv : MS w v f) (hu : YS w u l) (h256 : ∀ x ∈ l, x < 256) (hdb : DB w) :
    Calls Tryd.prog 22 #[v, .int .i64 vars, u] w fun e w' => e = .returned (.tuple #[.bool (wordS f vars l).1, .int .i64 (wordS f vars l).2]) ∧ Below w.heap.size w w' := by
  have HV := Lib.hid hv; have HU := Lib.hid hu; have HDB := Lib.hid hdb; have H256 := Lib.hid h256
  obtain ⟨_, Af, cf, rfl, hcf, hcf2, _⟩ := hv
  obtain ⟨Au, cu, rfl, hcu, hcu2, hcell⟩ := hu
  obtain ⟨R, hR⟩ : ∃ R, R = wordS f vars l := ⟨_, rfl⟩
  rw [← hR]
  unfold wordS at hR
  obtain ⟨K, hK⟩ : ∃ K, K = checkS f vars false := ⟨_, rfl⟩
  have hCK := fun W (hW : MS W (.slice Af f.length cf) f) => Check_any f _ vars false W hW
  rw [← hK] at hR hCK
  have hform : K = 0 → formedS f = true ∧ 0 ≤ vars ∧ vars ≤ 6 := fun h => by rw [hK] at h; exact ⟨check_formed_of h, check_vars h⟩
  obtain ⟨n, hn⟩ : ∃ n, n = l.length := ⟨_, rfl⟩
  rw [← hn] at hcu hcell HU hR ⊢
  have HCK := Lib.hid hCK; have HF := Lib.hid hform; have HN := Lib.hid hn; have HR := Lib.hid hR; have HC2 := Lib.hid hcell
  clear hR hK hCK hform hn hcell h256 hdb
  by_cases hk0 : K = 0
  · subst hk0
    obtain ⟨hf, hv0, hv6⟩ := HF.out rfl
    have HFO := Lib.hid hf; clear hf
    have hR2 : R = if 64 < n then (false, 4) else if l.any (badL vars) then (false, 1) else evalS (stcWord n) f l := by rw [HR.out]; rfl
    replace HR := Lib.hid hR2; clear hR2
    by_cases h64 : 64 < n
    · have HRR : Hid (R = (false, 4)) := by rw [Hid, HR.out, if_pos h64]
      go_enter Tryd.func22, Tryd.ntmps22
      go_wp2_with (go_at_call 42; go_must ((with_reducible refine (HCK.out _ HV.out).mono ?_); rintro e w1 ⟨rfl, hb1⟩; have HB := Lib.hid hb1; clear hb1))
      go_returns
      exact ⟨ret_fst HRR.out, HB.out⟩
    have hR2 : R = if l.any (badL vars) then (false, 1) else evalS (stcWord n) f l := by rw [HR.out, if_neg h64]
    replace HR := Lib.hid hR2; clear hR2
    obtain ⟨V, rfl⟩ : ∃ V : Nat, vars = V := ⟨vars.toNat, by omega⟩
    go_enter Tryd.func22, Tryd.ntmps22
    go_wp2_with (go_at_call 42; go_must ((with_reducible refine (HCK.out _ HV.out).mono ?_); rintro e w1 ⟨rfl, hb1⟩; have HB := Lib.hid hb1; clear hb1))
    go_loopg [22] n (fun gk v wr => ∃ k : Nat, k ≤ n ∧ gk = n - k ∧ v = .int .i64 k ∧ Below w.heap.size w wr ∧ (l.take k).any (badL V) = false)
    case atStart => exact ⟨0, Nat.zero_le _, rfl, rfl, HB.out, by simp⟩
    case round =>
      obtain ⟨k, hk, rfl, rfl, hbe, hacc⟩ := hrel
      replace HB := Lib.hid hbe; have HA := Lib.hid hacc; clear hbe hacc
      by_cases hlt : k < n
      · obtain ⟨x, hx⟩ : ∃ x, l[k]? = some x := ⟨l[k]'(by rw [← HN.out]; exact hlt), List.getElem?_eq_getElem _⟩
        have hx256 := bytes_at H256.out hx
        obtain ⟨b, o, rfl, hb, hcell⟩ := HC2.out (by omega)
        have c0 : wr.cell? ⟨b, o + k, none⟩ = some (.int .u8 x) := (HB.out.cell (p := ⟨b, _, none⟩) hb).trans (hcell k x hx)
        have hbl := badL_at V x
        have hsn := any_take_snoc (badL V) hx
        have hat := any_of_at (badL V) hx
        rw [hbl] at hsn hat
        have HS := Lib.hid hsn; have HAT := Lib.hid hat
        clear hcell hx hbl hsn hat
        cases hbb : ((x : Int) / 2 ^ V != 0)
        · go_wp2
          go_roundg (n - (k + 1))
          case rel => exact ⟨k + 1, by omega, rfl, by go_num, HB.out, by rw [HS.out, HA.out, hbb]; rfl⟩
          case measure => omega
        · have HRR : Hid (R = (false, 1)) := by rw [Hid, HR.out, if_pos (HAT.out hbb)]
          go_wp2
          go_returns
          exact ⟨ret_fst HRR.out, HB.out⟩
      · have hkn : k = n := by omega
        have hall : l.any (badL V) = false := by
          have := HA.out
          rw [hkn, List.take_of_length_le (by rw [← HN.out]; exact Nat.le_refl _)] at this
          exact this
        have HRR : Hid (R = evalS (stcWord n) f l) := by rw [Hid, HR.out, hall]; rfl
        clear hkn hall
        go_wp2_with (go_at_call 61; go_must ((with_reducible refine (evaluate_W n (by omega) f _ _ l _ (HV.out.below HB.out (Nat.le_refl _)) HFO.out (HU.out.below HB.out (Nat.le_refl _)) H256.out HN.out.symm (HDB.out.below HB.out (Nat.le_refl _))).mono ?_); rintro e w2 ⟨he, hb2⟩; obtain rfl : e = .returned (.tuple #[.bool R.1, .int .i64 R.2]) := he.trans (by rw [HRR.out]); replace HB := Lib.hid (HB.out.trans (hb2.mono HB.out.size)); clear hb2 he))
        go_returns
        exact ⟨rfl, HB.out⟩
  · have HRR : Hid (R = (false, K)) := by rw [Hid, HR.out, if_pos hk0]
    have hk0' : (K != 0) = true := by simp [hk0]
    go_enter Tryd.func22, Tryd.ntmps22
    go_wp2_with (go_at_call 42; go_must ((with_reducible refine (HCK.out _ HV.out).mono ?_); rintro e w1 ⟨rfl, hb1⟩; have HB := Lib.hid hb1; clear hb1))
    go_returns
    exact ⟨ret_fst HRR.out, HB.out⟩

set_option maxRecDepth 100000 in
set_option maxHeartbeats 2000000 in
theorem MTree_any (f : List Mk) (v u : Value) (vars : Int) (t : List Lf) (w : World) (hv : MS w v f) (hu : TS w u t) (hdb : DB w) :
    Calls Tryd.prog 30 #[v, .int .i64 vars, u] w fun e w' => e = .returned (.tuple #[.bool (modelTreeS f vars t).1, .int .i64 (modelTreeS f vars t).2]) ∧ Below w.heap.size w w' := by
  have HV := Lib.hid hv; have HU := Lib.hid hu; have HDB := Lib.hid hdb
  obtain ⟨_, Af, cf, rfl, hcf, hcf2, _⟩ := hv
  obtain ⟨hop, Au, cu, rfl, hcu, hcu2, hcell⟩ := hu
  obtain ⟨R, hR⟩ : ∃ R, R = modelTreeS f vars t := ⟨_, rfl⟩
  rw [← hR]
  unfold modelTreeS at hR
  obtain ⟨K, hK⟩ : ∃ K, K = checkS f vars true := ⟨_, rfl⟩
  obtain ⟨J, hJ⟩ : ∃ J, J = checkT t vars := ⟨_, rfl⟩
  have hCK := fun W (hW : MS W (.slice Af f.length cf) f) => Check_any f _ vars true W hW
  have hCT := fun W (hW : TS W (.slice Au t.length cu) t) => TreeCheck_any t _ vars W hW
  rw [← hK, ← hJ] at hR
  rw [← hK] at hCK
  rw [← hJ] at hCT
  have hform : K = 0 → formedS f = true := fun h => by rw [hK] at h; exact check_formed_of h
  have htree : J = 0 → t.length ≤ 31 ∧ KidsOk t ∧ (∀ x ∈ t, x.label < 256) := fun h => by
    rw [hJ] at h
    unfold checkT at h
    by_cases a1 : vars < 0 ∨ 3 < vars
    · rw [if_pos a1] at h; omega
    · by_cases a2 : 31 < t.length
      · rw [if_neg a1, if_pos a2] at h; omega
      · by_cases a3 : t.any (badLabel vars) = true
        · rw [if_neg a1, if_neg a2, if_pos a3] at h; omega
        · by_cases a4 : formedT t = true
          · exact ⟨by omega, kids_ok a4, fun x hx => by have := (hop x hx).2; omega⟩
          · rw [if_neg a1, if_neg a2, if_neg a3, if_neg a4] at h; omega
  obtain ⟨n, hn⟩ : ∃ n, n = t.length := ⟨_, rfl⟩
  rw [← hn] at hcu hcell HU htree hCT ⊢
  have HCK := Lib.hid hCK; have HCT := Lib.hid hCT; have HF := Lib.hid hform; have HTR := Lib.hid htree; have HN := Lib.hid hn; have HR := Lib.hid hR; have HC2 := Lib.hid hcell; have HOP := Lib.hid hop
  clear hR hK hJ hCK hCT hform htree hn hcell hop hdb
  by_cases hk0 : K = 0
  · subst hk0
    have HFO := Lib.hid (HF.out rfl)
    by_cases hj0 : J = 0
    · subst hj0
      obtain ⟨h31, hkids, hlab⟩ := HTR.out rfl
      have HRR : Hid (R = evalS (stcTree t) f (labelsS t)) := by rw [Hid, HR.out]; rfl
      have HK := Lib.hid hkids; have HLB := Lib.hid hlab; clear hkids hlab
      go_enter Tryd.func30, Tryd.ntmps30
      go_wp2_with (first
        | (go_at_call 42; go_must ((with_reducible refine (HCK.out _ HV.out).mono ?_); rintro e w1 ⟨rfl, hb1⟩; have HB := Lib.hid hb1; clear hb1))
        | (go_at_call 35; go_must ((with_reducible refine (HCT.out _ (HU.out.below HB.out (Nat.le_refl _))).mono ?_); rintro e w1 ⟨rfl, hb1⟩; replace HB := Lib.hid (HB.out.trans (hb1.mono HB.out.size)); clear hb1)))
      go_loopg [10, 27] n (fun gk q v wr => ∃ k : Nat, k ≤ n ∧ gk = n - k ∧ v = .int .i64 k ∧ Below w.heap.size w wr ∧ YO wr w.heap.size q (labelsS (t.take k)))
      case atStart => exact ⟨0, Nat.zero_le _, rfl, rfl, HB.out, YO.nil _ _⟩
      case round =>
        obtain ⟨k, hk, rfl, rfl, hbe, hown⟩ := hrel
        replace HB := Lib.hid hbe; have HO := Lib.hid hown; clear hbe hown
        by_cases hlt : k < n
        · obtain ⟨x, hx⟩ : ∃ x, t[k]? = some x := ⟨t[k]'(by rw [← HN.out]; exact hlt), List.getElem?_eq_getElem _⟩
          obtain ⟨b, o, rfl, hb, hcell⟩ := HC2.out (by omega)
          obtain ⟨c0, c1, c2⟩ := hcell k x hx
          rw [← HB.out.cell (p := ⟨b, _, none⟩) hb] at c0 c1 c2
          have hlx := HOP.out x (List.mem_of_getElem? hx)
          have hb' : b < wr.heap.size := by have := HB.out.size; omega
          have htk : Hid (labelsS (t.take (k + 1)) = labelsS (t.take k) ++ [x.label.toNat]) := by
            rw [Hid, List.take_add_one, hx]; simp [labelsS]
          obtain ⟨lb, l, r⟩ := x
          simp only at c0 c1 c2 htk hlx
          obtain ⟨m, rfl⟩ : ∃ m : Nat, lb = m := ⟨lb.toNat, by omega⟩
          simp only [Int.toNat_natCast] at htk
          have hll : (labelsS (t.take k)).length ≤ 100 := by simp [labelsS]; omega
          clear hcell hx
          go_wp2_with (at_builtin; go_must (refine wpList_append_ys rfl (.tmp 31) (.tmp 34) rfl w.heap.size u10 (labelsS (t.take k)) rfl (HO.out.below (B' := wr.heap.size) (by go_grown) (Nat.le_refl _)) _ [m] rfl (YS.lit 1 1 #[.int .u8 m] (by first | exact Row.new _ _ _ | exact Row.lit (by simp only [World.size_alloc])) rfl (by omega) (by omega) (by intro i y hy; cases i with | zero => (simp at hy; subst hy; rfl) | succ i => simp at hy)) (by simp only [List.length_cons, List.length_nil]; omega) (by have := HB.out.size; simp only [World.size_alloc]; omega) ?_; intro v3 w3 ho3 hg3 _))
          have HB3 := Lib.hid (own_below_y (w := w) (by have h1 := HB.out; have h2 := h1.size; go_grown) (HO.out.below (B' := wr.heap.size) (by go_grown) (Nat.le_refl _)) hg3 (by have := HB.out.size; simp only [World.size_alloc]; omega))
          rw [← htk.out] at ho3
          have HO3 := Lib.hid ho3; clear ho3 hg3
          go_wp2
          go_roundg (n - (k + 1))
          case rel => exact ⟨k + 1, by omega, rfl, by go_num, HB3.out, HO3.out⟩
          case measure => omega
        · have hkn : k = n := by omega
          have ho := HO.out
          rw [hkn, List.take_of_length_le (by rw [← HN.out]; exact Nat.le_refl _)] at ho
          have HY := Lib.hid ho.ys
          have hl256 : Hid (∀ x ∈ labelsS t, x < 256) := fun x hx => by
            simp only [labelsS, List.mem_map] at hx
            obtain ⟨y, hy, rfl⟩ := hx
            have h1 := (HOP.out y hy); omega
          have hlen : Hid ((labelsS t).length = n) := by rw [Hid, HN.out]; simp [labelsS]
          clear ho hkn
          go_wp2_with (go_at_call 61; go_must ((with_reducible refine (evaluate_T t Au n cu HN.out HK.out (by omega) f _ _ (labelsS t) _ (HV.out.below HB.out (Nat.le_refl _)) HFO.out HY.out hl256.out hlen.out (HDB.out.below HB.out (Nat.le_refl _)) (HU.out.below HB.out (Nat.le_refl _))).mono ?_); rintro e w2 ⟨he, hb2⟩; obtain rfl : e = .returned (.tuple #[.bool R.1, .int .i64 R.2]) := he.trans (by rw [HRR.out]); replace HB := Lib.hid (HB.out.trans (hb2.mono HB.out.size)); clear hb2 he))
          go_returns
          exact ⟨rfl, HB.out⟩
    · have HRR : Hid (R = (false, J)) := by rw [Hid, HR.out]; simp [hj0]
      have hj0' : (J != 0) = true := by simp [hj0]
      go_enter Tryd.func30, Tryd.ntmps30
      go_wp2_with (first
        | (go_at_call 42; go_must ((with_reducible refine (HCK.out _ HV.out).mono ?_); rintro e w1 ⟨rfl, hb1⟩; have HB := Lib.hid hb1; clear hb1))
        | (go_at_call 35; go_must ((with_reducible refine (HCT.out _ (HU.out.below HB.out (Nat.le_refl _))).mono ?_); rintro e w1 ⟨rfl, hb1⟩; replace HB := Lib.hid (HB.out.trans (hb1.mono HB.out.size)); clear hb1)))
      go_returns
      exact ⟨ret_fst HRR.out, HB.out⟩
  · have HRR : Hid (R = (false, K)) := by rw [Hid, HR.out, if_pos hk0]
    have hk0' : (K != 0) = true := by simp [hk0]
    go_enter Tryd.func30, Tryd.ntmps30
    go_wp2_with (go_at_call 42; go_must ((with_reducible refine (HCK.out _ HV.out).mono ?_); rintro e w1 ⟨rfl, hb1⟩; have HB := Lib.hid hb1; clear hb1))
    go_returns
    exact ⟨ret_fst HRR.out, HB.out⟩

theorem ret_cost {R : Int × Int} {b k : Int} (h : R = (b, k)) : Ending.returned (.tuple #[.int .i64 b, .int .i64 k]) = Ending.returned (.tuple #[.int .i64 R.1, .int .i64 R.2]) := by rw [h]
set_option maxRecDepth 100000 in
set_option maxHeartbeats 2000000 in
theorem Cost_any (f : List Mk) (v : Value) (n : Int) (w : World) (hv : MS w v f) :
    Calls Tryd.prog 24 #[v, .int .i64 n] w fun e w' => e = .returned (.tuple #[.int .i64 (modelCostS f n).1, .int .i64 (modelCostS f n).2]) ∧ Below w.heap.size w w' := by
  have HV := Lib.hid hv
  obtain ⟨_, Af, cf, rfl, hcf, hcf2, _⟩ := hv
  obtain ⟨R, hR⟩ : ∃ R, R = modelCostS f n := ⟨_, rfl⟩
  rw [← hR]
  unfold modelCostS at hR
  by_cases hn1 : n < 0
  · have HRR : Hid (R = (0, 1)) := by rw [Hid, hR, if_pos (.inl hn1)]
    clear hR
    go_enter Tryd.func24, Tryd.ntmps24
    go_wp2
    go_returns
    exact ⟨ret_cost HRR.out, Below.refl _ _⟩
  by_cases hn2 : 64 < n
  · have HRR : Hid (R = (0, 1)) := by rw [Hid, hR, if_pos (.inr hn2)]
    clear hR
    go_enter Tryd.func24, Tryd.ntmps24
    go_wp2
    go_returns
    exact ⟨ret_cost HRR.out, Below.refl _ _⟩
  rw [if_neg (by omega)] at hR
  obtain ⟨M, rfl⟩ : ∃ M : Nat, n = M := ⟨n.toNat, by omega⟩
  have hFM := fun W (hW : MS W (.slice Af f.length cf) f) => Format_text f _ W hW
  cases hf : formedS f
  · have HRR : Hid (R = (0, 2)) := by rw [Hid, hR, hf]; rfl
    rw [hf] at hFM
    have HFM : Hid (∀ W, MS W (.slice Af f.length cf) f → Calls Tryd.prog 53 #[.slice Af f.length cf] W fun e w' => (∃ S : ByteArray, e = .returned (.tuple #[.string S, .int .i64 2])) ∧ Below W.heap.size W w') := fun W hW => (hFM W hW).mono fun e w' ⟨he, hb⟩ => ⟨⟨_, he⟩, hb⟩
    clear hR hFM hf
    go_enter Tryd.func24, Tryd.ntmps24
    go_wp2_with (go_at_call 53; go_must ((with_reducible refine (HFM.out _ HV.out).mono ?_); rintro e w1 ⟨⟨S, rfl⟩, hb1⟩; have HB := Lib.hid hb1; clear hb1))
    go_returns
    exact ⟨ret_cost HRR.out, HB.out⟩
  · rw [hf] at hR hFM
    have HFM : Hid (∀ W, MS W (.slice Af f.length cf) f → Calls Tryd.prog 53 #[.slice Af f.length cf] W fun e w' => (∃ S : ByteArray, e = .returned (.tuple #[.string S, .int .i64 0])) ∧ Below W.heap.size W w') := fun W hW => (hFM W hW).mono fun e w' ⟨he, hb⟩ => ⟨⟨_, he⟩, hb⟩
    have hkids := kids_of hf
    have hl := formed_len f hf
    have hce := costS_eq hf M
    unfold costS at hce
    obtain ⟨C, hC⟩ : ∃ C, C = costT M (treeOf f) := ⟨_, rfl⟩
    rw [Int.toNat_natCast, ← hC] at hR
    have HRR : Hid (R = ((C : Int), 0)) := by rw [Hid, hR]; rfl
    rw [← hC] at hce
    have hoc := outc_get f.length (csts M f) (f.length - 1) (by omega) (by rw [csts_len]; exact Nat.le_refl _)
    rw [hce] at hoc
    have HCO := Lib.hid (fun W (hW : MS W (.slice Af f.length cf) f) => costs_any f _ M (by omega) W hW hl.2 hkids)
    obtain ⟨N, hN⟩ : ∃ N, N = f.length := ⟨_, rfl⟩
    rw [← hN] at HV hcf HCO hoc hl HFM ⊢
    have hlast : ((N : Int) - 1).toNat = N - 1 := by omega
    have HOC := Lib.hid hoc
    clear hR hFM hf hkids hce hC hoc hN
    go_enter Tryd.func24, Tryd.ntmps24
    go_wp2_with (first
      | (go_at_call 53; go_must ((with_reducible refine (HFM.out _ HV.out).mono ?_); rintro e w1 ⟨⟨S, rfl⟩, hb1⟩; have HB := Lib.hid hb1; clear hb1))
      | (go_at_call 66; go_must ((with_reducible refine (HCO.out _ (HV.out.below HB.out (Nat.le_refl _))).mono ?_); rintro e w2 ⟨rfl, hb2, hr2⟩; have r1 := hr2.cell (N - 1); rw [HOC.out] at r1; have r2 := hr2.lt; replace HB := Lib.hid (HB.out.trans (hb2.mono HB.out.size)); clear hb2 hr2)))
    go_returns
    exact ⟨ret_cost HRR.out, HB.out⟩
end Go.Proofs.YtdlibehffgfhlaaDoor

/- Contract: evaluate of the package model, for words and for trees. (Printed by gen_model.py.) -/
import Derived.Test.YtgeklibilgfjbaaDoorMdlC
import Derived.Test.YtgeklibilgfjbaaDoorMdlD
import Derived.Test.YtgeklibilgfjbaaDoorByA
set_option linter.unusedSimpArgs false
set_option linter.unusedVariables false
namespace Go.Proofs.YtgeklibilgfjbaaDoor
open Go.RowKit

/-- The six cells of an assignment. -/
def rowf (g : Nat → Nat) : Array Value := #[.int .u64 (g 0), .int .u64 (g 1), .int .u64 (g 2), .int .u64 (g 3), .int .u64 (g 4), .int .u64 (g 5)]
theorem rowf_get (g : Nat → Nat) (j : Nat) (hj : j < 6) : (rowf g)[j]? = some (.int .u64 (g j)) := by
  have : j = 0 ∨ j = 1 ∨ j = 2 ∨ j = 3 ∨ j = 4 ∨ j = 5 := by omega
  rcases this with rfl | rfl | rfl | rfl | rfl | rfl <;> rfl
theorem rowf_set (g : Nat → Nat) (j s : Nat) (hj : j < 6) : (rowf g).setIfInBounds j (.int .u64 s) = rowf (fun v => if v = j then s else g v) := by
  have : j = 0 ∨ j = 1 ∨ j = 2 ∨ j = 3 ∨ j = 4 ∨ j = 5 := by omega
  rcases this with rfl | rfl | rfl | rfl | rfl | rfl <;> rfl
theorem rowf_congr {g h : Nat → Nat} (e : ∀ v, v < 6 → g v = h v) : rowf g = rowf h := by
  unfold rowf
  rw [e 0 (by omega), e 1 (by omega), e 2 (by omega), e 3 (by omega), e 4 (by omega), e 5 (by omega)]
theorem u8_bit (x j : Nat) (hx : x < 256) : bits BinOp.and IntKind.u8 ((x : Int) / 2 ^ j) 1 = ((x / 2 ^ j % 2 : Nat) : Int) := by
  have h1 : x / 2 ^ j < 256 := Nat.lt_of_le_of_lt (Nat.div_le_self _ _) hx
  have h := u8_and_nat (x / 2 ^ j) 1 h1 (by omega)
  have e : ((x / 2 ^ j : Nat) : Int) = (x : Int) / 2 ^ j := by simp [Int.natCast_ediv, Int.natCast_pow]
  rw [e] at h
  refine h.trans ?_
  rw [Nat.and_one_is_mod]
theorem shl_bit (b p : Nat) (hb : b ≤ 1) (hp : p < 64) : IntKind.u64.wrap ((b : Int) * 2 ^ p) = ((b * 2 ^ p : Nat) : Int) := by
  have h1 : 2 ^ p < 18446744073709551616 := Nat.lt_of_lt_of_le (Nat.pow_lt_pow_right (by omega) hp) (by omega)
  have h2 : b * 2 ^ p ≤ 1 * 2 ^ p := Nat.mul_le_mul_right _ hb
  have e : (b : Int) * 2 ^ p = ((b * 2 ^ p : Nat) : Int) := by simp [Int.natCast_pow]
  rw [e, IntKind.wrap_u64]; omega
theorem bytes_at {l : List Nat} (hl : ∀ x ∈ l, x < 256) {k x : Nat} (h : l[k]? = some x) : x < 256 := hl x (List.mem_of_getElem? h)
theorem ret_pair {R : Bool × Int} {b : Bool} {k : Int} (h : R = (b, k)) : Ending.returned (.tuple #[.bool b, .int .i64 k]) = Ending.returned (.tuple #[.bool R.1, .int .i64 R.2]) := by rw [h]
theorem ret_ev (p q : Bool × Int) (h : p = q) : Ending.returned (.tuple #[.bool p.1, .int .i64 p.2]) = Ending.returned (.tuple #[.bool q.1, .int .i64 q.2]) := by rw [h]

set_option maxRecDepth 100000 in
set_option maxHeartbeats 2000000 in
theorem evaluate_W (n : Nat) (hn : n ≤ 64) (f : List Mk) (v u : Value) (l : List Nat) (w : World) (hv : MS w v f) (hf : formedS f = true) (hu : YS w u l) (h256 : ∀ x ∈ l, x < 256) (hln : l.length = n) (hdb : DB w) :
    Calls Tryd.prog 156 #[.iface 174 (.int .i64 n), v, u] w fun e w' => e = .returned (.tuple #[.bool (evalS (stcWord n) f l).1, .int .i64 (evalS (stcWord n) f l).2]) ∧ Below w.heap.size w w' := by
  obtain ⟨h64, ok, hs, he⟩ := treeOf_ok hf
  have hkids := kids_of hf
  have hp1 := (formed_len f hf).1
  have hce := costS_eq hf n
  unfold costS at hce
  have hsg : Sg f 0 (treeOf f) := fun j hj => by rw [Nat.zero_add, ← he]
  have HV := Lib.hid hv; have HU := Lib.hid hu; have HDB := Lib.hid hdb
  obtain ⟨_, Af, cf, rfl, hcf, hcf2, _⟩ := hv
  obtain ⟨Au, cu, rfl, hcu, hcu2, hcell⟩ := hu
  rw [hln] at HU hcu hcell ⊢
  obtain ⟨T, hT⟩ : ∃ T, T = treeOf f := ⟨_, rfl⟩
  have hco := costT_bd n T
  obtain ⟨C, hC⟩ : ∃ C, C = costT n T := ⟨_, rfl⟩
  obtain ⟨R, hR⟩ : ∃ R, R = evalS (stcWord n) f l := ⟨_, rfl⟩
  rw [← hR]
  rw [← hC] at hco
  have hR2 : R = if 65536 < C then (false, 10) else (holdsT (stcWord n) T (givenS l), 0) := by rw [hR, evalS, ← hT]; rw [hC]; try rfl
  rw [← hT] at ok hs hsg hce
  rw [← hC] at hce
  obtain ⟨N, hN⟩ : ∃ N, N = f.length := ⟨_, rfl⟩
  have HCO := Lib.hid (fun W (hW : MS W (.slice Af f.length cf) f) => costs_any f _ n (by omega) W hW h64 hkids)
  have hoc := outc_get f.length (csts n f) (f.length - 1) (by omega) (by rw [csts_len]; exact Nat.le_refl _)
  rw [hce] at hoc
  have HHO := Lib.hid (holds_W n hn f (.slice Af f.length cf) h64 T 0 (f.length - 1))
  rw [← hN] at HV hcf HCO hoc HHO hp1 h64 hs ⊢
  have HN := Lib.hid hN; have HR := Lib.hid hR2; have HOK := Lib.hid ok; have HSG := Lib.hid hsg; have HSZ := Lib.hid hs; have HOC := Lib.hid hoc; have HL := Lib.hid hln; have HC2 := Lib.hid hcell; have H256 := Lib.hid h256
  have hc64 : n ≤ 64 := by omega
  have hlast : ((N : Int) - 1).toNat = N - 1 := by omega
  have hlc : ((N - 1 : Nat) : Int) = (N : Int) - 1 := by omega
  clear hN hR hR2 ok hs hsg he hf hkids hce hoc hT hC hcell hln h256 hdb
  have s1 := nil_size_W; have s2 := meth_size_W
  rw [hlc] at HHO
  by_cases hbud : 65536 < C
  · have HRR : Hid (R = (false, 10)) := by rw [Hid, HR.out, if_pos hbud]
    go_enter Tryd.func156, Tryd.ntmps156
    go_wp2_with (first
      | (go_at_call 249; go_must (refine (possize_any n (by omega) _).mono ?_; rintro e w1 ⟨rfl, rfl⟩))
      | (go_at_call 161; go_must ((with_reducible refine (HCO.out _ HV.out).mono ?_); rintro e w1 ⟨rfl, hb1, hr1⟩; have HB1 := Lib.hid hb1; have r1 := hr1.cell (N - 1); rw [HOC.out] at r1; have HR1 := Lib.hid hr1; clear hb1 hr1)))
    go_returns
    exact ⟨ret_pair HRR.out, HB1.out⟩
  · have HRR : Hid (R = (holdsT (stcWord n) T (givenS l), 0)) := by rw [Hid, HR.out, if_neg hbud]
    have hbud' : (C : Int) ≤ 65536 := by omega
    go_enter Tryd.func156, Tryd.ntmps156
    go_wp2_with (first
      | (go_at_call 249; go_must (refine (possize_any n (by omega) _).mono ?_; rintro e w1 ⟨rfl, rfl⟩))
      | (go_at_call 161; go_must ((with_reducible refine (HCO.out _ HV.out).mono ?_); rintro e w1 ⟨rfl, hb1, hr1⟩; have HB1 := Lib.hid hb1; have r1 := hr1.cell (N - 1); rw [HOC.out] at r1; have HR1 := Lib.hid hr1; clear hb1 hr1)))
    go_loopg [26] n (fun gk v wr => ∃ k : Nat, k ≤ n ∧ gk = n - k ∧ v = .int .i64 k ∧ Row wr w1.heap.size 202 (rowf (givenV (l.take k))) ∧ Below w.heap.size w wr)
    case atStart => exact ⟨0, Nat.zero_le _, rfl, rfl, by rw [List.take_zero, rowf_congr (h := fun _ => 0) (fun v _ => by simp [givenV])]; exact Row.new _ _ _, by have h1 := HB1.out; have h2 := h1.size; go_grown⟩
    case round =>
      obtain ⟨k, hk, rfl, rfl, hra, hbe⟩ := hrel
      clear r1 HR1
      have RA := Lib.hid hra; have HB := Lib.hid hbe; clear hra hbe
      by_cases hlt : k < n
      · obtain ⟨x, hx⟩ : ∃ x, l[k]? = some x := ⟨l[k]'(by have := HL.out; omega), List.getElem?_eq_getElem _⟩
        have hx256 := bytes_at H256.out hx
        obtain ⟨bu, ou, rfl, hbu, hcu3⟩ := HC2.out (by have := HL.out; omega)
        have c0 : wr.cell? ⟨bu, ou + k, none⟩ = some (.int .u8 x) := (HB.out.cell (p := ⟨bu, _, none⟩) hbu).trans (hcu3 k x hx)
        have hsn : ∀ v, givenV (l.take (k + 1)) v = givenV (l.take k) v + x / 2 ^ v % 2 * 2 ^ k := fun v => by
          rw [List.take_add_one, hx, Option.toList_some, givenV_snoc, List.length_take, HL.out, Nat.min_eq_left (by omega)]
        have hgl : ∀ v, givenV (l.take k) v < 2 ^ k := fun v => by
          have := givenV_lt (l.take k) v
          rwa [List.length_take, HL.out, Nat.min_eq_left (by omega)] at this
        have HS := Lib.hid hsn; have HG := Lib.hid hgl
        clear hcu3 hx hsn hgl
        obtain ⟨wo, rfl⟩ : ∃ wo : World, wo = wr := ⟨_, rfl⟩
        go_wp2
        go_loopg [31] 6 (fun gk v wr => ∃ (j : Nat) (g : Nat → Nat), j ≤ 6 ∧ gk = 6 - j ∧ v = .int .i64 j ∧ (∀ v, v < 6 → g v = if v < j then givenV (l.take (k + 1)) v else givenV (l.take k) v) ∧ Row wr w1.heap.size 202 (rowf g) ∧ Below w.heap.size w wr)
        case atStart => exact ⟨0, givenV (l.take k), by omega, rfl, rfl, fun v _ => by simp, RA.out, HB.out⟩
        case round =>
          obtain ⟨j, g, hj, rfl, rfl, hg, hra, hbe⟩ := hrel
          have HGG := Lib.hid hg; clear hg
          have RA2 := Lib.hid hra; have HB2 := Lib.hid hbe
          clear hbe c0
          by_cases hlt2 : j < 6
          · have a0 := (hra.cell j).trans (rowf_get g j hlt2)
            have a1 := hra.lt; have a2 := hra.free
            have hgj : g j = givenV (l.take k) j := by have := HGG.out j hlt2; rwa [if_neg (by omega)] at this
            have hgj2 : g j < 2 ^ k := by rw [hgj]; exact HG.out j
            obtain ⟨bt, hbt⟩ : ∃ bt, bt = x / 2 ^ j % 2 := ⟨_, rfl⟩
            have hbt1 : bt ≤ 1 := by omega
            have e1 := u8_bit x j hx256
            rw [← hbt] at e1
            have e2 := shl_bit bt k hbt1 (by omega)
            have hk64 : 2 ^ k < 18446744073709551616 := Nat.lt_of_lt_of_le (Nat.pow_lt_pow_right (by omega) (show k < 64 by omega)) (by omega)
            have hbm : bt * 2 ^ k ≤ 1 * 2 ^ k := Nat.mul_le_mul_right _ hbt1
            have e3 := bits_or_u64_nat (g j) (bt * 2 ^ k) (by omega) (by omega)
            rw [or_bit _ _ _ hgj2] at e3
            have HV2 : Hid (g j + bt * 2 ^ k = givenV (l.take (k + 1)) j) := by rw [Hid, HS.out, hgj, hbt]
            obtain ⟨s, hs⟩ : ∃ s, s = bt * 2 ^ k := ⟨_, rfl⟩
            rw [← hs] at e2 e3 HV2
            have HBT := Lib.hid hbt
            clear hbt hs hgj hgj2 hk64 hbm hra
            go_wp2
            first | go_region | fail
            go_wp2
            go_roundg (6 - (j + 1))
            case rel =>
              have h1 := HB2.out
              have h2 := HB1.out.size
              refine ⟨j + 1, fun v => if v = j then g j + s else g v, by omega, rfl, by go_num, fun v hv => ?_, ?_, by go_grown⟩
              · show (if v = j then g j + s else g v) = _
                by_cases hvj : v = j
                · rw [if_pos hvj, if_pos (by omega), HV2.out, hvj]
                · rw [if_neg hvj, HGG.out v hv]
                  by_cases hv2 : v < j
                  · rw [if_pos hv2, if_pos (by omega)]
                  · rw [if_neg hv2, if_neg (by omega)]
              · rw [← rowf_set g j _ hlt2]
                first | exact RA2.out.set j _ | exact (RA2.out.set j _).drew
            case measure => omega
          · have hj6 : j = 6 := by omega
            have hfin : rowf g = rowf (givenV (l.take (k + 1))) := rowf_congr fun v hv => by rw [HGG.out v hv, if_pos (by omega)]
            rw [hfin] at hra
            replace RA2 := Lib.hid hra
            clear hfin hra
            go_wp2
            go_roundg (n - (k + 1))
            case rel => exact ⟨k + 1, by omega, rfl, by go_num, RA2.out, HB2.out⟩
            case measure => omega
      · have hkn : l.take k = l := by rw [List.take_of_length_le]; have := HL.out; omega
        have hra := RA.out
        rw [hkn] at hra
        have a0 := hra.cell
        have ac0 := a0 0; have ac1 := a0 1; have ac2 := a0 2; have ac3 := a0 3; have ac4 := a0 4; have ac5 := a0 5
        simp only [rowf, List.getElem?_toArray, List.getElem?_cons_zero, List.getElem?_cons_succ] at ac0 ac1 ac2 ac3 ac4 ac5
        have hbd : Hid (∀ u ∈ [givenV l 0, givenV l 1, givenV l 2, givenV l 3, givenV l 4, givenV l 5], u < 2 ^ n) := fun u hu => by
          have h := fun v => givenV_lt l v
          rw [HL.out] at h
          simp only [List.mem_cons, List.not_mem_nil, or_false] at hu
          rcases hu with rfl | rfl | rfl | rfl | rfl | rfl <;> exact h _
        have HRG : Hid (R = (holdsT (stcWord n) T [givenV l 0, givenV l 1, givenV l 2, givenV l 3, givenV l 4, givenV l 5], 0)) := HRR.out
        clear a0 hra hkn
        generalize givenV l 0 = g0 at *
        generalize givenV l 1 = g1 at *
        generalize givenV l 2 = g2 at *
        generalize givenV l 3 = g3 at *
        generalize givenV l 4 = g4 at *
        generalize givenV l 5 = g5 at *
        go_wp2_with (go_at_call 190; go_must ((with_reducible refine (HHO.out g0 g1 g2 g3 g4 g5 _ HOK.out HSG.out (by have := HSZ.out; omega) (HV.out.below HB.out (Nat.le_refl _)) (HDB.out.below HB.out (Nat.le_refl _)) hbd.out).mono ?_); rintro e w2 ⟨rfl, hb2⟩; replace HB := Lib.hid (HB.out.trans (hb2.mono HB.out.size)); clear hb2))
        go_returns
        exact ⟨ret_pair HRG.out, HB.out⟩

set_option maxRecDepth 100000 in
set_option maxHeartbeats 2000000 in
theorem evaluate_T (t : List Lf) (A : Option Addr) (n c : Nat) (hn : n = t.length) (hk : KidsOk t) (hl : n ≤ 31) (f : List Mk) (v u : Value) (l : List Nat) (w : World) (hv : MS w v f) (hf : formedS f = true) (hu : YS w u l) (h256 : ∀ x ∈ l, x < 256) (hln : l.length = n) (hdb : DB w) (htv : TS w (.slice A n c) t) :
    Calls Tryd.prog 156 #[.iface 183 (.slice A n c), v, u] w fun e w' => e = .returned (.tuple #[.bool (evalS (stcTree t) f l).1, .int .i64 (evalS (stcTree t) f l).2]) ∧ Below w.heap.size w w' := by
  obtain ⟨h64, ok, hs, he⟩ := treeOf_ok hf
  have hkids := kids_of hf
  have hp1 := (formed_len f hf).1
  have hce := costS_eq hf n
  unfold costS at hce
  have hsg : Sg f 0 (treeOf f) := fun j hj => by rw [Nat.zero_add, ← he]
  have HV := Lib.hid hv; have HU := Lib.hid hu; have HDB := Lib.hid hdb; have HTV := Lib.hid htv; clear htv
  obtain ⟨_, Af, cf, rfl, hcf, hcf2, _⟩ := hv
  obtain ⟨Au, cu, rfl, hcu, hcu2, hcell⟩ := hu
  rw [hln] at HU hcu hcell ⊢
  obtain ⟨T, hT⟩ : ∃ T, T = treeOf f := ⟨_, rfl⟩
  have hco := costT_bd n T
  obtain ⟨C, hC⟩ : ∃ C, C = costT n T := ⟨_, rfl⟩
  obtain ⟨R, hR⟩ : ∃ R, R = evalS (stcTree t) f l := ⟨_, rfl⟩
  rw [← hR]
  rw [← hC] at hco
  have hR2 : R = if 65536 < C then (false, 10) else (holdsT (stcTree t) T (givenS l), 0) := by rw [hR, evalS, ← hT]; have e0 : (stcTree t).n = n := hn.symm; rw [e0]; rw [hC]; try rfl
  rw [← hT] at ok hs hsg hce
  rw [← hC] at hce
  obtain ⟨N, hN⟩ : ∃ N, N = f.length := ⟨_, rfl⟩
  have HCO := Lib.hid (fun W (hW : MS W (.slice Af f.length cf) f) => costs_any f _ n (by omega) W hW h64 hkids)
  have hoc := outc_get f.length (csts n f) (f.length - 1) (by omega) (by rw [csts_len]; exact Nat.le_refl _)
  rw [hce] at hoc
  have HHO := Lib.hid (holds_T t A n c hn hk hl f (.slice Af f.length cf) h64 T 0 (f.length - 1))
  rw [← hN] at HV hcf HCO hoc HHO hp1 h64 hs ⊢
  have HN := Lib.hid hN; have HR := Lib.hid hR2; have HOK := Lib.hid ok; have HSG := Lib.hid hsg; have HSZ := Lib.hid hs; have HOC := Lib.hid hoc; have HL := Lib.hid hln; have HC2 := Lib.hid hcell; have H256 := Lib.hid h256
  have hc64 : n ≤ 64 := by omega
  have hlast : ((N : Int) - 1).toNat = N - 1 := by omega
  have hlc : ((N - 1 : Nat) : Int) = (N : Int) - 1 := by omega
  clear hN hR hR2 ok hs hsg he hf hkids hce hoc hT hC hcell hln h256 hdb
  have HNT := Lib.hid hn; clear hn
  have s1 := nil_size_T; have s2 := meth_size_T
  rw [hlc] at HHO
  by_cases hbud : 65536 < C
  · have HRR : Hid (R = (false, 10)) := by rw [Hid, HR.out, if_pos hbud]
    go_enter Tryd.func156, Tryd.ntmps156
    go_wp2_with (first
      | (go_at_call 251; go_must (refine (nodsize_any A n c _).mono ?_; rintro e w1 ⟨rfl, rfl⟩))
      | (go_at_call 161; go_must ((with_reducible refine (HCO.out _ HV.out).mono ?_); rintro e w1 ⟨rfl, hb1, hr1⟩; have HB1 := Lib.hid hb1; have r1 := hr1.cell (N - 1); rw [HOC.out] at r1; have HR1 := Lib.hid hr1; clear hb1 hr1)))
    go_returns
    exact ⟨ret_pair HRR.out, HB1.out⟩
  · have HRR : Hid (R = (holdsT (stcTree t) T (givenS l), 0)) := by rw [Hid, HR.out, if_neg hbud]
    have hbud' : (C : Int) ≤ 65536 := by omega
    go_enter Tryd.func156, Tryd.ntmps156
    go_wp2_with (first
      | (go_at_call 251; go_must (refine (nodsize_any A n c _).mono ?_; rintro e w1 ⟨rfl, rfl⟩))
      | (go_at_call 161; go_must ((with_reducible refine (HCO.out _ HV.out).mono ?_); rintro e w1 ⟨rfl, hb1, hr1⟩; have HB1 := Lib.hid hb1; have r1 := hr1.cell (N - 1); rw [HOC.out] at r1; have HR1 := Lib.hid hr1; clear hb1 hr1)))
    go_loopg [26] n (fun gk v wr => ∃ k : Nat, k ≤ n ∧ gk = n - k ∧ v = .int .i64 k ∧ Row wr w1.heap.size 202 (rowf (givenV (l.take k))) ∧ Below w.heap.size w wr)
    case atStart => exact ⟨0, Nat.zero_le _, rfl, rfl, by rw [List.take_zero, rowf_congr (h := fun _ => 0) (fun v _ => by simp [givenV])]; exact Row.new _ _ _, by have h1 := HB1.out; have h2 := h1.size; go_grown⟩
    case round =>
      obtain ⟨k, hk, rfl, rfl, hra, hbe⟩ := hrel
      clear r1 HR1
      have RA := Lib.hid hra; have HB := Lib.hid hbe; clear hra hbe
      by_cases hlt : k < n
      · obtain ⟨x, hx⟩ : ∃ x, l[k]? = some x := ⟨l[k]'(by have := HL.out; omega), List.getElem?_eq_getElem _⟩
        have hx256 := bytes_at H256.out hx
        obtain ⟨bu, ou, rfl, hbu, hcu3⟩ := HC2.out (by have := HL.out; omega)
        have c0 : wr.cell? ⟨bu, ou + k, none⟩ = some (.int .u8 x) := (HB.out.cell (p := ⟨bu, _, none⟩) hbu).trans (hcu3 k x hx)
        have hsn : ∀ v, givenV (l.take (k + 1)) v = givenV (l.take k) v + x / 2 ^ v % 2 * 2 ^ k := fun v => by
          rw [List.take_add_one, hx, Option.toList_some, givenV_snoc, List.length_take, HL.out, Nat.min_eq_left (by omega)]
        have hgl : ∀ v, givenV (l.take k) v < 2 ^ k := fun v => by
          have := givenV_lt (l.take k) v
          rwa [List.length_take, HL.out, Nat.min_eq_left (by omega)] at this
        have HS := Lib.hid hsn; have HG := Lib.hid hgl
        clear hcu3 hx hsn hgl
        obtain ⟨wo, rfl⟩ : ∃ wo : World, wo = wr := ⟨_, rfl⟩
        go_wp2
        go_loopg [31] 6 (fun gk v wr => ∃ (j : Nat) (g : Nat → Nat), j ≤ 6 ∧ gk = 6 - j ∧ v = .int .i64 j ∧ (∀ v, v < 6 → g v = if v < j then givenV (l.take (k + 1)) v else givenV (l.take k) v) ∧ Row wr w1.heap.size 202 (rowf g) ∧ Below w.heap.size w wr)
        case atStart => exact ⟨0, givenV (l.take k), by omega, rfl, rfl, fun v _ => by simp, RA.out, HB.out⟩
        case round =>
          obtain ⟨j, g, hj, rfl, rfl, hg, hra, hbe⟩ := hrel
          have HGG := Lib.hid hg; clear hg
          have RA2 := Lib.hid hra; have HB2 := Lib.hid hbe
          clear hbe c0
          by_cases hlt2 : j < 6
          · have a0 := (hra.cell j).trans (rowf_get g j hlt2)
            have a1 := hra.lt; have a2 := hra.free
            have hgj : g j = givenV (l.take k) j := by have := HGG.out j hlt2; rwa [if_neg (by omega)] at this
            have hgj2 : g j < 2 ^ k := by rw [hgj]; exact HG.out j
            obtain ⟨bt, hbt⟩ : ∃ bt, bt = x / 2 ^ j % 2 := ⟨_, rfl⟩
            have hbt1 : bt ≤ 1 := by omega
            have e1 := u8_bit x j hx256
            rw [← hbt] at e1
            have e2 := shl_bit bt k hbt1 (by omega)
            have hk64 : 2 ^ k < 18446744073709551616 := Nat.lt_of_lt_of_le (Nat.pow_lt_pow_right (by omega) (show k < 64 by omega)) (by omega)
            have hbm : bt * 2 ^ k ≤ 1 * 2 ^ k := Nat.mul_le_mul_right _ hbt1
            have e3 := bits_or_u64_nat (g j) (bt * 2 ^ k) (by omega) (by omega)
            rw [or_bit _ _ _ hgj2] at e3
            have HV2 : Hid (g j + bt * 2 ^ k = givenV (l.take (k + 1)) j) := by rw [Hid, HS.out, hgj, hbt]
            obtain ⟨s, hs⟩ : ∃ s, s = bt * 2 ^ k := ⟨_, rfl⟩
            rw [← hs] at e2 e3 HV2
            have HBT := Lib.hid hbt
            clear hbt hs hgj hgj2 hk64 hbm hra
            go_wp2
            first | go_region | fail
            go_wp2
            go_roundg (6 - (j + 1))
            case rel =>
              have h1 := HB2.out
              have h2 := HB1.out.size
              refine ⟨j + 1, fun v => if v = j then g j + s else g v, by omega, rfl, by go_num, fun v hv => ?_, ?_, by go_grown⟩
              · show (if v = j then g j + s else g v) = _
                by_cases hvj : v = j
                · rw [if_pos hvj, if_pos (by omega), HV2.out, hvj]
                · rw [if_neg hvj, HGG.out v hv]
                  by_cases hv2 : v < j
                  · rw [if_pos hv2, if_pos (by omega)]
                  · rw [if_neg hv2, if_neg (by omega)]
              · rw [← rowf_set g j _ hlt2]
                first | exact RA2.out.set j _ | exact (RA2.out.set j _).drew
            case measure => omega
          · have hj6 : j = 6 := by omega
            have hfin : rowf g = rowf (givenV (l.take (k + 1))) := rowf_congr fun v hv => by rw [HGG.out v hv, if_pos (by omega)]
            rw [hfin] at hra
            replace RA2 := Lib.hid hra
            clear hfin hra
            go_wp2
            go_roundg (n - (k + 1))
            case rel => exact ⟨k + 1, by omega, rfl, by go_num, RA2.out, HB2.out⟩
            case measure => omega
      · have hkn : l.take k = l := by rw [List.take_of_length_le]; have := HL.out; omega
        have hra := RA.out
        rw [hkn] at hra
        have a0 := hra.cell
        have ac0 := a0 0; have ac1 := a0 1; have ac2 := a0 2; have ac3 := a0 3; have ac4 := a0 4; have ac5 := a0 5
        simp only [rowf, List.getElem?_toArray, List.getElem?_cons_zero, List.getElem?_cons_succ] at ac0 ac1 ac2 ac3 ac4 ac5
        have hbd : Hid (∀ u ∈ [givenV l 0, givenV l 1, givenV l 2, givenV l 3, givenV l 4, givenV l 5], u < 2 ^ n) := fun u hu => by
          have h := fun v => givenV_lt l v
          rw [HL.out] at h
          simp only [List.mem_cons, List.not_mem_nil, or_false] at hu
          rcases hu with rfl | rfl | rfl | rfl | rfl | rfl <;> exact h _
        have HRG : Hid (R = (holdsT (stcTree t) T [givenV l 0, givenV l 1, givenV l 2, givenV l 3, givenV l 4, givenV l 5], 0)) := HRR.out
        clear a0 hra hkn
        generalize givenV l 0 = g0 at *
        generalize givenV l 1 = g1 at *
        generalize givenV l 2 = g2 at *
        generalize givenV l 3 = g3 at *
        generalize givenV l 4 = g4 at *
        generalize givenV l 5 = g5 at *
        go_wp2_with (go_at_call 190; go_must ((with_reducible refine (HHO.out g0 g1 g2 g3 g4 g5 _ HOK.out HSG.out (by have := HSZ.out; omega) (HV.out.below HB.out (Nat.le_refl _)) (HDB.out.below HB.out (Nat.le_refl _)) hbd.out (HTV.out.below HB.out (Nat.le_refl _))).mono ?_); rintro e w2 ⟨rfl, hb2⟩; replace HB := Lib.hid (HB.out.trans (hb2.mono HB.out.size)); clear hb2))
        go_returns
        exact ⟨ret_pair HRG.out, HB.out⟩
end Go.Proofs.YtgeklibilgfjbaaDoor

/- Reference of chapter 15: Size, Depth, Join, Subtree, mirror, Mirror. -/
import Derived.Test.YtahimlnddelnbaaDoorRTl
import Derived.Test.YtahimlnddelnbaaDoorRTj
import Derived.Test.YtahimlnddelnbaaDoorLwB
import Derived.Deep.RegionHeld3
set_option linter.unusedSimpArgs false
set_option linter.unusedVariables false
namespace Go.Proofs.YtahimlnddelnbaaDoor
open Go.RowKit

abbrev CRForm (t : List Lf) (q : Bool) : Prop := ∀ W v, TS W v t → Calls Tryd.prog 76 #[v] W fun e w' => e = .returned (.bool q) ∧ W = w'
theorem crform (t : List Lf) : CRForm t (formedT t) := fun W v h => RFormedT_any t v W h
set_option maxRecDepth 100000 in
set_option maxHeartbeats 1000000 in
theorem RSizeT_any (t : List Lf) (v : Value) (w : World) (hv : TS w v t) :
    Calls Tryd.prog 28 #[v] w fun e w' => e = .returned (.int .i64 (sizeS t : Nat)) ∧ Below w.heap.size w w' := by
  have HF := Lib.hid (crform t)
  have hs : sizeS t = if formedT t = false then 0 else t.length := rfl
  have HV := Lib.hid hv
  obtain ⟨A, c, rfl⟩ := hv.form
  obtain ⟨z, hz⟩ : ∃ z, z = sizeS t := ⟨_, rfl⟩
  rw [← hz] at hs ⊢
  obtain ⟨n, hn⟩ : ∃ n, n = t.length := ⟨_, rfl⟩
  rw [← hn] at hs HV ⊢
  clear hv hn hz
  cases hf : formedT t with
  | true =>
    rw [hf] at HF hs
    simp only [Bool.true_eq_false, if_false] at hs
    subst hs
    clear hf
    go_enter Tryd.func28, Tryd.ntmps28
    go_wp2_with (go_at_call 76; (with_reducible refine (HF.out _ _ HV.out).mono ?_); rintro e w1 ⟨rfl, rfl⟩)
    go_returns
    exact ⟨rfl, Below.refl _ _⟩
  | false =>
    rw [hf] at HF hs
    simp only [if_true] at hs
    subst hs
    clear hf
    go_enter Tryd.func28, Tryd.ntmps28
    go_wp2_with (go_at_call 76; (with_reducible refine (HF.out _ _ HV.out).mono ?_); rintro e w1 ⟨rfl, rfl⟩)
    go_returns
    exact ⟨rfl, Below.refl _ _⟩
theorem bt_depth_le' (b : Bt) : b.depth ≤ b.size := by
  induction b with
  | nil => simp [Bt.depth, Bt.size]
  | node lab l r ihl ihr => simp only [Bt.depth, Bt.size]; omega
theorem ret_nat {a b : Nat} (h : a = b) : Ending.returned (.int .i64 (a : Int)) = .returned (.int .i64 (b : Int)) := by rw [h]
set_option maxRecDepth 100000 in
set_option maxHeartbeats 4000000 in
theorem rdepth_bt (b : Bt) : b.size ≤ 31 → ∀ (v : Value) (w : World), TS w v (b.enc 0) →
    Calls Tryd.prog 26 #[v] w fun e w' => e = .returned (.int .i64 (b.depth : Nat)) ∧ Below w.heap.size w w' := by
  induction b with
  | nil =>
    intro _ v w hv
    have HF := Lib.hid (show CRForm ([] : List Lf) true from crform [])
    have HV := Lib.hid (show TS w v [] from hv)
    obtain ⟨A, c, rfl⟩ := (show TS w v [] from hv).form
    clear hv
    simp only [List.length_nil] at HV ⊢
    go_enter Tryd.func26, Tryd.ntmps26
    go_wp2_with (go_at_call 76; (with_reducible refine (HF.out _ _ HV.out).mono ?_); rintro e w1 ⟨rfl, rfl⟩)
    go_returns
    exact ⟨rfl, Below.refl _ _⟩
  | node lab l r ihl ihr =>
    intro hs v w hv
    have HF := Lib.hid (show CRForm ((Bt.node lab l r).enc 0) true from by have q := crform ((Bt.node lab l r).enc 0); rw [formed_bt _ hs] at q; exact q)
    have HL := Lib.hid (fun W v (h : TS W v ((Bt.node lab l r).enc 0)) => rleft_bt lab l r v W h hs)
    have HR := Lib.hid (fun W v (h : TS W v ((Bt.node lab l r).enc 0)) => rright_bt lab l r v W h hs)
    have hn : ((Bt.node lab l r).enc 0).length = l.size + r.size + 1 := by rw [Bt.enc_len]; rfl
    have hd : (Bt.node lab l r).depth = 1 + max l.depth r.depth := rfl
    have hs2 : l.size + r.size + 1 ≤ 31 := hs
    have IHL := Lib.hid (ihl (by omega))
    have IHR := Lib.hid (ihr (by omega))
    have b1 := bt_depth_le' l
    have b2 := bt_depth_le' r
    generalize (Bt.node lab l r).enc 0 = t at *
    have HV := Lib.hid hv
    have HB := Lib.hid (Below.refl w.heap.size w)
    obtain ⟨A, c, rfl⟩ := hv.form
    rw [hn] at HV ⊢
    obtain ⟨n, hn'⟩ : ∃ n, n = l.size + r.size + 1 := ⟨_, rfl⟩
    have hn0 : ((n : Int) == 0) = false := by rw [beq_eq_false_iff_ne]; omega
    rw [← hn'] at HV ⊢
    obtain ⟨dl, hdl⟩ : ∃ k, k = l.depth := ⟨_, rfl⟩
    obtain ⟨dr, hdr⟩ : ∃ k, k = r.depth := ⟨_, rfl⟩
    rw [← hdl] at hd IHL b1
    rw [← hdr] at hd IHR b2
    have g1 : 0 ≤ max (dl : Int) (dr : Int) := by omega
    have g2 : max (dl : Int) (dr : Int) ≤ 31 := by omega
    have HD := Lib.hid (show ((1 : Int) + max (dl : Int) (dr : Int)) = (((Bt.node lab l r).depth : Nat) : Int) by rw [hd]; omega)
    generalize (Bt.node lab l r).depth = D at *
    clear hv hn hd ihl ihr hdl hdr hs hs2 hn' b1 b2
    go_enter Tryd.func26, Tryd.ntmps26
    go_wp2_with (first
      | (go_at_call 76; (with_reducible refine (HF.out _ _ HV.out).mono ?_); rintro e w1 ⟨rfl, rfl⟩)
      | (go_at_call 78; (with_reducible refine (HL.out _ _ (HV.out.to HB.out)).mono ?_); rintro e w1 ⟨v1, rfl, hb, ho⟩; have HX := Lib.hid ho.ts; replace HB := Lib.hid (chainL HB.out (by go_grown) hb); clear hb ho)
      | (go_at_call 79; (with_reducible refine (HR.out _ _ (HV.out.to HB.out)).mono ?_); rintro e w1 ⟨v2, rfl, hb, ho⟩; have HY := Lib.hid ho.ts; replace HB := Lib.hid (chainL HB.out (by go_grown) hb); clear hb ho)
      | (go_at_call 26; (with_reducible refine (IHL.out _ _ HX.out).mono ?_); rintro e w1 ⟨rfl, hb⟩; replace HB := Lib.hid (chainL HB.out (by go_grown) hb); clear hb HX)
      | (go_at_call 26; (with_reducible refine (IHR.out _ _ HY.out).mono ?_); rintro e w1 ⟨rfl, hb⟩; replace HB := Lib.hid (chainL HB.out (by go_grown) hb); clear hb HY))
    go_returns
    exact ⟨ret_i HD.out.symm, HB.out⟩
set_option maxRecDepth 100000 in
set_option maxHeartbeats 1000000 in
theorem RDepthT_any (t : List Lf) (v : Value) (w : World) (hv : TS w v t) :
    Calls Tryd.prog 26 #[v] w fun e w' => e = .returned (.int .i64 (depthS t : Nat)) ∧ Below w.heap.size w w' := by
  cases hf : formedT t with
  | true =>
    obtain ⟨h31, hs, _, he⟩ := btOf_ok hf
    have hd : depthS t = (btOf t).depth := by unfold depthS; rw [if_neg (by rw [hf]; simp)]
    rw [hd]
    exact rdepth_bt (btOf t) (by omega) v w (by rw [← he]; exact hv)
  | false =>
    have hd : depthS t = 0 := by unfold depthS; rw [if_pos hf]
    have HF := Lib.hid (show CRForm t false from by have q := crform t; rw [hf] at q; exact q)
    rw [hd]
    have HV := Lib.hid hv
    obtain ⟨A, c, rfl⟩ := hv.form
    obtain ⟨n, hn⟩ : ∃ n, n = t.length := ⟨_, rfl⟩
    rw [← hn] at HV ⊢
    clear hv hf hd hn
    go_enter Tryd.func26, Tryd.ntmps26
    go_wp2_with (go_at_call 76; (with_reducible refine (HF.out _ _ HV.out).mono ?_); rintro e w1 ⟨rfl, rfl⟩)
    go_returns
    exact ⟨rfl, Below.refl _ _⟩

set_option maxRecDepth 100000 in
set_option maxHeartbeats 2000000 in
theorem RJoinT_any (lab : Int) (l r : List Lf) (v u : Value) (w : World) (hv : TS w v l) (hu : TS w u r) (h0 : 0 ≤ lab) (h1 : lab ≤ 255) :
    Calls Tryd.prog 37 #[.int .u8 lab, v, u] w (RetTT w (joinE lab l r).1 (joinE lab l r).2) := by
  have HV := Lib.hid hv
  have HU := Lib.hid hu
  obtain ⟨A, c, rfl⟩ := hv.form
  obtain ⟨A2, c2, rfl⟩ := hu.form
  have HFL := Lib.hid (crform l)
  have HFR := Lib.hid (crform r)
  have hj : joinE lab l r = if formedT l = false ∨ formedT r = false then ([], 2) else if 31 ≤ l.length + r.length then ([], 4) else (joinT lab l r, 0) := rfl
  generalize joinE lab l r = R at *
  cases hfl : formedT l with
  | false =>
    rw [hfl, if_pos (.inl rfl)] at hj
    rw [hfl] at HFL
    subst hj
    obtain ⟨n, hn⟩ : ∃ n, n = l.length := ⟨_, rfl⟩
    obtain ⟨m, hm⟩ : ∃ m, m = r.length := ⟨_, rfl⟩
    rw [← hn] at HV ⊢
    rw [← hm] at HU ⊢
    clear hv hu hfl hn hm HFR
    go_enter Tryd.func37, Tryd.ntmps37
    go_wp2_with (go_at_call 76; (with_reducible refine (HFL.out _ _ HV.out).mono ?_); rintro e w1 ⟨rfl, rfl⟩)
    go_returns
    exact ⟨_, rfl, Below.refl _ _, TO.nil _ _⟩
  | true =>
    cases hfr : formedT r with
    | false =>
      rw [hfr, if_pos (.inr rfl)] at hj
      rw [hfl] at HFL
      rw [hfr] at HFR
      subst hj
      obtain ⟨n, hn⟩ : ∃ n, n = l.length := ⟨_, rfl⟩
      obtain ⟨m, hm⟩ : ∃ m, m = r.length := ⟨_, rfl⟩
      rw [← hn] at HV ⊢
      rw [← hm] at HU ⊢
      clear hv hu hfl hfr hn hm
      go_enter Tryd.func37, Tryd.ntmps37
      go_wp2_with (first
        | (go_at_call 76; (with_reducible refine (HFL.out _ _ HV.out).mono ?_); rintro e w1 ⟨rfl, rfl⟩)
        | (go_at_call 76; (with_reducible refine (HFR.out _ _ HU.out).mono ?_); rintro e w1 ⟨rfl, rfl⟩))
      go_returns
      exact ⟨_, rfl, Below.refl _ _, TO.nil _ _⟩
    | true =>
      rw [hfl, hfr, if_neg (by simp)] at hj
      have l31 := (btOf_ok hfl).1
      have r31 := (btOf_ok hfr).1
      have HJ := Lib.hid (fun W (h1' : TS W (.slice A l.length c) l) (h2' : TS W (.slice A2 r.length c2) r) => rjoin_any lab l r _ _ W h1' h2' h0 h1 (by omega) (by omega) (kid_bd hfl) (kid_bd hfr))
      rw [hfl] at HFL
      rw [hfr] at HFR
      obtain ⟨n, hn⟩ : ∃ n, n = l.length := ⟨_, rfl⟩
      obtain ⟨m, hm⟩ : ∃ m, m = r.length := ⟨_, rfl⟩
      rw [← hn] at HV HJ hj l31 ⊢
      rw [← hm] at HU HJ hj r31 ⊢
      generalize joinT lab l r = T at *
      clear hv hu hfl hfr hn hm
      by_cases hs : 31 ≤ n + m
      · rw [if_pos hs] at hj
        subst hj
        have hsi : (31 : Int) < (n : Int) + (m : Int) + 1 := by omega
        clear HJ hs
        go_enter Tryd.func37, Tryd.ntmps37
        go_wp2_with (first
          | (go_at_call 76; (with_reducible refine (HFL.out _ _ HV.out).mono ?_); rintro e w1 ⟨rfl, rfl⟩)
          | (go_at_call 76; (with_reducible refine (HFR.out _ _ HU.out).mono ?_); rintro e w1 ⟨rfl, rfl⟩))
        go_returns
        exact ⟨_, rfl, Below.refl _ _, TO.nil _ _⟩
      · rw [if_neg hs] at hj
        subst hj
        have hsi : (n : Int) + (m : Int) + 1 ≤ 31 := by omega
        clear hs
        go_enter Tryd.func37, Tryd.ntmps37
        go_wp2_with (first
          | (go_at_call 76; (with_reducible refine (HFL.out _ _ HV.out).mono ?_); rintro e w1 ⟨rfl, rfl⟩)
          | (go_at_call 76; (with_reducible refine (HFR.out _ _ HU.out).mono ?_); rintro e w1 ⟨rfl, rfl⟩)
          | (go_at_call 86; (with_reducible refine (HJ.out _ HV.out HU.out).mono ?_); rintro e w3 ⟨v3, rfl, hb3, ho3⟩))
        go_returns
        exact ⟨v3, rfl, hb3, ho3⟩

set_option maxRecDepth 100000 in
set_option maxHeartbeats 2000000 in
theorem RSubT_any (t : List Lf) (v : Value) (i : Int) (w : World) (hv : TS w v t) :
    Calls Tryd.prog 30 #[v, .int .i64 i] w (RetTT w (subE t i).1 (subE t i).2) := by
  have HV := Lib.hid hv
  have HF := Lib.hid (crform t)
  obtain ⟨A, c, rfl⟩ := hv.form
  have hj : subE t i = if formedT t = false then ([], 2) else if i < 0 ∨ t.length ≤ i then ([], 8) else (blockS t i, 0) := rfl
  generalize subE t i = R at *
  cases hf : formedT t with
  | false =>
    rw [hf, if_pos rfl] at hj
    rw [hf] at HF
    subst hj
    obtain ⟨n, hn⟩ : ∃ n, n = t.length := ⟨_, rfl⟩
    rw [← hn] at HV ⊢
    clear hv hf hn
    go_enter Tryd.func30, Tryd.ntmps30
    go_wp2_with (go_at_call 76; (with_reducible refine (HF.out _ _ HV.out).mono ?_); rintro e w1 ⟨rfl, rfl⟩)
    go_returns
    exact ⟨_, rfl, Below.refl _ _, TO.nil _ _⟩
  | true =>
    rw [hf, if_neg (by simp)] at hj
    rw [hf] at HF
    have t31 := (btOf_ok hf).1
    have HBK := Lib.hid (show 0 ≤ i → i < t.length → ∀ W, TS W (.slice A t.length c) t → Calls Tryd.prog 81 #[.slice A t.length c, .int .i64 i] W (RetTO W (blockS t i)) from fun g0 g1 W hW => by
      obtain ⟨p, m, rfl, he⟩ := block_end hf g0 g1
      have q := rblock_in t _ p m W hW (by omega) he (kid_bd hf)
      have e2 : blockS t (p : Int) = shiftS (-(p : Int)) ((t.drop p).take (m - p)) := by
        unfold blockS
        rw [if_neg (by omega), Int.toNat_natCast, he]
      rw [e2]; exact q)
    obtain ⟨n, hn⟩ : ∃ n, n = t.length := ⟨_, rfl⟩
    rw [← hn] at HV HBK hj t31 ⊢
    generalize blockS t i = T at *
    clear hv hf hn
    by_cases h0 : i < 0
    · rw [if_pos (.inl h0)] at hj
      subst hj
      clear HBK
      go_enter Tryd.func30, Tryd.ntmps30
      go_wp2_with (go_at_call 76; (with_reducible refine (HF.out _ _ HV.out).mono ?_); rintro e w1 ⟨rfl, rfl⟩)
      go_returns
      exact ⟨_, rfl, Below.refl _ _, TO.nil _ _⟩
    · by_cases h1 : (n : Int) ≤ i
      · rw [if_pos (.inr h1)] at hj
        subst hj
        clear HBK
        go_enter Tryd.func30, Tryd.ntmps30
        go_wp2_with (go_at_call 76; (with_reducible refine (HF.out _ _ HV.out).mono ?_); rintro e w1 ⟨rfl, rfl⟩)
        go_returns
        exact ⟨_, rfl, Below.refl _ _, TO.nil _ _⟩
      · rw [if_neg (by omega)] at hj
        subst hj
        have g0 : 0 ≤ i := by omega
        have g1 : i < n := by omega
        have HBK2 := Lib.hid (HBK.out g0 g1)
        clear HBK h0 h1
        go_enter Tryd.func30, Tryd.ntmps30
        go_wp2_with (first
          | (go_at_call 76; (with_reducible refine (HF.out _ _ HV.out).mono ?_); rintro e w1 ⟨rfl, rfl⟩)
          | (go_at_call 81; (with_reducible refine (HBK2.out _ HV.out).mono ?_); rintro e w3 ⟨v3, rfl, hb3, ho3⟩))
        go_returns
        exact ⟨v3, rfl, hb3, ho3⟩

set_option maxRecDepth 100000 in
set_option maxHeartbeats 4000000 in
theorem rmirror_bt (b : Bt) : b.size ≤ 31 → (∀ m ∈ b.enc 0, 0 ≤ m.label ∧ m.label ≤ 255) → ∀ (v : Value) (w : World), TS w v (b.enc 0) →
    Calls Tryd.prog 83 #[v] w (RetTO w (b.mir.enc 0)) := by
  induction b with
  | nil =>
    intro _ _ v w hv
    have HV := Lib.hid (show TS w v [] from hv)
    obtain ⟨A, c, rfl⟩ := (show TS w v [] from hv).form
    clear hv
    simp only [List.length_nil] at HV ⊢
    go_enter Tryd.func83, Tryd.ntmps83
    go_wp2
    go_returns
    exact ⟨_, rfl, Below.refl _ _, TO.nil _ _⟩
  | node lab l r ihl ihr =>
    intro hs hlb v w hv
    have HL := Lib.hid (fun W v (h : TS W v ((Bt.node lab l r).enc 0)) => rleft_bt lab l r v W h hs)
    have HR := Lib.hid (fun W v (h : TS W v ((Bt.node lab l r).enc 0)) => rright_bt lab l r v W h hs)
    have hn : ((Bt.node lab l r).enc 0).length = l.size + r.size + 1 := by rw [Bt.enc_len]; rfl
    have hs2 : l.size + r.size + 1 ≤ 31 := hs
    have hll : ∀ m ∈ l.enc 0, 0 ≤ m.label ∧ m.label ≤ 255 := lab_left (P := fun x => 0 ≤ x ∧ x ≤ 255) hlb
    have hlr : ∀ m ∈ r.enc 0, 0 ≤ m.label ∧ m.label ≤ 255 := lab_right (P := fun x => 0 ≤ x ∧ x ≤ 255) hlb
    have h01 := hlb _ (List.mem_cons_self ..)
    have IHL := Lib.hid (ihl (by omega) hll)
    have IHR := Lib.hid (ihr (by omega) hlr)
    have hroot := (Seg.self (Bt.node lab l r)).root
    have HJ := Lib.hid (fun W v u (h1' : TS W v (r.mir.enc 0)) (h2' : TS W u (l.mir.enc 0)) => (show Calls Tryd.prog 86 #[.int .u8 lab, v, u] W (RetTO W ((Bt.node lab l r).mir.enc 0)) from by
      have q := rjoin_any lab _ _ v u W h1' h2' h01.1 h01.2 (by rw [Bt.enc_len, Bt.mir_size]; omega) (by rw [Bt.enc_len, Bt.mir_size]; omega) (kid_enc _ (by rw [Bt.mir_size]; omega)) (kid_enc _ (by rw [Bt.mir_size]; omega))
      rw [joinT_enc] at q
      exact q))
    generalize (Bt.node lab l r).mir.enc 0 = res at *
    generalize (Bt.node lab l r).enc 0 = t at *
    generalize l.mir.enc 0 = ml at *
    generalize r.mir.enc 0 = mr at *
    have HV := Lib.hid hv
    obtain ⟨b, o, hA⟩ : ∃ b o, ∃ c, v = .slice (some ⟨b, o, none⟩) t.length c := by
      obtain ⟨A, c, rfl⟩ := hv.form
      obtain ⟨b, o, rfl⟩ := hv.addr (by omega)
      exact ⟨b, o, c, rfl⟩
    obtain ⟨c, rfl⟩ := hA
    obtain ⟨c0, _, _⟩ := hv.at3 hroot
    simp only [Nat.zero_mul, Nat.add_zero] at c0
    have hbl : b < w.heap.size := World.block_lt_of_cell? _ _ c0
    rw [hn] at HV ⊢
    obtain ⟨n, hn'⟩ : ∃ n, n = l.size + r.size + 1 := ⟨_, rfl⟩
    have hn0 : ((n : Int) == 0) = false := by rw [beq_eq_false_iff_ne]; omega
    have hnp : 0 < n := by omega
    rw [← hn'] at HV ⊢
    clear hv hn ihl ihr hs hs2 hn' hlb hll hlr hroot h01
    go_enter Tryd.func83, Tryd.ntmps83
    go_wp2
    first
    | go_region_held3 (fun W => W.cell? ⟨b, o, none⟩ = some (.int .u8 lab)) (first | exact (HB5.out.cell (p := ⟨b, _, none⟩) hbl).trans c0 | exact (HB4.out.cell (p := ⟨b, _, none⟩) hbl).trans c0 | exact (HB3.out.cell (p := ⟨b, _, none⟩) hbl).trans c0 | exact (HB2.out.cell (p := ⟨b, _, none⟩) hbl).trans c0 | exact (HB1.out.cell (p := ⟨b, _, none⟩) hbl).trans c0 | exact c0) (first
      | (go_at_call 79; (refine (HR.out _ _ (by exact HV.out)).mono ?_); rintro e w1 ⟨v1, rfl, hb1, ho1⟩; have HB1 : Hid (Below w.heap.size w w1) := (⟨hb1.os, hb1.tape, hb1.output, hb1.size, hb1.block⟩ : Below w.heap.size w w1); have HX1 := Lib.hid ho1.ts; clear hb1 ho1)
      | (go_at_call 83; (with_reducible refine (IHR.out _ _ HX1.out).mono ?_); rintro e w2 ⟨v2, rfl, hb1, ho1⟩; have HB2 : Hid (Below w.heap.size w w2) := HB1.out.trans (hb1.mono HB1.out.size); have HX2 := Lib.hid ho1.ts; clear hb1 ho1)
      | (go_at_call 78; (with_reducible refine (HL.out _ _ (HV.out.to HB2.out)).mono ?_); rintro e w3 ⟨v3, rfl, hb1, ho1⟩; have HX3 := Lib.hid (HX2.out.to hb1); have HY3 := Lib.hid ho1.ts; have HB3 : Hid (Below w.heap.size w w3) := HB2.out.trans (hb1.mono HB2.out.size); clear hb1 ho1)
      | (go_at_call 83; (with_reducible refine (IHL.out _ _ HY3.out).mono ?_); rintro e w4 ⟨v4, rfl, hb1, ho1⟩; have HX4 := Lib.hid (HX3.out.to hb1); have HY4 := Lib.hid ho1.ts; have HB4 : Hid (Below w.heap.size w w4) := HB3.out.trans (hb1.mono HB3.out.size); clear hb1 ho1)
      | (go_at_call 86; (with_reducible refine (HJ.out _ _ _ HX4.out HY4.out).mono ?_); rintro e w5 ⟨v5, rfl, hb1, ho1⟩; have HO5 := Lib.hid (ho1.mono HB4.out.size); have HB5 : Hid (Below w.heap.size w w5) := HB4.out.trans (hb1.mono HB4.out.size); clear hb1 ho1))
    | fail
    go_wp2_with fail
    go_returns
    exact ⟨v5, rfl, HB5.out, HO5.out⟩
set_option maxRecDepth 100000 in
set_option maxHeartbeats 1000000 in
theorem RMirT_any (t : List Lf) (v : Value) (w : World) (hv : TS w v t) :
    Calls Tryd.prog 32 #[v] w (RetTT w (mirrorE t).1 (mirrorE t).2) := by
  have HV := Lib.hid hv
  have HF := Lib.hid (crform t)
  have hj : mirrorE t = if formedT t = false then ([], 2) else (mirrorS t, 0) := rfl
  generalize mirrorE t = R at *
  cases hf : formedT t with
  | false =>
    rw [hf, if_pos rfl] at hj
    rw [hf] at HF
    subst hj
    obtain ⟨A, c, rfl⟩ := hv.form
    obtain ⟨n, hn⟩ : ∃ n, n = t.length := ⟨_, rfl⟩
    rw [← hn] at HV ⊢
    clear hv hf hn
    go_enter Tryd.func32, Tryd.ntmps32
    go_wp2_with (go_at_call 76; (with_reducible refine (HF.out _ _ HV.out).mono ?_); rintro e w1 ⟨rfl, rfl⟩)
    go_returns
    exact ⟨_, rfl, Below.refl _ _, TO.nil _ _⟩
  | true =>
    rw [hf, if_neg (by simp)] at hj
    rw [hf] at HF
    subst hj
    obtain ⟨h31, hs, _, he⟩ := btOf_ok hf
    have HM := Lib.hid (fun W v (hW : TS W v t) => (show Calls Tryd.prog 83 #[v] W (RetTO W (mirrorS t)) from by
      have q := rmirror_bt (btOf t) (by omega) (by rw [← he]; exact hW.lb) v W (by rw [← he]; exact hW)
      exact q))
    generalize mirrorS t = T at *
    obtain ⟨A, c, rfl⟩ := hv.form
    obtain ⟨n, hn⟩ : ∃ n, n = t.length := ⟨_, rfl⟩
    rw [← hn] at HV ⊢
    clear hv hf hn h31 hs he
    go_enter Tryd.func32, Tryd.ntmps32
    go_wp2_with (first
      | (go_at_call 76; (with_reducible refine (HF.out _ _ HV.out).mono ?_); rintro e w1 ⟨rfl, rfl⟩)
      | (go_at_call 83; (with_reducible refine (HM.out _ _ HV.out).mono ?_); rintro e w3 ⟨v3, rfl, hb3, ho3⟩))
    go_returns
    exact ⟨v3, rfl, hb3, ho3⟩
end Go.Proofs.YtahimlnddelnbaaDoor

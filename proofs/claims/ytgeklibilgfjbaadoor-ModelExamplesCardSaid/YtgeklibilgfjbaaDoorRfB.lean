/- Contract of the reference of chapter 16: cost. -/
/- Contracts of the reference of chapter 16: given, ofWord, Cost. -/
/- Contract of the reference of chapter 16: ofTree. -/
import Derived.Test.YtgeklibilgfjbaaDoorRfP
import Derived.Test.YtgeklibilgfjbaaDoorRefA
import Derived.Deep.DeepCutAuto
import Derived.Deep.RegionHeld3
import Derived.Test.YtgeklibilgfjbaaDoorByA
import Derived.Test.YtgeklibilgfjbaaDoorLfA
import Derived.BigRegion
set_option linter.unusedSimpArgs false
set_option linter.unusedVariables false
namespace Go.Proofs.YtgeklibilgfjbaaDoor
open Go.RowKit

theorem ret_ci {R b : Int} (h : R = b) : Ending.returned (.int .i64 b) = .returned (.int .i64 R) := by rw [h]
set_option maxRecDepth 100000 in
set_option maxHeartbeats 4000000 in
theorem rcost_any (n : Nat) (hn : n ≤ 64) (f : List Mk) (v : Value) : ∀ (tr : Tr) (p i : Nat) (w : World), tr.ok → Sg f p tr → i + 1 = p + tr.size → MS w v f →
    Calls Tryd.prog 157 #[v, .int .i64 i, .int .i64 n] w fun e w' => e = .returned (.int .i64 (costT n tr : Nat)) ∧ Below w.heap.size w w' := by
  intro tr
  induction tr with
  | leaf op x y =>
    intro p i w hok hsg hi hv
    have hip : i = p := by simp [Tr.size] at hi; omega
    subst hip
    have hm := hsg.leaf
    have hn0 := hok.2.1
    clear hsg hi
    obtain ⟨hop, A1, cc, rfl, hc, hc2, hcell⟩ := hv
    have hil : i < f.length := (List.getElem?_eq_some_iff.1 hm).1
    obtain ⟨b, o, rfl, hb, hcell2⟩ := hcell (by omega)
    obtain ⟨c0, c1, c2, c3, c4⟩ := hcell2 i _ hm
    obtain ⟨o1, o2⟩ := hop _ (List.mem_of_getElem? hm)
    simp only at c0 c1 c2 c3 c4 o1 o2
    clear hcell hcell2 hop hm
    obtain ⟨q1, q2, q3, q4, q5, q6, q7⟩ := nc0_op hn0
    have HC := Lib.hid (fun W => RChildren_any op W o1 o2)
    rw [hn0] at HC
    have e : costT n (.leaf op x y) = 1 := rfl
    rw [e]
    clear hok hn0 e
    go_enter Tryd.func157, Tryd.ntmps157
    go_wp2_with (go_at_call 145; go_must (refine (HC.out _).mono ?_; rintro e w1 ⟨rfl, rfl⟩))
    go_returns
    exact ⟨rfl, by go_grown⟩
  | un op x a ih =>
    intro p i w hok hsg hi hv
    have hpos := a.size_pos
    have hip : i = p + a.size := by simp [Tr.size] at hi; omega
    have hm : f[i]? = some ⟨op, x, 0, ((p + a.size - 1 : Nat) : Int), 0⟩ := by rw [hip]; exact hsg.un
    have hsa := hsg.un1
    have hops := nc1_op hok.1.2.1
    have hn1 := hok.1.2.1
    have hj1 : p + a.size - 1 + 1 = p + a.size := by omega
    have HIH := Lib.hid (fun W hW => ih p (p + a.size - 1) W hok.2 hsa hj1 hW)
    have hbd := costT_bd n a
    have HV := Lib.hid hv
    obtain ⟨hop, A1, cc, rfl, hc, hc2, hcell⟩ := hv
    have hil : i < f.length := (List.getElem?_eq_some_iff.1 hm).1
    obtain ⟨b, o, rfl, hb, hcell2⟩ := hcell (by omega)
    obtain ⟨c0, c1, c2, c3, c4⟩ := hcell2 i _ hm
    obtain ⟨o1, o2⟩ := hop _ (List.mem_of_getElem? hm)
    simp only at c0 c1 c2 c3 c4 o1 o2
    have HC := Lib.hid (fun W => RChildren_any op W o1 o2)
    rw [hn1] at HC
    have k12 := cost_set n op x a
    have k14 := cost_each n op x a
    have k9 := cost_not n x a
    generalize hK : costT n a = K at *
    generalize hJ : p + a.size - 1 = J at *
    obtain ⟨R, hR⟩ : ∃ R, R = costT n (.un op x a) := ⟨_, rfl⟩
    rw [← hR] at k12 k14
    rw [← hR]
    have H9 : Hid (op = 9 → R = min (1 + K) 1073741824) := fun h => by rw [hR, h, k9]
    have H12 := Lib.hid k12; have H14 := Lib.hid k14
    clear hcell hcell2 hop hm hK hJ hj1 hsa ih hsg hi hok hn1 hip hpos hR k12 k14 k9
    rcases hops with rfl | rfl | rfl | rfl | rfl
    · have hr := H9.out rfl
      have HR : Hid (min (1 + (K : Int)) 1073741824 = (R : Int)) := by rw [Hid, hr]; omega
      clear hr
      go_enter Tryd.func157, Tryd.ntmps157
      go_upto_region 3 with (fail)
      refine wp_abs (fun W => Row W w.heap.size 23 #[Value.int .u8 9, .int .i64 x, .int .i64 0, .int .i64 J, .int .i64 0] ∧ Below w.heap.size w W) ⟨Row.lit (by simp only [World.size_alloc]), by go_grown⟩ ?_
      rintro W ⟨rx, hb⟩
      have HB := Lib.hid hb
      have x0 := rx.cell; have x1 := rx.lt
      clear rx hb c0 c1 c2 c3 c4
      go_wp2_with (first
        | (go_at_call 145; go_must (refine (HC.out _).mono ?_; rintro e w1 ⟨rfl, rfl⟩))
        | (go_at_call 157; go_must ((with_reducible refine (HIH.out _ (HV.out.below HB.out (Nat.le_refl _))).mono ?_); rintro e w1 ⟨rfl, hb1⟩; replace HB := Lib.hid (HB.out.trans (hb1.mono HB.out.size)); clear hb1)))
      all_goals
        go_returns
        exact ⟨ret_ci (by have := HR.out; omega), HB.out⟩
    · have hr := H12.out (.inl rfl)
      obtain ⟨D, hD⟩ : ∃ D, D = dblS n K := ⟨_, rfl⟩
      rw [← hD] at hr
      have hDl : D ≤ 2147483648 := by rw [hD]; exact dbl_le n K (by omega)
      have HR : Hid (min (1 + (D : Int)) 1073741824 = (R : Int)) := by rw [Hid, hr]; omega
      have HD := Lib.hid hD
      clear hr hD H9 H12 H14
      go_enter Tryd.func157, Tryd.ntmps157
      go_upto_region 3 with (fail)
      refine wp_abs (fun W => Row W w.heap.size 23 #[Value.int .u8 12, .int .i64 x, .int .i64 0, .int .i64 J, .int .i64 0] ∧ Below w.heap.size w W) ⟨Row.lit (by simp only [World.size_alloc]), by go_grown⟩ ?_
      rintro W ⟨rx, hb⟩
      have HB := Lib.hid hb
      have x0 := rx.cell; have x1 := rx.lt; have RX0 := Lib.hid rx
      clear rx hb c0 c1 c2 c3 c4
      go_wp2_with (go_at_call 157; go_must ((with_reducible refine (HIH.out _ (HV.out.below HB.out (Nat.le_refl _))).mono ?_); rintro e w1 ⟨rfl, hb1⟩; have RX := Lib.hid (RX0.out.below hb1 RX0.out.lt); replace HB := Lib.hid (HB.out.trans (hb1.mono HB.out.size)); clear hb1))
      go_loopg [9, 10] n (fun gk q i wr => ∃ (k A : Nat), k ≤ n ∧ gk = n - k ∧ i = .int .i64 k ∧ q = .int .i64 A ∧ wr = w1 ∧ A ≤ 2147483648 ∧ dblS (n - k) A = D)
      case atStart => exact ⟨0, K, Nat.zero_le _, rfl, rfl, rfl, rfl, by omega, HD.out.symm⟩
      case round =>
        obtain ⟨k, A, hk, rfl, rfl, rfl, rfl, hA, hdb⟩ := hrel
        have HDB := Lib.hid hdb; clear hdb
        have x0 := RX.out.cell; have x1 := RX.out.lt
        by_cases hlt : k < n ∧ A < 1073741824
        · obtain ⟨h1, h2⟩ := hlt
          have HS := Lib.hid (dbl_step n k A h1 h2)
          have HA := Lib.hid hA; have H2 := Lib.hid h2
          have g1 : (A : Int) < 1073741824 := by omega
          have g2 : (0 : Int) ≤ A := by omega
          clear hA h2
          go_wp2
          go_roundg (n - (k + 1))
          case rel => exact ⟨k + 1, 2 * A, by omega, rfl, by go_num, by go_num, rfl, by have := H2.out; omega, by rw [← HDB.out, HS.out]⟩
          case measure => omega
        · have hAD : A = D := by rw [← HDB.out, dbl_stop _ _ (by omega)]
          subst hAD
          have hcs : k = n ∨ (k < n ∧ 1073741824 ≤ A) := by omega
          clear hlt HDB HD hA
          rcases hcs with h1 | ⟨h1, h2⟩
          · have h1' : ¬ k < n := by omega
            clear h1
            go_wp2
            all_goals
              go_returns
              exact ⟨ret_ci (by have := HR.out; omega), HB.out⟩
          · have g1 : ¬ (A : Int) < 1073741824 := by omega
            have g2 : (A : Int) ≤ 2147483648 := by omega
            clear h2 hDl
            go_wp2
            all_goals
              go_returns
              exact ⟨ret_ci (by have := HR.out; omega), HB.out⟩
    · have hr := H12.out (.inr rfl)
      obtain ⟨D, hD⟩ : ∃ D, D = dblS n K := ⟨_, rfl⟩
      rw [← hD] at hr
      have hDl : D ≤ 2147483648 := by rw [hD]; exact dbl_le n K (by omega)
      have HR : Hid (min (1 + (D : Int)) 1073741824 = (R : Int)) := by rw [Hid, hr]; omega
      have HD := Lib.hid hD
      clear hr hD H9 H12 H14
      go_enter Tryd.func157, Tryd.ntmps157
      go_upto_region 3 with (fail)
      refine wp_abs (fun W => Row W w.heap.size 23 #[Value.int .u8 13, .int .i64 x, .int .i64 0, .int .i64 J, .int .i64 0] ∧ Below w.heap.size w W) ⟨Row.lit (by simp only [World.size_alloc]), by go_grown⟩ ?_
      rintro W ⟨rx, hb⟩
      have HB := Lib.hid hb
      have x0 := rx.cell; have x1 := rx.lt; have RX0 := Lib.hid rx
      clear rx hb c0 c1 c2 c3 c4
      go_wp2_with (go_at_call 157; go_must ((with_reducible refine (HIH.out _ (HV.out.below HB.out (Nat.le_refl _))).mono ?_); rintro e w1 ⟨rfl, hb1⟩; have RX := Lib.hid (RX0.out.below hb1 RX0.out.lt); replace HB := Lib.hid (HB.out.trans (hb1.mono HB.out.size)); clear hb1))
      go_loopg [9, 10] n (fun gk q i wr => ∃ (k A : Nat), k ≤ n ∧ gk = n - k ∧ i = .int .i64 k ∧ q = .int .i64 A ∧ wr = w1 ∧ A ≤ 2147483648 ∧ dblS (n - k) A = D)
      case atStart => exact ⟨0, K, Nat.zero_le _, rfl, rfl, rfl, rfl, by omega, HD.out.symm⟩
      case round =>
        obtain ⟨k, A, hk, rfl, rfl, rfl, rfl, hA, hdb⟩ := hrel
        have HDB := Lib.hid hdb; clear hdb
        have x0 := RX.out.cell; have x1 := RX.out.lt
        by_cases hlt : k < n ∧ A < 1073741824
        · obtain ⟨h1, h2⟩ := hlt
          have HS := Lib.hid (dbl_step n k A h1 h2)
          have HA := Lib.hid hA; have H2 := Lib.hid h2
          have g1 : (A : Int) < 1073741824 := by omega
          have g2 : (0 : Int) ≤ A := by omega
          clear hA h2
          go_wp2
          go_roundg (n - (k + 1))
          case rel => exact ⟨k + 1, 2 * A, by omega, rfl, by go_num, by go_num, rfl, by have := H2.out; omega, by rw [← HDB.out, HS.out]⟩
          case measure => omega
        · have hAD : A = D := by rw [← HDB.out, dbl_stop _ _ (by omega)]
          subst hAD
          have hcs : k = n ∨ (k < n ∧ 1073741824 ≤ A) := by omega
          clear hlt HDB HD hA
          rcases hcs with h1 | ⟨h1, h2⟩
          · have h1' : ¬ k < n := by omega
            clear h1
            go_wp2
            all_goals
              go_returns
              exact ⟨ret_ci (by have := HR.out; omega), HB.out⟩
          · have g1 : ¬ (A : Int) < 1073741824 := by omega
            have g2 : (A : Int) ≤ 2147483648 := by omega
            clear h2 hDl
            go_wp2
            all_goals
              go_returns
              exact ⟨ret_ci (by have := HR.out; omega), HB.out⟩
    · have hr := H14.out (.inl rfl)
      obtain ⟨D, hD⟩ : ∃ D, D = n * K := ⟨_, rfl⟩
      rw [← hD] at hr
      have hDl : D ≤ 64 * 1073741824 := by rw [hD]; exact Nat.mul_le_mul hn (by omega)
      have hDi : (n : Int) * (K : Int) = (D : Int) := by rw [hD]; norm_cast
      have HR : Hid (min (1 + (D : Int)) 1073741824 = (R : Int)) := by rw [Hid, hr]; omega
      clear hr hD H9 H12 H14
      go_enter Tryd.func157, Tryd.ntmps157
      go_upto_region 3 with (fail)
      refine wp_abs (fun W => Row W w.heap.size 23 #[Value.int .u8 14, .int .i64 x, .int .i64 0, .int .i64 J, .int .i64 0] ∧ Below w.heap.size w W) ⟨Row.lit (by simp only [World.size_alloc]), by go_grown⟩ ?_
      rintro W ⟨rx, hb⟩
      have HB := Lib.hid hb
      have x0 := rx.cell; have x1 := rx.lt
      clear rx hb c0 c1 c2 c3 c4
      go_wp2_with (first
        | (go_at_call 145; go_must (refine (HC.out _).mono ?_; rintro e w1 ⟨rfl, rfl⟩))
        | (go_at_call 157; go_must ((with_reducible refine (HIH.out _ (HV.out.below HB.out (Nat.le_refl _))).mono ?_); rintro e w1 ⟨rfl, hb1⟩; replace HB := Lib.hid (HB.out.trans (hb1.mono HB.out.size)); clear hb1)))
      all_goals
        go_returns
        exact ⟨ret_ci (by have := HR.out; omega), HB.out⟩
    · have hr := H14.out (.inr rfl)
      obtain ⟨D, hD⟩ : ∃ D, D = n * K := ⟨_, rfl⟩
      rw [← hD] at hr
      have hDl : D ≤ 64 * 1073741824 := by rw [hD]; exact Nat.mul_le_mul hn (by omega)
      have hDi : (n : Int) * (K : Int) = (D : Int) := by rw [hD]; norm_cast
      have HR : Hid (min (1 + (D : Int)) 1073741824 = (R : Int)) := by rw [Hid, hr]; omega
      clear hr hD H9 H12 H14
      go_enter Tryd.func157, Tryd.ntmps157
      go_upto_region 3 with (fail)
      refine wp_abs (fun W => Row W w.heap.size 23 #[Value.int .u8 15, .int .i64 x, .int .i64 0, .int .i64 J, .int .i64 0] ∧ Below w.heap.size w W) ⟨Row.lit (by simp only [World.size_alloc]), by go_grown⟩ ?_
      rintro W ⟨rx, hb⟩
      have HB := Lib.hid hb
      have x0 := rx.cell; have x1 := rx.lt
      clear rx hb c0 c1 c2 c3 c4
      go_wp2_with (first
        | (go_at_call 145; go_must (refine (HC.out _).mono ?_; rintro e w1 ⟨rfl, rfl⟩))
        | (go_at_call 157; go_must ((with_reducible refine (HIH.out _ (HV.out.below HB.out (Nat.le_refl _))).mono ?_); rintro e w1 ⟨rfl, hb1⟩; replace HB := Lib.hid (HB.out.trans (hb1.mono HB.out.size)); clear hb1)))
      all_goals
        go_returns
        exact ⟨ret_ci (by have := HR.out; omega), HB.out⟩
  | bin op a b iha ihb =>
    intro p i w hok hsg hi hv
    have hpa := a.size_pos; have hpb := b.size_pos
    have hip : i = p + a.size + b.size := by simp [Tr.size] at hi; omega
    have hm : f[i]? = some ⟨op, 0, 0, ((p + a.size - 1 : Nat) : Int), ((p + a.size + b.size - 1 : Nat) : Int)⟩ := by rw [hip]; exact hsg.bin
    have hops := nc2_op hok.1
    have hn2 := hok.1
    have HIA := Lib.hid (fun W hW => iha p (p + a.size - 1) W hok.2.1 hsg.bin1 (by omega) hW)
    have HIB := Lib.hid (fun W hW => ihb (p + a.size) (p + a.size + b.size - 1) W hok.2.2 hsg.bin2 (by omega) hW)
    have hba := costT_bd n a; have hbb := costT_bd n b
    have HV := Lib.hid hv
    obtain ⟨hop, A1, cc, rfl, hc, hc2, hcell⟩ := hv
    have hil : i < f.length := (List.getElem?_eq_some_iff.1 hm).1
    obtain ⟨g, o, rfl, hb, hcell2⟩ := hcell (by omega)
    obtain ⟨c0, c1, c2, c3, c4⟩ := hcell2 i _ hm
    obtain ⟨o1, o2⟩ := hop _ (List.mem_of_getElem? hm)
    simp only at c0 c1 c2 c3 c4 o1 o2
    have HC := Lib.hid (fun W => RChildren_any op W o1 o2)
    rw [hn2] at HC
    have hk := cost_bin n op a b hops
    generalize hKA : costT n a = KA at *
    generalize hKB : costT n b = KB at *
    generalize hJ1 : p + a.size - 1 = J1 at *
    generalize hJ2 : p + a.size + b.size - 1 = J2 at *
    obtain ⟨R, hR⟩ : ∃ R, R = costT n (.bin op a b) := ⟨_, rfl⟩
    rw [← hR] at hk
    rw [← hR]
    have HR : Hid (min (1 + (KA : Int) + (KB : Int)) 1073741824 = (R : Int)) := by rw [Hid, hk]; omega
    clear hcell hcell2 hop hm hKA hKB hJ1 hJ2 hsg hi hok hn2 hip hpa hpb hR hk iha ihb
    have t1 : IntKind.i64.wrap (1 + (KA : Int)) = 1 + (KA : Int) := IntWalk.i64_in _ ⟨by omega, by omega⟩
    have t2 : IntKind.i64.wrap (1 + (KA : Int) + (KB : Int)) = 1 + (KA : Int) + (KB : Int) := IntWalk.i64_in _ ⟨by omega, by omega⟩
    rcases hops with rfl | rfl
    · go_enter Tryd.func157, Tryd.ntmps157
      go_upto_region 3 with (fail)
      refine wp_abs (fun W => Row W w.heap.size 23 #[Value.int .u8 10, .int .i64 0, .int .i64 0, .int .i64 J1, .int .i64 J2] ∧ Below w.heap.size w W) ⟨Row.lit (by simp only [World.size_alloc]), by go_grown⟩ ?_
      rintro W ⟨rx, hb⟩
      have HB := Lib.hid hb; have RX := Lib.hid rx
      have x0 := rx.cell; have x1 := rx.lt
      clear rx hb c0 c1 c2 c3 c4
      go_upto_region 13 with (go_at_call 145; go_must (refine (HC.out _).mono ?_; rintro e w1 ⟨rfl, rfl⟩))
      have d3 := x0 3; have d4 := x0 4
      simp only [List.getElem?_toArray, List.getElem?_cons_zero, List.getElem?_cons_succ] at d3 d4
      clear x0
      first
      | go_region_held3 (fun W => W.cell? ⟨w.heap.size, 3, none⟩ = some (.int .i64 J1) ∧ W.cell? ⟨w.heap.size, 4, none⟩ = some (.int .i64 J2)) (first | exact ⟨RX.out.cell 3, RX.out.cell 4⟩ | exact ⟨RX.out.drew.cell 3, RX.out.drew.cell 4⟩) (first
        | (go_at_call 157; (with_reducible refine (HIA.out _ (HV.out.below HB.out.drew (Nat.le_refl _))).mono ?_); rintro e w1 ⟨rfl, hb1⟩; replace RX := Lib.hid (RX.out.drew.below hb1 RX.out.drew.lt); replace HB := Lib.hid (HB.out.drew.trans (hb1.mono HB.out.drew.size)); clear hb1)
        | (go_at_call 157; (with_reducible refine (HIB.out _ (HV.out.below HB.out.drew (Nat.le_refl _))).mono ?_); rintro e w1 ⟨rfl, hb1⟩; replace RX := Lib.hid (RX.out.drew.below hb1 RX.out.drew.lt); replace HB := Lib.hid (HB.out.drew.trans (hb1.mono HB.out.drew.size)); clear hb1)
        | (go_at_call 157; (with_reducible refine (HIA.out _ (HV.out.below HB.out (Nat.le_refl _))).mono ?_); rintro e w1 ⟨rfl, hb1⟩; replace RX := Lib.hid (RX.out.below hb1 RX.out.lt); replace HB := Lib.hid (HB.out.trans (hb1.mono HB.out.size)); clear hb1)
        | (go_at_call 157; (with_reducible refine (HIB.out _ (HV.out.below HB.out (Nat.le_refl _))).mono ?_); rintro e w1 ⟨rfl, hb1⟩; replace RX := Lib.hid (RX.out.below hb1 RX.out.lt); replace HB := Lib.hid (HB.out.trans (hb1.mono HB.out.size)); clear hb1))
      | fail
      all_goals
        clear t1 t2
        go_wp2
        all_goals
          go_returns
          exact ⟨ret_ci (by have := HR.out; omega), HB.out⟩
    · go_enter Tryd.func157, Tryd.ntmps157
      go_upto_region 3 with (fail)
      refine wp_abs (fun W => Row W w.heap.size 23 #[Value.int .u8 11, .int .i64 0, .int .i64 0, .int .i64 J1, .int .i64 J2] ∧ Below w.heap.size w W) ⟨Row.lit (by simp only [World.size_alloc]), by go_grown⟩ ?_
      rintro W ⟨rx, hb⟩
      have HB := Lib.hid hb; have RX := Lib.hid rx
      have x0 := rx.cell; have x1 := rx.lt
      clear rx hb c0 c1 c2 c3 c4
      go_upto_region 13 with (go_at_call 145; go_must (refine (HC.out _).mono ?_; rintro e w1 ⟨rfl, rfl⟩))
      have d3 := x0 3; have d4 := x0 4
      simp only [List.getElem?_toArray, List.getElem?_cons_zero, List.getElem?_cons_succ] at d3 d4
      clear x0
      first
      | go_region_held3 (fun W => W.cell? ⟨w.heap.size, 3, none⟩ = some (.int .i64 J1) ∧ W.cell? ⟨w.heap.size, 4, none⟩ = some (.int .i64 J2)) (first | exact ⟨RX.out.cell 3, RX.out.cell 4⟩ | exact ⟨RX.out.drew.cell 3, RX.out.drew.cell 4⟩) (first
        | (go_at_call 157; (with_reducible refine (HIA.out _ (HV.out.below HB.out.drew (Nat.le_refl _))).mono ?_); rintro e w1 ⟨rfl, hb1⟩; replace RX := Lib.hid (RX.out.drew.below hb1 RX.out.drew.lt); replace HB := Lib.hid (HB.out.drew.trans (hb1.mono HB.out.drew.size)); clear hb1)
        | (go_at_call 157; (with_reducible refine (HIB.out _ (HV.out.below HB.out.drew (Nat.le_refl _))).mono ?_); rintro e w1 ⟨rfl, hb1⟩; replace RX := Lib.hid (RX.out.drew.below hb1 RX.out.drew.lt); replace HB := Lib.hid (HB.out.drew.trans (hb1.mono HB.out.drew.size)); clear hb1)
        | (go_at_call 157; (with_reducible refine (HIA.out _ (HV.out.below HB.out (Nat.le_refl _))).mono ?_); rintro e w1 ⟨rfl, hb1⟩; replace RX := Lib.hid (RX.out.below hb1 RX.out.lt); replace HB := Lib.hid (HB.out.trans (hb1.mono HB.out.size)); clear hb1)
        | (go_at_call 157; (with_reducible refine (HIB.out _ (HV.out.below HB.out (Nat.le_refl _))).mono ?_); rintro e w1 ⟨rfl, hb1⟩; replace RX := Lib.hid (RX.out.below hb1 RX.out.lt); replace HB := Lib.hid (HB.out.trans (hb1.mono HB.out.size)); clear hb1))
      | fail
      all_goals
        clear t1 t2
        go_wp2
        all_goals
          go_returns
          exact ⟨ret_ci (by have := HR.out; omega), HB.out⟩
end Go.Proofs.YtgeklibilgfjbaaDoor

namespace Go.Proofs.YtgeklibilgfjbaaDoor
open Go.RowKit

/-- Rows of one's own that read as these lists. -/
def RowsO (w : World) (B : Nat) (rows : List Value) (ls : List (List Bool)) : Prop := rows.length = ls.length ∧ ∀ (i : Nat) r l, rows[i]? = some r → ls[i]? = some l → VO 4 w B r (l.map Value.bool)
theorem RowsO.below {w w' : World} {B B' : Nat} {v : List Value} {f : List (List Bool)} (h : RowsO w B v f) (hb : Below B' w w') (hB : w.heap.size ≤ B') : RowsO w' B v f := ⟨h.1, fun i r l hr hl => (h.2 i r l hr hl).below hb hB⟩
theorem RowsO.nil (w : World) (B : Nat) : RowsO w B [] [] := ⟨rfl, fun i r l hr _ => by simp at hr⟩
theorem RowsO.rows {w : World} {B : Nat} {v : List Value} {f : List (List Bool)} (h : RowsO w B v f) : RowsB w v f := ⟨h.1, fun i r l hr hl => (h.2 i r l hr hl).vs⟩
theorem RowsO.far {E' : TypeId} {w w' : World} {B B' : Nat} {v : List Value} {f : List (List Bool)} {u : Value} {xs : List Value} {size n : Nat} (h : RowsO w B v f) (hne : 4 ≠ E') (h2 : w.ownsRow B' E' size u n xs) (hg : w.grownBy w' u.ownBlock) : RowsO w' B v f :=
  ⟨h.1, fun i r l hr hl => (h.2 i r l hr hl).far hne h2 hg⟩
theorem RowsO.snoc {w : World} {B : Nat} {rows : List Value} {ls : List (List Bool)} (h : RowsO w B rows ls) {s : Value} {l : List Bool} (hs : VO 4 w B s (l.map Value.bool)) : RowsO w B (rows ++ [s]) (ls ++ [l]) := by
  refine ⟨by simp [h.1], fun i r l' hr hl => ?_⟩
  by_cases e : i < rows.length
  · rw [List.getElem?_append_left e] at hr
    rw [List.getElem?_append_left (by rw [← h.1]; exact e)] at hl
    exact h.2 i r l' hr hl
  · rw [List.getElem?_append_right (by omega)] at hr
    rw [List.getElem?_append_right (by rw [← h.1]; omega)] at hl
    have e2 : i - rows.length = 0 := by have := (List.getElem?_eq_some_iff.1 hr).1; simp at this; omega
    rw [e2] at hr
    rw [← h.1, e2] at hl
    simp at hr hl
    rw [← hr, ← hl]; exact hs
theorem RowsO.set {w : World} {B : Nat} {rows : List Value} {ls : List (List Bool)} (h : RowsO w B rows ls) {p : Addr} {u : Value} {E : TypeId} {cs : Array Value} (hr : Row w p.block E cs) (hne : 4 ≠ E) : RowsO (w.setCell p u) B rows ls :=
  ⟨h.1, fun i r l hi hl => (h.2 i r l hi hl).setFar ((h.2 i r l hi hl).ne_row hr hne) u⟩

def bitRow (l : List Nat) (v : Nat) : List Bool := l.map fun x => decide (x / 2 ^ v % 2 = 1)
def bitRows (l : List Nat) (k : Nat) : List (List Bool) := (List.range k).map (bitRow l)
theorem bitRows_succ (l : List Nat) (k : Nat) : bitRows l (k + 1) = bitRows l k ++ [bitRow l k] := by simp [bitRows, List.range_succ]
theorem bitRow_take {l : List Nat} {j x : Nat} (v : Nat) (h : l[j]? = some x) : bitRow (l.take (j + 1)) v = bitRow (l.take j) v ++ [decide (x / 2 ^ v % 2 = 1)] := by
  unfold bitRow; rw [List.take_add_one, h]; simp
theorem below_t2 {a b c : World} (h : Below a.heap.size a b) (k : Below b.heap.size b c) : Below a.heap.size a c := h.trans (k.mono h.size)

set_option maxRecDepth 100000 in
set_option maxHeartbeats 2000000 in
theorem given_any (l : List Nat) (v : Value) (w : World) (hv : YS w v l) (h256 : ∀ x ∈ l, x < 256) (hlen : l.length ≤ 64) :
    Calls Tryd.prog 160 #[v] w fun e w' => ∃ v' rows, e = .returned v' ∧ Below w.heap.size w w' ∧ VS w' v' rows ∧ RowsB w' rows (bitRows l 6) := by
  obtain ⟨A, c, rfl, hc, hc2, hcell⟩ := hv
  obtain ⟨n, hn⟩ : ∃ n, n = l.length := ⟨_, rfl⟩
  rw [← hn] at hc hcell hlen ⊢
  have HN := Lib.hid hn; have HC := Lib.hid hcell; have H256 := Lib.hid h256
  clear hn hcell h256
  go_enter Tryd.func160, Tryd.ntmps160
  go_wp2
  go_loopg [3, 4] 6 (fun gk q3 q4 wr => ∃ k : Nat, k ≤ 6 ∧ gk = 6 - k ∧ q4 = .int .i64 k ∧ Below w.heap.size w wr ∧ ∃ rows, rows.length = k ∧ VO 204 wr w.heap.size q3 rows ∧ RowsO wr w.heap.size rows (bitRows l k))
  case atStart => exact ⟨0, Nat.zero_le _, rfl, rfl, Below.refl _ _, [], rfl, VO.nil _ _ _, RowsO.nil _ _⟩
  case round =>
    obtain ⟨k, hk, rfl, rfl, hbe, rows, hrl, hown, hrows⟩ := hrel
    have HBE := Lib.hid hbe; have HO := Lib.hid hown; have HR := Lib.hid hrows; have HRL := Lib.hid hrl
    clear hbe hown hrows hrl
    obtain ⟨wo, rfl⟩ : ∃ wo : World, wo = wr := ⟨_, rfl⟩
    by_cases hlt : k < 6
    · have hltI : decide ((k : Int) < 6) = true := by simp; omega
      go_wp2
      go_loopg [5, 6] n (fun gk q5 q6 wx => ∃ j : Nat, j ≤ n ∧ gk = n - j ∧ q6 = .int .i64 j ∧ Below wo.heap.size wo wx ∧ VO 4 wx wo.heap.size q5 ((bitRow (l.take j) k).map Value.bool))
      case atStart => exact ⟨0, Nat.zero_le _, rfl, rfl, Below.refl _ _, VO.nil _ _ _⟩
      case round =>
        obtain ⟨j, hj, rfl, rfl, hbx, hox⟩ := hrel
        have HBX := Lib.hid hbx; have HOX := Lib.hid hox
        clear hbx hox
        by_cases hlt2 : j < n
        · obtain ⟨x, hx⟩ : ∃ x, l[j]? = some x := ⟨l[j]'(by rw [← HN.out]; exact hlt2), List.getElem?_eq_getElem _⟩
          obtain ⟨b, o, rfl, hb, hcl⟩ := HC.out (by omega)
          have hwx : b < wo.heap.size := Nat.lt_of_lt_of_le hb HBE.out.size
          have c0 : wr.cell? ⟨b, o + j, none⟩ = some (.int .u8 x) := ((HBX.out.cell (p := ⟨b, _, none⟩) hwx).trans (HBE.out.cell (p := ⟨b, _, none⟩) hb)).trans (hcl j x hx)
          have hx256 := H256.out x (List.mem_of_getElem? hx)
          obtain ⟨bt, hbt⟩ : ∃ bt, bt = x / 2 ^ k % 2 := ⟨_, rfl⟩
          have hb2 : bt < 2 := by omega
          have e1 : ((x : Int) / 2 ^ k).tmod 2 = (bt : Int) := by
            rw [Int.tmod_eq_emod_of_nonneg (Int.ediv_nonneg (by omega) (by exact_mod_cast Nat.zero_le (2 ^ k))), hbt]
            norm_cast
          obtain ⟨q, hq⟩ : ∃ q : Bool, q = decide (x / 2 ^ k % 2 = 1) := ⟨_, rfl⟩
          have e2 : ((bt : Int) == 1) = q := by rw [hq, ← hbt, Bool.eq_iff_iff]; simp; omega
          have HT : Hid (bitRow (l.take (j + 1)) k = bitRow (l.take j) k ++ [q]) := by rw [Hid, hq]; exact bitRow_take k hx
          have hll : ((bitRow (l.take j) k).map Value.bool).length ≤ 64 := by simp [bitRow]; omega
          have hzs := HBX.out.size
          clear hcl hx hbt hq hx256
          go_wp2_with (at_builtin; go_must (refine wpList_append_vs elt_bool rfl (.tmp 17) (.tmp 26) rfl wo.heap.size u5 ((bitRow (l.take j) k).map Value.bool) rfl (HOX.out.below (B' := wr.heap.size) (by go_grown) (Nat.le_refl _)) _ [Value.bool q] rfl (VS.lit (E := 4) (l := [Value.bool q]) (by first | exact Row.new _ _ _ | exact Row.lit (by simp only [World.size_alloc])) (by simp)) (by simp [Value.oneCell']) (by simp only [List.length_cons, List.length_nil]; omega) (by simp only [World.size_alloc]; omega) ?_; intro v3 w3 ho3 hg3 _))
          have HB3 := Lib.hid (own_below_v (w := wo) (by have h1 := HBX.out; go_grown) (HOX.out.below (B' := wr.heap.size) (by go_grown) (Nat.le_refl _)) hg3 (by simp only [World.size_alloc]; omega))
          have HO3 : Hid (VO 4 w3 wo.heap.size v3 ((bitRow (l.take (j + 1)) k).map Value.bool)) := by rw [Hid, HT.out, List.map_append]; exact ho3
          clear ho3 hg3 e1 e2
          go_wp2
          go_roundg (n - (j + 1))
          case rel => exact ⟨j + 1, by omega, rfl, by go_num, HB3.out, HO3.out⟩
          case measure => omega
        · have hjn : j = n := by omega
          have hox := HOX.out
          rw [hjn, HN.out, List.take_length] at hox
          obtain ⟨A5, c5, h5⟩ := hox.form
          obtain ⟨m5, hm5⟩ : ∃ m, m = ((bitRow l k).map Value.bool).length := ⟨_, rfl⟩
          rw [← hm5] at h5
          have HV5 := Lib.hid (hox.mono (B' := w.heap.size) HBE.out.size)
          have HR2 := Lib.hid (HR.out.below HBX.out (Nat.le_refl _))
          have HO2 := Lib.hid (HO.out.below HBX.out (Nat.le_refl _))
          have HBW := Lib.hid (HBE.out.trans (HBX.out.mono HBE.out.size))
          have hzs := HBW.out.size
          have hrl2 : rows.length ≤ 6 := by rw [HRL.out]; omega
          clear hox hjn hm5
          subst h5
          go_wp2_with (at_builtin; go_must (refine wpList_append_vs elt_bools rfl (.tmp 28) (.tmp 30) rfl w.heap.size u3 rows rfl (HO2.out.below (B' := wr.heap.size) (by go_grown) (Nat.le_refl _)) _ [Value.slice A5 m5 c5] rfl (VS.lit (E := 204) (l := [Value.slice A5 m5 c5]) (by first | exact Row.new _ _ _ | exact Row.lit (by simp only [World.size_alloc])) (by simp)) (by simp [Value.oneCell']) (by simp only [List.length_cons, List.length_nil]; omega) (by simp only [World.size_alloc]; omega) ?_; intro v3 w3 ho3 hg3 _))
          have hal : Below wr.heap.size wr (wr.alloc (.cells #[Value.slice A5 m5 c5] 204)) := by go_grown
          have HB3 := Lib.hid (own_below_v (w := w) (HBW.out.trans (hal.mono HBW.out.size)) (HO2.out.below hal (Nat.le_refl _)) hg3 (by simp only [World.size_alloc]; omega))
          have HR3 := Lib.hid (((HR2.out.snoc HV5.out).below hal (Nat.le_refl _)).far (by decide) (HO2.out.below hal (Nat.le_refl _)).2 hg3)
          have HO3 := Lib.hid ho3
          clear ho3 hg3 hal
          go_wp2
          go_roundg (6 - (k + 1))
          case rel => exact ⟨k + 1, by omega, rfl, by go_num, HB3.out, _, by simp [HRL.out], HO3.out, by rw [bitRows_succ]; exact HR3.out⟩
          case measure => omega
    · have hk6 : k = 6 := by omega
      subst hk6
      go_wp2
      go_returns
      exact ⟨_, rows, rfl, HBE.out, HO.out.vs, HR.out.rows⟩

theorem post_abs {P : Program} {f : Func} {Q : Ending → World → Prop} {x : Exit} {a : Act} {w : World} (F : World → Prop) (hF : F w) (hk : ∀ W, F W → bodyPost P f Q x a W) : bodyPost P f Q x a w := hk w hF
def lessRow (n p : Nat) : List Bool := (List.range n).map fun q => decide (p < q)
def nexts (k : Nat) : List Value := (List.range k).map fun p : Nat => Value.int .i64 ((p : Int) + 1)
theorem nexts_succ (k : Nat) : nexts (k + 1) = nexts k ++ [Value.int .i64 ((k : Int) + 1)] := by simp [nexts, List.range_succ]
theorem nexts_len (k : Nat) : (nexts k).length = k := by simp [nexts]
theorem lessRow_succ (p j : Nat) : lessRow (j + 1) p = lessRow j p ++ [decide (p < j)] := by simp [lessRow, List.range_succ]
theorem lessRows_succ (n k : Nat) : (List.range (k + 1)).map (lessRow n) = (List.range k).map (lessRow n) ++ [lessRow n k] := by simp [List.range_succ]

set_option maxRecDepth 100000 in
set_option maxHeartbeats 4000000 in
theorem ofWord_any (n : Nat) (hn : n ≤ 64) (w : World) :
    Calls Tryd.prog 159 #[.int .i64 n] w fun e w' => ∃ A1 c1 A4 c4, e = .returned (.agg #[.int .i64 n, .slice A1 n c1, .slice none 0 0, .slice none 0 0, .slice A4 n c4]) ∧ Below w.heap.size w w' ∧
      VS w' (.slice A1 n c1) (nexts n) ∧ ∃ rows, VS w' (.slice A4 n c4) rows ∧ RowsB w' rows ((List.range n).map (lessRow n)) := by
  go_enter Tryd.func159, Tryd.ntmps159
  go_wp2
  go_loopg [4] n (fun gk q4 wr => ∃ k : Nat, k ≤ n ∧ gk = n - k ∧ q4 = .int .i64 k ∧ Below w.heap.size w wr ∧ ∃ vN vS rows, Row wr w.heap.size 179 #[Value.int .i64 0, .slice none 0 0, .slice none 0 0, .slice none 0 0, .slice none 0 0] ∧
    Row wr (w.heap.size + 1) 179 #[Value.int .i64 n, vN, .slice none 0 0, .slice none 0 0, vS] ∧ VO 3 wr w.heap.size vN (nexts k) ∧ VO 204 wr w.heap.size vS rows ∧ RowsO wr w.heap.size rows ((List.range k).map (lessRow n)))
  case atStart => exact ⟨0, Nat.zero_le _, rfl, rfl, by go_grown, _, _, [], (Row.new w _ _).alloc _, Row.lit (by simp only [World.size_alloc]), VO.nil _ _ _, VO.nil _ _ _, RowsO.nil _ _⟩
  case round =>
    obtain ⟨k, hk, rfl, rfl, hbe, vN, vS, rows, r0, r1, hN, hS, hrows⟩ := hrel
    obtain ⟨A1, c1, rfl⟩ := hN.form
    obtain ⟨A4, c4, rfl⟩ := hS.form
    rw [nexts_len] at hN r1
    have hrl : rows.length = k := by rw [hrows.1]; simp
    rw [hrl] at hS r1
    have HBE := Lib.hid hbe; have R0 := Lib.hid r0; have R1 := Lib.hid r1; have HN := Lib.hid hN; have HS := Lib.hid hS; have HR := Lib.hid hrows; have HRL := Lib.hid hrl
    clear hbe r0 r1 hN hS hrows hrl
    obtain ⟨wo, rfl⟩ : ∃ wo : World, wo = wr := ⟨_, rfl⟩
    by_cases hlt : k < n
    · go_wp2
      go_loopg [5, 6] n (fun gk q5 q6 wx => ∃ j : Nat, j ≤ n ∧ gk = n - j ∧ q6 = .int .i64 j ∧ Below wo.heap.size wo wx ∧ VO 4 wx wo.heap.size q5 ((lessRow j k).map Value.bool))
      case atStart => exact ⟨0, Nat.zero_le _, rfl, rfl, Below.refl _ _, VO.nil _ _ _⟩
      case round =>
        obtain ⟨j, hj, rfl, rfl, hbx, hox⟩ := hrel
        have HBX := Lib.hid hbx; have HOX := Lib.hid hox
        clear hbx hox
        by_cases hlt2 : j < n
        · obtain ⟨q, hq⟩ : ∃ q : Bool, q = decide (k < j) := ⟨_, rfl⟩
          have e2 : decide (k < j) = q := hq.symm
          have HT : Hid (lessRow (j + 1) k = lessRow j k ++ [q]) := by rw [Hid, hq]; exact lessRow_succ k j
          have hll : ((lessRow j k).map Value.bool).length ≤ 64 := by simp [lessRow]; omega
          have hzs := HBX.out.size
          clear hq
          go_wp2_with (at_builtin; go_must (refine wpList_append_vs elt_bool rfl (.tmp 19) (.tmp 23) rfl wo.heap.size u5 ((lessRow j k).map Value.bool) rfl (HOX.out.below (B' := wr.heap.size) (by go_grown) (Nat.le_refl _)) _ [Value.bool q] rfl (VS.lit (E := 4) (l := [Value.bool q]) (by first | exact Row.new _ _ _ | exact Row.lit (by simp only [World.size_alloc])) (by simp)) (by simp [Value.oneCell']) (by simp only [List.length_cons, List.length_nil]; omega) (by simp only [World.size_alloc]; omega) ?_; intro v3 w3 ho3 hg3 _))
          have HB3 := Lib.hid (own_below_v (w := wo) (by have h1 := HBX.out; go_grown) (HOX.out.below (B' := wr.heap.size) (by go_grown) (Nat.le_refl _)) hg3 (by simp only [World.size_alloc]; omega))
          have HO3 : Hid (VO 4 w3 wo.heap.size v3 ((lessRow (j + 1) k).map Value.bool)) := by rw [Hid, HT.out, List.map_append]; exact ho3
          clear ho3 hg3 e2
          go_wp2
          go_roundg (n - (j + 1))
          case rel => exact ⟨j + 1, by omega, rfl, by go_num, HB3.out, HO3.out⟩
          case measure => omega
        · have hjn : j = n := by omega
          have hox := HOX.out
          rw [hjn] at hox
          obtain ⟨A5, c5, h5⟩ := hox.form
          have hm5 : ((lessRow n k).map Value.bool).length = n := by simp [lessRow]
          rw [hm5] at h5
          have hsz0 := HBE.out.size
          have HV5 := Lib.hid (hox.mono (B' := w.heap.size) hsz0)
          have HRX := Lib.hid (HR.out.below HBX.out (Nat.le_refl _))
          have HSX := Lib.hid (HS.out.below HBX.out (Nat.le_refl _))
          have HNX := Lib.hid (HN.out.below HBX.out (Nat.le_refl _))
          have R0X := Lib.hid (R0.out.below HBX.out R0.out.lt)
          have R1X := Lib.hid (R1.out.below HBX.out R1.out.lt)
          have HBW := Lib.hid (HBE.out.trans (HBX.out.mono HBE.out.size))
          have hzs := HBW.out.size
          have hrl2 : rows.length ≤ 64 := by rw [HRL.out]; omega
          clear hox hjn hm5
          subst h5
          have a1 := R1X.out.cell 4; have a2 := R1X.out.free 4; have a3 := R1X.out.lt
          simp only [List.getElem?_toArray, List.getElem?_cons_zero, List.getElem?_cons_succ] at a1
          go_upto_region 11 with (at_builtin; go_must (refine wpList_append_vs elt_bools rfl (.tmp 26) (.tmp 28) rfl w.heap.size (.slice A4 k c4) rows rfl (HSX.out.below (B' := wr.heap.size) (by go_grown) (Nat.le_refl _)) _ [Value.slice A5 n c5] rfl (VS.lit (E := 204) (l := [Value.slice A5 n c5]) (by first | exact Row.new _ _ _ | exact Row.lit (by simp only [World.size_alloc])) (by simp)) (by simp [Value.oneCell']) (by simp only [List.length_cons, List.length_nil]; omega) (by simp only [World.size_alloc]; omega) ?_; intro v3 w3 ho3 hg3 _; obtain ⟨A6, c6, h6⟩ := ho3.form; have hm6 : (rows ++ [Value.slice A5 n c5]).length = k + 1 := (by simp [HRL.out]); rw [hm6] at h6; subst h6; have hal : Below wr.heap.size wr (wr.alloc (.cells #[Value.slice A5 n c5] 204)) := (by go_grown); have R1Y := Lib.hid ((R1X.out.below hal R1X.out.lt).far_own (by decide) (HSX.out.below hal (Nat.le_refl _)).2 hg3); have b1 := R1Y.out.cell 4; have b2 := R1Y.out.free 4; have b3 := R1Y.out.lt; simp only [List.getElem?_toArray, List.getElem?_cons_zero, List.getElem?_cons_succ] at b1; clear hm6))
          have B3 := Lib.hid (own_below_v (w := w) (HBW.out.trans (hal.mono HBW.out.size)) (HSX.out.below hal (Nat.le_refl _)) hg3 (by simp only [World.size_alloc]; omega))
          have R0Y := Lib.hid ((R0X.out.below hal R0X.out.lt).far_own (by decide) (HSX.out.below hal (Nat.le_refl _)).2 hg3)
          have NY := Lib.hid ((HNX.out.below hal (Nat.le_refl _)).far (by decide) (HSX.out.below hal (Nat.le_refl _)).2 hg3)
          have RY := Lib.hid (((HRX.out.snoc HV5.out).below hal (Nat.le_refl _)).far (by decide) (HSX.out.below hal (Nat.le_refl _)).2 hg3)
          have SY := Lib.hid ho3
          clear ho3 hg3 hal a1 a2 a3 b1 b2 b3
          refine wp_abs (fun W => Row W w.heap.size 179 #[Value.int .i64 0, .slice none 0 0, .slice none 0 0, .slice none 0 0, .slice none 0 0] ∧ Row W (w.heap.size + 1) 179 #[Value.int .i64 n, .slice A1 k c1, .slice none 0 0, .slice none 0 0, .slice A6 (k + 1) c6] ∧
            VO 3 W w.heap.size (.slice A1 k c1) (nexts k) ∧ VO 204 W w.heap.size (.slice A6 (k + 1) c6) (rows ++ [Value.slice A5 n c5]) ∧ RowsO W w.heap.size (rows ++ [Value.slice A5 n c5]) ((List.range (k + 1)).map (lessRow n)) ∧ Below w.heap.size w W)
            ⟨R0Y.out.far (by simp) _, R1Y.out.set 4 _, NY.out.setFar (NY.out.ne_row R1Y.out (by decide)) _, SY.out.setFar (SY.out.ne_row R1Y.out (by decide)) _, by rw [lessRows_succ]; exact RY.out.set R1Y.out (by decide), B3.out.setCell (p := ⟨w.heap.size + 1, 4, none⟩) (by simp) _⟩ ?_
          clear R0Y R1Y NY SY RY B3 HBW HNX HSX HRX R0X R1X HV5 HBX HOX HBE R0 R1 HN HS HR
          rintro W ⟨r0, r1, hN, hS, hR, hb⟩
          have R0X := Lib.hid r0; have R1X := Lib.hid r1; have HNX := Lib.hid hN; have HSX := Lib.hid hS; have HRX := Lib.hid hR; have HBW := Lib.hid hb
          clear r0 r1 hN hS hR hb
          have a1 := R1X.out.cell 1; have a2 := R1X.out.free 1; have a3 := R1X.out.lt
          simp only [List.getElem?_toArray, List.getElem?_cons_zero, List.getElem?_cons_succ] at a1
          have hzs2 := HBW.out.size
          have hnl := nexts_len k
          have HNL := Lib.hid hnl; clear hnl
          go_upto_region 4 with (at_builtin; go_must (refine wpList_append_vs elt_int rfl (.tmp 32) (.tmp 35) rfl w.heap.size (.slice A1 k c1) (nexts k) rfl (HNX.out.below (B' := W.heap.size) (by go_grown) (Nat.le_refl _)) _ [Value.int .i64 ((k : Int) + 1)] rfl (VS.lit (E := 3) (l := [Value.int .i64 ((k : Int) + 1)]) (by first | exact Row.new _ _ _ | exact Row.lit (by simp only [World.size_alloc])) (by simp)) (by simp [Value.oneCell']) (by simp only [List.length_cons, List.length_nil]; rw [HNL.out]; omega) (by simp only [World.size_alloc]; omega) ?_; intro v4 w4 ho4 hg4 _; obtain ⟨A7, c7, h7⟩ := ho4.form; have hm7 : (nexts k ++ [Value.int .i64 ((k : Int) + 1)]).length = k + 1 := (by simp [HNL.out]); rw [hm7] at h7; subst h7; have hal : Below W.heap.size W (W.alloc (.cells #[Value.int .i64 ((k : Int) + 1)] 3)) := (by go_grown); have R1Y := Lib.hid ((R1X.out.below hal R1X.out.lt).far_own (by decide) (HNX.out.below hal (Nat.le_refl _)).2 hg4); have b1 := R1Y.out.cell 1; have b2 := R1Y.out.free 1; have b3 := R1Y.out.lt; simp only [List.getElem?_toArray, List.getElem?_cons_zero, List.getElem?_cons_succ] at b1; clear hm7))
          have B3 := Lib.hid (own_below_v (w := w) (HBW.out.trans (hal.mono HBW.out.size)) (HNX.out.below hal (Nat.le_refl _)) hg4 (by simp only [World.size_alloc]; omega))
          have R0Y := Lib.hid ((R0X.out.below hal R0X.out.lt).far_own (by decide) (HNX.out.below hal (Nat.le_refl _)).2 hg4)
          have SY := Lib.hid ((HSX.out.below hal (Nat.le_refl _)).far (by decide) (HNX.out.below hal (Nat.le_refl _)).2 hg4)
          have RY := Lib.hid ((HRX.out.below hal (Nat.le_refl _)).far (by decide) (HNX.out.below hal (Nat.le_refl _)).2 hg4)
          rw [← nexts_succ] at ho4
          have NY := Lib.hid ho4
          clear ho4 hg4 hal a1 a2 a3 b1 b2 b3
          refine wp_abs (fun W => Row W w.heap.size 179 #[Value.int .i64 0, .slice none 0 0, .slice none 0 0, .slice none 0 0, .slice none 0 0] ∧ Row W (w.heap.size + 1) 179 #[Value.int .i64 n, .slice A7 (k + 1) c7, .slice none 0 0, .slice none 0 0, .slice A6 (k + 1) c6] ∧
            VO 3 W w.heap.size (.slice A7 (k + 1) c7) (nexts (k + 1)) ∧ VO 204 W w.heap.size (.slice A6 (k + 1) c6) (rows ++ [Value.slice A5 n c5]) ∧ RowsO W w.heap.size (rows ++ [Value.slice A5 n c5]) ((List.range (k + 1)).map (lessRow n)) ∧ Below w.heap.size w W)
            ⟨R0Y.out.far (by simp) _, R1Y.out.set 1 _, NY.out.setFar (NY.out.ne_row R1Y.out (by decide)) _, SY.out.setFar (SY.out.ne_row R1Y.out (by decide)) _, RY.out.set R1Y.out (by decide), B3.out.setCell (p := ⟨w.heap.size + 1, 1, none⟩) (by simp) _⟩ ?_
          clear R0Y R1Y NY SY RY B3 HBW HNX HSX HRX R0X R1X
          rintro W2 ⟨r0, r1, hN, hS, hR, hb⟩
          have R0X := Lib.hid r0; have R1X := Lib.hid r1; have HNX := Lib.hid hN; have HSX := Lib.hid hS; have HRX := Lib.hid hR; have HBW := Lib.hid hb
          clear r0 r1 hN hS hR hb
          go_wp2
          go_roundg (n - (k + 1))
          case rel => exact ⟨k + 1, by omega, rfl, by go_num, HBW.out, _, _, _, R0X.out, R1X.out, HNX.out, HSX.out, HRX.out⟩
          case measure => omega
    · have hkn : k = n := by omega
      subst hkn
      have a0 := R1.out.cell; have a3 := R1.out.lt
      have b0 := R0.out.cell; have b1 := R0.out.free; have b3 := R0.out.lt
      have q0 := b0 0; have q1 := b0 1; have q2 := b0 2; have q3 := b0 3; have q4 := b0 4
      have p0 := a0 0; have p1 := a0 1; have p2 := a0 2; have p3 := a0 3; have p4 := a0 4
      simp only [List.getElem?_toArray, List.getElem?_cons_zero, List.getElem?_cons_succ] at q0 q1 q2 q3 q4 p0 p1 p2 p3 p4
      clear a0 b0
      go_wp2
      refine post_abs (fun W => Row W w.heap.size 179 #[Value.int .i64 k, .slice A1 k c1, .slice none 0 0, .slice none 0 0, .slice A4 k c4] ∧ VO 3 W w.heap.size (.slice A1 k c1) (nexts k) ∧ VO 204 W w.heap.size (.slice A4 k c4) rows ∧ RowsO W w.heap.size rows ((List.range k).map (lessRow k)) ∧ Below w.heap.size w W)
        ⟨((((R0.out.set 0 _).set 1 _).set 2 _).set 3 _).set 4 _, ?_, ?_, ?_, ?_⟩ ?_
      · exact ((((HN.out.setFar (HN.out.ne_row R0.out (by decide)) _).setFar (HN.out.ne_row R0.out (by decide)) _).setFar (HN.out.ne_row R0.out (by decide)) _).setFar (HN.out.ne_row R0.out (by decide)) _).setFar (HN.out.ne_row R0.out (by decide)) _
      · exact ((((HS.out.setFar (HS.out.ne_row R0.out (by decide)) _).setFar (HS.out.ne_row R0.out (by decide)) _).setFar (HS.out.ne_row R0.out (by decide)) _).setFar (HS.out.ne_row R0.out (by decide)) _).setFar (HS.out.ne_row R0.out (by decide)) _
      · exact ((((HR.out.set R0.out (by decide)).set (R0.out.set 0 _) (by decide)).set ((R0.out.set 0 _).set 1 _) (by decide)).set (((R0.out.set 0 _).set 1 _).set 2 _) (by decide)).set ((((R0.out.set 0 _).set 1 _).set 2 _).set 3 _) (by decide)
      · have := HBE.out; go_grown
      clear q0 q1 q2 q3 q4 p0 p1 p2 p3 p4 a3 b1 b3 R0 HN HS HR HBE R1
      rintro W ⟨r0, hN, hS, hR, hb⟩
      have HN := Lib.hid hN; have HS := Lib.hid hS; have HR := Lib.hid hR; have HB := Lib.hid hb
      have b0 := r0.cell
      have q0 := b0 0; have q1 := b0 1; have q2 := b0 2; have q3 := b0 3; have q4 := b0 4
      simp only [List.getElem?_toArray, List.getElem?_cons_zero, List.getElem?_cons_succ] at q0 q1 q2 q3 q4
      clear hN hS hR hb b0 r0
      exact bodyPost_ret (v := .agg #[.int .i64 k, .slice A1 k c1, .slice none 0 0, .slice none 0 0, .slice A4 k c4]) (by simp [results, Tryd.results159, go_sem, q0, q1, q2, q3, q4]) rfl ⟨A1, c1, A4, c4, rfl, HB.out, HN.out.vs, rows, HS.out.vs, HR.out.rows⟩
end Go.Proofs.YtgeklibilgfjbaaDoor

namespace Go.Proofs.YtgeklibilgfjbaaDoor
open Go.RowKit

def gotK (t : List Lf) (c : Int) (q : Nat) : Bool := decide (0 ≤ c) && (decide ((q : Int) = c) || ancS t c.toNat q)
theorem gotK_none (t : List Lf) {c : Int} (h : c < 0) (q : Nat) : gotK t c q = false := by unfold gotK; rw [decide_eq_false (by omega)]; rfl
theorem gotK_some (t : List Lf) (c q : Nat) : gotK t (c : Int) q = (decide (q = c) || ancS t c q) := by
  unfold gotK
  rw [decide_eq_true (by omega), Int.toNat_natCast, Bool.true_and]
  congr 1
  rw [Bool.eq_iff_iff]; simp; omega
theorem anc_le {t : List Lf} (hk : KidsOk t) {p q : Nat} (hp : p < t.length) (h : q ≤ p) : ancS t p q = false := by
  rw [ancS_eq hk p q t[p] (List.getElem?_eq_getElem hp), if_pos h]
theorem anc_kids {t : List Lf} (hk : KidsOk t) {p : Nat} {x : Lf} (hx : t[p]? = some x) (q : Nat) : ancS t p q = (gotK t x.left q || gotK t x.right q) := by
  have hp := (List.getElem?_eq_some_iff.1 hx).1
  obtain ⟨h1, h2⟩ := hk p x hx
  have key : ∀ c : Int, (c = -1 ∨ ((p : Int) < c ∧ c < (t.length : Int))) → gotK t c q = if q ≤ p then false else (decide (c = q) || (decide (0 < c) && ancS t c.toNat q)) := fun c hc => by
    rcases hc with rfl | ⟨hc1, hc2⟩
    · rw [gotK_none t (by omega)]
      split
      · rfl
      · rw [decide_eq_false (by omega), decide_eq_false (by omega)]; rfl
    · obtain ⟨m, rfl⟩ : ∃ m : Nat, c = m := ⟨c.toNat, by omega⟩
      rw [gotK_some]
      split
      · rw [decide_eq_false (by omega), anc_le hk (by omega) (by omega)]; rfl
      · rw [decide_eq_true (show (0 : Int) < (m : Int) by omega), Int.toNat_natCast, Bool.true_and]
        congr 1
        rw [Bool.eq_iff_iff]; simp; omega
  rw [ancS_eq hk p q x hx, key _ h1, key _ h2]
  split <;> rfl

/-- The rows of a matrix, each in a block of its own. -/
def matRow (n : Nat) (r : Nat → Bool) : Array Value := ((List.range n).map fun q => Value.bool (r q)).toArray
def MatO (w : World) (B n k : Nat) (G : Nat → Nat) (M : Nat → Nat → Bool) : Prop := (∀ i, i < k → B ≤ G i ∧ Row w (G i) 4 (matRow n (M i))) ∧ ∀ i j, i < k → j < k → G i = G j → i = j
def matVs (n k : Nat) (G : Nat → Nat) : List Value := (List.range k).map fun i => Value.slice (some ⟨G i, 0, none⟩) n n
theorem matVs_len (n k : Nat) (G : Nat → Nat) : (matVs n k G).length = k := by simp [matVs]
theorem matVs_get (n : Nat) {k i : Nat} (G : Nat → Nat) (h : i < k) : (matVs n k G)[i]? = some (.slice (some ⟨G i, 0, none⟩) n n) := by simp [matVs, h]
theorem matRow_get {n q : Nat} (r : Nat → Bool) (h : q < n) : (matRow n r)[q]? = some (.bool (r q)) := by simp [matRow, h]
theorem matRow_set {n q : Nat} (r : Nat → Bool) (b : Bool) : (matRow n r).setIfInBounds q (.bool b) = matRow n (fun j => if j = q then b else r j) := by
  apply Array.ext_getElem?
  intro i
  unfold matRow
  rw [Array.getElem?_setIfInBounds]
  by_cases h : q = i
  · subst h
    rw [if_pos rfl]
    by_cases hq : q < n
    · simp [hq]
    · simp [hq]
  · rw [if_neg h]
    by_cases hi : i < n
    · have : ¬ i = q := fun e => h e.symm
      simp [hi, this]
    · simp [hi]
theorem matRow_false (n : Nat) : (List.replicate n (Value.bool false)).toArray = matRow n fun _ => false := by
  apply Array.ext_getElem?
  intro i
  by_cases h : i < n <;> simp [matRow, h]
theorem MatO.below {w w' : World} {B B' n k : Nat} {G : Nat → Nat} {M : Nat → Nat → Bool} (h : MatO w B n k G M) (hb : Below B' w w') (hB : w.heap.size ≤ B') : MatO w' B n k G M :=
  ⟨fun i hi => ⟨(h.1 i hi).1, (h.1 i hi).2.below hb (Nat.lt_of_lt_of_le (h.1 i hi).2.lt hB)⟩, h.2⟩
theorem MatO.far {E' : TypeId} {w w' : World} {B B' n k : Nat} {G : Nat → Nat} {M : Nat → Nat → Bool} {u : Value} {xs : List Value} {size m : Nat} (h : MatO w B n k G M) (hne : 4 ≠ E') (h2 : w.ownsRow B' E' size u m xs) (hg : w.grownBy w' u.ownBlock) : MatO w' B n k G M :=
  ⟨fun i hi => ⟨(h.1 i hi).1, (h.1 i hi).2.far_own hne h2 hg⟩, h.2⟩
theorem MatO.other {E : TypeId} {w : World} {B n k : Nat} {G : Nat → Nat} {M : Nat → Nat → Bool} (h : MatO w B n k G M) {p : Addr} {cs : Array Value} (hr : Row w p.block E cs) (hne : 4 ≠ E) (u : Value) : MatO (w.setCell p u) B n k G M :=
  ⟨fun i hi => ⟨(h.1 i hi).1, (h.1 i hi).2.far (fun e => by
    have h1 := (h.1 i hi).2
    rw [e] at h1
    unfold Row at h1 hr
    rw [h1] at hr
    simp only [Option.some.injEq, Obj.cells.injEq] at hr
    exact hne hr.2.1) u⟩, h.2⟩
theorem MatO.set {w : World} {B n k : Nat} {G : Nat → Nat} {M : Nat → Nat → Bool} (h : MatO w B n k G M) {p q : Nat} (hp : p < k) (b : Bool) : MatO (w.setCell ⟨G p, q, none⟩ (.bool b)) B n k G (fun i j => if i = p then (if j = q then b else M p j) else M i j) := by
  refine ⟨fun i hi => ⟨(h.1 i hi).1, ?_⟩, h.2⟩
  by_cases e : i = p
  · subst e
    simp only [if_true]
    have := (h.1 i hi).2.set q (.bool b)
    rw [matRow_set] at this
    exact this
  · simp only [if_neg e]
    exact (h.1 i hi).2.far (fun e2 => e (h.2 i p hi hp e2)) _
theorem MatO.congr {w : World} {B n k : Nat} {G : Nat → Nat} {M M' : Nat → Nat → Bool} (h : MatO w B n k G M) (he : ∀ i j, i < k → j < n → M i j = M' i j) : MatO w B n k G M' := by
  refine ⟨fun i hi => ⟨(h.1 i hi).1, ?_⟩, h.2⟩
  have : matRow n (M i) = matRow n (M' i) := by
    unfold matRow
    congr 1
    apply List.map_congr_left
    intro q hq
    rw [he i q hi (List.mem_range.1 hq)]
  rw [← this]; exact (h.1 i hi).2
theorem MatO.rows {w : World} {B n : Nat} {G : Nat → Nat} {M : Nat → Nat → Bool} (h : MatO w B n n G M) (hn : n ≤ 1000000) : RowsB w (matVs n n G) ((List.range n).map fun i => (List.range n).map (M i)) := by
  refine ⟨by simp [matVs], fun i r l hr hl => ?_⟩
  have hi : i < n := by have := (List.getElem?_eq_some_iff.1 hl).1; simpa using this
  rw [matVs_get n G hi] at hr
  cases hr
  simp [hi] at hl
  subst hl
  have hrow := (h.1 i hi).2
  refine ⟨some ⟨G i, 0, none⟩, n, by simp, by simp, by omega, fun _ => ⟨G i, 0, rfl, hrow.lt, fun j x hx => ?_⟩⟩
  have hj : j < n := by have := (List.getElem?_eq_some_iff.1 hx).1; simpa using this
  rw [Nat.zero_add, hrow.cell, matRow_get _ hj]
  simp [hj] at hx
  rw [hx]
/-- One row more, in a new block. -/
theorem MatO.add {w : World} {B n k : Nat} {G : Nat → Nat} {M : Nat → Nat → Bool} (h : MatO w B n k G M) (hB : B ≤ w.heap.size) (hM : ∀ j, M k j = false) : MatO (w.alloc (.cells (List.replicate n (Value.bool false)).toArray 4)) B n (k + 1) (fun i => if i = k then w.heap.size else G i) M := by
  refine ⟨fun i hi => ?_, fun i j hi hj he => ?_⟩
  · by_cases e : i = k
    · subst e
      simp only [if_true]
      refine ⟨hB, ?_⟩
      have hr := Row.new w 4 (List.replicate n (Value.bool false)).toArray
      have e2 : M i = fun _ => false := by funext j; exact hM j
      rw [e2, ← matRow_false]; exact hr
    · simp only [if_neg e]
      exact ⟨(h.1 i (by omega)).1, (h.1 i (by omega)).2.alloc _⟩
  · simp only at he
    by_cases e1 : i = k <;> by_cases e2 : j = k
    · omega
    · rw [if_pos e1, if_neg e2] at he
      have := (h.1 j (by omega)).2.lt
      omega
    · rw [if_neg e1, if_pos e2] at he
      have := (h.1 i (by omega)).2.lt
      omega
    · rw [if_neg e1, if_neg e2] at he
      exact h.2 i j (by omega) (by omega) he
theorem matVs_add (n k g : Nat) (G : Nat → Nat) : matVs n (k + 1) (fun i => if i = k then g else G i) = matVs n k G ++ [.slice (some ⟨g, 0, none⟩) n n] := by
  unfold matVs
  rw [List.range_succ, List.map_append]
  congr 1
  · apply List.map_congr_left
    intro i hi
    have := List.mem_range.1 hi
    have e : ¬ i = k := by omega
    simp only [if_neg e]
  · simp

def lefts (t : List Lf) : List Value := t.map fun x => Value.int .i64 x.left
def rights (t : List Lf) : List Value := t.map fun x => Value.int .i64 x.right
theorem lefts_take {t : List Lf} {k : Nat} {x : Lf} (h : t[k]? = some x) : lefts (t.take (k + 1)) = lefts (t.take k) ++ [.int .i64 x.left] := by
  unfold lefts; rw [List.take_add_one, h]; simp
theorem rights_take {t : List Lf} {k : Nat} {x : Lf} (h : t[k]? = some x) : rights (t.take (k + 1)) = rights (t.take k) ++ [.int .i64 x.right] := by
  unfold rights; rw [List.take_add_one, h]; simp
theorem lefts_len (t : List Lf) : (lefts t).length = t.length := by simp [lefts]
theorem rights_len (t : List Lf) : (rights t).length = t.length := by simp [rights]
/-- The matrix while node p is at work: its row is r, the rows behind it are done. -/
def matP (t : List Lf) (p : Nat) (r : Nat → Bool) (i j : Nat) : Bool := if i = p then r j else decide (p < i) && ancS t i j
def partK (t : List Lf) (x : Lf) (k : Nat) (q : Nat) : Bool := if k = 0 then false else if k = 1 then gotK t x.left q else gotK t x.left q || gotK t x.right q
def kidOf (x : Lf) (k : Nat) : Int := if k = 0 then x.left else x.right
theorem partK_succ (t : List Lf) (x : Lf) (k q : Nat) (h : k < 2) : partK t x (k + 1) q = (partK t x k q || gotK t (kidOf x k) q) := by
  have : k = 0 ∨ k = 1 := by omega
  rcases this with rfl | rfl <;> simp [partK, kidOf]

set_option maxRecDepth 100000 in
set_option maxHeartbeats 8000000 in
theorem ofTree_any (t : List Lf) (v : Value) (w : World) (hv : TS w v t) (hkids : KidsOk t) (hl : t.length ≤ 31) :
    Calls Tryd.prog 162 #[v] w fun e w' => ∃ A2 c2 A3 c3 A4 c4, e = .returned (.agg #[.int .i64 t.length, .slice none 0 0, .slice A2 t.length c2, .slice A3 t.length c3, .slice A4 t.length c4]) ∧ Below w.heap.size w w' ∧
      VS w' (.slice A2 t.length c2) (lefts t) ∧ VS w' (.slice A3 t.length c3) (rights t) ∧ ∃ rows, VS w' (.slice A4 t.length c4) rows ∧ RowsB w' rows ((List.range t.length).map fun i => (List.range t.length).map (ancS t i)) := by
  have HV := Lib.hid hv; have HK := Lib.hid hkids
  obtain ⟨_, A, c, rfl, hc1, hc2, -⟩ := hv
  obtain ⟨n, hn⟩ : ∃ n, n = t.length := ⟨_, rfl⟩
  rw [← hn] at hc1 HV hl ⊢
  have HN := Lib.hid hn
  have hmk := run_make_vs elt_bool n (by omega)
  clear hn hkids
  go_enter Tryd.func162, Tryd.ntmps162
  go_wp2
  go_loopg [4] n (fun gk q4 wr => ∃ k : Nat, k ≤ n ∧ gk = n - k ∧ q4 = .int .i64 k ∧ ∃ vL vR vS G, Row wr w.heap.size 179 #[Value.int .i64 0, .slice none 0 0, .slice none 0 0, .slice none 0 0, .slice none 0 0] ∧ Row wr (w.heap.size + 1) 179 #[Value.int .i64 n, .slice none 0 0, vL, vR, vS] ∧ VO 3 wr w.heap.size vL (lefts (t.take k)) ∧ VO 3 wr w.heap.size vR (rights (t.take k)) ∧ VO 204 wr w.heap.size vS (matVs n k G) ∧ MatO wr w.heap.size n k G (fun _ _ => false) ∧ Apart vL vR ∧ Below w.heap.size w wr)
  case atStart => exact ⟨0, Nat.zero_le _, rfl, rfl, _, _, _, fun _ => 0, (Row.new w _ _).alloc _, Row.lit (by simp only [World.size_alloc]), VO.nil _ _ _, VO.nil _ _ _, VO.nil _ _ _, ⟨fun i hi => by omega, fun i j hi => by omega⟩, (fun g h => (by cases h)), by go_grown⟩
  case round =>
    obtain ⟨k, hk, rfl, rfl, vL, vR, vS, G, r0, r1, hL, hR, hS, hM, hd, hb⟩ := hrel
    obtain ⟨A2, c2, rfl⟩ := hL.form
    obtain ⟨A3, c3, rfl⟩ := hR.form
    obtain ⟨A4, c4, rfl⟩ := hS.form
    have hll : (lefts (t.take k)).length = k := by rw [lefts_len, List.length_take, ← HN.out]; omega
    have hrl : (rights (t.take k)).length = k := by rw [rights_len, List.length_take, ← HN.out]; omega
    rw [hll, hrl] at hd
    rw [hll] at hL r1
    rw [hrl] at hR r1
    rw [matVs_len] at hS r1
    have HB := Lib.hid hb; have R0 := Lib.hid r0; have R1 := Lib.hid r1; have HL := Lib.hid hL; have HR := Lib.hid hR; have HS := Lib.hid hS; have HM := Lib.hid hM; have HD := Lib.hid hd; have HLL := Lib.hid hll; have HRL := Lib.hid hrl
    clear hb r0 r1 hL hR hS hM hd hll hrl
    by_cases hlt : k < n
    · obtain ⟨x, hx⟩ : ∃ x, t[k]? = some x := ⟨t[k]'(by rw [← HN.out]; exact hlt), List.getElem?_eq_getElem _⟩
      obtain ⟨b, o, rfl⟩ := HV.out.addr (by rw [← HN.out]; omega)
      have HLT := Lib.hid (lefts_take hx); have HRT := Lib.hid (rights_take hx)
      have hlf := fun W (hb : Below w.heap.size w W) => (HV.out.below hb (Nat.le_refl _)).at3 hx
      have HLF := Lib.hid hlf
      have k0 : (0 : Int) ≤ k := by omega
      have k1 : (k : Int) < n := by omega
      clear hx hlf
      obtain ⟨xlab, xl, xr⟩ := x
      simp only at HLT HRT HLF
      obtain ⟨d0, d1, d2⟩ := HLF.out _ HB.out
      simp only at d0 d1 d2
      have a1 := R1.out.cell 2; have a2 := R1.out.free 2; have a3 := R1.out.lt
      simp only [List.getElem?_toArray, List.getElem?_cons_zero, List.getElem?_cons_succ] at a1
      have hzs := HB.out.size
      have hbl : b < wr.heap.size := World.block_lt_of_cell? _ _ d0
      have z1 : ¬ w.heap.size + 1 = wr.heap.size := by omega
      have z2 : ¬ w.heap.size = wr.heap.size := by omega
      have z3 : w.heap.size + 1 < wr.heap.size + 1 := by omega
      have z4 : w.heap.size + 1 ≠ wr.heap.size := by omega
      go_upto_region 5 with (fail)
      go_cut [] from 19 to 28 (fun W => ∃ A6 c6, Row W w.heap.size 179 #[Value.int .i64 0, .slice none 0 0, .slice none 0 0, .slice none 0 0, .slice none 0 0] ∧ Row W (w.heap.size + 1) 179 #[Value.int .i64 n, .slice none 0 0, (.slice A6 (k + 1) c6), (.slice A3 k c3), (.slice A4 k c4)] ∧ VO 3 W w.heap.size (.slice A6 (k + 1) c6) (lefts (t.take (k + 1))) ∧ VO 3 W w.heap.size (.slice A3 k c3) (rights (t.take k)) ∧ VO 204 W w.heap.size (.slice A4 k c4) (matVs n k G) ∧ MatO W w.heap.size n k G (fun _ _ => false) ∧ Apart (.slice A6 (k + 1) c6) (.slice A3 k c3) ∧ Below w.heap.size w W)
      case first =>
        first
        | go_region_law (first
            | (refine step_append_vs elt_int rfl (.tmp 20) (.tmp 26) rfl w.heap.size (.slice A2 k c2) (lefts (t.take k)) rfl (HL.out.below (B' := wr.heap.size) (by go_grown) (Nat.le_refl _)) _ [Value.int .i64 xl] rfl (VS.lit (E := 3) (l := [Value.int .i64 xl]) (by first | exact Row.new _ _ _ | exact (Row.new _ _ _).drew | exact Row.lit (by simp only [World.size_alloc]) | exact Row.litd (by simp) | exact Row.lit (by simp)) (by simp)) (by simp [Value.oneCell']) (by simp only [List.length_cons, List.length_nil]; rw [HLL.out]; omega) (by simp only [World.size_alloc, World.size_drew]; omega) ?_; intro v3 w3 ho3 hg3 hob; obtain ⟨A6, c6, h6⟩ := ho3.form; have hm6 : ((lefts (t.take k)) ++ [Value.int .i64 xl]).length = k + 1 := (by rw [List.length_append, HLL.out]; rfl); rw [hm6] at h6; subst h6; have HOB := Lib.hid hob; clear hob; have R1Y := Lib.hid ((R1.out.below (B := wr.heap.size) (by go_grown) R1.out.lt).far_own (by decide) (HL.out.below (B' := wr.heap.size) (by go_grown) (Nat.le_refl _)).2 hg3); have b1 := R1Y.out.cell 2; have b2 := R1Y.out.free 2; have b3 := R1Y.out.lt; simp only [List.getElem?_toArray, List.getElem?_cons_zero, List.getElem?_cons_succ] at b1; clear hm6))
        | fail
        all_goals
          have B3 := Lib.hid (own_below_v (w := w) (by have := HB.out; go_grown) (HL.out.below (B' := wr.heap.size) (by go_grown) (Nat.le_refl _)) hg3 (by simp only [World.size_alloc, World.size_drew]; omega))
          have R0Y := Lib.hid ((R0.out.below (B := wr.heap.size) (by go_grown) R0.out.lt).far_own (by decide) (HL.out.below (B' := wr.heap.size) (by go_grown) (Nat.le_refl _)).2 hg3)
          have RY := Lib.hid ((HR.out.below (B' := wr.heap.size) (by go_grown) (Nat.le_refl _)).farB HD.out.symm hg3)
          have SY := Lib.hid ((HS.out.below (B' := wr.heap.size) (by go_grown) (Nat.le_refl _)).far (by decide) (HL.out.below (B' := wr.heap.size) (by go_grown) (Nat.le_refl _)).2 hg3)
          have MY := Lib.hid ((HM.out.below (B' := wr.heap.size) (by go_grown) (Nat.le_refl _)).far (by decide) (HL.out.below (B' := wr.heap.size) (by go_grown) (Nat.le_refl _)).2 hg3)
          have DY : Hid (Apart (.slice A6 (k + 1) c6) (.slice A3 k c3)) := HD.out.grow HOB.out HR.out (by first | (simp only [World.size_alloc, World.size_drew]; omega) | (simp; omega) | simp)
          rw [← HLT.out] at ho3
          have LY := Lib.hid ho3
          clear ho3 hg3 a1 a2 a3 b1 b2 b3 HOB
          go_wp2_with fail
          go_meet
          exact ⟨A6, c6, R0Y.out.far (by simp) _, R1Y.out.set 2 _, LY.out.setFar (LY.out.ne_row R1Y.out (by decide)) _, RY.out.setFar (RY.out.ne_row R1Y.out (by decide)) _, SY.out.setFar (SY.out.ne_row R1Y.out (by decide)) _, MY.out.other (p := ⟨w.heap.size + 1, 2, none⟩) R1Y.out (by decide) _, DY.out, B3.out.setCell (p := ⟨w.heap.size + 1, 2, none⟩) (by simp) _⟩
      case rest =>
      obtain ⟨A6, c6, r0, r1, hL, hR, hS, hM, hd, hb⟩ := hcut
      clear R0 R1 HL HR HS HM HD HB a1 a2 a3 hzs z1 z2 z3 z4
      obtain ⟨wr, hwc⟩ : ∃ x, x = wc := ⟨_, rfl⟩
      subst hwc
      have R0 := Lib.hid r0; have R1 := Lib.hid r1; have HL := Lib.hid hL; have HR := Lib.hid hR; have HS := Lib.hid hS; have HM := Lib.hid hM; have HD := Lib.hid hd; have HB := Lib.hid hb
      clear r0 r1 hL hR hS hM hd hb
      obtain ⟨d0, d1, d2⟩ := HLF.out _ HB.out
      simp only at d0 d1 d2
      have a1 := R1.out.cell 3; have a2 := R1.out.free 3; have a3 := R1.out.lt
      simp only [List.getElem?_toArray, List.getElem?_cons_zero, List.getElem?_cons_succ] at a1
      have hzs := HB.out.size
      have hbl : b < wr.heap.size := World.block_lt_of_cell? _ _ d0
      have z1 : ¬ w.heap.size + 1 = wr.heap.size := by omega
      have z2 : ¬ w.heap.size = wr.heap.size := by omega
      have z3 : w.heap.size + 1 < wr.heap.size + 1 := by omega
      have z4 : w.heap.size + 1 ≠ wr.heap.size := by omega
      go_upto_region 6 with (fail)
      go_cut [] from 29 to 38 (fun W => ∃ A7 c7, Row W w.heap.size 179 #[Value.int .i64 0, .slice none 0 0, .slice none 0 0, .slice none 0 0, .slice none 0 0] ∧ Row W (w.heap.size + 1) 179 #[Value.int .i64 n, .slice none 0 0, (.slice A6 (k + 1) c6), (.slice A7 (k + 1) c7), (.slice A4 k c4)] ∧ VO 3 W w.heap.size (.slice A6 (k + 1) c6) (lefts (t.take (k + 1))) ∧ VO 3 W w.heap.size (.slice A7 (k + 1) c7) (rights (t.take (k + 1))) ∧ VO 204 W w.heap.size (.slice A4 k c4) (matVs n k G) ∧ MatO W w.heap.size n k G (fun _ _ => false) ∧ Apart (.slice A6 (k + 1) c6) (.slice A7 (k + 1) c7) ∧ Below w.heap.size w W)
      case first =>
        first
        | go_region_law (first
            | (refine step_append_vs elt_int rfl (.tmp 30) (.tmp 36) rfl w.heap.size (.slice A3 k c3) (rights (t.take k)) rfl (HR.out.below (B' := wr.heap.size) (by go_grown) (Nat.le_refl _)) _ [Value.int .i64 xr] rfl (VS.lit (E := 3) (l := [Value.int .i64 xr]) (by first | exact Row.new _ _ _ | exact (Row.new _ _ _).drew | exact Row.lit (by simp only [World.size_alloc]) | exact Row.litd (by simp) | exact Row.lit (by simp)) (by simp)) (by simp [Value.oneCell']) (by simp only [List.length_cons, List.length_nil]; rw [HRL.out]; omega) (by simp only [World.size_alloc, World.size_drew]; omega) ?_; intro v3 w3 ho3 hg3 hob; obtain ⟨A7, c7, h6⟩ := ho3.form; have hm6 : ((rights (t.take k)) ++ [Value.int .i64 xr]).length = k + 1 := (by rw [List.length_append, HRL.out]; rfl); rw [hm6] at h6; subst h6; have HOB := Lib.hid hob; clear hob; have R1Y := Lib.hid ((R1.out.below (B := wr.heap.size) (by go_grown) R1.out.lt).far_own (by decide) (HR.out.below (B' := wr.heap.size) (by go_grown) (Nat.le_refl _)).2 hg3); have b1 := R1Y.out.cell 3; have b2 := R1Y.out.free 3; have b3 := R1Y.out.lt; simp only [List.getElem?_toArray, List.getElem?_cons_zero, List.getElem?_cons_succ] at b1; clear hm6))
        | fail
        all_goals
          have B3 := Lib.hid (own_below_v (w := w) (by have := HB.out; go_grown) (HR.out.below (B' := wr.heap.size) (by go_grown) (Nat.le_refl _)) hg3 (by simp only [World.size_alloc, World.size_drew]; omega))
          have R0Y := Lib.hid ((R0.out.below (B := wr.heap.size) (by go_grown) R0.out.lt).far_own (by decide) (HR.out.below (B' := wr.heap.size) (by go_grown) (Nat.le_refl _)).2 hg3)
          have LY := Lib.hid ((HL.out.below (B' := wr.heap.size) (by go_grown) (Nat.le_refl _)).farB HD.out hg3)
          have SY := Lib.hid ((HS.out.below (B' := wr.heap.size) (by go_grown) (Nat.le_refl _)).far (by decide) (HR.out.below (B' := wr.heap.size) (by go_grown) (Nat.le_refl _)).2 hg3)
          have MY := Lib.hid ((HM.out.below (B' := wr.heap.size) (by go_grown) (Nat.le_refl _)).far (by decide) (HR.out.below (B' := wr.heap.size) (by go_grown) (Nat.le_refl _)).2 hg3)
          have DY : Hid (Apart (.slice A6 (k + 1) c6) (.slice A7 (k + 1) c7)) := (HD.out.symm.grow HOB.out HL.out (by first | (simp only [World.size_alloc, World.size_drew]; omega) | (simp; omega) | simp)).symm
          rw [← HRT.out] at ho3
          have RY := Lib.hid ho3
          clear ho3 hg3 a1 a2 a3 b1 b2 b3 HOB
          go_wp2_with fail
          go_meet
          exact ⟨A7, c7, R0Y.out.far (by simp) _, R1Y.out.set 3 _, LY.out.setFar (LY.out.ne_row R1Y.out (by decide)) _, RY.out.setFar (RY.out.ne_row R1Y.out (by decide)) _, SY.out.setFar (SY.out.ne_row R1Y.out (by decide)) _, MY.out.other (p := ⟨w.heap.size + 1, 3, none⟩) R1Y.out (by decide) _, DY.out, B3.out.setCell (p := ⟨w.heap.size + 1, 3, none⟩) (by simp) _⟩
      case rest =>
      obtain ⟨A7, c7, r0, r1, hL, hR, hS, hM, hd, hb⟩ := hcut
      clear R0 R1 HL HR HS HM HD HB a1 a2 a3 hzs z1 z2 z3 z4
      obtain ⟨wr, hwc⟩ : ∃ x, x = wc := ⟨_, rfl⟩
      subst hwc
      have R0 := Lib.hid r0; have R1 := Lib.hid r1; have HL := Lib.hid hL; have HR := Lib.hid hR; have HS := Lib.hid hS; have HM := Lib.hid hM; have HD := Lib.hid hd; have HB := Lib.hid hb
      clear r0 r1 hL hR hS hM hd hb
      obtain ⟨d0, d1, d2⟩ := HLF.out _ HB.out
      simp only at d0 d1 d2
      have a1 := R1.out.cell 4; have a2 := R1.out.free 4; have a3 := R1.out.lt
      simp only [List.getElem?_toArray, List.getElem?_cons_zero, List.getElem?_cons_succ] at a1
      have hzs := HB.out.size
      have hbl : b < wr.heap.size := World.block_lt_of_cell? _ _ d0
      have z1 : ¬ w.heap.size + 1 = wr.heap.size := by omega
      have z2 : ¬ w.heap.size = wr.heap.size := by omega
      have z3 : w.heap.size + 1 < wr.heap.size + 1 := by omega
      have z4 : w.heap.size + 1 ≠ wr.heap.size := by omega
      go_upto_region 7 with (fail)
      first
      | go_region_law (first
          | (refine step_append_vs elt_bools rfl (.tmp 40) (.tmp 44) rfl w.heap.size (.slice A4 k c4) (matVs n k G) rfl (HS.out.below (B' := wr.heap.size) (by go_grown) (Nat.le_refl _)) _ [Value.slice (some ⟨wr.heap.size, 0, none⟩) n n] rfl (VS.lit (E := 204) (l := [Value.slice (some ⟨wr.heap.size, 0, none⟩) n n]) (by first | exact Row.lit (by simp) | exact Row.litd (by simp) | exact Row.new _ _ _ | exact (Row.new _ _ _).drew | exact Row.lit (by simp only [World.size_alloc]) | exact Row.litd (by simp) | exact Row.lit (by simp)) (by simp)) (by simp [Value.oneCell']) (by simp only [List.length_cons, List.length_nil]; rw [matVs_len n k G]; omega) (by simp only [World.size_alloc, World.size_drew]; omega) ?_; intro v3 w3 ho3 hg3 hob; obtain ⟨A8, c8, h6⟩ := ho3.form; have hm6 : ((matVs n k G) ++ [Value.slice (some ⟨wr.heap.size, 0, none⟩) n n]).length = k + 1 := (by rw [List.length_append, matVs_len n k G]; rfl); rw [hm6] at h6; subst h6; have HOB := Lib.hid hob; clear hob; have R1Y := Lib.hid ((R1.out.below (B := wr.heap.size) (by go_grown) R1.out.lt).far_own (by decide) (HS.out.below (B' := wr.heap.size) (by go_grown) (Nat.le_refl _)).2 hg3); have b1 := R1Y.out.cell 4; have b2 := R1Y.out.free 4; have b3 := R1Y.out.lt; simp only [List.getElem?_toArray, List.getElem?_cons_zero, List.getElem?_cons_succ] at b1; clear hm6))
      | fail
      all_goals
        have B3 := Lib.hid (own_below_v (w := w) (by have := HB.out; go_grown) (HS.out.below (B' := wr.heap.size) (by go_grown) (Nat.le_refl _)) hg3 (by simp only [World.size_alloc, World.size_drew]; omega))
        have R0Y := Lib.hid ((R0.out.below (B := wr.heap.size) (by go_grown) R0.out.lt).far_own (by decide) (HS.out.below (B' := wr.heap.size) (by go_grown) (Nat.le_refl _)).2 hg3)
        have LY := Lib.hid ((HL.out.below (B' := wr.heap.size) (by go_grown) (Nat.le_refl _)).far (by decide) (HS.out.below (B' := wr.heap.size) (by go_grown) (Nat.le_refl _)).2 hg3)
        have RY := Lib.hid ((HR.out.below (B' := wr.heap.size) (by go_grown) (Nat.le_refl _)).far (by decide) (HS.out.below (B' := wr.heap.size) (by go_grown) (Nat.le_refl _)).2 hg3)
        have MY := Lib.hid (((HM.out.add HB.out.size (fun _ => rfl)).below (B' := wr.heap.size + 1) (by first | exact (Below.alloc (Below.refl _ _) (by simp) _).drew | exact (Below.alloc (Below.refl _ _) (by simp) _)) (by simp)).far (by decide) (HS.out.below (B' := wr.heap.size) (by go_grown) (Nat.le_refl _)).2 hg3)
        have DY := Lib.hid HD.out
        rw [← matVs_add] at ho3
        have SY := Lib.hid ho3
        clear ho3 hg3 a1 a2 a3 b1 b2 b3 HOB
        go_wp2_with fail
        go_roundg (n - (k + 1))
        case rel => exact ⟨k + 1, by omega, rfl, by go_num, _, _, _, _, R0Y.out.far (by simp) _, R1Y.out.set 4 _, LY.out.setFar (LY.out.ne_row R1Y.out (by decide)) _, RY.out.setFar (RY.out.ne_row R1Y.out (by decide)) _, SY.out.setFar (SY.out.ne_row R1Y.out (by decide)) _, MY.out.other (p := ⟨w.heap.size + 1, 4, none⟩) R1Y.out (by decide) _, DY.out, B3.out.setCell (p := ⟨w.heap.size + 1, 4, none⟩) (by simp) _⟩
        case measure => omega
    · have hkn : k = n := by omega
      have hL := HL.out; have hR := HR.out; have hS := HS.out; have hM := HM.out; have r1 := R1.out
      rw [hkn] at hL hR hS hM r1
      rw [HN.out, List.take_length, ← HN.out] at hL hR
      replace HL := Lib.hid hL; replace HR := Lib.hid hR; replace HS := Lib.hid hS; replace R1 := Lib.hid r1
      have HM0 : Hid (MatO wr w.heap.size n n G (fun i j => decide (n ≤ i) && ancS t i j)) := hM.congr fun i j hi hj => by rw [decide_eq_false (by omega)]; rfl
      clear hL hR hS hM r1 HLL HRL HD HM hmk hkn
      go_wp2
      go_loopg [5] n (fun gk q5 wx => ∃ (k : Nat) (z : Int), k ≤ n ∧ k = gk ∧ q5 = .int .i64 z ∧ z + 1 = (k : Int) ∧ Row wx w.heap.size 179 #[Value.int .i64 0, .slice none 0 0, .slice none 0 0, .slice none 0 0, .slice none 0 0] ∧ Row wx (w.heap.size + 1) 179 #[Value.int .i64 n, .slice none 0 0, (.slice A2 n c2), (.slice A3 n c3), (.slice A4 n c4)] ∧ VO 3 wx w.heap.size (.slice A2 n c2) (lefts t) ∧ VO 3 wx w.heap.size (.slice A3 n c3) (rights t) ∧ VO 204 wx w.heap.size (.slice A4 n c4) (matVs n n G) ∧ MatO wx w.heap.size n n G (fun i j => decide (k ≤ i) && ancS t i j) ∧ Below w.heap.size w wx)
      case atStart => exact ⟨n, _, Nat.le_refl _, rfl, rfl, by omega, R0.out, R1.out, HL.out, HR.out, HS.out, HM0.out, HB.out⟩
      case round =>
        clear R0 R1 HL HR HS HM0 HB
        obtain ⟨k, z, hk, rfl, rfl, hz, r0, r1, hL, hR, hS, hM, hb⟩ := hrel
        have HB := Lib.hid hb; have R0 := Lib.hid r0; have R1 := Lib.hid r1; have HL := Lib.hid hL; have HR := Lib.hid hR; have HS := Lib.hid hS; have HM := Lib.hid hM
        clear hb r0 r1 hL hR hS hM
        cases k with
        | zero =>
          obtain rfl : z = -1 := by omega
          clear hz
          have a0 := R1.out.cell; have a3 := R1.out.lt
          have b0 := R0.out.cell; have b1 := R0.out.free; have b3 := R0.out.lt
          have q0 := b0 0; have q1 := b0 1; have q2 := b0 2; have q3 := b0 3; have q4 := b0 4
          have p0 := a0 0; have p1 := a0 1; have p2 := a0 2; have p3 := a0 3; have p4 := a0 4
          simp only [List.getElem?_toArray, List.getElem?_cons_zero, List.getElem?_cons_succ] at q0 q1 q2 q3 q4 p0 p1 p2 p3 p4
          clear a0 b0
          go_wp2
          refine post_abs (fun W => Row W w.heap.size 179 #[Value.int .i64 n, .slice none 0 0, (.slice A2 n c2), (.slice A3 n c3), (.slice A4 n c4)] ∧ VO 3 W w.heap.size (.slice A2 n c2) (lefts t) ∧ VO 3 W w.heap.size (.slice A3 n c3) (rights t) ∧ VO 204 W w.heap.size (.slice A4 n c4) (matVs n n G) ∧ MatO W w.heap.size n n G (fun i j => decide (0 ≤ i) && ancS t i j) ∧ Below w.heap.size w W)
            ⟨((((R0.out.set 0 _).set 1 _).set 2 _).set 3 _).set 4 _, (((((HL.out.setFar (HL.out.ne_row R0.out (by decide)) _).setFar (HL.out.ne_row R0.out (by decide)) _).setFar (HL.out.ne_row R0.out (by decide)) _).setFar (HL.out.ne_row R0.out (by decide)) _).setFar (HL.out.ne_row R0.out (by decide)) _), (((((HR.out.setFar (HR.out.ne_row R0.out (by decide)) _).setFar (HR.out.ne_row R0.out (by decide)) _).setFar (HR.out.ne_row R0.out (by decide)) _).setFar (HR.out.ne_row R0.out (by decide)) _).setFar (HR.out.ne_row R0.out (by decide)) _), (((((HS.out.setFar (HS.out.ne_row R0.out (by decide)) _).setFar (HS.out.ne_row R0.out (by decide)) _).setFar (HS.out.ne_row R0.out (by decide)) _).setFar (HS.out.ne_row R0.out (by decide)) _).setFar (HS.out.ne_row R0.out (by decide)) _), ?_, ?_⟩ ?_
          · exact ((((HM.out.other (p := ⟨w.heap.size, 0, none⟩) R0.out (by decide) _).other (p := ⟨w.heap.size, 1, none⟩) (R0.out.set 0 _) (by decide) _).other (p := ⟨w.heap.size, 2, none⟩) ((R0.out.set 0 _).set 1 _) (by decide) _).other (p := ⟨w.heap.size, 3, none⟩) (((R0.out.set 0 _).set 1 _).set 2 _) (by decide) _).other (p := ⟨w.heap.size, 4, none⟩) ((((R0.out.set 0 _).set 1 _).set 2 _).set 3 _) (by decide) _
          · have := HB.out; go_grown
          clear q0 q1 q2 q3 q4 p0 p1 p2 p3 p4 a3 b1 b3 R0 HL HR HS HM HB R1
          rintro W ⟨r0, hL, hR, hS, hM, hb⟩
          have HL := Lib.hid hL; have HR := Lib.hid hR; have HS := Lib.hid hS; have HM := Lib.hid hM; have HB := Lib.hid hb
          have b0 := r0.cell
          have q0 := b0 0; have q1 := b0 1; have q2 := b0 2; have q3 := b0 3; have q4 := b0 4
          simp only [List.getElem?_toArray, List.getElem?_cons_zero, List.getElem?_cons_succ] at q0 q1 q2 q3 q4
          clear hL hR hS hM hb b0 r0
          have hfin := (HM.out.congr (M' := ancS t) (fun i j hi hj => by simp)).rows (by omega)
          exact bodyPost_ret (v := .agg #[.int .i64 n, .slice none 0 0, .slice A2 n c2, .slice A3 n c3, .slice A4 n c4]) (by simp [results, Tryd.results162, go_sem, q0, q1, q2, q3, q4]) rfl ⟨A2, c2, A3, c3, A4, c4, rfl, HB.out, HL.out.vs, HR.out.vs, _, HS.out.vs, hfin⟩
        | succ p =>
          obtain rfl : z = (p : Int) := by omega
          clear hz
          have hpn : p < n := by omega
          obtain ⟨x, hx⟩ : ∃ x, t[p]? = some x := ⟨t[p]'(by rw [← HN.out]; exact hpn), List.getElem?_eq_getElem _⟩
          obtain ⟨b, o, rfl⟩ := HV.out.addr (by rw [← HN.out]; omega)
          obtain ⟨d0, d1, d2⟩ := (HV.out.below HB.out (Nat.le_refl _)).at3 hx
          have HKX := Lib.hid (HK.out p x hx); have HAN := Lib.hid (anc_kids HK.out hx)
          have p0 : (0 : Int) ≤ p := by omega
          have p1 : (p : Int) < n := by omega
          clear hx
          go_upto_region 11 with (fail)
          have z1 : ¬ w.heap.size + 1 = wr.heap.size := by have := R1.out.lt; omega
          have z2 : ¬ w.heap.size = wr.heap.size := by have := R1.out.lt; omega
          have z4 : b < wr.heap.size := World.block_lt_of_cell? _ _ d0
          obtain ⟨xlab, xl, xr⟩ := x
          simp only at d0 d1 d2 HKX HAN
          go_cut [6] from 54 to 64 (fun u W => ∃ g, u = .slice (some ⟨g, 0, none⟩) 2 2 ∧ Row W g 3 #[Value.int .i64 xl, .int .i64 xr] ∧ w.heap.size ≤ g ∧ Row W w.heap.size 179 #[Value.int .i64 0, .slice none 0 0, .slice none 0 0, .slice none 0 0, .slice none 0 0] ∧ Row W (w.heap.size + 1) 179 #[Value.int .i64 n, .slice none 0 0, (.slice A2 n c2), (.slice A3 n c3), (.slice A4 n c4)] ∧ VO 3 W w.heap.size (.slice A2 n c2) (lefts t) ∧ VO 3 W w.heap.size (.slice A3 n c3) (rights t) ∧ VO 204 W w.heap.size (.slice A4 n c4) (matVs n n G) ∧ MatO W w.heap.size n n G (fun i j => decide (p + 1 ≤ i) && ancS t i j) ∧ Below w.heap.size w W)
          case first =>
            first | go_region | fail
            all_goals
              go_wp2_with fail
              go_meet
              have hal := R1.out.lt
              refine ⟨wr.heap.size, rfl, by first | exact (Row.new _ _ _) | exact (Row.new _ _ _).drew, HB.out.size, ?_⟩
              have hbw : Below wr.heap.size wr ((wr.alloc (.cells #[Value.int .i64 xl, .int .i64 xr] 3)).drew) := (Below.alloc (Below.refl _ _) (Nat.le_refl _) _).drew
              exact ⟨R0.out.below hbw (by omega), R1.out.below hbw hal, HL.out.below hbw (Nat.le_refl _), HR.out.below hbw (Nat.le_refl _), HS.out.below hbw (Nat.le_refl _), HM.out.below hbw (Nat.le_refl _), HB.out.trans (hbw.mono HB.out.size)⟩
          case rest =>
          obtain ⟨g, rfl, rg, hgB, r0, r1, hL, hR, hS, hM, hb⟩ := hcut
          clear R0 R1 HL HR HS HM HB d0 d1 d2 z1 z2 z4
          obtain ⟨ws, hwc⟩ : ∃ x, x = wc := ⟨_, rfl⟩
          subst hwc
          have HB := Lib.hid hb; have R0 := Lib.hid r0; have R1 := Lib.hid r1; have HL := Lib.hid hL; have HR := Lib.hid hR; have HS := Lib.hid hS; have RG := Lib.hid rg
          have HM1 : Hid (MatO ws w.heap.size n n G (matP t p (partK t ⟨xlab, xl, xr⟩ 0))) := hM.congr fun i j hi hj => by
            unfold matP
            by_cases e : i = p
            · subst e; rw [if_pos rfl, decide_eq_false (by omega)]; try rfl
            · rw [if_neg e]; rfl
          clear hb r0 r1 hL hR hS hM rg
          go_wp2
          go_loopg [7] 2 (fun gk q7 wx => ∃ kk : Nat, kk ≤ 2 ∧ gk = 2 - kk ∧ q7 = .int .i64 kk ∧ Row wx g 3 #[Value.int .i64 xl, .int .i64 xr] ∧ Row wx w.heap.size 179 #[Value.int .i64 0, .slice none 0 0, .slice none 0 0, .slice none 0 0, .slice none 0 0] ∧ Row wx (w.heap.size + 1) 179 #[Value.int .i64 n, .slice none 0 0, (.slice A2 n c2), (.slice A3 n c3), (.slice A4 n c4)] ∧ VO 3 wx w.heap.size (.slice A2 n c2) (lefts t) ∧ VO 3 wx w.heap.size (.slice A3 n c3) (rights t) ∧ VO 204 wx w.heap.size (.slice A4 n c4) (matVs n n G) ∧ MatO wx w.heap.size n n G (matP t p (partK t ⟨xlab, xl, xr⟩ kk)) ∧ Below w.heap.size w wx)
          case atStart => exact ⟨0, by omega, rfl, rfl, RG.out, R0.out, R1.out, HL.out, HR.out, HS.out, HM1.out, HB.out⟩
          case round =>
            clear R0 R1 HL HR HS HM1 HB RG
            obtain ⟨kk, hkk, rfl, rfl, rg, r0, r1, hL, hR, hS, hM, hb⟩ := hrel
            have HB := Lib.hid hb; have R0 := Lib.hid r0; have R1 := Lib.hid r1; have HL := Lib.hid hL; have HR := Lib.hid hR; have HS := Lib.hid hS; have HM := Lib.hid hM; have RG := Lib.hid rg
            clear hb r0 r1 hL hR hS hM rg
            by_cases hk2 : kk < 2
            · have hk2I : decide ((kk : Int) < 2) = true := by simp; omega
              have HKC : Hid (kidOf ⟨xlab, xl, xr⟩ kk = -1 ∨ ((p : Int) < kidOf ⟨xlab, xl, xr⟩ kk ∧ kidOf ⟨xlab, xl, xr⟩ kk < (t.length : Int))) := by
                have hk := HKX.out
                unfold Hid kidOf
                split
                · exact hk.1
                · exact hk.2
              have gc : wr.cell? ⟨g, kk, none⟩ = some (.int .i64 (kidOf ⟨xlab, xl, xr⟩ kk)) := by
                rw [RG.out.cell]
                have : kk = 0 ∨ kk = 1 := by omega
                rcases this with rfl | rfl <;> rfl
              have HPS := Lib.hid (fun q => partK_succ t ⟨xlab, xl, xr⟩ kk q hk2)
              obtain ⟨c, hc⟩ : ∃ c, c = kidOf ⟨xlab, xl, xr⟩ kk := ⟨_, rfl⟩
              rw [← hc] at gc HKC HPS
              clear hc
              obtain ⟨wo, rfl⟩ : ∃ wo : World, wo = wr := ⟨_, rfl⟩
              go_upto_region 17 with (fail)
              go_loopg [9] n (fun gk q9 wx => ∃ q : Nat, q ≤ n ∧ gk = n - q ∧ q9 = .int .i64 q ∧ Row wx g 3 #[Value.int .i64 xl, .int .i64 xr] ∧ Row wx w.heap.size 179 #[Value.int .i64 0, .slice none 0 0, .slice none 0 0, .slice none 0 0, .slice none 0 0] ∧ Row wx (w.heap.size + 1) 179 #[Value.int .i64 n, .slice none 0 0, (.slice A2 n c2), (.slice A3 n c3), (.slice A4 n c4)] ∧ VO 3 wx w.heap.size (.slice A2 n c2) (lefts t) ∧ VO 3 wx w.heap.size (.slice A3 n c3) (rights t) ∧ VO 204 wx w.heap.size (.slice A4 n c4) (matVs n n G) ∧ MatO wx w.heap.size n n G (matP t p (fun j => if j < q then partK t ⟨xlab, xl, xr⟩ kk j || gotK t c j else partK t ⟨xlab, xl, xr⟩ kk j)) ∧ Below w.heap.size w wx)
              case atStart => exact ⟨0, by omega, rfl, rfl, RG.out, R0.out, R1.out, HL.out, HR.out, HS.out, HM.out.congr fun i j hi hj => by unfold matP; split <;> simp, HB.out⟩
              case round =>
                clear R0 R1 HL HR HS HM HB RG gc
                obtain ⟨q, hq, rfl, rfl, rg, r0, r1, hL, hR, hS, hM, hb⟩ := hrel
                have HB := Lib.hid hb; have R0 := Lib.hid r0; have R1 := Lib.hid r1; have HL := Lib.hid hL; have HR := Lib.hid hR; have HS := Lib.hid hS; have HM := Lib.hid hM; have RG := Lib.hid rg
                clear hb r0 r1 hL hR hS hM rg
                by_cases hqn : q < n ∧ 0 ≤ c
                · obtain ⟨hqn, hc0⟩ := hqn
                  obtain ⟨cN, rfl⟩ : ∃ cN : Nat, c = cN := ⟨c.toNat, by omega⟩
                  have hcN : p < cN ∧ cN < n := by
                    have := HKC.out
                    rw [← HN.out] at this
                    omega
                  obtain ⟨g4, cap4, cs4, e4, -, -, -, -, hcl⟩ := HS.out.row (by rw [matVs_len]; omega)
                  simp only [Value.slice.injEq] at e4
                  obtain ⟨rfl, -, -⟩ := e4
                  have f1 := hcl p _ (matVs_get n G hpn)
                  have f2 := hcl cN _ (matVs_get n G hcN.2)
                  have rp := (HM.out.1 p hpn).2
                  have RP := Lib.hid rp
                  have HGP := Lib.hid (HM.out.1 p hpn).1
                  have rc := (HM.out.1 cN hcN.2).2
                  have f3 := (rp.cell q).trans (matRow_get _ hqn)
                  have f4 := (rc.cell q).trans (matRow_get _ hqn)
                  have f5 := rp.free q
                  have f6 := rp.lt
                  have f0 := R1.out.cell 4; have l1 := R1.out.lt
                  simp only [List.getElem?_toArray, List.getElem?_cons_zero, List.getElem?_cons_succ] at f0
                  obtain ⟨a, ha⟩ : ∃ a, a = partK t ⟨xlab, xl, xr⟩ kk q := ⟨_, rfl⟩
                  obtain ⟨m, hm⟩ : ∃ m, m = ancS t cN q := ⟨_, rfl⟩
                  have e3 : matP t p (fun j => if j < q then partK t ⟨xlab, xl, xr⟩ kk j || gotK t cN j else partK t ⟨xlab, xl, xr⟩ kk j) p q = a := by
                    unfold matP; rw [if_pos rfl]; dsimp only; rw [if_neg (by omega), ha]
                  have e4 : matP t p (fun j => if j < q then partK t ⟨xlab, xl, xr⟩ kk j || gotK t cN j else partK t ⟨xlab, xl, xr⟩ kk j) cN q = m := by
                    unfold matP; rw [if_neg (by omega), decide_eq_true hcN.1, hm]; rfl
                  rw [e3] at f3
                  rw [e4] at f4
                  have HAM : Hid (∀ b : Bool, b = (a || (decide (q = cN) || m)) → ∀ i j, i < n → j < n → (if i = p then (if j = q then b else matP t p (fun j => if j < q then partK t ⟨xlab, xl, xr⟩ kk j || gotK t cN j else partK t ⟨xlab, xl, xr⟩ kk j) p j) else matP t p (fun j => if j < q then partK t ⟨xlab, xl, xr⟩ kk j || gotK t cN j else partK t ⟨xlab, xl, xr⟩ kk j) i j) = matP t p (fun j => if j < q + 1 then partK t ⟨xlab, xl, xr⟩ kk j || gotK t cN j else partK t ⟨xlab, xl, xr⟩ kk j) i j) := fun b hb i j hi hj => by
                    unfold matP
                    by_cases e : i = p
                    · simp only [if_pos e, if_true]
                      by_cases e5 : j = q
                      · rw [if_pos e5, if_pos (by omega), hb, ha, hm, e5, gotK_some]
                      · rw [if_neg e5]
                        by_cases e6 : j < q
                        · rw [if_pos e6, if_pos (by omega)]
                        · rw [if_neg e6, if_neg (by omega)]
                    · simp only [if_neg e]
                  have p2 : (0 : Int) ≤ q := by omega
                  have p3 : (q : Int) < n := by omega
                  have p4 : (0 : Int) ≤ cN := by omega
                  have p5 : (cN : Int) < n := by omega
                  have c44 : n ≤ c4 := HS.out.vs.len.2.1
                  have HCN := Lib.hid hcN
                  clear ha hm e3 e4 rp rc hcl hcN HKC HPS hc0
                  obtain ⟨d, hd⟩ : ∃ d, d = decide (q = cN) := ⟨_, rfl⟩
                  have hdI : ((q : Int) == (cN : Int)) = d := by rw [hd, Bool.eq_iff_iff]; simp; omega
                  rw [← hd] at HAM
                  clear hd
                  go_upto_region 19 with (fail)
                  have fin : ∀ b : Bool, b = (a || (d || m)) → (Row (wr.setCell ⟨G p, q, none⟩ (.bool b)).drew g 3 #[Value.int .i64 xl, .int .i64 xr] ∧ Row (wr.setCell ⟨G p, q, none⟩ (.bool b)).drew w.heap.size 179 #[Value.int .i64 0, .slice none 0 0, .slice none 0 0, .slice none 0 0, .slice none 0 0] ∧ Row (wr.setCell ⟨G p, q, none⟩ (.bool b)).drew (w.heap.size + 1) 179 #[Value.int .i64 n, .slice none 0 0, (.slice A2 n c2), (.slice A3 n c3), (.slice (some ⟨g4, 0, none⟩) n c4)] ∧ VO 3 (wr.setCell ⟨G p, q, none⟩ (.bool b)).drew w.heap.size (.slice A2 n c2) (lefts t) ∧ VO 3 (wr.setCell ⟨G p, q, none⟩ (.bool b)).drew w.heap.size (.slice A3 n c3) (rights t) ∧ VO 204 (wr.setCell ⟨G p, q, none⟩ (.bool b)).drew w.heap.size (.slice (some ⟨g4, 0, none⟩) n c4) (matVs n n G) ∧ MatO (wr.setCell ⟨G p, q, none⟩ (.bool b)).drew w.heap.size n n G (matP t p (fun j => if j < q + 1 then partK t ⟨xlab, xl, xr⟩ kk j || gotK t cN j else partK t ⟨xlab, xl, xr⟩ kk j)) ∧ Below w.heap.size w (wr.setCell ⟨G p, q, none⟩ (.bool b)).drew) := fun b hb =>
                    ⟨(RG.out.far (RG.out.ne RP.out (by decide)) _).drew, (R0.out.far (R0.out.ne RP.out (by decide)) _).drew, (R1.out.far (R1.out.ne RP.out (by decide)) _).drew, (HL.out.setFar (HL.out.ne_row RP.out (by decide)) _).below (Below.refl _ _).drew (Nat.le_refl _), (HR.out.setFar (HR.out.ne_row RP.out (by decide)) _).below (Below.refl _ _).drew (Nat.le_refl _), (HS.out.setFar (HS.out.ne_row RP.out (by decide)) _).below (Below.refl _ _).drew (Nat.le_refl _), ((HM.out.set hpn b).congr (HAM.out b hb)).below (Below.refl _ _).drew (Nat.le_refl _), (HB.out.setCell (p := ⟨G p, q, none⟩) HGP.out _).drew⟩
                  have FIN := Lib.hid fin
                  clear fin RG R0 R1 HL HR HS HM HB HAM
                  cases a
                  · cases d
                    · first | go_region | fail
                      go_wp2
                      go_roundg (n - (q + 1))
                      case rel => exact ⟨q + 1, hqn, rfl, by go_num, FIN.out _ rfl⟩
                      case measure => exact Nat.sub_lt_sub_left hqn (Nat.lt_succ_self q)
                    · first | go_region | fail
                      go_wp2
                      go_roundg (n - (q + 1))
                      case rel => exact ⟨q + 1, hqn, rfl, by go_num, FIN.out _ rfl⟩
                      case measure => exact Nat.sub_lt_sub_left hqn (Nat.lt_succ_self q)
                  · first | go_region | fail
                    go_wp2
                    go_roundg (n - (q + 1))
                    case rel => exact ⟨q + 1, hqn, rfl, by go_num, FIN.out _ rfl⟩
                    case measure => exact Nat.sub_lt_sub_left hqn (Nat.lt_succ_self q)
                · have HFIN : Hid (MatO wr w.heap.size n n G (matP t p (partK t ⟨xlab, xl, xr⟩ (kk + 1)))) := HM.out.congr fun i j hi hj => by
                    unfold matP
                    by_cases e : i = p
                    · rw [if_pos e, if_pos e, HPS.out j]
                      dsimp only
                      by_cases hc0 : 0 ≤ c
                      · rw [if_pos (by omega)]
                      · rw [gotK_none t (by omega)]
                        split <;> simp
                    · rw [if_neg e, if_neg e]
                  have hcs : q = n ∨ (q < n ∧ c < 0) := by omega
                  clear hqn HPS
                  rcases hcs with h1 | ⟨h1, h2⟩
                  · have h1' : ¬ q < n := by omega
                    clear h1
                    go_wp2
                    go_roundg (2 - (kk + 1))
                    case rel => exact ⟨kk + 1, by omega, rfl, by go_num, RG.out, R0.out, R1.out, HL.out, HR.out, HS.out, HFIN.out, HB.out⟩
                    case measure => omega
                  · go_wp2
                    go_roundg (2 - (kk + 1))
                    case rel => exact ⟨kk + 1, by omega, rfl, by go_num, RG.out, R0.out, R1.out, HL.out, HR.out, HS.out, HFIN.out, HB.out⟩
                    case measure => omega
            · have hkk2 : kk = 2 := by omega
              subst hkk2
              have HM2 : Hid (MatO wr w.heap.size n n G (fun i j => decide (p ≤ i) && ancS t i j)) := HM.out.congr fun i j hi hj => by
                unfold matP
                by_cases e : i = p
                · subst e; rw [if_pos rfl, decide_eq_true (Nat.le_refl _), HAN.out j]; rfl
                · rw [if_neg e]; congr 1; rw [Bool.eq_iff_iff]; simp; omega
              go_wp2
              go_roundg p
              case rel => exact ⟨p, _, by omega, rfl, by first | rfl | go_num, by omega, R0.out, R1.out, HL.out, HR.out, HS.out, HM2.out, HB.out⟩
              case measure => omega
end Go.Proofs.YtgeklibilgfjbaaDoor

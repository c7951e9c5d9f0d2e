/- Contracts: atom of the package model, for words and for trees. (Printed by gen_model.py.) -/
import Derived.Test.YtdlibehffgfhlaaDoorMdlA
import Derived.Laws.BitsAllLaws
import Derived.Deep.RegionWith
import Derived.Deep.QuietTactic
import Derived.BigQuiet
import Derived.Deep.DeepCutAuto
import Derived.Deep.RegionLaw
import Derived.Deep.RegionHeld3
set_option linter.unusedSimpArgs false
set_option linter.unusedVariables false
namespace Go.Proofs.YtdlibehffgfhlaaDoor
open Go.RowKit

theorem and_not_zero (a b : Nat) (ha : a < 18446744073709551616) (hb : b < 18446744073709551616) : (bits BinOp.andNot IntKind.u64 (a : Int) (b : Int) == 0) = decide (a &&& b = a) := by
  have h := u64_andNot_nat a b ha hb
  rw [h, Bool.eq_iff_iff]
  simp only [beq_iff_eq, decide_eq_true_eq]
  rw [show (((a &&& (18446744073709551615 - b) : Nat) : Int) = 0) = ((a &&& (18446744073709551615 - b)) = 0) by rw [← Int.natCast_zero, Int.ofNat_inj]]
  have key : ∀ i, (18446744073709551615 - b).testBit i = (decide (i < 64) && !b.testBit i) := fun i => by
    have := Nat.testBit_two_pow_sub_succ (x := b) (n := 64) (by omega) i
    rw [← this]; congr 1; omega
  have ha2 : ∀ i, 64 ≤ i → a.testBit i = false := fun i hi => Nat.testBit_lt_two_pow (Nat.lt_of_lt_of_le ha (show 2 ^ 64 ≤ 2 ^ i from Nat.pow_le_pow_right (by omega) hi))
  constructor
  · intro h0
    apply Nat.eq_of_testBit_eq
    intro i
    have h1 := congrArg (fun z => Nat.testBit z i) h0
    simp only [Nat.testBit_and, key, Nat.zero_testBit] at h1
    rw [Nat.testBit_and]
    by_cases hi : i < 64
    · simp [hi] at h1
      cases h2 : a.testBit i
      · rfl
      · simp [h1 h2]
    · rw [ha2 i (by omega)]; rfl
  · intro h0
    apply Nat.eq_of_testBit_eq
    intro i
    have h1 := congrArg (fun z => Nat.testBit z i) h0
    simp only [Nat.testBit_and] at h1
    simp only [Nat.testBit_and, key, Nat.zero_testBit]
    cases h2 : a.testBit i
    · rfl
    · rw [h2] at h1; simp at h1; simp [h1]
theorem nil_rel_W (k n : Nat) (w : World) : (nilAhead (k + 1) 95 (.int .i64 n) "sentinel/model.related").run Tryd.prog w = .ok (some false) w := by kernel_rfl
theorem meth_rel_W (k n : Nat) (w : World) : (method (k + 1) 95 (.int .i64 n) "sentinel/model.related").run Tryd.prog w = .ok (174, .int .i64 n) w := by kernel_rfl
theorem nil_size_W (k n : Nat) (w : World) : (nilAhead (k + 1) 95 (.int .i64 n) "sentinel/model.size").run Tryd.prog w = .ok (some false) w := by kernel_rfl
theorem meth_size_W (k n : Nat) (w : World) : (method (k + 1) 95 (.int .i64 n) "sentinel/model.size").run Tryd.prog w = .ok (175, .int .i64 n) w := by kernel_rfl
theorem nil_rel_T (k : Nat) (A : Option Addr) (n c : Nat) (w : World) : (nilAhead (k + 1) 107 (.slice A n c) "sentinel/model.related").run Tryd.prog w = .ok (some false) w := by kernel_rfl
theorem meth_rel_T (k : Nat) (A : Option Addr) (n c : Nat) (w : World) : (method (k + 1) 107 (.slice A n c) "sentinel/model.related").run Tryd.prog w = .ok (176, .slice A n c) w := by kernel_rfl
theorem nil_size_T (k : Nat) (A : Option Addr) (n c : Nat) (w : World) : (nilAhead (k + 1) 107 (.slice A n c) "sentinel/model.size").run Tryd.prog w = .ok (some false) w := by kernel_rfl
theorem meth_size_T (k : Nat) (A : Option Addr) (n c : Nat) (w : World) : (method (k + 1) 107 (.slice A n c) "sentinel/model.size").run Tryd.prog w = .ok (177, .slice A n c) w := by kernel_rfl
theorem log_lt {x n : Nat} (h : isOne x = true) (hx : x < 2 ^ n) : Nat.log2 x < n := by
  have e : x = 2 ^ Nat.log2 x := of_decide_eq_true h
  rw [e] at hx
  exact (Nat.pow_lt_pow_iff_right (by omega)).1 hx
theorem six_at (b0 b1 b2 b3 b4 b5 x : Nat) (hx : x < 6) : (#[Value.int .u64 b0, .int .u64 b1, .int .u64 b2, .int .u64 b3, .int .u64 b4, .int .u64 b5] : Array Value)[x]? = some (.int .u64 ([b0, b1, b2, b3, b4, b5].getD x 0 : Nat)) := by
  have : x = 0 ∨ x = 1 ∨ x = 2 ∨ x = 3 ∨ x = 4 ∨ x = 5 := by omega
  rcases this with rfl | rfl | rfl | rfl | rfl | rfl <;> rfl
theorem six_mem (b0 b1 b2 b3 b4 b5 x : Nat) (hx : x < 6) : [b0, b1, b2, b3, b4, b5].getD x 0 ∈ [b0, b1, b2, b3, b4, b5] := by
  rw [List.getD_eq_getElem?_getD, List.getElem?_eq_getElem (by simpa using hx)]
  exact List.getElem_mem _

set_option maxRecDepth 100000 in
set_option maxHeartbeats 2000000 in
theorem atom_W (n : Nat) (hn : n ≤ 64) (op : Int) (x y : Nat) (hx : x < 6) (hy : y < 6) (b0 b1 b2 b3 b4 b5 : Nat) (hb : ∀ v ∈ [b0, b1, b2, b3, b4, b5], v < 2 ^ n) (w : World) (hT : DB w) :
    Calls Tryd.prog 128 #[.iface 95 (.int .i64 n), .agg #[.int .u8 op, .int .i64 x, .int .i64 y, .int .i64 0, .int .i64 0], .agg #[.int .u64 b0, .int .u64 b1, .int .u64 b2, .int .u64 b3, .int .u64 b4, .int .u64 b5]] w fun e w' => e = .returned (.bool (atomS (stcWord n) op ([b0, b1, b2, b3, b4, b5].getD x 0) ([b0, b1, b2, b3, b4, b5].getD y 0))) ∧ Below w.heap.size w w' := by
  have hx6 := six_at b0 b1 b2 b3 b4 b5 x hx
  have hy6 := six_at b0 b1 b2 b3 b4 b5 y hy
  have HX6 := Lib.hid hx6; have HY6 := Lib.hid hy6
  have hX := hb _ (six_mem b0 b1 b2 b3 b4 b5 x hx)
  have hY := hb _ (six_mem b0 b1 b2 b3 b4 b5 y hy)
  clear hx6 hy6
  generalize [b0, b1, b2, b3, b4, b5].getD x 0 = X at *
  generalize [b0, b1, b2, b3, b4, b5].getD y 0 = Y at *
  have h64 : 2 ^ n ≤ 2 ^ 64 := Nat.pow_le_pow_right (by omega) (by omega)
  have HX : Hid (X < 18446744073709551616) := Nat.lt_of_lt_of_le hX h64
  have HY : Hid (Y < 18446744073709551616) := Nat.lt_of_lt_of_le hY h64
  have hand := and_not_zero X Y HX.out HY.out
  have hz : ((X : Int) == 0) = decide (X = 0) := by rw [Bool.eq_iff_iff]; simp
  have HT := Lib.hid hT; clear hT
  have L1 := Lib.hid hX; have L2 := Lib.hid hY; clear hX hY h64 hb
  have cx : Hid (isOne X = true → (Lib.ctz 64 X : Nat) = Nat.log2 X ∧ Nat.log2 X < n) := fun h => ⟨ctz_one HX.out h, log_lt h L1.out⟩
  have cy : Hid (isOne Y = true → (Lib.ctz 64 Y : Nat) = Nat.log2 Y ∧ Nat.log2 Y < n) := fun h => ⟨ctz_one HY.out h, log_lt h L2.out⟩
  have n1 := nil_rel_W; have n2 := meth_rel_W
  have HA := Lib.hid (show atomS (stcWord n) op X Y = atomS (stcWord n) op X Y from rfl)
  obtain ⟨R, hR⟩ : ∃ R, R = atomS (stcWord n) op X Y := ⟨_, rfl⟩
  rw [← hR]
  have HR := Lib.hid hR; clear hR HA
  by_cases h1 : op = 1
  · have hR : R = true := by rw [HR.out, atomS, if_pos h1]
    rw [hR]; clear hR; subst h1
    go_enter Tryd.func128, Tryd.ntmps128
    go_upto_region 1 with (fail)
    refine wp_abs (fun W => (∀ j, W.cell? ⟨w.heap.size, j, none⟩ = #[Value.int .u8 1, .int .i64 x, .int .i64 y, .int .i64 0, .int .i64 0][j]?) ∧ W.cell? ⟨w.heap.size + 1, x, none⟩ = some (.int .u64 X) ∧ W.cell? ⟨w.heap.size + 1, y, none⟩ = some (.int .u64 Y) ∧ w.heap.size + 1 < W.heap.size ∧ Hid (Below w.heap.size w W)) ?_ ?_
    · exact ⟨((Row.new w 23 _).alloc _).cell, (Row.lit (by simp only [World.size_alloc])).cell x |>.trans HX6.out, (Row.lit (by simp only [World.size_alloc])).cell y |>.trans HY6.out, by simp only [World.size_alloc]; omega, by unfold Hid; go_grown⟩
    rintro W ⟨m0, mx, my, mz, HB⟩
    have mz0 : w.heap.size < W.heap.size := by omega
    go_wp2_with (first
      | (go_at_call 142; (with_reducible refine (element_any X HX.out _ (DB.below HT.out HB.out (Nat.le_refl _))).mono ?_); rintro e w1 ⟨rfl, rfl⟩)
      | (go_at_call 142; (with_reducible refine (element_any Y HY.out _ (DB.below HT.out HB.out (Nat.le_refl _))).mono ?_); rintro e w2 ⟨rfl, rfl⟩))
    go_returns
    exact ⟨rfl, by have := HB.out; go_grown⟩
  by_cases h2 : op = 2
  · have hR : R = decide (X &&& Y = X) := by rw [HR.out, atomS, if_neg h1, if_pos h2]
    rw [hR]; clear hR h1; subst h2
    go_enter Tryd.func128, Tryd.ntmps128
    go_upto_region 1 with (fail)
    refine wp_abs (fun W => (∀ j, W.cell? ⟨w.heap.size, j, none⟩ = #[Value.int .u8 2, .int .i64 x, .int .i64 y, .int .i64 0, .int .i64 0][j]?) ∧ W.cell? ⟨w.heap.size + 1, x, none⟩ = some (.int .u64 X) ∧ W.cell? ⟨w.heap.size + 1, y, none⟩ = some (.int .u64 Y) ∧ w.heap.size + 1 < W.heap.size ∧ Hid (Below w.heap.size w W)) ?_ ?_
    · exact ⟨((Row.new w 23 _).alloc _).cell, (Row.lit (by simp only [World.size_alloc])).cell x |>.trans HX6.out, (Row.lit (by simp only [World.size_alloc])).cell y |>.trans HY6.out, by simp only [World.size_alloc]; omega, by unfold Hid; go_grown⟩
    rintro W ⟨m0, mx, my, mz, HB⟩
    have mz0 : w.heap.size < W.heap.size := by omega
    go_wp2_with (first
      | (go_at_call 142; (with_reducible refine (element_any X HX.out _ (DB.below HT.out HB.out (Nat.le_refl _))).mono ?_); rintro e w1 ⟨rfl, rfl⟩)
      | (go_at_call 142; (with_reducible refine (element_any Y HY.out _ (DB.below HT.out HB.out (Nat.le_refl _))).mono ?_); rintro e w2 ⟨rfl, rfl⟩))
    go_region
    go_wp2
    go_returns
    exact ⟨rfl, by have := HB.out; go_grown⟩
  by_cases h3 : op = 3
  · have hR : R = decide (X = 0) := by rw [HR.out, atomS, if_neg h1, if_neg h2, if_pos h3]
    rw [hR]; clear hR h1 h2; subst h3
    go_enter Tryd.func128, Tryd.ntmps128
    go_upto_region 1 with (fail)
    refine wp_abs (fun W => (∀ j, W.cell? ⟨w.heap.size, j, none⟩ = #[Value.int .u8 3, .int .i64 x, .int .i64 y, .int .i64 0, .int .i64 0][j]?) ∧ W.cell? ⟨w.heap.size + 1, x, none⟩ = some (.int .u64 X) ∧ W.cell? ⟨w.heap.size + 1, y, none⟩ = some (.int .u64 Y) ∧ w.heap.size + 1 < W.heap.size ∧ Hid (Below w.heap.size w W)) ?_ ?_
    · exact ⟨((Row.new w 23 _).alloc _).cell, (Row.lit (by simp only [World.size_alloc])).cell x |>.trans HX6.out, (Row.lit (by simp only [World.size_alloc])).cell y |>.trans HY6.out, by simp only [World.size_alloc]; omega, by unfold Hid; go_grown⟩
    rintro W ⟨m0, mx, my, mz, HB⟩
    have mz0 : w.heap.size < W.heap.size := by omega
    go_wp2_with (first
      | (go_at_call 142; (with_reducible refine (element_any X HX.out _ (DB.below HT.out HB.out (Nat.le_refl _))).mono ?_); rintro e w1 ⟨rfl, rfl⟩)
      | (go_at_call 142; (with_reducible refine (element_any Y HY.out _ (DB.below HT.out HB.out (Nat.le_refl _))).mono ?_); rintro e w2 ⟨rfl, rfl⟩))
    go_returns
    exact ⟨rfl, by have := HB.out; go_grown⟩
  by_cases h4 : op = 4
  · have hR : R = isOne X := by rw [HR.out, atomS, if_neg h1, if_neg h2, if_neg h3, if_pos h4]
    rw [hR]; clear hR h1 h2 h3; subst h4
    go_enter Tryd.func128, Tryd.ntmps128
    go_upto_region 1 with (fail)
    refine wp_abs (fun W => (∀ j, W.cell? ⟨w.heap.size, j, none⟩ = #[Value.int .u8 4, .int .i64 x, .int .i64 y, .int .i64 0, .int .i64 0][j]?) ∧ W.cell? ⟨w.heap.size + 1, x, none⟩ = some (.int .u64 X) ∧ W.cell? ⟨w.heap.size + 1, y, none⟩ = some (.int .u64 Y) ∧ w.heap.size + 1 < W.heap.size ∧ Hid (Below w.heap.size w W)) ?_ ?_
    · exact ⟨((Row.new w 23 _).alloc _).cell, (Row.lit (by simp only [World.size_alloc])).cell x |>.trans HX6.out, (Row.lit (by simp only [World.size_alloc])).cell y |>.trans HY6.out, by simp only [World.size_alloc]; omega, by unfold Hid; go_grown⟩
    rintro W ⟨m0, mx, my, mz, HB⟩
    have mz0 : w.heap.size < W.heap.size := by omega
    go_wp2_with (first
      | (go_at_call 142; (with_reducible refine (element_any X HX.out _ (DB.below HT.out HB.out (Nat.le_refl _))).mono ?_); rintro e w1 ⟨rfl, rfl⟩)
      | (go_at_call 142; (with_reducible refine (element_any Y HY.out _ (DB.below HT.out HB.out (Nat.le_refl _))).mono ?_); rintro e w2 ⟨rfl, rfl⟩))
    go_returns
    exact ⟨rfl, by have := HB.out; go_grown⟩
  have hR : R = (isOne X && isOne Y && Stc.rel (stcWord n) op (Nat.log2 X) (Nat.log2 Y)) := by rw [HR.out, atomS, if_neg h1, if_neg h2, if_neg h3, if_neg h4]
  have q1 : (op == 1) = false := by simp [h1]
  have q2 : (op == 2) = false := by simp [h2]
  have q3 : (op == 3) = false := by simp [h3]
  have q4 : (op == 4) = false := by simp [h4]
  replace HR := Lib.hid hR
  clear hR h1 h2 h3 h4 hand hz
  cases hox : isOne X
  · have hR : R = false := by rw [HR.out, hox]; rfl
    rw [hR]; clear hR
    have HOX := Lib.hid hox; clear hox
    go_enter Tryd.func128, Tryd.ntmps128
    go_upto_region 1 with (fail)
    refine wp_abs (fun W => (∀ j, W.cell? ⟨w.heap.size, j, none⟩ = #[Value.int .u8 op, .int .i64 x, .int .i64 y, .int .i64 0, .int .i64 0][j]?) ∧ W.cell? ⟨w.heap.size + 1, x, none⟩ = some (.int .u64 X) ∧ W.cell? ⟨w.heap.size + 1, y, none⟩ = some (.int .u64 Y) ∧ w.heap.size + 1 < W.heap.size ∧ Hid (Below w.heap.size w W)) ?_ ?_
    · exact ⟨((Row.new w 23 _).alloc _).cell, (Row.lit (by simp only [World.size_alloc])).cell x |>.trans HX6.out, (Row.lit (by simp only [World.size_alloc])).cell y |>.trans HY6.out, by simp only [World.size_alloc]; omega, by unfold Hid; go_grown⟩
    rintro W ⟨m0, mx, my, mz, HB⟩
    have mz0 : w.heap.size < W.heap.size := by omega
    go_wp2_with (first
      | (go_at_call 142; (with_reducible refine (element_any X HX.out _ (DB.below HT.out HB.out (Nat.le_refl _))).mono ?_); rintro e w1 ⟨rfl, rfl⟩; rw [HOX.out])
      | (go_at_call 142; (with_reducible refine (element_any Y HY.out _ (DB.below HT.out HB.out (Nat.le_refl _))).mono ?_); rintro e w2 ⟨rfl, rfl⟩; (first | rw [HOY.out] | skip)))
    go_returns
    exact ⟨rfl, by have := HB.out; go_grown⟩
  cases hoy : isOne Y
  · have hR : R = false := by rw [HR.out, hox, hoy]; rfl
    rw [hR]; clear hR
    have HOX := Lib.hid hox; clear hox
    have HOY := Lib.hid hoy; clear hoy
    go_enter Tryd.func128, Tryd.ntmps128
    go_upto_region 1 with (fail)
    refine wp_abs (fun W => (∀ j, W.cell? ⟨w.heap.size, j, none⟩ = #[Value.int .u8 op, .int .i64 x, .int .i64 y, .int .i64 0, .int .i64 0][j]?) ∧ W.cell? ⟨w.heap.size + 1, x, none⟩ = some (.int .u64 X) ∧ W.cell? ⟨w.heap.size + 1, y, none⟩ = some (.int .u64 Y) ∧ w.heap.size + 1 < W.heap.size ∧ Hid (Below w.heap.size w W)) ?_ ?_
    · exact ⟨((Row.new w 23 _).alloc _).cell, (Row.lit (by simp only [World.size_alloc])).cell x |>.trans HX6.out, (Row.lit (by simp only [World.size_alloc])).cell y |>.trans HY6.out, by simp only [World.size_alloc]; omega, by unfold Hid; go_grown⟩
    rintro W ⟨m0, mx, my, mz, HB⟩
    have mz0 : w.heap.size < W.heap.size := by omega
    go_wp2_with (first
      | (go_at_call 142; (with_reducible refine (element_any X HX.out _ (DB.below HT.out HB.out (Nat.le_refl _))).mono ?_); rintro e w1 ⟨rfl, rfl⟩; rw [HOX.out])
      | (go_at_call 142; (with_reducible refine (element_any Y HY.out _ (DB.below HT.out HB.out (Nat.le_refl _))).mono ?_); rintro e w2 ⟨rfl, rfl⟩; (first | rw [HOY.out] | skip)))
    go_returns
    exact ⟨rfl, by have := HB.out; go_grown⟩
  have hR : R = Stc.rel (stcWord n) op (Nat.log2 X) (Nat.log2 Y) := by rw [HR.out, hox, hoy]; rfl
  rw [hR]
  obtain ⟨ex, lx⟩ := cx.out hox
  obtain ⟨ey, ly⟩ := cy.out hoy
  generalize Nat.log2 X = p at *
  generalize Nat.log2 Y = q at *
  have LX := Lib.hid lx; have LY := Lib.hid ly; have EX := Lib.hid ex; have EY := Lib.hid ey
  have HOX := Lib.hid hox; have HOY := Lib.hid hoy
  clear hR hox hoy lx ly ex ey
  go_enter Tryd.func128, Tryd.ntmps128
  go_upto_region 1 with (fail)
  refine wp_abs (fun W => (∀ j, W.cell? ⟨w.heap.size, j, none⟩ = #[Value.int .u8 op, .int .i64 x, .int .i64 y, .int .i64 0, .int .i64 0][j]?) ∧ W.cell? ⟨w.heap.size + 1, x, none⟩ = some (.int .u64 X) ∧ W.cell? ⟨w.heap.size + 1, y, none⟩ = some (.int .u64 Y) ∧ w.heap.size + 1 < W.heap.size ∧ Hid (Below w.heap.size w W)) ?_ ?_
  · exact ⟨((Row.new w 23 _).alloc _).cell, (Row.lit (by simp only [World.size_alloc])).cell x |>.trans HX6.out, (Row.lit (by simp only [World.size_alloc])).cell y |>.trans HY6.out, by simp only [World.size_alloc]; omega, by unfold Hid; go_grown⟩
  rintro W ⟨m0, mx, my, mz, HB⟩
  have mz0 : w.heap.size < W.heap.size := by omega
  go_wp2_with (first
    | (go_at_call 142; (with_reducible refine (element_any X HX.out _ (DB.below HT.out HB.out (Nat.le_refl _))).mono ?_); rintro e w1 ⟨rfl, rfl⟩; rw [HOX.out, EX.out])
    | (go_at_call 142; (with_reducible refine (element_any Y HY.out _ (DB.below HT.out HB.out (Nat.le_refl _))).mono ?_); rintro e w2 ⟨rfl, rfl⟩; rw [HOY.out, EY.out])
    | (go_at_call 174; go_must ((with_reducible refine (posrel_any n op p q (by have := LX.out; omega) (by have := LY.out; omega) _).mono ?_); rintro e w3 ⟨rfl, rfl⟩)))
  go_returns
  exact ⟨rfl, HB.out⟩

set_option maxRecDepth 100000 in
set_option maxHeartbeats 2000000 in
theorem atom_T (t : List Lf) (A : Option Addr) (n c : Nat) (hn : n = t.length) (hk : KidsOk t) (hl : n ≤ 31) (op : Int) (x y : Nat) (hx : x < 6) (hy : y < 6) (b0 b1 b2 b3 b4 b5 : Nat) (hb : ∀ v ∈ [b0, b1, b2, b3, b4, b5], v < 2 ^ n) (w : World) (hT : DB w) (hv : TS w (.slice A n c) t) :
    Calls Tryd.prog 128 #[.iface 107 (.slice A n c), .agg #[.int .u8 op, .int .i64 x, .int .i64 y, .int .i64 0, .int .i64 0], .agg #[.int .u64 b0, .int .u64 b1, .int .u64 b2, .int .u64 b3, .int .u64 b4, .int .u64 b5]] w fun e w' => e = .returned (.bool (atomS (stcTree t) op ([b0, b1, b2, b3, b4, b5].getD x 0) ([b0, b1, b2, b3, b4, b5].getD y 0))) ∧ Below w.heap.size w w' := by
  have hx6 := six_at b0 b1 b2 b3 b4 b5 x hx
  have hy6 := six_at b0 b1 b2 b3 b4 b5 y hy
  have HX6 := Lib.hid hx6; have HY6 := Lib.hid hy6
  have hX := hb _ (six_mem b0 b1 b2 b3 b4 b5 x hx)
  have hY := hb _ (six_mem b0 b1 b2 b3 b4 b5 y hy)
  clear hx6 hy6
  generalize [b0, b1, b2, b3, b4, b5].getD x 0 = X at *
  generalize [b0, b1, b2, b3, b4, b5].getD y 0 = Y at *
  have h64 : 2 ^ n ≤ 2 ^ 64 := Nat.pow_le_pow_right (by omega) (by omega)
  have HX : Hid (X < 18446744073709551616) := Nat.lt_of_lt_of_le hX h64
  have HY : Hid (Y < 18446744073709551616) := Nat.lt_of_lt_of_le hY h64
  have hand := and_not_zero X Y HX.out HY.out
  have hz : ((X : Int) == 0) = decide (X = 0) := by rw [Bool.eq_iff_iff]; simp
  have HT := Lib.hid hT; clear hT
  have HV := Lib.hid hv; clear hv
  have HN := Lib.hid hn; clear hn
  have L1 := Lib.hid hX; have L2 := Lib.hid hY; clear hX hY h64 hb
  have cx : Hid (isOne X = true → (Lib.ctz 64 X : Nat) = Nat.log2 X ∧ Nat.log2 X < n) := fun h => ⟨ctz_one HX.out h, log_lt h L1.out⟩
  have cy : Hid (isOne Y = true → (Lib.ctz 64 Y : Nat) = Nat.log2 Y ∧ Nat.log2 Y < n) := fun h => ⟨ctz_one HY.out h, log_lt h L2.out⟩
  have n1 := nil_rel_T; have n2 := meth_rel_T
  have HA := Lib.hid (show atomS (stcTree t) op X Y = atomS (stcTree t) op X Y from rfl)
  obtain ⟨R, hR⟩ : ∃ R, R = atomS (stcTree t) op X Y := ⟨_, rfl⟩
  rw [← hR]
  have HR := Lib.hid hR; clear hR HA
  by_cases h1 : op = 1
  · have hR : R = true := by rw [HR.out, atomS, if_pos h1]
    rw [hR]; clear hR; subst h1
    go_enter Tryd.func128, Tryd.ntmps128
    go_upto_region 1 with (fail)
    refine wp_abs (fun W => (∀ j, W.cell? ⟨w.heap.size, j, none⟩ = #[Value.int .u8 1, .int .i64 x, .int .i64 y, .int .i64 0, .int .i64 0][j]?) ∧ W.cell? ⟨w.heap.size + 1, x, none⟩ = some (.int .u64 X) ∧ W.cell? ⟨w.heap.size + 1, y, none⟩ = some (.int .u64 Y) ∧ w.heap.size + 1 < W.heap.size ∧ Hid (Below w.heap.size w W)) ?_ ?_
    · exact ⟨((Row.new w 23 _).alloc _).cell, (Row.lit (by simp only [World.size_alloc])).cell x |>.trans HX6.out, (Row.lit (by simp only [World.size_alloc])).cell y |>.trans HY6.out, by simp only [World.size_alloc]; omega, by unfold Hid; go_grown⟩
    rintro W ⟨m0, mx, my, mz, HB⟩
    have mz0 : w.heap.size < W.heap.size := by omega
    go_wp2_with (first
      | (go_at_call 142; (with_reducible refine (element_any X HX.out _ (DB.below HT.out HB.out (Nat.le_refl _))).mono ?_); rintro e w1 ⟨rfl, rfl⟩)
      | (go_at_call 142; (with_reducible refine (element_any Y HY.out _ (DB.below HT.out HB.out (Nat.le_refl _))).mono ?_); rintro e w2 ⟨rfl, rfl⟩))
    go_returns
    exact ⟨rfl, by have := HB.out; go_grown⟩
  by_cases h2 : op = 2
  · have hR : R = decide (X &&& Y = X) := by rw [HR.out, atomS, if_neg h1, if_pos h2]
    rw [hR]; clear hR h1; subst h2
    go_enter Tryd.func128, Tryd.ntmps128
    go_upto_region 1 with (fail)
    refine wp_abs (fun W => (∀ j, W.cell? ⟨w.heap.size, j, none⟩ = #[Value.int .u8 2, .int .i64 x, .int .i64 y, .int .i64 0, .int .i64 0][j]?) ∧ W.cell? ⟨w.heap.size + 1, x, none⟩ = some (.int .u64 X) ∧ W.cell? ⟨w.heap.size + 1, y, none⟩ = some (.int .u64 Y) ∧ w.heap.size + 1 < W.heap.size ∧ Hid (Below w.heap.size w W)) ?_ ?_
    · exact ⟨((Row.new w 23 _).alloc _).cell, (Row.lit (by simp only [World.size_alloc])).cell x |>.trans HX6.out, (Row.lit (by simp only [World.size_alloc])).cell y |>.trans HY6.out, by simp only [World.size_alloc]; omega, by unfold Hid; go_grown⟩
    rintro W ⟨m0, mx, my, mz, HB⟩
    have mz0 : w.heap.size < W.heap.size := by omega
    go_wp2_with (first
      | (go_at_call 142; (with_reducible refine (element_any X HX.out _ (DB.below HT.out HB.out (Nat.le_refl _))).mono ?_); rintro e w1 ⟨rfl, rfl⟩)
      | (go_at_call 142; (with_reducible refine (element_any Y HY.out _ (DB.below HT.out HB.out (Nat.le_refl _))).mono ?_); rintro e w2 ⟨rfl, rfl⟩))
    go_region
    go_wp2
    go_returns
    exact ⟨rfl, by have := HB.out; go_grown⟩
  by_cases h3 : op = 3
  · have hR : R = decide (X = 0) := by rw [HR.out, atomS, if_neg h1, if_neg h2, if_pos h3]
    rw [hR]; clear hR h1 h2; subst h3
    go_enter Tryd.func128, Tryd.ntmps128
    go_upto_region 1 with (fail)
    refine wp_abs (fun W => (∀ j, W.cell? ⟨w.heap.size, j, none⟩ = #[Value.int .u8 3, .int .i64 x, .int .i64 y, .int .i64 0, .int .i64 0][j]?) ∧ W.cell? ⟨w.heap.size + 1, x, none⟩ = some (.int .u64 X) ∧ W.cell? ⟨w.heap.size + 1, y, none⟩ = some (.int .u64 Y) ∧ w.heap.size + 1 < W.heap.size ∧ Hid (Below w.heap.size w W)) ?_ ?_
    · exact ⟨((Row.new w 23 _).alloc _).cell, (Row.lit (by simp only [World.size_alloc])).cell x |>.trans HX6.out, (Row.lit (by simp only [World.size_alloc])).cell y |>.trans HY6.out, by simp only [World.size_alloc]; omega, by unfold Hid; go_grown⟩
    rintro W ⟨m0, mx, my, mz, HB⟩
    have mz0 : w.heap.size < W.heap.size := by omega
    go_wp2_with (first
      | (go_at_call 142; (with_reducible refine (element_any X HX.out _ (DB.below HT.out HB.out (Nat.le_refl _))).mono ?_); rintro e w1 ⟨rfl, rfl⟩)
      | (go_at_call 142; (with_reducible refine (element_any Y HY.out _ (DB.below HT.out HB.out (Nat.le_refl _))).mono ?_); rintro e w2 ⟨rfl, rfl⟩))
    go_returns
    exact ⟨rfl, by have := HB.out; go_grown⟩
  by_cases h4 : op = 4
  · have hR : R = isOne X := by rw [HR.out, atomS, if_neg h1, if_neg h2, if_neg h3, if_pos h4]
    rw [hR]; clear hR h1 h2 h3; subst h4
    go_enter Tryd.func128, Tryd.ntmps128
    go_upto_region 1 with (fail)
    refine wp_abs (fun W => (∀ j, W.cell? ⟨w.heap.size, j, none⟩ = #[Value.int .u8 4, .int .i64 x, .int .i64 y, .int .i64 0, .int .i64 0][j]?) ∧ W.cell? ⟨w.heap.size + 1, x, none⟩ = some (.int .u64 X) ∧ W.cell? ⟨w.heap.size + 1, y, none⟩ = some (.int .u64 Y) ∧ w.heap.size + 1 < W.heap.size ∧ Hid (Below w.heap.size w W)) ?_ ?_
    · exact ⟨((Row.new w 23 _).alloc _).cell, (Row.lit (by simp only [World.size_alloc])).cell x |>.trans HX6.out, (Row.lit (by simp only [World.size_alloc])).cell y |>.trans HY6.out, by simp only [World.size_alloc]; omega, by unfold Hid; go_grown⟩
    rintro W ⟨m0, mx, my, mz, HB⟩
    have mz0 : w.heap.size < W.heap.size := by omega
    go_wp2_with (first
      | (go_at_call 142; (with_reducible refine (element_any X HX.out _ (DB.below HT.out HB.out (Nat.le_refl _))).mono ?_); rintro e w1 ⟨rfl, rfl⟩)
      | (go_at_call 142; (with_reducible refine (element_any Y HY.out _ (DB.below HT.out HB.out (Nat.le_refl _))).mono ?_); rintro e w2 ⟨rfl, rfl⟩))
    go_returns
    exact ⟨rfl, by have := HB.out; go_grown⟩
  have hR : R = (isOne X && isOne Y && Stc.rel (stcTree t) op (Nat.log2 X) (Nat.log2 Y)) := by rw [HR.out, atomS, if_neg h1, if_neg h2, if_neg h3, if_neg h4]
  have q1 : (op == 1) = false := by simp [h1]
  have q2 : (op == 2) = false := by simp [h2]
  have q3 : (op == 3) = false := by simp [h3]
  have q4 : (op == 4) = false := by simp [h4]
  replace HR := Lib.hid hR
  clear hR h1 h2 h3 h4 hand hz
  cases hox : isOne X
  · have hR : R = false := by rw [HR.out, hox]; rfl
    rw [hR]; clear hR
    have HOX := Lib.hid hox; clear hox
    go_enter Tryd.func128, Tryd.ntmps128
    go_upto_region 1 with (fail)
    refine wp_abs (fun W => (∀ j, W.cell? ⟨w.heap.size, j, none⟩ = #[Value.int .u8 op, .int .i64 x, .int .i64 y, .int .i64 0, .int .i64 0][j]?) ∧ W.cell? ⟨w.heap.size + 1, x, none⟩ = some (.int .u64 X) ∧ W.cell? ⟨w.heap.size + 1, y, none⟩ = some (.int .u64 Y) ∧ w.heap.size + 1 < W.heap.size ∧ Hid (Below w.heap.size w W)) ?_ ?_
    · exact ⟨((Row.new w 23 _).alloc _).cell, (Row.lit (by simp only [World.size_alloc])).cell x |>.trans HX6.out, (Row.lit (by simp only [World.size_alloc])).cell y |>.trans HY6.out, by simp only [World.size_alloc]; omega, by unfold Hid; go_grown⟩
    rintro W ⟨m0, mx, my, mz, HB⟩
    have mz0 : w.heap.size < W.heap.size := by omega
    go_wp2_with (first
      | (go_at_call 142; (with_reducible refine (element_any X HX.out _ (DB.below HT.out HB.out (Nat.le_refl _))).mono ?_); rintro e w1 ⟨rfl, rfl⟩; rw [HOX.out])
      | (go_at_call 142; (with_reducible refine (element_any Y HY.out _ (DB.below HT.out HB.out (Nat.le_refl _))).mono ?_); rintro e w2 ⟨rfl, rfl⟩; (first | rw [HOY.out] | skip)))
    go_returns
    exact ⟨rfl, by have := HB.out; go_grown⟩
  cases hoy : isOne Y
  · have hR : R = false := by rw [HR.out, hox, hoy]; rfl
    rw [hR]; clear hR
    have HOX := Lib.hid hox; clear hox
    have HOY := Lib.hid hoy; clear hoy
    go_enter Tryd.func128, Tryd.ntmps128
    go_upto_region 1 with (fail)
    refine wp_abs (fun W => (∀ j, W.cell? ⟨w.heap.size, j, none⟩ = #[Value.int .u8 op, .int .i64 x, .int .i64 y, .int .i64 0, .int .i64 0][j]?) ∧ W.cell? ⟨w.heap.size + 1, x, none⟩ = some (.int .u64 X) ∧ W.cell? ⟨w.heap.size + 1, y, none⟩ = some (.int .u64 Y) ∧ w.heap.size + 1 < W.heap.size ∧ Hid (Below w.heap.size w W)) ?_ ?_
    · exact ⟨((Row.new w 23 _).alloc _).cell, (Row.lit (by simp only [World.size_alloc])).cell x |>.trans HX6.out, (Row.lit (by simp only [World.size_alloc])).cell y |>.trans HY6.out, by simp only [World.size_alloc]; omega, by unfold Hid; go_grown⟩
    rintro W ⟨m0, mx, my, mz, HB⟩
    have mz0 : w.heap.size < W.heap.size := by omega
    go_wp2_with (first
      | (go_at_call 142; (with_reducible refine (element_any X HX.out _ (DB.below HT.out HB.out (Nat.le_refl _))).mono ?_); rintro e w1 ⟨rfl, rfl⟩; rw [HOX.out])
      | (go_at_call 142; (with_reducible refine (element_any Y HY.out _ (DB.below HT.out HB.out (Nat.le_refl _))).mono ?_); rintro e w2 ⟨rfl, rfl⟩; (first | rw [HOY.out] | skip)))
    go_returns
    exact ⟨rfl, by have := HB.out; go_grown⟩
  have hR : R = Stc.rel (stcTree t) op (Nat.log2 X) (Nat.log2 Y) := by rw [HR.out, hox, hoy]; rfl
  rw [hR]
  obtain ⟨ex, lx⟩ := cx.out hox
  obtain ⟨ey, ly⟩ := cy.out hoy
  generalize Nat.log2 X = p at *
  generalize Nat.log2 Y = q at *
  have LX := Lib.hid lx; have LY := Lib.hid ly; have EX := Lib.hid ex; have EY := Lib.hid ey
  have HOX := Lib.hid hox; have HOY := Lib.hid hoy
  clear hR hox hoy lx ly ex ey
  go_enter Tryd.func128, Tryd.ntmps128
  go_upto_region 1 with (fail)
  refine wp_abs (fun W => (∀ j, W.cell? ⟨w.heap.size, j, none⟩ = #[Value.int .u8 op, .int .i64 x, .int .i64 y, .int .i64 0, .int .i64 0][j]?) ∧ W.cell? ⟨w.heap.size + 1, x, none⟩ = some (.int .u64 X) ∧ W.cell? ⟨w.heap.size + 1, y, none⟩ = some (.int .u64 Y) ∧ w.heap.size + 1 < W.heap.size ∧ Hid (Below w.heap.size w W)) ?_ ?_
  · exact ⟨((Row.new w 23 _).alloc _).cell, (Row.lit (by simp only [World.size_alloc])).cell x |>.trans HX6.out, (Row.lit (by simp only [World.size_alloc])).cell y |>.trans HY6.out, by simp only [World.size_alloc]; omega, by unfold Hid; go_grown⟩
  rintro W ⟨m0, mx, my, mz, HB⟩
  have mz0 : w.heap.size < W.heap.size := by omega
  go_wp2_with (first
    | (go_at_call 142; (with_reducible refine (element_any X HX.out _ (DB.below HT.out HB.out (Nat.le_refl _))).mono ?_); rintro e w1 ⟨rfl, rfl⟩; rw [HOX.out, EX.out])
    | (go_at_call 142; (with_reducible refine (element_any Y HY.out _ (DB.below HT.out HB.out (Nat.le_refl _))).mono ?_); rintro e w2 ⟨rfl, rfl⟩; rw [HOY.out, EY.out])
    | (go_at_call 176; go_must ((with_reducible refine (nodrel_any t _ op hk (by have := HN.out; omega) p q _ (by have := LX.out; have := HN.out; omega) (by have := LY.out; omega) (HV.out.below HB.out (Nat.le_refl _))).mono ?_); rintro e w3 ⟨rfl, hb3⟩; have HB3 : Hid (Below w.heap.size w w3) := HB.out.trans (hb3.mono HB.out.size); clear hb3)))
  go_returns
  exact ⟨rfl, HB3.out⟩
end Go.Proofs.YtdlibehffgfhlaaDoor

/- Contracts: OnesCount64, element, and the two structures of the package model. -/
/- Contracts: atom of the package model, for words and for trees. (Printed by gen_model.py.) -/
import Derived.Test.YtgeklibilgfjbaaDoorBase
import Derived.Test.YtgeklibilgfjbaaDoorLfA
import Derived.Test.YtgeklibilgfjbaaDoorOnes
import Derived.Laws.Bits64b
import Derived.Shelf.Spec.TrailingZeros
import Derived.Laws.BitsAllLaws
import Derived.Deep.RegionWith
import Derived.Deep.QuietTactic
import Derived.BigQuiet
import Derived.Deep.DeepCutAuto
import Derived.Deep.RegionLaw
import Derived.Deep.RegionHeld3
set_option linter.unusedSimpArgs false
set_option linter.unusedVariables false
namespace Go.Proofs.YtgeklibilgfjbaaDoor
open Go.RowKit

theorem u64_in (n : Nat) (h : n < 18446744073709551616) : IntKind.u64.wrap (n : Int) = n := by rw [IntKind.wrap_u64]; omega
set_option maxRecDepth 100000 in
set_option maxHeartbeats 1000000 in
theorem ones64_any (x : Nat) (hx : x < 18446744073709551616) (w : World) : Calls Tryd.prog 227 #[.int .u64 x] w fun e w' => e = .returned (.int .i64 (pop x)) ∧ w = w' := by
  obtain ⟨A, hA⟩ : ∃ A, A = f1 x 6148914691236517205 := ⟨_, rfl⟩
  obtain ⟨B, hB⟩ : ∃ B, B = f2 A 3689348814741910323 := ⟨_, rfl⟩
  obtain ⟨C, hC⟩ : ∃ C, C = B / 16 + B := ⟨_, rfl⟩
  obtain ⟨D, hD⟩ : ∃ D, D = C &&& 1085102592571150095 := ⟨_, rfl⟩
  obtain ⟨Y, hY⟩ : ∃ Y, Y = D + D / 256 := ⟨_, rfl⟩
  obtain ⟨Z, hZ⟩ : ∃ Z, Z = Y + Y / 65536 := ⟨_, rfl⟩
  obtain ⟨U, hU⟩ : ∃ U, U = Z + Z / 4294967296 := ⟨_, rfl⟩
  obtain ⟨s1, s2, s3, s4⟩ := ones_sum x D Y Z hx (by rw [hD, hC, hB, hA]; rfl) hY hZ
  rw [← hU] at s1 s2
  have a1 : (x / 2) &&& 6148914691236517205 ≤ 6148914691236517205 := Nat.and_le_right
  have a2 : x &&& 6148914691236517205 ≤ 6148914691236517205 := Nat.and_le_right
  have b1 : (A / 4) &&& 3689348814741910323 ≤ 3689348814741910323 := Nat.and_le_right
  have b2 : A &&& 3689348814741910323 ≤ 3689348814741910323 := Nat.and_le_right
  have d1 : D ≤ 1085102592571150095 := by rw [hD]; exact Nat.and_le_right
  have A1 : A < 18446744073709551616 := by rw [hA, f1]; omega
  have B1 : B < 7400000000000000000 := by rw [hB, f2]; omega
  have e1 : IntKind.u64.wrap (bits BinOp.and IntKind.u64 ((x : Int) / 2) 6148914691236517205 + bits BinOp.and IntKind.u64 (x : Int) 6148914691236517205) = (A : Int) := by
    have h1 := bits_and_u64_nat (x / 2) 6148914691236517205 (by omega) (by omega)
    have h2 := bits_and_u64_nat x 6148914691236517205 (by omega) (by omega)
    simp only [Int.natCast_ediv, Int.cast_ofNat_Int] at h1 h2
    rw [h1, h2, ← Int.natCast_add, u64_in _ (by omega), hA]; rfl
  have e2 : IntKind.u64.wrap (bits BinOp.and IntKind.u64 ((A : Int) / 4) 3689348814741910323 + bits BinOp.and IntKind.u64 (A : Int) 3689348814741910323) = (B : Int) := by
    have h1 := bits_and_u64_nat (A / 4) 3689348814741910323 (by omega) (by omega)
    have h2 := bits_and_u64_nat A 3689348814741910323 (by omega) (by omega)
    simp only [Int.natCast_ediv, Int.cast_ofNat_Int] at h1 h2
    rw [h1, h2, ← Int.natCast_add, u64_in _ (by omega), hB]; rfl
  have e3 : IntKind.u64.wrap ((B : Int) / 16 + (B : Int)) = (C : Int) := by
    rw [show (B : Int) / 16 + (B : Int) = ((B / 16 + B : Nat) : Int) by omega, u64_in _ (by omega), hC]
  have e4 : bits BinOp.and IntKind.u64 (C : Int) 1085102592571150095 = (D : Int) := by
    rw [hD]; exact bits_and_u64_nat C 1085102592571150095 (by omega) (by omega)
  have e5 : IntKind.u64.wrap ((D : Int) + (D : Int) / 256) = (Y : Int) := by
    rw [show (D : Int) + (D : Int) / 256 = ((D + D / 256 : Nat) : Int) by omega, u64_in _ (by omega), hY]
  have e6 : IntKind.u64.wrap ((Y : Int) + (Y : Int) / 65536) = (Z : Int) := by
    rw [show (Y : Int) + (Y : Int) / 65536 = ((Y + Y / 65536 : Nat) : Int) by omega, u64_in _ (by omega), hZ]
  have e7 : IntKind.u64.wrap ((Z : Int) + (Z : Int) / 4294967296) = (U : Int) := by
    rw [show (Z : Int) + (Z : Int) / 4294967296 = ((Z + Z / 4294967296 : Nat) : Int) by omega, u64_in _ (by omega), hU]
  have HS := Lib.hid s1
  clear hA hB hC hD hY hZ hU a1 a2 b1 b2 s1
  go_enter Tryd.func227, Tryd.ntmps227
  have e8 : bits BinOp.and IntKind.i64 (U : Int) 127 = (pop x : Int) := by
    have h1 : (BitVec.ofInt 64 (U : Int)).toNat = U := by
      rw [BitVec.ofInt_natCast, BitVec.toNat_ofNat]; exact Nat.mod_eq_of_lt (by omega)
    have h2 : (BitVec.ofInt 64 (127 : Int)).toNat = 127 := rfl
    show IntKind.i64.wrap ((BitVec.ofInt 64 (U : Int) &&& BitVec.ofInt 64 (127 : Int)).toNat : Int) = _
    have h3 : U &&& 127 = U % 128 := Nat.and_two_pow_sub_one_eq_mod U 7
    rw [BitVec.toNat_and, h1, h2, h3, HS.out]
    have : pop x < 128 := by rw [← HS.out]; omega
    exact IntWalk.i64_in _ ⟨by omega, by omega⟩
  go_wp2
  go_returns
  exact ⟨rfl, rfl⟩

/-- The table of TrailingZeros64 lies in its variable. -/
def DB (w : World) : Prop := TabAt 4 Lib.deBruijn64tab w
theorem DB.lt {w : World} (h : DB w) : 4 < w.heap.size := World.block_lt_of_cell? _ _ (h 0 (by decide))
theorem DB.below {w w' : World} (h : DB w) {B : Nat} (hb : Below B w w') (hB : w.heap.size ≤ B) : DB w' := fun j hj => (hb.cell (p := ⟨_, j, none⟩) (Nat.lt_of_lt_of_le h.lt hB)).trans (h j hj)
set_option maxRecDepth 100000 in
set_option maxHeartbeats 1000000 in
theorem tz64_zero (w : World) : Calls Tryd.prog 226 #[.int .u64 0] w fun e w' => e = .returned (.int .i64 64) ∧ w = w' := by
  go_enter Tryd.func226, Tryd.ntmps226
  go_wp2
  go_returns
  exact ⟨rfl, rfl⟩
set_option maxRecDepth 100000 in
set_option maxHeartbeats 1000000 in
theorem tz64_core (x k idx : Nat) (w : World) (hx0 : ((x : Int) == 0) = false)
    (key : IntKind.u64.wrap (bits BinOp.and IntKind.u64 (x : Int) (IntKind.u64.wrap (-(x : Int))) * 285870213051353865) / 288230376151711744 = (idx : Int))
    (hi : idx < 64) (hk : k < 64) (hcell : w.cell? ⟨4, idx, none⟩ = some (.int .u8 k)) :
    Calls Tryd.prog 226 #[.int .u64 x] w fun e w' => e = .returned (.int .i64 k) ∧ w = w' := by
  go_enter Tryd.func226, Tryd.ntmps226
  go_wp2_with (simp only [key])
  go_returns
  exact ⟨rfl, rfl⟩
theorem tz64_any (x : Nat) (hx : x < 18446744073709551616) (w : World) (hT : DB w) : Calls Tryd.prog 226 #[.int .u64 x] w fun e w' => e = .returned (.int .i64 (Lib.ctz 64 x)) ∧ w = w' := by
  by_cases hx0 : x = 0
  · subst hx0
    exact tz64_zero w
  · obtain ⟨hlow, hk⟩ := Lib.lowest_bit 64 x hx0 hx
    obtain ⟨hi, htab⟩ := Lib.deBruijn64_at _ hk
    have hcell := hT _ hi
    rw [htab] at hcell
    exact tz64_core x _ _ w (by simp; omega) (tz64_key x _ hx hx0 hlow) hi hk hcell

theorem ctz_pow : ∀ k, k < 64 → Lib.ctz 64 (2 ^ k) = k := by decide +kernel
theorem ctz_one {x : Nat} (hx : x < 18446744073709551616) (h : isOne x = true) : Lib.ctz 64 x = Nat.log2 x := by
  have e : x = 2 ^ Nat.log2 x := of_decide_eq_true h
  have := ctz_pow (Nat.log2 x) (log2_lt hx h)
  rw [← e] at this
  exact this
set_option maxRecDepth 100000 in
set_option maxHeartbeats 1000000 in
theorem element_any (x : Nat) (hx : x < 18446744073709551616) (w : World) (hT : DB w) :
    Calls Tryd.prog 219 #[.int .u64 x] w fun e w' => e = .returned (.tuple #[.int .i64 (Lib.ctz 64 x), .bool (isOne x)]) ∧ w = w' := by
  have hb : ((pop x : Int) == 1) = isOne x := by
    rw [Bool.eq_iff_iff, ← pop_one x hx]; simp; omega
  have HT := Lib.hid hT; clear hT
  go_enter Tryd.func219, Tryd.ntmps219
  go_wp2_with (first
    | (go_at_call 226; go_must (refine (tz64_any x hx _ HT.out).mono ?_; rintro e w1 ⟨rfl, rfl⟩))
    | (go_at_call 227; go_must (refine (ones64_any x hx _).mono ?_; rintro e w1 ⟨rfl, rfl⟩)))
  go_returns
  exact ⟨rfl, rfl⟩

set_option maxHeartbeats 400000 in
theorem possize_any (n : Nat) (hn : n ≤ 100) (w : World) : Calls Tryd.prog 249 #[.int .i64 n] w fun e w' => e = .returned (.int .i64 n) ∧ w = w' := by
  go_enter Tryd.func249, Tryd.ntmps249
  go_wp2
  go_returns
  exact ⟨rfl, rfl⟩
set_option maxHeartbeats 400000 in
theorem posrel_any (n : Nat) (op : Int) (p q : Nat) (hp : p < 100) (hq : q < 100) (w : World) : Calls Tryd.prog 248 #[.int .i64 n, .int .u8 op, .int .i64 p, .int .i64 q] w fun e w' => e = .returned (.bool (relWord op p q)) ∧ w = w' := by
  by_cases h5 : op = 5
  all_goals
    go_enter Tryd.func248, Tryd.ntmps248
    go_wp2
    go_returns
    refine ⟨ret_bool ?_, rfl⟩
    first | (simp [relWord, h5]; done) | (simp [relWord, h5]; omega) | (simp [relWord, *]; done) | (simp [relWord, *]; omega)
set_option maxHeartbeats 400000 in
theorem nodsize_any (A : Option Addr) (n c : Nat) (w : World) : Calls Tryd.prog 251 #[.slice A n c] w fun e w' => e = .returned (.int .i64 n) ∧ w = w' := by
  go_enter Tryd.func251, Tryd.ntmps251
  go_wp2
  go_returns
  exact ⟨rfl, rfl⟩
theorem idx2 (W : World) (a b : Value) : (Instr.index 29 (.agg #[a, b]) (.int .i64 0)).run Tryd.prog W = .ok a W ∧ (Instr.index 29 (.agg #[a, b]) (.int .i64 1)).run Tryd.prog W = .ok b W := by
  refine ⟨?_, ?_⟩ <;> kernel_rfl
theorem leftS_eq {t : List Lf} {p : Nat} {x : Lf} (h : t[p]? = some x) : leftS t p = x.left := by unfold leftS; rw [h]
theorem rightS_eq {t : List Lf} {p : Nat} {x : Lf} (h : t[p]? = some x) : rightS t p = x.right := by unfold rightS; rw [h]
set_option maxHeartbeats 1000000 in
theorem nodrel_side (t : List Lf) (v : Value) (op : Int) (p q : Nat) (w : World) (hop : op = 7 ∨ op = 8) (hv : TS w v t) (hp : p < t.length) :
    Calls Tryd.prog 250 #[v, .int .u8 op, .int .i64 p, .int .i64 q] w fun e w' => e = .returned (.bool (relTree t op p q)) ∧ Below w.heap.size w w' := by
  obtain ⟨x, hx⟩ : ∃ x, t[p]? = some x := ⟨t[p], List.getElem?_eq_getElem hp⟩
  have e1 := leftS_eq hx
  have e2 := rightS_eq hx
  obtain ⟨hop2, A, c, rfl, hc1, hc2, hcell⟩ := hv
  obtain ⟨b, o, rfl, hb, hcell⟩ := hcell (by omega)
  obtain ⟨c0, c1, c2⟩ := hcell p x hx
  have hh : relTree t op p q = if op = 7 then decide (x.left = q) else decide (x.right = q) := by
    unfold relTree
    rcases hop with rfl | rfl
    · simp [e1]
    · simp [e2]
  rw [hh]
  have HH := Lib.hid hh
  obtain ⟨n, hn⟩ : ∃ n, n = t.length := ⟨_, rfl⟩
  rw [← hn] at hp ⊢
  have hn2 : n ≤ 9223372036854775807 := by omega
  clear hcell hx e1 e2 hh hn hop2 hc1
  rcases hop with rfl | rfl
  all_goals
    go_enter Tryd.func250, Tryd.ntmps250
    go_wp2
    go_returns
    exact ⟨ret_bool (by simp), Below.refl _ _⟩
/-- The four ways of a child. -/
theorem kid_ways (t : List Lf) (c : Int) (q : Nat) : c = q ∨ (c ≠ q ∧ 0 < c ∧ ancS t c.toNat q = true) ∨ (c ≠ q ∧ 0 < c ∧ ancS t c.toNat q = false) ∨ (c ≠ q ∧ ¬ 0 < c) := by
  by_cases h1 : c = q
  · exact .inl h1
  · by_cases h2 : 0 < c
    · cases h : ancS t c.toNat q
      · exact .inr (.inr (.inl ⟨h1, h2, rfl⟩))
      · exact .inr (.inl ⟨h1, h2, rfl⟩)
    · exact .inr (.inr (.inr ⟨h1, h2⟩))
set_option maxRecDepth 100000 in
set_option maxHeartbeats 2000000 in
theorem nodrel_anc (t : List Lf) (v : Value) (op : Int) (h7 : op ≠ 7) (h8 : op ≠ 8) (hk : KidsOk t) (hl : t.length ≤ 31) : ∀ (d p q : Nat) (w : World), t.length - p ≤ d → p < t.length → q < 100 → TS w v t →
    Calls Tryd.prog 250 #[v, .int .u8 op, .int .i64 p, .int .i64 q] w fun e w' => e = .returned (.bool (ancS t p q)) ∧ Below w.heap.size w w' := by
  have h7' : (op == 7) = false := by simp [h7]
  have h8' : (op == 8) = false := by simp [h8]
  clear h7 h8
  intro d
  induction d with
  | zero => intro p q w h1 h2; omega
  | succ d ih =>
    intro p q w hd hp hq hv
    obtain ⟨x, hx⟩ : ∃ x, t[p]? = some x := ⟨t[p], List.getElem?_eq_getElem hp⟩
    have hanc := ancS_eq hk p q x hx
    obtain ⟨k1, k2⟩ := hk p x hx
    have HV := Lib.hid hv
    obtain ⟨hop2, A, c, rfl, hc1, hc2, hcc⟩ := hv
    obtain ⟨b, o, rfl, hb, hcell⟩ := hcc (by omega)
    obtain ⟨c0, c1, c2⟩ := hcell p x hx
    clear hcc hcell
    have ihl : 0 < x.left → ∀ W, TS W (.slice (some ⟨b, o, none⟩) t.length c) t → Calls Tryd.prog 250 #[.slice (some ⟨b, o, none⟩) t.length c, .int .u8 op, .int .i64 x.left, .int .i64 q] W fun e w' => e = .returned (.bool (ancS t x.left.toNat q)) ∧ Below W.heap.size W w' := fun h0 W hW => by
      have := ih x.left.toNat q W (by omega) (by omega) hq hW
      rwa [Int.toNat_of_nonneg (by omega)] at this
    have ihr : 0 < x.right → ∀ W, TS W (.slice (some ⟨b, o, none⟩) t.length c) t → Calls Tryd.prog 250 #[.slice (some ⟨b, o, none⟩) t.length c, .int .u8 op, .int .i64 x.right, .int .i64 q] W fun e w' => e = .returned (.bool (ancS t x.right.toNat q)) ∧ Below W.heap.size W w' := fun h0 W hW => by
      have := ih x.right.toNat q W (by omega) (by omega) hq hW
      rwa [Int.toNat_of_nonneg (by omega)] at this
    have wl := kid_ways t x.left q
    have wr := kid_ways t x.right q
    generalize ancS t x.left.toNat q = rl at *
    generalize ancS t x.right.toNat q = rr at *
    generalize ancS t p q = R at *
    have HK := Lib.hid (And.intro k1 k2)
    obtain ⟨n, hn⟩ : ∃ n, n = t.length := ⟨_, rfl⟩
    rw [← hn] at hp hc1 hl ihl ihr HV ⊢
    have HL := Lib.hid ihl; have HR := Lib.hid ihr
    have HA := Lib.hid hanc
    obtain ⟨op2, l, r⟩ := x
    simp only at c0 c1 c2 wl wr HA HL HR
    clear hop2 ih hk hx hn hanc ihl ihr k1 k2 hd
    have i0 := fun W a b => (idx2 W a b).1
    have i1 := fun W a b => (idx2 W a b).2
    by_cases hqp : q ≤ p
    · have hR : R = false := by rw [HA.out, if_pos hqp]
      rw [hR]
      clear hR
      go_enter Tryd.func250, Tryd.ntmps250
      go_wp2
      go_returns
      exact ⟨rfl, Below.refl _ _⟩
    · have hR : R = ((decide (l = q) || (decide (0 < l) && rl)) || (decide (r = q) || (decide (0 < r) && rr))) := by rw [HA.out, if_neg hqp]
      have HRR := Lib.hid hR; clear hR
      rcases wl with hw | ⟨hw, hw2, rfl⟩ | ⟨hw, hw2, rfl⟩ | ⟨hw, hw2⟩
      · have hR : R = true := by rw [HRR.out]; simp [hw]
        rw [hR]; clear hR wr
        go_enter Tryd.func250, Tryd.ntmps250
        go_wp2
        go_region
        go_wp2
        go_rounds 1
        go_returns
        exact ⟨rfl, by go_grown⟩
      · have hR : R = true := by rw [HRR.out]; simp [hw2]
        rw [hR]; clear hR wr
        have hwb : (l == q) = false := by simp [hw]
        clear hw
        go_enter Tryd.func250, Tryd.ntmps250
        go_wp2
        go_region
        go_wp2
        refine wp_loop_rounds 1 ?_
        rw [rounds_succ]
        go_wp2_with (go_at_call 250; go_must (refine (HL.out hw2 _ (HV.out.below (B := w.heap.size) (by go_grown) (Nat.le_refl _))).mono ?_; rintro e w1 ⟨rfl, hb1⟩; have HB1 : Hid (Below w.heap.size w w1) := Below.trans (by go_grown) (hb1.mono (by simp only [World.size_drew]; omega)); clear hb1))
        go_returns
        exact ⟨rfl, HB1.out⟩
      · have hwb : (l == q) = false := by simp [hw]
        rcases wr with hv | ⟨hv, hv2, rfl⟩ | ⟨hv, hv2, rfl⟩ | ⟨hv, hv2⟩
        · have hR : R = true := by rw [HRR.out]; simp [hv]
          rw [hR]; clear hR hw
          go_enter Tryd.func250, Tryd.ntmps250
          go_wp2
          go_region
          go_wp2
          refine wp_loop_rounds 3 ?_
          rw [rounds_succ]
          go_wp2_with (go_at_call 250; go_must (refine (HL.out hw2 _ (HV.out.below (B := w.heap.size) (by go_grown) (Nat.le_refl _))).mono ?_; rintro e w1 ⟨rfl, hb1⟩; have HB1 : Hid (Below w.heap.size w w1) := Below.trans (by go_grown) (hb1.mono (by simp only [World.size_drew]; omega)); clear hb1))
          rw [rounds_succ]
          go_wp2
          go_returns
          exact ⟨rfl, HB1.out⟩
        · have hR : R = true := by rw [HRR.out]; simp [hv2]
          have hvb : (r == q) = false := by simp [hv]
          rw [hR]; clear hR hw hv
          go_enter Tryd.func250, Tryd.ntmps250
          go_wp2
          go_region
          go_wp2
          refine wp_loop_rounds 3 ?_
          rw [rounds_succ]
          go_wp2_with (go_at_call 250; go_must (refine (HL.out hw2 _ (HV.out.below (B := w.heap.size) (by go_grown) (Nat.le_refl _))).mono ?_; rintro e w1 ⟨rfl, hb1⟩; have HB1 : Hid (Below w.heap.size w w1) := Below.trans (by go_grown) (hb1.mono (by simp only [World.size_drew]; omega)); clear hb1))
          rw [rounds_succ]
          go_wp2_with (go_at_call 250; go_must (refine (HR.out hv2 _ (HV.out.below HB1.out (Nat.le_refl _))).mono ?_; rintro e w2 ⟨rfl, hb2⟩; replace HB1 := Lib.hid (HB1.out.trans (hb2.mono HB1.out.size)); clear hb2))
          go_returns
          exact ⟨rfl, HB1.out⟩
        · have hR : R = false := by rw [HRR.out]; simp [hw, hv]
          have hvb : (r == q) = false := by simp [hv]
          rw [hR]; clear hR hw hv
          go_enter Tryd.func250, Tryd.ntmps250
          go_wp2
          go_region
          go_wp2
          refine wp_loop_rounds 3 ?_
          rw [rounds_succ]
          go_wp2_with (go_at_call 250; go_must (refine (HL.out hw2 _ (HV.out.below (B := w.heap.size) (by go_grown) (Nat.le_refl _))).mono ?_; rintro e w1 ⟨rfl, hb1⟩; have HB1 : Hid (Below w.heap.size w w1) := Below.trans (by go_grown) (hb1.mono (by simp only [World.size_drew]; omega)); clear hb1))
          rw [rounds_succ]
          go_wp2_with (go_at_call 250; go_must (refine (HR.out hv2 _ (HV.out.below HB1.out (Nat.le_refl _))).mono ?_; rintro e w2 ⟨rfl, hb2⟩; replace HB1 := Lib.hid (HB1.out.trans (hb2.mono HB1.out.size)); clear hb2))
          rw [rounds_succ]
          go_wp2
          go_returns
          exact ⟨rfl, HB1.out⟩
        · have hR : R = false := by rw [HRR.out]; simp [hw, hv, hv2]
          have hvb : (r == q) = false := by simp [hv]
          rw [hR]; clear hR hw hv
          go_enter Tryd.func250, Tryd.ntmps250
          go_wp2
          go_region
          go_wp2
          refine wp_loop_rounds 3 ?_
          rw [rounds_succ]
          go_wp2_with (go_at_call 250; go_must (refine (HL.out hw2 _ (HV.out.below (B := w.heap.size) (by go_grown) (Nat.le_refl _))).mono ?_; rintro e w1 ⟨rfl, hb1⟩; have HB1 : Hid (Below w.heap.size w w1) := Below.trans (by go_grown) (hb1.mono (by simp only [World.size_drew]; omega)); clear hb1))
          rw [rounds_succ]
          go_wp2
          rw [rounds_succ]
          go_wp2
          go_returns
          exact ⟨rfl, HB1.out⟩
      · have hwb : (l == q) = false := by simp [hw]
        rcases wr with hv | ⟨hv, hv2, rfl⟩ | ⟨hv, hv2, rfl⟩ | ⟨hv, hv2⟩
        · have hR : R = true := by rw [HRR.out]; simp [hv]
          rw [hR]; clear hR hw
          go_enter Tryd.func250, Tryd.ntmps250
          go_wp2
          go_region
          go_wp2
          go_rounds 2
          go_returns
          exact ⟨rfl, by go_grown⟩
        · have hR : R = true := by rw [HRR.out]; simp [hv2]
          have hvb : (r == q) = false := by simp [hv]
          rw [hR]; clear hR hw hv
          go_enter Tryd.func250, Tryd.ntmps250
          go_wp2
          go_region
          go_wp2
          refine wp_loop_rounds 3 ?_
          rw [rounds_succ]
          go_wp2
          rw [rounds_succ]
          go_wp2_with (go_at_call 250; go_must (refine (HR.out hv2 _ (HV.out.below (B := w.heap.size) (by go_grown) (Nat.le_refl _))).mono ?_; rintro e w1 ⟨rfl, hb1⟩; have HB1 : Hid (Below w.heap.size w w1) := Below.trans (by go_grown) (hb1.mono (by simp only [World.size_drew]; omega)); clear hb1))
          go_returns
          exact ⟨rfl, HB1.out⟩
        · have hR : R = false := by rw [HRR.out]; simp [hw, hv, hw2]
          have hvb : (r == q) = false := by simp [hv]
          rw [hR]; clear hR hw hv
          go_enter Tryd.func250, Tryd.ntmps250
          go_wp2
          go_region
          go_wp2
          refine wp_loop_rounds 3 ?_
          rw [rounds_succ]
          go_wp2
          rw [rounds_succ]
          go_wp2_with (go_at_call 250; go_must (refine (HR.out hv2 _ (HV.out.below (B := w.heap.size) (by go_grown) (Nat.le_refl _))).mono ?_; rintro e w1 ⟨rfl, hb1⟩; have HB1 : Hid (Below w.heap.size w w1) := Below.trans (by go_grown) (hb1.mono (by simp only [World.size_drew]; omega)); clear hb1))
          rw [rounds_succ]
          go_wp2
          go_returns
          exact ⟨rfl, HB1.out⟩
        · have hR : R = false := by rw [HRR.out]; simp [hw, hv, hv2, hw2]
          have hvb : (r == q) = false := by simp [hv]
          rw [hR]; clear hR hw hv
          go_enter Tryd.func250, Tryd.ntmps250
          go_wp2
          go_region
          go_wp2
          go_rounds 3
          go_returns
          exact ⟨rfl, by go_grown⟩
theorem nodrel_any (t : List Lf) (v : Value) (op : Int) (hk : KidsOk t) (hl : t.length ≤ 31) (p q : Nat) (w : World) (hp : p < t.length) (hq : q < 100) (hv : TS w v t) :
    Calls Tryd.prog 250 #[v, .int .u8 op, .int .i64 p, .int .i64 q] w fun e w' => e = .returned (.bool (relTree t op p q)) ∧ Below w.heap.size w w' := by
  by_cases h7 : op = 7
  · exact nodrel_side t v op p q w (.inl h7) hv hp
  · by_cases h8 : op = 8
    · exact nodrel_side t v op p q w (.inr h8) hv hp
    · have : relTree t op p q = ancS t p q := by unfold relTree; rw [if_neg h7, if_neg h8]
      rw [this]
      exact nodrel_anc t v op h7 h8 hk hl _ p q w (Nat.le_refl _) hp hq hv
end Go.Proofs.YtgeklibilgfjbaaDoor

namespace Go.Proofs.YtgeklibilgfjbaaDoor
open Go.RowKit

theorem and_not_zero (a b : Nat) (ha : a < 18446744073709551616) (hb : b < 18446744073709551616) : (bits BinOp.andNot IntKind.u64 (a : Int) (b : Int) == 0) = decide (a &&& b = a) := by
  have h := u64_andNot_nat a b ha hb
  rw [h, Bool.eq_iff_iff]
  simp only [beq_iff_eq, decide_eq_true_eq]
  rw [show (((a &&& (18446744073709551615 - b) : Nat) : Int) = 0) = ((a &&& (18446744073709551615 - b)) = 0) by rw [← Int.natCast_zero, Int.ofNat_inj]]
  have key : ∀ i, (18446744073709551615 - b).testBit i = (decide (i < 64) && !b.testBit i) := fun i => by
    have := Nat.testBit_two_pow_sub_succ (x := b) (n := 64) (by omega) i
    rw [← this]; congr 1; omega
  have ha2 : ∀ i, 64 ≤ i → a.testBit i = false := fun i hi => Nat.testBit_lt_two_pow (Nat.lt_of_lt_of_le ha (show 2 ^ 64 ≤ 2 ^ i from Nat.pow_le_pow_right (by omega) hi))
  constructor
  · intro h0
    apply Nat.eq_of_testBit_eq
    intro i
    have h1 := congrArg (fun z => Nat.testBit z i) h0
    simp only [Nat.testBit_and, key, Nat.zero_testBit] at h1
    rw [Nat.testBit_and]
    by_cases hi : i < 64
    · simp [hi] at h1
      cases h2 : a.testBit i
      · rfl
      · simp [h1 h2]
    · rw [ha2 i (by omega)]; rfl
  · intro h0
    apply Nat.eq_of_testBit_eq
    intro i
    have h1 := congrArg (fun z => Nat.testBit z i) h0
    simp only [Nat.testBit_and] at h1
    simp only [Nat.testBit_and, key, Nat.zero_testBit]
    cases h2 : a.testBit i
    · rfl
    · rw [h2] at h1; simp at h1; simp [h1]
theorem nil_rel_W (k n : Nat) (w : World) : (nilAhead (k + 1) 174 (.int .i64 n) "sentinel/model.related").run Tryd.prog w = .ok (some false) w := by kernel_rfl
theorem meth_rel_W (k n : Nat) (w : World) : (method (k + 1) 174 (.int .i64 n) "sentinel/model.related").run Tryd.prog w = .ok (248, .int .i64 n) w := by kernel_rfl
theorem nil_size_W (k n : Nat) (w : World) : (nilAhead (k + 1) 174 (.int .i64 n) "sentinel/model.size").run Tryd.prog w = .ok (some false) w := by kernel_rfl
theorem meth_size_W (k n : Nat) (w : World) : (method (k + 1) 174 (.int .i64 n) "sentinel/model.size").run Tryd.prog w = .ok (249, .int .i64 n) w := by kernel_rfl
theorem nil_rel_T (k : Nat) (A : Option Addr) (n c : Nat) (w : World) : (nilAhead (k + 1) 183 (.slice A n c) "sentinel/model.related").run Tryd.prog w = .ok (some false) w := by kernel_rfl
theorem meth_rel_T (k : Nat) (A : Option Addr) (n c : Nat) (w : World) : (method (k + 1) 183 (.slice A n c) "sentinel/model.related").run Tryd.prog w = .ok (250, .slice A n c) w := by kernel_rfl
theorem nil_size_T (k : Nat) (A : Option Addr) (n c : Nat) (w : World) : (nilAhead (k + 1) 183 (.slice A n c) "sentinel/model.size").run Tryd.prog w = .ok (some false) w := by kernel_rfl
theorem meth_size_T (k : Nat) (A : Option Addr) (n c : Nat) (w : World) : (method (k + 1) 183 (.slice A n c) "sentinel/model.size").run Tryd.prog w = .ok (251, .slice A n c) w := by kernel_rfl
theorem log_lt {x n : Nat} (h : isOne x = true) (hx : x < 2 ^ n) : Nat.log2 x < n := by
  have e : x = 2 ^ Nat.log2 x := of_decide_eq_true h
  rw [e] at hx
  exact (Nat.pow_lt_pow_iff_right (by omega)).1 hx
theorem six_at (b0 b1 b2 b3 b4 b5 x : Nat) (hx : x < 6) : (#[Value.int .u64 b0, .int .u64 b1, .int .u64 b2, .int .u64 b3, .int .u64 b4, .int .u64 b5] : Array Value)[x]? = some (.int .u64 ([b0, b1, b2, b3, b4, b5].getD x 0 : Nat)) := by
  have : x = 0 ∨ x = 1 ∨ x = 2 ∨ x = 3 ∨ x = 4 ∨ x = 5 := by omega
  rcases this with rfl | rfl | rfl | rfl | rfl | rfl <;> rfl
theorem six_mem (b0 b1 b2 b3 b4 b5 x : Nat) (hx : x < 6) : [b0, b1, b2, b3, b4, b5].getD x 0 ∈ [b0, b1, b2, b3, b4, b5] := by
  rw [List.getD_eq_getElem?_getD, List.getElem?_eq_getElem (by simpa using hx)]
  exact List.getElem_mem _

set_option maxRecDepth 100000 in
set_option maxHeartbeats 2000000 in
theorem atom_W (n : Nat) (hn : n ≤ 64) (op : Int) (x y : Nat) (hx : x < 6) (hy : y < 6) (b0 b1 b2 b3 b4 b5 : Nat) (hb : ∀ v ∈ [b0, b1, b2, b3, b4, b5], v < 2 ^ n) (w : World) (hT : DB w) :
    Calls Tryd.prog 206 #[.iface 174 (.int .i64 n), .agg #[.int .u8 op, .int .i64 x, .int .i64 y, .int .i64 0, .int .i64 0], .agg #[.int .u64 b0, .int .u64 b1, .int .u64 b2, .int .u64 b3, .int .u64 b4, .int .u64 b5]] w fun e w' => e = .returned (.bool (atomS (stcWord n) op ([b0, b1, b2, b3, b4, b5].getD x 0) ([b0, b1, b2, b3, b4, b5].getD y 0))) ∧ Below w.heap.size w w' := by
  have hx6 := six_at b0 b1 b2 b3 b4 b5 x hx
  have hy6 := six_at b0 b1 b2 b3 b4 b5 y hy
  have HX6 := Lib.hid hx6; have HY6 := Lib.hid hy6
  have hX := hb _ (six_mem b0 b1 b2 b3 b4 b5 x hx)
  have hY := hb _ (six_mem b0 b1 b2 b3 b4 b5 y hy)
  clear hx6 hy6
  generalize [b0, b1, b2, b3, b4, b5].getD x 0 = X at *
  generalize [b0, b1, b2, b3, b4, b5].getD y 0 = Y at *
  have h64 : 2 ^ n ≤ 2 ^ 64 := Nat.pow_le_pow_right (by omega) (by omega)
  have HX : Hid (X < 18446744073709551616) := Nat.lt_of_lt_of_le hX h64
  have HY : Hid (Y < 18446744073709551616) := Nat.lt_of_lt_of_le hY h64
  have hand := and_not_zero X Y HX.out HY.out
  have hz : ((X : Int) == 0) = decide (X = 0) := by rw [Bool.eq_iff_iff]; simp
  have HT := Lib.hid hT; clear hT
  have L1 := Lib.hid hX; have L2 := Lib.hid hY; clear hX hY h64 hb
  have cx : Hid (isOne X = true → (Lib.ctz 64 X : Nat) = Nat.log2 X ∧ Nat.log2 X < n) := fun h => ⟨ctz_one HX.out h, log_lt h L1.out⟩
  have cy : Hid (isOne Y = true → (Lib.ctz 64 Y : Nat) = Nat.log2 Y ∧ Nat.log2 Y < n) := fun h => ⟨ctz_one HY.out h, log_lt h L2.out⟩
  have n1 := nil_rel_W; have n2 := meth_rel_W
  have HA := Lib.hid (show atomS (stcWord n) op X Y = atomS (stcWord n) op X Y from rfl)
  obtain ⟨R, hR⟩ : ∃ R, R = atomS (stcWord n) op X Y := ⟨_, rfl⟩
  rw [← hR]
  have HR := Lib.hid hR; clear hR HA
  by_cases h1 : op = 1
  · have hR : R = true := by rw [HR.out, atomS, if_pos h1]
    rw [hR]; clear hR; subst h1
    go_enter Tryd.func206, Tryd.ntmps206
    go_upto_region 1 with (fail)
    refine wp_abs (fun W => (∀ j, W.cell? ⟨w.heap.size, j, none⟩ = #[Value.int .u8 1, .int .i64 x, .int .i64 y, .int .i64 0, .int .i64 0][j]?) ∧ W.cell? ⟨w.heap.size + 1, x, none⟩ = some (.int .u64 X) ∧ W.cell? ⟨w.heap.size + 1, y, none⟩ = some (.int .u64 Y) ∧ w.heap.size + 1 < W.heap.size ∧ Hid (Below w.heap.size w W)) ?_ ?_
    · exact ⟨((Row.new w 23 _).alloc _).cell, (Row.lit (by simp only [World.size_alloc])).cell x |>.trans HX6.out, (Row.lit (by simp only [World.size_alloc])).cell y |>.trans HY6.out, by simp only [World.size_alloc]; omega, by unfold Hid; go_grown⟩
    rintro W ⟨m0, mx, my, mz, HB⟩
    have mz0 : w.heap.size < W.heap.size := by omega
    go_wp2_with (first
      | (go_at_call 219; (with_reducible refine (element_any X HX.out _ (DB.below HT.out HB.out (Nat.le_refl _))).mono ?_); rintro e w1 ⟨rfl, rfl⟩)
      | (go_at_call 219; (with_reducible refine (element_any Y HY.out _ (DB.below HT.out HB.out (Nat.le_refl _))).mono ?_); rintro e w2 ⟨rfl, rfl⟩))
    go_returns
    exact ⟨rfl, by have := HB.out; go_grown⟩
  by_cases h2 : op = 2
  · have hR : R = decide (X &&& Y = X) := by rw [HR.out, atomS, if_neg h1, if_pos h2]
    rw [hR]; clear hR h1; subst h2
    go_enter Tryd.func206, Tryd.ntmps206
    go_upto_region 1 with (fail)
    refine wp_abs (fun W => (∀ j, W.cell? ⟨w.heap.size, j, none⟩ = #[Value.int .u8 2, .int .i64 x, .int .i64 y, .int .i64 0, .int .i64 0][j]?) ∧ W.cell? ⟨w.heap.size + 1, x, none⟩ = some (.int .u64 X) ∧ W.cell? ⟨w.heap.size + 1, y, none⟩ = some (.int .u64 Y) ∧ w.heap.size + 1 < W.heap.size ∧ Hid (Below w.heap.size w W)) ?_ ?_
    · exact ⟨((Row.new w 23 _).alloc _).cell, (Row.lit (by simp only [World.size_alloc])).cell x |>.trans HX6.out, (Row.lit (by simp only [World.size_alloc])).cell y |>.trans HY6.out, by simp only [World.size_alloc]; omega, by unfold Hid; go_grown⟩
    rintro W ⟨m0, mx, my, mz, HB⟩
    have mz0 : w.heap.size < W.heap.size := by omega
    go_wp2_with (first
      | (go_at_call 219; (with_reducible refine (element_any X HX.out _ (DB.below HT.out HB.out (Nat.le_refl _))).mono ?_); rintro e w1 ⟨rfl, rfl⟩)
      | (go_at_call 219; (with_reducible refine (element_any Y HY.out _ (DB.below HT.out HB.out (Nat.le_refl _))).mono ?_); rintro e w2 ⟨rfl, rfl⟩))
    go_region
    go_wp2
    go_returns
    exact ⟨rfl, by have := HB.out; go_grown⟩
  by_cases h3 : op = 3
  · have hR : R = decide (X = 0) := by rw [HR.out, atomS, if_neg h1, if_neg h2, if_pos h3]
    rw [hR]; clear hR h1 h2; subst h3
    go_enter Tryd.func206, Tryd.ntmps206
    go_upto_region 1 with (fail)
    refine wp_abs (fun W => (∀ j, W.cell? ⟨w.heap.size, j, none⟩ = #[Value.int .u8 3, .int .i64 x, .int .i64 y, .int .i64 0, .int .i64 0][j]?) ∧ W.cell? ⟨w.heap.size + 1, x, none⟩ = some (.int .u64 X) ∧ W.cell? ⟨w.heap.size + 1, y, none⟩ = some (.int .u64 Y) ∧ w.heap.size + 1 < W.heap.size ∧ Hid (Below w.heap.size w W)) ?_ ?_
    · exact ⟨((Row.new w 23 _).alloc _).cell, (Row.lit (by simp only [World.size_alloc])).cell x |>.trans HX6.out, (Row.lit (by simp only [World.size_alloc])).cell y |>.trans HY6.out, by simp only [World.size_alloc]; omega, by unfold Hid; go_grown⟩
    rintro W ⟨m0, mx, my, mz, HB⟩
    have mz0 : w.heap.size < W.heap.size := by omega
    go_wp2_with (first
      | (go_at_call 219; (with_reducible refine (element_any X HX.out _ (DB.below HT.out HB.out (Nat.le_refl _))).mono ?_); rintro e w1 ⟨rfl, rfl⟩)
      | (go_at_call 219; (with_reducible refine (element_any Y HY.out _ (DB.below HT.out HB.out (Nat.le_refl _))).mono ?_); rintro e w2 ⟨rfl, rfl⟩))
    go_returns
    exact ⟨rfl, by have := HB.out; go_grown⟩
  by_cases h4 : op = 4
  · have hR : R = isOne X := by rw [HR.out, atomS, if_neg h1, if_neg h2, if_neg h3, if_pos h4]
    rw [hR]; clear hR h1 h2 h3; subst h4
    go_enter Tryd.func206, Tryd.ntmps206
    go_upto_region 1 with (fail)
    refine wp_abs (fun W => (∀ j, W.cell? ⟨w.heap.size, j, none⟩ = #[Value.int .u8 4, .int .i64 x, .int .i64 y, .int .i64 0, .int .i64 0][j]?) ∧ W.cell? ⟨w.heap.size + 1, x, none⟩ = some (.int .u64 X) ∧ W.cell? ⟨w.heap.size + 1, y, none⟩ = some (.int .u64 Y) ∧ w.heap.size + 1 < W.heap.size ∧ Hid (Below w.heap.size w W)) ?_ ?_
    · exact ⟨((Row.new w 23 _).alloc _).cell, (Row.lit (by simp only [World.size_alloc])).cell x |>.trans HX6.out, (Row.lit (by simp only [World.size_alloc])).cell y |>.trans HY6.out, by simp only [World.size_alloc]; omega, by unfold Hid; go_grown⟩
    rintro W ⟨m0, mx, my, mz, HB⟩
    have mz0 : w.heap.size < W.heap.size := by omega
    go_wp2_with (first
      | (go_at_call 219; (with_reducible refine (element_any X HX.out _ (DB.below HT.out HB.out (Nat.le_refl _))).mono ?_); rintro e w1 ⟨rfl, rfl⟩)
      | (go_at_call 219; (with_reducible refine (element_any Y HY.out _ (DB.below HT.out HB.out (Nat.le_refl _))).mono ?_); rintro e w2 ⟨rfl, rfl⟩))
    go_returns
    exact ⟨rfl, by have := HB.out; go_grown⟩
  have hR : R = (isOne X && isOne Y && Stc.rel (stcWord n) op (Nat.log2 X) (Nat.log2 Y)) := by rw [HR.out, atomS, if_neg h1, if_neg h2, if_neg h3, if_neg h4]
  have q1 : (op == 1) = false := by simp [h1]
  have q2 : (op == 2) = false := by simp [h2]
  have q3 : (op == 3) = false := by simp [h3]
  have q4 : (op == 4) = false := by simp [h4]
  replace HR := Lib.hid hR
  clear hR h1 h2 h3 h4 hand hz
  cases hox : isOne X
  · have hR : R = false := by rw [HR.out, hox]; rfl
    rw [hR]; clear hR
    have HOX := Lib.hid hox; clear hox
    go_enter Tryd.func206, Tryd.ntmps206
    go_upto_region 1 with (fail)
    refine wp_abs (fun W => (∀ j, W.cell? ⟨w.heap.size, j, none⟩ = #[Value.int .u8 op, .int .i64 x, .int .i64 y, .int .i64 0, .int .i64 0][j]?) ∧ W.cell? ⟨w.heap.size + 1, x, none⟩ = some (.int .u64 X) ∧ W.cell? ⟨w.heap.size + 1, y, none⟩ = some (.int .u64 Y) ∧ w.heap.size + 1 < W.heap.size ∧ Hid (Below w.heap.size w W)) ?_ ?_
    · exact ⟨((Row.new w 23 _).alloc _).cell, (Row.lit (by simp only [World.size_alloc])).cell x |>.trans HX6.out, (Row.lit (by simp only [World.size_alloc])).cell y |>.trans HY6.out, by simp only [World.size_alloc]; omega, by unfold Hid; go_grown⟩
    rintro W ⟨m0, mx, my, mz, HB⟩
    have mz0 : w.heap.size < W.heap.size := by omega
    go_wp2_with (first
      | (go_at_call 219; (with_reducible refine (element_any X HX.out _ (DB.below HT.out HB.out (Nat.le_refl _))).mono ?_); rintro e w1 ⟨rfl, rfl⟩; rw [HOX.out])
      | (go_at_call 219; (with_reducible refine (element_any Y HY.out _ (DB.below HT.out HB.out (Nat.le_refl _))).mono ?_); rintro e w2 ⟨rfl, rfl⟩; (first | rw [HOY.out] | skip)))
    go_returns
    exact ⟨rfl, by have := HB.out; go_grown⟩
  cases hoy : isOne Y
  · have hR : R = false := by rw [HR.out, hox, hoy]; rfl
    rw [hR]; clear hR
    have HOX := Lib.hid hox; clear hox
    have HOY := Lib.hid hoy; clear hoy
    go_enter Tryd.func206, Tryd.ntmps206
    go_upto_region 1 with (fail)
    refine wp_abs (fun W => (∀ j, W.cell? ⟨w.heap.size, j, none⟩ = #[Value.int .u8 op, .int .i64 x, .int .i64 y, .int .i64 0, .int .i64 0][j]?) ∧ W.cell? ⟨w.heap.size + 1, x, none⟩ = some (.int .u64 X) ∧ W.cell? ⟨w.heap.size + 1, y, none⟩ = some (.int .u64 Y) ∧ w.heap.size + 1 < W.heap.size ∧ Hid (Below w.heap.size w W)) ?_ ?_
    · exact ⟨((Row.new w 23 _).alloc _).cell, (Row.lit (by simp only [World.size_alloc])).cell x |>.trans HX6.out, (Row.lit (by simp only [World.size_alloc])).cell y |>.trans HY6.out, by simp only [World.size_alloc]; omega, by unfold Hid; go_grown⟩
    rintro W ⟨m0, mx, my, mz, HB⟩
    have mz0 : w.heap.size < W.heap.size := by omega
    go_wp2_with (first
      | (go_at_call 219; (with_reducible refine (element_any X HX.out _ (DB.below HT.out HB.out (Nat.le_refl _))).mono ?_); rintro e w1 ⟨rfl, rfl⟩; rw [HOX.out])
      | (go_at_call 219; (with_reducible refine (element_any Y HY.out _ (DB.below HT.out HB.out (Nat.le_refl _))).mono ?_); rintro e w2 ⟨rfl, rfl⟩; (first | rw [HOY.out] | skip)))
    go_returns
    exact ⟨rfl, by have := HB.out; go_grown⟩
  have hR : R = Stc.rel (stcWord n) op (Nat.log2 X) (Nat.log2 Y) := by rw [HR.out, hox, hoy]; rfl
  rw [hR]
  obtain ⟨ex, lx⟩ := cx.out hox
  obtain ⟨ey, ly⟩ := cy.out hoy
  generalize Nat.log2 X = p at *
  generalize Nat.log2 Y = q at *
  have LX := Lib.hid lx; have LY := Lib.hid ly; have EX := Lib.hid ex; have EY := Lib.hid ey
  have HOX := Lib.hid hox; have HOY := Lib.hid hoy
  clear hR hox hoy lx ly ex ey
  go_enter Tryd.func206, Tryd.ntmps206
  go_upto_region 1 with (fail)
  refine wp_abs (fun W => (∀ j, W.cell? ⟨w.heap.size, j, none⟩ = #[Value.int .u8 op, .int .i64 x, .int .i64 y, .int .i64 0, .int .i64 0][j]?) ∧ W.cell? ⟨w.heap.size + 1, x, none⟩ = some (.int .u64 X) ∧ W.cell? ⟨w.heap.size + 1, y, none⟩ = some (.int .u64 Y) ∧ w.heap.size + 1 < W.heap.size ∧ Hid (Below w.heap.size w W)) ?_ ?_
  · exact ⟨((Row.new w 23 _).alloc _).cell, (Row.lit (by simp only [World.size_alloc])).cell x |>.trans HX6.out, (Row.lit (by simp only [World.size_alloc])).cell y |>.trans HY6.out, by simp only [World.size_alloc]; omega, by unfold Hid; go_grown⟩
  rintro W ⟨m0, mx, my, mz, HB⟩
  have mz0 : w.heap.size < W.heap.size := by omega
  go_wp2_with (first
    | (go_at_call 219; (with_reducible refine (element_any X HX.out _ (DB.below HT.out HB.out (Nat.le_refl _))).mono ?_); rintro e w1 ⟨rfl, rfl⟩; rw [HOX.out, EX.out])
    | (go_at_call 219; (with_reducible refine (element_any Y HY.out _ (DB.below HT.out HB.out (Nat.le_refl _))).mono ?_); rintro e w2 ⟨rfl, rfl⟩; rw [HOY.out, EY.out])
    | (go_at_call 248; go_must ((with_reducible refine (posrel_any n op p q (by have := LX.out; omega) (by have := LY.out; omega) _).mono ?_); rintro e w3 ⟨rfl, rfl⟩)))
  go_returns
  exact ⟨rfl, HB.out⟩

set_option maxRecDepth 100000 in
set_option maxHeartbeats 2000000 in
theorem atom_T (t : List Lf) (A : Option Addr) (n c : Nat) (hn : n = t.length) (hk : KidsOk t) (hl : n ≤ 31) (op : Int) (x y : Nat) (hx : x < 6) (hy : y < 6) (b0 b1 b2 b3 b4 b5 : Nat) (hb : ∀ v ∈ [b0, b1, b2, b3, b4, b5], v < 2 ^ n) (w : World) (hT : DB w) (hv : TS w (.slice A n c) t) :
    Calls Tryd.prog 206 #[.iface 183 (.slice A n c), .agg #[.int .u8 op, .int .i64 x, .int .i64 y, .int .i64 0, .int .i64 0], .agg #[.int .u64 b0, .int .u64 b1, .int .u64 b2, .int .u64 b3, .int .u64 b4, .int .u64 b5]] w fun e w' => e = .returned (.bool (atomS (stcTree t) op ([b0, b1, b2, b3, b4, b5].getD x 0) ([b0, b1, b2, b3, b4, b5].getD y 0))) ∧ Below w.heap.size w w' := by
  have hx6 := six_at b0 b1 b2 b3 b4 b5 x hx
  have hy6 := six_at b0 b1 b2 b3 b4 b5 y hy
  have HX6 := Lib.hid hx6; have HY6 := Lib.hid hy6
  have hX := hb _ (six_mem b0 b1 b2 b3 b4 b5 x hx)
  have hY := hb _ (six_mem b0 b1 b2 b3 b4 b5 y hy)
  clear hx6 hy6
  generalize [b0, b1, b2, b3, b4, b5].getD x 0 = X at *
  generalize [b0, b1, b2, b3, b4, b5].getD y 0 = Y at *
  have h64 : 2 ^ n ≤ 2 ^ 64 := Nat.pow_le_pow_right (by omega) (by omega)
  have HX : Hid (X < 18446744073709551616) := Nat.lt_of_lt_of_le hX h64
  have HY : Hid (Y < 18446744073709551616) := Nat.lt_of_lt_of_le hY h64
  have hand := and_not_zero X Y HX.out HY.out
  have hz : ((X : Int) == 0) = decide (X = 0) := by rw [Bool.eq_iff_iff]; simp
  have HT := Lib.hid hT; clear hT
  have HV := Lib.hid hv; clear hv
  have HN := Lib.hid hn; clear hn
  have L1 := Lib.hid hX; have L2 := Lib.hid hY; clear hX hY h64 hb
  have cx : Hid (isOne X = true → (Lib.ctz 64 X : Nat) = Nat.log2 X ∧ Nat.log2 X < n) := fun h => ⟨ctz_one HX.out h, log_lt h L1.out⟩
  have cy : Hid (isOne Y = true → (Lib.ctz 64 Y : Nat) = Nat.log2 Y ∧ Nat.log2 Y < n) := fun h => ⟨ctz_one HY.out h, log_lt h L2.out⟩
  have n1 := nil_rel_T; have n2 := meth_rel_T
  have HA := Lib.hid (show atomS (stcTree t) op X Y = atomS (stcTree t) op X Y from rfl)
  obtain ⟨R, hR⟩ : ∃ R, R = atomS (stcTree t) op X Y := ⟨_, rfl⟩
  rw [← hR]
  have HR := Lib.hid hR; clear hR HA
  by_cases h1 : op = 1
  · have hR : R = true := by rw [HR.out, atomS, if_pos h1]
    rw [hR]; clear hR; subst h1
    go_enter Tryd.func206, Tryd.ntmps206
    go_upto_region 1 with (fail)
    refine wp_abs (fun W => (∀ j, W.cell? ⟨w.heap.size, j, none⟩ = #[Value.int .u8 1, .int .i64 x, .int .i64 y, .int .i64 0, .int .i64 0][j]?) ∧ W.cell? ⟨w.heap.size + 1, x, none⟩ = some (.int .u64 X) ∧ W.cell? ⟨w.heap.size + 1, y, none⟩ = some (.int .u64 Y) ∧ w.heap.size + 1 < W.heap.size ∧ Hid (Below w.heap.size w W)) ?_ ?_
    · exact ⟨((Row.new w 23 _).alloc _).cell, (Row.lit (by simp only [World.size_alloc])).cell x |>.trans HX6.out, (Row.lit (by simp only [World.size_alloc])).cell y |>.trans HY6.out, by simp only [World.size_alloc]; omega, by unfold Hid; go_grown⟩
    rintro W ⟨m0, mx, my, mz, HB⟩
    have mz0 : w.heap.size < W.heap.size := by omega
    go_wp2_with (first
      | (go_at_call 219; (with_reducible refine (element_any X HX.out _ (DB.below HT.out HB.out (Nat.le_refl _))).mono ?_); rintro e w1 ⟨rfl, rfl⟩)
      | (go_at_call 219; (with_reducible refine (element_any Y HY.out _ (DB.below HT.out HB.out (Nat.le_refl _))).mono ?_); rintro e w2 ⟨rfl, rfl⟩))
    go_returns
    exact ⟨rfl, by have := HB.out; go_grown⟩
  by_cases h2 : op = 2
  · have hR : R = decide (X &&& Y = X) := by rw [HR.out, atomS, if_neg h1, if_pos h2]
    rw [hR]; clear hR h1; subst h2
    go_enter Tryd.func206, Tryd.ntmps206
    go_upto_region 1 with (fail)
    refine wp_abs (fun W => (∀ j, W.cell? ⟨w.heap.size, j, none⟩ = #[Value.int .u8 2, .int .i64 x, .int .i64 y, .int .i64 0, .int .i64 0][j]?) ∧ W.cell? ⟨w.heap.size + 1, x, none⟩ = some (.int .u64 X) ∧ W.cell? ⟨w.heap.size + 1, y, none⟩ = some (.int .u64 Y) ∧ w.heap.size + 1 < W.heap.size ∧ Hid (Below w.heap.size w W)) ?_ ?_
    · exact ⟨((Row.new w 23 _).alloc _).cell, (Row.lit (by simp only [World.size_alloc])).cell x |>.trans HX6.out, (Row.lit (by simp only [World.size_alloc])).cell y |>.trans HY6.out, by simp only [World.size_alloc]; omega, by unfold Hid; go_grown⟩
    rintro W ⟨m0, mx, my, mz, HB⟩
    have mz0 : w.heap.size < W.heap.size := by omega
    go_wp2_with (first
      | (go_at_call 219; (with_reducible refine (element_any X HX.out _ (DB.below HT.out HB.out (Nat.le_refl _))).mono ?_); rintro e w1 ⟨rfl, rfl⟩)
      | (go_at_call 219; (with_reducible refine (element_any Y HY.out _ (DB.below HT.out HB.out (Nat.le_refl _))).mono ?_); rintro e w2 ⟨rfl, rfl⟩))
    go_region
    go_wp2
    go_returns
    exact ⟨rfl, by have := HB.out; go_grown⟩
  by_cases h3 : op = 3
  · have hR : R = decide (X = 0) := by rw [HR.out, atomS, if_neg h1, if_neg h2, if_pos h3]
    rw [hR]; clear hR h1 h2; subst h3
    go_enter Tryd.func206, Tryd.ntmps206
    go_upto_region 1 with (fail)
    refine wp_abs (fun W => (∀ j, W.cell? ⟨w.heap.size, j, none⟩ = #[Value.int .u8 3, .int .i64 x, .int .i64 y, .int .i64 0, .int .i64 0][j]?) ∧ W.cell? ⟨w.heap.size + 1, x, none⟩ = some (.int .u64 X) ∧ W.cell? ⟨w.heap.size + 1, y, none⟩ = some (.int .u64 Y) ∧ w.heap.size + 1 < W.heap.size ∧ Hid (Below w.heap.size w W)) ?_ ?_
    · exact ⟨((Row.new w 23 _).alloc _).cell, (Row.lit (by simp only [World.size_alloc])).cell x |>.trans HX6.out, (Row.lit (by simp only [World.size_alloc])).cell y |>.trans HY6.out, by simp only [World.size_alloc]; omega, by unfold Hid; go_grown⟩
    rintro W ⟨m0, mx, my, mz, HB⟩
    have mz0 : w.heap.size < W.heap.size := by omega
    go_wp2_with (first
      | (go_at_call 219; (with_reducible refine (element_any X HX.out _ (DB.below HT.out HB.out (Nat.le_refl _))).mono ?_); rintro e w1 ⟨rfl, rfl⟩)
      | (go_at_call 219; (with_reducible refine (element_any Y HY.out _ (DB.below HT.out HB.out (Nat.le_refl _))).mono ?_); rintro e w2 ⟨rfl, rfl⟩))
    go_returns
    exact ⟨rfl, by have := HB.out; go_grown⟩
  by_cases h4 : op = 4
  · have hR : R = isOne X := by rw [HR.out, atomS, if_neg h1, if_neg h2, if_neg h3, if_pos h4]
    rw [hR]; clear hR h1 h2 h3; subst h4
    go_enter Tryd.func206, Tryd.ntmps206
    go_upto_region 1 with (fail)
    refine wp_abs (fun W => (∀ j, W.cell? ⟨w.heap.size, j, none⟩ = #[Value.int .u8 4, .int .i64 x, .int .i64 y, .int .i64 0, .int .i64 0][j]?) ∧ W.cell? ⟨w.heap.size + 1, x, none⟩ = some (.int .u64 X) ∧ W.cell? ⟨w.heap.size + 1, y, none⟩ = some (.int .u64 Y) ∧ w.heap.size + 1 < W.heap.size ∧ Hid (Below w.heap.size w W)) ?_ ?_
    · exact ⟨((Row.new w 23 _).alloc _).cell, (Row.lit (by simp only [World.size_alloc])).cell x |>.trans HX6.out, (Row.lit (by simp only [World.size_alloc])).cell y |>.trans HY6.out, by simp only [World.size_alloc]; omega, by unfold Hid; go_grown⟩
    rintro W ⟨m0, mx, my, mz, HB⟩
    have mz0 : w.heap.size < W.heap.size := by omega
    go_wp2_with (first
      | (go_at_call 219; (with_reducible refine (element_any X HX.out _ (DB.below HT.out HB.out (Nat.le_refl _))).mono ?_); rintro e w1 ⟨rfl, rfl⟩)
      | (go_at_call 219; (with_reducible refine (element_any Y HY.out _ (DB.below HT.out HB.out (Nat.le_refl _))).mono ?_); rintro e w2 ⟨rfl, rfl⟩))
    go_returns
    exact ⟨rfl, by have := HB.out; go_grown⟩
  have hR : R = (isOne X && isOne Y && Stc.rel (stcTree t) op (Nat.log2 X) (Nat.log2 Y)) := by rw [HR.out, atomS, if_neg h1, if_neg h2, if_neg h3, if_neg h4]
  have q1 : (op == 1) = false := by simp [h1]
  have q2 : (op == 2) = false := by simp [h2]
  have q3 : (op == 3) = false := by simp [h3]
  have q4 : (op == 4) = false := by simp [h4]
  replace HR := Lib.hid hR
  clear hR h1 h2 h3 h4 hand hz
  cases hox : isOne X
  · have hR : R = false := by rw [HR.out, hox]; rfl
    rw [hR]; clear hR
    have HOX := Lib.hid hox; clear hox
    go_enter Tryd.func206, Tryd.ntmps206
    go_upto_region 1 with (fail)
    refine wp_abs (fun W => (∀ j, W.cell? ⟨w.heap.size, j, none⟩ = #[Value.int .u8 op, .int .i64 x, .int .i64 y, .int .i64 0, .int .i64 0][j]?) ∧ W.cell? ⟨w.heap.size + 1, x, none⟩ = some (.int .u64 X) ∧ W.cell? ⟨w.heap.size + 1, y, none⟩ = some (.int .u64 Y) ∧ w.heap.size + 1 < W.heap.size ∧ Hid (Below w.heap.size w W)) ?_ ?_
    · exact ⟨((Row.new w 23 _).alloc _).cell, (Row.lit (by simp only [World.size_alloc])).cell x |>.trans HX6.out, (Row.lit (by simp only [World.size_alloc])).cell y |>.trans HY6.out, by simp only [World.size_alloc]; omega, by unfold Hid; go_grown⟩
    rintro W ⟨m0, mx, my, mz, HB⟩
    have mz0 : w.heap.size < W.heap.size := by omega
    go_wp2_with (first
      | (go_at_call 219; (with_reducible refine (element_any X HX.out _ (DB.below HT.out HB.out (Nat.le_refl _))).mono ?_); rintro e w1 ⟨rfl, rfl⟩; rw [HOX.out])
      | (go_at_call 219; (with_reducible refine (element_any Y HY.out _ (DB.below HT.out HB.out (Nat.le_refl _))).mono ?_); rintro e w2 ⟨rfl, rfl⟩; (first | rw [HOY.out] | skip)))
    go_returns
    exact ⟨rfl, by have := HB.out; go_grown⟩
  cases hoy : isOne Y
  · have hR : R = false := by rw [HR.out, hox, hoy]; rfl
    rw [hR]; clear hR
    have HOX := Lib.hid hox; clear hox
    have HOY := Lib.hid hoy; clear hoy
    go_enter Tryd.func206, Tryd.ntmps206
    go_upto_region 1 with (fail)
    refine wp_abs (fun W => (∀ j, W.cell? ⟨w.heap.size, j, none⟩ = #[Value.int .u8 op, .int .i64 x, .int .i64 y, .int .i64 0, .int .i64 0][j]?) ∧ W.cell? ⟨w.heap.size + 1, x, none⟩ = some (.int .u64 X) ∧ W.cell? ⟨w.heap.size + 1, y, none⟩ = some (.int .u64 Y) ∧ w.heap.size + 1 < W.heap.size ∧ Hid (Below w.heap.size w W)) ?_ ?_
    · exact ⟨((Row.new w 23 _).alloc _).cell, (Row.lit (by simp only [World.size_alloc])).cell x |>.trans HX6.out, (Row.lit (by simp only [World.size_alloc])).cell y |>.trans HY6.out, by simp only [World.size_alloc]; omega, by unfold Hid; go_grown⟩
    rintro W ⟨m0, mx, my, mz, HB⟩
    have mz0 : w.heap.size < W.heap.size := by omega
    go_wp2_with (first
      | (go_at_call 219; (with_reducible refine (element_any X HX.out _ (DB.below HT.out HB.out (Nat.le_refl _))).mono ?_); rintro e w1 ⟨rfl, rfl⟩; rw [HOX.out])
      | (go_at_call 219; (with_reducible refine (element_any Y HY.out _ (DB.below HT.out HB.out (Nat.le_refl _))).mono ?_); rintro e w2 ⟨rfl, rfl⟩; (first | rw [HOY.out] | skip)))
    go_returns
    exact ⟨rfl, by have := HB.out; go_grown⟩
  have hR : R = Stc.rel (stcTree t) op (Nat.log2 X) (Nat.log2 Y) := by rw [HR.out, hox, hoy]; rfl
  rw [hR]
  obtain ⟨ex, lx⟩ := cx.out hox
  obtain ⟨ey, ly⟩ := cy.out hoy
  generalize Nat.log2 X = p at *
  generalize Nat.log2 Y = q at *
  have LX := Lib.hid lx; have LY := Lib.hid ly; have EX := Lib.hid ex; have EY := Lib.hid ey
  have HOX := Lib.hid hox; have HOY := Lib.hid hoy
  clear hR hox hoy lx ly ex ey
  go_enter Tryd.func206, Tryd.ntmps206
  go_upto_region 1 with (fail)
  refine wp_abs (fun W => (∀ j, W.cell? ⟨w.heap.size, j, none⟩ = #[Value.int .u8 op, .int .i64 x, .int .i64 y, .int .i64 0, .int .i64 0][j]?) ∧ W.cell? ⟨w.heap.size + 1, x, none⟩ = some (.int .u64 X) ∧ W.cell? ⟨w.heap.size + 1, y, none⟩ = some (.int .u64 Y) ∧ w.heap.size + 1 < W.heap.size ∧ Hid (Below w.heap.size w W)) ?_ ?_
  · exact ⟨((Row.new w 23 _).alloc _).cell, (Row.lit (by simp only [World.size_alloc])).cell x |>.trans HX6.out, (Row.lit (by simp only [World.size_alloc])).cell y |>.trans HY6.out, by simp only [World.size_alloc]; omega, by unfold Hid; go_grown⟩
  rintro W ⟨m0, mx, my, mz, HB⟩
  have mz0 : w.heap.size < W.heap.size := by omega
  go_wp2_with (first
    | (go_at_call 219; (with_reducible refine (element_any X HX.out _ (DB.below HT.out HB.out (Nat.le_refl _))).mono ?_); rintro e w1 ⟨rfl, rfl⟩; rw [HOX.out, EX.out])
    | (go_at_call 219; (with_reducible refine (element_any Y HY.out _ (DB.below HT.out HB.out (Nat.le_refl _))).mono ?_); rintro e w2 ⟨rfl, rfl⟩; rw [HOY.out, EY.out])
    | (go_at_call 250; go_must ((with_reducible refine (nodrel_any t _ op hk (by have := HN.out; omega) p q _ (by have := LX.out; have := HN.out; omega) (by have := LY.out; omega) (HV.out.below HB.out (Nat.le_refl _))).mono ?_); rintro e w3 ⟨rfl, hb3⟩; have HB3 : Hid (Below w.heap.size w w3) := HB.out.trans (hb3.mono HB.out.size); clear hb3)))
  go_returns
  exact ⟨rfl, HB3.out⟩
end Go.Proofs.YtgeklibilgfjbaaDoor

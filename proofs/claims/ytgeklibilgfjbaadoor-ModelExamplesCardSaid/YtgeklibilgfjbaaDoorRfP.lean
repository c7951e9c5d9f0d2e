/- Plain laws for the reference of chapter 16: sets as lists of truth values, costs by doubling. No program in sight. -/
/- Contracts of the reference of chapter 16: single, with; slices of slices of truth values. -/
import Derived.Test.YtgeklibilgfjbaaDoorModP
import Derived.Test.YtgeklibilgfjbaaDoorVal
import Derived.Deep.DeepCutAuto
import Derived.Deep.RegionHeld3
set_option linter.unusedSimpArgs false
set_option linter.unusedVariables false
namespace Go.Proofs.YtgeklibilgfjbaaDoor

def bitsL (n s : Nat) : List Bool := (List.range n).map fun k => decide (s / 2 ^ k % 2 = 1)
theorem bitsL_len (n s : Nat) : (bitsL n s).length = n := by simp [bitsL]
theorem bit_test (s k : Nat) : decide (s / 2 ^ k % 2 = 1) = s.testBit k := by rw [Nat.testBit_eq_decide_div_mod_eq]
theorem bitsL_get (n s k : Nat) (hk : k < n) : (bitsL n s)[k]? = some (s.testBit k) := by rw [← bit_test]; simp [bitsL, hk]
theorem bits_high {n s k : Nat} (hs : s < 2 ^ n) (hk : n ≤ k) : s.testBit k = false := Nat.testBit_lt_two_pow (Nat.lt_of_lt_of_le hs (Nat.pow_le_pow_right (by omega) hk))

/-- The places from k on where a list is true. -/
def posL : List Bool → Nat → List Nat
  | [], _ => []
  | b :: l, k => (if b = true then [k] else []) ++ posL l (k + 1)
theorem posL_snoc (l : List Bool) (b : Bool) : ∀ k, posL (l ++ [b]) k = posL l k ++ (if b = true then [k + l.length] else []) := by
  induction l with
  | nil => intro k; simp [posL]
  | cons a l ih => intro k; simp only [List.cons_append, posL, ih, List.length_cons, List.append_assoc]; rw [show k + 1 + l.length = k + (l.length + 1) by omega]
theorem posL_take {l : List Bool} {k : Nat} {b : Bool} (h : l[k]? = some b) : posL (l.take (k + 1)) 0 = posL (l.take k) 0 ++ (if b = true then [k] else []) := by
  have hk := (List.getElem?_eq_some_iff.1 h).1
  rw [List.take_add_one, h, Option.toList_some, posL_snoc, List.length_take, Nat.zero_add, Nat.min_eq_left (by omega)]
theorem posL_prefix (l : List Bool) (k : Nat) : ∃ r, posL l 0 = posL (l.take k) 0 ++ r := by
  have h : ∀ (a c : List Bool) (o : Nat), posL (a ++ c) o = posL a o ++ posL c (o + a.length) := by
    intro a
    induction a with
    | nil => intro c o; simp [posL]
    | cons x a ih => intro c o; simp only [List.cons_append, posL, ih, List.length_cons, List.append_assoc]; rw [show o + 1 + a.length = o + (a.length + 1) by omega]
  refine ⟨posL (l.drop k) (0 + (l.take k).length), ?_⟩
  rw [← h, List.take_append_drop]
def singleL (l : List Bool) : Int := match posL l 0 with
  | [p] => (p : Int)
  | _ => -1
theorem single_none {l : List Bool} (h : posL l 0 = []) : singleL l = -1 := by unfold singleL; rw [h]
theorem single_one {l : List Bool} {p : Nat} (h : posL l 0 = [p]) : singleL l = p := by unfold singleL; rw [h]
theorem single_two {l : List Bool} {p q : Nat} {r : List Nat} (h : posL l 0 = p :: q :: r) : singleL l = -1 := by unfold singleL; rw [h]
theorem posL_bits (n s : Nat) : posL (bitsL n s) 0 = (List.range n).filter fun k => s.testBit k := by
  have h : ∀ m, m ≤ n → posL ((bitsL n s).take m) 0 = (List.range m).filter fun k => s.testBit k := by
    intro m
    induction m with
    | zero => intro _; simp [posL]
    | succ m ih =>
      intro hm
      rw [posL_take (bitsL_get n s m (by omega)), ih (by omega), List.range_succ, List.filter_append]
      congr 1
      simp only [List.filter_cons, List.filter_nil]
  have := h n (Nat.le_refl _)
  rwa [List.take_of_length_le (by rw [bitsL_len]; exact Nat.le_refl _)] at this
theorem filter_one (p : Nat) : ∀ n, (List.range n).filter (fun k => decide (p = k)) = if p < n then [p] else [] := by
  intro n
  induction n with
  | zero => simp
  | succ n ih =>
    rw [List.range_succ, List.filter_append, ih]
    by_cases h : p < n
    · rw [if_pos h, if_pos (by omega)]
      have : p ≠ n := by omega
      simp [this]
    · rw [if_neg h]
      by_cases h2 : p = n
      · subst h2; simp
      · rw [if_neg (by omega)]; simp [h2]
theorem single_bits (n s : Nat) (hs : s < 2 ^ n) : singleL (bitsL n s) = if isOne s = true then ((Nat.log2 s : Nat) : Int) else -1 := by
  by_cases h : isOne s = true
  · rw [if_pos h]
    have e : s = 2 ^ Nat.log2 s := by simpa [isOne] using h
    have hp : Nat.log2 s < n := by
      rw [e] at hs
      exact (Nat.pow_lt_pow_iff_right (by omega)).1 hs
    refine single_one ?_
    rw [posL_bits]
    have : (fun k => s.testBit k) = fun k => decide (Nat.log2 s = k) := by
      funext k
      conv => lhs; rw [e]
      rw [Nat.testBit_two_pow]
    rw [this, filter_one, if_pos hp]
  · rw [if_neg h]
    have hne : ∀ p, posL (bitsL n s) 0 ≠ [p] := fun p hp => by
      rw [posL_bits] at hp
      have hm : ∀ k, k < n → (s.testBit k = true ↔ k = p) := fun k hk => by
        have : k ∈ (List.range n).filter (fun k => s.testBit k) ↔ k ∈ [p] := by rw [hp]
        simpa [hk] using this
      have hpn : p < n := by
        have : p ∈ (List.range n).filter (fun k => s.testBit k) := by rw [hp]; simp
        simp at this; exact this.1
      have e : s = 2 ^ p := by
        apply Nat.eq_of_testBit_eq
        intro k
        rw [Nat.testBit_two_pow]
        by_cases hk : k < n
        · rw [Bool.eq_iff_iff, hm k hk]; simp; omega
        · rw [bits_high hs (by omega)]
          have : ¬ p = k := by omega
          simp [this]
      refine h ?_
      rw [e, isOne, Nat.log2_two_pow]
      simp
    unfold singleL
    split
    · rename_i p hp; exact absurd hp (hne p)
    · rfl
theorem sub_bits (n p q : Nat) (hp : p < 2 ^ n) : decide (p &&& q = p) = (List.range n).all (fun k => !(p.testBit k) || q.testBit k) := by
  rw [Bool.eq_iff_iff]
  simp only [decide_eq_true_eq, List.all_eq_true, List.mem_range, Bool.or_eq_true, Bool.not_eq_true']
  constructor
  · intro h k hk
    have : (p &&& q).testBit k = p.testBit k := by rw [h]
    rw [Nat.testBit_and] at this
    cases h1 : p.testBit k
    · exact .inl rfl
    · rw [h1] at this; right; simpa using this
  · intro h
    apply Nat.eq_of_testBit_eq
    intro k
    rw [Nat.testBit_and]
    by_cases hk : k < n
    · rcases h k hk with h1 | h1 <;> simp [h1]
    · rw [bits_high hp (by omega)]; rfl
theorem zero_bits (n p : Nat) (hp : p < 2 ^ n) : decide (p = 0) = (List.range n).all (fun k => !(p.testBit k)) := by
  rw [Bool.eq_iff_iff]
  simp only [decide_eq_true_eq, List.all_eq_true, List.mem_range, Bool.not_eq_true']
  constructor
  · rintro rfl k _; simp
  · intro h
    apply Nat.eq_of_testBit_eq
    intro k
    rw [Nat.zero_testBit]
    by_cases hk : k < n
    · exact h k hk
    · exact bits_high hp (by omega)

/-- Doubling, n times at most, below the bound. -/
def dblS : Nat → Nat → Nat
  | 0, a => a
  | n + 1, a => if a < 1073741824 then dblS n (2 * a) else a
theorem dbl_cap (n : Nat) : ∀ a, min (1 + dblS n a) 1073741824 = min (1 + 2 ^ n * a) 1073741824 := by
  induction n with
  | zero => intro a; simp [dblS]
  | succ n ih =>
    intro a
    rw [dblS]
    by_cases h : a < 1073741824
    · rw [if_pos h, ih, Nat.pow_succ, Nat.mul_assoc]
    · rw [if_neg h]
      have : a ≤ 2 ^ (n + 1) * a := Nat.le_mul_of_pos_left a (Nat.pos_of_ne_zero (by simp))
      omega
theorem dbl_le (n : Nat) : ∀ a, a ≤ 2147483648 → dblS n a ≤ 2147483648 := by
  induction n with
  | zero => intro a h; exact h
  | succ n ih =>
    intro a h
    rw [dblS]
    split
    · exact ih _ (by omega)
    · exact h
theorem dbl_stop (n a : Nat) (h : n = 0 ∨ 1073741824 ≤ a) : dblS n a = a := by
  cases n with
  | zero => rfl
  | succ n => rw [dblS, if_neg (by omega)]
theorem dbl_step (n k a : Nat) (hk : k < n) (h : a < 1073741824) : dblS (n - k) a = dblS (n - (k + 1)) (2 * a) := by
  rw [show n - k = n - (k + 1) + 1 by omega, dblS, if_pos h]
theorem cost_set (n : Nat) (op x : Int) (a : Tr) (h : op = 12 ∨ op = 13) : costT n (.un op x a) = min (1 + dblS n (costT n a)) 1073741824 := by
  rw [dbl_cap]
  have h9 : op ≠ 9 := by omega
  have h10 : ¬ (op = 10 ∨ op = 11) := by omega
  simp [costT, cstRaw, h9, h10, h]
theorem cost_each (n : Nat) (op x : Int) (a : Tr) (h : op = 14 ∨ op = 15) : costT n (.un op x a) = min (1 + n * costT n a) 1073741824 := by
  have h9 : op ≠ 9 := by omega
  have h10 : ¬ (op = 10 ∨ op = 11) := by omega
  have h12 : ¬ (op = 12 ∨ op = 13) := by omega
  simp [costT, cstRaw, h9, h10, h12, h]
theorem cost_not (n : Nat) (x : Int) (a : Tr) : costT n (.un 9 x a) = min (1 + costT n a) 1073741824 := by simp [costT, cstRaw]
theorem cost_bin (n : Nat) (op : Int) (a b : Tr) (h : op = 10 ∨ op = 11) : costT n (.bin op a b) = min (1 + costT n a + costT n b) 1073741824 := by
  have h9 : op ≠ 9 := by omega
  simp [costT, cstRaw, h9, h]
/-- A formula whose sets may be walked: at most 16 elements where a set quantifier stands. -/
def Few (n : Nat) : Tr → Prop
  | .leaf _ _ _ => True
  | .un op _ a => (op = 12 ∨ op = 13 → n ≤ 16) ∧ Few n a
  | .bin _ a b => Few n a ∧ Few n b
theorem few_small (n : Nat) (hn : n ≤ 16) : ∀ t : Tr, Few n t := by
  intro t
  induction t with
  | leaf => trivial
  | un op x a ih => exact ⟨fun _ => hn, ih⟩
  | bin op a b iha ihb => exact ⟨iha, ihb⟩
theorem few_cost (n : Nat) : ∀ t : Tr, t.ok → costT n t ≤ 65536 → Few n t := by
  intro t
  induction t with
  | leaf => intro _ _; trivial
  | un op x a ih =>
    intro hok h
    have hb := costT_bd n a
    rcases nc1_op hok.1.2.1 with rfl | rfl | rfl | rfl | rfl
    · rw [cost_not] at h
      exact ⟨by omega, ih hok.2 (by omega)⟩
    · rw [cost_set n _ _ _ (.inl rfl), dbl_cap] at h
      have h1 : 2 ^ n * 1 ≤ 2 ^ n * costT n a := Nat.mul_le_mul_left _ hb.1
      have h2 : 1 * costT n a ≤ 2 ^ n * costT n a := Nat.mul_le_mul_right _ (Nat.pos_of_ne_zero (by simp))
      refine ⟨fun _ => ?_, ih hok.2 (by omega)⟩
      have : ¬ 17 ≤ n := fun h17 => by
        have := Nat.pow_le_pow_right (show 0 < 2 by omega) h17
        omega
      omega
    · rw [cost_set n _ _ _ (.inr rfl), dbl_cap] at h
      have h1 : 2 ^ n * 1 ≤ 2 ^ n * costT n a := Nat.mul_le_mul_left _ hb.1
      have h2 : 1 * costT n a ≤ 2 ^ n * costT n a := Nat.mul_le_mul_right _ (Nat.pos_of_ne_zero (by simp))
      refine ⟨fun _ => ?_, ih hok.2 (by omega)⟩
      have : ¬ 17 ≤ n := fun h17 => by
        have := Nat.pow_le_pow_right (show 0 < 2 by omega) h17
        omega
      omega
    · by_cases hn : n ≤ 16
      · exact few_small n hn _
      · rw [cost_each n _ _ _ (.inl rfl)] at h
        have h2 : 1 * costT n a ≤ n * costT n a := Nat.mul_le_mul_right _ (by omega)
        exact ⟨by omega, ih hok.2 (by omega)⟩
    · by_cases hn : n ≤ 16
      · exact few_small n hn _
      · rw [cost_each n _ _ _ (.inr rfl)] at h
        have h2 : 1 * costT n a ≤ n * costT n a := Nat.mul_le_mul_right _ (by omega)
        exact ⟨by omega, ih hok.2 (by omega)⟩
  | bin op a b iha ihb =>
    intro hok h
    rw [cost_bin n _ _ _ (nc2_op hok.1)] at h
    exact ⟨iha hok.2.1 (by omega), ihb hok.2.2 (by omega)⟩
end Go.Proofs.YtgeklibilgfjbaaDoor

namespace Go.Proofs.YtgeklibilgfjbaaDoor
open Go.RowKit

theorem elt_bool : Elt 204 4 (.bool false) 1 := ⟨by kernel_rfl, by kernel_rfl, by omega, rfl⟩
theorem elt_bools : Elt 177 204 (.slice none 0 0) 24 := ⟨by kernel_rfl, by kernel_rfl, by omega, rfl⟩
theorem elt_int : Elt 116 3 (.int .i64 0) 8 := ⟨by kernel_rfl, by kernel_rfl, by omega, rfl⟩
def BLs (w : World) (v : Value) (l : List Bool) : Prop := VS w v (l.map Value.bool)
theorem BLs.below {w w' : World} {v : Value} {f : List Bool} {B : Nat} (h : BLs w v f) (hb : Below B w w') (hB : w.heap.size ≤ B) : BLs w' v f := VS.below h hb hB
theorem one_bools (l : List Bool) : ∀ u ∈ l.map Value.bool, u.oneCell' = true := fun u hu => by
  obtain ⟨b, _, rfl⟩ := List.mem_map.1 hu; rfl
/-- The rows read as these lists. -/
def RowsB (w : World) (rows : List Value) (ls : List (List Bool)) : Prop := rows.length = ls.length ∧ ∀ (i : Nat) r l, rows[i]? = some r → ls[i]? = some l → BLs w r l
theorem RowsB.below {w w' : World} {v : List Value} {f : List (List Bool)} {B : Nat} (h : RowsB w v f) (hb : Below B w w') (hB : w.heap.size ≤ B) : RowsB w' v f := ⟨h.1, fun i r l hr hl => (h.2 i r l hr hl).below hb hB⟩
theorem RowsB.one {w : World} {rows : List Value} {ls : List (List Bool)} (h : RowsB w rows ls) : ∀ u ∈ rows, u.oneCell' = true := fun u hu => by
  obtain ⟨i, hi⟩ := List.getElem?_of_mem hu
  have hil := (List.getElem?_eq_some_iff.1 hi).1
  obtain ⟨A, c, rfl, _⟩ := h.2 i u (ls[i]'(by rw [← h.1]; exact hil)) hi (List.getElem?_eq_getElem _)
  rfl
theorem RowsB.set {w : World} {rows : List Value} {ls : List (List Bool)} (h : RowsB w rows ls) {X : Nat} {s : Value} {l : List Bool} (hs : BLs w s l) : RowsB w (rows.set X s) (ls.set X l) := by
  refine ⟨by simp [h.1], fun i r l' hr hl => ?_⟩
  rw [List.getElem?_set] at hr hl
  by_cases e : X = i
  · rw [if_pos e] at hr hl
    split at hr
    · cases hr
      split at hl
      · cases hl; exact hs
      · cases hl
    · cases hr
  · rw [if_neg e] at hr hl
    exact h.2 i r l' hr hl
theorem RowsB.snoc {w : World} {rows : List Value} {ls : List (List Bool)} (h : RowsB w rows ls) {s : Value} {l : List Bool} (hs : BLs w s l) : RowsB w (rows ++ [s]) (ls ++ [l]) := by
  refine ⟨by simp [h.1], fun i r l' hr hl => ?_⟩
  by_cases e : i < rows.length
  · rw [List.getElem?_append_left e] at hr
    rw [List.getElem?_append_left (by rw [← h.1]; exact e)] at hl
    exact h.2 i r l' hr hl
  · rw [List.getElem?_append_right (by omega)] at hr
    rw [List.getElem?_append_right (by rw [← h.1]; omega)] at hl
    have e2 : i - rows.length = 0 := by have := (List.getElem?_eq_some_iff.1 hr).1; simp at this; omega
    rw [e2] at hr
    rw [← h.1, e2] at hl
    simp at hr hl
    rw [← hr, ← hl]; exact hs
def BB (w : World) (v : Value) (ls : List (List Bool)) : Prop := ∃ rows, VS w v rows ∧ RowsB w rows ls
theorem BB.below {w w' : World} {v : Value} {f : List (List Bool)} {B : Nat} (h : BB w v f) (hb : Below B w w') (hB : w.heap.size ≤ B) : BB w' v f := by
  obtain ⟨rows, h1, h2⟩ := h
  exact ⟨rows, h1.below hb hB, h2.below hb hB⟩

theorem ret_si {R b : Int} (h : R = b) : Ending.returned (.int .i64 b) = .returned (.int .i64 R) := by rw [h]
set_option maxRecDepth 100000 in
set_option maxHeartbeats 1000000 in
theorem single_any (l : List Bool) (v : Value) (w : World) (hv : BLs w v l) : Calls Tryd.prog 207 #[v] w fun e w' => e = .returned (.int .i64 (singleL l)) ∧ w = w' := by
  obtain ⟨A, c, rfl, hc, hc2, hcell⟩ := hv
  rw [List.length_map] at hc hcell ⊢
  obtain ⟨n, hn⟩ : ∃ n, n = l.length := ⟨_, rfl⟩
  rw [← hn] at hc hcell ⊢
  have HN := Lib.hid hn; have HC := Lib.hid hcell
  obtain ⟨R, hR⟩ : ∃ R, R = singleL l := ⟨_, rfl⟩
  rw [← hR]
  have HR := Lib.hid hR
  clear hn hcell hR
  go_enter Tryd.func207, Tryd.ntmps207
  go_wp2
  go_loopg [3, 4] n (fun gk q i wr => ∃ (k : Nat) (P : Int), k ≤ n ∧ gk = n - k ∧ i = .int .i64 k ∧ q = .int .i64 P ∧ w = wr ∧ -1 ≤ P ∧ P < k ∧ ((P < 0 ∧ posL (l.take k) 0 = []) ∨ (0 ≤ P ∧ posL (l.take k) 0 = [P.toNat])))
  case atStart => exact ⟨0, -1, Nat.zero_le _, rfl, rfl, rfl, rfl, by omega, by omega, .inl ⟨by omega, rfl⟩⟩
  case round =>
    obtain ⟨k, P, hk, rfl, rfl, rfl, rfl, hp1, hp2, hpos⟩ := hrel
    have HP := Lib.hid hpos; clear hpos
    by_cases hlt : k < n
    · obtain ⟨b, hb⟩ : ∃ b, l[k]? = some b := ⟨l[k]'(by rw [← HN.out]; exact hlt), List.getElem?_eq_getElem _⟩
      obtain ⟨g, o, rfl, hg, hm⟩ := HC.out (by omega)
      have c0 := hm k (.bool b) (by simp [hb])
      have HT := Lib.hid (posL_take hb)
      have HPX := Lib.hid (posL_prefix l (k + 1))
      clear hm hb
      cases b with
      | false =>
        go_wp2
        go_roundg (n - (k + 1))
        case rel => exact ⟨k + 1, P, by omega, rfl, by go_num, rfl, rfl, hp1, by omega, by have := HT.out; rw [this]; simpa using HP.out⟩
        case measure => omega
      | true =>
        by_cases h0 : 0 ≤ P
        · have hR : R = -1 := by
            obtain ⟨r, hr⟩ := HPX.out
            rcases HP.out with ⟨h, _⟩ | ⟨_, h⟩
            · omega
            · have ht := HT.out
              rw [h] at ht
              rw [ht] at hr
              rw [HR.out]
              exact single_two (by simpa using hr)
          have HRR := Lib.hid hR; clear hR
          go_wp2
          go_returns
          exact ⟨ret_si HRR.out, rfl⟩
        · have h0' : P < 0 := by omega
          clear h0
          go_wp2
          go_roundg (n - (k + 1))
          case rel => exact ⟨k + 1, k, by omega, rfl, by go_num, rfl, rfl, by omega, by omega, .inr ⟨by omega, by
            rcases HP.out with ⟨_, h⟩ | ⟨h, _⟩
            · have := HT.out; rw [h] at this; simpa using this
            · omega⟩⟩
          case measure => omega
    · have hkn : k = n := by omega
      have hR : R = P := by
        have h := HP.out
        rw [hkn, HN.out, List.take_length] at h
        rw [HR.out]
        rcases h with ⟨h1, h2⟩ | ⟨h1, h2⟩
        · rw [single_none h2]; omega
        · rw [single_one h2]; omega
      have HRR := Lib.hid hR; clear hR hkn
      go_wp2
      go_returns
      exact ⟨ret_si HRR.out, rfl⟩

set_option maxRecDepth 100000 in
set_option maxHeartbeats 1000000 in
theorem with_any (rows : List Value) (v s : Value) (X : Nat) (w : World) (hv : VS w v rows) (hX : X < rows.length) (hl : rows.length ≤ 100) (h1 : ∀ u ∈ rows, u.oneCell' = true) (hs : ∃ A c d, s = .slice A c d) :
    Calls Tryd.prog 191 #[v, .int .i64 X, s] w fun e w' => ∃ v', e = .returned v' ∧ Below w.heap.size w w' ∧ VS w' v' (rows.set X s) := by
  have HV := Lib.hid hv; have H1 := Lib.hid h1
  obtain ⟨A, c, d, rfl⟩ := hs
  clear hv h1
  go_enter Tryd.func191, Tryd.ntmps191
  go_upto_region 2 with (at_builtin; go_must (refine wpList_append_vs elt_bools rfl (.tmp 8) (.tmp 9) rfl w.heap.size _ [] rfl (VO.made (n := 0) #[] rfl (by omega)) _ rows rfl (HV.out.below (Below.alloc (Below.refl _ _) (Nat.le_refl _) _) (Nat.le_refl _)) H1.out (by simp only [List.length_nil]; omega) (by simp) ?_; intro v1 w1 ho1 hg1 _))
  have HB := Lib.hid (own_below_v (w := w) (v := _) (f := []) (Below.alloc (Below.refl _ _) (Nat.le_refl _) _) (VO.made (E := 204) (n := 0) #[] rfl (by omega)) hg1 (by simp))
  rw [List.nil_append] at ho1
  obtain ⟨g, cap, cs, rfl, hg, hr, hc1, hc2, hcl⟩ := ho1.row (by omega)
  obtain ⟨u, hu⟩ : ∃ u, rows[X]? = some u := ⟨rows[X], List.getElem?_eq_getElem hX⟩
  have c0 := hcl X u hu
  have f0 := hr.free X
  obtain ⟨n, hn⟩ : ∃ n, n = rows.length := ⟨_, rfl⟩
  have HO := Lib.hid (set_val ho1 rfl X (.slice A c d) rfl)
  rw [← hn] at HO hX hc1 ⊢
  clear hcl hr hg1 ho1 hu hn
  have hX0 : (0 : Int) ≤ X := by omega
  have hX1 : (X : Int) < n := by omega
  go_wp2
  go_returns
  exact ⟨_, rfl, HB.out.setCell hg _, HO.out.vs⟩
end Go.Proofs.YtgeklibilgfjbaaDoor

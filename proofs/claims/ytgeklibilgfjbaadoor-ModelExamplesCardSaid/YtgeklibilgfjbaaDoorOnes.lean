/- Plain arithmetic: the parallel count of one bits; it is 1 exactly at the powers of two. No program in sight. -/
import Derived.Test.YtgeklibilgfjbaaDoorModS
set_option linter.unusedSimpArgs false
set_option linter.unusedVariables false
namespace Go.Proofs.YtgeklibilgfjbaaDoor

theorem and_split (A b M m : Nat) (hb : b < 256) (hm : m < 256) : (256 * A + b) &&& (256 * M + m) = 256 * (A &&& M) + (b &&& m) := by
  have hbm : b &&& m < 2 ^ 8 := Nat.lt_of_le_of_lt Nat.and_le_left hb
  apply Nat.eq_of_testBit_eq
  intro j
  rw [Nat.testBit_and, show (256 : Nat) = 2 ^ 8 from rfl, Nat.testBit_two_pow_mul_add A hb, Nat.testBit_two_pow_mul_add M hm, Nat.testBit_two_pow_mul_add (A &&& M) hbm, Nat.testBit_and, Nat.testBit_and]
  split <;> rfl

def g1 (b : Nat) : Nat := ((b / 2) &&& 85) + (b &&& 85)
def g2 (b : Nat) : Nat := ((b / 4) &&& 51) + (b &&& 51)
def g3 (b : Nat) : Nat := ((b / 16) + b) &&& 15
def f1 (x M : Nat) : Nat := ((x / 2) &&& M) + (x &&& M)
def f2 (x M : Nat) : Nat := ((x / 4) &&& M) + (x &&& M)
def f3 (x M : Nat) : Nat := ((x / 16) + x) &&& M
theorem low1 : ∀ b, b < 256 → ∀ a, a < 2 → (128 * a + b / 2) &&& 85 = (b / 2) &&& 85 := by decide +kernel
theorem low2 : ∀ b, b < 256 → ∀ a, a < 4 → (64 * a + b / 4) &&& 51 = (b / 4) &&& 51 := by decide +kernel
theorem low3 : ∀ b, b < 256 → ∀ a, a < 5 → 16 * a + b / 16 + g2 (g1 b) < 256 ∨ True := by intros; exact .inr trivial
theorem g1_lt : ∀ b, b < 256 → g1 b < 256 := by decide +kernel
theorem g2_lt : ∀ b, b < 256 → g2 b < 256 := by decide +kernel
theorem nib : ∀ b, b < 256 → g2 (g1 b) % 16 < 5 ∧ g2 (g1 b) / 16 < 5 := by decide +kernel
theorem low3' : ∀ h, h < 5 → ∀ l, l < 5 → ∀ a, a < 5 → (16 * a + (16 * h + l) / 16 + (16 * h + l)) &&& 15 = g3 (16 * h + l) ∧ 16 * a + (16 * h + l) / 16 + (16 * h + l) < 256 := by decide +kernel
theorem f1_split (A b M : Nat) (hb : b < 256) : f1 (256 * A + b) (256 * M + 85) = 256 * f1 A M + g1 b := by
  have e : (256 * A + b) / 2 = 256 * (A / 2) + (128 * (A % 2) + b / 2) := by omega
  unfold f1 g1
  rw [e, and_split _ _ _ _ (by omega) (by omega), and_split _ _ _ _ hb (by omega), low1 b hb _ (by omega)]
  omega
theorem f2_split (A b M : Nat) (hb : b < 256) : f2 (256 * A + b) (256 * M + 51) = 256 * f2 A M + g2 b := by
  have e : (256 * A + b) / 4 = 256 * (A / 4) + (64 * (A % 4) + b / 4) := by omega
  unfold f2 g2
  rw [e, and_split _ _ _ _ (by omega) (by omega), and_split _ _ _ _ hb (by omega), low2 b hb _ (by omega)]
  omega
theorem f3_split (A b M : Nat) (hh : b / 16 < 5) (hl : b % 16 < 5) (ha : A % 16 < 5) : f3 (256 * A + b) (256 * M + 15) = 256 * f3 A M + g3 b := by
  obtain ⟨k1, k2⟩ := low3' (b / 16) hh (b % 16) hl (A % 16) ha
  have eb : 16 * (b / 16) + b % 16 = b := by omega
  rw [eb] at k1 k2
  have e : (256 * A + b) / 16 + (256 * A + b) = 256 * (A / 16 + A) + (16 * (A % 16) + b / 16 + b) := by omega
  unfold f3
  rw [e, and_split _ _ _ _ k2 (by omega), k1]

def pop8 (b : Nat) : Nat := b % 2 + b / 2 % 2 + b / 4 % 2 + b / 8 % 2 + b / 16 % 2 + b / 32 % 2 + b / 64 % 2 + b / 128 % 2
theorem g_pop : ∀ b, b < 256 → g3 (g2 (g1 b)) = pop8 b ∧ pop8 b ≤ 8 := by decide +kernel
theorem pop8_one : ∀ b, b < 256 → (pop8 b = 0 → b = 0) ∧ (pop8 b = 1 → ∃ j, j < 8 ∧ b = 2 ^ j) := by decide +kernel
/-- The number whose bytes are these, the lowest first. -/
def ofB : List Nat → Nat
  | [] => 0
  | b :: l => 256 * ofB l + b
theorem steps (l : List Nat) (hl : ∀ b ∈ l, b < 256) :
    f3 (f2 (f1 (ofB l) (ofB (l.map fun _ => 85))) (ofB (l.map fun _ => 51))) (ofB (l.map fun _ => 15)) = ofB (l.map pop8) ∧ f2 (f1 (ofB l) (ofB (l.map fun _ => 85))) (ofB (l.map fun _ => 51)) % 16 < 5 := by
  induction l with
  | nil => simp [ofB, f1, f2, f3]
  | cons b l ih =>
    have hb := hl b (by simp)
    obtain ⟨i1, i2⟩ := ih (fun c hc => hl c (by simp [hc]))
    simp only [List.map_cons, ofB]
    rw [f1_split _ _ _ hb, f2_split _ _ _ (g1_lt b hb)]
    obtain ⟨n1, n2⟩ := nib b hb
    rw [f3_split _ _ _ n2 n1 i2, i1, (g_pop b hb).1]
    exact ⟨rfl, by omega⟩

def bytesK : Nat → Nat → List Nat
  | 0, _ => []
  | k + 1, x => x % 256 :: bytesK k (x / 256)
def bytesOf (x : Nat) : List Nat := bytesK 8 x
theorem ofB_bytesK : ∀ k x, x < 256 ^ k → ofB (bytesK k x) = x := by
  intro k
  induction k with
  | zero => intro x h; simp at h; simp [bytesK, ofB, h]
  | succ k ih =>
    intro x h
    rw [Nat.pow_succ] at h
    rw [bytesK, ofB, ih (x / 256) (by omega)]
    omega
theorem ofB_bytes (x : Nat) (hx : x < 18446744073709551616) : ofB (bytesOf x) = x := ofB_bytesK 8 x hx
theorem bytesK_lt : ∀ k x, ∀ b ∈ bytesK k x, b < 256 := by
  intro k
  induction k with
  | zero => intro x b hb; simp [bytesK] at hb
  | succ k ih =>
    intro x b hb
    simp only [bytesK, List.mem_cons] at hb
    rcases hb with rfl | hb
    · omega
    · exact ih _ b hb
theorem bytes_lt (x : Nat) : ∀ b ∈ bytesOf x, b < 256 := bytesK_lt 8 x
def pop (x : Nat) : Nat := ((bytesOf x).map pop8).sum
theorem ones_bytes (x : Nat) (hx : x < 18446744073709551616) : f3 (f2 (f1 x 6148914691236517205) 3689348814741910323) 1085102592571150095 = ofB ((bytesOf x).map pop8) := by
  have h := (steps (bytesOf x) (bytes_lt x)).1
  rw [ofB_bytes x hx] at h
  have e1 : ofB ((bytesOf x).map fun _ => 85) = 6148914691236517205 := by simp [bytesOf, bytesK, ofB]
  have e2 : ofB ((bytesOf x).map fun _ => 51) = 3689348814741910323 := by simp [bytesOf, bytesK, ofB]
  have e3 : ofB ((bytesOf x).map fun _ => 15) = 1085102592571150095 := by simp [bytesOf, bytesK, ofB]
  rw [e1, e2, e3] at h
  exact h
theorem ofB_div (b : Nat) (l : List Nat) (hb : b < 256) : ofB (b :: l) / 256 = ofB l := by rw [ofB]; omega
theorem ofB_lt : ∀ (l : List Nat), (∀ b ∈ l, b ≤ 64) → 3 * ofB l < 256 ^ l.length := by
  intro l
  induction l with
  | nil => intro _; simp [ofB]
  | cons b l ih =>
    intro h
    have h1 := h b (by simp)
    have h2 := ih (fun c hc => h c (by simp [hc]))
    rw [ofB, List.length_cons, Nat.pow_succ]
    omega
theorem fold_sum (c0 c1 c2 c3 c4 c5 c6 c7 : Nat) (h0 : c0 ≤ 8) (h1 : c1 ≤ 8) (h2 : c2 ≤ 8) (h3 : c3 ≤ 8) (h4 : c4 ≤ 8) (h5 : c5 ≤ 8) (h6 : c6 ≤ 8) (h7 : c7 ≤ 8) (X Y Z : Nat)
    (hX : X = ofB [c0, c1, c2, c3, c4, c5, c6, c7]) (hY : Y = X + X / 256) (hZ : Z = Y + Y / 65536) :
    (Z + Z / 4294967296) % 128 = c0 + (c1 + (c2 + (c3 + (c4 + (c5 + (c6 + c7)))))) ∧ Z + Z / 4294967296 < 9223372036854775808 ∧ Y < 9223372036854775808 ∧ Z < 9223372036854775808 := by
  have eY : Y = ofB [c0 + c1, c1 + c2, c2 + c3, c3 + c4, c4 + c5, c5 + c6, c6 + c7, c7] := by
    rw [hY, hX, ofB_div _ _ (by omega)]
    simp only [ofB]; omega
  have eZ : Z = ofB [c0 + c1 + (c2 + c3), c1 + c2 + (c3 + c4), c2 + c3 + (c4 + c5), c3 + c4 + (c5 + c6), c4 + c5 + (c6 + c7), c5 + c6 + c7, c6 + c7, c7] := by
    rw [hZ, show (65536 : Nat) = 256 * 256 from rfl, ← Nat.div_div_eq_div_mul, eY, ofB_div _ _ (by omega), ofB_div _ _ (by omega)]
    simp only [ofB]; omega
  have eT : Z + Z / 4294967296 = ofB [c0 + c1 + (c2 + c3) + (c4 + c5 + (c6 + c7)), c1 + c2 + (c3 + c4) + (c5 + c6 + c7), c2 + c3 + (c4 + c5) + (c6 + c7), c3 + c4 + (c5 + c6) + c7, c4 + c5 + (c6 + c7), c5 + c6 + c7, c6 + c7, c7] := by
    rw [show (4294967296 : Nat) = 256 * 256 * 256 * 256 from rfl, ← Nat.div_div_eq_div_mul, ← Nat.div_div_eq_div_mul, ← Nat.div_div_eq_div_mul, eZ, ofB_div _ _ (by omega), ofB_div _ _ (by omega), ofB_div _ _ (by omega), ofB_div _ _ (by omega)]
    simp only [ofB]; omega
  have bY : 3 * Y < 256 ^ 8 := by rw [eY]; exact ofB_lt _ (by simp only [List.mem_cons, List.not_mem_nil, or_false]; intro b hb; omega)
  have bZ : 3 * Z < 256 ^ 8 := by rw [eZ]; exact ofB_lt _ (by simp only [List.mem_cons, List.not_mem_nil, or_false]; intro b hb; omega)
  have bT : 3 * (Z + Z / 4294967296) < 256 ^ 8 := by rw [eT]; exact ofB_lt _ (by simp only [List.mem_cons, List.not_mem_nil, or_false]; intro b hb; omega)
  refine ⟨?_, by omega, by omega, by omega⟩
  rw [eT, ofB]
  omega
theorem ones_sum (x X Y Z : Nat) (hx : x < 18446744073709551616) (hX : X = f3 (f2 (f1 x 6148914691236517205) 3689348814741910323) 1085102592571150095) (hY : Y = X + X / 256) (hZ : Z = Y + Y / 65536) :
    (Z + Z / 4294967296) % 128 = pop x ∧ Z + Z / 4294967296 < 9223372036854775808 ∧ Y < 9223372036854775808 ∧ Z < 9223372036854775808 := by
  rw [ones_bytes x hx] at hX
  have hb := bytes_lt x
  have P : ∀ b ∈ bytesOf x, pop8 b ≤ 8 := fun b h => (g_pop b (hb b h)).2
  simp only [bytesOf, bytesK, List.map_cons, List.map_nil] at hX
  have := fold_sum _ _ _ _ _ _ _ _ (P _ (by simp [bytesOf, bytesK])) (P _ (by simp [bytesOf, bytesK])) (P _ (by simp [bytesOf, bytesK])) (P _ (by simp [bytesOf, bytesK])) (P _ (by simp [bytesOf, bytesK])) (P _ (by simp [bytesOf, bytesK])) (P _ (by simp [bytesOf, bytesK])) (P _ (by simp [bytesOf, bytesK])) X Y Z hX hY hZ
  refine ⟨this.1.trans ?_, this.2⟩
  simp only [pop, bytesOf, bytesK, List.map_cons, List.map_nil, List.sum_cons, List.sum_nil, Nat.add_zero]
theorem isOne_pow (k : Nat) : isOne (2 ^ k) = true := by unfold isOne; rw [Nat.log2_two_pow]; exact decide_eq_true rfl
theorem pop_pow : ∀ k, k < 64 → pop (2 ^ k) = 1 := by decide +kernel
theorem isOne_iff (s : Nat) : isOne s = true ↔ ∃ k, s = 2 ^ k := by
  constructor
  · intro h; exact ⟨_, of_decide_eq_true h⟩
  · rintro ⟨k, rfl⟩; exact isOne_pow k
theorem log2_lt {x : Nat} (hx : x < 18446744073709551616) (h : isOne x = true) : Nat.log2 x < 64 := by
  have e : x = 2 ^ Nat.log2 x := of_decide_eq_true h
  rw [e] at hx
  exact (Nat.pow_lt_pow_iff_right (by omega)).1 (show 2 ^ Nat.log2 x < 2 ^ 64 from hx)
theorem pop_one (x : Nat) (hx : x < 18446744073709551616) : pop x = 1 ↔ isOne x = true := by
  constructor
  · intro h
    have hb := bytes_lt x
    have hs : ofB (bytesOf x) = x := ofB_bytes x hx
    have key : ∀ l : List Nat, (∀ b ∈ l, b < 256) → ((l.map pop8).sum = 0 → ofB l = 0) ∧ ((l.map pop8).sum = 1 → ∃ k, ofB l = 2 ^ k) := by
      intro l
      induction l with
      | nil => intro _; simp [ofB]
      | cons b l ih =>
        intro hl
        obtain ⟨i0, i1⟩ := ih (fun c hc => hl c (by simp [hc]))
        obtain ⟨p0, p1⟩ := pop8_one b (hl b (by simp))
        simp only [List.map_cons, List.sum_cons, ofB]
        constructor
        · intro h
          rw [p0 (by omega), i0 (by omega)]
        · intro h
          by_cases h0 : pop8 b = 0
          · obtain ⟨k, hk⟩ := i1 (by omega)
            rw [p0 h0, hk]
            exact ⟨8 + k, by rw [Nat.pow_add]; rfl⟩
          · obtain ⟨j, hj, hj2⟩ := p1 (by omega)
            rw [i0 (by omega), hj2]
            exact ⟨j, by omega⟩
    obtain ⟨k, hk⟩ := (key _ hb).2 h
    rw [hs] at hk
    exact (isOne_iff x).2 ⟨k, hk⟩
  · intro h
    have e : x = 2 ^ Nat.log2 x := of_decide_eq_true h
    rw [e]
    exact pop_pow _ (log2_lt hx h)
end Go.Proofs.YtgeklibilgfjbaaDoor

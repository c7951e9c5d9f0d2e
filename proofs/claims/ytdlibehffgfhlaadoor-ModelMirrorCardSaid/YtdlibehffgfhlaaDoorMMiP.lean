/- Plain laws for ModelMirror: a mirrored tree satisfies the formula with left and right exchanged. No program in sight. -/
/- ModelMirror: for every formula and tree the law returns true. -/
import Derived.Test.YtdlibehffgfhlaaDoorMBoP
import Derived.Test.YtdlibehffgfhlaaDoorBtM
import Derived.Test.YtdlibehffgfhlaaDoorMdlG
import Derived.Test.YtdlibehffgfhlaaDoorTrC
import Derived.Test.YtdlibehffgfhlaaDoorKit
set_option linter.unusedSimpArgs false
set_option linter.unusedVariables false
namespace Go.Proofs.YtdlibehffgfhlaaDoor

theorem isOne_lt_m {x n : Nat} (h : isOne x = true) (hx : x < 2 ^ n) : Nat.log2 x < n := by
  have e : x = 2 ^ Nat.log2 x := of_decide_eq_true h
  rw [e] at hx
  exact (Nat.pow_lt_pow_iff_right (by omega)).1 hx
theorem getV_lt_m {a : List Nat} {N : Nat} (h : ∀ u ∈ a, u < N) (hN : 0 < N) (x : Int) : getV a x < N := by
  unfold getV
  rw [List.getD_eq_getElem?_getD]
  cases e : a[x.toNat]? with
  | none => exact hN
  | some u => exact h u (List.mem_of_getElem? e)
theorem setV_lt_m {a : List Nat} {N s : Nat} (h : ∀ u ∈ a, u < N) (hs : s < N) (x : Int) : ∀ u ∈ setV a x s, u < N := fun u hu => by
  rcases List.mem_or_eq_of_mem_set hu with h1 | h1
  · exact h u h1
  · omega
/-- The place of a node in the mirror image. -/
def Bt.pi : Bt → Nat → Nat
  | .nil, p => p
  | .node _ l r, p => if p = 0 then 0 else if p - 1 < l.size then 1 + r.size + l.pi (p - 1) else 1 + r.pi (p - 1 - l.size)
theorem Bt.pi_zero (b : Bt) : b.pi 0 = 0 := by cases b <;> simp [Bt.pi]
theorem Bt.pi_lt (b : Bt) : ∀ p, p < b.size → b.pi p < b.size := by
  induction b with
  | nil => intro p h; simp [Bt.size] at h
  | node lab l r ihl ihr =>
    intro p h
    simp only [Bt.size] at h ⊢
    simp only [Bt.pi]
    by_cases h0 : p = 0
    · rw [if_pos h0]; omega
    · rw [if_neg h0]
      by_cases hl : p - 1 < l.size
      · rw [if_pos hl]; have := ihl (p - 1) hl; omega
      · rw [if_neg hl]; have := ihr (p - 1 - l.size) (by omega); omega
theorem Bt.pi_pi (b : Bt) : ∀ p, p < b.size → b.mir.pi (b.pi p) = p := by
  induction b with
  | nil => intro p h; simp [Bt.size] at h
  | node lab l r ihl ihr =>
    intro p h
    simp only [Bt.size] at h
    simp only [Bt.mir, Bt.pi]
    by_cases h0 : p = 0
    · rw [if_pos h0, if_pos rfl, h0]
    · rw [if_neg h0]
      by_cases hl : p - 1 < l.size
      · rw [if_pos hl, if_neg (by omega), Bt.mir_size, if_neg (by omega), show 1 + r.size + l.pi (p - 1) - 1 - r.size = l.pi (p - 1) by omega, ihl _ hl]; omega
      · have := Bt.pi_lt r (p - 1 - l.size) (by omega)
        rw [if_neg hl, if_neg (by omega), Bt.mir_size, if_pos (by omega), Bt.mir_size, show 1 + r.pi (p - 1 - l.size) - 1 = r.pi (p - 1 - l.size) by omega, ihr _ (by omega)]; omega
theorem kids_range (b : Bt) (o p : Nat) (x : Lf) (hx : (b.enc o)[p]? = some x) : (x.left = -1 ∨ ((o : Int) < x.left ∧ x.left < ((o + b.size : Nat) : Int))) ∧ (x.right = -1 ∨ ((o : Int) < x.right ∧ x.right < ((o + b.size : Nat) : Int))) := by
  have hp : p < b.size := by have := (List.getElem?_eq_some_iff.1 hx).1; rwa [Bt.enc_len] at this
  have hs : Seg (List.replicate o ⟨0, 0, 0⟩ ++ b.enc o) o b := fun j hj => by
    rw [List.getElem?_append_right (by simp), List.length_replicate, Nat.add_sub_cancel_left]
  obtain ⟨y, h1, h2, h3⟩ := seg_kids _ b o hs p hp
  rw [hs p hp, hx] at h1
  cases h1
  omega
/-- The place of a child in the mirror image. -/
def mpk (b : Bt) (o o' : Nat) (c : Int) : Int := if c = -1 then -1 else ((o' + b.pi (c.toNat - o) : Nat) : Int)
theorem mpk_none (b : Bt) (o o' : Nat) : mpk b o o' (-1) = -1 := by unfold mpk; rw [if_pos rfl]
theorem mpk_some (b : Bt) (o o' k : Nat) : mpk b o o' (k : Int) = ((o' + b.pi (k - o) : Nat) : Int) := by unfold mpk; rw [if_neg (by omega), Int.toNat_natCast]
theorem at_none {b : Bt} (h : b.size = 0) (p : Nat) : b.at p = -1 := by unfold Bt.at; rw [if_pos h]
theorem at_some {b : Bt} (h : ¬ b.size = 0) (p : Nat) : b.at p = (p : Int) := by unfold Bt.at; rw [if_neg h]
theorem mir_kids (b : Bt) : ∀ (o o' p : Nat), p < b.size → ∃ x y, (b.enc o)[p]? = some x ∧ (b.mir.enc o')[b.pi p]? = some y ∧ y.label = x.label ∧ y.right = mpk b o o' x.left ∧ y.left = mpk b o o' x.right := by
  induction b with
  | nil => intro o o' p h; simp [Bt.size] at h
  | node lab l r ihl ihr =>
    intro o o' p h
    simp only [Bt.size] at h
    by_cases h0 : p = 0
    · subst h0
      refine ⟨⟨lab, l.at (o + 1), r.at (o + 1 + l.size)⟩, ⟨lab, r.mir.at (o' + 1), l.mir.at (o' + 1 + r.mir.size)⟩, by simp [Bt.enc], by simp [Bt.enc, Bt.pi, Bt.mir], rfl, ?_, ?_⟩
      · show l.mir.at (o' + 1 + r.mir.size) = mpk (.node lab l r) o o' (l.at (o + 1))
        by_cases hl : l.size = 0
        · rw [at_none hl, at_none (by rw [Bt.mir_size]; exact hl), mpk_none]
        · rw [at_some hl, at_some (by rw [Bt.mir_size]; exact hl), mpk_some, Bt.mir_size, show o + 1 - o = 1 by omega]
          simp only [Bt.pi]
          rw [if_neg (by omega), if_pos (by omega), Bt.pi_zero]; omega
      · show r.mir.at (o' + 1) = mpk (.node lab l r) o o' (r.at (o + 1 + l.size))
        by_cases hr : r.size = 0
        · rw [at_none hr, at_none (by rw [Bt.mir_size]; exact hr), mpk_none]
        · rw [at_some hr, at_some (by rw [Bt.mir_size]; exact hr), mpk_some, show o + 1 + l.size - o = 1 + l.size by omega]
          simp only [Bt.pi]
          rw [if_neg (by omega), if_neg (by omega), show 1 + l.size - 1 - l.size = 0 by omega, Bt.pi_zero]
    · by_cases hl : p - 1 < l.size
      · obtain ⟨x, y, hx, hy, e1, e2, e3⟩ := ihl (o + 1) (o' + 1 + r.size) (p - 1) hl
        have hk := kids_range l (o + 1) (p - 1) x hx
        have sub : ∀ c : Int, (c = -1 ∨ (((o + 1 : Nat) : Int) < c ∧ c < ((o + 1 + l.size : Nat) : Int))) → mpk l (o + 1) (o' + 1 + r.size) c = mpk (.node lab l r) o o' c := fun c hc => by
          unfold mpk
          by_cases hc1 : c = -1
          · rw [if_pos hc1, if_pos hc1]
          · rw [if_neg hc1, if_neg hc1]
            simp only [Bt.pi]
            rw [if_neg (by omega), if_pos (by omega), show c.toNat - o - 1 = c.toNat - (o + 1) by omega]; omega
        refine ⟨x, y, ?_, ?_, e1, by rw [e2, sub _ hk.1], by rw [e3, sub _ hk.2]⟩
        · obtain ⟨q, rfl⟩ : ∃ q, p = q + 1 := ⟨p - 1, by omega⟩
          rw [Bt.enc, List.getElem?_cons_succ, List.getElem?_append_left (by rw [Bt.enc_len]; omega)]
          exact hx
        · simp only [Bt.pi, Bt.mir, Bt.enc]
          have hlt := Bt.pi_lt l _ hl
          rw [if_neg h0, if_pos hl, show 1 + r.size + l.pi (p - 1) = (r.size + l.pi (p - 1)) + 1 by omega, List.getElem?_cons_succ, List.getElem?_append_right (by rw [Bt.enc_len, Bt.mir_size]; omega), Bt.enc_len, Bt.mir_size, Nat.add_sub_cancel_left]
          exact hy
      · obtain ⟨x, y, hx, hy, e1, e2, e3⟩ := ihr (o + 1 + l.size) (o' + 1) (p - 1 - l.size) (by omega)
        have hk := kids_range r (o + 1 + l.size) (p - 1 - l.size) x hx
        have sub : ∀ c : Int, (c = -1 ∨ (((o + 1 + l.size : Nat) : Int) < c ∧ c < ((o + 1 + l.size + r.size : Nat) : Int))) → mpk r (o + 1 + l.size) (o' + 1) c = mpk (.node lab l r) o o' c := fun c hc => by
          unfold mpk
          by_cases hc1 : c = -1
          · rw [if_pos hc1, if_pos hc1]
          · rw [if_neg hc1, if_neg hc1]
            simp only [Bt.pi]
            rw [if_neg (by omega), if_neg (by omega), show c.toNat - o - 1 - l.size = c.toNat - (o + 1 + l.size) by omega]; omega
        refine ⟨x, y, ?_, ?_, e1, by rw [e2, sub _ hk.1], by rw [e3, sub _ hk.2]⟩
        · obtain ⟨q, rfl⟩ : ∃ q, p = q + 1 := ⟨p - 1, by omega⟩
          rw [Bt.enc, List.getElem?_cons_succ, List.getElem?_append_right (by rw [Bt.enc_len]; omega), Bt.enc_len]
          exact hx
        · simp only [Bt.pi, Bt.mir, Bt.enc]
          have hlt := Bt.pi_lt r (p - 1 - l.size) (by omega)
          rw [if_neg h0, if_neg hl, show 1 + r.pi (p - 1 - l.size) = r.pi (p - 1 - l.size) + 1 by omega, List.getElem?_cons_succ, List.getElem?_append_left (by rw [Bt.enc_len, Bt.mir_size]; omega)]
          exact hy

theorem ancS_low {t : List Lf} {p q : Nat} (h : q ≤ p) : ancS t p q = false := by
  unfold ancS
  cases t.length - p with
  | zero => rfl
  | succ k => rw [ancF, if_pos h]
theorem ancS_free {t : List Lf} (hk : KidsOk t) (p q : Nat) (x : Lf) (hx : t[p]? = some x) :
    ancS t p q = ((decide (x.left = q) || (decide (0 < x.left) && ancS t x.left.toNat q)) || (decide (x.right = q) || (decide (0 < x.right) && ancS t x.right.toNat q))) := by
  rw [ancS_eq hk p q x hx]
  by_cases hq : q ≤ p
  · have hkk := hk p x hx
    have e : ∀ c : Int, (c = -1 ∨ ((p : Int) < c ∧ c < (t.length : Int))) → (decide (c = q) || (decide (0 < c) && ancS t c.toNat q)) = false := fun c hc => by
      have h1 : decide (c = q) = false := by simp; omega
      rw [h1]
      by_cases h0 : 0 < c
      · rw [ancS_low (by omega)]; simp
      · simp [h0]
    rw [if_pos hq, e _ hkk.1, e _ hkk.2]; rfl
  · rw [if_neg hq]
/-- What is known of a tree's list, its mirror image and the places. -/
structure Mirs (b : Bt) (t t' : List Lf) : Prop where
  len : t.length = b.size
  len' : t'.length = b.size
  ok : KidsOk t
  ok' : KidsOk t'
  at_ : ∀ p, p < b.size → ∃ x y, t[p]? = some x ∧ t'[b.pi p]? = some y ∧ y.label = x.label ∧ y.right = mpk b 0 0 x.left ∧ y.left = mpk b 0 0 x.right
theorem mirs_mk (b : Bt) (h : b.size ≤ 31) : Mirs b (b.enc 0) (b.mir.enc 0) :=
  ⟨Bt.enc_len b 0, by rw [Bt.enc_len, Bt.mir_size], kids_ok (formed_bt b h), kids_ok (formed_bt _ (by rw [Bt.mir_size]; exact h)), fun p hp => mir_kids b 0 0 p hp⟩
theorem pi_inj (b : Bt) {p q : Nat} (hp : p < b.size) (hq : q < b.size) (h : b.pi p = b.pi q) : p = q := by
  rw [← Bt.pi_pi b p hp, h, Bt.pi_pi b q hq]
theorem anc_mir {b : Bt} {t t' : List Lf} (H : Mirs b t t') : ∀ d p q, b.size - p ≤ d → p < b.size → q < b.size → ancS t p q = ancS t' (b.pi p) (b.pi q) := by
  intro d
  induction d with
  | zero => intro p q h1 h2; omega
  | succ d ih =>
    intro p q hd hp hq
    obtain ⟨x, y, hx, hy, e1, e2, e3⟩ := H.at_ p hp
    rw [ancS_free H.ok p q x hx, ancS_free H.ok' (b.pi p) (b.pi q) y hy, e2, e3]
    have hk := H.ok p x hx
    have hk' := H.ok' _ y hy
    rw [e2, e3, H.len'] at hk'
    rw [H.len] at hk
    have e : ∀ c : Int, (c = -1 ∨ ((p : Int) < c ∧ c < (b.size : Int))) → (mpk b 0 0 c = -1 ∨ ((b.pi p : Int) < mpk b 0 0 c ∧ mpk b 0 0 c < (b.size : Int))) →
        (decide (c = q) || (decide (0 < c) && ancS t c.toNat q)) = (decide (mpk b 0 0 c = (b.pi q : Int)) || (decide (0 < mpk b 0 0 c) && ancS t' (mpk b 0 0 c).toNat (b.pi q))) := fun c hc hc' => by
      unfold mpk at hc' ⊢
      by_cases h1 : c = -1
      · subst h1
        simp only [if_true]
        have a1 : decide ((-1 : Int) = q) = false := by simp
        have a2 : decide ((-1 : Int) = (b.pi q : Int)) = false := by simp
        rw [a1, a2]; rfl
      · rw [if_neg h1] at hc' ⊢
        obtain ⟨k, rfl⟩ : ∃ k : Nat, c = k := ⟨c.toNat, by omega⟩
        simp only [Int.toNat_natCast, Nat.sub_zero, Nat.zero_add] at hc' ⊢
        have hkn : k < b.size := by omega
        rw [ih k q (by omega) hkn hq]
        have d1 : decide ((k : Int) = q) = decide ((b.pi k : Int) = (b.pi q : Int)) := by
          rw [Bool.eq_iff_iff, decide_eq_true_eq, decide_eq_true_eq]
          constructor
          · intro h; rw [show k = q by omega]
          · intro h; have := pi_inj b hkn hq (by omega); omega
        have d2 : decide ((0 : Int) < k) = true := by simp; omega
        have d3 : decide ((0 : Int) < (b.pi k : Int)) = true := by simp; omega
        rw [d1, d2, d3]
    rw [e _ hk.1 hk'.2, e _ hk.2 hk'.1, Bool.or_comm]

def swO (op : Int) : Int := if op = 7 then 8 else if op = 8 then 7 else op
theorem rel_mir {b : Bt} {t t' : List Lf} (H : Mirs b t t') (op : Int) (p q : Nat) (hp : p < b.size) (hq : q < b.size) : relTree t op p q = relTree t' (swO op) (b.pi p) (b.pi q) := by
  obtain ⟨x, y, hx, hy, e1, e2, e3⟩ := H.at_ p hp
  have hk := H.ok p x hx
  rw [H.len] at hk
  have d : ∀ c : Int, (c = -1 ∨ ((p : Int) < c ∧ c < (b.size : Int))) → decide (c = (q : Int)) = decide (mpk b 0 0 c = (b.pi q : Int)) := fun c hc => by
    unfold mpk
    by_cases h1 : c = -1
    · subst h1; rw [if_pos rfl, Bool.eq_iff_iff]; simp
    · rw [if_neg h1, Bool.eq_iff_iff, decide_eq_true_eq, decide_eq_true_eq]
      obtain ⟨k, rfl⟩ : ∃ k : Nat, c = k := ⟨c.toNat, by omega⟩
      simp only [Int.toNat_natCast, Nat.sub_zero, Nat.zero_add]
      constructor
      · intro h; rw [show k = q by omega]
      · intro h; have := pi_inj b (by omega : k < b.size) hq (by omega); omega
  have l1 : leftS t p = x.left := by unfold leftS; rw [hx]
  have r1 : rightS t p = x.right := by unfold rightS; rw [hx]
  have l2 : leftS t' (b.pi p) = mpk b 0 0 x.right := by unfold leftS; rw [hy]; exact e3
  have r2 : rightS t' (b.pi p) = mpk b 0 0 x.left := by unfold rightS; rw [hy]; exact e2
  unfold relTree swO
  by_cases h7 : op = 7
  · rw [if_pos h7, if_pos h7, if_neg (by omega), if_pos rfl, l1, r2, d _ hk.1]
  · by_cases h8 : op = 8
    · rw [if_neg h7, if_pos h8, if_neg h7, if_pos h8, if_pos rfl, r1, l2, d _ hk.2]
    · rw [if_neg h7, if_neg h8, if_neg h7, if_neg h8, if_neg h7, if_neg h8, anc_mir H _ p q (Nat.le_refl _) hp hq]

/-- The number with these bits. -/
def mkS : Nat → (Nat → Bool) → Nat
  | 0, _ => 0
  | n + 1, f => 2 ^ n * (if f n then 1 else 0) + mkS n f
theorem mkS_lt (n : Nat) (f : Nat → Bool) : mkS n f < 2 ^ n := by
  induction n with
  | zero => simp [mkS]
  | succ n ih => simp only [mkS, Nat.pow_succ]; split <;> omega
theorem mkS_bit (n : Nat) (f : Nat → Bool) (k : Nat) : (mkS n f).testBit k = (decide (k < n) && f k) := by
  induction n with
  | zero => simp [mkS]
  | succ n ih =>
    rw [mkS, Nat.testBit_two_pow_mul_add _ (mkS_lt n f), ih]
    by_cases h1 : k < n
    · rw [if_pos h1]; simp [h1, Nat.lt_succ_of_lt h1]
    · rw [if_neg h1]
      by_cases h2 : k = n
      · subst h2; cases hf : f k <;> simp
      · have h3 : ¬ k < n + 1 := by omega
        have h4 : 0 < k - n := by omega
        rw [decide_eq_false h3, Bool.false_and]
        obtain ⟨j, hj⟩ : ∃ j, k - n = j + 1 := ⟨k - n - 1, by omega⟩
        rw [hj]
        split <;> simp [Nat.testBit_succ]
def permS (n : Nat) (σ : Nat → Nat) (s : Nat) : Nat := mkS n fun q => s.testBit (σ q)
theorem permS_lt (n : Nat) (σ : Nat → Nat) (s : Nat) : permS n σ s < 2 ^ n := mkS_lt _ _
theorem permS_bit (n : Nat) (σ : Nat → Nat) (s k : Nat) : (permS n σ s).testBit k = (decide (k < n) && s.testBit (σ k)) := mkS_bit _ _ _
theorem bits_eq {n x y : Nat} (hx : x < 2 ^ n) (hy : y < 2 ^ n) (h : ∀ k, k < n → x.testBit k = y.testBit k) : x = y := by
  apply Nat.eq_of_testBit_eq
  intro k
  by_cases hk : k < n
  · exact h k hk
  · have h2 : 2 ^ n ≤ 2 ^ k := Nat.pow_le_pow_right (by omega) (by omega)
    rw [Nat.testBit_lt_two_pow (by omega), Nat.testBit_lt_two_pow (by omega)]
/-- Two structures alike under a change of places. -/
structure IsoS (S S' : Stc) (π σ : Nat → Nat) : Prop where
  n : S.n = S'.n
  lt : ∀ p, p < S.n → π p < S.n
  lt' : ∀ p, p < S.n → σ p < S.n
  sp : ∀ p, p < S.n → σ (π p) = p
  ps : ∀ p, p < S.n → π (σ p) = p
  rel : ∀ (op : Int) (p q : Nat), p < S.n → q < S.n → S.rel op p q = S'.rel (swO op) (π p) (π q)
theorem perm_perm {n : Nat} {π σ : Nat → Nat} (hl : ∀ p, p < n → π p < n) (h : ∀ p, p < n → σ (π p) = p) {s : Nat} (hs : s < 2 ^ n) : permS n π (permS n σ s) = s := by
  refine bits_eq (permS_lt _ _ _) hs fun k hk => ?_
  rw [permS_bit, permS_bit, h k hk]
  simp [hk, hl k hk]
theorem perm_pow {n : Nat} {π σ : Nat → Nat} (hl : ∀ p, p < n → π p < n) (h : ∀ p, p < n → σ (π p) = p) (h2 : ∀ p, p < n → π (σ p) = p) {p : Nat} (hp : p < n) : permS n σ (2 ^ p) = 2 ^ π p := by
  refine bits_eq (permS_lt _ _ _) (Nat.pow_lt_pow_right (by omega) (hl p hp)) fun k hk => ?_
  rw [permS_bit, Nat.testBit_two_pow, Nat.testBit_two_pow, Bool.eq_iff_iff]
  simp only [hk, decide_true, Bool.true_and, decide_eq_true_eq]
  constructor
  · intro e; rw [e, h2 k hk]
  · intro e; rw [← e, h p hp]
theorem perm_zero (n : Nat) (σ : Nat → Nat) : permS n σ 0 = 0 := by
  refine bits_eq (permS_lt _ _ _) (Nat.pos_of_ne_zero (by simp)) fun k hk => ?_
  rw [permS_bit]; simp
theorem perm_and (n : Nat) (σ : Nat → Nat) (p q : Nat) : permS n σ (p &&& q) = permS n σ p &&& permS n σ q := by
  apply Nat.eq_of_testBit_eq
  intro k
  rw [permS_bit, Nat.testBit_and, Nat.testBit_and, permS_bit, permS_bit]
  cases decide (k < n) <;> simp
theorem swO_le {op : Int} (h : op ≤ 4) : swO op = op := by unfold swO; rw [if_neg (by omega), if_neg (by omega)]
theorem atom_iso {S S' : Stc} {π σ : Nat → Nat} (H : IsoS S S' π σ) (op : Int) (p q : Nat) (hp : p < 2 ^ S.n) (hq : q < 2 ^ S.n) : atomS S op p q = atomS S' (swO op) (permS S.n σ p) (permS S.n σ q) := by
  have inj : ∀ x y, x < 2 ^ S.n → y < 2 ^ S.n → permS S.n σ x = permS S.n σ y → x = y := fun x y hx hy h => by
    rw [← perm_perm H.lt H.sp hx, h, perm_perm H.lt H.sp hy]
  have one : ∀ x, x < 2 ^ S.n → isOne (permS S.n σ x) = isOne x ∧ (isOne x = true → Nat.log2 (permS S.n σ x) = π (Nat.log2 x) ∧ Nat.log2 x < S.n) := fun x hx => by
    by_cases h : isOne x = true
    · have hl := isOne_lt_m h hx
      have e : x = 2 ^ Nat.log2 x := of_decide_eq_true h
      have e2 : permS S.n σ x = 2 ^ π (Nat.log2 x) := by
        conv => lhs; rw [e]
        exact perm_pow H.lt H.sp H.ps hl
      rw [e2, isOne_pow, Nat.log2_two_pow, h]
      exact ⟨rfl, fun _ => ⟨rfl, hl⟩⟩
    · refine ⟨?_, fun h2 => absurd h2 h⟩
      rw [Bool.eq_iff_iff]
      refine ⟨fun h2 => ?_, fun h2 => absurd h2 h⟩
      have hl := isOne_lt_m h2 (permS_lt _ _ _)
      have e : permS S.n σ x = 2 ^ Nat.log2 (permS S.n σ x) := of_decide_eq_true h2
      have e2 := perm_perm H.lt H.sp hx
      rw [e, perm_pow H.lt' H.ps H.sp hl] at e2
      rw [← e2]; exact isOne_pow _
  obtain ⟨p1, p2⟩ := one p hp
  obtain ⟨q1, q2⟩ := one q hq
  by_cases h4 : op ≤ 4
  · rw [swO_le h4]
    unfold atomS
    by_cases a1 : op = 1
    · rw [if_pos a1, if_pos a1]
    by_cases a2 : op = 2
    · rw [if_neg a1, if_pos a2, if_neg a1, if_pos a2, Bool.eq_iff_iff, decide_eq_true_eq, decide_eq_true_eq, ← perm_and]
      constructor
      · intro h; rw [h]
      · intro h; exact inj _ _ (Nat.lt_of_le_of_lt Nat.and_le_left hp) hp h
    by_cases a3 : op = 3
    · rw [if_neg a1, if_neg a2, if_pos a3, if_neg a1, if_neg a2, if_pos a3, Bool.eq_iff_iff, decide_eq_true_eq, decide_eq_true_eq]
      constructor
      · intro h; rw [h, perm_zero]
      · intro h; exact inj _ _ hp (Nat.pos_of_ne_zero (by simp)) (by rw [h, perm_zero])
    by_cases a4 : op = 4
    · rw [if_neg a1, if_neg a2, if_neg a3, if_pos a4, if_neg a1, if_neg a2, if_neg a3, if_pos a4, p1]
    have n1 : (isOne p && isOne q && S.rel op (Nat.log2 p) (Nat.log2 q)) = (isOne p && isOne q && S'.rel op (π (Nat.log2 p)) (π (Nat.log2 q))) := by
      cases h1 : isOne p
      · rfl
      · cases h2 : isOne q
        · rfl
        · rw [H.rel op _ _ (p2 h1).2 (q2 h2).2, swO_le h4]
    rw [if_neg a1, if_neg a2, if_neg a3, if_neg a4, if_neg a1, if_neg a2, if_neg a3, if_neg a4, p1, q1, n1]
    cases h1 : isOne p
    · rfl
    · cases h2 : isOne q
      · rfl
      · rw [(p2 h1).1, (q2 h2).1]
  · have h4' : 4 < swO op := by
      unfold swO
      split
      · omega
      · split <;> omega
    unfold atomS
    rw [if_neg (by omega), if_neg (by omega), if_neg (by omega), if_neg (by omega), if_neg (by omega), if_neg (by omega), if_neg (by omega), if_neg (by omega), p1, q1]
    cases h1 : isOne p
    · rfl
    · cases h2 : isOne q
      · rfl
      · rw [(p2 h1).1, (q2 h2).1, H.rel op _ _ (p2 h1).2 (q2 h2).2]
def Tr.sw : Tr → Tr
  | .leaf op x y => .leaf (swO op) x y
  | .un op x a => .un op x a.sw
  | .bin op a b => .bin op a.sw b.sw
theorem getV_map (n : Nat) (σ : Nat → Nat) (a : List Nat) (x : Int) : getV (a.map (permS n σ)) x = permS n σ (getV a x) := by
  unfold getV
  rw [List.getD_eq_getElem?_getD, List.getD_eq_getElem?_getD, List.getElem?_map]
  cases a[x.toNat]? with
  | none => simp [perm_zero]
  | some u => rfl
theorem setV_map (n : Nat) (σ : Nat → Nat) (a : List Nat) (x : Int) (s : Nat) : setV (a.map (permS n σ)) x (permS n σ s) = (setV a x s).map (permS n σ) := by
  unfold setV; rw [List.map_set]
theorem holds_iso {S S' : Stc} {π σ : Nat → Nat} (H : IsoS S S' π σ) (hn : S.n ≤ 31) : ∀ (t : Tr) (a : List Nat), (∀ u ∈ a, u < 2 ^ S.n) → holdsT S t a = holdsT S' t.sw (a.map (permS S.n σ)) := by
  have hp2 : 0 < 2 ^ S.n := Nat.pos_of_ne_zero (by simp)
  have hset : setN S.n = 2 ^ S.n := by
    unfold setN
    have : 2 ^ S.n ≤ 2 ^ 31 := Nat.pow_le_pow_right (by omega) hn
    exact Nat.mod_eq_of_lt (by omega)
  intro t
  induction t with
  | leaf op x y =>
    intro a ha
    simp only [holdsT, Tr.sw]
    rw [getV_map, getV_map]
    exact atom_iso H op _ _ (getV_lt_m ha hp2 x) (getV_lt_m ha hp2 y)
  | un op x b ih =>
    intro a ha
    have e1 : ∀ s, s < 2 ^ S.n → holdsT S b (setV a x s) = holdsT S' b.sw (setV (a.map (permS S.n σ)) x (permS S.n σ s)) := fun s hs => by
      rw [ih _ (setV_lt_m ha hs x), setV_map]
    have any1 : ((List.range (2 ^ S.n)).any fun s => holdsT S b (setV a x s)) = (List.range (2 ^ S.n)).any fun s => holdsT S' b.sw (setV (a.map (permS S.n σ)) x s) := by
      rw [Bool.eq_iff_iff, List.any_eq_true, List.any_eq_true]
      constructor
      · rintro ⟨s, hs, h⟩
        exact ⟨permS S.n σ s, List.mem_range.2 (permS_lt _ _ _), by rw [← e1 s (List.mem_range.1 hs)]; exact h⟩
      · rintro ⟨s, hs, h⟩
        refine ⟨permS S.n π s, List.mem_range.2 (permS_lt _ _ _), ?_⟩
        rw [e1 _ (permS_lt _ _ _), perm_perm H.lt' H.ps (List.mem_range.1 hs)]; exact h
    have all1 : ((List.range (2 ^ S.n)).all fun s => holdsT S b (setV a x s)) = (List.range (2 ^ S.n)).all fun s => holdsT S' b.sw (setV (a.map (permS S.n σ)) x s) := by
      rw [Bool.eq_iff_iff, List.all_eq_true, List.all_eq_true]
      constructor
      · intro h s hs
        have := h (permS S.n π s) (List.mem_range.2 (permS_lt _ _ _))
        rw [e1 _ (permS_lt _ _ _), perm_perm H.lt' H.ps (List.mem_range.1 hs)] at this; exact this
      · intro h s hs
        rw [e1 s (List.mem_range.1 hs)]
        exact h _ (List.mem_range.2 (permS_lt _ _ _))
    have e2 : ∀ p, p < S.n → holdsT S b (setV a x (2 ^ p)) = holdsT S' b.sw (setV (a.map (permS S.n σ)) x (2 ^ π p)) := fun p hp => by
      rw [e1 _ (Nat.pow_lt_pow_right (by omega) hp), perm_pow H.lt H.sp H.ps hp]
    have any2 : ((List.range S.n).any fun p => holdsT S b (setV a x (2 ^ p))) = (List.range S.n).any fun p => holdsT S' b.sw (setV (a.map (permS S.n σ)) x (2 ^ p)) := by
      rw [Bool.eq_iff_iff, List.any_eq_true, List.any_eq_true]
      constructor
      · rintro ⟨p, hp, h⟩
        have hp := List.mem_range.1 hp
        exact ⟨π p, List.mem_range.2 (H.lt p hp), by rw [← e2 p hp]; exact h⟩
      · rintro ⟨p, hp, h⟩
        have hp := List.mem_range.1 hp
        exact ⟨σ p, List.mem_range.2 (H.lt' p hp), by rw [e2 _ (H.lt' p hp), H.ps p hp]; exact h⟩
    have all2 : ((List.range S.n).all fun p => holdsT S b (setV a x (2 ^ p))) = (List.range S.n).all fun p => holdsT S' b.sw (setV (a.map (permS S.n σ)) x (2 ^ p)) := by
      rw [Bool.eq_iff_iff, List.all_eq_true, List.all_eq_true]
      constructor
      · intro h p hp
        have hp := List.mem_range.1 hp
        have := h (σ p) (List.mem_range.2 (H.lt' p hp))
        rw [e2 _ (H.lt' p hp), H.ps p hp] at this; exact this
      · intro h p hp
        have hp := List.mem_range.1 hp
        rw [e2 p hp]
        exact h _ (List.mem_range.2 (H.lt p hp))
    simp only [holdsT, Tr.sw]
    rw [← H.n, hset, ih a ha, any1, all1, any2, all2]
  | bin op b c ihb ihc =>
    intro a ha
    simp only [holdsT, Tr.sw]
    rw [ihb a ha, ihc a ha]

/-- Formulas with left and right exchanged. -/
def swM (m : Mk) : Mk := { m with op := swO m.op }
theorem Tr.sw_size (t : Tr) : t.sw.size = t.size := by
  induction t with
  | leaf => rfl
  | un op x a ih => simp [Tr.sw, Tr.size, ih]
  | bin op a b iha ihb => simp [Tr.sw, Tr.size, iha, ihb]
theorem sw_cases (P : Int → Int → Prop) (h : ∀ op, P op op) (h7 : P 7 8) (h8 : P 8 7) (op : Int) : P op (swO op) := by
  unfold swO
  split
  · next e => rw [e]; exact h7
  · split
    · next e => rw [e]; exact h8
    · exact h op
theorem swO_nc (op : Int) : nc (swO op) = nc op := sw_cases (fun a b => nc b = nc a) (fun _ => rfl) rfl rfl op
theorem swO_nv (op : Int) : nv (swO op) = nv op := sw_cases (fun a b => nv b = nv a) (fun _ => rfl) rfl rfl op
theorem swO_nm (op : Int) : nm (swO op) = [] ↔ nm op = [] := sw_cases (fun a b => nm b = [] ↔ nm a = []) (fun _ => Iff.rfl) (by decide) (by decide) op
theorem swO_knows (op : Int) : knows true (swO op) = knows true op := sw_cases (fun a b => knows true b = knows true a) (fun _ => rfl) rfl rfl op
theorem swM_within (m : Mk) (v : Int) : within (swM m) v = within m v := by unfold within swM; simp only [swO_nv]
theorem swM_spare (m : Mk) : spare (swM m) = spare m := by unfold spare swM; simp only [swO_nv]
theorem swM_blk (acc : List Nat) (m : Mk) : blk acc (swM m) = blk acc m := by unfold blk swM; simp only [swO_nc]
theorem szs_sw (f : List Mk) : szs (f.map swM) = szs f := by
  unfold szs
  rw [List.foldl_map]
  congr 1
  funext acc m
  rw [swM_blk]
theorem chkNode_sw (m : Mk) (s : Nat) : chkNode 3 (knows true) (swM m) s = chkNode 3 (knows true) m s := by
  unfold chkNode
  rw [swM_within, swM_spare]
  have e1 : (swM m).op = swO m.op := rfl
  rw [e1, swO_knows m.op]
  by_cases h : nm m.op = []
  · rw [if_pos h, if_pos ((swO_nm m.op).2 h)]
  · rw [if_neg h, if_neg (fun e => h ((swO_nm m.op).1 e))]
theorem chkList_sw : ∀ (f : List Mk) (ss : List Nat), chkList 3 (knows true) (f.map swM) ss = chkList 3 (knows true) f ss
  | [], ss => by cases ss <;> rfl
  | m :: f, [] => rfl
  | m :: f, s :: ss => by
    simp only [List.map_cons, chkList]
    rw [chkNode_sw m s, chkList_sw f ss]
theorem check_sw (f : List Mk) : checkS (f.map swM) 3 true = checkS f 3 true := by
  unfold checkS
  rw [if_neg (by simp), if_neg (by simp)]
  unfold chk
  rw [List.length_map, szs_sw, chkList_sw f _]
theorem enc_sw (t : Tr) : t.ok → ∀ p, (t.enc p).map swM = t.sw.enc p := by
  induction t with
  | leaf op x y => intro ok p; rfl
  | un op x a ih =>
    intro ok p
    have h7 : swO op = op := by have := nc1_op ok.1.2.1; unfold swO; rw [if_neg (by omega), if_neg (by omega)]
    simp only [Tr.enc, Tr.sw, List.map_append, List.map_cons, List.map_nil, ih ok.2, Tr.sw_size]
    simp [swM, h7]
  | bin op a b iha ihb =>
    intro ok p
    have h7 : swO op = op := by have := nc2_op ok.1; unfold swO; rw [if_neg (by omega), if_neg (by omega)]
    simp only [Tr.enc, Tr.sw, List.map_append, List.map_cons, List.map_nil, iha ok.2.1, ihb ok.2.2, Tr.sw_size]
    simp [swM, h7]
theorem ok_sw (t : Tr) : t.ok → t.sw.ok := by
  induction t with
  | leaf op x y =>
    intro ok
    obtain ⟨h1, h2, h3, h4⟩ := ok
    refine ⟨fun e => h1 ((swO_nm op).1 e), by rw [swO_nc]; exact h2, ?_, ?_⟩
    · have := swM_within ⟨op, x, y, 0, 0⟩ 6; rw [h3] at this; exact this
    · have := swM_spare ⟨op, x, y, 0, 0⟩; rw [h4] at this; exact this
  | un op x a ih => intro ok; exact ⟨ok.1, ih ok.2⟩
  | bin op a b iha ihb => intro ok; exact ⟨ok.1, iha ok.2.1, ihb ok.2.2⟩
theorem cost_sw (n : Nat) (t : Tr) : costT n t.sw = costT n t := by
  induction t with
  | leaf => rfl
  | un op x a ih => simp only [Tr.sw, costT, ih]
  | bin op a b iha ihb => simp only [Tr.sw, costT, iha, ihb]
theorem tree_sw {f : List Mk} (hf : formedS f = true) : treeOf (f.map swM) = (treeOf f).sw := by
  obtain ⟨_, ok, _, he⟩ := treeOf_ok hf
  generalize treeOf f = t at *
  rw [he, enc_sw t ok, treeOf_eq _ (ok_sw t ok)]

theorem givenV_bit (l : List Nat) (v k : Nat) : (givenV l v).testBit k = (match l[k]? with
    | some x => decide (x / 2 ^ v % 2 = 1)
    | none => false) := by
  have key : ∀ n, n ≤ l.length → (givenV (l.take n) v).testBit k = (match (l.take n)[k]? with
      | some x => decide (x / 2 ^ v % 2 = 1)
      | none => false) := by
    intro n
    induction n with
    | zero => intro _; simp [givenV]
    | succ n ih =>
      intro hn
      have h := ih (by omega)
      obtain ⟨x, hx⟩ : ∃ x, l[n]? = some x := ⟨l[n], List.getElem?_eq_getElem (by omega)⟩
      have hl : (l.take n).length = n := by rw [List.length_take]; omega
      rw [List.take_add_one, hx]
      simp only [Option.toList_some]
      have hlt := givenV_lt (l.take n) v
      rw [hl] at hlt
      rw [givenV_snoc, hl, Nat.add_comm, Nat.mul_comm, Nat.testBit_two_pow_mul_add _ hlt]
      by_cases hk : k < n
      · rw [if_pos hk, List.getElem?_append_left (by omega)]; exact h
      · rw [if_neg hk, List.getElem?_append_right (by omega), hl]
        have hb : x / 2 ^ v % 2 = 0 ∨ x / 2 ^ v % 2 = 1 := by omega
        by_cases hkn : k = n
        · subst hkn
          rw [Nat.sub_self]
          rcases hb with hb | hb <;> rw [hb] <;> simp [hb]
        · obtain ⟨j, hj⟩ : ∃ j, k - n = j + 1 := ⟨k - n - 1, by omega⟩
          rw [hj]
          rcases hb with hb | hb <;> rw [hb] <;> simp [Nat.testBit_succ]
  have := key l.length (Nat.le_refl _)
  rwa [List.take_length] at this

theorem labels_mir {b : Bt} {t t' : List Lf} (H : Mirs b t t') (p : Nat) (hp : p < b.size) : (labelsS t')[b.pi p]? = (labelsS t)[p]? := by
  obtain ⟨x, y, hx, hy, e1, _⟩ := H.at_ p hp
  unfold labelsS
  rw [List.getElem?_map, List.getElem?_map, hx, hy]
  simp [e1]
theorem iso_mir {b : Bt} {t t' : List Lf} (H : Mirs b t t') : IsoS (stcTree t) (stcTree t') b.pi b.mir.pi := by
  have hn : (stcTree t).n = b.size := H.len
  refine ⟨by rw [hn]; exact H.len'.symm, fun p hp => ?_, fun p hp => ?_, fun p hp => ?_, fun p hp => ?_, fun op p q hp hq => ?_⟩
  · rw [hn] at hp ⊢; exact Bt.pi_lt b p hp
  · rw [hn] at hp ⊢
    have := Bt.pi_lt b.mir p (by rw [Bt.mir_size]; exact hp)
    rwa [Bt.mir_size] at this
  · rw [hn] at hp; exact Bt.pi_pi b p hp
  · rw [hn] at hp
    have := Bt.pi_pi b.mir p (by rw [Bt.mir_size]; exact hp)
    rwa [Bt.mir_mir] at this
  · rw [hn] at hp hq; exact rel_mir H op p q hp hq
theorem given_mir {b : Bt} {t t' : List Lf} (H : Mirs b t t') : givenS (labelsS t') = (givenS (labelsS t)).map (permS b.size b.mir.pi) := by
  unfold givenS
  rw [List.map_map]
  apply List.map_congr_left
  intro v _
  show givenV (labelsS t') v = permS b.size b.mir.pi (givenV (labelsS t) v)
  have hl' : (labelsS t').length = b.size := by simp [labelsS, H.len']
  have hlt := givenV_lt (labelsS t') v
  rw [hl'] at hlt
  refine bits_eq hlt (permS_lt _ _ _) fun k hk => ?_
  rw [permS_bit, givenV_bit, givenV_bit]
  have hk2 : b.mir.pi k < b.size := by
    have := Bt.pi_lt b.mir k (by rw [Bt.mir_size]; exact hk)
    rwa [Bt.mir_size] at this
  have hpp : b.pi (b.mir.pi k) = k := by
    have := Bt.pi_pi b.mir k (by rw [Bt.mir_size]; exact hk)
    rwa [Bt.mir_mir] at this
  have := labels_mir H _ hk2
  rw [hpp] at this
  rw [this]
  simp [hk]
theorem any_mir {b : Bt} {t t' : List Lf} (H : Mirs b t t') (v : Int) : t'.any (badLabel v) = t.any (badLabel v) := by
  rw [Bool.eq_iff_iff, List.any_eq_true, List.any_eq_true]
  constructor
  · rintro ⟨y, hy, h⟩
    obtain ⟨k, hk⟩ := List.getElem?_of_mem hy
    have hkn : k < b.size := by have := (List.getElem?_eq_some_iff.1 hk).1; rwa [H.len'] at this
    have hk2 : b.mir.pi k < b.size := by
      have := Bt.pi_lt b.mir k (by rw [Bt.mir_size]; exact hkn)
      rwa [Bt.mir_size] at this
    have hpp : b.pi (b.mir.pi k) = k := by
      have := Bt.pi_pi b.mir k (by rw [Bt.mir_size]; exact hkn)
      rwa [Bt.mir_mir] at this
    obtain ⟨x, y', hx, hy', e1, _⟩ := H.at_ _ hk2
    rw [hpp, hk] at hy'
    cases hy'
    refine ⟨x, List.mem_of_getElem? hx, ?_⟩
    unfold badLabel at h ⊢
    rwa [e1] at h
  · rintro ⟨x, hx, h⟩
    obtain ⟨k, hk⟩ := List.getElem?_of_mem hx
    have hkn : k < b.size := by have := (List.getElem?_eq_some_iff.1 hk).1; rwa [H.len] at this
    obtain ⟨x', y, hx', hy, e1, _⟩ := H.at_ k hkn
    rw [hk] at hx'
    cases hx'
    refine ⟨y, List.mem_of_getElem? hy, ?_⟩
    unfold badLabel at h ⊢
    rwa [e1]
theorem mirror_law (a : List Mk) (t : List Lf) (hf : formedT t = true) : modelTreeS (a.map swM) 3 (mirrorS t) = modelTreeS a 3 t := by
  obtain ⟨h31, hb, hs, he⟩ := btOf_ok hf
  have hm : mirrorS t = (btOf t).mir.enc 0 := rfl
  have hf' := mirror_formed hf
  have hlm := mirrorS_len hf
  rw [hm] at hf' hlm ⊢
  have H := mirs_mk (btOf t) (by omega)
  rw [← he] at H
  generalize btOf t = b at *
  generalize b.mir.enc 0 = t' at *
  unfold modelTreeS
  rw [check_sw a]
  have hck : checkT t' 3 = checkT t 3 := by
    unfold checkT
    rw [hlm, any_mir H, hf, hf']
  rw [hck]
  by_cases hc : checkS a 3 true = 0
  · have hf2 := check_formed_of hc
    unfold evalS
    rw [tree_sw hf2, cost_sw]
    have hn : (stcTree t).n = b.size := H.len
    have hn' : (stcTree t').n = b.size := H.len'
    have hiso := holds_iso (iso_mir H) (by rw [hn]; omega) (treeOf a) (givenS (labelsS t)) (fun u hu => by
      simp only [givenS, List.mem_map] at hu
      obtain ⟨v, _, rfl⟩ := hu
      have := givenV_lt (labelsS t) v
      rw [show (labelsS t).length = b.size by simp [labelsS, H.len]] at this
      rw [hn]; exact this)
    rw [hn] at hiso
    rw [hn', hn, given_mir H, hiso]
  · rw [if_pos hc, if_pos hc]
end Go.Proofs.YtdlibehffgfhlaaDoor

namespace Go.Proofs.YtdlibehffgfhlaaDoor
open Go.RowKit

def sk (a : List Mk) (k : Nat) : List Mk := (a.take k).map swM ++ a.drop k
theorem sk_len (a : List Mk) (k : Nat) : (sk a k).length = a.length := by simp [sk]; omega
theorem sk_at {a : List Mk} {k : Nat} {m : Mk} (h : a[k]? = some m) : (sk a k)[k]? = some m := by
  have hk := (List.getElem?_eq_some_iff.1 h).1
  unfold sk
  rw [List.getElem?_append_right (by simp; omega), List.length_map, List.length_take, Nat.min_eq_left (by omega), Nat.sub_self, List.getElem?_drop, Nat.add_zero, h]
theorem sk_step {a : List Mk} {k : Nat} {m : Mk} (h : a[k]? = some m) : (sk a k).set k (swM m) = sk a (k + 1) := by
  have hk := (List.getElem?_eq_some_iff.1 h).1
  have hm := (List.getElem?_eq_some_iff.1 h).2
  unfold sk
  rw [List.set_append_right _ _ (by simp; omega), List.length_map, List.length_take, Nat.min_eq_left (by omega), Nat.sub_self, List.drop_eq_getElem_cons hk, hm, List.set_cons_zero, List.take_add_one, h]
  simp
theorem sk_skip {a : List Mk} {k : Nat} {m : Mk} (h : a[k]? = some m) (h7 : m.op ≠ 7) (h8 : m.op ≠ 8) : sk a (k + 1) = sk a k := by
  have e : swM m = m := by obtain ⟨op, x, y, p, q⟩ := m; simp only at h7 h8; simp [swM, swO, h7, h8]
  have h2 := sk_at h
  obtain ⟨h3, h4⟩ := List.getElem?_eq_some_iff.1 h2
  rw [← sk_step h, e]
  conv => lhs; rw [← h4]
  exact List.set_getElem_self h3
theorem sk_zero (a : List Mk) : sk a 0 = a := by simp [sk]
theorem sk_all (a : List Mk) : sk a a.length = a.map swM := by simp [sk]

set_option maxRecDepth 100000 in
set_option maxHeartbeats 4000000 in
theorem mirror_walk (f : List Mk) (l : List Lf) (v u : Value) (w : World) (hv : MS w v f) (hu : TS w u l) (hdb : DB w) :
    Calls Tryd.prog 12 #[v, u] w fun e w' => e = .returned (.bool true) ∧ Below w.heap.size w w' := by
  have HV := Lib.hid hv; have HU := Lib.hid hu; have HDB := Lib.hid hdb
  obtain ⟨_, A, c, rfl, hc1, hc2, _⟩ := hv
  obtain ⟨_, A2, d, rfl, hd1, hd2, _⟩ := hu
  obtain ⟨n, hn⟩ : ∃ n, n = f.length := ⟨_, rfl⟩
  obtain ⟨nl, hnl⟩ : ∃ nl, nl = l.length := ⟨_, rfl⟩
  rw [← hn] at hc1 HV ⊢
  rw [← hnl] at hd1 HU ⊢
  have hcp := fun W (hW : MS W (.slice A n c) f) => copy_any (f.take (min (n : Int) 40).toNat) _ W (hW.cut (min (n : Int) 40).toNat (by omega) A (fun _ => rfl)) (by rw [List.length_take]; omega)
  rw [show (40 : Int) = ((40 : Nat) : Int) from rfl, take_min f n 40 hn] at hcp
  have hct := fun W (hW : TS W (.slice A2 nl d) l) => copy_tree (l.take (min (nl : Int) 7).toNat) _ W (hW.cut (min (nl : Int) 7).toNat (by omega) A2 (fun _ => rfl)) (by rw [List.length_take]; omega)
  rw [show (7 : Int) = ((7 : Nat) : Int) from rfl, take_min l nl 7 hnl] at hct
  obtain ⟨a, ha⟩ : ∃ a, a = f.take 40 := ⟨_, rfl⟩
  have hal : a.length ≤ 40 := by rw [ha, List.length_take]; omega
  obtain ⟨t, ht⟩ : ∃ t, t = l.take 7 := ⟨_, rfl⟩
  have htl : t.length ≤ 7 := by rw [ht, List.length_take]; omega
  rw [← ha] at hcp
  rw [← ht] at hct
  have HCP := Lib.hid hcp; have HCT := Lib.hid hct
  have HCP2 := Lib.hid (fun W v (hW : MS W v a) => copy_any a v W hW (by omega))
  have HMI := Lib.hid (fun W v (hW : TS W v t) => TMirror_any t v W hW)
  have j1 : (0 : Int) ≤ min (n : Int) 40 := by omega
  have j2 : min (n : Int) 40 ≤ (c : Int) := by omega
  have j3 : (0 : Int) ≤ min (nl : Int) 7 := by omega
  have j4 : min (nl : Int) 7 ≤ (d : Int) := by omega
  have HB : Hid (Below w.heap.size w w) := Below.refl _ _
  clear hcp hct ha hn hnl ht hdb
  go_enter Tryd.func12, Tryd.ntmps12
  go_upto_region 3 with (first
    | (go_at_call 13; go_must (refine (HCP.out _ HV.out).mono ?_; rintro e wa ⟨va, rfl, hb, ho⟩; have HA := Lib.hid ho.ms; clear ho; replace HB := Lib.hid (HB.out.trans (hb.mono HB.out.size)); clear hb))
    | (go_at_call 29; go_must (refine (HCT.out _ (HU.out.below HB.out (Nat.le_refl _))).mono ?_; rintro e wt ⟨vt, rfl, hb, ho⟩; have HT := Lib.hid ho.ts; clear ho; replace HA := Lib.hid (HA.out.below hb (Nat.le_refl _)); replace HB := Lib.hid (HB.out.trans (hb.mono HB.out.size)); clear hb)))
  by_cases hf : formedT t = true
  · have hmi : mirrorE t = (mirrorS t, 0) := by unfold mirrorE; rw [if_neg (by rw [hf]; simp)]
    have hlaw := mirror_law a t hf
    obtain ⟨R, hR⟩ : ∃ R, R = modelTreeS a 3 t := ⟨_, rfl⟩
    rw [← hR] at hlaw
    have HM1 := Lib.hid (fun v W z (h : MS W v a) (h2 : TS W z t) (h3 : DB W) => (show Calls Tryd.prog 30 #[v, .int .i64 3, z] W fun e w' => e = .returned (.tuple #[.bool R.1, .int .i64 R.2]) ∧ Below W.heap.size W w' from by have q := MTree_any a v z 3 t W h h2 h3; rw [← hR] at q; exact q))
    have HM2 := Lib.hid (fun v W z (h : MS W v (a.map swM)) (h2 : TS W z (mirrorS t)) (h3 : DB W) => (show Calls Tryd.prog 30 #[v, .int .i64 3, z] W fun e w' => e = .returned (.tuple #[.bool R.1, .int .i64 R.2]) ∧ Below W.heap.size W w' from by have q := MTree_any (a.map swM) v z 3 (mirrorS t) W h h2 h3; rw [hlaw] at q; exact q))
    have hm2 := HMI.out
    rw [hmi] at hm2
    replace HMI := Lib.hid hm2
    obtain ⟨r1, r2⟩ := R
    clear hm2 hmi hlaw hR hf
    go_upto_region 6 with (go_at_call 40; go_must (refine (HMI.out _ _ HT.out).mono ?_; rintro e wm ⟨vm, rfl, hb, ho⟩; have HM := Lib.hid ho.ts; clear ho; replace HA := Lib.hid (HA.out.below hb (Nat.le_refl _)); replace HT := Lib.hid (HT.out.below hb (Nat.le_refl _)); replace HB := Lib.hid (HB.out.trans (hb.mono HB.out.size)); clear hb))
    go_wp2_with (go_at_call 13; go_must (refine (HCP2.out _ _ HA.out).mono ?_; rintro e wb ⟨vb, rfl, hb, ho⟩; have HO := Lib.hid ho; have HBA := Lib.hid hb; clear ho hb))
    obtain ⟨na, hna⟩ : ∃ na, na = a.length := ⟨_, rfl⟩
    have hvb : ∃ Ab cb, vb = .slice Ab na cb ∧ (0 < na → ∃ g, Ab = some ⟨g, 0, none⟩ ∧ wm.heap.size ≤ g) := by
      rcases HO.out.2.2 with ⟨hv, h0⟩ | ⟨g, cap, cur, hv, hB, hg, hnc, hcm, hcs, ht⟩
      · exact ⟨none, 0, by rw [hv, hna, h0], fun h => by omega⟩
      · exact ⟨_, cap, by rw [hv, hna], fun _ => ⟨g, rfl, hB⟩⟩
    obtain ⟨Ab, cb, rfl, hgb⟩ := hvb
    rw [← hna] at hal
    have HNA := Lib.hid hna
    clear hna
    go_loopg [10] na (fun gk v wr => ∃ k : Nat, k ≤ na ∧ gk = na - k ∧ v = .int .i64 k ∧ Below wm.heap.size wm wr ∧ MO wr wm.heap.size (.slice Ab na cb) (sk a k))
    case atStart => exact ⟨0, Nat.zero_le _, rfl, rfl, HBA.out, by rw [sk_zero]; exact HO.out⟩
    case round =>
      obtain ⟨k, hk, rfl, rfl, hbe, hown⟩ := hrel
      have HBK := Lib.hid hbe; have HOK := Lib.hid hown
      clear hbe hown
      by_cases hlt : k < na
      · obtain ⟨m, hm⟩ : ∃ m, a[k]? = some m := ⟨a[k]'(by rw [← HNA.out]; exact hlt), List.getElem?_eq_getElem _⟩
        obtain ⟨g, rfl, hgg⟩ := hgb (by omega)
        obtain ⟨x0, x1, x2, x3, x4⟩ := HOK.out.ms.at5 (sk_at hm)
        simp only [Nat.zero_add] at x0
        have hzf : wr.frozen? ⟨g, k * 5, none⟩ = false := by
          obtain ⟨g', cap', cs, hv', _, hr', hsz, _⟩ := own_row HOK.out.2 (by rw [sk_len, ← HNA.out]; omega)
          rw [sk_len, ← HNA.out] at hv'
          cases hv'
          exact hr'.free _
        have hset := fun (o : Int) (h5 : swO m.op = o) (h6 : 0 ≤ o ∧ o ≤ 255) => set_mark (m' := swM m) HOK.out (by rw [sk_len]; exact HNA.out.symm) (sk_at hm) 0 (.int .u8 o) (by simp [swM, h5]; omega) (by simp [Mk.cells, swM, h5]) (by omega)
        rw [sk_step hm] at hset
        have hskip := fun h7 h8 => sk_skip hm h7 h8
        have HSET := Lib.hid hset; have HSK := Lib.hid hskip
        have hzs := HBK.out.size
        clear hset hskip hm x1 x2 x3 x4
        obtain ⟨op, mx, my, ma, mb⟩ := m
        simp only at x0 HSET HSK
        by_cases h7 : op = 7
        · have HS5 := Lib.hid (HSET.out 8 (by rw [h7]; rfl) (by omega))
          subst h7
          go_wp2
          go_roundg (na - (k + 1))
          case rel => exact ⟨k + 1, by omega, rfl, by go_num, HBK.out.setCell hgg _, HS5.out⟩
          case measure => omega
        by_cases h8 : op = 8
        · have HS5 := Lib.hid (HSET.out 7 (by rw [h8]; rfl) (by omega))
          subst h8
          go_wp2
          go_roundg (na - (k + 1))
          case rel => exact ⟨k + 1, by omega, rfl, by go_num, HBK.out.setCell hgg _, HS5.out⟩
          case measure => omega
        have q7 : (op == 7) = false := by simp [h7]
        have q8 : (op == 8) = false := by simp [h8]
        have HS5 := Lib.hid (HSK.out h7 h8)
        clear h7 h8
        go_wp2
        go_roundg (na - (k + 1))
        case rel => exact ⟨k + 1, by omega, rfl, by go_num, HBK.out, by rw [HS5.out]; exact HOK.out⟩
        case measure => omega
      · have hkn : k = na := by omega
        have hbm := HOK.out.ms
        rw [hkn, HNA.out, sk_all, ← HNA.out] at hbm
        have HBM := Lib.hid hbm
        clear hbm hkn
        have HAW := Lib.hid (HA.out.below HBK.out (Nat.le_refl _))
        have HTW := Lib.hid (HT.out.below HBK.out (Nat.le_refl _))
        have HMW := Lib.hid (HM.out.below HBK.out (Nat.le_refl _))
        have HBW := Lib.hid (HB.out.trans (HBK.out.mono HB.out.size))
        go_wp2_with (first
          | (go_at_call 30; (with_reducible refine (HM1.out _ _ _ HAW.out HTW.out (HDB.out.below HBW.out (Nat.le_refl _))).mono ?_); rintro e wl ⟨rfl, hb⟩; replace HBM := Lib.hid (HBM.out.below hb (Nat.le_refl _)); replace HMW := Lib.hid (HMW.out.below hb (Nat.le_refl _)); replace HBW := Lib.hid (HBW.out.trans (hb.mono HBW.out.size)); clear hb)
          | (go_at_call 30; (with_reducible refine (HM2.out _ _ _ HBM.out HMW.out (HDB.out.below HBW.out (Nat.le_refl _))).mono ?_); rintro e wl ⟨rfl, hb⟩; replace HBW := Lib.hid (HBW.out.trans (hb.mono HBW.out.size)); clear hb)
          | (go_at_call 28; go_must (refine (awake16 _ (HDB.out.below HBW.out (Nat.le_refl _))).mono ?_; rintro e wl ⟨rfl, hb⟩; replace HBW := Lib.hid (HBW.out.trans (hb.mono HBW.out.size)); clear hb)))
        go_returns
        exact ⟨rfl, HBW.out⟩
  · have hmi : mirrorE t = ([], 2) := by unfold mirrorE; rw [if_pos (by simpa using hf)]
    have hm2 := HMI.out
    rw [hmi] at hm2
    replace HMI := Lib.hid hm2
    clear hm2 hmi hf
    go_wp2_with (first
      | (go_at_call 40; go_must (refine (HMI.out _ _ HT.out).mono ?_; rintro e wm ⟨vm, rfl, hb, ho⟩; clear ho; replace HB := Lib.hid (HB.out.trans (hb.mono HB.out.size)); clear hb))
      | (go_at_call 28; go_must (refine (awake16 _ (HDB.out.below HB.out (Nat.le_refl _))).mono ?_; rintro e wl ⟨rfl, hb⟩; replace HB := Lib.hid (HB.out.trans (hb.mono HB.out.size)); clear hb)))
    go_returns
    exact ⟨rfl, HB.out⟩
end Go.Proofs.YtdlibehffgfhlaaDoor

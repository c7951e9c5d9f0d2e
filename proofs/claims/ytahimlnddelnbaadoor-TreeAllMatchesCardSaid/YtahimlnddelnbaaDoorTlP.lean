/- The statements about trees, plainly: no program in sight. -/
import Derived.Test.YtahimlnddelnbaaDoorTdA
import Derived.Test.YtahimlnddelnbaaDoorBtM
set_option linter.unusedSimpArgs false
set_option linter.unusedVariables false
namespace Go.Proofs.YtahimlnddelnbaaDoor

/-- What sound reckons. -/
def soundS (t : List Lf) : Bool := decide (checkT t 3 = 0) || (decide (checkT t 3 = 1) && decide (0 < t.length) && decide (sizeS t = t.length))
theorem check3 (t : List Lf) : checkT t 3 = if 31 < t.length then 4 else if t.any (badLabel 3) then 1 else if formedT t then 0 else 2 := by
  unfold checkT
  rw [if_neg (by omega)]
theorem sound_formed (t : List Lf) : soundS t = formedT t := by
  unfold soundS
  rw [check3]
  cases hf : formedT t with
  | true =>
    have h31 := (btOf_ok hf).1
    rw [if_neg (by omega)]
    have hs : sizeS t = t.length := by unfold sizeS; rw [if_neg (by rw [hf]; simp)]
    cases hb : t.any (badLabel 3) with
    | true =>
      have h0 : 0 < t.length := by
        cases t with
        | nil => simp at hb
        | cons a t => simp
      simp [hs, h0]
    | false => simp
  | false =>
    have hs : sizeS t = 0 := by unfold sizeS; rw [if_pos hf]
    by_cases h31 : 31 < t.length
    · rw [if_pos h31]; simp
    · rw [if_neg h31]
      cases hb : t.any (badLabel 3) with
      | true =>
        simp [hs]
        omega
      | false => simp
theorem bad3 (x : Lf) (h0 : 0 ≤ x.label) : badLabel 3 x = decide (7 < x.label) := by
  unfold badLabel
  have : (2 : Int) ^ Int.toNat 3 = 8 := rfl
  rw [this]
  by_cases h : 7 < x.label
  · simp only [h, decide_true, decide_eq_true_eq]; omega
  · simp only [h, decide_false, decide_eq_false_iff_not]; omega
theorem any_bad3 (t : List Lf) (h0 : ∀ m ∈ t, 0 ≤ m.label) : t.any (badLabel 3) = t.any (fun m => decide (7 < m.label)) := by
  rw [Bool.eq_iff_iff]
  simp only [List.any_eq_true]
  constructor
  · rintro ⟨m, hm, h⟩; exact ⟨m, hm, by rw [← bad3 m (h0 m hm)]; exact h⟩
  · rintro ⟨m, hm, h⟩; exact ⟨m, hm, by rw [bad3 m (h0 m hm)]; exact h⟩
/-- Format fails just where Check over three variables fails. -/
theorem format_check (t : List Lf) (h0 : ∀ m ∈ t, 0 ≤ m.label) : (formatT t).2 = 0 ↔ checkT t 3 = 0 := by
  rw [check3, any_bad3 t h0]
  unfold formatT
  cases hf : formedT t with
  | true =>
    have h31 := (btOf_ok hf).1
    rw [if_neg (by simp), if_neg (show ¬ 31 < t.length by omega)]
    cases t.any (fun m => decide (7 < m.label)) <;> simp
  | false =>
    rw [if_pos rfl]
    constructor
    · intro h; simp at h
    · intro h
      split at h
      · simp at h
      · split at h <;> simp at h
theorem format_bad {t : List Lf} (h : (formatT t).2 ≠ 0) : (formatT t).1 = [] := by
  unfold formatT at h ⊢
  split
  · rfl
  · split
    · rfl
    · rename_i h1 h2
      rw [if_neg h1, if_neg h2] at h
      exact absurd rfl h
theorem round_law {t : List Lf} (h0 : ∀ m ∈ t, 0 ≤ m.label) (h : (formatT t).2 = 0) : parseT (formatT t).1 = (t, 0, 0) := by
  obtain ⟨hf, _, hl, he⟩ := format_low h0 h
  obtain ⟨h31, hs, _, ht⟩ := btOf_ok hf
  rw [he, parse_text _ hl (by omega), ← ht]
theorem exact_law {s : List UInt8} (h : (parseT s).2.2 = 0) : formatT (parseT s).1 = (s, 0) ∧ checkT (parseT s).1 3 = 0 := by
  obtain ⟨b, hl, hs, he, hp⟩ := parse_ok h
  rw [hp]
  have hf := format_enc b hl hs
  refine ⟨by rw [hf, he], ?_⟩
  have h0 : ∀ m ∈ b.enc 0, 0 ≤ m.label := fun m hm => ((low_enc b 0).2 hl m hm).1
  exact (format_check _ h0).1 (by rw [hf])

theorem enc_head (lab : Int) (l r : Bt) : ((Bt.node lab l r).enc 0)[0]? = some ⟨lab, l.at 1, r.at (1 + l.size)⟩ := by simp [Bt.enc]
theorem bt_len {t : List Lf} (h : formedT t = true) : (btOf t).size = t.length := (btOf_ok h).2.1
/-- The tree of a label and two formed trees. -/
theorem join_bt {a b : List Lf} (lab : Int) (ha : formedT a = true) (hb : formedT b = true) : joinT lab a b = (Bt.node lab (btOf a) (btOf b)).enc 0 := by
  rw [← joinT_enc, ← (btOf_ok ha).2.2.2, ← (btOf_ok hb).2.2.2]
theorem join_ok {a b : List Lf} (lab : Int) (ha : formedT a = true) (hb : formedT b = true) (hl : a.length + b.length ≤ 30) :
    formedT (joinT lab a b) = true ∧ btOf (joinT lab a b) = Bt.node lab (btOf a) (btOf b) := by
  rw [join_bt lab ha hb]
  exact ⟨formed_bt _ (by simp only [Bt.size]; rw [bt_len ha, bt_len hb]; omega), btOf_enc _⟩
theorem joinE_ok {a b : List Lf} (lab : Int) (ha : formedT a = true) (hb : formedT b = true) (hl : a.length + b.length ≤ 30) : joinE lab a b = (joinT lab a b, 0) := by
  unfold joinE
  rw [if_neg (by simp [ha, hb]), if_neg (by omega)]
theorem joinE_bad {a b : List Lf} (lab : Int) (h : formedT a = false ∨ formedT b = false ∨ 30 < a.length + b.length) : (joinE lab a b).1 = [] ∧ (joinE lab a b).2 ≠ 0 := by
  unfold joinE
  by_cases h1 : formedT a = false ∨ formedT b = false
  · rw [if_pos h1]; exact ⟨rfl, by simp⟩
  · rw [if_neg h1]
    have : 31 ≤ a.length + b.length := by
      rcases h with h | h | h
      · exact absurd (.inl h) h1
      · exact absurd (.inr h) h1
      · omega
    rw [if_pos this]; exact ⟨rfl, by simp⟩
theorem joinE_zero {a b : List Lf} {lab : Int} (h : (joinE lab a b).2 = 0) : formedT a = true ∧ formedT b = true ∧ a.length + b.length ≤ 30 := by
  by_cases ha : formedT a = true
  · by_cases hb : formedT b = true
    · by_cases hl : a.length + b.length ≤ 30
      · exact ⟨ha, hb, hl⟩
      · exact absurd h (joinE_bad lab (.inr (.inr (by omega)))).2
    · exact absurd h (joinE_bad lab (.inr (.inl (by simpa using hb)))).2
  · exact absurd h (joinE_bad lab (.inl (by simpa using ha))).2
/-- The head of a joined tree. -/
theorem join_head {a b : List Lf} (lab : Int) (ha : formedT a = true) (hb : formedT b = true) :
    (joinT lab a b)[0]? = some ⟨lab, if a.length = 0 then -1 else 1, if b.length = 0 then -1 else 1 + (a.length : Int)⟩ := rfl
theorem join_depth {a b : List Lf} (lab : Int) (ha : formedT a = true) (hb : formedT b = true) (hl : a.length + b.length ≤ 30) :
    depthS (joinT lab a b) = 1 + max (depthS a) (depthS b) := by
  obtain ⟨h1, h2⟩ := join_ok lab ha hb hl
  unfold depthS
  rw [h1, ha, hb, h2]
  simp [Bt.depth]
theorem join_size {a b : List Lf} (lab : Int) (ha : formedT a = true) (hb : formedT b = true) (hl : a.length + b.length ≤ 30) :
    sizeS (joinT lab a b) = 1 + a.length + b.length ∧ (joinT lab a b).length = 1 + a.length + b.length := by
  obtain ⟨h1, _⟩ := join_ok lab ha hb hl
  unfold sizeS
  rw [h1, joinT_len]
  simp
  omega
theorem sub_ok {t : List Lf} {i : Nat} {l : List Lf} (hf : formedT t = true) (hi : i < t.length) (h : blockS t i = l) : subE t i = (l, 0) := by
  unfold subE
  rw [if_neg (by rw [hf]; simp), if_neg (by omega), h]
theorem join_left {a b : List Lf} (lab : Int) (ha : formedT a = true) (hb : formedT b = true) (hl : a.length + b.length ≤ 30) (h0 : 0 < a.length) : subE (joinT lab a b) 1 = (a, 0) := by
  obtain ⟨h1, h2⟩ := join_ok lab ha hb hl
  refine sub_ok (i := 1) h1 (by rw [joinT_len]; omega) ?_
  obtain ⟨_, hs, hseg, _⟩ := btOf_ok h1
  rw [h2] at hseg hs
  have := block_seg (t := joinT lab a b) (b := btOf a) (p := 1) (by rw [bt_len ha]; omega) (by rw [bt_len ha, joinT_len]; omega) (by have := hseg.left; simpa using this)
  rw [this, ← (btOf_ok ha).2.2.2]
theorem join_right {a b : List Lf} (lab : Int) (ha : formedT a = true) (hb : formedT b = true) (hl : a.length + b.length ≤ 30) (h0 : 0 < b.length) : subE (joinT lab a b) (1 + (a.length : Int)) = (b, 0) := by
  obtain ⟨h1, h2⟩ := join_ok lab ha hb hl
  rw [show (1 : Int) + (a.length : Int) = ((1 + a.length : Nat) : Int) by omega]
  refine sub_ok (i := 1 + a.length) h1 (by rw [joinT_len]; omega) ?_
  obtain ⟨_, hs, hseg, _⟩ := btOf_ok h1
  rw [h2] at hseg hs
  have := block_seg (t := joinT lab a b) (b := btOf b) (p := 1 + a.length) (by rw [bt_len hb]; omega) (by rw [bt_len hb, joinT_len]; omega) (by have := hseg.right; rw [bt_len ha] at this; simpa using this)
  rw [this, ← (btOf_ok hb).2.2.2]
/-- TreeParts, plainly. -/
theorem parts_law {t : List Lf} {i : Nat} {x : Lf} (hf : formedT t = true) (hx : t[i]? = some x) :
    ∃ l r : List Lf, (if x.left = -1 then ([], 0) else subE t x.left) = (l, 0) ∧ (if x.right = -1 then ([], 0) else subE t x.right) = (r, 0) ∧ subE t i = (joinT x.label l r, 0) ∧ joinE x.label l r = (joinT x.label l r, 0) := by
  obtain ⟨l, r, e1, e2, e3, e4, e5, e6, e7⟩ := node_at hf hx
  have hi := (List.getElem?_eq_some_iff.1 hx).1
  have h31 := (btOf_ok hf).1
  refine ⟨l.enc 0, r.enc 0, ?_, ?_, ?_, ?_⟩
  · by_cases h : x.left = -1
    · rw [if_pos h]
      rw [e6] at h
      unfold Bt.at at h
      split at h
      · rename_i h0; rw [Bt.nil_of_size h0]; rfl
      · omega
    · rw [if_neg h]
      have hl : l.size ≠ 0 := fun h0 => h (by rw [e6]; unfold Bt.at; rw [if_pos h0])
      have hle : x.left = ((i + 1 : Nat) : Int) := by rw [e6]; unfold Bt.at; rw [if_neg hl]
      rw [hle] at e2 ⊢
      exact sub_ok hf (by omega) e2
  · by_cases h : x.right = -1
    · rw [if_pos h]
      rw [e7] at h
      unfold Bt.at at h
      split at h
      · rename_i h0; rw [Bt.nil_of_size h0]; rfl
      · omega
    · rw [if_neg h]
      have hl : r.size ≠ 0 := fun h0 => h (by rw [e7]; unfold Bt.at; rw [if_pos h0])
      have hle : x.right = ((i + 1 + l.size : Nat) : Int) := by rw [e7]; unfold Bt.at; rw [if_neg hl]
      rw [hle] at e3 ⊢
      exact sub_ok hf (by omega) e3
  · rw [joinT_enc]
    exact sub_ok hf hi e1
  · exact joinE_ok _ (formed_bt _ (by omega)) (formed_bt _ (by omega)) (by rw [Bt.enc_len, Bt.enc_len]; omega)
/-- TreeMirrors, plainly. -/
theorem mirrorE_ok {t : List Lf} (h : formedT t = true) : mirrorE t = (mirrorS t, 0) := by
  unfold mirrorE; rw [if_neg (by rw [h]; simp)]
theorem mirror_back {t : List Lf} (h : formedT t = true) : mirrorS (mirrorS t) = t := by
  conv => rhs; rw [(btOf_ok h).2.2.2]
  unfold mirrorS
  rw [btOf_enc, Bt.mir_mir]
theorem mirror_depth {t : List Lf} (h : formedT t = true) : depthS (mirrorS t) = depthS t := by
  have hm := mirror_formed h
  unfold depthS
  rw [hm, h]
  unfold mirrorS
  rw [btOf_enc, mir_depth]
theorem mirror_size {t : List Lf} (h : formedT t = true) : sizeS (mirrorS t) = sizeS t := by
  unfold sizeS
  rw [mirror_formed h, h, mirrorS_len h]
theorem mirror_join {a b : List Lf} (lab : Int) (ha : formedT a = true) (hb : formedT b = true) (hl : a.length + b.length ≤ 30) : mirrorS (joinT lab a b) = joinT lab (mirrorS b) (mirrorS a) := by
  obtain ⟨h1, h2⟩ := join_ok lab ha hb hl
  have e : ∀ c : List Lf, mirrorS c = (btOf c).mir.enc 0 := fun _ => rfl
  rw [e, h2, e a, e b, joinT_enc]
  rfl
/-- TreeOrder, plainly. -/
theorem order_law {x y z : List Lf} (hx : formedT x = true) (hy : formedT y = true) (px : ∀ m ∈ x, 0 ≤ m.label) (py : ∀ m ∈ y, 0 ≤ m.label) :
    compareS x y = -compareS y x ∧ (compareS x y = 0 ↔ x = y) ∧ (x.length < y.length → compareS x y = -1) ∧ compareS x x = 0 ∧
      (0 < compareS x y ∨ 0 < compareS y z ∨ compareS x z ≤ 0) ∧ (0 ≤ compareS x y ∨ 0 ≤ compareS y z ∨ compareS x z < 0) := by
  refine ⟨compare_swap x y, compare_zero hx hy px py, compare_less hx hy, (compare_zero hx hx px px).2 rfl, ?_, ?_⟩
  · by_cases h1 : 0 < compareS x y
    · exact .inl h1
    · by_cases h2 : 0 < compareS y z
      · exact .inr (.inl h2)
      · exact .inr (.inr (compare_trans x y z (by omega) (by omega)).1)
  · by_cases h1 : 0 ≤ compareS x y
    · exact .inl h1
    · by_cases h2 : 0 ≤ compareS y z
      · exact .inr (.inl h2)
      · exact .inr (.inr ((compare_trans x y z (by omega) (by omega)).2.1 (by omega)))
/-- TreeLists, plainly. -/
theorem lt_pow {b : Bt} {V : Nat} (hs : b.size ≤ 31) : b.lt (2 ^ V) ↔ (∀ m ∈ b.enc 0, 0 ≤ m.label) ∧ (b.enc 0).any (badLabel (V : Int)) = false := by
  have e : ∀ x : Lf, 0 ≤ x.label → (badLabel (V : Int) x = false ↔ x.label < ((2 ^ V : Nat) : Int)) := fun x h0 => by
    unfold badLabel
    rw [Int.toNat_natCast]
    simp only [decide_eq_false_iff_not, Decidable.not_not]
    have hp : (0 : Int) < ((2 ^ V : Nat) : Int) := by
      have : 0 < 2 ^ V := Nat.pow_pos (by omega)
      omega
    rw [show (2 : Int) ^ V = ((2 ^ V : Nat) : Int) by simp]
    constructor
    · intro h
      by_cases hc : x.label < ((2 ^ V : Nat) : Int)
      · exact hc
      · have := Int.le_ediv_of_mul_le (a := 1) hp (by omega : 1 * ((2 ^ V : Nat) : Int) ≤ x.label)
        omega
    · intro h
      exact Int.ediv_eq_zero_of_lt h0 h
  rw [← lt_enc b 0]
  constructor
  · intro h
    refine ⟨fun m hm => (h m hm).1, ?_⟩
    rw [List.any_eq_false]
    intro m hm
    rw [Bool.not_eq_true]
    exact (e m (h m hm).1).2 (h m hm).2
  · rintro ⟨h0, h1⟩ m hm
    rw [List.any_eq_false] at h1
    have := h1 m hm
    rw [Bool.not_eq_true] at this
    exact ⟨h0 m hm, (e m (h0 m hm)).1 this⟩
end Go.Proofs.YtahimlnddelnbaaDoor

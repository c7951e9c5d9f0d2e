/- Plain functions and lemmas on binary trees as lists of leaves; no program in sight. -/
import Derived.Test.YtdlibehffgfhlaaDoorModS
set_option linter.unusedSimpArgs false
set_option linter.unusedVariables false
namespace Go.Proofs.YtdlibehffgfhlaaDoor

structure Lf where
  label : Int
  left : Int
  right : Int
deriving DecidableEq

def kid (len : Nat) (e : Nat → Option Nat) (c : Int) (next : Nat) : Option Nat :=
  if c = -1 then some next else if c ≠ next ∨ len ≤ next then none else e next
def endF (t : List Lf) : Nat → Nat → Option Nat
  | 0, _ => none
  | k + 1, i => match t[i]? with
    | none => none
    | some x => (kid t.length (endF t k) x.left (i + 1)).bind fun n => kid t.length (endF t k) x.right n
def endS (t : List Lf) (i : Nat) : Option Nat := endF t (t.length - i) i

theorem kid_gt {len : Nat} {e : Nat → Option Nat} {c : Int} {next n : Nat} (h : kid len e c next = some n) (he : ∀ m, e next = some m → next < m ∧ m ≤ len) (hn : next ≤ len) : next ≤ n ∧ n ≤ len := by
  unfold kid at h
  by_cases h1 : c = -1
  · rw [if_pos h1] at h; cases h; omega
  · rw [if_neg h1] at h
    split at h
    · cases h
    · have := he n h; omega
theorem endF_gt (t : List Lf) : ∀ k i n, endF t k i = some n → i < n ∧ n ≤ t.length := by
  intro k
  induction k with
  | zero => intro i n h; simp [endF] at h
  | succ k ih =>
    intro i n h
    rw [endF] at h
    cases hx : t[i]? with
    | none => simp only [hx] at h; cases h
    | some x =>
      have hi : i < t.length := (List.getElem?_eq_some_iff.1 hx).1
      simp only [hx] at h
      cases h1 : kid t.length (endF t k) x.left (i + 1) with
      | none => rw [h1] at h; cases h
      | some m =>
        rw [h1] at h
        have k1 := kid_gt h1 (fun q hq => ih _ _ hq) hi
        have k2 := kid_gt (show kid t.length (endF t k) x.right m = some n from h) (fun q hq => ih _ _ hq) k1.2
        omega
theorem endF_more (t : List Lf) : ∀ k i, t.length - i ≤ k → endF t k i = endF t (t.length - i) i := by
  have main : ∀ k i j, t.length - i ≤ k → t.length - i ≤ j → endF t k i = endF t j i := by
    intro k
    induction k with
    | zero =>
      intro i j h _
      cases j with
      | zero => rfl
      | succ j =>
        have : t[i]? = none := List.getElem?_eq_none (by omega)
        simp [endF, this]
    | succ k ih =>
      intro i j h hj
      cases j with
      | zero =>
        have : t[i]? = none := List.getElem?_eq_none (by omega)
        simp [endF, this]
      | succ j =>
        rw [endF, endF]
        cases hx : t[i]? with
        | none => rfl
        | some x =>
          have hi : i < t.length := (List.getElem?_eq_some_iff.1 hx).1
          simp only
          have kk : ∀ c next, i < next → kid t.length (endF t k) c next = kid t.length (endF t j) c next := fun c next hn => by
            unfold kid
            rw [ih next j (by omega) (by omega)]
          rw [kk _ _ (by omega)]
          cases h1 : kid t.length (endF t j) x.left (i + 1) with
          | none => rfl
          | some m =>
            have := kid_gt h1 (fun q hq => endF_gt t _ _ _ hq) hi
            exact kk _ _ (by omega)
  intro k i h
  exact main k i _ h (Nat.le_refl _)
theorem endS_eq (t : List Lf) (i : Nat) (x : Lf) (hx : t[i]? = some x) : endS t i = (kid t.length (endS t) x.left (i + 1)).bind fun n => kid t.length (endS t) x.right n := by
  have hi : i < t.length := (List.getElem?_eq_some_iff.1 hx).1
  have e : t.length - i = (t.length - i - 1) + 1 := by omega
  have kk : ∀ c next, i < next → kid t.length (endF t (t.length - i - 1)) c next = kid t.length (endS t) c next := fun c next hn => by
    unfold kid endS
    rw [endF_more t _ next (by omega)]
  rw [endS, e, endF]
  simp only [hx]
  rw [kk _ _ (by omega)]
  cases h1 : kid t.length (endS t) x.left (i + 1) with
  | none => rfl
  | some m =>
    have := kid_gt h1 (fun q hq => endF_gt t _ _ _ hq) hi
    exact kk _ _ (by omega)
theorem endS_gt {t : List Lf} {i n : Nat} (h : endS t i = some n) : i < n ∧ n ≤ t.length := endF_gt t _ _ _ h

def formedT (t : List Lf) : Bool := decide (t.length = 0) || (decide (t.length ≤ 31) && decide (endS t 0 = some t.length))
def badLabel (vars : Int) (x : Lf) : Bool := decide (x.label / 2 ^ vars.toNat ≠ 0)
def checkT (t : List Lf) (vars : Int) : Int :=
  if vars < 0 ∨ 3 < vars then 7 else if 31 < t.length then 4 else if t.any (badLabel vars) then 1 else if formedT t then 0 else 2

/-- Trees, and their nodes in preorder. -/
inductive Bt where
  | nil
  | node (label : Int) (l r : Bt)
def Bt.size : Bt → Nat
  | .nil => 0
  | .node _ l r => l.size + r.size + 1
def Bt.at (p : Nat) (b : Bt) : Int := if b.size = 0 then -1 else p
def Bt.enc : Nat → Bt → List Lf
  | _, .nil => []
  | p, .node lab l r => ⟨lab, l.at (p + 1), r.at (p + 1 + l.size)⟩ :: (l.enc (p + 1) ++ r.enc (p + 1 + l.size))
theorem Bt.enc_len (b : Bt) : ∀ p, (b.enc p).length = b.size := by
  induction b with
  | nil => intro p; rfl
  | node lab l r ihl ihr => intro p; simp [Bt.enc, Bt.size, ihl, ihr]
theorem Bt.nil_of_size {b : Bt} (h : b.size = 0) : b = .nil := by
  cases b with
  | nil => rfl
  | node => simp [Bt.size] at h

/-- The segment of t from p on is the tree b. -/
def Seg (t : List Lf) (p : Nat) (b : Bt) : Prop := ∀ j, j < b.size → t[p + j]? = (b.enc p)[j]?
theorem Seg.root {t : List Lf} {p : Nat} {lab : Int} {l r : Bt} (h : Seg t p (.node lab l r)) : t[p]? = some ⟨lab, l.at (p + 1), r.at (p + 1 + l.size)⟩ := by
  have := h 0 (by simp [Bt.size])
  simpa [Bt.enc] using this
theorem Seg.left {t : List Lf} {p : Nat} {lab : Int} {l r : Bt} (h : Seg t p (.node lab l r)) : Seg t (p + 1) l := fun j hj => by
  have := h (j + 1) (by simp [Bt.size]; omega)
  rw [Bt.enc, List.getElem?_cons_succ, List.getElem?_append_left (by rw [Bt.enc_len]; exact hj)] at this
  rw [← this]; congr 1; omega
theorem Seg.right {t : List Lf} {p : Nat} {lab : Int} {l r : Bt} (h : Seg t p (.node lab l r)) : Seg t (p + 1 + l.size) r := fun j hj => by
  have := h (l.size + j + 1) (by simp [Bt.size]; omega)
  rw [Bt.enc, List.getElem?_cons_succ, List.getElem?_append_right (by rw [Bt.enc_len]; omega), Bt.enc_len] at this
  rw [show l.size + j - l.size = j by omega] at this
  rw [← this]; congr 1; omega
theorem Seg.node {t : List Lf} {p : Nat} {lab : Int} {l r : Bt} (h0 : t[p]? = some ⟨lab, l.at (p + 1), r.at (p + 1 + l.size)⟩) (hl : Seg t (p + 1) l) (hr : Seg t (p + 1 + l.size) r) : Seg t p (.node lab l r) := fun j hj => by
  cases j with
  | zero => rw [Nat.add_zero, h0]; simp [Bt.enc]
  | succ j =>
    rw [Bt.enc, List.getElem?_cons_succ]
    simp only [Bt.size] at hj
    by_cases hjl : j < l.size
    · rw [List.getElem?_append_left (by rw [Bt.enc_len]; exact hjl), ← hl j hjl]; congr 1; omega
    · rw [List.getElem?_append_right (by rw [Bt.enc_len]; omega), Bt.enc_len, ← hr (j - l.size) (by omega)]; congr 1; omega

/-- The end of a block finds its tree, and the tree its end. -/
theorem bt_at (t : List Lf) : ∀ d i n, n - i ≤ d → endS t i = some n → ∃ b : Bt, 0 < b.size ∧ i + b.size = n ∧ Seg t i b := by
  intro d
  induction d with
  | zero => intro i n h he; have := endS_gt he; omega
  | succ d ih =>
    intro i n h he
    have hin := endS_gt he
    obtain ⟨x, hx⟩ : ∃ x, t[i]? = some x := ⟨t[i]'(by omega), List.getElem?_eq_getElem _⟩
    rw [endS_eq t i x hx] at he
    have kk : ∀ c next m, i < next → next ≤ t.length → m ≤ n → kid t.length (endS t) c next = some m → ∃ b : Bt, next + b.size = m ∧ Seg t next b ∧ c = b.at next := by
      intro c next m hn hl hm hk
      unfold kid at hk
      by_cases h1 : c = -1
      · rw [if_pos h1] at hk; cases hk
        exact ⟨.nil, rfl, fun j hj => by simp [Bt.size] at hj, by simp [Bt.at, Bt.size, h1]⟩
      · rw [if_neg h1] at hk
        by_cases h2 : c ≠ next ∨ t.length ≤ next
        · rw [if_pos h2] at hk; cases hk
        · rw [if_neg h2] at hk
          obtain ⟨b, b1, b2, b3⟩ := ih next m (by omega) hk
          exact ⟨b, b2, b3, by unfold Bt.at; rw [if_neg (by omega)]; omega⟩
    cases h1 : kid t.length (endS t) x.left (i + 1) with
    | none => rw [h1] at he; cases he
    | some m =>
      rw [h1] at he
      have he : kid t.length (endS t) x.right m = some n := he
      have g1 := kid_gt h1 (fun q hq => endS_gt hq) (by omega)
      have g2 := kid_gt he (fun q hq => endS_gt hq) g1.2
      obtain ⟨l, l1, l2, l3⟩ := kk _ _ _ (by omega) (by omega) g2.1 h1
      obtain ⟨r, r1, r2, r3⟩ := kk _ _ _ (by omega) g1.2 (Nat.le_refl _) he
      refine ⟨.node x.label l r, by simp [Bt.size], by simp only [Bt.size]; omega, Seg.node ?_ l2 (by rw [l1]; exact r2)⟩
      rw [hx, ← l3, l1, ← r3]
theorem end_at (t : List Lf) : ∀ (b : Bt) (p : Nat), 0 < b.size → p + b.size ≤ t.length → Seg t p b → endS t p = some (p + b.size) := by
  intro b
  induction b with
  | nil => intro p h; simp [Bt.size] at h
  | node lab l r ihl ihr =>
    intro p _ hlen hs
    simp only [Bt.size] at hlen ⊢
    rw [endS_eq t p _ hs.root]
    have kk : ∀ (c : Bt) next, (0 < c.size → endS t next = some (next + c.size)) → next + c.size ≤ t.length → kid t.length (endS t) (c.at next) next = some (next + c.size) := by
      intro c next h1 h2
      unfold kid Bt.at
      by_cases h0 : c.size = 0
      · simp [h0]
      · rw [if_neg h0, if_neg (by omega), if_neg (by omega), h1 (by omega)]
    simp only
    rw [kk l (p + 1) (fun h => ihl (p + 1) h (by omega) hs.left) (by omega)]
    simp only [Option.bind_some]
    rw [kk r (p + 1 + l.size) (fun h => ihr _ h (by omega) hs.right) (by omega)]
    congr 1; omega
theorem formedT_bt {t : List Lf} (h : formedT t = true) : t.length ≤ 31 ∧ ∃ b : Bt, b.size = t.length ∧ Seg t 0 b := by
  unfold formedT at h
  simp only [Bool.or_eq_true, Bool.and_eq_true, decide_eq_true_eq] at h
  rcases h with h | ⟨h1, h2⟩
  · exact ⟨by omega, .nil, by simp [Bt.size, h], fun j hj => by simp [Bt.size] at hj⟩
  · obtain ⟨b, _, b2, b3⟩ := bt_at t _ 0 _ (Nat.le_refl _) h2
    exact ⟨h1, b, by omega, b3⟩
theorem formedT_of {t : List Lf} {b : Bt} (h31 : t.length ≤ 31) (hb : b.size = t.length) (hs : Seg t 0 b) : formedT t = true := by
  unfold formedT
  by_cases h0 : t.length = 0
  · simp [h0]
  · have := end_at t b 0 (by omega) (by omega) hs
    rw [Nat.zero_add, hb] at this
    simp [this, h31]
theorem Seg.eq {t : List Lf} {b : Bt} (hb : b.size = t.length) (hs : Seg t 0 b) : t = b.enc 0 := by
  apply List.ext_getElem?
  intro j
  by_cases hj : j < b.size
  · rw [← hs j hj, Nat.zero_add]
  · rw [List.getElem?_eq_none (by omega), List.getElem?_eq_none (by rw [Bt.enc_len]; omega)]
theorem Seg.self (b : Bt) : Seg (b.enc 0) 0 b := fun j hj => by rw [Nat.zero_add]
/-- Children of a formed tree's node. -/
theorem seg_kids (t : List Lf) : ∀ (b : Bt) (p : Nat), Seg t p b → ∀ i, i < b.size → ∃ x, t[p + i]? = some x ∧ (x.left = -1 ∨ (((p + i : Nat) : Int) < x.left ∧ x.left < ((p + b.size : Nat) : Int))) ∧ (x.right = -1 ∨ (((p + i : Nat) : Int) < x.right ∧ x.right < ((p + b.size : Nat) : Int))) := by
  intro b
  induction b with
  | nil => intro p _ i hi; simp [Bt.size] at hi
  | node lab l r ihl ihr =>
    intro p hs i hi
    simp only [Bt.size] at hi ⊢
    by_cases h0 : i = 0
    · subst h0
      refine ⟨_, hs.root, ?_, ?_⟩
      · simp only [Bt.at]; split <;> omega
      · simp only [Bt.at]; split <;> omega
    · by_cases hl : i - 1 < l.size
      · obtain ⟨x, h1, h2, h3⟩ := ihl (p + 1) hs.left (i - 1) hl
        refine ⟨x, ?_, ?_, ?_⟩
        · rw [← h1]; congr 1; omega
        · omega
        · omega
      · obtain ⟨x, h1, h2, h3⟩ := ihr (p + 1 + l.size) hs.right (i - 1 - l.size) (by omega)
        refine ⟨x, ?_, ?_, ?_⟩
        · rw [← h1]; congr 1; omega
        · omega
        · omega
/-- Each child is -1 or a later node. -/
def KidsOk (t : List Lf) : Prop := ∀ (i : Nat) (x : Lf), t[i]? = some x → (x.left = -1 ∨ ((i : Int) < x.left ∧ x.left < (t.length : Int))) ∧ (x.right = -1 ∨ ((i : Int) < x.right ∧ x.right < (t.length : Int)))
theorem kids_ok {t : List Lf} (h : formedT t = true) : KidsOk t := by
  obtain ⟨_, b, hb, hs⟩ := formedT_bt h
  intro i x hx
  have hi : i < t.length := (List.getElem?_eq_some_iff.1 hx).1
  obtain ⟨y, h1, h2, h3⟩ := seg_kids t b 0 hs i (by omega)
  rw [Nat.zero_add, hx] at h1
  cases h1
  omega

/-- The proper ancestors. -/
def ancF (t : List Lf) : Nat → Nat → Nat → Bool
  | 0, _, _ => false
  | k + 1, p, q => if q ≤ p then false else match t[p]? with
    | none => false
    | some x => (decide (x.left = q) || (decide (0 < x.left) && ancF t k x.left.toNat q)) || (decide (x.right = q) || (decide (0 < x.right) && ancF t k x.right.toNat q))
def ancS (t : List Lf) (p q : Nat) : Bool := ancF t (t.length - p) p q
theorem ancF_more {t : List Lf} (hk : KidsOk t) : ∀ k p q, t.length - p ≤ k → ancF t k p q = ancF t (t.length - p) p q := by
  have main : ∀ k p q j, t.length - p ≤ k → t.length - p ≤ j → ancF t k p q = ancF t j p q := by
    intro k
    induction k with
    | zero =>
      intro p q j h _
      cases j with
      | zero => rfl
      | succ j =>
        have : t[p]? = none := List.getElem?_eq_none (by omega)
        simp [ancF, this]
    | succ k ih =>
      intro p q j h hj
      cases j with
      | zero =>
        have : t[p]? = none := List.getElem?_eq_none (by omega)
        simp [ancF, this]
      | succ j =>
        rw [ancF, ancF]
        by_cases hq : q ≤ p
        · rw [if_pos hq, if_pos hq]
        · rw [if_neg hq, if_neg hq]
          cases hx : t[p]? with
          | none => rfl
          | some x =>
            have hi : p < t.length := (List.getElem?_eq_some_iff.1 hx).1
            have hkk := hk p x hx
            simp only
            have e : ∀ c : Int, (c = -1 ∨ ((p : Int) < c ∧ c < (t.length : Int))) → (decide (0 < c) && ancF t k c.toNat q) = (decide (0 < c) && ancF t j c.toNat q) := fun c hc => by
              by_cases h0 : 0 < c
              · rw [ih c.toNat q j (by omega) (by omega)]
              · simp [h0]
            rw [e _ hkk.1, e _ hkk.2]
  intro k p q h
  exact main k p q _ h (Nat.le_refl _)
theorem ancS_eq {t : List Lf} (hk : KidsOk t) (p q : Nat) (x : Lf) (hx : t[p]? = some x) :
    ancS t p q = if q ≤ p then false else (decide (x.left = q) || (decide (0 < x.left) && ancS t x.left.toNat q)) || (decide (x.right = q) || (decide (0 < x.right) && ancS t x.right.toNat q)) := by
  have hi : p < t.length := (List.getElem?_eq_some_iff.1 hx).1
  have hkk := hk p x hx
  have e : t.length - p = (t.length - p - 1) + 1 := by omega
  rw [ancS, e, ancF]
  by_cases hq : q ≤ p
  · rw [if_pos hq, if_pos hq]
  · rw [if_neg hq, if_neg hq, hx]
    simp only
    have e : ∀ c : Int, (c = -1 ∨ ((p : Int) < c ∧ c < (t.length : Int))) → (decide (0 < c) && ancF t (t.length - p - 1) c.toNat q) = (decide (0 < c) && ancS t c.toNat q) := fun c hc => by
      by_cases h0 : 0 < c
      · rw [ancF_more hk _ c.toNat q (by omega)]; rfl
      · simp [h0]
    rw [e _ hkk.1, e _ hkk.2]
def leftS (t : List Lf) (p : Nat) : Int := match t[p]? with
  | some x => x.left
  | none => -1
def rightS (t : List Lf) (p : Nat) : Int := match t[p]? with
  | some x => x.right
  | none => -1
def relTree (t : List Lf) (op : Int) (p q : Nat) : Bool := if op = 7 then decide (leftS t p = q) else if op = 8 then decide (rightS t p = q) else ancS t p q
def stcTree (t : List Lf) : Stc := ⟨t.length, relTree t⟩
def labelsS (t : List Lf) : List Nat := t.map fun x => x.label.toNat
end Go.Proofs.YtdlibehffgfhlaaDoor

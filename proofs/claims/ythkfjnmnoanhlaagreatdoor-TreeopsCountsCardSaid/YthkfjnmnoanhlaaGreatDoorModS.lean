/- Plain functions: costs and truth of formulas on words and trees; no program in sight. -/
/- Plain functions and lemmas on binary trees as lists of leaves; no program in sight. -/
/- Plain arithmetic: the parallel count of one bits; it is 1 exactly at the powers of two. No program in sight. -/
/- Plain functions: Word, Tree and Cost as functions of their arguments; only free variables matter. No program in sight. -/
import Derived.Test.YthkfjnmnoanhlaaGreatDoorTree
set_option linter.unusedSimpArgs false
set_option linter.unusedVariables false
namespace Go.Proofs.YthkfjnmnoanhlaaGreatDoor

/-- The cost of a node on n elements, when the blocks before it have the costs acc. -/
def cstRaw (n : Nat) (op : Int) (a b : Nat) : Nat :=
  if op = 9 then 1 + a else if op = 10 ∨ op = 11 then 1 + a + b else if op = 12 ∨ op = 13 then 1 + 2 ^ n * a else if op = 14 ∨ op = 15 then 1 + n * a else 1
def cstNode (n : Nat) (acc : List Nat) (m : Mk) : Nat := min (cstRaw n m.op (acc.getD m.a.toNat 0) (acc.getD m.b.toNat 0)) 1073741824
def csts (n : Nat) (f : List Mk) : List Nat := f.foldl (fun acc m => acc ++ [cstNode n acc m]) []
def costS (n : Nat) (f : List Mk) : Nat := (csts n f).getD (f.length - 1) 0
def costT (n : Nat) : Tr → Nat
  | .leaf _ _ _ => 1
  | .un op _ a => min (cstRaw n op (costT n a) 0) 1073741824
  | .bin op a b => min (cstRaw n op (costT n a) (costT n b)) 1073741824

theorem csts_len (n : Nat) (f : List Mk) : (csts n f).length = f.length := by
  have h : ∀ (f : List Mk) (acc : List Nat), (f.foldl (fun acc m => acc ++ [cstNode n acc m]) acc).length = acc.length + f.length := by
    intro f
    induction f with
    | nil => intro acc; simp
    | cons m f ih => intro acc; simp only [List.foldl_cons, ih, List.length_append, List.length_cons, List.length_nil]; omega
  simpa [csts] using h f []
theorem csts_take (n : Nat) (f : List Mk) (k : Nat) (m : Mk) (h : f[k]? = some m) : csts n (f.take (k + 1)) = csts n (f.take k) ++ [cstNode n (csts n (f.take k)) m] := by
  have hk : k < f.length := (List.getElem?_eq_some_iff.1 h).1
  have hm : f[k] = m := (List.getElem?_eq_some_iff.1 h).2
  rw [List.take_succ_eq_append_getElem hk, hm]
  simp [csts]
theorem csts_prefix (n : Nat) (g : List Mk) : ∀ acc : List Nat, (g.foldl (fun acc m => acc ++ [cstNode n acc m]) acc).take acc.length = acc := by
  induction g with
  | nil => intro acc; simp
  | cons m g ih =>
    intro acc
    have h := ih (acc ++ [cstNode n acc m])
    simp only [List.foldl_cons]
    have h2 := congrArg (List.take acc.length) h
    rw [List.take_take] at h2
    simpa [Nat.min_eq_left] using h2
theorem csts_take_eq (n : Nat) (f : List Mk) (k : Nat) (hk : k ≤ f.length) : csts n (f.take k) = (csts n f).take k := by
  have h := csts_prefix n (f.drop k) (csts n (f.take k))
  have e : (f.drop k).foldl (fun acc m => acc ++ [cstNode n acc m]) (csts n (f.take k)) = csts n f := by
    unfold csts
    rw [← List.foldl_append, List.take_append_drop]
  rw [e, csts_len, List.length_take, Nat.min_eq_left hk] at h
  exact h.symm
theorem csts_get (n : Nat) (f : List Mk) (i : Nat) (m : Mk) (h : f[i]? = some m) : (csts n f).getD i 0 = cstNode n ((csts n f).take i) m := by
  have hi : i < f.length := (List.getElem?_eq_some_iff.1 h).1
  have e := csts_take n f i m h
  rw [csts_take_eq n f (i + 1) hi, csts_take_eq n f i (by omega)] at e
  have h2 := congrArg (fun l : List Nat => l[i]?) e
  have hl : ((csts n f).take i).length = i := by rw [List.length_take, csts_len]; omega
  simp only [List.getElem?_take] at h2
  rw [if_pos (by omega), List.getElem?_append_right (by omega), hl] at h2
  simp at h2
  rw [List.getD_eq_getElem?_getD, h2]; rfl
theorem cstRaw_pos (n : Nat) (op : Int) (a b : Nat) : 1 ≤ cstRaw n op a b := by
  unfold cstRaw
  repeat' split
  all_goals omega
theorem cstNode_pos (n : Nat) (acc : List Nat) (m : Mk) : 1 ≤ cstNode n acc m := by
  have := cstRaw_pos n m.op (acc.getD m.a.toNat 0) (acc.getD m.b.toNat 0)
  unfold cstNode; omega
theorem cstNode_le (n : Nat) (acc : List Nat) (m : Mk) : cstNode n acc m ≤ 1073741824 := by unfold cstNode; omega
theorem csts_bd (n : Nat) (f : List Mk) (j : Nat) (hj : j < f.length) : 1 ≤ (csts n f).getD j 0 ∧ (csts n f).getD j 0 ≤ 1073741824 := by
  rw [csts_get n f j f[j] (List.getElem?_eq_getElem hj)]
  exact ⟨cstNode_pos _ _ _, cstNode_le _ _ _⟩
theorem costT_bd (n : Nat) (t : Tr) : 1 ≤ costT n t ∧ costT n t ≤ 1073741824 := by
  cases t with
  | leaf => simp [costT]
  | un op x a => have := cstRaw_pos n op (costT n a) 0; simp only [costT]; omega
  | bin op a b => have := cstRaw_pos n op (costT n a) (costT n b); simp only [costT]; omega

/-- The costs of a formula's blocks are those of its trees. -/
theorem csts_tree (n : Nat) (f : List Mk) : ∀ (t : Tr) (p : Nat), t.ok → (∀ j, j < t.size → f[p + j]? = (t.enc p)[j]?) → (csts n f).getD (p + t.size - 1) 0 = costT n t := by
  intro t
  induction t with
  | leaf op x y =>
    intro p hok hs
    have hm : f[p]? = some ⟨op, x, y, 0, 0⟩ := by have := hs 0 (by simp [Tr.size]); simpa [Tr.enc] using this
    simp only [Tr.size, Nat.add_sub_cancel]
    rw [csts_get n f p _ hm]
    have h9 : nc op = 0 := hok.2.1
    have h0 : op ≠ 9 ∧ ¬ (op = 10 ∨ op = 11) ∧ ¬ (op = 12 ∨ op = 13) ∧ ¬ (op = 14 ∨ op = 15) := by
      unfold nc at h9
      by_cases c1 : op = 10 ∨ op = 11
      · rw [if_pos c1] at h9; omega
      · by_cases c2 : op = 9 ∨ (12 ≤ op ∧ op ≤ 15)
        · rw [if_neg c1, if_pos c2] at h9; omega
        · refine ⟨?_, ?_, ?_, ?_⟩ <;> omega
    simp [cstNode, cstRaw, costT, h0]
  | un op x a ih =>
    intro p hok hs
    have hpos := a.size_pos
    have hm : f[p + a.size]? = some ⟨op, x, 0, ((p + a.size - 1 : Nat) : Int), 0⟩ := by
      have := hs a.size (by simp [Tr.size])
      rw [this, Tr.enc, List.getElem?_append_right (by rw [Tr.enc_len]; exact Nat.le_refl _), Tr.enc_len]; simp
    have hsa : ∀ j, j < a.size → f[p + j]? = (a.enc p)[j]? := fun j hj => by
      rw [hs j (by simp [Tr.size]; omega), Tr.enc, List.getElem?_append_left (by rw [Tr.enc_len]; exact hj)]
    have h1 := ih p hok.2 hsa
    have e : p + (Tr.un op x a).size - 1 = p + a.size := by simp only [Tr.size]; omega
    rw [e, csts_get n f _ _ hm]
    have hb : ¬ (op = 10 ∨ op = 11) := by
      intro h
      have : nc op = 1 := hok.1.2.1
      unfold nc at this
      rw [if_pos h] at this; omega
    simp only [cstNode, costT, Int.toNat_natCast]
    rw [take_getD _ _ _ (by omega), h1]
    simp only [cstRaw, hb, if_false]
  | bin op a b iha ihb =>
    intro p hok hs
    have hposa := a.size_pos
    have hposb := b.size_pos
    have hm : f[p + a.size + b.size]? = some ⟨op, 0, 0, ((p + a.size - 1 : Nat) : Int), ((p + a.size + b.size - 1 : Nat) : Int)⟩ := by
      have := hs (a.size + b.size) (by simp [Tr.size])
      rw [Nat.add_assoc, this, Tr.enc, List.getElem?_append_right (by rw [Tr.enc_len]; omega), Tr.enc_len, List.getElem?_append_right (by rw [Tr.enc_len]; omega), Tr.enc_len]; simp; omega
    have hsa : ∀ j, j < a.size → f[p + j]? = (a.enc p)[j]? := fun j hj => by
      rw [hs j (by simp [Tr.size]; omega), Tr.enc, List.getElem?_append_left (by rw [Tr.enc_len]; exact hj)]
    have hsb : ∀ j, j < b.size → f[p + a.size + j]? = (b.enc (p + a.size))[j]? := fun j hj => by
      have := hs (a.size + j) (by simp [Tr.size]; omega)
      rw [Nat.add_assoc, this, Tr.enc, List.getElem?_append_right (by rw [Tr.enc_len]; omega), Tr.enc_len, List.getElem?_append_left (by rw [Tr.enc_len]; omega)]
      congr 1; omega
    have h1 := iha p hok.2.1 hsa
    have h2 := ihb (p + a.size) hok.2.2 hsb
    have e : p + (Tr.bin op a b).size - 1 = p + a.size + b.size := by simp only [Tr.size]; omega
    rw [e, csts_get n f _ _ hm]
    simp only [cstNode, costT, Int.toNat_natCast]
    rw [take_getD _ _ _ (by omega), take_getD _ _ _ (by omega), h1, h2]
theorem costS_tree (n : Nat) (f : List Mk) (t : Tr) (hok : t.ok) (hs : t.size = f.length) (he : f = t.enc 0) : costS n f = costT n t := by
  have := csts_tree n f t 0 hok (fun j hj => by rw [Nat.zero_add, ← he])
  unfold costS
  rw [← this, Nat.zero_add, hs]

/-- Elements and a relation between them. -/
structure Stc where
  n : Nat
  rel : Int → Nat → Nat → Bool
def isOne (s : Nat) : Bool := decide (s = 2 ^ Nat.log2 s)
def atomS (S : Stc) (op : Int) (p q : Nat) : Bool :=
  if op = 1 then true else if op = 2 then decide (p &&& q = p) else if op = 3 then decide (p = 0) else if op = 4 then isOne p
  else isOne p && isOne q && S.rel op (Nat.log2 p) (Nat.log2 q)
def setN (n : Nat) : Nat := 2 ^ n % 18446744073709551616
def getV (a : List Nat) (x : Int) : Nat := a.getD x.toNat 0
def setV (a : List Nat) (x : Int) (s : Nat) : List Nat := a.set x.toNat s
def holdsT (S : Stc) : Tr → List Nat → Bool
  | .leaf op x y, a => atomS S op (getV a x) (getV a y)
  | .un op x t, a =>
    if op = 9 then !holdsT S t a
    else if op = 12 then (List.range (setN S.n)).any fun s => holdsT S t (setV a x s)
    else if op = 13 then (List.range (setN S.n)).all fun s => holdsT S t (setV a x s)
    else if op = 14 then (List.range S.n).any fun p => holdsT S t (setV a x (2 ^ p))
    else (List.range S.n).all fun p => holdsT S t (setV a x (2 ^ p))
  | .bin op t u, a => if op = 10 then holdsT S t a && holdsT S u a else holdsT S t a || holdsT S u a

/-- The set of a variable that letters give. -/
def givenV (w : List Nat) (v : Nat) : Nat := (w.zipIdx.map fun xp => (xp.1 / 2 ^ v % 2) * 2 ^ xp.2).sum
def givenS (w : List Nat) : List Nat := (List.range 6).map (givenV w)

def relWord (op : Int) (p q : Nat) : Bool := if op = 5 then decide (q = p + 1) else decide (p < q)
def stcWord (n : Nat) : Stc := ⟨n, relWord⟩

end Go.Proofs.YthkfjnmnoanhlaaGreatDoor

namespace Go.Proofs.YthkfjnmnoanhlaaGreatDoor

structure Lf where
  label : Int
  left : Int
  right : Int
deriving DecidableEq

def kid (len : Nat) (e : Nat → Option Nat) (c : Int) (next : Nat) : Option Nat :=
  if c = -1 then some next else if c ≠ next ∨ len ≤ next then none else e next
def endF (t : List Lf) : Nat → Nat → Option Nat
  | 0, _ => none
  | k + 1, i => match t[i]? with
    | none => none
    | some x => (kid t.length (endF t k) x.left (i + 1)).bind fun n => kid t.length (endF t k) x.right n
def endS (t : List Lf) (i : Nat) : Option Nat := endF t (t.length - i) i

theorem kid_gt {len : Nat} {e : Nat → Option Nat} {c : Int} {next n : Nat} (h : kid len e c next = some n) (he : ∀ m, e next = some m → next < m ∧ m ≤ len) (hn : next ≤ len) : next ≤ n ∧ n ≤ len := by
  unfold kid at h
  by_cases h1 : c = -1
  · rw [if_pos h1] at h; cases h; omega
  · rw [if_neg h1] at h
    split at h
    · cases h
    · have := he n h; omega
theorem endF_gt (t : List Lf) : ∀ k i n, endF t k i = some n → i < n ∧ n ≤ t.length := by
  intro k
  induction k with
  | zero => intro i n h; simp [endF] at h
  | succ k ih =>
    intro i n h
    rw [endF] at h
    cases hx : t[i]? with
    | none => simp only [hx] at h; cases h
    | some x =>
      have hi : i < t.length := (List.getElem?_eq_some_iff.1 hx).1
      simp only [hx] at h
      cases h1 : kid t.length (endF t k) x.left (i + 1) with
      | none => rw [h1] at h; cases h
      | some m =>
        rw [h1] at h
        have k1 := kid_gt h1 (fun q hq => ih _ _ hq) hi
        have k2 := kid_gt (show kid t.length (endF t k) x.right m = some n from h) (fun q hq => ih _ _ hq) k1.2
        omega
theorem endF_more (t : List Lf) : ∀ k i, t.length - i ≤ k → endF t k i = endF t (t.length - i) i := by
  have main : ∀ k i j, t.length - i ≤ k → t.length - i ≤ j → endF t k i = endF t j i := by
    intro k
    induction k with
    | zero =>
      intro i j h _
      cases j with
      | zero => rfl
      | succ j =>
        have : t[i]? = none := List.getElem?_eq_none (by omega)
        simp [endF, this]
    | succ k ih =>
      intro i j h hj
      cases j with
      | zero =>
        have : t[i]? = none := List.getElem?_eq_none (by omega)
        simp [endF, this]
      | succ j =>
        rw [endF, endF]
        cases hx : t[i]? with
        | none => rfl
        | some x =>
          have hi : i < t.length := (List.getElem?_eq_some_iff.1 hx).1
          simp only
          have kk : ∀ c next, i < next → kid t.length (endF t k) c next = kid t.length (endF t j) c next := fun c next hn => by
            unfold kid
            rw [ih next j (by omega) (by omega)]
          rw [kk _ _ (by omega)]
          cases h1 : kid t.length (endF t j) x.left (i + 1) with
          | none => rfl
          | some m =>
            have := kid_gt h1 (fun q hq => endF_gt t _ _ _ hq) hi
            exact kk _ _ (by omega)
  intro k i h
  exact main k i _ h (Nat.le_refl _)
theorem endS_eq (t : List Lf) (i : Nat) (x : Lf) (hx : t[i]? = some x) : endS t i = (kid t.length (endS t) x.left (i + 1)).bind fun n => kid t.length (endS t) x.right n := by
  have hi : i < t.length := (List.getElem?_eq_some_iff.1 hx).1
  have e : t.length - i = (t.length - i - 1) + 1 := by omega
  have kk : ∀ c next, i < next → kid t.length (endF t (t.length - i - 1)) c next = kid t.length (endS t) c next := fun c next hn => by
    unfold kid endS
    rw [endF_more t _ next (by omega)]
  rw [endS, e, endF]
  simp only [hx]
  rw [kk _ _ (by omega)]
  cases h1 : kid t.length (endS t) x.left (i + 1) with
  | none => rfl
  | some m =>
    have := kid_gt h1 (fun q hq => endF_gt t _ _ _ hq) hi
    exact kk _ _ (by omega)
theorem endS_gt {t : List Lf} {i n : Nat} (h : endS t i = some n) : i < n ∧ n ≤ t.length := endF_gt t _ _ _ h

def formedT (t : List Lf) : Bool := decide (t.length = 0) || (decide (t.length ≤ 31) && decide (endS t 0 = some t.length))
def badLabel (vars : Int) (x : Lf) : Bool := decide (x.label / 2 ^ vars.toNat ≠ 0)
def checkT (t : List Lf) (vars : Int) : Int :=
  if vars < 0 ∨ 3 < vars then 7 else if 31 < t.length then 4 else if t.any (badLabel vars) then 1 else if formedT t then 0 else 2

/-- Trees, and their nodes in preorder. -/
inductive Bt where
  | nil
  | node (label : Int) (l r : Bt)
def Bt.size : Bt → Nat
  | .nil => 0
  | .node _ l r => l.size + r.size + 1
def Bt.at (p : Nat) (b : Bt) : Int := if b.size = 0 then -1 else p
def Bt.enc : Nat → Bt → List Lf
  | _, .nil => []
  | p, .node lab l r => ⟨lab, l.at (p + 1), r.at (p + 1 + l.size)⟩ :: (l.enc (p + 1) ++ r.enc (p + 1 + l.size))
theorem Bt.enc_len (b : Bt) : ∀ p, (b.enc p).length = b.size := by
  induction b with
  | nil => intro p; rfl
  | node lab l r ihl ihr => intro p; simp [Bt.enc, Bt.size, ihl, ihr]
theorem Bt.nil_of_size {b : Bt} (h : b.size = 0) : b = .nil := by
  cases b with
  | nil => rfl
  | node => simp [Bt.size] at h

/-- The segment of t from p on is the tree b. -/
def Seg (t : List Lf) (p : Nat) (b : Bt) : Prop := ∀ j, j < b.size → t[p + j]? = (b.enc p)[j]?
theorem Seg.root {t : List Lf} {p : Nat} {lab : Int} {l r : Bt} (h : Seg t p (.node lab l r)) : t[p]? = some ⟨lab, l.at (p + 1), r.at (p + 1 + l.size)⟩ := by
  have := h 0 (by simp [Bt.size])
  simpa [Bt.enc] using this
theorem Seg.left {t : List Lf} {p : Nat} {lab : Int} {l r : Bt} (h : Seg t p (.node lab l r)) : Seg t (p + 1) l := fun j hj => by
  have := h (j + 1) (by simp [Bt.size]; omega)
  rw [Bt.enc, List.getElem?_cons_succ, List.getElem?_append_left (by rw [Bt.enc_len]; exact hj)] at this
  rw [← this]; congr 1; omega
theorem Seg.right {t : List Lf} {p : Nat} {lab : Int} {l r : Bt} (h : Seg t p (.node lab l r)) : Seg t (p + 1 + l.size) r := fun j hj => by
  have := h (l.size + j + 1) (by simp [Bt.size]; omega)
  rw [Bt.enc, List.getElem?_cons_succ, List.getElem?_append_right (by rw [Bt.enc_len]; omega), Bt.enc_len] at this
  rw [show l.size + j - l.size = j by omega] at this
  rw [← this]; congr 1; omega
theorem Seg.node {t : List Lf} {p : Nat} {lab : Int} {l r : Bt} (h0 : t[p]? = some ⟨lab, l.at (p + 1), r.at (p + 1 + l.size)⟩) (hl : Seg t (p + 1) l) (hr : Seg t (p + 1 + l.size) r) : Seg t p (.node lab l r) := fun j hj => by
  cases j with
  | zero => rw [Nat.add_zero, h0]; simp [Bt.enc]
  | succ j =>
    rw [Bt.enc, List.getElem?_cons_succ]
    simp only [Bt.size] at hj
    by_cases hjl : j < l.size
    · rw [List.getElem?_append_left (by rw [Bt.enc_len]; exact hjl), ← hl j hjl]; congr 1; omega
    · rw [List.getElem?_append_right (by rw [Bt.enc_len]; omega), Bt.enc_len, ← hr (j - l.size) (by omega)]; congr 1; omega

/-- The end of a block finds its tree, and the tree its end. -/
theorem bt_at (t : List Lf) : ∀ d i n, n - i ≤ d → endS t i = some n → ∃ b : Bt, 0 < b.size ∧ i + b.size = n ∧ Seg t i b := by
  intro d
  induction d with
  | zero => intro i n h he; have := endS_gt he; omega
  | succ d ih =>
    intro i n h he
    have hin := endS_gt he
    obtain ⟨x, hx⟩ : ∃ x, t[i]? = some x := ⟨t[i]'(by omega), List.getElem?_eq_getElem _⟩
    rw [endS_eq t i x hx] at he
    have kk : ∀ c next m, i < next → next ≤ t.length → m ≤ n → kid t.length (endS t) c next = some m → ∃ b : Bt, next + b.size = m ∧ Seg t next b ∧ c = b.at next := by
      intro c next m hn hl hm hk
      unfold kid at hk
      by_cases h1 : c = -1
      · rw [if_pos h1] at hk; cases hk
        exact ⟨.nil, rfl, fun j hj => by simp [Bt.size] at hj, by simp [Bt.at, Bt.size, h1]⟩
      · rw [if_neg h1] at hk
        by_cases h2 : c ≠ next ∨ t.length ≤ next
        · rw [if_pos h2] at hk; cases hk
        · rw [if_neg h2] at hk
          obtain ⟨b, b1, b2, b3⟩ := ih next m (by omega) hk
          exact ⟨b, b2, b3, by unfold Bt.at; rw [if_neg (by omega)]; omega⟩
    cases h1 : kid t.length (endS t) x.left (i + 1) with
    | none => rw [h1] at he; cases he
    | some m =>
      rw [h1] at he
      have he : kid t.length (endS t) x.right m = some n := he
      have g1 := kid_gt h1 (fun q hq => endS_gt hq) (by omega)
      have g2 := kid_gt he (fun q hq => endS_gt hq) g1.2
      obtain ⟨l, l1, l2, l3⟩ := kk _ _ _ (by omega) (by omega) g2.1 h1
      obtain ⟨r, r1, r2, r3⟩ := kk _ _ _ (by omega) g1.2 (Nat.le_refl _) he
      refine ⟨.node x.label l r, by simp [Bt.size], by simp only [Bt.size]; omega, Seg.node ?_ l2 (by rw [l1]; exact r2)⟩
      rw [hx, ← l3, l1, ← r3]
theorem end_at (t : List Lf) : ∀ (b : Bt) (p : Nat), 0 < b.size → p + b.size ≤ t.length → Seg t p b → endS t p = some (p + b.size) := by
  intro b
  induction b with
  | nil => intro p h; simp [Bt.size] at h
  | node lab l r ihl ihr =>
    intro p _ hlen hs
    simp only [Bt.size] at hlen ⊢
    rw [endS_eq t p _ hs.root]
    have kk : ∀ (c : Bt) next, (0 < c.size → endS t next = some (next + c.size)) → next + c.size ≤ t.length → kid t.length (endS t) (c.at next) next = some (next + c.size) := by
      intro c next h1 h2
      unfold kid Bt.at
      by_cases h0 : c.size = 0
      · simp [h0]
      · rw [if_neg h0, if_neg (by omega), if_neg (by omega), h1 (by omega)]
    simp only
    rw [kk l (p + 1) (fun h => ihl (p + 1) h (by omega) hs.left) (by omega)]
    simp only [Option.bind_some]
    rw [kk r (p + 1 + l.size) (fun h => ihr _ h (by omega) hs.right) (by omega)]
    congr 1; omega
theorem formedT_bt {t : List Lf} (h : formedT t = true) : t.length ≤ 31 ∧ ∃ b : Bt, b.size = t.length ∧ Seg t 0 b := by
  unfold formedT at h
  simp only [Bool.or_eq_true, Bool.and_eq_true, decide_eq_true_eq] at h
  rcases h with h | ⟨h1, h2⟩
  · exact ⟨by omega, .nil, by simp [Bt.size, h], fun j hj => by simp [Bt.size] at hj⟩
  · obtain ⟨b, _, b2, b3⟩ := bt_at t _ 0 _ (Nat.le_refl _) h2
    exact ⟨h1, b, by omega, b3⟩
theorem formedT_of {t : List Lf} {b : Bt} (h31 : t.length ≤ 31) (hb : b.size = t.length) (hs : Seg t 0 b) : formedT t = true := by
  unfold formedT
  by_cases h0 : t.length = 0
  · simp [h0]
  · have := end_at t b 0 (by omega) (by omega) hs
    rw [Nat.zero_add, hb] at this
    simp [this, h31]
theorem Seg.eq {t : List Lf} {b : Bt} (hb : b.size = t.length) (hs : Seg t 0 b) : t = b.enc 0 := by
  apply List.ext_getElem?
  intro j
  by_cases hj : j < b.size
  · rw [← hs j hj, Nat.zero_add]
  · rw [List.getElem?_eq_none (by omega), List.getElem?_eq_none (by rw [Bt.enc_len]; omega)]
theorem Seg.self (b : Bt) : Seg (b.enc 0) 0 b := fun j hj => by rw [Nat.zero_add]
/-- Children of a formed tree's node. -/
theorem seg_kids (t : List Lf) : ∀ (b : Bt) (p : Nat), Seg t p b → ∀ i, i < b.size → ∃ x, t[p + i]? = some x ∧ (x.left = -1 ∨ (((p + i : Nat) : Int) < x.left ∧ x.left < ((p + b.size : Nat) : Int))) ∧ (x.right = -1 ∨ (((p + i : Nat) : Int) < x.right ∧ x.right < ((p + b.size : Nat) : Int))) := by
  intro b
  induction b with
  | nil => intro p _ i hi; simp [Bt.size] at hi
  | node lab l r ihl ihr =>
    intro p hs i hi
    simp only [Bt.size] at hi ⊢
    by_cases h0 : i = 0
    · subst h0
      refine ⟨_, hs.root, ?_, ?_⟩
      · simp only [Bt.at]; split <;> omega
      · simp only [Bt.at]; split <;> omega
    · by_cases hl : i - 1 < l.size
      · obtain ⟨x, h1, h2, h3⟩ := ihl (p + 1) hs.left (i - 1) hl
        refine ⟨x, ?_, ?_, ?_⟩
        · rw [← h1]; congr 1; omega
        · omega
        · omega
      · obtain ⟨x, h1, h2, h3⟩ := ihr (p + 1 + l.size) hs.right (i - 1 - l.size) (by omega)
        refine ⟨x, ?_, ?_, ?_⟩
        · rw [← h1]; congr 1; omega
        · omega
        · omega
/-- Each child is -1 or a later node. -/
def KidsOk (t : List Lf) : Prop := ∀ (i : Nat) (x : Lf), t[i]? = some x → (x.left = -1 ∨ ((i : Int) < x.left ∧ x.left < (t.length : Int))) ∧ (x.right = -1 ∨ ((i : Int) < x.right ∧ x.right < (t.length : Int)))
theorem kids_ok {t : List Lf} (h : formedT t = true) : KidsOk t := by
  obtain ⟨_, b, hb, hs⟩ := formedT_bt h
  intro i x hx
  have hi : i < t.length := (List.getElem?_eq_some_iff.1 hx).1
  obtain ⟨y, h1, h2, h3⟩ := seg_kids t b 0 hs i (by omega)
  rw [Nat.zero_add, hx] at h1
  cases h1
  omega

/-- The proper ancestors. -/
def ancF (t : List Lf) : Nat → Nat → Nat → Bool
  | 0, _, _ => false
  | k + 1, p, q => if q ≤ p then false else match t[p]? with
    | none => false
    | some x => (decide (x.left = q) || (decide (0 < x.left) && ancF t k x.left.toNat q)) || (decide (x.right = q) || (decide (0 < x.right) && ancF t k x.right.toNat q))
def ancS (t : List Lf) (p q : Nat) : Bool := ancF t (t.length - p) p q
theorem ancF_more {t : List Lf} (hk : KidsOk t) : ∀ k p q, t.length - p ≤ k → ancF t k p q = ancF t (t.length - p) p q := by
  have main : ∀ k p q j, t.length - p ≤ k → t.length - p ≤ j → ancF t k p q = ancF t j p q := by
    intro k
    induction k with
    | zero =>
      intro p q j h _
      cases j with
      | zero => rfl
      | succ j =>
        have : t[p]? = none := List.getElem?_eq_none (by omega)
        simp [ancF, this]
    | succ k ih =>
      intro p q j h hj
      cases j with
      | zero =>
        have : t[p]? = none := List.getElem?_eq_none (by omega)
        simp [ancF, this]
      | succ j =>
        rw [ancF, ancF]
        by_cases hq : q ≤ p
        · rw [if_pos hq, if_pos hq]
        · rw [if_neg hq, if_neg hq]
          cases hx : t[p]? with
          | none => rfl
          | some x =>
            have hi : p < t.length := (List.getElem?_eq_some_iff.1 hx).1
            have hkk := hk p x hx
            simp only
            have e : ∀ c : Int, (c = -1 ∨ ((p : Int) < c ∧ c < (t.length : Int))) → (decide (0 < c) && ancF t k c.toNat q) = (decide (0 < c) && ancF t j c.toNat q) := fun c hc => by
              by_cases h0 : 0 < c
              · rw [ih c.toNat q j (by omega) (by omega)]
              · simp [h0]
            rw [e _ hkk.1, e _ hkk.2]
  intro k p q h
  exact main k p q _ h (Nat.le_refl _)
theorem ancS_eq {t : List Lf} (hk : KidsOk t) (p q : Nat) (x : Lf) (hx : t[p]? = some x) :
    ancS t p q = if q ≤ p then false else (decide (x.left = q) || (decide (0 < x.left) && ancS t x.left.toNat q)) || (decide (x.right = q) || (decide (0 < x.right) && ancS t x.right.toNat q)) := by
  have hi : p < t.length := (List.getElem?_eq_some_iff.1 hx).1
  have hkk := hk p x hx
  have e : t.length - p = (t.length - p - 1) + 1 := by omega
  rw [ancS, e, ancF]
  by_cases hq : q ≤ p
  · rw [if_pos hq, if_pos hq]
  · rw [if_neg hq, if_neg hq, hx]
    simp only
    have e : ∀ c : Int, (c = -1 ∨ ((p : Int) < c ∧ c < (t.length : Int))) → (decide (0 < c) && ancF t (t.length - p - 1) c.toNat q) = (decide (0 < c) && ancS t c.toNat q) := fun c hc => by
      by_cases h0 : 0 < c
      · rw [ancF_more hk _ c.toNat q (by omega)]; rfl
      · simp [h0]
    rw [e _ hkk.1, e _ hkk.2]
def leftS (t : List Lf) (p : Nat) : Int := match t[p]? with
  | some x => x.left
  | none => -1
def rightS (t : List Lf) (p : Nat) : Int := match t[p]? with
  | some x => x.right
  | none => -1
def relTree (t : List Lf) (op : Int) (p q : Nat) : Bool := if op = 7 then decide (leftS t p = q) else if op = 8 then decide (rightS t p = q) else ancS t p q
def stcTree (t : List Lf) : Stc := ⟨t.length, relTree t⟩
def labelsS (t : List Lf) : List Nat := t.map fun x => x.label.toNat
end Go.Proofs.YthkfjnmnoanhlaaGreatDoor

namespace Go.Proofs.YthkfjnmnoanhlaaGreatDoor

theorem and_split (A b M m : Nat) (hb : b < 256) (hm : m < 256) : (256 * A + b) &&& (256 * M + m) = 256 * (A &&& M) + (b &&& m) := by
  have hbm : b &&& m < 2 ^ 8 := Nat.lt_of_le_of_lt Nat.and_le_left hb
  apply Nat.eq_of_testBit_eq
  intro j
  rw [Nat.testBit_and, show (256 : Nat) = 2 ^ 8 from rfl, Nat.testBit_two_pow_mul_add A hb, Nat.testBit_two_pow_mul_add M hm, Nat.testBit_two_pow_mul_add (A &&& M) hbm, Nat.testBit_and, Nat.testBit_and]
  split <;> rfl

def g1 (b : Nat) : Nat := ((b / 2) &&& 85) + (b &&& 85)
def g2 (b : Nat) : Nat := ((b / 4) &&& 51) + (b &&& 51)
def g3 (b : Nat) : Nat := ((b / 16) + b) &&& 15
def f1 (x M : Nat) : Nat := ((x / 2) &&& M) + (x &&& M)
def f2 (x M : Nat) : Nat := ((x / 4) &&& M) + (x &&& M)
def f3 (x M : Nat) : Nat := ((x / 16) + x) &&& M
theorem low1 : ∀ b, b < 256 → ∀ a, a < 2 → (128 * a + b / 2) &&& 85 = (b / 2) &&& 85 := by decide +kernel
theorem low2 : ∀ b, b < 256 → ∀ a, a < 4 → (64 * a + b / 4) &&& 51 = (b / 4) &&& 51 := by decide +kernel
theorem low3 : ∀ b, b < 256 → ∀ a, a < 5 → 16 * a + b / 16 + g2 (g1 b) < 256 ∨ True := by intros; exact .inr trivial
theorem g1_lt : ∀ b, b < 256 → g1 b < 256 := by decide +kernel
theorem g2_lt : ∀ b, b < 256 → g2 b < 256 := by decide +kernel
theorem nib : ∀ b, b < 256 → g2 (g1 b) % 16 < 5 ∧ g2 (g1 b) / 16 < 5 := by decide +kernel
theorem low3' : ∀ h, h < 5 → ∀ l, l < 5 → ∀ a, a < 5 → (16 * a + (16 * h + l) / 16 + (16 * h + l)) &&& 15 = g3 (16 * h + l) ∧ 16 * a + (16 * h + l) / 16 + (16 * h + l) < 256 := by decide +kernel
theorem f1_split (A b M : Nat) (hb : b < 256) : f1 (256 * A + b) (256 * M + 85) = 256 * f1 A M + g1 b := by
  have e : (256 * A + b) / 2 = 256 * (A / 2) + (128 * (A % 2) + b / 2) := by omega
  unfold f1 g1
  rw [e, and_split _ _ _ _ (by omega) (by omega), and_split _ _ _ _ hb (by omega), low1 b hb _ (by omega)]
  omega
theorem f2_split (A b M : Nat) (hb : b < 256) : f2 (256 * A + b) (256 * M + 51) = 256 * f2 A M + g2 b := by
  have e : (256 * A + b) / 4 = 256 * (A / 4) + (64 * (A % 4) + b / 4) := by omega
  unfold f2 g2
  rw [e, and_split _ _ _ _ (by omega) (by omega), and_split _ _ _ _ hb (by omega), low2 b hb _ (by omega)]
  omega
theorem f3_split (A b M : Nat) (hh : b / 16 < 5) (hl : b % 16 < 5) (ha : A % 16 < 5) : f3 (256 * A + b) (256 * M + 15) = 256 * f3 A M + g3 b := by
  obtain ⟨k1, k2⟩ := low3' (b / 16) hh (b % 16) hl (A % 16) ha
  have eb : 16 * (b / 16) + b % 16 = b := by omega
  rw [eb] at k1 k2
  have e : (256 * A + b) / 16 + (256 * A + b) = 256 * (A / 16 + A) + (16 * (A % 16) + b / 16 + b) := by omega
  unfold f3
  rw [e, and_split _ _ _ _ k2 (by omega), k1]

def pop8 (b : Nat) : Nat := b % 2 + b / 2 % 2 + b / 4 % 2 + b / 8 % 2 + b / 16 % 2 + b / 32 % 2 + b / 64 % 2 + b / 128 % 2
theorem g_pop : ∀ b, b < 256 → g3 (g2 (g1 b)) = pop8 b ∧ pop8 b ≤ 8 := by decide +kernel
theorem pop8_one : ∀ b, b < 256 → (pop8 b = 0 → b = 0) ∧ (pop8 b = 1 → ∃ j, j < 8 ∧ b = 2 ^ j) := by decide +kernel
/-- The number whose bytes are these, the lowest first. -/
def ofB : List Nat → Nat
  | [] => 0
  | b :: l => 256 * ofB l + b
theorem steps (l : List Nat) (hl : ∀ b ∈ l, b < 256) :
    f3 (f2 (f1 (ofB l) (ofB (l.map fun _ => 85))) (ofB (l.map fun _ => 51))) (ofB (l.map fun _ => 15)) = ofB (l.map pop8) ∧ f2 (f1 (ofB l) (ofB (l.map fun _ => 85))) (ofB (l.map fun _ => 51)) % 16 < 5 := by
  induction l with
  | nil => simp [ofB, f1, f2, f3]
  | cons b l ih =>
    have hb := hl b (by simp)
    obtain ⟨i1, i2⟩ := ih (fun c hc => hl c (by simp [hc]))
    simp only [List.map_cons, ofB]
    rw [f1_split _ _ _ hb, f2_split _ _ _ (g1_lt b hb)]
    obtain ⟨n1, n2⟩ := nib b hb
    rw [f3_split _ _ _ n2 n1 i2, i1, (g_pop b hb).1]
    exact ⟨rfl, by omega⟩

def bytesK : Nat → Nat → List Nat
  | 0, _ => []
  | k + 1, x => x % 256 :: bytesK k (x / 256)
def bytesOf (x : Nat) : List Nat := bytesK 8 x
theorem ofB_bytesK : ∀ k x, x < 256 ^ k → ofB (bytesK k x) = x := by
  intro k
  induction k with
  | zero => intro x h; simp at h; simp [bytesK, ofB, h]
  | succ k ih =>
    intro x h
    rw [Nat.pow_succ] at h
    rw [bytesK, ofB, ih (x / 256) (by omega)]
    omega
theorem ofB_bytes (x : Nat) (hx : x < 18446744073709551616) : ofB (bytesOf x) = x := ofB_bytesK 8 x hx
theorem bytesK_lt : ∀ k x, ∀ b ∈ bytesK k x, b < 256 := by
  intro k
  induction k with
  | zero => intro x b hb; simp [bytesK] at hb
  | succ k ih =>
    intro x b hb
    simp only [bytesK, List.mem_cons] at hb
    rcases hb with rfl | hb
    · omega
    · exact ih _ b hb
theorem bytes_lt (x : Nat) : ∀ b ∈ bytesOf x, b < 256 := bytesK_lt 8 x
def pop (x : Nat) : Nat := ((bytesOf x).map pop8).sum
theorem ones_bytes (x : Nat) (hx : x < 18446744073709551616) : f3 (f2 (f1 x 6148914691236517205) 3689348814741910323) 1085102592571150095 = ofB ((bytesOf x).map pop8) := by
  have h := (steps (bytesOf x) (bytes_lt x)).1
  rw [ofB_bytes x hx] at h
  have e1 : ofB ((bytesOf x).map fun _ => 85) = 6148914691236517205 := by simp [bytesOf, bytesK, ofB]
  have e2 : ofB ((bytesOf x).map fun _ => 51) = 3689348814741910323 := by simp [bytesOf, bytesK, ofB]
  have e3 : ofB ((bytesOf x).map fun _ => 15) = 1085102592571150095 := by simp [bytesOf, bytesK, ofB]
  rw [e1, e2, e3] at h
  exact h
theorem ofB_div (b : Nat) (l : List Nat) (hb : b < 256) : ofB (b :: l) / 256 = ofB l := by rw [ofB]; omega
theorem ofB_lt : ∀ (l : List Nat), (∀ b ∈ l, b ≤ 64) → 3 * ofB l < 256 ^ l.length := by
  intro l
  induction l with
  | nil => intro _; simp [ofB]
  | cons b l ih =>
    intro h
    have h1 := h b (by simp)
    have h2 := ih (fun c hc => h c (by simp [hc]))
    rw [ofB, List.length_cons, Nat.pow_succ]
    omega
theorem fold_sum (c0 c1 c2 c3 c4 c5 c6 c7 : Nat) (h0 : c0 ≤ 8) (h1 : c1 ≤ 8) (h2 : c2 ≤ 8) (h3 : c3 ≤ 8) (h4 : c4 ≤ 8) (h5 : c5 ≤ 8) (h6 : c6 ≤ 8) (h7 : c7 ≤ 8) (X Y Z : Nat)
    (hX : X = ofB [c0, c1, c2, c3, c4, c5, c6, c7]) (hY : Y = X + X / 256) (hZ : Z = Y + Y / 65536) :
    (Z + Z / 4294967296) % 128 = c0 + (c1 + (c2 + (c3 + (c4 + (c5 + (c6 + c7)))))) ∧ Z + Z / 4294967296 < 9223372036854775808 ∧ Y < 9223372036854775808 ∧ Z < 9223372036854775808 := by
  have eY : Y = ofB [c0 + c1, c1 + c2, c2 + c3, c3 + c4, c4 + c5, c5 + c6, c6 + c7, c7] := by
    rw [hY, hX, ofB_div _ _ (by omega)]
    simp only [ofB]; omega
  have eZ : Z = ofB [c0 + c1 + (c2 + c3), c1 + c2 + (c3 + c4), c2 + c3 + (c4 + c5), c3 + c4 + (c5 + c6), c4 + c5 + (c6 + c7), c5 + c6 + c7, c6 + c7, c7] := by
    rw [hZ, show (65536 : Nat) = 256 * 256 from rfl, ← Nat.div_div_eq_div_mul, eY, ofB_div _ _ (by omega), ofB_div _ _ (by omega)]
    simp only [ofB]; omega
  have eT : Z + Z / 4294967296 = ofB [c0 + c1 + (c2 + c3) + (c4 + c5 + (c6 + c7)), c1 + c2 + (c3 + c4) + (c5 + c6 + c7), c2 + c3 + (c4 + c5) + (c6 + c7), c3 + c4 + (c5 + c6) + c7, c4 + c5 + (c6 + c7), c5 + c6 + c7, c6 + c7, c7] := by
    rw [show (4294967296 : Nat) = 256 * 256 * 256 * 256 from rfl, ← Nat.div_div_eq_div_mul, ← Nat.div_div_eq_div_mul, ← Nat.div_div_eq_div_mul, eZ, ofB_div _ _ (by omega), ofB_div _ _ (by omega), ofB_div _ _ (by omega), ofB_div _ _ (by omega)]
    simp only [ofB]; omega
  have bY : 3 * Y < 256 ^ 8 := by rw [eY]; exact ofB_lt _ (by simp only [List.mem_cons, List.not_mem_nil, or_false]; intro b hb; omega)
  have bZ : 3 * Z < 256 ^ 8 := by rw [eZ]; exact ofB_lt _ (by simp only [List.mem_cons, List.not_mem_nil, or_false]; intro b hb; omega)
  have bT : 3 * (Z + Z / 4294967296) < 256 ^ 8 := by rw [eT]; exact ofB_lt _ (by simp only [List.mem_cons, List.not_mem_nil, or_false]; intro b hb; omega)
  refine ⟨?_, by omega, by omega, by omega⟩
  rw [eT, ofB]
  omega
theorem ones_sum (x X Y Z : Nat) (hx : x < 18446744073709551616) (hX : X = f3 (f2 (f1 x 6148914691236517205) 3689348814741910323) 1085102592571150095) (hY : Y = X + X / 256) (hZ : Z = Y + Y / 65536) :
    (Z + Z / 4294967296) % 128 = pop x ∧ Z + Z / 4294967296 < 9223372036854775808 ∧ Y < 9223372036854775808 ∧ Z < 9223372036854775808 := by
  rw [ones_bytes x hx] at hX
  have hb := bytes_lt x
  have P : ∀ b ∈ bytesOf x, pop8 b ≤ 8 := fun b h => (g_pop b (hb b h)).2
  simp only [bytesOf, bytesK, List.map_cons, List.map_nil] at hX
  have := fold_sum _ _ _ _ _ _ _ _ (P _ (by simp [bytesOf, bytesK])) (P _ (by simp [bytesOf, bytesK])) (P _ (by simp [bytesOf, bytesK])) (P _ (by simp [bytesOf, bytesK])) (P _ (by simp [bytesOf, bytesK])) (P _ (by simp [bytesOf, bytesK])) (P _ (by simp [bytesOf, bytesK])) (P _ (by simp [bytesOf, bytesK])) X Y Z hX hY hZ
  refine ⟨this.1.trans ?_, this.2⟩
  simp only [pop, bytesOf, bytesK, List.map_cons, List.map_nil, List.sum_cons, List.sum_nil, Nat.add_zero]
theorem isOne_pow (k : Nat) : isOne (2 ^ k) = true := by unfold isOne; rw [Nat.log2_two_pow]; exact decide_eq_true rfl
theorem pop_pow : ∀ k, k < 64 → pop (2 ^ k) = 1 := by decide +kernel
theorem isOne_iff (s : Nat) : isOne s = true ↔ ∃ k, s = 2 ^ k := by
  constructor
  · intro h; exact ⟨_, of_decide_eq_true h⟩
  · rintro ⟨k, rfl⟩; exact isOne_pow k
theorem log2_lt {x : Nat} (hx : x < 18446744073709551616) (h : isOne x = true) : Nat.log2 x < 64 := by
  have e : x = 2 ^ Nat.log2 x := of_decide_eq_true h
  rw [e] at hx
  exact (Nat.pow_lt_pow_iff_right (by omega)).1 (show 2 ^ Nat.log2 x < 2 ^ 64 from hx)
theorem pop_one (x : Nat) (hx : x < 18446744073709551616) : pop x = 1 ↔ isOne x = true := by
  constructor
  · intro h
    have hb := bytes_lt x
    have hs : ofB (bytesOf x) = x := ofB_bytes x hx
    have key : ∀ l : List Nat, (∀ b ∈ l, b < 256) → ((l.map pop8).sum = 0 → ofB l = 0) ∧ ((l.map pop8).sum = 1 → ∃ k, ofB l = 2 ^ k) := by
      intro l
      induction l with
      | nil => intro _; simp [ofB]
      | cons b l ih =>
        intro hl
        obtain ⟨i0, i1⟩ := ih (fun c hc => hl c (by simp [hc]))
        obtain ⟨p0, p1⟩ := pop8_one b (hl b (by simp))
        simp only [List.map_cons, List.sum_cons, ofB]
        constructor
        · intro h
          rw [p0 (by omega), i0 (by omega)]
        · intro h
          by_cases h0 : pop8 b = 0
          · obtain ⟨k, hk⟩ := i1 (by omega)
            rw [p0 h0, hk]
            exact ⟨8 + k, by rw [Nat.pow_add]; rfl⟩
          · obtain ⟨j, hj, hj2⟩ := p1 (by omega)
            rw [i0 (by omega), hj2]
            exact ⟨j, by omega⟩
    obtain ⟨k, hk⟩ := (key _ hb).2 h
    rw [hs] at hk
    exact (isOne_iff x).2 ⟨k, hk⟩
  · intro h
    have e : x = 2 ^ Nat.log2 x := of_decide_eq_true h
    rw [e]
    exact pop_pow _ (log2_lt hx h)
end Go.Proofs.YthkfjnmnoanhlaaGreatDoor

namespace Go.Proofs.YthkfjnmnoanhlaaGreatDoor

theorem nc0_op {op : Int} (h : nc op = 0) : (op == 9) = false ∧ (op == 10) = false ∧ (op == 11) = false ∧ (op == 12) = false ∧ (op == 13) = false ∧ (op == 14) = false ∧ (op == 15) = false := by
  unfold nc at h
  by_cases c1 : op = 10 ∨ op = 11
  · rw [if_pos c1] at h; omega
  · by_cases c2 : op = 9 ∨ (12 ≤ op ∧ op ≤ 15)
    · rw [if_neg c1, if_pos c2] at h; omega
    · simp only [beq_eq_false_iff_ne]; omega
theorem nc1_op {op : Int} (h : nc op = 1) : op = 9 ∨ op = 12 ∨ op = 13 ∨ op = 14 ∨ op = 15 := by
  unfold nc at h
  by_cases c1 : op = 10 ∨ op = 11
  · rw [if_pos c1] at h; omega
  · by_cases c2 : op = 9 ∨ (12 ≤ op ∧ op ≤ 15)
    · omega
    · rw [if_neg c1, if_neg c2] at h; omega
theorem nc2_op {op : Int} (h : nc op = 2) : op = 10 ∨ op = 11 := by
  unfold nc at h
  by_cases c1 : op = 10 ∨ op = 11
  · exact c1
  · rw [if_neg c1] at h; split at h <;> omega
/-- The tree of a formed list of marks. -/
def treeAt (f : List Mk) : Nat → Nat → Tr
  | 0, _ => .leaf 1 0 0
  | k + 1, i => match f[i]? with
    | none => .leaf 1 0 0
    | some m => if nc m.op = 0 then .leaf m.op m.x m.y else if nc m.op = 1 then .un m.op m.x (treeAt f k m.a.toNat) else .bin m.op (treeAt f k m.a.toNat) (treeAt f k m.b.toNat)
def treeOf (f : List Mk) : Tr := treeAt f f.length (f.length - 1)
/-- The segment of f from p on is the tree t. -/
def Sg (f : List Mk) (p : Nat) (t : Tr) : Prop := ∀ j, j < t.size → f[p + j]? = (t.enc p)[j]?
theorem Sg.leaf {f : List Mk} {p : Nat} {op x y : Int} (h : Sg f p (.leaf op x y)) : f[p]? = some ⟨op, x, y, 0, 0⟩ := by
  have := h 0 (by simp [Tr.size]); simpa [Tr.enc] using this
theorem Sg.un {f : List Mk} {p : Nat} {op x : Int} {a : Tr} (h : Sg f p (.un op x a)) : f[p + a.size]? = some ⟨op, x, 0, ((p + a.size - 1 : Nat) : Int), 0⟩ := by
  have := h a.size (by simp [Tr.size])
  rw [this, Tr.enc, List.getElem?_append_right (by rw [Tr.enc_len]; exact Nat.le_refl _), Tr.enc_len]; simp
theorem Sg.un1 {f : List Mk} {p : Nat} {op x : Int} {a : Tr} (h : Sg f p (.un op x a)) : Sg f p a := fun j hj => by
  rw [h j (by simp [Tr.size]; omega), Tr.enc, List.getElem?_append_left (by rw [Tr.enc_len]; exact hj)]
theorem Sg.bin {f : List Mk} {p : Nat} {op : Int} {a b : Tr} (h : Sg f p (.bin op a b)) : f[p + a.size + b.size]? = some ⟨op, 0, 0, ((p + a.size - 1 : Nat) : Int), ((p + a.size + b.size - 1 : Nat) : Int)⟩ := by
  have := h (a.size + b.size) (by simp [Tr.size])
  have hb := b.size_pos
  rw [Nat.add_assoc, this, Tr.enc, List.getElem?_append_right (by rw [Tr.enc_len]; omega), Tr.enc_len, List.getElem?_append_right (by rw [Tr.enc_len]; omega), Tr.enc_len]; simp; omega
theorem Sg.bin1 {f : List Mk} {p : Nat} {op : Int} {a b : Tr} (h : Sg f p (.bin op a b)) : Sg f p a := fun j hj => by
  rw [h j (by simp [Tr.size]; omega), Tr.enc, List.getElem?_append_left (by rw [Tr.enc_len]; exact hj)]
theorem Sg.bin2 {f : List Mk} {p : Nat} {op : Int} {a b : Tr} (h : Sg f p (.bin op a b)) : Sg f (p + a.size) b := fun j hj => by
  have := h (a.size + j) (by simp [Tr.size]; omega)
  rw [Nat.add_assoc, this, Tr.enc, List.getElem?_append_right (by rw [Tr.enc_len]; omega), Tr.enc_len, List.getElem?_append_left (by rw [Tr.enc_len]; omega)]
  congr 1; omega
theorem treeAt_eq (f : List Mk) : ∀ (t : Tr) (p k : Nat), t.ok → Sg f p t → t.size ≤ k → treeAt f k (p + t.size - 1) = t := by
  intro t
  induction t with
  | leaf op x y =>
    intro p k hok hs hk
    obtain ⟨k, rfl⟩ : ∃ j, k = j + 1 := ⟨k - 1, by simp [Tr.size] at hk; omega⟩
    have hm := hs.leaf
    simp only [Tr.size, Nat.add_sub_cancel, treeAt, hm, hok.2.1, if_true]
  | un op x a ih =>
    intro p k hok hs hk
    have hpos := a.size_pos
    obtain ⟨k, rfl⟩ : ∃ j, k = j + 1 := ⟨k - 1, by simp [Tr.size] at hk; omega⟩
    have e : p + (Tr.un op x a).size - 1 = p + a.size := by simp only [Tr.size]; omega
    have h1 : nc op = 1 := hok.1.2.1
    simp only [e, treeAt, hs.un, h1, Int.toNat_natCast]
    rw [ih p k hok.2 hs.un1 (by simp [Tr.size] at hk; omega)]
    simp
  | bin op a b iha ihb =>
    intro p k hok hs hk
    have hposa := a.size_pos
    have hposb := b.size_pos
    obtain ⟨k, rfl⟩ : ∃ j, k = j + 1 := ⟨k - 1, by simp [Tr.size] at hk; omega⟩
    have e : p + (Tr.bin op a b).size - 1 = p + a.size + b.size := by simp only [Tr.size]; omega
    have h1 : nc op = 2 := hok.1
    simp only [Tr.size] at hk
    simp only [e, treeAt, hs.bin, h1, Int.toNat_natCast]
    rw [iha p k hok.2.1 hs.bin1 (by omega), ihb (p + a.size) k hok.2.2 hs.bin2 (by omega)]
    simp
theorem treeOf_eq (t : Tr) (hok : t.ok) : treeOf (t.enc 0) = t := by
  have := treeAt_eq (t.enc 0) t 0 t.size hok (fun j hj => by rw [Nat.zero_add]) (Nat.le_refl _)
  unfold treeOf
  rw [Tr.enc_len]
  rw [Nat.zero_add] at this
  exact this
theorem treeOf_ok {f : List Mk} (h : formedS f = true) : f.length ≤ 64 ∧ (treeOf f).ok ∧ (treeOf f).size = f.length ∧ f = (treeOf f).enc 0 := by
  obtain ⟨h64, t, ok, hs, he⟩ := formed_tree f h
  have : treeOf f = t := by rw [he]; exact treeOf_eq t ok
  rw [this]; exact ⟨h64, ok, hs, he⟩
theorem costS_eq {f : List Mk} (h : formedS f = true) (n : Nat) : costS n f = costT n (treeOf f) := by
  obtain ⟨_, ok, hs, he⟩ := treeOf_ok h
  exact costS_tree n f _ ok hs he

def badL (vars : Int) (x : Nat) : Bool := decide ((x : Int) / 2 ^ vars.toNat ≠ 0)
def evalS (S : Stc) (f : List Mk) (l : List Nat) : Bool × Int := if 65536 < costT S.n (treeOf f) then (false, 10) else (holdsT S (treeOf f) (givenS l), 0)
def wordS (f : List Mk) (vars : Int) (l : List Nat) : Bool × Int :=
  if checkS f vars false ≠ 0 then (false, checkS f vars false) else if 64 < l.length then (false, 4) else if l.any (badL vars) then (false, 1) else evalS (stcWord l.length) f l
def modelTreeS (f : List Mk) (vars : Int) (t : List Lf) : Bool × Int :=
  if checkS f vars true ≠ 0 then (false, checkS f vars true) else if checkT t vars ≠ 0 then (false, checkT t vars) else evalS (stcTree t) f (labelsS t)
def modelCostS (f : List Mk) (n : Int) : Int × Int :=
  if n < 0 ∨ 64 < n then (0, 1) else if formedS f then (costT n.toNat (treeOf f), 0) else (0, 2)

theorem givenV_snoc (l : List Nat) (x v : Nat) : givenV (l ++ [x]) v = givenV l v + x / 2 ^ v % 2 * 2 ^ l.length := by
  unfold givenV
  rw [List.zipIdx_append]
  simp
theorem givenV_lt (l : List Nat) (v : Nat) : givenV l v < 2 ^ l.length := by
  have key : ∀ k, k ≤ l.length → givenV (l.take k) v < 2 ^ k := by
    intro k
    induction k with
    | zero => intro _; simp [givenV]
    | succ k ih =>
      intro hk
      have h := ih (by omega)
      obtain ⟨x, hx⟩ : ∃ x, l[k]? = some x := ⟨l[k], List.getElem?_eq_getElem (by omega)⟩
      rw [List.take_add_one, hx]
      simp only [Option.toList_some]
      rw [givenV_snoc, List.length_take, Nat.min_eq_left (by omega), Nat.pow_succ]
      have h1 : x / 2 ^ v % 2 ≤ 1 := by omega
      have h2 : x / 2 ^ v % 2 * 2 ^ k ≤ 1 * 2 ^ k := Nat.mul_le_mul_right _ h1
      omega
  have := key l.length (Nat.le_refl _)
  rwa [List.take_length] at this
theorem givenS_eq (l : List Nat) : givenS l = [givenV l 0, givenV l 1, givenV l 2, givenV l 3, givenV l 4, givenV l 5] := rfl
theorem or_bit (a b p : Nat) (h : a < 2 ^ p) : a ||| (b * 2 ^ p) = a + b * 2 ^ p := by
  rw [Nat.or_comm, Nat.mul_comm, ← Nat.two_pow_add_eq_or_of_lt h, Nat.add_comm]

/-- Only free variables matter. -/
def freeT (v : Nat) : Tr → Bool
  | .leaf op x y => decide (0 < nv op) && decide (x.toNat = v) || decide (1 < nv op) && decide (y.toNat = v)
  | .un op x a => if op = 9 then freeT v a else decide (x.toNat ≠ v) && freeT v a
  | .bin _ a b => freeT v a || freeT v b
theorem getV_setV (a : List Nat) (x y : Int) (s : Nat) : getV (setV a x s) y = if x.toNat = y.toNat ∧ x.toNat < a.length then s else getV a y := by
  unfold getV setV
  simp only [List.getD_eq_getElem?_getD, List.getElem?_set]
  by_cases h : x.toNat = y.toNat
  · rw [if_pos h]
    by_cases h2 : x.toNat < a.length
    · rw [if_pos h2, if_pos ⟨h, h2⟩]; rfl
    · have : a[y.toNat]? = none := List.getElem?_eq_none (by omega)
      rw [if_neg h2, if_neg (by omega), this]
  · rw [if_neg h, if_neg (by omega)]
theorem setV_len (a : List Nat) (x : Int) (s : Nat) : (setV a x s).length = a.length := by simp [setV]
theorem nv_atom (op : Int) : nv op = 0 → op ≠ 2 ∧ op ≠ 3 ∧ op ≠ 4 ∧ ¬ (5 ≤ op ∧ op ≤ 8) := by
  intro h
  unfold nv at h
  repeat' split at h
  all_goals omega
theorem holds_agree (S : Stc) : ∀ (t : Tr) (a b : List Nat), t.ok → a.length = b.length → (∀ v, freeT v t = true → a.getD v 0 = b.getD v 0) → holdsT S t a = holdsT S t b := by
  intro t
  induction t with
  | leaf op x y =>
    intro a b hok hl h
    have h1 : nm op ≠ [] := hok.1
    have h0 : nc op = 0 := hok.2.1
    have hx : 0 < nv op → getV a x = getV b x := fun hp => h x.toNat (by simp [freeT, hp])
    have hy : 1 < nv op → getV a y = getV b y := fun hp => h y.toNat (by simp [freeT, hp])
    simp only [holdsT, atomS]
    by_cases h2 : op = 1
    · simp [h2]
    · have hv : op = 3 ∨ op = 4 → nv op = 1 := by intro h; unfold nv; rw [if_pos (by omega)]
      have hv2 : op = 2 ∨ (5 ≤ op ∧ op ≤ 8) → nv op = 2 := by
        intro h; unfold nv; rw [if_neg (by omega), if_pos h]
      have hop : op = 2 ∨ op = 3 ∨ op = 4 ∨ (5 ≤ op ∧ op ≤ 8) := by
        by_cases hr : 1 ≤ op ∧ op ≤ 8
        · omega
        · exfalso
          have hb : 9 ≤ op ∧ op ≤ 15 ∨ op < 1 ∨ 15 < op := by omega
          rcases hb with hb | hb
          · unfold nc at h0
            by_cases hc : op = 10 ∨ op = 11
            · rw [if_pos hc] at h0; omega
            · rw [if_neg hc, if_pos (by omega)] at h0; omega
          · apply h1; unfold nm
            repeat (first | rfl | rw [if_neg (by omega)])
      rcases hop with rfl | rfl | rfl | hop
      · rw [hx (by rw [hv2 (by omega)]; omega), hy (by rw [hv2 (by omega)]; omega)]
      · rw [hx (by rw [hv (by omega)]; omega)]; simp
      · rw [hx (by rw [hv (by omega)]; omega)]; simp
      · rw [hx (by rw [hv2 (by omega)]; omega), hy (by rw [hv2 (by omega)]; omega)]
  | un op x a ih =>
    intro p q hok hl h
    have step : ∀ s, op ≠ 9 → holdsT S a (setV p x s) = holdsT S a (setV q x s) := fun s h9 => by
      refine ih _ _ hok.2 (by rw [setV_len, setV_len, hl]) (fun v hv => ?_)
      have e1 := getV_setV p x v s
      have e2 := getV_setV q x v s
      unfold getV at e1 e2
      simp only [Int.toNat_natCast] at e1 e2
      rw [e1, e2, hl]
      by_cases hx : x.toNat = v
      · by_cases hlt : x.toNat < q.length
        · rw [if_pos ⟨hx, hlt⟩, if_pos ⟨hx, hlt⟩]
        · have h3 : ¬ (x.toNat = v ∧ x.toNat < q.length) := by omega
          rw [if_neg h3, if_neg h3]
          rw [List.getD_eq_getElem?_getD, List.getD_eq_getElem?_getD, List.getElem?_eq_none (by omega), List.getElem?_eq_none (by omega)]
      · rw [if_neg (by omega), if_neg (by omega)]
        refine h v ?_
        simp [freeT, h9, hx, hv]
    simp only [holdsT]
    by_cases h9 : op = 9
    · rw [if_pos h9, if_pos h9, ih p q hok.2 hl (fun v hv => h v (by simp [freeT, h9, hv]))]
    · simp only [if_neg h9, step _ h9]
  | bin op a b iha ihb =>
    intro p q hok hl h
    simp only [holdsT]
    rw [iha p q hok.2.1 hl (fun v hv => h v (by simp [freeT, hv])), ihb p q hok.2.2 hl (fun v hv => h v (by simp [freeT, hv]))]
end Go.Proofs.YthkfjnmnoanhlaaGreatDoor

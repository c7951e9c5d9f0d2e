/- Plain functions: costs and truth of formulas on words and trees; no program in sight. -/
import Derived.Test.YtdlibehffgfhlaaDoorTree
set_option linter.unusedSimpArgs false
set_option linter.unusedVariables false
namespace Go.Proofs.YtdlibehffgfhlaaDoor

/-- The cost of a node on n elements, when the blocks before it have the costs acc. -/
def cstRaw (n : Nat) (op : Int) (a b : Nat) : Nat :=
  if op = 9 then 1 + a else if op = 10 ∨ op = 11 then 1 + a + b else if op = 12 ∨ op = 13 then 1 + 2 ^ n * a else if op = 14 ∨ op = 15 then 1 + n * a else 1
def cstNode (n : Nat) (acc : List Nat) (m : Mk) : Nat := min (cstRaw n m.op (acc.getD m.a.toNat 0) (acc.getD m.b.toNat 0)) 1073741824
def csts (n : Nat) (f : List Mk) : List Nat := f.foldl (fun acc m => acc ++ [cstNode n acc m]) []
def costS (n : Nat) (f : List Mk) : Nat := (csts n f).getD (f.length - 1) 0
def costT (n : Nat) : Tr → Nat
  | .leaf _ _ _ => 1
  | .un op _ a => min (cstRaw n op (costT n a) 0) 1073741824
  | .bin op a b => min (cstRaw n op (costT n a) (costT n b)) 1073741824

theorem csts_len (n : Nat) (f : List Mk) : (csts n f).length = f.length := by
  have h : ∀ (f : List Mk) (acc : List Nat), (f.foldl (fun acc m => acc ++ [cstNode n acc m]) acc).length = acc.length + f.length := by
    intro f
    induction f with
    | nil => intro acc; simp
    | cons m f ih => intro acc; simp only [List.foldl_cons, ih, List.length_append, List.length_cons, List.length_nil]; omega
  simpa [csts] using h f []
theorem csts_take (n : Nat) (f : List Mk) (k : Nat) (m : Mk) (h : f[k]? = some m) : csts n (f.take (k + 1)) = csts n (f.take k) ++ [cstNode n (csts n (f.take k)) m] := by
  have hk : k < f.length := (List.getElem?_eq_some_iff.1 h).1
  have hm : f[k] = m := (List.getElem?_eq_some_iff.1 h).2
  rw [List.take_succ_eq_append_getElem hk, hm]
  simp [csts]
theorem csts_prefix (n : Nat) (g : List Mk) : ∀ acc : List Nat, (g.foldl (fun acc m => acc ++ [cstNode n acc m]) acc).take acc.length = acc := by
  induction g with
  | nil => intro acc; simp
  | cons m g ih =>
    intro acc
    have h := ih (acc ++ [cstNode n acc m])
    simp only [List.foldl_cons]
    have h2 := congrArg (List.take acc.length) h
    rw [List.take_take] at h2
    simpa [Nat.min_eq_left] using h2
theorem csts_take_eq (n : Nat) (f : List Mk) (k : Nat) (hk : k ≤ f.length) : csts n (f.take k) = (csts n f).take k := by
  have h := csts_prefix n (f.drop k) (csts n (f.take k))
  have e : (f.drop k).foldl (fun acc m => acc ++ [cstNode n acc m]) (csts n (f.take k)) = csts n f := by
    unfold csts
    rw [← List.foldl_append, List.take_append_drop]
  rw [e, csts_len, List.length_take, Nat.min_eq_left hk] at h
  exact h.symm
theorem csts_get (n : Nat) (f : List Mk) (i : Nat) (m : Mk) (h : f[i]? = some m) : (csts n f).getD i 0 = cstNode n ((csts n f).take i) m := by
  have hi : i < f.length := (List.getElem?_eq_some_iff.1 h).1
  have e := csts_take n f i m h
  rw [csts_take_eq n f (i + 1) hi, csts_take_eq n f i (by omega)] at e
  have h2 := congrArg (fun l : List Nat => l[i]?) e
  have hl : ((csts n f).take i).length = i := by rw [List.length_take, csts_len]; omega
  simp only [List.getElem?_take] at h2
  rw [if_pos (by omega), List.getElem?_append_right (by omega), hl] at h2
  simp at h2
  rw [List.getD_eq_getElem?_getD, h2]; rfl
theorem cstRaw_pos (n : Nat) (op : Int) (a b : Nat) : 1 ≤ cstRaw n op a b := by
  unfold cstRaw
  repeat' split
  all_goals omega
theorem cstNode_pos (n : Nat) (acc : List Nat) (m : Mk) : 1 ≤ cstNode n acc m := by
  have := cstRaw_pos n m.op (acc.getD m.a.toNat 0) (acc.getD m.b.toNat 0)
  unfold cstNode; omega
theorem cstNode_le (n : Nat) (acc : List Nat) (m : Mk) : cstNode n acc m ≤ 1073741824 := by unfold cstNode; omega
theorem csts_bd (n : Nat) (f : List Mk) (j : Nat) (hj : j < f.length) : 1 ≤ (csts n f).getD j 0 ∧ (csts n f).getD j 0 ≤ 1073741824 := by
  rw [csts_get n f j f[j] (List.getElem?_eq_getElem hj)]
  exact ⟨cstNode_pos _ _ _, cstNode_le _ _ _⟩
theorem costT_bd (n : Nat) (t : Tr) : 1 ≤ costT n t ∧ costT n t ≤ 1073741824 := by
  cases t with
  | leaf => simp [costT]
  | un op x a => have := cstRaw_pos n op (costT n a) 0; simp only [costT]; omega
  | bin op a b => have := cstRaw_pos n op (costT n a) (costT n b); simp only [costT]; omega

/-- The costs of a formula's blocks are those of its trees. -/
theorem csts_tree (n : Nat) (f : List Mk) : ∀ (t : Tr) (p : Nat), t.ok → (∀ j, j < t.size → f[p + j]? = (t.enc p)[j]?) → (csts n f).getD (p + t.size - 1) 0 = costT n t := by
  intro t
  induction t with
  | leaf op x y =>
    intro p hok hs
    have hm : f[p]? = some ⟨op, x, y, 0, 0⟩ := by have := hs 0 (by simp [Tr.size]); simpa [Tr.enc] using this
    simp only [Tr.size, Nat.add_sub_cancel]
    rw [csts_get n f p _ hm]
    have h9 : nc op = 0 := hok.2.1
    have h0 : op ≠ 9 ∧ ¬ (op = 10 ∨ op = 11) ∧ ¬ (op = 12 ∨ op = 13) ∧ ¬ (op = 14 ∨ op = 15) := by
      unfold nc at h9
      by_cases c1 : op = 10 ∨ op = 11
      · rw [if_pos c1] at h9; omega
      · by_cases c2 : op = 9 ∨ (12 ≤ op ∧ op ≤ 15)
        · rw [if_neg c1, if_pos c2] at h9; omega
        · refine ⟨?_, ?_, ?_, ?_⟩ <;> omega
    simp [cstNode, cstRaw, costT, h0]
  | un op x a ih =>
    intro p hok hs
    have hpos := a.size_pos
    have hm : f[p + a.size]? = some ⟨op, x, 0, ((p + a.size - 1 : Nat) : Int), 0⟩ := by
      have := hs a.size (by simp [Tr.size])
      rw [this, Tr.enc, List.getElem?_append_right (by rw [Tr.enc_len]; exact Nat.le_refl _), Tr.enc_len]; simp
    have hsa : ∀ j, j < a.size → f[p + j]? = (a.enc p)[j]? := fun j hj => by
      rw [hs j (by simp [Tr.size]; omega), Tr.enc, List.getElem?_append_left (by rw [Tr.enc_len]; exact hj)]
    have h1 := ih p hok.2 hsa
    have e : p + (Tr.un op x a).size - 1 = p + a.size := by simp only [Tr.size]; omega
    rw [e, csts_get n f _ _ hm]
    have hb : ¬ (op = 10 ∨ op = 11) := by
      intro h
      have : nc op = 1 := hok.1.2.1
      unfold nc at this
      rw [if_pos h] at this; omega
    simp only [cstNode, costT, Int.toNat_natCast]
    rw [take_getD _ _ _ (by omega), h1]
    simp only [cstRaw, hb, if_false]
  | bin op a b iha ihb =>
    intro p hok hs
    have hposa := a.size_pos
    have hposb := b.size_pos
    have hm : f[p + a.size + b.size]? = some ⟨op, 0, 0, ((p + a.size - 1 : Nat) : Int), ((p + a.size + b.size - 1 : Nat) : Int)⟩ := by
      have := hs (a.size + b.size) (by simp [Tr.size])
      rw [Nat.add_assoc, this, Tr.enc, List.getElem?_append_right (by rw [Tr.enc_len]; omega), Tr.enc_len, List.getElem?_append_right (by rw [Tr.enc_len]; omega), Tr.enc_len]; simp; omega
    have hsa : ∀ j, j < a.size → f[p + j]? = (a.enc p)[j]? := fun j hj => by
      rw [hs j (by simp [Tr.size]; omega), Tr.enc, List.getElem?_append_left (by rw [Tr.enc_len]; exact hj)]
    have hsb : ∀ j, j < b.size → f[p + a.size + j]? = (b.enc (p + a.size))[j]? := fun j hj => by
      have := hs (a.size + j) (by simp [Tr.size]; omega)
      rw [Nat.add_assoc, this, Tr.enc, List.getElem?_append_right (by rw [Tr.enc_len]; omega), Tr.enc_len, List.getElem?_append_left (by rw [Tr.enc_len]; omega)]
      congr 1; omega
    have h1 := iha p hok.2.1 hsa
    have h2 := ihb (p + a.size) hok.2.2 hsb
    have e : p + (Tr.bin op a b).size - 1 = p + a.size + b.size := by simp only [Tr.size]; omega
    rw [e, csts_get n f _ _ hm]
    simp only [cstNode, costT, Int.toNat_natCast]
    rw [take_getD _ _ _ (by omega), take_getD _ _ _ (by omega), h1, h2]
theorem costS_tree (n : Nat) (f : List Mk) (t : Tr) (hok : t.ok) (hs : t.size = f.length) (he : f = t.enc 0) : costS n f = costT n t := by
  have := csts_tree n f t 0 hok (fun j hj => by rw [Nat.zero_add, ← he])
  unfold costS
  rw [← this, Nat.zero_add, hs]

/-- Elements and a relation between them. -/
structure Stc where
  n : Nat
  rel : Int → Nat → Nat → Bool
def isOne (s : Nat) : Bool := decide (s = 2 ^ Nat.log2 s)
def atomS (S : Stc) (op : Int) (p q : Nat) : Bool :=
  if op = 1 then true else if op = 2 then decide (p &&& q = p) else if op = 3 then decide (p = 0) else if op = 4 then isOne p
  else isOne p && isOne q && S.rel op (Nat.log2 p) (Nat.log2 q)
def setN (n : Nat) : Nat := 2 ^ n % 18446744073709551616
def getV (a : List Nat) (x : Int) : Nat := a.getD x.toNat 0
def setV (a : List Nat) (x : Int) (s : Nat) : List Nat := a.set x.toNat s
def holdsT (S : Stc) : Tr → List Nat → Bool
  | .leaf op x y, a => atomS S op (getV a x) (getV a y)
  | .un op x t, a =>
    if op = 9 then !holdsT S t a
    else if op = 12 then (List.range (setN S.n)).any fun s => holdsT S t (setV a x s)
    else if op = 13 then (List.range (setN S.n)).all fun s => holdsT S t (setV a x s)
    else if op = 14 then (List.range S.n).any fun p => holdsT S t (setV a x (2 ^ p))
    else (List.range S.n).all fun p => holdsT S t (setV a x (2 ^ p))
  | .bin op t u, a => if op = 10 then holdsT S t a && holdsT S u a else holdsT S t a || holdsT S u a

/-- The set of a variable that letters give. -/
def givenV (w : List Nat) (v : Nat) : Nat := (w.zipIdx.map fun xp => (xp.1 / 2 ^ v % 2) * 2 ^ xp.2).sum
def givenS (w : List Nat) : List Nat := (List.range 6).map (givenV w)

def relWord (op : Int) (p q : Nat) : Bool := if op = 5 then decide (q = p + 1) else decide (p < q)
def stcWord (n : Nat) : Stc := ⟨n, relWord⟩

end Go.Proofs.YtdlibehffgfhlaaDoor

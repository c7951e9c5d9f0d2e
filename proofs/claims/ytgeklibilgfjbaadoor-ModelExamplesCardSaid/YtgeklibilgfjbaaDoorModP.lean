/- Plain functions: Word, Tree and Cost as functions of their arguments; only free variables matter. No program in sight. -/
import Derived.Test.YtgeklibilgfjbaaDoorModS
import Derived.Test.YtgeklibilgfjbaaDoorOnes
set_option linter.unusedSimpArgs false
set_option linter.unusedVariables false
namespace Go.Proofs.YtgeklibilgfjbaaDoor

theorem nc0_op {op : Int} (h : nc op = 0) : (op == 9) = false ∧ (op == 10) = false ∧ (op == 11) = false ∧ (op == 12) = false ∧ (op == 13) = false ∧ (op == 14) = false ∧ (op == 15) = false := by
  unfold nc at h
  by_cases c1 : op = 10 ∨ op = 11
  · rw [if_pos c1] at h; omega
  · by_cases c2 : op = 9 ∨ (12 ≤ op ∧ op ≤ 15)
    · rw [if_neg c1, if_pos c2] at h; omega
    · simp only [beq_eq_false_iff_ne]; omega
theorem nc1_op {op : Int} (h : nc op = 1) : op = 9 ∨ op = 12 ∨ op = 13 ∨ op = 14 ∨ op = 15 := by
  unfold nc at h
  by_cases c1 : op = 10 ∨ op = 11
  · rw [if_pos c1] at h; omega
  · by_cases c2 : op = 9 ∨ (12 ≤ op ∧ op ≤ 15)
    · omega
    · rw [if_neg c1, if_neg c2] at h; omega
theorem nc2_op {op : Int} (h : nc op = 2) : op = 10 ∨ op = 11 := by
  unfold nc at h
  by_cases c1 : op = 10 ∨ op = 11
  · exact c1
  · rw [if_neg c1] at h; split at h <;> omega
/-- The tree of a formed list of marks. -/
def treeAt (f : List Mk) : Nat → Nat → Tr
  | 0, _ => .leaf 1 0 0
  | k + 1, i => match f[i]? with
    | none => .leaf 1 0 0
    | some m => if nc m.op = 0 then .leaf m.op m.x m.y else if nc m.op = 1 then .un m.op m.x (treeAt f k m.a.toNat) else .bin m.op (treeAt f k m.a.toNat) (treeAt f k m.b.toNat)
def treeOf (f : List Mk) : Tr := treeAt f f.length (f.length - 1)
/-- The segment of f from p on is the tree t. -/
def Sg (f : List Mk) (p : Nat) (t : Tr) : Prop := ∀ j, j < t.size → f[p + j]? = (t.enc p)[j]?
theorem Sg.leaf {f : List Mk} {p : Nat} {op x y : Int} (h : Sg f p (.leaf op x y)) : f[p]? = some ⟨op, x, y, 0, 0⟩ := by
  have := h 0 (by simp [Tr.size]); simpa [Tr.enc] using this
theorem Sg.un {f : List Mk} {p : Nat} {op x : Int} {a : Tr} (h : Sg f p (.un op x a)) : f[p + a.size]? = some ⟨op, x, 0, ((p + a.size - 1 : Nat) : Int), 0⟩ := by
  have := h a.size (by simp [Tr.size])
  rw [this, Tr.enc, List.getElem?_append_right (by rw [Tr.enc_len]; exact Nat.le_refl _), Tr.enc_len]; simp
theorem Sg.un1 {f : List Mk} {p : Nat} {op x : Int} {a : Tr} (h : Sg f p (.un op x a)) : Sg f p a := fun j hj => by
  rw [h j (by simp [Tr.size]; omega), Tr.enc, List.getElem?_append_left (by rw [Tr.enc_len]; exact hj)]
theorem Sg.bin {f : List Mk} {p : Nat} {op : Int} {a b : Tr} (h : Sg f p (.bin op a b)) : f[p + a.size + b.size]? = some ⟨op, 0, 0, ((p + a.size - 1 : Nat) : Int), ((p + a.size + b.size - 1 : Nat) : Int)⟩ := by
  have := h (a.size + b.size) (by simp [Tr.size])
  have hb := b.size_pos
  rw [Nat.add_assoc, this, Tr.enc, List.getElem?_append_right (by rw [Tr.enc_len]; omega), Tr.enc_len, List.getElem?_append_right (by rw [Tr.enc_len]; omega), Tr.enc_len]; simp; omega
theorem Sg.bin1 {f : List Mk} {p : Nat} {op : Int} {a b : Tr} (h : Sg f p (.bin op a b)) : Sg f p a := fun j hj => by
  rw [h j (by simp [Tr.size]; omega), Tr.enc, List.getElem?_append_left (by rw [Tr.enc_len]; exact hj)]
theorem Sg.bin2 {f : List Mk} {p : Nat} {op : Int} {a b : Tr} (h : Sg f p (.bin op a b)) : Sg f (p + a.size) b := fun j hj => by
  have := h (a.size + j) (by simp [Tr.size]; omega)
  rw [Nat.add_assoc, this, Tr.enc, List.getElem?_append_right (by rw [Tr.enc_len]; omega), Tr.enc_len, List.getElem?_append_left (by rw [Tr.enc_len]; omega)]
  congr 1; omega
theorem treeAt_eq (f : List Mk) : ∀ (t : Tr) (p k : Nat), t.ok → Sg f p t → t.size ≤ k → treeAt f k (p + t.size - 1) = t := by
  intro t
  induction t with
  | leaf op x y =>
    intro p k hok hs hk
    obtain ⟨k, rfl⟩ : ∃ j, k = j + 1 := ⟨k - 1, by simp [Tr.size] at hk; omega⟩
    have hm := hs.leaf
    simp only [Tr.size, Nat.add_sub_cancel, treeAt, hm, hok.2.1, if_true]
  | un op x a ih =>
    intro p k hok hs hk
    have hpos := a.size_pos
    obtain ⟨k, rfl⟩ : ∃ j, k = j + 1 := ⟨k - 1, by simp [Tr.size] at hk; omega⟩
    have e : p + (Tr.un op x a).size - 1 = p + a.size := by simp only [Tr.size]; omega
    have h1 : nc op = 1 := hok.1.2.1
    simp only [e, treeAt, hs.un, h1, Int.toNat_natCast]
    rw [ih p k hok.2 hs.un1 (by simp [Tr.size] at hk; omega)]
    simp
  | bin op a b iha ihb =>
    intro p k hok hs hk
    have hposa := a.size_pos
    have hposb := b.size_pos
    obtain ⟨k, rfl⟩ : ∃ j, k = j + 1 := ⟨k - 1, by simp [Tr.size] at hk; omega⟩
    have e : p + (Tr.bin op a b).size - 1 = p + a.size + b.size := by simp only [Tr.size]; omega
    have h1 : nc op = 2 := hok.1
    simp only [Tr.size] at hk
    simp only [e, treeAt, hs.bin, h1, Int.toNat_natCast]
    rw [iha p k hok.2.1 hs.bin1 (by omega), ihb (p + a.size) k hok.2.2 hs.bin2 (by omega)]
    simp
theorem treeOf_eq (t : Tr) (hok : t.ok) : treeOf (t.enc 0) = t := by
  have := treeAt_eq (t.enc 0) t 0 t.size hok (fun j hj => by rw [Nat.zero_add]) (Nat.le_refl _)
  unfold treeOf
  rw [Tr.enc_len]
  rw [Nat.zero_add] at this
  exact this
theorem treeOf_ok {f : List Mk} (h : formedS f = true) : f.length ≤ 64 ∧ (treeOf f).ok ∧ (treeOf f).size = f.length ∧ f = (treeOf f).enc 0 := by
  obtain ⟨h64, t, ok, hs, he⟩ := formed_tree f h
  have : treeOf f = t := by rw [he]; exact treeOf_eq t ok
  rw [this]; exact ⟨h64, ok, hs, he⟩
theorem costS_eq {f : List Mk} (h : formedS f = true) (n : Nat) : costS n f = costT n (treeOf f) := by
  obtain ⟨_, ok, hs, he⟩ := treeOf_ok h
  exact costS_tree n f _ ok hs he

def badL (vars : Int) (x : Nat) : Bool := decide ((x : Int) / 2 ^ vars.toNat ≠ 0)
def evalS (S : Stc) (f : List Mk) (l : List Nat) : Bool × Int := if 65536 < costT S.n (treeOf f) then (false, 10) else (holdsT S (treeOf f) (givenS l), 0)
def wordS (f : List Mk) (vars : Int) (l : List Nat) : Bool × Int :=
  if checkS f vars false ≠ 0 then (false, checkS f vars false) else if 64 < l.length then (false, 4) else if l.any (badL vars) then (false, 1) else evalS (stcWord l.length) f l
def modelTreeS (f : List Mk) (vars : Int) (t : List Lf) : Bool × Int :=
  if checkS f vars true ≠ 0 then (false, checkS f vars true) else if checkT t vars ≠ 0 then (false, checkT t vars) else evalS (stcTree t) f (labelsS t)
def modelCostS (f : List Mk) (n : Int) : Int × Int :=
  if n < 0 ∨ 64 < n then (0, 1) else if formedS f then (costT n.toNat (treeOf f), 0) else (0, 2)

theorem givenV_snoc (l : List Nat) (x v : Nat) : givenV (l ++ [x]) v = givenV l v + x / 2 ^ v % 2 * 2 ^ l.length := by
  unfold givenV
  rw [List.zipIdx_append]
  simp
theorem givenV_lt (l : List Nat) (v : Nat) : givenV l v < 2 ^ l.length := by
  have key : ∀ k, k ≤ l.length → givenV (l.take k) v < 2 ^ k := by
    intro k
    induction k with
    | zero => intro _; simp [givenV]
    | succ k ih =>
      intro hk
      have h := ih (by omega)
      obtain ⟨x, hx⟩ : ∃ x, l[k]? = some x := ⟨l[k], List.getElem?_eq_getElem (by omega)⟩
      rw [List.take_add_one, hx]
      simp only [Option.toList_some]
      rw [givenV_snoc, List.length_take, Nat.min_eq_left (by omega), Nat.pow_succ]
      have h1 : x / 2 ^ v % 2 ≤ 1 := by omega
      have h2 : x / 2 ^ v % 2 * 2 ^ k ≤ 1 * 2 ^ k := Nat.mul_le_mul_right _ h1
      omega
  have := key l.length (Nat.le_refl _)
  rwa [List.take_length] at this
theorem givenS_eq (l : List Nat) : givenS l = [givenV l 0, givenV l 1, givenV l 2, givenV l 3, givenV l 4, givenV l 5] := rfl
theorem or_bit (a b p : Nat) (h : a < 2 ^ p) : a ||| (b * 2 ^ p) = a + b * 2 ^ p := by
  rw [Nat.or_comm, Nat.mul_comm, ← Nat.two_pow_add_eq_or_of_lt h, Nat.add_comm]

/-- Only free variables matter. -/
def freeT (v : Nat) : Tr → Bool
  | .leaf op x y => decide (0 < nv op) && decide (x.toNat = v) || decide (1 < nv op) && decide (y.toNat = v)
  | .un op x a => if op = 9 then freeT v a else decide (x.toNat ≠ v) && freeT v a
  | .bin _ a b => freeT v a || freeT v b
theorem getV_setV (a : List Nat) (x y : Int) (s : Nat) : getV (setV a x s) y = if x.toNat = y.toNat ∧ x.toNat < a.length then s else getV a y := by
  unfold getV setV
  simp only [List.getD_eq_getElem?_getD, List.getElem?_set]
  by_cases h : x.toNat = y.toNat
  · rw [if_pos h]
    by_cases h2 : x.toNat < a.length
    · rw [if_pos h2, if_pos ⟨h, h2⟩]; rfl
    · have : a[y.toNat]? = none := List.getElem?_eq_none (by omega)
      rw [if_neg h2, if_neg (by omega), this]
  · rw [if_neg h, if_neg (by omega)]
theorem setV_len (a : List Nat) (x : Int) (s : Nat) : (setV a x s).length = a.length := by simp [setV]
theorem nv_atom (op : Int) : nv op = 0 → op ≠ 2 ∧ op ≠ 3 ∧ op ≠ 4 ∧ ¬ (5 ≤ op ∧ op ≤ 8) := by
  intro h
  unfold nv at h
  repeat' split at h
  all_goals omega
theorem holds_agree (S : Stc) : ∀ (t : Tr) (a b : List Nat), t.ok → a.length = b.length → (∀ v, freeT v t = true → a.getD v 0 = b.getD v 0) → holdsT S t a = holdsT S t b := by
  intro t
  induction t with
  | leaf op x y =>
    intro a b hok hl h
    have h1 : nm op ≠ [] := hok.1
    have h0 : nc op = 0 := hok.2.1
    have hx : 0 < nv op → getV a x = getV b x := fun hp => h x.toNat (by simp [freeT, hp])
    have hy : 1 < nv op → getV a y = getV b y := fun hp => h y.toNat (by simp [freeT, hp])
    simp only [holdsT, atomS]
    by_cases h2 : op = 1
    · simp [h2]
    · have hv : op = 3 ∨ op = 4 → nv op = 1 := by intro h; unfold nv; rw [if_pos (by omega)]
      have hv2 : op = 2 ∨ (5 ≤ op ∧ op ≤ 8) → nv op = 2 := by
        intro h; unfold nv; rw [if_neg (by omega), if_pos h]
      have hop : op = 2 ∨ op = 3 ∨ op = 4 ∨ (5 ≤ op ∧ op ≤ 8) := by
        by_cases hr : 1 ≤ op ∧ op ≤ 8
        · omega
        · exfalso
          have hb : 9 ≤ op ∧ op ≤ 15 ∨ op < 1 ∨ 15 < op := by omega
          rcases hb with hb | hb
          · unfold nc at h0
            by_cases hc : op = 10 ∨ op = 11
            · rw [if_pos hc] at h0; omega
            · rw [if_neg hc, if_pos (by omega)] at h0; omega
          · apply h1; unfold nm
            repeat (first | rfl | rw [if_neg (by omega)])
      rcases hop with rfl | rfl | rfl | hop
      · rw [hx (by rw [hv2 (by omega)]; omega), hy (by rw [hv2 (by omega)]; omega)]
      · rw [hx (by rw [hv (by omega)]; omega)]; simp
      · rw [hx (by rw [hv (by omega)]; omega)]; simp
      · rw [hx (by rw [hv2 (by omega)]; omega), hy (by rw [hv2 (by omega)]; omega)]
  | un op x a ih =>
    intro p q hok hl h
    have step : ∀ s, op ≠ 9 → holdsT S a (setV p x s) = holdsT S a (setV q x s) := fun s h9 => by
      refine ih _ _ hok.2 (by rw [setV_len, setV_len, hl]) (fun v hv => ?_)
      have e1 := getV_setV p x v s
      have e2 := getV_setV q x v s
      unfold getV at e1 e2
      simp only [Int.toNat_natCast] at e1 e2
      rw [e1, e2, hl]
      by_cases hx : x.toNat = v
      · by_cases hlt : x.toNat < q.length
        · rw [if_pos ⟨hx, hlt⟩, if_pos ⟨hx, hlt⟩]
        · have h3 : ¬ (x.toNat = v ∧ x.toNat < q.length) := by omega
          rw [if_neg h3, if_neg h3]
          rw [List.getD_eq_getElem?_getD, List.getD_eq_getElem?_getD, List.getElem?_eq_none (by omega), List.getElem?_eq_none (by omega)]
      · rw [if_neg (by omega), if_neg (by omega)]
        refine h v ?_
        simp [freeT, h9, hx, hv]
    simp only [holdsT]
    by_cases h9 : op = 9
    · rw [if_pos h9, if_pos h9, ih p q hok.2 hl (fun v hv => h v (by simp [freeT, h9, hv]))]
    · simp only [if_neg h9, step _ h9]
  | bin op a b iha ihb =>
    intro p q hok hl h
    simp only [holdsT]
    rw [iha p q hok.2.1 hl (fun v hv => h v (by simp [freeT, hv])), ihb p q hok.2.2 hl (fun v hv => h v (by simp [freeT, hv]))]
end Go.Proofs.YtgeklibilgfjbaaDoor

/- Plain functions and lemmas on formulas as lists of marks; no program in sight. -/
set_option linter.unusedSimpArgs false
set_option linter.unusedVariables false
namespace Go.Proofs.YtcjblbhmajdmjaaDoor

/-- A node of a formula. -/
structure Mk where
  op : Int
  x : Int
  y : Int
  a : Int
  b : Int
deriving DecidableEq

/-- The name of an operator, the number of the variables it uses, and the number of its children. -/
def nm (op : Int) : List UInt8 :=
  if op = 1 then [116, 114, 117, 101] else if op = 2 then [115, 117, 98] else if op = 3 then [101, 109, 112, 116, 121]
  else if op = 4 then [115, 105, 110, 103, 108, 101] else if op = 5 then [110, 101, 120, 116] else if op = 6 then [108, 101, 115, 115]
  else if op = 7 then [108, 101, 102, 116] else if op = 8 then [114, 105, 103, 104, 116] else if op = 9 then [110, 111, 116]
  else if op = 10 then [97, 110, 100] else if op = 11 then [111, 114] else if op = 12 then [101, 120, 105, 115, 116, 115]
  else if op = 13 then [102, 111, 114, 97, 108, 108] else if op = 14 then [115, 111, 109, 101] else if op = 15 then [101, 97, 99, 104] else []
def nv (op : Int) : Int :=
  if op = 3 ∨ op = 4 ∨ (12 ≤ op ∧ op ≤ 15) then 1 else if op = 2 ∨ (5 ≤ op ∧ op ≤ 8) then 2 else 0
def nc (op : Int) : Int :=
  if op = 10 ∨ op = 11 then 2 else if op = 9 ∨ (12 ≤ op ∧ op ≤ 15) then 1 else 0
theorem nc_cases (op : Int) : nc op = 0 ∨ nc op = 1 ∨ nc op = 2 := by
  unfold nc
  repeat' split
  all_goals simp
theorem nv_cases (op : Int) : nv op = 0 ∨ nv op = 1 ∨ nv op = 2 := by
  unfold nv
  repeat' split
  all_goals simp

/-- The number of nodes in the block of a node, when those before it have the numbers acc; 0 if its children are wrong. -/
def blk (acc : List Nat) (m : Mk) : Nat :=
  let i := acc.length
  if nc m.op = 0 then (if m.a = 0 ∧ m.b = 0 then 1 else 0)
  else if i = 0 then 0
  else
    let s1 := acc.getD (i - 1) 0
    if s1 = 0 then 0
    else if nc m.op = 1 then (if m.a = i - 1 ∧ m.b = 0 then 1 + s1 else 0)
    else if i - s1 = 0 then 0
    else
      let s2 := acc.getD (i - s1 - 1) 0
      if s2 = 0 then 0 else if m.b = i - 1 ∧ m.a = ((i - s1 - 1 : Nat) : Int) then 1 + s1 + s2 else 0
def szs (f : List Mk) : List Nat := f.foldl (fun acc m => acc ++ [blk acc m]) []

theorem szs_len (f : List Mk) : (szs f).length = f.length := by
  have h : ∀ (f : List Mk) (acc : List Nat), (f.foldl (fun acc m => acc ++ [blk acc m]) acc).length = acc.length + f.length := by
    intro f
    induction f with
    | nil => intro acc; simp
    | cons m f ih => intro acc; simp only [List.foldl_cons, ih, List.length_append, List.length_cons, List.length_nil]; omega
  simpa [szs] using h f []
theorem szs_take (f : List Mk) (k : Nat) (m : Mk) (h : f[k]? = some m) : szs (f.take (k + 1)) = szs (f.take k) ++ [blk (szs (f.take k)) m] := by
  have hk : k < f.length := (List.getElem?_eq_some_iff.1 h).1
  have hm : f[k] = m := (List.getElem?_eq_some_iff.1 h).2
  rw [List.take_succ_eq_append_getElem hk, hm]
  simp [szs]
theorem szs_snoc (f : List Mk) (m : Mk) : szs (f ++ [m]) = szs f ++ [blk (szs f) m] := by
  simp [szs]
theorem szs_le (f : List Mk) (j : Nat) : (szs f).getD j 0 ≤ j + 1 := by
  have h : ∀ (n : Nat) (f : List Mk), f.length = n → ∀ j, (szs f).getD j 0 ≤ j + 1 := by
    intro n
    induction n with
    | zero => intro f hf j; have : f = [] := List.length_eq_zero_iff.1 hf; subst this; simp [szs]
    | succ n ih =>
      intro f hf j
      obtain ⟨m, hm⟩ : ∃ m, f[n]? = some m := ⟨f[n]'(by omega), List.getElem?_eq_getElem _⟩
      have e := szs_take f n m hm
      rw [List.take_of_length_le (by omega)] at e
      have ihn := ih (f.take n) (by simp; omega)
      have hl : (szs (f.take n)).length = n := by rw [szs_len]; simp; omega
      rw [e]
      rcases Nat.lt_trichotomy j n with h | h | h
      · rw [List.getD_eq_getElem?_getD, List.getElem?_append_left (by omega), ← List.getD_eq_getElem?_getD]; exact ihn j
      · subst h
        rw [List.getD_eq_getElem?_getD, List.getElem?_append_right (by omega), hl]
        simp only [Nat.sub_self, List.getElem?_cons_zero, Option.getD_some, blk, hl]
        have i1 := ihn (j - 1)
        have i2 := ihn (j - (szs (f.take j)).getD (j - 1) 0 - 1)
        generalize (szs (f.take j)).getD (j - 1) 0 = s1 at *
        generalize (szs (f.take j)).getD (j - s1 - 1) 0 = s2 at *
        repeat' split
        all_goals omega
      · rw [List.getD_eq_getElem?_getD, List.getElem?_append_right (by omega), ← List.getD_eq_getElem?_getD]
        have : 1 ≤ j - (szs (f.take n)).length := by omega
        rw [List.getD_eq_getElem?_getD, List.getElem?_eq_none (by simpa using this)]
        simp
  exact h _ f rfl j

/-- The error of one node: 0 is none. -/
def within (m : Mk) (vars : Int) : Bool :=
  (decide (nv m.op < 1) || (decide (0 ≤ m.x) && decide (m.x < vars))) && (decide (nv m.op < 2) || (decide (0 ≤ m.y) && decide (m.y < vars)))
def spare (m : Mk) : Bool := (decide (0 < nv m.op) || decide (m.x = 0)) && (decide (1 < nv m.op) || decide (m.y = 0))
def chkNode (vars : Int) (known : Int → Bool) (m : Mk) (s : Nat) : Int :=
  if nm m.op = [] then 6 else if known m.op = false then 6 else if within m vars = false then 7 else if spare m = false then 2 else if s = 0 then 2 else 0
def chkList (vars : Int) (known : Int → Bool) : List Mk → List Nat → Int
  | m :: f, s :: ss => if chkNode vars known m s = 0 then chkList vars known f ss else chkNode vars known m s
  | _, _ => 0
def chk (f : List Mk) (vars : Int) (known : Int → Bool) : Int :=
  if f.length = 0 then 3 else if 64 < f.length then 4
  else if chkList vars known f (szs f) = 0 then (if (szs f).getD (f.length - 1) 0 = f.length then 0 else 2) else chkList vars known f (szs f)
def knows (trees : Bool) (op : Int) : Bool := if trees then decide (op ≠ 5) else decide (op ≠ 7) && decide (op ≠ 8)
def checkS (f : List Mk) (vars : Int) (trees : Bool) : Int :=
  if vars < 0 ∨ (if trees then 3 else 6) < vars then 7 else chk f vars (knows trees)
def formedS (f : List Mk) : Bool := decide (chk f 6 (fun _ => true) = 0)

end Go.Proofs.YtcjblbhmajdmjaaDoor

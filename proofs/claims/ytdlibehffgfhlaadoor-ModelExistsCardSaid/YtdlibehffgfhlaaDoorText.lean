/- The text of a tree; the stack of Format. -/
import Derived.Test.YtdlibehffgfhlaaDoorTree
import Derived.Test.YtdlibehffgfhlaaDoorStr
import Derived.Lib.Join
set_option linter.unusedSimpArgs false
set_option linter.unusedVariables false
namespace Go.Proofs.YtdlibehffgfhlaaDoor

def varB (x : Int) : List UInt8 := [UInt8.ofNat (65 + x.toNat)]
/-- What Format makes of a node that is not "true", from the texts of its children. -/
def fmtNode (m : Mk) (cs : List (List UInt8)) : List UInt8 := [40] ++ Lib.join (nm m.op :: (occ m).map varB ++ cs) [32] ++ [41]
def fmtAt (st : List (List UInt8)) (m : Mk) : Nat := st.length - (nc m.op).toNat
def fmtStep (st : List (List UInt8)) (m : Mk) : List (List UInt8) :=
  if m.op = 1 then st ++ [nm m.op] else st.take (fmtAt st m) ++ [fmtNode m (st.drop (fmtAt st m))]
def Tr.text : Tr → List UInt8
  | .leaf op x y => if op = 1 then nm op else fmtNode ⟨op, x, y, 0, 0⟩ []
  | .un op x a => fmtNode ⟨op, x, 0, 0, 0⟩ [a.text]
  | .bin op a b => fmtNode ⟨op, 0, 0, 0, 0⟩ [a.text, b.text]

theorem fmtNode_ab (m : Mk) (a b : Int) (cs : List (List UInt8)) : fmtNode { m with a := a, b := b } cs = fmtNode m cs := rfl

/-- No step of the stack falls short. -/
def stOk : List (List UInt8) → List Mk → Prop
  | _, [] => True
  | st, m :: l => (nc m.op).toNat ≤ st.length ∧ stOk (fmtStep st m) l
theorem stOk_append (l1 : List Mk) : ∀ st l2, stOk st (l1 ++ l2) ↔ stOk st l1 ∧ stOk (l1.foldl fmtStep st) l2 := by
  induction l1 with
  | nil => intro st l2; simp [stOk]
  | cons m l ih => intro st l2; simp [stOk, ih, and_assoc]

theorem op1_nc {op : Int} (h : nc op ≠ 0) : op ≠ 1 := by
  intro h1; subst h1; exact h (by decide)

theorem Tr.enc_fmt (t : Tr) : t.ok → ∀ p st, stOk st (t.enc p) ∧ (t.enc p).foldl fmtStep st = st ++ [t.text] := by
  induction t with
  | leaf op x y =>
    intro ok p st
    have h0 : nc op = 0 := ok.2.1
    refine ⟨by simp [Tr.enc, stOk, h0], ?_⟩
    simp only [Tr.enc, List.foldl_cons, List.foldl_nil, fmtStep, Tr.text]
    split
    · rfl
    · simp [fmtAt, h0]
  | un op x a ih =>
    intro ok p st
    have h0 : nc op = 1 := ok.1.2.1
    obtain ⟨i1, i2⟩ := ih ok.2 p st
    have h1 : op ≠ 1 := op1_nc (by omega)
    refine ⟨?_, ?_⟩
    · rw [Tr.enc, stOk_append]
      exact ⟨i1, by rw [i2]; simp [stOk, h0]⟩
    · rw [Tr.enc, List.foldl_append, i2]
      simp only [List.foldl_cons, List.foldl_nil, fmtStep, Tr.text, if_neg h1]
      simp [fmtAt, h0]
      rfl
  | bin op a b iha ihb =>
    intro ok p st
    have h0 : nc op = 2 := ok.1
    obtain ⟨i1, i2⟩ := iha ok.2.1 p st
    obtain ⟨j1, j2⟩ := ihb ok.2.2 (p + a.size) (st ++ [a.text])
    have h1 : op ≠ 1 := op1_nc (by omega)
    refine ⟨?_, ?_⟩
    · rw [Tr.enc, stOk_append, i2, stOk_append, j2]
      exact ⟨i1, j1, by simp [stOk, h0]⟩
    · rw [Tr.enc, List.foldl_append, i2, List.foldl_append, j2]
      simp only [List.foldl_cons, List.foldl_nil, fmtStep, Tr.text, if_neg h1]
      simp [fmtAt, h0]
      rfl

/-- The stack behind the first k marks. -/
def stk (f : List Mk) (k : Nat) : List (List UInt8) := (f.take k).foldl fmtStep []
theorem stk_succ (f : List Mk) (k : Nat) (m : Mk) (h : f[k]? = some m) : stk f (k + 1) = fmtStep (stk f k) m := by
  have hk : k < f.length := (List.getElem?_eq_some_iff.1 h).1
  have hm : f[k] = m := (List.getElem?_eq_some_iff.1 h).2
  unfold stk
  rw [List.take_succ_eq_append_getElem hk, List.foldl_append, hm]; rfl
theorem stk_ok (f : List Mk) (hf : formedS f = true) (k : Nat) (m : Mk) (h : f[k]? = some m) : (nc m.op).toNat ≤ (stk f k).length := by
  obtain ⟨_, t, ok, _, he⟩ := formed_tree f hf
  have h1 := (t.enc_fmt ok 0 []).1
  rw [← he] at h1
  have hk : k < f.length := (List.getElem?_eq_some_iff.1 h).1
  have hm : f[k] = m := (List.getElem?_eq_some_iff.1 h).2
  rw [← List.take_append_drop k f, stOk_append, List.drop_eq_getElem_cons hk, hm] at h1
  exact h1.2.1
theorem formed_text (f : List Mk) (hf : formedS f = true) : ∃ t : Tr, t.ok ∧ f = t.enc 0 ∧ stk f f.length = [t.text] := by
  obtain ⟨_, t, ok, _, he⟩ := formed_tree f hf
  refine ⟨t, ok, he, ?_⟩
  unfold stk
  rw [List.take_length]
  have h := (t.enc_fmt ok 0 []).2
  rw [← he] at h
  simpa using h

theorem len_ite {c : Prop} [Decidable c] {a b : List UInt8} (ha : a.length ≤ 10) (hb : b.length ≤ 10) : (if c then a else b).length ≤ 10 := by split <;> assumption
theorem nm_len (op : Int) : (nm op).length ≤ 10 := by
  unfold nm
  iterate 15 refine len_ite (by decide) ?_
  decide
def tot (st : List (List UInt8)) : Nat := (st.map List.length).sum
theorem join_len (xs : List (List UInt8)) : (Lib.join xs [32]).length ≤ tot xs + xs.length := by
  cases xs with
  | nil => simp [Lib.join_nil, tot]
  | cons x r =>
    rw [Lib.join_cons, Lib.joinTail]
    have h : ((r.map ([32] ++ ·)).flatten).length = tot r + r.length := by
      clear x
      induction r with
      | nil => rfl
      | cons y r ih => simp only [List.map_cons, List.flatten_cons, List.length_append, ih, tot, List.sum_cons, List.length_cons, List.length_nil] ; omega
    simp only [List.length_append, h, tot, List.map_cons, List.sum_cons, List.length_cons]
    omega
theorem occ_len (m : Mk) : (occ m).length ≤ 2 := by unfold occ; simp [List.length_take]; omega
theorem fmtStep_tot (st : List (List UInt8)) (m : Mk) : tot (fmtStep st m) ≤ tot st + st.length + 20 := by
  have h1 := nm_len m.op
  unfold fmtStep
  split
  · simp [tot]; omega
  · have h2 := join_len (nm m.op :: (occ m).map varB ++ st.drop (fmtAt st m))
    have h3 := occ_len m
    have h4 : tot st = tot (st.take (fmtAt st m)) + tot (st.drop (fmtAt st m)) := by
      unfold tot
      rw [← List.sum_append, ← List.map_append, List.take_append_drop]
    have h5 : tot (nm m.op :: (occ m).map varB ++ st.drop (fmtAt st m)) = (nm m.op).length + (occ m).length + tot (st.drop (fmtAt st m)) := by
      unfold tot
      rw [List.map_append, List.sum_append, List.map_cons, List.sum_cons, List.map_map]
      have : ((occ m).map (List.length ∘ varB)).sum = (occ m).length := by
        generalize occ m = l
        induction l with
        | nil => rfl
        | cons a l ih => simp only [List.map_cons, List.sum_cons, ih, List.length_cons, Function.comp, varB, List.length_nil]; omega
      omega
    have h6 : tot (st.take (fmtAt st m) ++ [fmtNode m (st.drop (fmtAt st m))]) = tot (st.take (fmtAt st m)) + (fmtNode m (st.drop (fmtAt st m))).length := by simp [tot]
    have h7 : (fmtNode m (st.drop (fmtAt st m))).length = (Lib.join (nm m.op :: (occ m).map varB ++ st.drop (fmtAt st m)) [32]).length + 2 := by simp [fmtNode]
    have h8 : (nm m.op :: (occ m).map varB ++ st.drop (fmtAt st m)).length = 1 + (occ m).length + (st.drop (fmtAt st m)).length := by simp; omega
    have h9 : (st.drop (fmtAt st m)).length ≤ st.length := by simp
    omega
theorem fmtStep_len (st : List (List UInt8)) (m : Mk) : (fmtStep st m).length ≤ st.length + 1 := by
  unfold fmtStep
  split
  · simp
  · simp; omega
theorem stk_bound (f : List Mk) (hf : f.length ≤ 64) : ∀ k, k ≤ f.length → (stk f k).length ≤ k ∧ tot (stk f k) ≤ 100 * k := by
  intro k
  induction k with
  | zero => intro _; simp [stk, tot]
  | succ k ih =>
    intro hk
    obtain ⟨h1, h2⟩ := ih (by omega)
    rw [stk_succ f k _ (List.getElem?_eq_getElem (by omega))]
    have h3 := fmtStep_tot (stk f k) (f[k]'(by omega))
    have h4 := fmtStep_len (stk f k) (f[k]'(by omega))
    omega
end Go.Proofs.YtdlibehffgfhlaaDoor

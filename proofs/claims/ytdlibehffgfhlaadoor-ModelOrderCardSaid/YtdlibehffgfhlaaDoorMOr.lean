/- ModelOrder: for every word and tree the law returns true. (Printed by gen_order.py.) -/
import Derived.Test.YtdlibehffgfhlaaDoorMdlG
import Derived.Test.YtdlibehffgfhlaaDoorModP
import Derived.Test.YtdlibehffgfhlaaDoorParse
import Derived.Test.YtdlibehffgfhlaaDoorMBoP
set_option linter.unusedSimpArgs false
set_option linter.unusedVariables false
namespace Go.Proofs.YtdlibehffgfhlaaDoor
def FO : List Mk := (parseS [40, 101, 97, 99, 104, 32, 65, 32, 40, 101, 97, 99, 104, 32, 66, 32, 40, 111, 114, 32, 40, 97, 110, 100, 32, 40, 108, 101, 115, 115, 32, 65, 32, 66, 41, 32, 40, 102, 111, 114, 97, 108, 108, 32, 67, 32, 40, 111, 114, 32, 40, 111, 114, 32, 40, 110, 111, 116, 32, 40, 115, 117, 98, 32, 65, 32, 67, 41, 41, 32, 40, 115, 117, 98, 32, 66, 32, 67, 41, 41, 32, 40, 115, 111, 109, 101, 32, 68, 32, 40, 115, 111, 109, 101, 32, 69, 32, 40, 97, 110, 100, 32, 40, 110, 101, 120, 116, 32, 68, 32, 69, 41, 32, 40, 97, 110, 100, 32, 40, 115, 117, 98, 32, 68, 32, 67, 41, 32, 40, 110, 111, 116, 32, 40, 115, 117, 98, 32, 69, 32, 67, 41, 41, 41, 41, 41, 41, 41, 41, 41, 32, 40, 97, 110, 100, 32, 40, 110, 111, 116, 32, 40, 108, 101, 115, 115, 32, 65, 32, 66, 41, 41, 32, 40, 111, 114, 32, 40, 115, 117, 98, 32, 65, 32, 66, 41, 32, 40, 110, 111, 116, 32, 40, 102, 111, 114, 97, 108, 108, 32, 67, 32, 40, 111, 114, 32, 40, 111, 114, 32, 40, 110, 111, 116, 32, 40, 115, 117, 98, 32, 65, 32, 67, 41, 41, 32, 40, 115, 117, 98, 32, 66, 32, 67, 41, 41, 32, 40, 115, 111, 109, 101, 32, 68, 32, 40, 115, 111, 109, 101, 32, 69, 32, 40, 97, 110, 100, 32, 40, 110, 101, 120, 116, 32, 68, 32, 69, 41, 32, 40, 97, 110, 100, 32, 40, 115, 117, 98, 32, 68, 32, 67, 41, 32, 40, 110, 111, 116, 32, 40, 115, 117, 98, 32, 69, 32, 67, 41, 41, 41, 41, 41, 41, 41, 41, 41, 41, 41, 41, 41, 41]).1
def QB0 : List UInt8 := [40, 101, 97, 99, 104, 32, 65, 32, 40, 101, 97, 99, 104, 32, 66, 32, 40, 101, 97, 99, 104, 32, 67, 32, 40, 111, 114, 32, 40, 110, 111, 116, 32, 40, 97, 110, 100, 32, 40, 108, 101, 102, 116, 32, 65, 32, 67, 41, 32, 40, 108, 101, 102, 116, 32, 66, 32, 67, 41, 41, 41, 32, 40, 97, 110, 100, 32, 40, 115, 117, 98, 32, 65, 32, 66, 41, 32, 40, 115, 117, 98, 32, 66, 32, 65, 41, 41, 41, 41, 41, 41]
def FP0 : List Mk := (parseS QB0).1
def QB1 : List UInt8 := [40, 101, 97, 99, 104, 32, 65, 32, 40, 101, 97, 99, 104, 32, 66, 32, 40, 111, 114, 32, 40, 110, 111, 116, 32, 40, 111, 114, 32, 40, 108, 101, 102, 116, 32, 65, 32, 66, 41, 32, 40, 114, 105, 103, 104, 116, 32, 65, 32, 66, 41, 41, 41, 32, 40, 108, 101, 115, 115, 32, 65, 32, 66, 41, 41, 41, 41]
def FP1 : List Mk := (parseS QB1).1
def QB2 : List UInt8 := [40, 101, 97, 99, 104, 32, 66, 32, 40, 111, 114, 32, 40, 101, 97, 99, 104, 32, 65, 32, 40, 110, 111, 116, 32, 40, 108, 101, 115, 115, 32, 65, 32, 66, 41, 41, 41, 32, 40, 115, 111, 109, 101, 32, 65, 32, 40, 111, 114, 32, 40, 108, 101, 102, 116, 32, 65, 32, 66, 41, 32, 40, 114, 105, 103, 104, 116, 32, 65, 32, 66, 41, 41, 41, 41, 41]
def FP2 : List Mk := (parseS QB2).1
def QB3 : List UInt8 := [40, 101, 97, 99, 104, 32, 65, 32, 40, 110, 111, 116, 32, 40, 108, 101, 115, 115, 32, 65, 32, 65, 41, 41, 41]
def FP3 : List Mk := (parseS QB3).1

/-- A closed formula does not depend on the sets. -/
theorem closed_zero (S : Stc) (f : List Mk) (hf : formedS f = true) (hc : ∀ v, v < 6 → freeT v (treeOf f) = false) (l : List Nat) : holdsT S (treeOf f) (givenS l) = holdsT S (treeOf f) [0, 0, 0, 0, 0, 0] := by
  refine holds_agree S _ _ _ (treeOf_ok hf).2.1 (by simp [givenS]) fun v hv => ?_
  by_cases h6 : v < 6
  · rw [hc v h6] at hv; cases hv
  · rw [List.getD_eq_getElem?_getD, List.getD_eq_getElem?_getD, List.getElem?_eq_none (by simp [givenS]; omega), List.getElem?_eq_none (by simp; omega)]
theorem fo_formed : formedS FO = true := by decide +kernel
theorem fo_check : checkS FO 6 false = 0 := by decide +kernel
theorem fo_closed : ∀ v, v < 6 → freeT v (treeOf FO) = false := by decide +kernel
theorem fo_cost : ∀ n, n < 5 → costT n (treeOf FO) ≤ 65536 := by decide +kernel
theorem fo_true : ∀ n, n < 5 → holdsT (stcWord n) (treeOf FO) [0, 0, 0, 0, 0, 0] = true := by decide +kernel
theorem order_word (l : List Nat) (hl : l.length ≤ 4) (hb : ∀ x ∈ l, x < 64) : wordS FO 6 l = (true, 0) := by
  rw [wordS_at fo_check (by omega) (by
    rw [List.any_eq_false]
    intro x hx
    have := hb x hx
    simp only [badL, ne_eq, decide_eq_true_eq, Decidable.not_not]
    have e : (2 : Int) ^ (6 : Int).toNat = 64 := by decide
    rw [e]; omega) rfl]
  rw [if_neg (by have := fo_cost l.length (by omega); omega), closed_zero _ _ fo_formed fo_closed, fo_true _ (by omega)]

/-- Labels do not matter. -/
def strip (t : List Lf) : List Lf := t.map fun x => ⟨0, x.left, x.right⟩
theorem anc_strip (t : List Lf) : ∀ k p q, ancF (strip t) k p q = ancF t k p q := by
  intro k
  induction k with
  | zero => intro p q; rfl
  | succ k ih =>
    intro p q
    rw [ancF, ancF]
    simp only [strip, List.getElem?_map]
    cases t[p]? with
    | none => rfl
    | some x => simp only [Option.map_some]; simp only [strip] at ih; simp only [ih]
theorem stc_strip (t : List Lf) : stcTree (strip t) = stcTree t := by
  have hl : (strip t).length = t.length := by simp [strip]
  unfold stcTree
  rw [hl]
  congr 1
  funext op p q
  have e1 : leftS (strip t) p = leftS t p := by unfold leftS strip; rw [List.getElem?_map]; cases t[p]? <;> rfl
  have e2 : rightS (strip t) p = rightS t p := by unfold rightS strip; rw [List.getElem?_map]; cases t[p]? <;> rfl
  have e3 : ancS (strip t) p q = ancS t p q := by unfold ancS; rw [hl]; exact anc_strip t _ p q
  unfold relTree
  rw [e1, e2, e3]
/-- The shapes of trees with so many nodes. -/
def shapes : Nat → List Bt
  | 0 => [.nil]
  | 1 => [.node 0 .nil .nil]
  | 2 => [.node 0 (.node 0 .nil .nil) .nil, .node 0 .nil (.node 0 .nil .nil)]
  | 3 => [.node 0 (.node 0 .nil .nil) (.node 0 .nil .nil), .node 0 (.node 0 (.node 0 .nil .nil) .nil) .nil, .node 0 (.node 0 .nil (.node 0 .nil .nil)) .nil, .node 0 .nil (.node 0 (.node 0 .nil .nil) .nil), .node 0 .nil (.node 0 .nil (.node 0 .nil .nil))]
  | _ => []
def Bt.zero : Bt → Bt
  | .nil => .nil
  | .node _ l r => .node 0 l.zero r.zero
theorem Bt.zero_size (b : Bt) : b.zero.size = b.size := by induction b with
  | nil => rfl
  | node x l r h1 h2 => simp [Bt.zero, Bt.size, h1, h2]
theorem Bt.zero_enc (b : Bt) : ∀ p, strip (b.enc p) = b.zero.enc p := by
  induction b with
  | nil => intro p; rfl
  | node x l r h1 h2 =>
    intro p
    simp only [Bt.enc, Bt.zero, strip, List.map_cons, List.map_append]
    simp only [strip] at h1 h2
    rw [h1, h2, Bt.zero_size]
    simp only [Bt.at, Bt.zero_size]
theorem Bt.size1 {b : Bt} (h : b.size = 1) : b.zero = .node 0 .nil .nil := by
  cases b with
  | nil => simp [Bt.size] at h
  | node x l r =>
    simp only [Bt.size] at h
    rw [Bt.nil_of_size (b := l) (by omega), Bt.nil_of_size (b := r) (by omega)]; rfl
theorem Bt.size2 {b : Bt} (h : b.size = 2) : b.zero ∈ shapes 2 := by
  cases b with
  | nil => simp [Bt.size] at h
  | node x l r =>
    simp only [Bt.size] at h
    by_cases h0 : l.size = 0
    · rw [Bt.nil_of_size h0]
      simp only [Bt.zero, Bt.size1 (b := r) (by omega), shapes]
      simp
    · rw [Bt.nil_of_size (b := r) (by omega)]
      simp only [Bt.zero, Bt.size1 (b := l) (by omega), shapes]
      simp
theorem Bt.size3 {b : Bt} (h : b.size = 3) : b.zero ∈ shapes 3 := by
  cases b with
  | nil => simp [Bt.size] at h
  | node x l r =>
    simp only [Bt.size] at h
    have hc : l.size = 0 ∨ l.size = 1 ∨ l.size = 2 := by omega
    rcases hc with h0 | h0 | h0
    · have h2 := Bt.size2 (b := r) (by omega)
      rw [Bt.nil_of_size h0]
      simp only [shapes, List.mem_cons, List.not_mem_nil, or_false] at h2
      rcases h2 with h2 | h2 <;> simp [Bt.zero, h2, shapes]
    · simp only [Bt.zero, Bt.size1 h0, Bt.size1 (b := r) (by omega), shapes]
      simp
    · have h2 := Bt.size2 (b := l) h0
      rw [Bt.nil_of_size (b := r) (by omega)]
      simp only [shapes, List.mem_cons, List.not_mem_nil, or_false] at h2
      rcases h2 with h2 | h2 <;> simp [Bt.zero, h2, shapes]
theorem small_shape (t : List Lf) (hl : t.length ≤ 3) (hf : formedT t = true) : ∃ b ∈ shapes t.length, strip t = b.enc 0 := by
  obtain ⟨_, b, hb, hs⟩ := formedT_bt hf
  have he := hs.eq hb
  refine ⟨b.zero, ?_, by rw [← Bt.zero_enc, ← he]⟩
  rw [← hb]
  have hc : b.size = 0 ∨ b.size = 1 ∨ b.size = 2 ∨ b.size = 3 := by omega
  rcases hc with h | h | h | h
  · rw [Bt.nil_of_size h]; simp [Bt.zero, Bt.size, shapes]
  · rw [h, Bt.size1 h]; simp [shapes]
  · rw [h]; exact Bt.size2 h
  · rw [h]; exact Bt.size3 h
theorem tree_of_shapes (f : List Mk) (hc : checkS f 3 true = 0) (hfree : ∀ v, v < 6 → freeT v (treeOf f) = false) (hcost : ∀ n, n < 4 → costT n (treeOf f) ≤ 65536)
    (ht : ∀ n, n < 4 → ∀ b ∈ shapes n, holdsT (stcTree (b.enc 0)) (treeOf f) [0, 0, 0, 0, 0, 0] = true) (t : List Lf) (hl : t.length ≤ 3) (hk : checkT t 3 = 0) : modelTreeS f 3 t = (true, 0) := by
  have hf : formedT t = true := by
    unfold checkT at hk
    by_cases h1 : t.any (badLabel 3) = true
    · rw [if_neg (by omega), if_neg (by omega), if_pos h1] at hk; omega
    · rw [if_neg (by omega), if_neg (by omega), if_neg h1] at hk
      by_cases h2 : formedT t = true
      · exact h2
      · rw [if_neg h2] at hk; omega
  obtain ⟨b, hb, he⟩ := small_shape t hl hf
  unfold modelTreeS evalS
  rw [if_neg (by simp [hc]), if_neg (by simp [hk])]
  have h4 : ¬ 65536 < costT (stcTree t).n (treeOf f) := by have := hcost t.length (by omega); show ¬ 65536 < costT t.length _; omega
  rw [if_neg h4, closed_zero _ _ (check_formed_of hc) hfree, ← stc_strip, he, ht _ (by omega) b hb]
theorem fp0_tree (t : List Lf) (hl : t.length ≤ 3) (hk : checkT t 3 = 0) : modelTreeS FP0 3 t = (true, 0) := tree_of_shapes FP0 (by decide +kernel) (by decide +kernel) (by decide +kernel) (by decide +kernel) t hl hk
theorem fp1_tree (t : List Lf) (hl : t.length ≤ 3) (hk : checkT t 3 = 0) : modelTreeS FP1 3 t = (true, 0) := tree_of_shapes FP1 (by decide +kernel) (by decide +kernel) (by decide +kernel) (by decide +kernel) t hl hk
theorem fp2_tree (t : List Lf) (hl : t.length ≤ 3) (hk : checkT t 3 = 0) : modelTreeS FP2 3 t = (true, 0) := tree_of_shapes FP2 (by decide +kernel) (by decide +kernel) (by decide +kernel) (by decide +kernel) t hl hk
theorem fp3_tree (t : List Lf) (hl : t.length ≤ 3) (hk : checkT t 3 = 0) : modelTreeS FP3 3 t = (true, 0) := tree_of_shapes FP3 (by decide +kernel) (by decide +kernel) (by decide +kernel) (by decide +kernel) t hl hk
open Go.RowKit
def Q0 : ByteArray := ⟨#[40, 101, 97, 99, 104, 32, 65, 32, 40, 101, 97, 99, 104, 32, 66, 32, 40, 101, 97, 99, 104, 32, 67, 32, 40, 111, 114, 32, 40, 110, 111, 116, 32, 40, 97, 110, 100, 32, 40, 108, 101, 102, 116, 32, 65, 32, 67, 41, 32, 40, 108, 101, 102, 116, 32, 66, 32, 67, 41, 41, 41, 32, 40, 97, 110, 100, 32, 40, 115, 117, 98, 32, 65, 32, 66, 41, 32, 40, 115, 117, 98, 32, 66, 32, 65, 41, 41, 41, 41, 41, 41]⟩
theorem q0_parse : (parseS (bts Q0)).1 = FP0 := by decide +kernel
def Q1 : ByteArray := ⟨#[40, 101, 97, 99, 104, 32, 65, 32, 40, 101, 97, 99, 104, 32, 66, 32, 40, 111, 114, 32, 40, 110, 111, 116, 32, 40, 111, 114, 32, 40, 108, 101, 102, 116, 32, 65, 32, 66, 41, 32, 40, 114, 105, 103, 104, 116, 32, 65, 32, 66, 41, 41, 41, 32, 40, 108, 101, 115, 115, 32, 65, 32, 66, 41, 41, 41, 41]⟩
theorem q1_parse : (parseS (bts Q1)).1 = FP1 := by decide +kernel
def Q2 : ByteArray := ⟨#[40, 101, 97, 99, 104, 32, 66, 32, 40, 111, 114, 32, 40, 101, 97, 99, 104, 32, 65, 32, 40, 110, 111, 116, 32, 40, 108, 101, 115, 115, 32, 65, 32, 66, 41, 41, 41, 32, 40, 115, 111, 109, 101, 32, 65, 32, 40, 111, 114, 32, 40, 108, 101, 102, 116, 32, 65, 32, 66, 41, 32, 40, 114, 105, 103, 104, 116, 32, 65, 32, 66, 41, 41, 41, 41, 41]⟩
theorem q2_parse : (parseS (bts Q2)).1 = FP2 := by decide +kernel
def Q3 : ByteArray := ⟨#[40, 101, 97, 99, 104, 32, 65, 32, 40, 110, 111, 116, 32, 40, 108, 101, 115, 115, 32, 65, 32, 65, 41, 41, 41]⟩
theorem q3_parse : (parseS (bts Q3)).1 = FP3 := by decide +kernel

theorem cast_mo {w : World} {B : Nat} {v : Value} {f g : List Mk} (h : MO w B v f) (e : f = g) : MO w B v g := e ▸ h
set_option maxRecDepth 100000 in
set_option maxHeartbeats 8000000 in
theorem order_walk (l : List Nat) (t : List Lf) (v u : Value) (w : World) (hv : YS w v l) (h256 : ∀ x ∈ l, x < 256) (hu : TS w u t) (hdb : DB w) :
    Calls Tryd.prog 7 #[v, u] w fun e w' => e = .returned (.bool true) ∧ Below w.heap.size w w' := by
  have HV := Lib.hid hv; have HU := Lib.hid hu; have HDB := Lib.hid hdb
  obtain ⟨A, c, rfl, hc1, hc2, _⟩ := hv
  obtain ⟨_, A2, d, rfl, hd1, hd2, _⟩ := hu
  obtain ⟨n, hn⟩ : ∃ n, n = l.length := ⟨_, rfl⟩
  obtain ⟨k, hk⟩ : ∃ k, k = t.length := ⟨_, rfl⟩
  rw [← hn] at hc1 HV ⊢
  rw [← hk] at hd1 HU ⊢
  have hlet := fun W (hW : YS W (.slice A n c) l) => letters_6 (l.take (min (n : Int) 4).toNat) _ W (hW.cut (min (n : Int) 4).toNat (by omega) A (fun _ => rfl)) (fun x hx => h256 x (List.mem_of_mem_take hx))
  rw [show (4 : Int) = ((4 : Nat) : Int) from rfl, take_min l n 4 hn] at hlet
  have hcp := fun W (hW : TS W (.slice A2 k d) t) => copy_tree (t.take (min (k : Int) 3).toNat) _ W (hW.cut (min (k : Int) 3).toNat (by omega) A2 (fun _ => rfl)) (by rw [List.length_take]; omega)
  rw [show (3 : Int) = ((3 : Nat) : Int) from rfl, take_min t k 3 hk] at hcp
  obtain ⟨m, hm⟩ : ∃ m, m = lettersS (l.take 4) 6 := ⟨_, rfl⟩
  have hm1 : m.length ≤ 4 := by rw [hm]; simp [lettersS]; omega
  have hm2 : ∀ x ∈ m, x < 64 := by
    rw [hm]; intro x hx
    simp only [lettersS, List.mem_map] at hx
    obtain ⟨y, _, rfl⟩ := hx
    omega
  have hwd := order_word m hm1 hm2
  have HWD := Lib.hid (fun v W z (h : MS W v FO) (h2 : YS W z m) (h3 : DB W) => (show Calls Tryd.prog 22 #[v, .int .i64 6, z] W fun e w' => e = .returned (.tuple #[.bool true, .int .i64 0]) ∧ Below W.heap.size W w' from by have q := Word_any FO v z 6 m W h h2 (fun x hx => by have := hm2 x hx; omega) h3; rw [hwd] at q; exact q))
  rw [← hm] at hlet
  obtain ⟨s, hs⟩ : ∃ s, s = t.take 3 := ⟨_, rfl⟩
  have hs3 : s.length ≤ 3 := by rw [hs, List.length_take]; omega
  rw [← hs] at hcp
  have hck := fun v W (h : TS W v s) => TreeCheck_any s v 3 W h
  have hpt := fun (F : List Mk) (hF : modelTreeS F 3 s = (true, 0)) v W z (h : MS W v F) (h2 : TS W z s) (h3 : DB W) => (show Calls Tryd.prog 30 #[v, .int .i64 3, z] W fun e w' => e = .returned (.tuple #[.bool true, .int .i64 0]) ∧ Below W.heap.size W w' from by have q := MTree_any F v z 3 s W h h2 h3; rw [hF] at q; exact q)
  obtain ⟨K, hK⟩ : ∃ K, K = checkT s 3 := ⟨_, rfl⟩
  rw [← hK] at hck
  have hP : K = 0 → modelTreeS FP0 3 s = (true, 0) ∧ modelTreeS FP1 3 s = (true, 0) ∧ modelTreeS FP2 3 s = (true, 0) ∧ modelTreeS FP3 3 s = (true, 0) := fun h => by
    rw [hK] at h
    exact ⟨fp0_tree s hs3 h, fp1_tree s hs3 h, fp2_tree s hs3 h, fp3_tree s hs3 h⟩
  have HLE := Lib.hid hlet; have HCP := Lib.hid hcp; have HCK := Lib.hid hck; have HPT := Lib.hid hpt; have HP := Lib.hid hP
  have HPA := Lib.hid (fun (Q : ByteArray) (F : List Mk) (hq : (parseS (bts Q)).1 = F) W => (show Calls Tryd.prog 33 #[.string Q] W (RetMO W F) from by have q := parsed_any Q W; rw [hq] at q; exact q))
  have j1 : (0 : Int) ≤ min (n : Int) 4 := by omega
  have j2 : min (n : Int) 4 ≤ (c : Int) := by omega
  have j3 : (0 : Int) ≤ min (k : Int) 3 := by omega
  have j4 : min (k : Int) 3 ≤ (d : Int) := by omega
  have HB : Hid (Below w.heap.size w w) := Below.refl _ _
  clear hlet hcp hck hpt hP hK hs hs3 hwd hm hm1 hm2 hn hk h256 hdb
  by_cases hk0 : K = 0
  · obtain ⟨p0, p1, p2, p3⟩ := HP.out hk0
    have P0 := Lib.hid p0; have P1 := Lib.hid p1; have P2 := Lib.hid p2; have P3 := Lib.hid p3
    subst hk0
    clear p0 p1 p2 p3
    go_enter Tryd.func7, Tryd.ntmps7
    go_upto_region 9 with (first
      | (go_at_call 33; refine (parsed_any _ _).mono ?_; rintro e wl ⟨vf, rfl, hb, ho⟩; have HF := Lib.hid (cast_mo ho (g := FO) (by decide +kernel)).ms; clear ho; replace HB := Lib.hid (HB.out.trans (hb.mono HB.out.size)); clear hb)
      | (go_at_call 34; go_must (refine (HLE.out _ (HV.out.below HB.out (Nat.le_refl _))).mono ?_; rintro e wl ⟨vl, rfl, hb, ho⟩; have HL := Lib.hid ho.ys; replace HF := Lib.hid (HF.out.below hb (Nat.le_refl _)); clear ho; replace HB := Lib.hid (HB.out.trans (hb.mono HB.out.size)); clear hb))
      | (go_at_call 22; go_must ((with_reducible refine (HWD.out _ _ _ HF.out HL.out (HDB.out.below HB.out (Nat.le_refl _))).mono ?_); rintro e wl ⟨rfl, hb⟩; replace HB := Lib.hid (HB.out.trans (hb.mono HB.out.size)); clear hb))
      | (go_at_call 29; go_must (refine (HCP.out _ (HU.out.below HB.out (Nat.le_refl _))).mono ?_; rintro e wl ⟨vt, rfl, hb, ho⟩; have HT := Lib.hid ho.ts; clear ho; replace HB := Lib.hid (HB.out.trans (hb.mono HB.out.size)); clear hb))
      | (go_at_call 35; go_must ((with_reducible refine (HCK.out _ _ HT.out).mono ?_); rintro e wl ⟨rfl, hb⟩; replace HT := Lib.hid (HT.out.below hb (Nat.le_refl _)); replace HB := Lib.hid (HB.out.trans (hb.mono HB.out.size)); clear hb)))
    go_wp2_with fail
    obtain ⟨X, hX⟩ : ∃ X, X = wl.heap.size := ⟨_, rfl⟩
    refine wp_abs (fun W => Row W wl.heap.size 9 #[.string Q0, .string Q1, .string Q2, .string Q3] ∧ TS W vt s ∧ Below w.heap.size w W) ⟨Row.new wl _ _, HT.out.below (Below.alloc (Below.refl _ _) (Nat.le_refl _) _) (Nat.le_refl _), Below.alloc HB.out HB.out.size _⟩ ?_
    clear HB HT HF HL
    rintro W ⟨hr, ht, hb⟩
    have RS := Lib.hid hr; have HT := Lib.hid ht; have HB := Lib.hid hb
    have rs := hr.cell; have rl := hr.lt
    clear hr ht hb hX
    refine wp_loop_rounds 5 ?_
    rw [rounds_succ]
    go_wp2_with (first
      | (go_at_call 33; go_must ((with_reducible refine (HPA.out Q0 FP0 q0_parse _).mono ?_); rintro e wl ⟨vf, rfl, hb, ho⟩; have HF := Lib.hid ho.ms; clear ho; replace RS := Lib.hid (RS.out.below hb RS.out.lt); replace HT := Lib.hid (HT.out.below hb (Nat.le_refl _)); clear rs rl; have rs := RS.out.cell; have rl := RS.out.lt; replace HB := Lib.hid (HB.out.trans (hb.mono HB.out.size)); clear hb))
      | (go_at_call 30; go_must ((with_reducible refine (HPT.out FP0 P0.out _ _ _ HF.out HT.out (HDB.out.below HB.out (Nat.le_refl _))).mono ?_); rintro e wl ⟨rfl, hb⟩; clear HF; replace RS := Lib.hid (RS.out.below hb RS.out.lt); replace HT := Lib.hid (HT.out.below hb (Nat.le_refl _)); clear rs rl; have rs := RS.out.cell; have rl := RS.out.lt; replace HB := Lib.hid (HB.out.trans (hb.mono HB.out.size)); clear hb)))
    rw [rounds_succ]
    go_wp2_with (first
      | (go_at_call 33; go_must ((with_reducible refine (HPA.out Q1 FP1 q1_parse _).mono ?_); rintro e wl ⟨vf, rfl, hb, ho⟩; have HF := Lib.hid ho.ms; clear ho; replace RS := Lib.hid (RS.out.below hb RS.out.lt); replace HT := Lib.hid (HT.out.below hb (Nat.le_refl _)); clear rs rl; have rs := RS.out.cell; have rl := RS.out.lt; replace HB := Lib.hid (HB.out.trans (hb.mono HB.out.size)); clear hb))
      | (go_at_call 30; go_must ((with_reducible refine (HPT.out FP1 P1.out _ _ _ HF.out HT.out (HDB.out.below HB.out (Nat.le_refl _))).mono ?_); rintro e wl ⟨rfl, hb⟩; clear HF; replace RS := Lib.hid (RS.out.below hb RS.out.lt); replace HT := Lib.hid (HT.out.below hb (Nat.le_refl _)); clear rs rl; have rs := RS.out.cell; have rl := RS.out.lt; replace HB := Lib.hid (HB.out.trans (hb.mono HB.out.size)); clear hb)))
    rw [rounds_succ]
    go_wp2_with (first
      | (go_at_call 33; go_must ((with_reducible refine (HPA.out Q2 FP2 q2_parse _).mono ?_); rintro e wl ⟨vf, rfl, hb, ho⟩; have HF := Lib.hid ho.ms; clear ho; replace RS := Lib.hid (RS.out.below hb RS.out.lt); replace HT := Lib.hid (HT.out.below hb (Nat.le_refl _)); clear rs rl; have rs := RS.out.cell; have rl := RS.out.lt; replace HB := Lib.hid (HB.out.trans (hb.mono HB.out.size)); clear hb))
      | (go_at_call 30; go_must ((with_reducible refine (HPT.out FP2 P2.out _ _ _ HF.out HT.out (HDB.out.below HB.out (Nat.le_refl _))).mono ?_); rintro e wl ⟨rfl, hb⟩; clear HF; replace RS := Lib.hid (RS.out.below hb RS.out.lt); replace HT := Lib.hid (HT.out.below hb (Nat.le_refl _)); clear rs rl; have rs := RS.out.cell; have rl := RS.out.lt; replace HB := Lib.hid (HB.out.trans (hb.mono HB.out.size)); clear hb)))
    rw [rounds_succ]
    go_wp2_with (first
      | (go_at_call 33; go_must ((with_reducible refine (HPA.out Q3 FP3 q3_parse _).mono ?_); rintro e wl ⟨vf, rfl, hb, ho⟩; have HF := Lib.hid ho.ms; clear ho; replace RS := Lib.hid (RS.out.below hb RS.out.lt); replace HT := Lib.hid (HT.out.below hb (Nat.le_refl _)); clear rs rl; have rs := RS.out.cell; have rl := RS.out.lt; replace HB := Lib.hid (HB.out.trans (hb.mono HB.out.size)); clear hb))
      | (go_at_call 30; go_must ((with_reducible refine (HPT.out FP3 P3.out _ _ _ HF.out HT.out (HDB.out.below HB.out (Nat.le_refl _))).mono ?_); rintro e wl ⟨rfl, hb⟩; clear HF; replace RS := Lib.hid (RS.out.below hb RS.out.lt); replace HT := Lib.hid (HT.out.below hb (Nat.le_refl _)); clear rs rl; have rs := RS.out.cell; have rl := RS.out.lt; replace HB := Lib.hid (HB.out.trans (hb.mono HB.out.size)); clear hb)))
    rw [rounds_succ]
    go_wp2_with (go_at_call 28; go_must (refine (awake16 _ (HDB.out.below HB.out (Nat.le_refl _))).mono ?_; rintro e wl ⟨rfl, hb⟩; replace HB := Lib.hid (HB.out.trans (hb.mono HB.out.size)); clear hb))
    go_returns
    exact ⟨rfl, HB.out⟩
  · have hk0' : (K != 0) = true := by simp [hk0]
    clear hk0
    go_enter Tryd.func7, Tryd.ntmps7
    go_wp2_with (first
      | (go_at_call 33; refine (parsed_any _ _).mono ?_; rintro e wl ⟨vf, rfl, hb, ho⟩; have HF := Lib.hid (cast_mo ho (g := FO) (by decide +kernel)).ms; clear ho; replace HB := Lib.hid (HB.out.trans (hb.mono HB.out.size)); clear hb)
      | (go_at_call 34; go_must (refine (HLE.out _ (HV.out.below HB.out (Nat.le_refl _))).mono ?_; rintro e wl ⟨vl, rfl, hb, ho⟩; have HL := Lib.hid ho.ys; replace HF := Lib.hid (HF.out.below hb (Nat.le_refl _)); clear ho; replace HB := Lib.hid (HB.out.trans (hb.mono HB.out.size)); clear hb))
      | (go_at_call 22; go_must ((with_reducible refine (HWD.out _ _ _ HF.out HL.out (HDB.out.below HB.out (Nat.le_refl _))).mono ?_); rintro e wl ⟨rfl, hb⟩; replace HB := Lib.hid (HB.out.trans (hb.mono HB.out.size)); clear hb))
      | (go_at_call 29; go_must (refine (HCP.out _ (HU.out.below HB.out (Nat.le_refl _))).mono ?_; rintro e wl ⟨vt, rfl, hb, ho⟩; have HT := Lib.hid ho.ts; clear ho; replace HB := Lib.hid (HB.out.trans (hb.mono HB.out.size)); clear hb))
      | (go_at_call 35; go_must ((with_reducible refine (HCK.out _ _ HT.out).mono ?_); rintro e wl ⟨rfl, hb⟩; replace HT := Lib.hid (HT.out.below hb (Nat.le_refl _)); replace HB := Lib.hid (HB.out.trans (hb.mono HB.out.size)); clear hb))
      | (go_at_call 28; go_must (refine (awake16 _ (HDB.out.below HB.out (Nat.le_refl _))).mono ?_; rintro e wl ⟨rfl, hb⟩; replace HB := Lib.hid (HB.out.trans (hb.mono HB.out.size)); clear hb)))
    go_returns
    exact ⟨rfl, HB.out⟩
end Go.Proofs.YtdlibehffgfhlaaDoor

/- Plain functions: shifting, joining, cutting and mirroring trees as lists of leaves; no program in sight. -/
import Derived.Test.YtdlibehffgfhlaaDoorBtS
set_option linter.unusedSimpArgs false
set_option linter.unusedVariables false
namespace Go.Proofs.YtdlibehffgfhlaaDoor

def mvd (c d : Int) : Int := if c = -1 then -1 else c + d
def shL (d : Int) (x : Lf) : Lf := ⟨x.label, mvd x.left d, mvd x.right d⟩
def shiftS (d : Int) (t : List Lf) : List Lf := t.map (shL d)
theorem shiftS_len (d : Int) (t : List Lf) : (shiftS d t).length = t.length := by simp [shiftS]
theorem at_mv (b : Bt) (p q : Nat) (d : Int) (h : (q : Int) = p + d) : mvd (b.at p) d = b.at q := by
  unfold mvd Bt.at
  by_cases h0 : b.size = 0
  · simp [h0]
  · rw [if_neg h0, if_neg h0, if_neg (by omega)]; omega
theorem shift_enc (b : Bt) : ∀ (p q : Nat) (d : Int), (q : Int) = p + d → shiftS d (b.enc p) = b.enc q := by
  induction b with
  | nil => intros; rfl
  | node lab l r ihl ihr =>
    intro p q d h
    have h1 := ihl (p + 1) (q + 1) d (by omega)
    have h2 := ihr (p + 1 + l.size) (q + 1 + l.size) d (by omega)
    unfold shiftS at h1 h2 ⊢
    simp only [Bt.enc, List.map_cons, List.map_append, h1, h2, shL]
    rw [at_mv l (p + 1) (q + 1) d (by omega), at_mv r (p + 1 + l.size) (q + 1 + l.size) d (by omega)]
def joinT (lab : Int) (l r : List Lf) : List Lf := ⟨lab, if l.length = 0 then -1 else 1, if r.length = 0 then -1 else 1 + (l.length : Int)⟩ :: (shiftS 1 l ++ shiftS (1 + (l.length : Int)) r)
theorem joinT_len (lab : Int) (l r : List Lf) : (joinT lab l r).length = l.length + r.length + 1 := by simp [joinT, shiftS]
theorem joinT_enc (lab : Int) (l r : Bt) : joinT lab (l.enc 0) (r.enc 0) = (Bt.node lab l r).enc 0 := by
  unfold joinT
  rw [shift_enc l 0 1 1 (by omega), shift_enc r 0 (1 + l.size) _ (by rw [Bt.enc_len]; omega), Bt.enc_len, Bt.enc_len]
  simp only [Bt.enc, Bt.at, Nat.zero_add]
  have e : (if r.size = 0 then (-1 : Int) else 1 + (l.size : Int)) = if r.size = 0 then -1 else ((1 + l.size : Nat) : Int) := by
    by_cases h : r.size = 0
    · rw [if_pos h, if_pos h]
    · rw [if_neg h, if_neg h]; omega
  rw [e]
  rfl

/-- The tree of a formed list of leaves. -/
def btAt (t : List Lf) : Nat → Nat → Bt
  | 0, _ => .nil
  | k + 1, i => match t[i]? with
    | none => .nil
    | some x => .node x.label (if x.left = -1 then .nil else btAt t k x.left.toNat) (if x.right = -1 then .nil else btAt t k x.right.toNat)
def btOf (t : List Lf) : Bt := btAt t t.length 0
theorem btAt_eq (t : List Lf) : ∀ (b : Bt) (p k : Nat), 0 < b.size → Seg t p b → b.size ≤ k → btAt t k p = b := by
  intro b
  induction b with
  | nil => intro p k h; simp [Bt.size] at h
  | node lab l r ihl ihr =>
    intro p k _ hs hk
    obtain ⟨k, rfl⟩ : ∃ j, k = j + 1 := ⟨k - 1, by simp [Bt.size] at hk; omega⟩
    simp only [Bt.size] at hk
    have kk : ∀ (c : Bt) (next : Nat), (0 < c.size → btAt t k next = c) → (if c.at next = -1 then Bt.nil else btAt t k (c.at next).toNat) = c := fun c next h => by
      unfold Bt.at
      by_cases h0 : c.size = 0
      · rw [if_pos h0, if_pos rfl, Bt.nil_of_size h0]
      · rw [if_neg h0, if_neg (by omega), Int.toNat_natCast, h (by omega)]
    simp only [btAt, hs.root]
    rw [kk l (p + 1) (fun h => ihl _ k h hs.left (by omega)), kk r (p + 1 + l.size) (fun h => ihr _ k h hs.right (by omega))]
theorem btOf_ok {t : List Lf} (h : formedT t = true) : t.length ≤ 31 ∧ (btOf t).size = t.length ∧ Seg t 0 (btOf t) ∧ t = (btOf t).enc 0 := by
  obtain ⟨h31, b, hb, hs⟩ := formedT_bt h
  have e : btOf t = b := by
    by_cases h0 : b.size = 0
    · have : t = [] := List.eq_nil_of_length_eq_zero (by omega)
      subst this
      rw [Bt.nil_of_size h0]; rfl
    · exact btAt_eq t b 0 t.length (by omega) hs (by omega)
  rw [e]
  exact ⟨h31, hb, hs, Seg.eq hb hs⟩
theorem formed_bt (b : Bt) (h : b.size ≤ 31) : formedT (b.enc 0) = true := formedT_of (by rw [Bt.enc_len]; exact h) (by rw [Bt.enc_len]) (Seg.self b)
theorem btOf_enc (b : Bt) : btOf (b.enc 0) = b := by
  by_cases h0 : b.size = 0
  · rw [Bt.nil_of_size h0]; rfl
  · exact btAt_eq _ b 0 _ (by omega) (Seg.self b) (by rw [Bt.enc_len]; exact Nat.le_refl _)

/-- The block of a node as a tree. -/
def blockS (t : List Lf) (i : Int) : List Lf := if i = -1 then [] else match endS t i.toNat with
  | none => []
  | some n => shiftS (-i) ((t.drop i.toNat).take (n - i.toNat))
theorem seg_cut {t : List Lf} {b : Bt} {p : Nat} (hl : p + b.size ≤ t.length) (hs : Seg t p b) : (t.drop p).take b.size = b.enc p := by
  apply List.ext_getElem?
  intro j
  by_cases hj : j < b.size
  · rw [List.getElem?_take, if_pos hj, List.getElem?_drop, hs j hj]
  · rw [List.getElem?_eq_none (by rw [List.length_take]; omega), List.getElem?_eq_none (by rw [Bt.enc_len]; omega)]
theorem block_seg {t : List Lf} {b : Bt} {p : Nat} (hb : 0 < b.size) (hl : p + b.size ≤ t.length) (hs : Seg t p b) : blockS t p = b.enc 0 := by
  unfold blockS
  rw [if_neg (by omega), Int.toNat_natCast, end_at t b p hb hl hs]
  simp only
  rw [show p + b.size - p = b.size by omega, seg_cut hl hs, shift_enc b p 0 _ (by omega)]
theorem block_at {t : List Lf} {b : Bt} {p : Nat} (hl : p + b.size ≤ t.length) (hs : Seg t p b) : blockS t (b.at p) = b.enc 0 := by
  unfold Bt.at
  by_cases h0 : b.size = 0
  · rw [if_pos h0, Bt.nil_of_size h0]; rfl
  · rw [if_neg h0]; exact block_seg (by omega) hl hs

/-- The block of every node of a formed tree. -/
theorem seg_at {t : List Lf} (b : Bt) : ∀ p, Seg t p b → ∀ q, q < b.size → ∃ c : Bt, 0 < c.size ∧ q + c.size ≤ b.size ∧ Seg t (p + q) c := by
  induction b with
  | nil => intro p _ q h; simp [Bt.size] at h
  | node lab l r ihl ihr =>
    intro p hs q hq
    simp only [Bt.size] at hq
    have hsz : (Bt.node lab l r).size = 1 + l.size + r.size := by simp only [Bt.size]; omega
    by_cases h0 : q = 0
    · subst h0
      exact ⟨_, by omega, by omega, hs⟩
    · by_cases hl : q - 1 < l.size
      · obtain ⟨c, h1, h2, h3⟩ := ihl (p + 1) hs.left (q - 1) hl
        exact ⟨c, h1, by omega, by rw [show p + q = p + 1 + (q - 1) by omega]; exact h3⟩
      · obtain ⟨c, h1, h2, h3⟩ := ihr (p + 1 + l.size) hs.right (q - 1 - l.size) (by omega)
        exact ⟨c, h1, by omega, by rw [show p + q = p + 1 + l.size + (q - 1 - l.size) by omega]; exact h3⟩
theorem node_at {t : List Lf} {q : Nat} {x : Lf} (h : formedT t = true) (hx : t[q]? = some x) : ∃ l r : Bt, blockS t q = (Bt.node x.label l r).enc 0 ∧ blockS t x.left = l.enc 0 ∧ blockS t x.right = r.enc 0 ∧ endS t q = some (q + 1 + l.size + r.size) ∧ q + 1 + l.size + r.size ≤ t.length ∧
    x.left = l.at (q + 1) ∧ x.right = r.at (q + 1 + l.size) := by
  obtain ⟨h31, hb, hs, he⟩ := btOf_ok h
  have hq := (List.getElem?_eq_some_iff.1 hx).1
  obtain ⟨c, h1, h2, h3⟩ := seg_at _ 0 hs q (by omega)
  rw [Nat.zero_add] at h3
  have hbl := block_seg h1 (by omega) h3
  have hen := end_at t c q h1 (by omega) h3
  cases c with
  | nil => simp [Bt.size] at h1
  | node lab l r =>
    have hr := h3.root
    rw [hx] at hr
    cases hr
    simp only [Bt.size] at h2 hen
    refine ⟨l, r, hbl, block_at (by omega) h3.left, block_at (by omega) h3.right, by rw [hen]; congr 1; omega, by omega, rfl, rfl⟩
theorem block_end {t : List Lf} {c : Int} (h : formedT t = true) (h0 : 0 ≤ c) (h1 : c < t.length) : ∃ p m : Nat, c = p ∧ endS t p = some m := by
  obtain ⟨p, rfl⟩ : ∃ p : Nat, c = p := ⟨c.toNat, by omega⟩
  obtain ⟨l, r, _, _, _, e, _⟩ := node_at h (List.getElem?_eq_getElem (show p < t.length by omega))
  exact ⟨p, _, rfl, e⟩
theorem block_len {t : List Lf} {c : Int} (h : formedT t = true) (hc : c = -1 ∨ (0 ≤ c ∧ c < t.length)) : (blockS t c).length ≤ 31 ∧ formedT (blockS t c) = true := by
  have h31 := (btOf_ok h).1
  rcases hc with rfl | ⟨h0, h1⟩
  · exact ⟨by simp [blockS], by unfold blockS; rw [if_pos rfl]; rfl⟩
  · obtain ⟨p, rfl⟩ : ∃ p : Nat, c = p := ⟨c.toNat, by omega⟩
    obtain ⟨l, r, e, _, _, _, hl, _⟩ := node_at h (List.getElem?_eq_getElem (show p < t.length by omega))
    rw [e, Bt.enc_len]
    simp only [Bt.size]
    exact ⟨by omega, formed_bt _ (by simp only [Bt.size]; omega)⟩
def Bt.mir : Bt → Bt
  | .nil => .nil
  | .node lab l r => .node lab r.mir l.mir
theorem Bt.mir_size (b : Bt) : b.mir.size = b.size := by
  induction b with
  | nil => rfl
  | node lab l r ihl ihr => simp only [Bt.mir, Bt.size, ihl, ihr]; omega
theorem Bt.mir_mir (b : Bt) : b.mir.mir = b := by
  induction b with
  | nil => rfl
  | node lab l r ihl ihr => simp only [Bt.mir, ihl, ihr]
def mirrorS (t : List Lf) : List Lf := (btOf t).mir.enc 0
theorem mirrorS_len {t : List Lf} (h : formedT t = true) : (mirrorS t).length = t.length := by
  rw [mirrorS, Bt.enc_len, Bt.mir_size, (btOf_ok h).2.1]
theorem mirror_formed {t : List Lf} (h : formedT t = true) : formedT (mirrorS t) = true := by
  obtain ⟨h31, hs, _⟩ := btOf_ok h
  exact formed_bt _ (by rw [Bt.mir_size]; omega)
/-- The root of a formed tree, its blocks and its mirror image. -/
theorem mirror_root {t : List Lf} {x : Lf} (h : formedT t = true) (hx : t[0]? = some x) :
    mirrorS t = joinT x.label (mirrorS (blockS t x.right)) (mirrorS (blockS t x.left)) ∧ formedT (blockS t x.right) = true ∧ formedT (blockS t x.left) = true ∧
      (blockS t x.right).length < t.length ∧ (blockS t x.left).length < t.length ∧ (blockS t x.left).length + (blockS t x.right).length + 1 = t.length := by
  obtain ⟨h31, hb, hs, he⟩ := btOf_ok h
  have hm : mirrorS t = (btOf t).mir.enc 0 := rfl
  have hl : 0 < t.length := (List.getElem?_eq_some_iff.1 hx).1
  rw [hm]
  generalize btOf t = b at *
  cases b with
  | nil => simp [Bt.size] at hb; omega
  | node lab l r =>
    have hr := hs.root
    rw [hx] at hr
    cases hr
    simp only [Bt.size] at hb
    have e1 := block_at (p := 0 + 1) (by omega) hs.left
    have e2 := block_at (p := 0 + 1 + l.size) (by omega) hs.right
    simp only
    rw [e1, e2]
    simp only [mirrorS, btOf_enc, joinT_enc, Bt.mir, Bt.enc_len]
    exact ⟨trivial, formed_bt _ (by omega), formed_bt _ (by omega), by omega, by omega, by omega⟩
end Go.Proofs.YtdlibehffgfhlaaDoor

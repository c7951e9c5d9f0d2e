/- Plain functions: shifting, joining, cutting and mirroring trees as lists of leaves; no program in sight. -/
/- Depth of a tree: levels of its nodes; the code of a tree and its order. Plain lists, no program in sight. -/
/- Plain functions: the codes of all trees with n nodes in ascending order, and the trees themselves. -/
/- Plain functions: how many trees there are; the count of the reference. -/
/- The text of a tree and its parser, and that they invert each other: plain lists, no program in sight. -/
import Derived.Test.YthkfjnmnoanhlaaGreatDoorModS
set_option linter.unusedSimpArgs false
set_option linter.unusedVariables false
namespace Go.Proofs.YthkfjnmnoanhlaaGreatDoor

def mvd (c d : Int) : Int := if c = -1 then -1 else c + d
def shL (d : Int) (x : Lf) : Lf := ⟨x.label, mvd x.left d, mvd x.right d⟩
def shiftS (d : Int) (t : List Lf) : List Lf := t.map (shL d)
theorem shiftS_len (d : Int) (t : List Lf) : (shiftS d t).length = t.length := by simp [shiftS]
theorem at_mv (b : Bt) (p q : Nat) (d : Int) (h : (q : Int) = p + d) : mvd (b.at p) d = b.at q := by
  unfold mvd Bt.at
  by_cases h0 : b.size = 0
  · simp [h0]
  · rw [if_neg h0, if_neg h0, if_neg (by omega)]; omega
theorem shift_enc (b : Bt) : ∀ (p q : Nat) (d : Int), (q : Int) = p + d → shiftS d (b.enc p) = b.enc q := by
  induction b with
  | nil => intros; rfl
  | node lab l r ihl ihr =>
    intro p q d h
    have h1 := ihl (p + 1) (q + 1) d (by omega)
    have h2 := ihr (p + 1 + l.size) (q + 1 + l.size) d (by omega)
    unfold shiftS at h1 h2 ⊢
    simp only [Bt.enc, List.map_cons, List.map_append, h1, h2, shL]
    rw [at_mv l (p + 1) (q + 1) d (by omega), at_mv r (p + 1 + l.size) (q + 1 + l.size) d (by omega)]
def joinT (lab : Int) (l r : List Lf) : List Lf := ⟨lab, if l.length = 0 then -1 else 1, if r.length = 0 then -1 else 1 + (l.length : Int)⟩ :: (shiftS 1 l ++ shiftS (1 + (l.length : Int)) r)
theorem joinT_len (lab : Int) (l r : List Lf) : (joinT lab l r).length = l.length + r.length + 1 := by simp [joinT, shiftS]
theorem joinT_enc (lab : Int) (l r : Bt) : joinT lab (l.enc 0) (r.enc 0) = (Bt.node lab l r).enc 0 := by
  unfold joinT
  rw [shift_enc l 0 1 1 (by omega), shift_enc r 0 (1 + l.size) _ (by rw [Bt.enc_len]; omega), Bt.enc_len, Bt.enc_len]
  simp only [Bt.enc, Bt.at, Nat.zero_add]
  have e : (if r.size = 0 then (-1 : Int) else 1 + (l.size : Int)) = if r.size = 0 then -1 else ((1 + l.size : Nat) : Int) := by
    by_cases h : r.size = 0
    · rw [if_pos h, if_pos h]
    · rw [if_neg h, if_neg h]; omega
  rw [e]
  rfl

/-- The tree of a formed list of leaves. -/
def btAt (t : List Lf) : Nat → Nat → Bt
  | 0, _ => .nil
  | k + 1, i => match t[i]? with
    | none => .nil
    | some x => .node x.label (if x.left = -1 then .nil else btAt t k x.left.toNat) (if x.right = -1 then .nil else btAt t k x.right.toNat)
def btOf (t : List Lf) : Bt := btAt t t.length 0
theorem btAt_eq (t : List Lf) : ∀ (b : Bt) (p k : Nat), 0 < b.size → Seg t p b → b.size ≤ k → btAt t k p = b := by
  intro b
  induction b with
  | nil => intro p k h; simp [Bt.size] at h
  | node lab l r ihl ihr =>
    intro p k _ hs hk
    obtain ⟨k, rfl⟩ : ∃ j, k = j + 1 := ⟨k - 1, by simp [Bt.size] at hk; omega⟩
    simp only [Bt.size] at hk
    have kk : ∀ (c : Bt) (next : Nat), (0 < c.size → btAt t k next = c) → (if c.at next = -1 then Bt.nil else btAt t k (c.at next).toNat) = c := fun c next h => by
      unfold Bt.at
      by_cases h0 : c.size = 0
      · rw [if_pos h0, if_pos rfl, Bt.nil_of_size h0]
      · rw [if_neg h0, if_neg (by omega), Int.toNat_natCast, h (by omega)]
    simp only [btAt, hs.root]
    rw [kk l (p + 1) (fun h => ihl _ k h hs.left (by omega)), kk r (p + 1 + l.size) (fun h => ihr _ k h hs.right (by omega))]
theorem btOf_ok {t : List Lf} (h : formedT t = true) : t.length ≤ 31 ∧ (btOf t).size = t.length ∧ Seg t 0 (btOf t) ∧ t = (btOf t).enc 0 := by
  obtain ⟨h31, b, hb, hs⟩ := formedT_bt h
  have e : btOf t = b := by
    by_cases h0 : b.size = 0
    · have : t = [] := List.eq_nil_of_length_eq_zero (by omega)
      subst this
      rw [Bt.nil_of_size h0]; rfl
    · exact btAt_eq t b 0 t.length (by omega) hs (by omega)
  rw [e]
  exact ⟨h31, hb, hs, Seg.eq hb hs⟩
theorem formed_bt (b : Bt) (h : b.size ≤ 31) : formedT (b.enc 0) = true := formedT_of (by rw [Bt.enc_len]; exact h) (by rw [Bt.enc_len]) (Seg.self b)
theorem btOf_enc (b : Bt) : btOf (b.enc 0) = b := by
  by_cases h0 : b.size = 0
  · rw [Bt.nil_of_size h0]; rfl
  · exact btAt_eq _ b 0 _ (by omega) (Seg.self b) (by rw [Bt.enc_len]; exact Nat.le_refl _)

/-- The block of a node as a tree. -/
def blockS (t : List Lf) (i : Int) : List Lf := if i = -1 then [] else match endS t i.toNat with
  | none => []
  | some n => shiftS (-i) ((t.drop i.toNat).take (n - i.toNat))
theorem seg_cut {t : List Lf} {b : Bt} {p : Nat} (hl : p + b.size ≤ t.length) (hs : Seg t p b) : (t.drop p).take b.size = b.enc p := by
  apply List.ext_getElem?
  intro j
  by_cases hj : j < b.size
  · rw [List.getElem?_take, if_pos hj, List.getElem?_drop, hs j hj]
  · rw [List.getElem?_eq_none (by rw [List.length_take]; omega), List.getElem?_eq_none (by rw [Bt.enc_len]; omega)]
theorem block_seg {t : List Lf} {b : Bt} {p : Nat} (hb : 0 < b.size) (hl : p + b.size ≤ t.length) (hs : Seg t p b) : blockS t p = b.enc 0 := by
  unfold blockS
  rw [if_neg (by omega), Int.toNat_natCast, end_at t b p hb hl hs]
  simp only
  rw [show p + b.size - p = b.size by omega, seg_cut hl hs, shift_enc b p 0 _ (by omega)]
theorem block_at {t : List Lf} {b : Bt} {p : Nat} (hl : p + b.size ≤ t.length) (hs : Seg t p b) : blockS t (b.at p) = b.enc 0 := by
  unfold Bt.at
  by_cases h0 : b.size = 0
  · rw [if_pos h0, Bt.nil_of_size h0]; rfl
  · rw [if_neg h0]; exact block_seg (by omega) hl hs

/-- The block of every node of a formed tree. -/
theorem seg_at {t : List Lf} (b : Bt) : ∀ p, Seg t p b → ∀ q, q < b.size → ∃ c : Bt, 0 < c.size ∧ q + c.size ≤ b.size ∧ Seg t (p + q) c := by
  induction b with
  | nil => intro p _ q h; simp [Bt.size] at h
  | node lab l r ihl ihr =>
    intro p hs q hq
    simp only [Bt.size] at hq
    have hsz : (Bt.node lab l r).size = 1 + l.size + r.size := by simp only [Bt.size]; omega
    by_cases h0 : q = 0
    · subst h0
      exact ⟨_, by omega, by omega, hs⟩
    · by_cases hl : q - 1 < l.size
      · obtain ⟨c, h1, h2, h3⟩ := ihl (p + 1) hs.left (q - 1) hl
        exact ⟨c, h1, by omega, by rw [show p + q = p + 1 + (q - 1) by omega]; exact h3⟩
      · obtain ⟨c, h1, h2, h3⟩ := ihr (p + 1 + l.size) hs.right (q - 1 - l.size) (by omega)
        exact ⟨c, h1, by omega, by rw [show p + q = p + 1 + l.size + (q - 1 - l.size) by omega]; exact h3⟩
theorem node_at {t : List Lf} {q : Nat} {x : Lf} (h : formedT t = true) (hx : t[q]? = some x) : ∃ l r : Bt, blockS t q = (Bt.node x.label l r).enc 0 ∧ blockS t x.left = l.enc 0 ∧ blockS t x.right = r.enc 0 ∧ endS t q = some (q + 1 + l.size + r.size) ∧ q + 1 + l.size + r.size ≤ t.length ∧
    x.left = l.at (q + 1) ∧ x.right = r.at (q + 1 + l.size) := by
  obtain ⟨h31, hb, hs, he⟩ := btOf_ok h
  have hq := (List.getElem?_eq_some_iff.1 hx).1
  obtain ⟨c, h1, h2, h3⟩ := seg_at _ 0 hs q (by omega)
  rw [Nat.zero_add] at h3
  have hbl := block_seg h1 (by omega) h3
  have hen := end_at t c q h1 (by omega) h3
  cases c with
  | nil => simp [Bt.size] at h1
  | node lab l r =>
    have hr := h3.root
    rw [hx] at hr
    cases hr
    simp only [Bt.size] at h2 hen
    refine ⟨l, r, hbl, block_at (by omega) h3.left, block_at (by omega) h3.right, by rw [hen]; congr 1; omega, by omega, rfl, rfl⟩
theorem block_end {t : List Lf} {c : Int} (h : formedT t = true) (h0 : 0 ≤ c) (h1 : c < t.length) : ∃ p m : Nat, c = p ∧ endS t p = some m := by
  obtain ⟨p, rfl⟩ : ∃ p : Nat, c = p := ⟨c.toNat, by omega⟩
  obtain ⟨l, r, _, _, _, e, _⟩ := node_at h (List.getElem?_eq_getElem (show p < t.length by omega))
  exact ⟨p, _, rfl, e⟩
theorem block_len {t : List Lf} {c : Int} (h : formedT t = true) (hc : c = -1 ∨ (0 ≤ c ∧ c < t.length)) : (blockS t c).length ≤ 31 ∧ formedT (blockS t c) = true := by
  have h31 := (btOf_ok h).1
  rcases hc with rfl | ⟨h0, h1⟩
  · exact ⟨by simp [blockS], by unfold blockS; rw [if_pos rfl]; rfl⟩
  · obtain ⟨p, rfl⟩ : ∃ p : Nat, c = p := ⟨c.toNat, by omega⟩
    obtain ⟨l, r, e, _, _, _, hl, _⟩ := node_at h (List.getElem?_eq_getElem (show p < t.length by omega))
    rw [e, Bt.enc_len]
    simp only [Bt.size]
    exact ⟨by omega, formed_bt _ (by simp only [Bt.size]; omega)⟩
def Bt.mir : Bt → Bt
  | .nil => .nil
  | .node lab l r => .node lab r.mir l.mir
theorem Bt.mir_size (b : Bt) : b.mir.size = b.size := by
  induction b with
  | nil => rfl
  | node lab l r ihl ihr => simp only [Bt.mir, Bt.size, ihl, ihr]; omega
theorem Bt.mir_mir (b : Bt) : b.mir.mir = b := by
  induction b with
  | nil => rfl
  | node lab l r ihl ihr => simp only [Bt.mir, ihl, ihr]
def mirrorS (t : List Lf) : List Lf := (btOf t).mir.enc 0
theorem mirrorS_len {t : List Lf} (h : formedT t = true) : (mirrorS t).length = t.length := by
  rw [mirrorS, Bt.enc_len, Bt.mir_size, (btOf_ok h).2.1]
theorem mirror_formed {t : List Lf} (h : formedT t = true) : formedT (mirrorS t) = true := by
  obtain ⟨h31, hs, _⟩ := btOf_ok h
  exact formed_bt _ (by rw [Bt.mir_size]; omega)
/-- The root of a formed tree, its blocks and its mirror image. -/
theorem mirror_root {t : List Lf} {x : Lf} (h : formedT t = true) (hx : t[0]? = some x) :
    mirrorS t = joinT x.label (mirrorS (blockS t x.right)) (mirrorS (blockS t x.left)) ∧ formedT (blockS t x.right) = true ∧ formedT (blockS t x.left) = true ∧
      (blockS t x.right).length < t.length ∧ (blockS t x.left).length < t.length ∧ (blockS t x.left).length + (blockS t x.right).length + 1 = t.length := by
  obtain ⟨h31, hb, hs, he⟩ := btOf_ok h
  have hm : mirrorS t = (btOf t).mir.enc 0 := rfl
  have hl : 0 < t.length := (List.getElem?_eq_some_iff.1 hx).1
  rw [hm]
  generalize btOf t = b at *
  cases b with
  | nil => simp [Bt.size] at hb; omega
  | node lab l r =>
    have hr := hs.root
    rw [hx] at hr
    cases hr
    simp only [Bt.size] at hb
    have e1 := block_at (p := 0 + 1) (by omega) hs.left
    have e2 := block_at (p := 0 + 1 + l.size) (by omega) hs.right
    simp only
    rw [e1, e2]
    simp only [mirrorS, btOf_enc, joinT_enc, Bt.mir, Bt.enc_len]
    exact ⟨trivial, formed_bt _ (by omega), formed_bt _ (by omega), by omega, by omega, by omega⟩
end Go.Proofs.YthkfjnmnoanhlaaGreatDoor

namespace Go.Proofs.YthkfjnmnoanhlaaGreatDoor

def Bt.depth : Bt → Nat
  | .nil => 0
  | .node _ l r => 1 + max l.depth r.depth
def Bt.lev : Bt → Nat → Nat → Nat
  | .nil, d, _ => d
  | .node _ l r, d, p => if p = 0 then d + 1 else if p - 1 < l.size then l.lev (d + 1) (p - 1) else r.lev (d + 1) (p - 1 - l.size)
theorem lev_zero {b : Bt} (h : 0 < b.size) (d : Nat) : b.lev d 0 = d + 1 := by
  cases b with
  | nil => simp [Bt.size] at h
  | node lab l r => simp [Bt.lev]
theorem lev_left (lab : Int) (l r : Bt) (d q : Nat) (h : q < l.size) : (Bt.node lab l r).lev d (1 + q) = l.lev (d + 1) q := by
  rw [Bt.lev, if_neg (by omega), if_pos (by omega), Nat.add_sub_cancel_left]
theorem lev_right (lab : Int) (l r : Bt) (d q : Nat) : (Bt.node lab l r).lev d (1 + l.size + q) = r.lev (d + 1) q := by
  rw [Bt.lev, if_neg (by omega), if_neg (by omega), show 1 + l.size + q - 1 - l.size = q by omega]
theorem lev_le (b : Bt) : ∀ d p, p < b.size → d < b.lev d p ∧ b.lev d p ≤ d + b.depth := by
  induction b with
  | nil => intro d p h; simp [Bt.size] at h
  | node lab l r ihl ihr =>
    intro d p h
    simp only [Bt.size] at h
    simp only [Bt.depth]
    have m1 := Nat.le_max_left l.depth r.depth
    have m2 := Nat.le_max_right l.depth r.depth
    by_cases h0 : p = 0
    · rw [h0, lev_zero (by simp only [Bt.size]; omega)]; omega
    · by_cases hl : p - 1 < l.size
      · obtain ⟨q, rfl⟩ : ∃ q, p = 1 + q := ⟨p - 1, by omega⟩
        rw [lev_left _ _ _ _ _ (by omega)]
        have := ihl (d + 1) q (by omega)
        omega
      · obtain ⟨q, rfl⟩ : ∃ q, p = 1 + l.size + q := ⟨p - 1 - l.size, by omega⟩
        rw [lev_right]
        have := ihr (d + 1) q (by omega)
        omega
theorem depth_pos {b : Bt} (h : 0 < b.size) : 0 < b.depth := by
  cases b with
  | nil => simp [Bt.size] at h
  | node lab l r => simp only [Bt.depth]; omega
theorem depth_nil {b : Bt} (h : b.size = 0) : b.depth = 0 := by rw [Bt.nil_of_size h]; rfl
theorem lev_top (b : Bt) (h : 0 < b.size) : ∃ p, p < b.size ∧ ∀ d, b.lev d p = d + b.depth := by
  induction b with
  | nil => simp [Bt.size] at h
  | node lab l r ihl ihr =>
    by_cases hl : l.size = 0
    · by_cases hr : r.size = 0
      · refine ⟨0, h, fun d => ?_⟩
        rw [lev_zero h]
        simp only [Bt.depth, depth_nil hl, depth_nil hr]
        omega
      · obtain ⟨p, hp, e⟩ := ihr (by omega)
        refine ⟨1 + l.size + p, by simp only [Bt.size]; omega, fun d => ?_⟩
        rw [lev_right, e]
        simp only [Bt.depth, depth_nil hl]
        omega
    · by_cases hd : r.depth ≤ l.depth
      · obtain ⟨p, hp, e⟩ := ihl (by omega)
        refine ⟨1 + p, by simp only [Bt.size]; omega, fun d => ?_⟩
        rw [lev_left _ _ _ _ _ hp, e]
        simp only [Bt.depth]
        omega
      · have hr : 0 < r.size := by
          rcases Nat.eq_zero_or_pos r.size with h0 | h0
          · rw [depth_nil h0] at hd; omega
          · exact h0
        obtain ⟨p, hp, e⟩ := ihr hr
        refine ⟨1 + l.size + p, by simp only [Bt.size]; omega, fun d => ?_⟩
        rw [lev_right, e]
        simp only [Bt.depth]
        omega
def topL (lv : Nat → Nat) : Nat → Nat
  | 0 => 0
  | k + 1 => max (topL lv k) (lv k)
theorem topL_le (lv : Nat → Nat) (m : Nat) : ∀ k, (∀ p, p < k → lv p ≤ m) → topL lv k ≤ m := by
  intro k
  induction k with
  | zero => intro _; exact Nat.zero_le _
  | succ k ih => intro h; rw [topL]; exact Nat.max_le.2 ⟨ih fun p hp => h p (by omega), h k (by omega)⟩
theorem le_topL (lv : Nat → Nat) : ∀ k p, p < k → lv p ≤ topL lv k := by
  intro k
  induction k with
  | zero => intro p h; omega
  | succ k ih =>
    intro p h
    rw [topL]
    have m1 := Nat.le_max_left (topL lv k) (lv k)
    have m2 := Nat.le_max_right (topL lv k) (lv k)
    by_cases hp : p = k
    · rw [hp]; exact m2
    · exact Nat.le_trans (ih p (by omega)) m1
theorem topL_depth (b : Bt) : topL (b.lev 0) b.size = b.depth := by
  rcases Nat.eq_zero_or_pos b.size with h0 | h0
  · rw [h0, depth_nil h0]; rfl
  · refine Nat.le_antisymm (topL_le _ _ _ fun p hp => ?_) ?_
    · have := (lev_le b 0 p hp).2; omega
    · obtain ⟨p, hp, e⟩ := lev_top b h0
      have := le_topL (b.lev 0) b.size p hp
      rw [e] at this
      omega
/-- A child: missing, or one level below. -/
def KidLev (b : Bt) (o d p : Nat) (c : Int) : Prop := c = -1 ∨ ∃ q : Nat, c = ((o + q : Nat) : Int) ∧ q < b.size ∧ p < q ∧ b.lev d q = b.lev d p + 1
theorem lev_kids (b : Bt) : ∀ o d p x, (b.enc o)[p]? = some x → KidLev b o d p x.left ∧ KidLev b o d p x.right := by
  induction b with
  | nil => intro o d p x h; simp [Bt.enc] at h
  | node lab l r ihl ihr =>
    intro o d p x h
    rw [Bt.enc] at h
    have hsz : (Bt.node lab l r).size = 1 + l.size + r.size := by simp only [Bt.size]; omega
    cases p with
    | zero =>
      simp only [List.getElem?_cons_zero, Option.some.injEq] at h
      subst h
      have e0 := lev_zero (b := .node lab l r) (by omega) d
      constructor
      · show KidLev _ o d 0 (l.at (o + 1))
        unfold Bt.at
        by_cases h0 : l.size = 0
        · rw [if_pos h0]; exact .inl rfl
        · rw [if_neg h0]
          exact .inr ⟨1, rfl, by omega, by omega, by rw [e0, show (1 : Nat) = 1 + 0 from rfl, lev_left _ _ _ _ _ (by omega), lev_zero (by omega)]⟩
      · show KidLev _ o d 0 (r.at (o + 1 + l.size))
        unfold Bt.at
        by_cases h0 : r.size = 0
        · rw [if_pos h0]; exact .inl rfl
        · rw [if_neg h0]
          exact .inr ⟨1 + l.size, by congr 1; omega, by omega, by omega, by rw [e0, show 1 + l.size = 1 + l.size + 0 from rfl, lev_right, lev_zero (by omega)]⟩
    | succ p =>
      rw [List.getElem?_cons_succ] at h
      by_cases hp : p < l.size
      · rw [List.getElem?_append_left (by rw [Bt.enc_len]; exact hp)] at h
        have hk : ∀ c, KidLev l (o + 1) (d + 1) p c → KidLev (.node lab l r) o d (p + 1) c := fun c hc => by
          rcases hc with rfl | ⟨q, rfl, h1, h2, h3⟩
          · exact .inl rfl
          · exact .inr ⟨1 + q, by congr 1; omega, by omega, by omega, by rw [lev_left _ _ _ _ _ h1, Nat.add_comm p 1, lev_left _ _ _ _ _ hp, h3]⟩
        exact ⟨hk _ (ihl _ _ _ _ h).1, hk _ (ihl _ _ _ _ h).2⟩
      · rw [List.getElem?_append_right (by rw [Bt.enc_len]; omega), Bt.enc_len] at h
        obtain ⟨k, rfl⟩ : ∃ k, p = l.size + k := ⟨p - l.size, by omega⟩
        rw [Nat.add_sub_cancel_left] at h
        have hk : ∀ c, KidLev r (o + 1 + l.size) (d + 1) k c → KidLev (.node lab l r) o d (l.size + k + 1) c := fun c hc => by
          rcases hc with rfl | ⟨q, rfl, h1, h2, h3⟩
          · exact .inl rfl
          · exact .inr ⟨1 + l.size + q, by congr 1; omega, by omega, by omega, by rw [lev_right, show l.size + k + 1 = 1 + l.size + k by omega, lev_right, h3]⟩
        exact ⟨hk _ (ihr _ _ _ _ h).1, hk _ (ihr _ _ _ _ h).2⟩
theorem lev_parent (b : Bt) : ∀ o q, 0 < q → q < b.size → ∃ p x, p < q ∧ (b.enc o)[p]? = some x ∧ (x.left = ((o + q : Nat) : Int) ∨ x.right = ((o + q : Nat) : Int)) := by
  induction b with
  | nil => intro o q _ h; simp [Bt.size] at h
  | node lab l r ihl ihr =>
    intro o q h0 h
    have hsz : (Bt.node lab l r).size = 1 + l.size + r.size := by simp only [Bt.size]; omega
    rw [Bt.enc]
    by_cases hl : q - 1 < l.size
    · by_cases h1 : q = 1
      · refine ⟨0, _, by omega, rfl, .inl ?_⟩
        show l.at (o + 1) = _
        unfold Bt.at
        rw [if_neg (by omega), h1]
      · obtain ⟨p, x, h2, h3, h4⟩ := ihl (o + 1) (q - 1) (by omega) hl
        refine ⟨p + 1, x, by omega, ?_, ?_⟩
        · rw [List.getElem?_cons_succ, List.getElem?_append_left (by rw [Bt.enc_len]; omega), h3]
        · rw [show o + q = o + 1 + (q - 1) by omega]; exact h4
    · by_cases h1 : q = 1 + l.size
      · refine ⟨0, _, by omega, rfl, .inr ?_⟩
        show r.at (o + 1 + l.size) = _
        unfold Bt.at
        rw [if_neg (by omega)]
        congr 1
        omega
      · obtain ⟨p, x, h2, h3, h4⟩ := ihr (o + 1 + l.size) (q - 1 - l.size) (by omega) (by omega)
        refine ⟨p + l.size + 1, x, by omega, ?_, ?_⟩
        · rw [List.getElem?_cons_succ, List.getElem?_append_right (by rw [Bt.enc_len]; omega), Bt.enc_len, Nat.add_sub_cancel, h3]
        · rw [show o + q = o + 1 + l.size + (q - 1 - l.size) by omega]; exact h4
/-- The levels that the program keeps: the level of the parent, if the parent was seen. -/
def LevOk (t : List Lf) (i : Nat) (L : List Nat) : Prop := L.length = t.length ∧ L[0]? = some 0 ∧ ∀ p x, p < i → t[p]? = some x → ∀ c : Nat, (x.left = c ∨ x.right = c) → L[c]? = some ((btOf t).lev 0 p)
theorem lev_now {t : List Lf} {i : Nat} {L : List Nat} (hf : formedT t = true) (h : LevOk t i L) (hi : i < t.length) : L[i]? = some ((btOf t).lev 0 i - 1) := by
  obtain ⟨_, hb, hs, he⟩ := btOf_ok hf
  by_cases h0 : i = 0
  · rw [h0, h.2.1, lev_zero (by omega)]
  · obtain ⟨p, x, hp, hx, hc⟩ := lev_parent (btOf t) 0 i (by omega) (by omega)
    rw [← he] at hx
    rw [Nat.zero_add] at hc
    rw [h.2.2 p x hp hx i hc]
    have hk := lev_kids (btOf t) 0 0 p x (by rw [← he]; exact hx)
    congr 1
    have hh : ∀ c, KidLev (btOf t) 0 0 p c → c = (i : Int) → (btOf t).lev 0 p = (btOf t).lev 0 i - 1 := fun c hc e => by
      rcases hc with h | ⟨q, h1, h2, h3, h4⟩
      · omega
      · have : q = i := by omega
        subst this
        omega
    rcases hc with hc | hc
    · exact hh _ hk.1 hc
    · exact hh _ hk.2 hc
def putL (L : List Nat) (c : Int) (v : Nat) : List Nat := if c = -1 then L else L.set c.toNat v
theorem putL_len (L : List Nat) (c : Int) (v : Nat) : (putL L c v).length = L.length := by unfold putL; split <;> simp
theorem lev_next {t : List Lf} {i : Nat} {x : Lf} {L : List Nat} (hf : formedT t = true) (h : LevOk t i L) (hx : t[i]? = some x) : LevOk t (i + 1) (putL (putL L x.left ((btOf t).lev 0 i)) x.right ((btOf t).lev 0 i)) := by
  obtain ⟨_, hb, hs, he⟩ := btOf_ok hf
  obtain ⟨h1, h2, h3⟩ := h
  have hkk := fun p y (hy : t[p]? = some y) => lev_kids (btOf t) 0 0 p y (by rw [← he]; exact hy)
  generalize hv : (btOf t).lev 0 i = v at *
  have hput : ∀ (M : List Nat) (c : Int) (j : Nat) (w : Nat), M.length = t.length → KidLev (btOf t) 0 0 i c → (M[j]? = some w ∨ ((c = (j : Int)) ∧ w = v)) → (c = (j : Int) → w = v) → (putL M c v)[j]? = some w := fun M c j w hM hc hj hcj => by
    unfold putL
    by_cases h0 : c = -1
    · rw [if_pos h0]
      rcases hj with hj | hj
      · exact hj
      · omega
    · rw [if_neg h0]
      rcases hc with hc | ⟨q, hq1, hq2, _, _⟩
      · exact absurd hc h0
      · rw [Nat.zero_add] at hq1
        subst hq1
        rw [Int.toNat_natCast]
        by_cases hqj : q = j
        · subst hqj
          rw [List.getElem?_set_self (by omega), hcj rfl]
        · rw [List.getElem?_set_ne hqj]
          rcases hj with hj | hj
          · exact hj
          · exact absurd (by omega) hqj
  have hkx := hkk i x hx
  have hc0 : ∀ c, KidLev (btOf t) 0 0 i c → c ≠ ((0 : Nat) : Int) := fun c hc => by
    rcases hc with hc | ⟨q, hq1, _, hq3, _⟩ <;> omega
  refine ⟨by rw [putL_len, putL_len, h1], ?_, ?_⟩
  · refine hput _ _ _ _ (by rw [putL_len, h1]) hkx.2 (.inl ?_) (fun e => absurd e (hc0 _ hkx.2))
    exact hput _ _ _ _ h1 hkx.1 (.inl h2) (fun e => absurd e (hc0 _ hkx.1))
  · intro p y hp hy c hc
    by_cases hpi : p = i
    · subst hpi
      rw [hx] at hy
      cases hy
      rw [hv]
      by_cases hr : x.right = (c : Int)
      · exact hput _ _ _ _ (by rw [putL_len, h1]) hkx.2 (.inr ⟨hr, rfl⟩) (fun _ => rfl)
      · have hl : x.left = (c : Int) := hc.resolve_right hr
        refine hput _ _ _ _ (by rw [putL_len, h1]) hkx.2 (.inl ?_) (fun _ => rfl)
        exact hput _ _ _ _ h1 hkx.1 (.inr ⟨hl, rfl⟩) (fun _ => rfl)
    · have hold := h3 p y (by omega) hy c hc
      have hlev : ∀ d, KidLev (btOf t) 0 0 i d → d = (c : Int) → (btOf t).lev 0 p = v := fun d hd e => by
        have hy2 := hkk p y hy
        have e1 : (btOf t).lev 0 c = (btOf t).lev 0 p + 1 := by
          rcases hc with hc | hc
          · rcases hy2.1 with h | ⟨q, q1, _, _, q4⟩
            · omega
            · have : q = c := by omega
              subst this; exact q4
          · rcases hy2.2 with h | ⟨q, q1, _, _, q4⟩
            · omega
            · have : q = c := by omega
              subst this; exact q4
        rcases hd with h | ⟨q, q1, _, _, q4⟩
        · omega
        · have : q = c := by omega
          subst this
          rw [hv] at q4
          omega
      refine hput _ _ _ _ (by rw [putL_len, h1]) hkx.2 (.inl ?_) (fun e => hlev _ hkx.2 e)
      exact hput _ _ _ _ h1 hkx.1 (.inl hold) (fun e => hlev _ hkx.1 e)
theorem lev_start (t : List Lf) (h : 0 < t.length) : LevOk t 0 (List.replicate t.length 0) := ⟨by simp, by rw [List.getElem?_replicate, if_pos h], fun p x hp => by omega⟩
def depthS (t : List Lf) : Nat := if formedT t = false then 0 else (btOf t).depth
def sizeS (t : List Lf) : Nat := if formedT t = false then 0 else t.length
theorem topL_t {t : List Lf} (hf : formedT t = true) : topL ((btOf t).lev 0) t.length = depthS t := by
  obtain ⟨_, hb, _⟩ := btOf_ok hf
  rw [← hb, topL_depth, depthS, if_neg (by rw [hf]; simp)]
theorem lev_small {t : List Lf} (hf : formedT t = true) (i : Nat) (hi : i < t.length) : 1 ≤ (btOf t).lev 0 i ∧ (btOf t).lev 0 i ≤ 31 := by
  obtain ⟨h31, hb, _⟩ := btOf_ok hf
  have hd : ∀ b : Bt, b.depth ≤ b.size := fun b => by
    induction b with
    | nil => simp [Bt.depth]
    | node lab l r ihl ihr => simp only [Bt.depth, Bt.size]; omega
  have := lev_le (btOf t) 0 i (by omega)
  have := hd (btOf t)
  omega
theorem mir_depth (b : Bt) : b.mir.depth = b.depth := by
  induction b with
  | nil => rfl
  | node lab l r ihl ihr => simp only [Bt.mir, Bt.depth, ihl, ihr]; omega

/-- The code of a tree. -/
def Bt.code : Bt → List Int
  | .nil => [0]
  | .node lab l r => (1 + lab) :: (l.code ++ r.code)
theorem Bt.code_len (b : Bt) : b.code.length = 2 * b.size + 1 := by
  induction b with
  | nil => rfl
  | node lab l r ihl ihr => simp only [Bt.code, Bt.size, List.length_cons, List.length_append, ihl, ihr]; omega
def Bt.pos : Bt → Prop
  | .nil => True
  | .node lab l r => 0 ≤ lab ∧ l.pos ∧ r.pos
theorem code_inj (a : Bt) : ∀ (b : Bt) (x y : List Int), a.pos → b.pos → a.code ++ x = b.code ++ y → a = b ∧ x = y := by
  induction a with
  | nil =>
    intro b x y _ hb h
    cases b with
    | nil => exact ⟨rfl, by simpa [Bt.code] using h⟩
    | node lab l r =>
      simp only [Bt.code, List.cons_append, List.nil_append, List.cons.injEq] at h
      have := hb.1
      omega
  | node lab l r ihl ihr =>
    intro b x y ha hb h
    cases b with
    | nil =>
      simp only [Bt.code, List.cons_append, List.nil_append, List.cons.injEq] at h
      have := ha.1
      omega
    | node lab2 l2 r2 =>
      simp only [Bt.code, List.cons_append, List.append_assoc, List.cons.injEq] at h
      obtain ⟨h1, h2⟩ := h
      obtain ⟨rfl, h3⟩ := ihl _ _ _ ha.2.1 hb.2.1 h2
      obtain ⟨rfl, h4⟩ := ihr _ _ _ ha.2.2 hb.2.2 h3
      exact ⟨by rw [show lab = lab2 by omega], h4⟩
theorem pos_enc (b : Bt) : ∀ p, (∀ m ∈ b.enc p, 0 ≤ m.label) → b.pos := by
  induction b with
  | nil => intro p _; trivial
  | node lab l r ihl ihr =>
    intro p h
    simp only [Bt.enc, List.mem_cons, List.mem_append] at h
    exact ⟨h _ (.inl rfl), ihl _ fun m hm => h m (.inr (.inl hm)), ihr _ fun m hm => h m (.inr (.inr hm))⟩
def cmpI (a b : Int) : Int := if a < b then -1 else if b < a then 1 else 0
/-- slices.Compare at integers. -/
def cmpL : List Int → List Int → Int
  | [], [] => 0
  | [], _ :: _ => -1
  | _ :: _, [] => 1
  | a :: x, b :: y => if cmpI a b = 0 then cmpL x y else cmpI a b
theorem cmpI_swap (a b : Int) : cmpI a b = -cmpI b a := by unfold cmpI; repeat' split
                                                           all_goals omega
theorem cmpI_zero {a b : Int} : cmpI a b = 0 ↔ a = b := by unfold cmpI; repeat' split
                                                           all_goals omega
theorem cmpI_ran (a b : Int) : cmpI a b = -1 ∨ cmpI a b = 0 ∨ cmpI a b = 1 := by unfold cmpI; repeat' split
                                                                                 all_goals omega
theorem cmpI_neg {a b : Int} : cmpI a b < 0 ↔ a < b := by unfold cmpI; repeat' split
                                                          all_goals omega
theorem cmpI_le {a b : Int} : cmpI a b ≤ 0 ↔ a ≤ b := by unfold cmpI; repeat' split
                                                         all_goals omega
theorem cmpL_swap : ∀ x y, cmpL x y = -cmpL y x
  | [], [] => rfl
  | [], _ :: _ => rfl
  | _ :: _, [] => rfl
  | a :: x, b :: y => by
    have h1 := cmpI_swap a b
    have h2 := cmpL_swap x y
    simp only [cmpL]
    by_cases h : cmpI a b = 0
    · rw [if_pos h, if_pos (by omega), h2]
    · rw [if_neg h, if_neg (by omega), h1]
theorem cmpL_zero : ∀ x y, cmpL x y = 0 ↔ x = y
  | [], [] => by simp [cmpL]
  | [], _ :: _ => by simp [cmpL]
  | _ :: _, [] => by simp [cmpL]
  | a :: x, b :: y => by
    have h1 := @cmpI_zero a b
    have h2 := cmpL_zero x y
    simp only [cmpL, List.cons.injEq]
    by_cases h : cmpI a b = 0
    · rw [if_pos h, h2]; simp [h1.1 h]
    · rw [if_neg h]
      constructor
      · intro h0; exact absurd h0 h
      · intro h0; exact absurd (h1.2 h0.1) h
theorem cmpL_ran : ∀ x y, cmpL x y = -1 ∨ cmpL x y = 0 ∨ cmpL x y = 1
  | [], [] => by simp [cmpL]
  | [], _ :: _ => by simp [cmpL]
  | _ :: _, [] => by simp [cmpL]
  | a :: x, b :: y => by
    simp only [cmpL]
    by_cases h : cmpI a b = 0
    · rw [if_pos h]; exact cmpL_ran x y
    · rw [if_neg h]; exact cmpI_ran a b
theorem cmpL_trans : ∀ x y z, cmpL x y ≤ 0 → cmpL y z ≤ 0 → cmpL x z ≤ 0 ∧ (cmpL x y < 0 → cmpL x z < 0) ∧ (cmpL y z < 0 → cmpL x z < 0)
  | [], y, [] => by
    intro h1 h2
    cases y with
    | nil => simp [cmpL]
    | cons b y => simp [cmpL] at h2
  | [], y, c :: z => by intro _ _; simp [cmpL]
  | a :: x, [], z => by intro h; simp [cmpL] at h
  | a :: x, b :: y, [] => by intro _ h; simp [cmpL] at h
  | a :: x, b :: y, c :: z => by
    have ih := cmpL_trans x y z
    have n1 := @cmpI_neg a b; have n2 := @cmpI_neg b c; have n3 := @cmpI_neg a c
    have l1 := @cmpI_le a b; have l2 := @cmpI_le b c; have l3 := @cmpI_le a c
    have z1 := @cmpI_zero a b; have z2 := @cmpI_zero b c; have z3 := @cmpI_zero a c
    simp only [cmpL]
    intro h1 h2
    by_cases e1 : cmpI a b = 0
    · rw [if_pos e1] at h1 ⊢
      have ea := z1.1 e1
      subst ea
      by_cases e2 : cmpI a c = 0
      · simp only [if_pos e2] at h2 ⊢
        exact ih h1 h2
      · simp only [if_neg e2] at h2 ⊢
        exact ⟨h2, fun _ => by omega, fun h => h⟩
    · rw [if_neg e1] at h1 ⊢
      have hab : a < b := by omega
      have hbc : b ≤ c := by
        by_cases e2 : cmpI b c = 0
        · exact Int.le_of_eq (z2.1 e2)
        · rw [if_neg e2] at h2; exact l2.1 h2
      have e3 : ¬ cmpI a c = 0 := by omega
      have e4 : cmpI a c < 0 := n3.2 (by omega)
      rw [if_neg e3]
      exact ⟨by omega, fun _ => e4, fun _ => e4⟩
def nf (t : List Lf) : List Lf := if formedT t = false then [] else t
def compareS (a b : List Lf) : Int := if cmpI (nf a).length (nf b).length = 0 then cmpL (btOf (nf a)).code (btOf (nf b)).code else cmpI (nf a).length (nf b).length
theorem nf_of {t : List Lf} (h : formedT t = true) : nf t = t := by unfold nf; rw [if_neg (by rw [h]; simp)]
theorem btOf_inj {a b : List Lf} (ha : formedT a = true) (hb : formedT b = true) (h : btOf a = btOf b) : a = b := by
  rw [(btOf_ok ha).2.2.2, (btOf_ok hb).2.2.2, h]
theorem compare_swap (a b : List Lf) : compareS a b = -compareS b a := by
  unfold compareS
  have h := cmpI_swap (nf a).length (nf b).length
  by_cases h0 : cmpI (nf a).length (nf b).length = 0
  · rw [if_pos h0, if_pos (by omega)]; exact cmpL_swap _ _
  · rw [if_neg h0, if_neg (by omega), h]
theorem compare_ran (a b : List Lf) : compareS a b = -1 ∨ compareS a b = 0 ∨ compareS a b = 1 := by
  unfold compareS
  split
  · exact cmpL_ran _ _
  · exact cmpI_ran _ _
theorem compare_zero {a b : List Lf} (ha : formedT a = true) (hb : formedT b = true) (pa : ∀ m ∈ a, 0 ≤ m.label) (pb : ∀ m ∈ b, 0 ≤ m.label) : compareS a b = 0 ↔ a = b := by
  unfold compareS
  rw [nf_of ha, nf_of hb]
  constructor
  · intro h
    by_cases h0 : cmpI a.length b.length = 0
    · rw [if_pos h0] at h
      have hc := (cmpL_zero _ _).1 h
      have qa := pos_enc (btOf a) 0 (by rw [← (btOf_ok ha).2.2.2]; exact pa)
      have qb := pos_enc (btOf b) 0 (by rw [← (btOf_ok hb).2.2.2]; exact pb)
      exact btOf_inj ha hb (code_inj _ _ [] [] qa qb (by rw [List.append_nil, List.append_nil]; exact hc)).1
    · rw [if_neg h0] at h
      exact absurd h h0
  · intro h
    subst h
    rw [if_pos (cmpI_zero.2 rfl)]
    exact (cmpL_zero _ _).2 rfl
theorem compare_less {a b : List Lf} (ha : formedT a = true) (hb : formedT b = true) (h : a.length < b.length) : compareS a b = -1 := by
  unfold compareS
  rw [nf_of ha, nf_of hb]
  have : cmpI a.length b.length = -1 := by unfold cmpI; rw [if_pos (by omega)]
  rw [this, if_neg (by omega)]
theorem compare_trans (a b c : List Lf) (h1 : compareS a b ≤ 0) (h2 : compareS b c ≤ 0) : compareS a c ≤ 0 ∧ (compareS a b < 0 → compareS a c < 0) ∧ (compareS b c < 0 → compareS a c < 0) := by
  unfold compareS at *
  generalize ((nf a).length : Int) = x at *
  generalize ((nf b).length : Int) = y at *
  generalize ((nf c).length : Int) = z at *
  have n1 := @cmpI_neg x y; have n2 := @cmpI_neg y z; have n3 := @cmpI_neg x z
  have l1 := @cmpI_le x y; have l2 := @cmpI_le y z; have l3 := @cmpI_le x z
  have z1 := @cmpI_zero x y; have z2 := @cmpI_zero y z; have z3 := @cmpI_zero x z
  by_cases e1 : cmpI x y = 0
  · have := z1.1 e1
    subst this
    rw [if_pos e1] at h1 ⊢
    by_cases e2 : cmpI x z = 0
    · simp only [if_pos e2] at h2 ⊢
      exact cmpL_trans _ _ _ h1 h2
    · simp only [if_neg e2] at h2 ⊢
      exact ⟨h2, fun _ => by omega, fun h => h⟩
  · rw [if_neg e1] at h1 ⊢
    have hxy : x < y := by omega
    have hyz : y ≤ z := by
      by_cases e2 : cmpI y z = 0
      · exact Int.le_of_eq (z2.1 e2)
      · rw [if_neg e2] at h2; exact l2.1 h2
    have e4 : cmpI x z < 0 := n3.2 (by omega)
    rw [if_neg (by omega)]
    exact ⟨by omega, fun _ => e4, fun _ => e4⟩
end Go.Proofs.YthkfjnmnoanhlaaGreatDoor

namespace Go.Proofs.YthkfjnmnoanhlaaGreatDoor

/-- The codes that go on: steps that are left, missing subtrees, missing nodes; K labels. -/
def codesF (K : Nat) : Nat → Nat → Nat → List (List Int)
  | 0, _, _ => [[]]
  | f + 1, o, l => if o = 0 then [[]] else
      (if 1 < o ∨ l = 0 then (codesF K f (o - 1) l).map (0 :: ·) else []) ++
      (if 0 < l then (List.range K).flatMap (fun (c : Nat) => (codesF K f (o + 1) (l - 1)).map (((c : Int) + 1) :: ·)) else [])
def cntF (K : Nat) : Nat → Nat → Nat → Nat
  | 0, _, _ => 1
  | f + 1, o, l => if o = 0 then 1 else (if 1 < o ∨ l = 0 then cntF K f (o - 1) l else 0) + (if 0 < l then K * cntF K f (o + 1) (l - 1) else 0)
theorem flatMap_len {α β : Type} (l : List α) (g : α → List β) (n : Nat) (h : ∀ x ∈ l, (g x).length = n) : (l.flatMap g).length = l.length * n := by
  induction l with
  | nil => simp
  | cons a l ih =>
    rw [List.flatMap_cons, List.length_append, h a (by simp), ih (fun x hx => h x (by simp [hx])), List.length_cons, Nat.succ_mul]
    omega
theorem codes_len (K : Nat) : ∀ f o l, (codesF K f o l).length = cntF K f o l := by
  intro f
  induction f with
  | zero => intro o l; rfl
  | succ f ih =>
    intro o l
    unfold codesF cntF
    by_cases ho : o = 0
    · rw [if_pos ho, if_pos ho]; rfl
    · rw [if_neg ho, if_neg ho, List.length_append]
      congr 1
      · split
        · rw [List.length_map, ih]
        · rfl
      · split
        · rw [flatMap_len _ _ (cntF K f (o + 1) (l - 1)) (fun x _ => by rw [List.length_map, ih]), List.length_range]
        · rfl

def Bt.lt (K : Nat) : Bt → Prop
  | .nil => True
  | .node lab l r => 0 ≤ lab ∧ lab < K ∧ l.lt K ∧ r.lt K
theorem Bt.lt.pos {K : Nat} : ∀ {b : Bt}, b.lt K → b.pos
  | .nil, _ => trivial
  | .node _ _ _, h => ⟨h.1, Bt.lt.pos h.2.2.1, Bt.lt.pos h.2.2.2⟩
theorem lt_enc {K : Nat} (b : Bt) : ∀ p, (∀ m ∈ b.enc p, 0 ≤ m.label ∧ m.label < K) ↔ b.lt K := by
  induction b with
  | nil => intro p; simp [Bt.enc, Bt.lt]
  | node lab l r ihl ihr =>
    intro p
    simp only [Bt.enc, List.mem_cons, List.mem_append, Bt.lt]
    constructor
    · intro h
      have h0 := h _ (.inl rfl)
      exact ⟨h0.1, h0.2, (ihl (p + 1)).1 fun m hm => h m (.inr (.inl hm)), (ihr (p + 1 + l.size)).1 fun m hm => h m (.inr (.inr hm))⟩
    · rintro ⟨h1, h2, h3, h4⟩ m (rfl | hm | hm)
      · exact ⟨h1, h2⟩
      · exact (ihl _).2 h3 m hm
      · exact (ihr _).2 h4 m hm
def bsize (bs : List Bt) : Nat := (bs.map Bt.size).sum
def bcode (bs : List Bt) : List Int := bs.flatMap Bt.code
theorem bsize_cons (b : Bt) (bs : List Bt) : bsize (b :: bs) = b.size + bsize bs := by simp [bsize]
theorem bcode_cons (b : Bt) (bs : List Bt) : bcode (b :: bs) = b.code ++ bcode bs := by simp [bcode]
theorem mem_codes (K : Nat) : ∀ f o l (x : List Int), 2 * l + o = f → (o = 0 → l = 0) → (x ∈ codesF K f o l ↔ ∃ bs : List Bt, bs.length = o ∧ bsize bs = l ∧ (∀ b ∈ bs, b.lt K) ∧ x = bcode bs) := by
  intro f
  induction f with
  | zero =>
    intro o l x h h0
    have ho : o = 0 := by omega
    have hl : l = 0 := by omega
    subst ho; subst hl
    simp only [codesF, List.mem_singleton]
    constructor
    · rintro rfl; exact ⟨[], rfl, rfl, by simp, rfl⟩
    · rintro ⟨bs, h1, _, _, h4⟩
      have : bs = [] := List.eq_nil_of_length_eq_zero h1
      subst this
      exact h4
  | succ f ih =>
    intro o l x h h0
    have ho : o ≠ 0 := by omega
    simp only [codesF, if_neg ho, List.mem_append]
    constructor
    · rintro (hx | hx)
      · by_cases hg : 1 < o ∨ l = 0
        · rw [if_pos hg, List.mem_map] at hx
          obtain ⟨y, hy, rfl⟩ := hx
          obtain ⟨bs, h1, h2, h3, h4⟩ := (ih (o - 1) l y (by omega) (by omega)).1 hy
          refine ⟨.nil :: bs, by rw [List.length_cons]; omega, by rw [bsize_cons, h2]; simp [Bt.size], ?_, by rw [bcode_cons, h4]; rfl⟩
          intro b hb
          rcases List.mem_cons.1 hb with rfl | hb
          · trivial
          · exact h3 b hb
        · rw [if_neg hg] at hx; simp at hx
      · by_cases hg : 0 < l
        · rw [if_pos hg, List.mem_flatMap] at hx
          obtain ⟨c, hc, hx⟩ := hx
          rw [List.mem_map] at hx
          obtain ⟨y, hy, rfl⟩ := hx
          rw [List.mem_range] at hc
          obtain ⟨bs, h1, h2, h3, h4⟩ := (ih (o + 1) (l - 1) y (by omega) (by omega)).1 hy
          match bs, h1, h2, h3, h4 with
          | [], h1, _, _, _ => simp at h1
          | [_], h1, _, _, _ => simp at h1; omega
          | a :: b :: rest, h1, h2, h3, h4 =>
            rw [bsize_cons, bsize_cons] at h2
            refine ⟨.node c a b :: rest, by simp only [List.length_cons] at h1 ⊢; omega, by rw [bsize_cons]; simp only [Bt.size]; omega, ?_, ?_⟩
            · intro d hd
              rcases List.mem_cons.1 hd with rfl | hd
              · exact ⟨by omega, by omega, h3 a (by simp), h3 b (by simp)⟩
              · exact h3 d (by simp [hd])
            · rw [h4, bcode_cons, bcode_cons, bcode_cons]
              simp only [Bt.code, List.cons_append, List.append_assoc]
              rw [Int.add_comm]
        · rw [if_neg hg] at hx; simp at hx
    · rintro ⟨bs, h1, h2, h3, rfl⟩
      match bs, h1, h2, h3 with
      | [], h1, _, _ => simp at h1; omega
      | .nil :: rest, h1, h2, h3 =>
        left
        rw [bsize_cons] at h2
        simp only [Bt.size, Nat.zero_add, List.length_cons] at h1 h2
        have hg : 1 < o ∨ l = 0 := by
          by_cases h5 : 1 < o
          · exact .inl h5
          · have : rest = [] := List.eq_nil_of_length_eq_zero (by omega)
            subst this
            exact .inr h2.symm
        rw [if_pos hg, List.mem_map]
        exact ⟨bcode rest, (ih (o - 1) l _ (by omega) (by omega)).2 ⟨rest, by omega, h2, fun b hb => h3 b (by simp [hb]), rfl⟩, by rw [bcode_cons]; rfl⟩
      | .node lab a b :: rest, h1, h2, h3 =>
        right
        rw [bsize_cons] at h2
        simp only [Bt.size, List.length_cons] at h1 h2
        have hl := h3 (.node lab a b) (by simp)
        rw [if_pos (by omega), List.mem_flatMap]
        refine ⟨lab.toNat, List.mem_range.2 (by have := hl.1; have := hl.2.1; omega), List.mem_map.2 ⟨bcode (a :: b :: rest), (ih (o + 1) (l - 1) _ (by omega) (by omega)).2 ⟨_, by simp only [List.length_cons]; omega, by rw [bsize_cons, bsize_cons]; omega, ?_, rfl⟩, ?_⟩⟩
        · intro d hd
          simp only [List.mem_cons] at hd
          rcases hd with rfl | rfl | hd
          · exact hl.2.2.1
          · exact hl.2.2.2
          · exact h3 d (by simp [hd])
        · rw [bcode_cons, bcode_cons, bcode_cons]
          simp only [Bt.code, List.cons_append, List.append_assoc]
          rw [Int.toNat_of_nonneg hl.1, Int.add_comm]

theorem cmpL_same (c : Int) (x y : List Int) : cmpL (c :: x) (c :: y) = cmpL x y := by
  simp only [cmpL]
  rw [if_pos (cmpI_zero.2 rfl)]
theorem cmpL_less {c d : Int} (x y : List Int) (h : c < d) : cmpL (c :: x) (d :: y) = -1 := by
  have e : cmpI c d = -1 := by unfold cmpI; rw [if_pos h]
  simp only [cmpL]
  rw [e, if_neg (by omega)]
theorem codes_sorted (K : Nat) : ∀ f o l, (codesF K f o l).Pairwise (fun x y => cmpL x y = -1) := by
  intro f
  induction f with
  | zero => intro o l; simp [codesF]
  | succ f ih =>
    intro o l
    unfold codesF
    by_cases ho : o = 0
    · rw [if_pos ho]; simp
    · rw [if_neg ho, List.pairwise_append]
      refine ⟨?_, ?_, ?_⟩
      · split
        · exact List.pairwise_map.2 ((ih _ _).imp fun h => by rw [cmpL_same]; exact h)
        · exact List.Pairwise.nil
      · split
        · rw [List.pairwise_flatMap]
          refine ⟨fun c _ => List.pairwise_map.2 ((ih _ _).imp fun h => by rw [cmpL_same]; exact h), ?_⟩
          refine (List.pairwise_lt_range (n := K)).imp ?_
          intro a b hab x hx y hy
          obtain ⟨x', _, rfl⟩ := List.mem_map.1 hx
          obtain ⟨y', _, rfl⟩ := List.mem_map.1 hy
          exact cmpL_less _ _ (by omega)
        · exact List.Pairwise.nil
      · intro x hx y hy
        by_cases hg : 0 < l
        · rw [if_pos hg, List.mem_flatMap] at hy
          obtain ⟨c, _, hy⟩ := hy
          obtain ⟨y', _, rfl⟩ := List.mem_map.1 hy
          split at hx
          · obtain ⟨x', _, rfl⟩ := List.mem_map.1 hx
            exact cmpL_less _ _ (by omega)
          · simp at hx
        · rw [if_neg hg] at hy; simp at hy

/-- The tree of a code, and what follows it. -/
def decB : Nat → List Int → Bt × List Int
  | 0, x => (.nil, x)
  | _ + 1, [] => (.nil, [])
  | f + 1, c :: x => if c = 0 then (.nil, x) else (.node (c - 1) (decB f x).1 (decB f (decB f x).2).1, (decB f (decB f x).2).2)
theorem decB_code : ∀ (b : Bt) (f : Nat) (x : List Int), b.pos → 2 * b.size + 1 ≤ f → decB f (b.code ++ x) = (b, x) := by
  intro b
  induction b with
  | nil =>
    intro f x _ hf
    obtain ⟨f, rfl⟩ : ∃ g, f = g + 1 := ⟨f - 1, by omega⟩
    simp [Bt.code, decB]
  | node lab l r ihl ihr =>
    intro f x hp hf
    obtain ⟨f, rfl⟩ : ∃ g, f = g + 1 := ⟨f - 1, by omega⟩
    simp only [Bt.size] at hf
    have h0 : ¬ (1 + lab = 0) := by have := hp.1; omega
    simp only [Bt.code, List.cons_append, List.append_assoc, decB]
    rw [if_neg h0, ihl f _ hp.2.1 (by omega)]
    simp only
    rw [ihr f _ hp.2.2 (by omega)]
    simp only [Prod.mk.injEq, Bt.node.injEq, and_true, true_and]
    omega
def codesS (K n : Nat) : List (List Int) := codesF K (2 * n + 1) 1 n
def btsS (K n : Nat) : List Bt := (codesS K n).map fun x => (decB x.length x).1
theorem mem_codesS {K n : Nat} {x : List Int} : x ∈ codesS K n ↔ ∃ b : Bt, b.size = n ∧ b.lt K ∧ x = b.code := by
  unfold codesS
  rw [mem_codes K _ 1 n x rfl (by omega)]
  constructor
  · rintro ⟨bs, h1, h2, h3, rfl⟩
    match bs, h1, h2, h3 with
    | [b], _, h2, h3 => exact ⟨b, by simpa [bsize] using h2, h3 b (by simp), by simp [bcode]⟩
  · rintro ⟨b, h1, h2, rfl⟩
    exact ⟨[b], rfl, by simpa [bsize] using h1, by simpa using h2, by simp [bcode]⟩
theorem decB_self {b : Bt} (h : b.pos) : (decB b.code.length b.code).1 = b := by
  have := decB_code b b.code.length [] h (by rw [Bt.code_len]; omega)
  rw [List.append_nil] at this
  rw [this]
theorem bts_code (K n : Nat) : (btsS K n).map Bt.code = codesS K n := by
  unfold btsS
  rw [List.map_map]
  conv => rhs; rw [← List.map_id (codesS K n)]
  apply List.map_congr_left
  intro x hx
  obtain ⟨b, _, h2, rfl⟩ := mem_codesS.1 hx
  simp only [Function.comp, id]
  rw [decB_self h2.pos]
theorem mem_bts {K n : Nat} {b : Bt} : b ∈ btsS K n ↔ b.size = n ∧ b.lt K := by
  unfold btsS
  rw [List.mem_map]
  constructor
  · rintro ⟨x, hx, rfl⟩
    obtain ⟨c, h1, h2, rfl⟩ := mem_codesS.1 hx
    rw [decB_self h2.pos]
    exact ⟨h1, h2⟩
  · rintro ⟨h1, h2⟩
    exact ⟨b.code, mem_codesS.2 ⟨b, h1, h2, rfl⟩, decB_self h2.pos⟩
theorem bts_sorted (K n : Nat) : (btsS K n).Pairwise (fun a b => cmpL a.code b.code = -1) := by
  have h := codes_sorted K (2 * n + 1) 1 n
  rw [show codesF K (2 * n + 1) 1 n = codesS K n from rfl, ← bts_code] at h
  exact List.pairwise_map.1 h
theorem bts_len (K n : Nat) : (btsS K n).length = cntF K (2 * n + 1) 1 n := by
  unfold btsS
  rw [List.length_map]
  exact codes_len K _ 1 n

def allS (vars n : Int) : List (List Lf) × Int :=
  if vars < 0 ∨ 3 < vars then ([], 7) else if n < 0 ∨ 31 < n then ([], 1) else
    if 4096 < cntF (2 ^ vars.toNat) (2 * n.toNat + 1) 1 n.toNat then ([], 10) else ((btsS (2 ^ vars.toNat) n.toNat).map fun b => b.enc 0, 0)
end Go.Proofs.YthkfjnmnoanhlaaGreatDoor

namespace Go.Proofs.YthkfjnmnoanhlaaGreatDoor

theorem cntF_succ (K f o l : Nat) : cntF K (f + 1) o l = if o = 0 then 1 else (if 1 < o ∨ l = 0 then cntF K f (o - 1) l else 0) + (if 0 < l then K * cntF K f (o + 1) (l - 1) else 0) := rfl
def cn (K o l : Nat) : Nat := cntF K (2 * l + o) o l
theorem cn_zero (K l : Nat) : cn K 0 l = 1 := by
  unfold cn
  cases h : 2 * l + 0 with
  | zero => rfl
  | succ f => simp [cntF]
theorem cn_succ (K o l : Nat) : cn K (o + 1) l = (if 0 < o ∨ l = 0 then cn K o l else 0) + (if 0 < l then K * cn K (o + 2) (l - 1) else 0) := by
  unfold cn
  rw [show 2 * l + (o + 1) = (2 * l + o) + 1 from rfl, cntF_succ, if_neg (by omega), show o + 1 - 1 = o from rfl, show o + 1 + 1 = o + 2 from rfl]
  congr 1
  · by_cases h : 0 < o ∨ l = 0
    · rw [if_pos h, if_pos (by omega)]
    · rw [if_neg h, if_neg (by omega)]
  · by_cases h : 0 < l
    · rw [if_pos h, if_pos h, show 2 * (l - 1) + (o + 2) = 2 * l + o by omega]
    · rw [if_neg h, if_neg h]
def sumN : Nat → (Nat → Nat) → Nat
  | 0, _ => 0
  | n + 1, g => sumN n g + g n
theorem sumN_front (n : Nat) (g : Nat → Nat) : sumN (n + 1) g = g 0 + sumN n (fun i => g (i + 1)) := by
  induction n with
  | zero => simp [sumN]
  | succ n ih =>
    have h1 : sumN (n + 2) g = sumN (n + 1) g + g (n + 1) := rfl
    have h2 : sumN (n + 1) (fun i => g (i + 1)) = sumN n (fun i => g (i + 1)) + g (n + 1) := rfl
    rw [h1, ih, h2]; omega
theorem sumN_add (n : Nat) (g h : Nat → Nat) : sumN n (fun i => g i + h i) = sumN n g + sumN n h := by
  induction n with
  | zero => rfl
  | succ n ih => simp only [sumN, ih]; omega
theorem sumN_mul (n c : Nat) (g : Nat → Nat) : sumN n (fun i => c * g i) = c * sumN n g := by
  induction n with
  | zero => rfl
  | succ n ih => simp only [sumN, ih, Nat.mul_add]
theorem sumN_congr (n : Nat) (g h : Nat → Nat) (e : ∀ i, i < n → g i = h i) : sumN n g = sumN n h := by
  induction n with
  | zero => rfl
  | succ n ih => simp only [sumN]; rw [ih (fun i hi => e i (by omega)), e n (by omega)]
theorem sumN_zero (n : Nat) : sumN n (fun _ => 0) = 0 := by
  induction n with
  | zero => rfl
  | succ n ih => simp only [sumN, ih]
theorem cn_conv (K : Nat) : ∀ m a o l, 2 * l + a ≤ m → 0 < a → 0 < o → cn K (a + o) l = sumN (l + 1) (fun i => cn K a i * cn K o (l - i)) := by
  intro m
  induction m with
  | zero => intro a o l h1 h2; omega
  | succ m ih =>
    intro a o l h1 h2 h3
    obtain ⟨a, rfl⟩ : ∃ b, a = b + 1 := ⟨a - 1, by omega⟩
    have e1 : cn K (a + 1 + o) l = cn K (a + o) l + (if 0 < l then K * cn K (a + o + 2) (l - 1) else 0) := by
      rw [show a + 1 + o = (a + o) + 1 by omega, cn_succ, if_pos (.inl (by omega))]
    rw [e1]
    have e2 : sumN (l + 1) (fun i => cn K (a + 1) i * cn K o (l - i)) = sumN (l + 1) (fun i => (if 0 < a ∨ i = 0 then cn K a i else 0) * cn K o (l - i)) + sumN (l + 1) (fun i => (if 0 < i then K * cn K (a + 2) (i - 1) else 0) * cn K o (l - i)) := by
      rw [← sumN_add]
      exact sumN_congr _ _ _ fun i _ => by rw [cn_succ, Nat.add_mul]
    rw [e2]
    congr 1
    · by_cases ha : 0 < a
      · rw [ih a o l (by omega) ha h3]
        exact sumN_congr _ _ _ fun i _ => by rw [if_pos (.inl ha)]
      · have : a = 0 := by omega
        subst this
        rw [sumN_front]
        simp only [Nat.zero_add]
        have : sumN l (fun i => (if 0 < 0 ∨ i + 1 = 0 then cn K 0 (i + 1) else 0) * cn K o (l - (i + 1))) = 0 := by
          rw [sumN_congr l _ (fun _ => 0) (fun i _ => by rw [if_neg (by omega)]; simp)]
          exact sumN_zero l
        rw [this, if_pos (by simp), cn_zero]; simp
    · cases l with
      | zero => simp [sumN]
      | succ l =>
        rw [if_pos (by omega), sumN_front]
        simp only [Nat.add_sub_cancel]
        rw [if_neg (by omega), Nat.zero_mul, Nat.zero_add]
        rw [sumN_congr (l + 1) _ (fun i => K * (cn K (a + 2) i * cn K o (l - i))) (fun i _ => by rw [if_pos (by omega), show l + 1 - (i + 1) = l - i by omega, Nat.mul_assoc])]
        rw [sumN_mul, ← ih (a + 2) o l (by omega) (by omega) h3, show a + o + 2 = a + 2 + o by omega]

/-- The number of trees with k nodes. -/
def catK (K k : Nat) : Nat := cn K 1 k
theorem catK_zero (K : Nat) : catK K 0 = 1 := by unfold catK; rw [cn_succ]; simp [cn_zero]
theorem catK_succ (K k : Nat) : catK K (k + 1) = sumN (k + 1) (fun i => catK K i * catK K (k - i) * K) := by
  unfold catK
  rw [cn_succ, if_neg (by omega), if_pos (by omega), Nat.zero_add, Nat.add_sub_cancel, show 0 + 2 = 1 + 1 from rfl, cn_conv K (2 * k + 1) 1 1 k (by omega) (by omega) (by omega), ← sumN_mul]
  exact sumN_congr _ _ _ fun i _ => by rw [Nat.mul_comm]
theorem catK_pos {K : Nat} (hK : 0 < K) : ∀ k, 0 < catK K k := by
  intro k
  induction k with
  | zero => rw [catK_zero]; omega
  | succ k ih =>
    rw [catK_succ, sumN_front, catK_zero, Nat.one_mul, Nat.sub_zero]
    have := Nat.mul_pos ih hK
    omega
/-- Sums that stop at 4097. -/
def capN (x : Nat) : Nat := min x 4097
theorem cap_step {K S a b : Nat} (hK : 0 < K) (ha : 0 < a) (hb : 0 < b) : capN (capN S + capN a * capN b * K) = capN (S + a * b * K) := by
  unfold capN
  by_cases h1 : a ≤ 4097
  · by_cases h2 : b ≤ 4097
    · rw [Nat.min_eq_left h1, Nat.min_eq_left h2]
      generalize a * b * K = x
      omega
    · have e1 : 4097 ≤ a * b * K := by
        calc 4097 ≤ b := by omega
          _ ≤ a * b := Nat.le_mul_of_pos_left _ ha
          _ ≤ a * b * K := Nat.le_mul_of_pos_right _ hK
      have e2 : 4097 ≤ min a 4097 * min b 4097 * K := by
        rw [Nat.min_eq_right (show 4097 ≤ b by omega)]
        calc 4097 ≤ min a 4097 * 4097 := Nat.le_mul_of_pos_left _ (by omega)
          _ ≤ min a 4097 * 4097 * K := Nat.le_mul_of_pos_right _ hK
      generalize a * b * K = x at *
      generalize min a 4097 * min b 4097 * K = y at *
      omega
  · have hb' : 0 < min b 4097 := by omega
    have e1 : 4097 ≤ a * b * K := by
      calc 4097 ≤ a := by omega
        _ ≤ a * b := Nat.le_mul_of_pos_right _ hb
        _ ≤ a * b * K := Nat.le_mul_of_pos_right _ hK
    have e2 : 4097 ≤ min a 4097 * min b 4097 * K := by
      rw [Nat.min_eq_right (show 4097 ≤ a by omega)]
      calc 4097 ≤ 4097 * min b 4097 := Nat.le_mul_of_pos_right _ hb'
        _ ≤ 4097 * min b 4097 * K := Nat.le_mul_of_pos_right _ hK
    generalize a * b * K = x at *
    generalize min a 4097 * min b 4097 * K = y at *
    omega
/-- The capped sum of the first j products of row k. -/
def rowN (K k j : Nat) : Nat := capN (sumN j (fun i => catK K i * catK K (k - i) * K))
theorem rowN_zero (K k : Nat) : rowN K k 0 = 0 := rfl
theorem rowN_succ {K : Nat} (hK : 0 < K) (k j : Nat) : rowN K k (j + 1) = capN (rowN K k j + capN (catK K j) * capN (catK K (k - j)) * K) := by
  unfold rowN
  rw [cap_step hK (catK_pos hK _) (catK_pos hK _)]
  rfl
theorem rowN_full (K k : Nat) : rowN K k (k + 1) = capN (catK K (k + 1)) := by rw [catK_succ]; rfl
theorem cnt_cat (K n : Nat) : cntF K (2 * n + 1) 1 n = catK K n := rfl
theorem cap_budget (x : Nat) : 4096 < capN x ↔ 4096 < x := by unfold capN; omega
end Go.Proofs.YthkfjnmnoanhlaaGreatDoor

namespace Go.Proofs.YthkfjnmnoanhlaaGreatDoor

def digB (x : Int) : UInt8 := UInt8.ofNat (48 + x.toNat)
def Bt.text : Bt → List UInt8
  | .nil => [45]
  | .node lab l r => 40 :: digB lab :: 32 :: (l.text ++ 32 :: (r.text ++ [41]))
def Bt.low : Bt → Prop
  | .nil => True
  | .node lab l r => 0 ≤ lab ∧ lab ≤ 7 ∧ l.low ∧ r.low
theorem Bt.text_len (b : Bt) : b.text.length = 6 * b.size + 1 := by
  induction b with
  | nil => rfl
  | node lab l r ihl ihr => simp only [Bt.text, Bt.size, List.length_cons, List.length_append, List.length_nil, ihl, ihr]; omega
theorem low_enc (b : Bt) : ∀ p, (∀ m ∈ b.enc p, 0 ≤ m.label ∧ m.label ≤ 7) ↔ b.low := by
  induction b with
  | nil => intro p; simp [Bt.enc, Bt.low]
  | node lab l r ihl ihr =>
    intro p
    have h1 := ihl (p + 1); have h2 := ihr (p + 1 + l.size)
    simp only [Bt.enc, List.mem_cons, List.mem_append, Bt.low]
    constructor
    · intro h
      have h0 := h _ (.inl rfl)
      exact ⟨h0.1, h0.2, h1.1 fun m hm => h m (.inr (.inl hm)), h2.1 fun m hm => h m (.inr (.inr hm))⟩
    · rintro ⟨a, b, c, d⟩ m (rfl | hm | hm)
      · exact ⟨a, b⟩
      · exact h1.2 c m hm
      · exact h2.2 d m hm
theorem digB_nat (x : Int) (h0 : 0 ≤ x) (h7 : x ≤ 7) : (digB x).toNat = 48 + x.toNat := by
  unfold digB
  rw [UInt8.toNat_ofNat']
  omega

inductive TR (α : Type) where
  | ok (p : Nat) (v : α)
  | err (p : Nat) (e : Int)
def TR.bind {α β : Type} (x : TR α) (f : Nat → α → TR β) : TR β :=
  match x with
  | .ok p v => f p v
  | .err p e => .err p e
theorem TR.bind_ok {α β : Type} (p : Nat) (v : α) (f : Nat → α → TR β) : (TR.ok p v).bind f = f p v := rfl
theorem TR.bind_err {α β : Type} (p : Nat) (e : Int) (f : Nat → α → TR β) : (TR.err p e : TR α).bind f = .err p e := rfl
theorem TR.bind_inv {α β : Type} {x : TR α} {f : Nat → α → TR β} {p : Nat} {v : β} (h : x.bind f = .ok p v) : ∃ q u, x = .ok q u ∧ f q u = .ok p v := by
  cases x with
  | ok q u => exact ⟨q, u, rfl, h⟩
  | err q e => cases h
theorem TR.bind_inv_err {α β : Type} {x : TR α} {f : Nat → α → TR β} {p : Nat} {e : Int} (h : x.bind f = .err p e) : x = .err p e ∨ ∃ q u, x = .ok q u ∧ f q u = .err p e := by
  cases x with
  | ok q u => exact .inr ⟨q, u, rfl, h⟩
  | err q e' => exact .inl (by cases h; rfl)

def nextT (s : List UInt8) (c : UInt8) (p : Nat) : TR Unit :=
  match s[p]? with
  | none => .err p 3
  | some d => if d = c then .ok (p + 1) () else .err p 2
def isDig (c : UInt8) : Bool := decide (48 ≤ c.toNat) && decide (c.toNat ≤ 57)
def digAt (s : List UInt8) (p : Nat) : Bool :=
  match s[p]? with
  | none => false
  | some c => isDig c
def labT (s : List UInt8) (p : Nat) : TR Int :=
  match s[p]? with
  | none => .err p 3
  | some c => if isDig c = false then .err p 2 else if c = 48 then .ok (p + 1) 0 else if digAt s (p + 1) = true ∨ 55 < c.toNat then .err p 1 else .ok (p + 1) ((c.toNat : Int) - 48)
def treeT (s : List UInt8) : Nat → Nat → Nat → TR Bt
  | 0, p, _ => .err p 4
  | n + 1, p, many =>
    if s[p]? = some 45 then .ok (p + 1) .nil
    else if s[p]? = some 40 ∧ many = 31 then .err p 4
    else (nextT s 40 p).bind fun p _ => (labT s p).bind fun p lab =>
      (nextT s 32 p).bind fun p _ => (treeT s n p (many + 1)).bind fun p l =>
      (nextT s 32 p).bind fun p _ => (treeT s n p (many + 1 + l.size)).bind fun p r =>
      (nextT s 41 p).bind fun p _ => .ok p (.node lab l r)
def parseT (s : List UInt8) : List Lf × Nat × Int :=
  if 4096 < s.length then ([], 0, 4)
  else match treeT s 33 0 0 with
    | .err p e => ([], p, e)
    | .ok p b => if p < s.length then ([], p, 5) else (b.enc 0, 0, 0)

/-- From place p on the text reads t. -/
def AtT (s : List UInt8) (p : Nat) (t : List UInt8) : Prop := ∃ r, s.drop p = t ++ r
theorem AtT.get {s : List UInt8} {p : Nat} {c : UInt8} {t : List UInt8} (h : AtT s p (c :: t)) : s[p]? = some c := by
  obtain ⟨r, h⟩ := h
  have : (s.drop p)[0]? = some c := by rw [h]; rfl
  rwa [List.getElem?_drop, Nat.add_zero] at this
theorem AtT.tail {s : List UInt8} {p : Nat} {c : UInt8} {t : List UInt8} (h : AtT s p (c :: t)) : AtT s (p + 1) t := by
  obtain ⟨r, h⟩ := h
  refine ⟨r, ?_⟩
  rw [← List.drop_drop, h]; rfl
theorem AtT.right {s : List UInt8} {p : Nat} {a b : List UInt8} (h : AtT s p (a ++ b)) : AtT s (p + a.length) b := by
  obtain ⟨r, h⟩ := h
  refine ⟨r, ?_⟩
  rw [← List.drop_drop, h, List.append_assoc, List.drop_left]
theorem AtT.left {s : List UInt8} {p : Nat} {a b : List UInt8} (h : AtT s p (a ++ b)) : AtT s p a := by
  obtain ⟨r, h⟩ := h
  exact ⟨b ++ r, by rw [h, List.append_assoc]⟩
theorem nextT_at {s : List UInt8} {p : Nat} {c : UInt8} (h : s[p]? = some c) : nextT s c p = .ok (p + 1) () := by
  unfold nextT; rw [h]; simp
theorem nextT_inv {s : List UInt8} {c : UInt8} {p q : Nat} {u : Unit} (h : nextT s c p = .ok q u) : q = p + 1 ∧ s[p]? = some c := by
  unfold nextT at h
  split at h
  · cases h
  · rename_i d hd
    split at h
    · rename_i he
      cases h
      exact ⟨rfl, by rw [hd, he]⟩
    · cases h
theorem nextT_err {s : List UInt8} {c : UInt8} {p q : Nat} {e : Int} (hp : p ≤ s.length) (h : nextT s c p = .err q e) : q ≤ s.length ∧ (e = 3 ↔ q = s.length) ∧ e ≠ 0 := by
  unfold nextT at h
  split at h
  · rename_i hn
    cases h
    have := List.getElem?_eq_none_iff.1 hn
    exact ⟨hp, by omega, by omega⟩
  · rename_i d hd
    have := (List.getElem?_eq_some_iff.1 hd).1
    split at h
    · cases h
    · cases h
      exact ⟨hp, by omega, by omega⟩
theorem digB_eq (x : Int) (h0 : 0 ≤ x) (h7 : x ≤ 7) : isDig (digB x) = true ∧ (digB x = 48 ↔ x = 0) ∧ ¬ 55 < (digB x).toNat ∧ ((digB x).toNat : Int) - 48 = x := by
  have hn := digB_nat x h0 h7
  refine ⟨by unfold isDig; rw [hn]; simp; omega, ⟨fun h => ?_, fun h => by rw [h]; rfl⟩, by omega, by omega⟩
  have : (digB x).toNat = 48 := by rw [h]; rfl
  omega
theorem labT_at {s : List UInt8} {p : Nat} {x : Int} (h0 : 0 ≤ x) (h7 : x ≤ 7) (h : s[p]? = some (digB x)) (hn : s[p + 1]? = some 32) : labT s p = .ok (p + 1) x := by
  obtain ⟨h1, h2, h3, h4⟩ := digB_eq x h0 h7
  have hd : digAt s (p + 1) = false := by unfold digAt; rw [hn]; rfl
  unfold labT
  rw [h]
  simp only [h1, hd, h4, Bool.true_eq_false, Bool.false_eq_true, false_or, if_false, if_neg h3]
  split
  · rename_i hz
    rw [h2.1 hz]
  · rfl
theorem isDig_le {c : UInt8} (h : isDig c = true) : 48 ≤ c.toNat ∧ c.toNat ≤ 57 := by
  unfold isDig at h
  simpa using h
theorem labT_inv {s : List UInt8} {p q : Nat} {x : Int} (h : labT s p = .ok q x) : q = p + 1 ∧ 0 ≤ x ∧ x ≤ 7 ∧ s[p]? = some (digB x) := by
  unfold labT at h
  split at h
  · cases h
  · rename_i c hc
    split at h
    · cases h
    · rename_i hd
      have hd' := isDig_le (by simpa using hd)
      split at h
      · rename_i hz
        cases h
        exact ⟨rfl, by omega, by omega, by rw [hc, hz]; rfl⟩
      · split at h
        · cases h
        · rename_i h5
          cases h
          have h55 : ¬ 55 < c.toNat := fun h => h5 (.inr h)
          refine ⟨rfl, by omega, by omega, ?_⟩
          rw [hc]
          congr 1
          apply UInt8.toNat_inj.1
          rw [digB_nat _ (by omega) (by omega)]
          omega
theorem labT_err {s : List UInt8} {p q : Nat} {e : Int} (hp : p ≤ s.length) (h : labT s p = .err q e) : q ≤ s.length ∧ (e = 3 ↔ q = s.length) ∧ e ≠ 0 := by
  unfold labT at h
  split at h
  · rename_i hn
    cases h
    have := List.getElem?_eq_none_iff.1 hn
    exact ⟨hp, by omega, by omega⟩
  · rename_i d hd
    have := (List.getElem?_eq_some_iff.1 hd).1
    split at h
    · cases h; exact ⟨hp, by omega, by omega⟩
    · split at h
      · cases h
      · split at h
        · cases h; exact ⟨hp, by omega, by omega⟩
        · cases h

/-- The parser reads the text of a tree. -/
theorem treeT_text (s : List UInt8) (b : Bt) : ∀ n p many, b.low → b.size < n → many + b.size ≤ 31 → AtT s p b.text → treeT s n p many = .ok (p + b.text.length) b := by
  induction b with
  | nil =>
    intro n p many _ hn _ h
    obtain ⟨n, rfl⟩ : ∃ k, n = k + 1 := ⟨n - 1, by omega⟩
    rw [treeT, if_pos h.get]; rfl
  | node lab l r ihl ihr =>
    intro n p many hlow hn hm h
    obtain ⟨n, rfl⟩ : ∃ k, n = k + 1 := ⟨n - 1, by omega⟩
    obtain ⟨h0, h7, hll, hrl⟩ := hlow
    simp only [Bt.size] at hn hm
    rw [Bt.text] at h
    have g0 := h.get
    have a1 := h.tail
    have g1 := a1.get
    have a2 := a1.tail
    have g2 := a2.get
    have a3 := a2.tail
    have a4 := a3.right
    have g4 := a4.get
    have a5 := a4.tail
    have a6 := a5.right
    have g6 := a6.get
    have e1 := ihl n (p + 1 + 1 + 1) (many + 1) hll (by omega) (by omega) a3.left
    have e2 := ihr n _ (many + 1 + l.size) hrl (by omega) (by omega) a5.left
    rw [treeT, if_neg (by rw [g0]; simp), if_neg (by omega), nextT_at g0, TR.bind_ok, labT_at h0 h7 g1 g2, TR.bind_ok, nextT_at g2, TR.bind_ok, e1, TR.bind_ok, nextT_at g4, TR.bind_ok, e2, TR.bind_ok, nextT_at g6, TR.bind_ok]
    congr 1
    simp only [Bt.text, List.length_cons, List.length_append, List.length_nil]
    omega
theorem drop_get {s : List UInt8} {p : Nat} {c : UInt8} (h : s[p]? = some c) : s.drop p = c :: s.drop (p + 1) := by
  obtain ⟨hl, rfl⟩ := List.getElem?_eq_some_iff.1 h
  exact List.drop_eq_getElem_cons hl
/-- What the parser reads is the text of the tree. -/
theorem treeT_inv (s : List UInt8) : ∀ n p many q b, many ≤ 31 → treeT s n p many = .ok q b → b.low ∧ many + b.size ≤ 31 ∧ s.drop p = b.text ++ s.drop q ∧ (p ≤ s.length → q ≤ s.length) := by
  intro n
  induction n with
  | zero => intro p many q b _ h; cases h
  | succ n ih =>
    intro p many q b hm h
    rw [treeT] at h
    split at h
    · rename_i h0
      cases h
      have := (List.getElem?_eq_some_iff.1 h0).1
      exact ⟨trivial, hm, by rw [drop_get h0]; rfl, fun _ => by omega⟩
    · split at h
      · cases h
      · rename_i hne h31
        obtain ⟨p1, _, e1, h⟩ := TR.bind_inv h
        obtain ⟨rfl, g1⟩ := nextT_inv e1
        obtain ⟨p2, lab, e2, h⟩ := TR.bind_inv h
        obtain ⟨rfl, l0, l7, g2⟩ := labT_inv e2
        obtain ⟨p3, _, e3, h⟩ := TR.bind_inv h
        obtain ⟨rfl, g3⟩ := nextT_inv e3
        obtain ⟨p4, l, e4, h⟩ := TR.bind_inv h
        have hm2 : ¬ many = 31 := fun h => h31 ⟨g1, h⟩
        obtain ⟨ll, lm, ld, lq⟩ := ih _ _ _ _ (by omega) e4
        obtain ⟨p5, _, e5, h⟩ := TR.bind_inv h
        obtain ⟨rfl, g5⟩ := nextT_inv e5
        obtain ⟨p6, r, e6, h⟩ := TR.bind_inv h
        obtain ⟨rl, rm, rd, rq⟩ := ih _ _ _ _ (by omega) e6
        obtain ⟨p7, _, e7, h⟩ := TR.bind_inv h
        obtain ⟨rfl, g7⟩ := nextT_inv e7
        cases h
        have := (List.getElem?_eq_some_iff.1 g7).1
        refine ⟨⟨l0, l7, ll, rl⟩, by simp only [Bt.size]; omega, ?_, fun _ => by omega⟩
        rw [drop_get g1, drop_get g2, drop_get g3, ld, drop_get g5, rd, drop_get g7]
        simp [Bt.text]
theorem treeT_err (s : List UInt8) : ∀ n p many q e, many ≤ 31 → 33 ≤ n + many → p ≤ s.length → treeT s n p many = .err q e → q ≤ s.length ∧ (e = 3 ↔ q = s.length) ∧ e ≠ 0 := by
  intro n
  induction n with
  | zero => intro p many q e h1 h2; omega
  | succ n ih =>
    intro p many q e hm hn hp h
    rw [treeT] at h
    split at h
    · cases h
    · split at h
      · rename_i h31
        have := (List.getElem?_eq_some_iff.1 h31.1).1
        cases h
        exact ⟨hp, by omega, by omega⟩
      · rename_i hne h31
        rcases TR.bind_inv_err h with h | ⟨p1, _, e1, h⟩
        · exact nextT_err hp h
        obtain ⟨rfl, g1⟩ := nextT_inv e1
        have hm2 : ¬ many = 31 := fun h => h31 ⟨g1, h⟩
        have g1' := (List.getElem?_eq_some_iff.1 g1).1
        rcases TR.bind_inv_err h with h | ⟨p2, lab, e2, h⟩
        · exact labT_err (by omega) h
        obtain ⟨rfl, _, _, g2⟩ := labT_inv e2
        have g2' := (List.getElem?_eq_some_iff.1 g2).1
        rcases TR.bind_inv_err h with h | ⟨p3, _, e3, h⟩
        · exact nextT_err (by omega) h
        obtain ⟨rfl, g3⟩ := nextT_inv e3
        have g3' := (List.getElem?_eq_some_iff.1 g3).1
        rcases TR.bind_inv_err h with h | ⟨p4, l, e4, h⟩
        · exact ih _ _ _ _ (by omega) (by omega) (by omega) h
        obtain ⟨_, lm, _, lq⟩ := treeT_inv s _ _ _ _ _ (by omega) e4
        have lq' := lq (by omega)
        rcases TR.bind_inv_err h with h | ⟨p5, _, e5, h⟩
        · exact nextT_err (by omega) h
        obtain ⟨rfl, g5⟩ := nextT_inv e5
        have g5' := (List.getElem?_eq_some_iff.1 g5).1
        rcases TR.bind_inv_err h with h | ⟨p6, r, e6, h⟩
        · exact ih _ _ _ _ (by omega) (by omega) (by omega) h
        obtain ⟨_, rm, _, rq⟩ := treeT_inv s _ _ _ _ _ (by omega) e6
        have rq' := rq (by omega)
        rcases TR.bind_inv_err h with h | ⟨p7, _, e7, h⟩
        · exact nextT_err (by omega) h
        cases h

/-- Format, as a function of the leaves. -/
def formatT (t : List Lf) : List UInt8 × Int := if formedT t = false then ([], 2) else if t.any (fun m => decide (7 < m.label)) then ([], 1) else ((btOf t).text, 0)
theorem format_low {t : List Lf} (hl : ∀ m ∈ t, 0 ≤ m.label) (h : (formatT t).2 = 0) : formedT t = true ∧ (∀ m ∈ t, m.label ≤ 7) ∧ (btOf t).low ∧ (formatT t).1 = (btOf t).text := by
  unfold formatT at h ⊢
  by_cases hf : formedT t = false
  · rw [if_pos hf] at h; simp at h
  · rw [if_neg hf] at h ⊢
    by_cases ha : t.any (fun m => decide (7 < m.label)) = true
    · rw [if_pos ha] at h; simp at h
    · rw [if_neg ha]
      have hf' : formedT t = true := by simpa using hf
      have h7 : ∀ m ∈ t, m.label ≤ 7 := fun m hm => by
        have : ¬ 7 < m.label := fun h7 => ha (List.any_eq_true.2 ⟨m, hm, by simpa using h7⟩)
        omega
      refine ⟨hf', h7, ?_, rfl⟩
      obtain ⟨_, _, _, he⟩ := btOf_ok hf'
      exact (low_enc _ 0).1 fun m hm => by rw [← he] at hm; exact ⟨hl m hm, h7 m hm⟩
/-- TreeRound, plainly: the text of a tree is read as the tree. -/
theorem parse_text (b : Bt) (hb : b.low) (hs : b.size ≤ 31) : parseT b.text = (b.enc 0, 0, 0) := by
  have hl := b.text_len
  unfold parseT
  rw [if_neg (by omega), treeT_text b.text b 33 0 0 hb (by omega) (by omega) ⟨[], by simp⟩]
  simp only [Nat.zero_add, Nat.lt_irrefl, if_false]
theorem parse_ok {s : List UInt8} (h : (parseT s).2.2 = 0) : ∃ b : Bt, b.low ∧ b.size ≤ 31 ∧ s = b.text ∧ parseT s = (b.enc 0, 0, 0) := by
  have h0 := h
  unfold parseT at h
  split at h
  · simp at h
  · split at h
    · rename_i p e he
      have := treeT_err s 33 0 0 p e (by omega) (by omega) (by omega) he
      exact absurd h this.2.2
    · rename_i p b he
      obtain ⟨hlow, hm, hd, hq⟩ := treeT_inv s 33 0 0 p b (by omega) he
      split at h
      · simp at h
      · rename_i hp
        have hs : s = b.text := by
          have : s.drop p = [] := List.drop_eq_nil_of_le (by omega)
          rw [this] at hd
          simpa using hd
        exact ⟨b, hlow, by omega, hs, by rw [hs]; exact parse_text b hlow (by omega)⟩
theorem parse_bad {s : List UInt8} (hl : s.length ≤ 4096) (h : (parseT s).2.2 ≠ 0) : (parseT s).1 = [] ∧ (parseT s).2.1 ≤ s.length ∧ ((parseT s).2.2 = 3 ↔ (parseT s).2.1 = s.length) := by
  unfold parseT at h ⊢
  rw [if_neg (by omega)] at h ⊢
  split at h
  · rename_i p e he
    have := treeT_err s 33 0 0 p e (by omega) (by omega) (by omega) he
    exact ⟨rfl, this.1, this.2.1⟩
  · rename_i p b he
    split at h
    · rename_i hp
      simp only [if_pos hp]
      exact ⟨trivial, by omega, by omega⟩
    · exact absurd rfl h
theorem parse_at {s : List UInt8} (h : (parseT s).2.2 = 0) : (parseT s).2.1 = 0 := by
  obtain ⟨b, _, _, _, e⟩ := parse_ok h
  rw [e]
theorem format_enc (b : Bt) (hb : b.low) (hs : b.size ≤ 31) : formatT (b.enc 0) = (b.text, 0) := by
  unfold formatT
  rw [if_neg (by rw [formed_bt b hs]; simp), if_neg, btOf_enc]
  intro h
  obtain ⟨m, hm, h7⟩ := List.any_eq_true.1 h
  have := (low_enc b 0).2 hb m hm
  simp at h7
  omega
end Go.Proofs.YthkfjnmnoanhlaaGreatDoor

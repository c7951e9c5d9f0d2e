/- What Free and Substitute compute, said of trees: plain. -/
import Derived.Test.YtbggpiednddheaaDoorRefH
import Derived.Test.YtbggpiednddheaaDoorSubst
set_option linter.unusedSimpArgs false
set_option linter.unusedVariables false
namespace Go.Proofs.YtbggpiednddheaaDoor

def repT (x y : Int) : Tr → Tr
  | .leaf op u v => .leaf op (if 0 < nv op ∧ u = x then y else u) (if 1 < nv op ∧ v = x then y else v)
  | .un op z a => if 12 ≤ op ∧ z = x then .un op z a else .un op z (repT x y a)
  | .bin op a b => .bin op (repT x y a) (repT x y b)
theorem repT_size (x y : Int) (t : Tr) : (repT x y t).size = t.size := by
  induction t with
  | leaf => rfl
  | un op z a ih => unfold repT; split <;> simp [Tr.size, ih]
  | bin op a b iha ihb => simp [repT, Tr.size, iha, ihb]

theorem Lies.mk_leaf {f : List Mk} {p : Nat} {op x y : Int} (h : f[p]? = some ⟨op, x, y, 0, 0⟩) : Lies f p (.leaf op x y) := by
  intro j m hj
  simp only [Tr.enc] at hj
  cases j with
  | zero => simp at hj; subst hj; exact h
  | succ j => simp at hj
theorem Lies.mk_un {f : List Mk} {p : Nat} {op x : Int} {a : Tr} (h1 : Lies f p a) (h2 : f[p + a.size]? = some ⟨op, x, 0, ((p + a.size - 1 : Nat) : Int), 0⟩) : Lies f p (.un op x a) := by
  intro j m hj
  simp only [Tr.enc] at hj
  by_cases hl : j < a.size
  · rw [List.getElem?_append_left (by rw [Tr.enc_len]; exact hl)] at hj; exact h1 j m hj
  · rw [List.getElem?_append_right (by rw [Tr.enc_len]; omega), Tr.enc_len] at hj
    have : j = a.size := by
      have := (List.getElem?_eq_some_iff.1 hj).1
      simp at this; omega
    subst this
    simp at hj
    subst hj; exact h2
theorem Lies.mk_bin {f : List Mk} {p : Nat} {op : Int} {a b : Tr} (h1 : Lies f p a) (h2 : Lies f (p + a.size) b) (h3 : f[p + a.size + b.size]? = some ⟨op, 0, 0, ((p + a.size - 1 : Nat) : Int), ((p + a.size + b.size - 1 : Nat) : Int)⟩) : Lies f p (.bin op a b) := by
  intro j m hj
  simp only [Tr.enc] at hj
  by_cases hl : j < a.size
  · rw [List.getElem?_append_left (by rw [Tr.enc_len]; exact hl)] at hj; exact h1 j m hj
  · rw [List.getElem?_append_right (by rw [Tr.enc_len]; omega), Tr.enc_len] at hj
    by_cases hl2 : j - a.size < b.size
    · rw [List.getElem?_append_left (by rw [Tr.enc_len]; exact hl2)] at hj
      have := h2 _ m hj
      rwa [show p + a.size + (j - a.size) = p + j by omega] at this
    · rw [List.getElem?_append_right (by rw [Tr.enc_len]; omega), Tr.enc_len] at hj
      have : j = a.size + b.size := by
        have := (List.getElem?_eq_some_iff.1 hj).1
        simp at this; omega
      subst this
      simp at hj
      subst hj
      rw [show p + (a.size + b.size) = p + a.size + b.size by omega, h3]
theorem Lies.of_same {f g : List Mk} {p : Nat} {t : Tr} (h : Lies f p t) (hs : ∀ j, p ≤ j → j < p + t.size → g[j]? = f[j]?) : Lies g p t := by
  intro j m hj
  have hl : j < t.size := by rw [← t.enc_len p]; exact (List.getElem?_eq_some_iff.1 hj).1
  rw [hs _ (by omega) (by omega)]
  exact h j m hj
theorem Lies.whole {f : List Mk} {t : Tr} (h : Lies f 0 t) (hl : f.length = t.size) : f = t.enc 0 := by
  apply List.ext_getElem?
  intro j
  by_cases hj : j < t.size
  · obtain ⟨m, hm⟩ : ∃ m, (t.enc 0)[j]? = some m := ⟨(t.enc 0)[j]'(by rw [Tr.enc_len]; exact hj), List.getElem?_eq_getElem _⟩
    have := h j m hm
    rw [Nat.zero_add] at this
    rw [this, hm]
  · rw [List.getElem?_eq_none (by omega), List.getElem?_eq_none (by rw [Tr.enc_len]; omega)]

/-- g' is g with the tree t' in the place of the block from p on. -/
def RepRel (g g' : List Mk) (p : Nat) (t' : Tr) : Prop := g'.length = g.length ∧ Lies g' p t' ∧ ∀ j, j < p ∨ p + t'.size ≤ j → g'[j]? = g[j]?
theorem RepRel.refl {g : List Mk} {p : Nat} {t : Tr} (h : Lies g p t) : RepRel g g p t := ⟨rfl, h, fun _ _ => rfl⟩
theorem RepRel.un {g g' : List Mk} {p : Nat} {op z : Int} {a a' : Tr} (hs : a'.size = a.size) (h : RepRel g g' p a') (hm : g[p + a.size]? = some ⟨op, z, 0, ((p + a.size - 1 : Nat) : Int), 0⟩) : RepRel g g' p (.un op z a') := by
  refine ⟨h.1, Lies.mk_un h.2.1 ?_, fun j hj => h.2.2 j (by simp only [Tr.size] at hj; omega)⟩
  rw [h.2.2 _ (.inr (Nat.le_refl _)), hs]; exact hm
theorem RepRel.bin {g g1 g2 : List Mk} {p : Nat} {op : Int} {a b a' b' : Tr} (ha : a'.size = a.size) (hb : b'.size = b.size) (h1 : RepRel g g1 p a') (h2 : RepRel g1 g2 (p + a.size) b') (hm : g[p + a.size + b.size]? = some ⟨op, 0, 0, ((p + a.size - 1 : Nat) : Int), ((p + a.size + b.size - 1 : Nat) : Int)⟩) : RepRel g g2 p (.bin op a' b') := by
  refine ⟨h2.1.trans h1.1, Lies.mk_bin (h1.2.1.of_same fun j _ hj => h2.2.2 j (.inl (by omega))) (by rw [ha]; exact h2.2.1) ?_, fun j hj => ?_⟩
  · rw [ha, hb, h2.2.2 _ (.inr (by omega)), h1.2.2 _ (.inr (by omega))]; exact hm
  · simp only [Tr.size] at hj
    rw [h2.2.2 _ (by omega), h1.2.2 _ (by omega)]
theorem RepRel.leaf {g : List Mk} {p : Nat} {op u v x y : Int} (hm : g[p]? = some ⟨op, u, v, 0, 0⟩) : RepRel g (g.set p (sub2 ⟨op, u, v, 0, 0⟩ ⟨op, u, v, 0, 0⟩ x y)) p (repT x y (.leaf op u v)) := by
  have hl := (List.getElem?_eq_some_iff.1 hm).1
  refine ⟨by simp, Lies.mk_leaf ?_, fun j hj => ?_⟩
  · rw [List.getElem?_set_self hl]; rfl
  · simp only [repT, Tr.size] at hj
    rw [List.getElem?_set_ne (by omega)]

theorem bit_orv (ab : List Int) (s : Nat) (u v : Int) (hu : 0 ≤ u) (hv : 0 ≤ v) : (orv ab s u).testBit v.toNat = (s.testBit v.toNat || ((u == v) && !ab.contains v)) := by
  unfold orv
  by_cases h : ab.contains u = true
  · rw [if_pos h]
    by_cases e : u = v
    · subst e; rw [h]; simp
    · simp [e]
  · rw [if_neg h, Nat.testBit_or, Nat.one_shiftLeft, Nat.testBit_two_pow]
    by_cases e : u = v
    · subst e
      have h' : ab.contains u = false := by simpa using h
      rw [h']; simp
    · have : ¬ u.toNat = v.toNat := by omega
      simp [e, this]
theorem isQ_of {op : Int} (h : nm op ≠ []) : isQ op = decide (12 ≤ op) := by
  have := nm_range h
  unfold isQ
  rw [Bool.eq_iff_iff]; simp; omega
theorem contains_snoc (ab : List Int) (z v : Int) : (ab ++ [z]).contains v = (ab.contains v || (z == v)) := by
  rw [Bool.eq_iff_iff, Bool.or_eq_true, List.contains_iff_mem, List.contains_iff_mem, List.mem_append, List.mem_singleton, beq_iff_eq]
  exact ⟨fun h => h.elim .inl fun e => .inr e.symm, fun h => h.elim .inl fun e => .inr e.symm⟩
theorem has1 (u x : Int) : [u].contains x = (u == x) := by
  rw [Bool.eq_iff_iff, List.contains_iff_mem, List.mem_singleton, beq_iff_eq]
  exact eq_comm
theorem has2 (u v x : Int) : [u, v].contains x = ((u == x) || (v == x)) := by
  rw [Bool.eq_iff_iff, Bool.or_eq_true, List.contains_iff_mem, List.mem_cons, List.mem_singleton, beq_iff_eq, beq_iff_eq]
  exact ⟨fun h => h.elim (fun e => .inl e.symm) fun e => .inr e.symm, fun h => h.elim (fun e => .inl e.symm) fun e => .inr e.symm⟩
theorem bl1 : ∀ c b1 b2 b3 b4 : Bool, (c || b1 && (b2 || b3) || b4) = (c || true && b1 && b2 || (b3 && b1 || b4)) := by decide
theorem bl2 : ∀ c b1 b2 b3 b4 b5 : Bool, (c || b1 && b3 || b4 || b2 && b3 || b5) = (c || (b1 || b2) && b3 || (b4 || b5)) := by decide
theorem trav_free (f : List Mk) (v : Int) (hv : 0 ≤ v) (t : Tr) : t.ok → ∀ p ab s, Lies f p t → (trav (stepF f) p ab t s).testBit v.toNat = (s.testBit v.toNat || (frT v t && !ab.contains v)) := by
  induction t with
  | leaf op x y =>
    intro ok p ab s hl
    have hm := hl.leaf
    have hw := ok.2.2.1
    simp only [within, Bool.and_eq_true, Bool.or_eq_true, decide_eq_true_eq] at hw
    simp only [trav, stepF, hm, frT]
    rcases nv_cases op with h | h | h
    · rw [occ0 (by exact h), h]; simp
    · rw [occ1 (by exact h), h]
      simp only [List.foldl_cons, List.foldl_nil]
      rw [bit_orv _ _ _ _ (by omega) hv]
      simp
    · rw [occ2 (by exact h), h]
      simp only [List.foldl_cons, List.foldl_nil]
      rw [bit_orv _ _ _ _ (by omega) hv, bit_orv _ _ _ _ (by omega) hv]
      generalize s.testBit v.toNat = b1
      generalize (x == v) = b2
      generalize (y == v) = b3
      generalize ab.contains v = b4
      simp only [show decide ((0 : Int) < 2) = true from rfl, show decide ((1 : Int) < 2) = true from rfl]
      revert b1 b2 b3 b4; decide
  | un op x a ih =>
    intro ok p ab s hl
    obtain ⟨h1, h2⟩ := hl.un
    simp only [trav, frT]
    rw [ih ok.2 p _ s h1, isQ_of ok.1.1]
    by_cases h12 : 12 ≤ op
    · rw [if_pos (by simpa using h12), if_pos h12, contains_snoc]
      simp only [bne]
      generalize s.testBit v.toNat = b1
      generalize (x == v) = b2
      generalize frT v a = b3
      generalize ab.contains v = b4
      revert b1 b2 b3 b4; decide
    · rw [if_neg (by simpa using h12), if_neg h12]
  | bin op a b iha ihb =>
    intro ok p ab s hl
    obtain ⟨h1, h2, _⟩ := hl.bin
    simp only [trav, frT]
    rw [ihb ok.2.2 _ _ _ h2, iha ok.2.1 _ _ _ h1]
    generalize s.testBit v.toNat = b1
    generalize frT v a = b2
    generalize frT v b = b3
    generalize ab.contains v = b4
    revert b1 b2 b3 b4; decide

/-- The word of the reference's Free. -/
def wordT (t : Tr) : Nat → Nat
  | 0 => 0
  | k + 1 => wordT t k + if frT (k : Int) t = true then 2 ^ k else 0
theorem word_bits : ∀ n : Fin 64, (n : Nat) = (if n.1.testBit 0 then 2 ^ 0 else 0) + (if n.1.testBit 1 then 2 ^ 1 else 0) + (if n.1.testBit 2 then 2 ^ 2 else 0) + (if n.1.testBit 3 then 2 ^ 3 else 0) + (if n.1.testBit 4 then 2 ^ 4 else 0) + (if n.1.testBit 5 then 2 ^ 5 else 0) := by decide
theorem trav_lt (f : List Mk) (t : Tr) : t.ok → ∀ p ab s, Lies f p t → s < 64 → trav (stepF f) p ab t s < 64 := by
  induction t with
  | leaf op x y =>
    intro ok p ab s hl hs
    have hb := occ_bound ⟨op, x, y, 0, 0⟩ ok.2.2.1
    simp only [trav, stepF, hl.leaf]
    generalize occ ⟨op, x, y, 0, 0⟩ = l at hb
    induction l generalizing s with
    | nil => exact hs
    | cons u l ih => exact ih _ (orv_lt ab s u hs (hb u (by simp)).1 (hb u (by simp)).2) fun z hz => hb z (by simp [hz])
  | un op x a ih => intro ok p ab s hl hs; exact ih ok.2 p _ s hl.un.1 hs
  | bin op a b iha ihb => intro ok p ab s hl hs; exact ihb ok.2.2 _ _ _ hl.bin.2.1 (iha ok.2.1 _ _ _ hl.bin.1 hs)
theorem freeS_word (t : Tr) (ok : t.ok) : freeS (t.enc 0) t = wordT t 6 := by
  have hl := trav_lt (t.enc 0) t ok 0 [] 0 (Lies.self t) (by omega)
  have hb := fun (v : Nat) => trav_free (t.enc 0) v (by omega) t ok 0 [] 0 (Lies.self t)
  unfold freeS
  generalize trav (stepF (t.enc 0)) 0 [] t 0 = n at *
  have hw := word_bits ⟨n, hl⟩
  simp only at hw
  have e : ∀ v : Nat, n.testBit v = frT (v : Int) t := fun v => by
    have := hb v
    simpa using this
  simp only [e] at hw
  rw [hw]
  simp [wordT]

/-- What the traversal of Substitute does to a block that it has not come to yet. -/
theorem trav_sub (f : List Mk) (x y : Int) (t : Tr) : t.ok → ∀ p ab (g : List Mk) (c : Bool), Lies f p t → Lies g p t → f.length = g.length →
    (ab.contains x = true → trav (stepS f x y) p ab t (g, c) = (g, c)) ∧
    (ab.contains x = false → RepRel g (trav (stepS f x y) p ab t (g, c)).1 p (repT x y t) ∧ (trav (stepS f x y) p ab t (g, c)).2 = (c || (frT x t && ab.contains y) || capT x y t)) := by
  induction t with
  | leaf op u v =>
    intro ok p ab g c hf hg hlen
    have hm := hf.leaf
    have hm2 := hg.leaf
    simp only [trav, stepS, hm, hm2]
    constructor
    · intro h
      rw [if_neg (by rw [h]; simp)]
    · intro h
      have hfr : (occ ⟨op, u, v, 0, 0⟩).contains x = frT x (.leaf op u v) := by
        simp only [frT]
        rcases nv_cases op with k | k | k
        · rw [occ0 (by exact k), k]; rfl
        · rw [occ1 (by exact k), k, has1]; simp
        · rw [occ2 (by exact k), k, has2]; simp
      rw [hfr]
      cases hfx : frT x (.leaf op u v) with
      | true =>
        rw [if_pos (by rw [h]; rfl)]
        exact ⟨RepRel.leaf hm2, by simp [capT]⟩
      | false =>
        rw [if_neg (by simp)]
        refine ⟨?_, by simp [capT]⟩
        have e : repT x y (.leaf op u v) = .leaf op u v := by
          simp only [frT, Bool.or_eq_false_iff, Bool.and_eq_false_iff, decide_eq_false_iff_not, beq_eq_false_iff_ne] at hfx
          simp only [repT]
          rw [if_neg (by rintro ⟨a, b⟩; rcases hfx.1 with h | h <;> contradiction), if_neg (by rintro ⟨a, b⟩; rcases hfx.2 with h | h <;> contradiction)]
        rw [e]
        exact RepRel.refl hg
  | un op z a ih =>
    intro ok p ab g c hf hg hlen
    obtain ⟨f1, f2⟩ := hf.un
    obtain ⟨g1, g2⟩ := hg.un
    simp only [trav]
    rw [isQ_of ok.1.1]
    obtain ⟨i1, i2⟩ := ih ok.2 p (if decide (12 ≤ op) = true then ab ++ [z] else ab) g c f1 g1 hlen
    by_cases h12 : 12 ≤ op
    · simp only [h12, decide_true, if_true] at i1 i2 ⊢
      rw [contains_snoc] at i1 i2
      constructor
      · intro h
        exact i1 (by rw [h]; rfl)
      · intro h
        by_cases hz : z = x
        · subst hz
          rw [i1 (by simp)]
          simp only [repT, h12, true_and, if_true, frT, capT, bne_self_eq_false, Bool.false_and, Bool.or_false]
          exact ⟨RepRel.refl hg, trivial⟩
        · have hzx : (z == x) = false := by simp [hz]
          obtain ⟨j1, j2⟩ := i2 (by rw [h, hzx]; rfl)
          simp only [repT, h12, true_and, if_neg hz, frT, capT, if_true]
          refine ⟨RepRel.un (repT_size x y a) j1 g2, ?_⟩
          rw [j2, contains_snoc]
          have hnx : (z != x) = true := by simp [hz]
          rw [hnx]
          exact bl1 _ _ _ _ _
    · simp only [h12, decide_false, Bool.false_eq_true, if_false] at i1 i2 ⊢
      refine ⟨i1, fun h => ?_⟩
      obtain ⟨j1, j2⟩ := i2 h
      simp only [repT, h12, false_and, if_false, frT, capT]
      exact ⟨RepRel.un (repT_size x y a) j1 g2, j2⟩
  | bin op a b iha ihb =>
    intro ok p ab g c hf hg hlen
    obtain ⟨f1, f2, _⟩ := hf.bin
    obtain ⟨g1, g2, g3⟩ := hg.bin
    simp only [trav]
    obtain ⟨i1, i2⟩ := iha ok.2.1 p ab g c f1 g1 hlen
    constructor
    · intro h
      rw [i1 h]
      exact (ihb ok.2.2 (p + a.size) ab g c f2 g2 hlen).1 h
    · intro h
      obtain ⟨j1, j2⟩ := i2 h
      generalize trav (stepS f x y) p ab a (g, c) = r at *
      obtain ⟨r1, r2⟩ := r
      simp only at j1 j2
      have hr : Lies r1 (p + a.size) b := g2.of_same fun j h1 h2 => j1.2.2 j (.inr (by rw [repT_size]; omega))
      obtain ⟨k1, k2⟩ := (ihb ok.2.2 (p + a.size) ab r1 r2 f2 hr (hlen.trans j1.1.symm)).2 h
      simp only [repT, frT, capT]
      refine ⟨RepRel.bin (repT_size x y a) (repT_size x y b) j1 k1 g3, ?_⟩
      rw [k2, j2]
      exact bl2 _ _ _ _ _ _
theorem substR_tree (t : Tr) (ok : t.ok) (x y : Int) : substR (t.enc 0) t x y = if capT x y t = true ∧ x ≠ y then ([], 16) else ((repT x y t).enc 0, 0) := by
  obtain ⟨h1, h2⟩ := (trav_sub (t.enc 0) x y t ok 0 [] (t.enc 0) false (Lies.self t) (Lies.self t) rfl).2 rfl
  unfold substR substT
  generalize trav (stepS (t.enc 0) x y) 0 [] t (t.enc 0, false) = r at *
  have e2 : r.2 = capT x y t := by rw [h2]; simp
  have e1 : r.1 = (repT x y t).enc 0 := Lies.whole h1.2.1 (by rw [h1.1, Tr.enc_len, repT_size])
  rw [e2, e1]
end Go.Proofs.YtbggpiednddheaaDoor

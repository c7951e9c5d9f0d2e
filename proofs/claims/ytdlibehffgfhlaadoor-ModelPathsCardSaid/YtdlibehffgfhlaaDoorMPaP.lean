/- Plain laws for ModelPaths: a word and the path of its letters. No program in sight. -/
import Derived.Test.YtdlibehffgfhlaaDoorMBoP
set_option linter.unusedSimpArgs false
set_option linter.unusedVariables false
namespace Go.Proofs.YtdlibehffgfhlaaDoor

def renO (op : Int) : Int := if op = 5 then 8 else op
def renM (m : Mk) : Mk := { m with op := renO m.op }
def Tr.ren : Tr → Tr
  | .leaf op x y => .leaf (renO op) x y
  | .un op x a => .un op x a.ren
  | .bin op a b => .bin op a.ren b.ren
theorem Tr.ren_size (t : Tr) : t.ren.size = t.size := by
  induction t with
  | leaf => rfl
  | un op x a ih => simp [Tr.ren, Tr.size, ih]
  | bin op a b iha ihb => simp [Tr.ren, Tr.size, iha, ihb]
theorem renO_nc (op : Int) : nc (renO op) = nc op := by unfold renO; split <;> rename_i h; rw [h]; rfl; rfl
theorem renO_nv (op : Int) : nv (renO op) = nv op := by unfold renO; split <;> rename_i h; rw [h]; rfl; rfl
theorem renO_nm (op : Int) : nm (renO op) = [] ↔ nm op = [] := by unfold renO; split <;> rename_i h; rw [h]; decide; rfl
theorem renM_within (m : Mk) (v : Int) : within (renM m) v = within m v := by unfold within renM; simp only [renO_nv]
theorem renM_spare (m : Mk) : spare (renM m) = spare m := by unfold spare renM; simp only [renO_nv]
theorem renM_blk (acc : List Nat) (m : Mk) : blk acc (renM m) = blk acc m := by unfold blk renM; simp only [renO_nc]
theorem szs_ren (f : List Mk) : szs (f.map renM) = szs f := by
  unfold szs
  rw [List.foldl_map]
  congr 1
  funext acc m
  rw [renM_blk]
theorem knows_ren (op : Int) (h7 : op ≠ 7) (h8 : op ≠ 8) : knows true (renO op) = knows false op := by
  unfold knows renO
  by_cases h : op = 5
  · subst h; decide
  · simp [h, h7, h8]
theorem chkNode_ren (m : Mk) (s : Nat) (h7 : m.op ≠ 7) (h8 : m.op ≠ 8) : chkNode 3 (knows true) (renM m) s = chkNode 3 (knows false) m s := by
  unfold chkNode
  rw [renM_within, renM_spare]
  have e1 : (renM m).op = renO m.op := rfl
  rw [e1, knows_ren m.op h7 h8]
  by_cases h : nm m.op = []
  · rw [if_pos h, if_pos ((renO_nm m.op).2 h)]
  · rw [if_neg h, if_neg (fun e => h ((renO_nm m.op).1 e))]
theorem chkList_ren : ∀ (f : List Mk) (ss : List Nat), (∀ m ∈ f, m.op ≠ 7 ∧ m.op ≠ 8) → chkList 3 (knows true) (f.map renM) ss = chkList 3 (knows false) f ss
  | [], ss, _ => by cases ss <;> rfl
  | m :: f, [], _ => rfl
  | m :: f, s :: ss, h => by
    have hm := h m (by simp)
    simp only [List.map_cons, chkList]
    rw [chkNode_ren m s hm.1 hm.2, chkList_ren f ss (fun a ha => h a (by simp [ha]))]
theorem check_ren (f : List Mk) (h : ∀ m ∈ f, m.op ≠ 7 ∧ m.op ≠ 8) : checkS (f.map renM) 3 true = checkS f 3 false := by
  unfold checkS
  rw [if_neg (by simp), if_neg (by simp)]
  unfold chk
  rw [List.length_map, szs_ren, chkList_ren f _ h]
theorem un_op5 {op x : Int} (h : okUn op x) : op ≠ 5 := by
  have := nc1_op h.2.1
  omega
theorem enc_ren (t : Tr) : t.ok → ∀ p, (t.enc p).map renM = t.ren.enc p := by
  induction t with
  | leaf op x y => intro ok p; rfl
  | un op x a ih =>
    intro ok p
    have h5 := un_op5 ok.1
    simp only [Tr.enc, Tr.ren, List.map_append, List.map_cons, List.map_nil, ih ok.2, Tr.ren_size]
    simp [renM, renO, h5]
  | bin op a b iha ihb =>
    intro ok p
    have h5 : op ≠ 5 := by have := nc2_op ok.1; omega
    simp only [Tr.enc, Tr.ren, List.map_append, List.map_cons, List.map_nil, iha ok.2.1, ihb ok.2.2, Tr.ren_size]
    simp [renM, renO, h5]
theorem ok_ren (t : Tr) : t.ok → t.ren.ok := by
  induction t with
  | leaf op x y =>
    intro ok
    obtain ⟨h1, h2, h3, h4⟩ := ok
    refine ⟨fun e => h1 ((renO_nm op).1 e), by rw [renO_nc]; exact h2, ?_, ?_⟩
    · have := renM_within ⟨op, x, y, 0, 0⟩ 6; rw [h3] at this; exact this
    · have := renM_spare ⟨op, x, y, 0, 0⟩; rw [h4] at this; exact this
  | un op x a ih => intro ok; exact ⟨ok.1, ih ok.2⟩
  | bin op a b iha ihb => intro ok; exact ⟨ok.1, iha ok.2.1, ihb ok.2.2⟩
theorem cost_ren (n : Nat) (t : Tr) : costT n t.ren = costT n t := by
  induction t with
  | leaf => rfl
  | un op x a ih => simp only [Tr.ren, costT, ih]
  | bin op a b iha ihb => simp only [Tr.ren, costT, iha, ihb]
theorem tree_ren {f : List Mk} (hf : formedS f = true) : treeOf (f.map renM) = (treeOf f).ren := by
  obtain ⟨_, ok, _, he⟩ := treeOf_ok hf
  generalize treeOf f = t at *
  rw [he, enc_ren t ok, treeOf_eq _ (ok_ren t ok)]

/-- Two structures of one size whose relations agree on their elements. -/
def Alike2 (S S' : Stc) : Prop := S.n = S'.n ∧ ∀ (op : Int) (p q : Nat), op ≠ 7 → op ≠ 8 → p < S.n → q < S.n → S.rel op p q = S'.rel (renO op) p q
theorem isOne_lt {x n : Nat} (h : isOne x = true) (hx : x < 2 ^ n) : Nat.log2 x < n := by
  have e : x = 2 ^ Nat.log2 x := of_decide_eq_true h
  rw [e] at hx
  exact (Nat.pow_lt_pow_iff_right (by omega)).1 hx
theorem atom_ren {S S' : Stc} (h : Alike2 S S') (op : Int) (p q : Nat) (h7 : op ≠ 7) (h8 : op ≠ 8) (hp : p < 2 ^ S.n) (hq : q < 2 ^ S.n) : atomS S op p q = atomS S' (renO op) p q := by
  by_cases h5 : op = 5
  · have e : renO op = 8 := by unfold renO; rw [if_pos h5]
    have hr := fun h1 h2 => h.2 op (Nat.log2 p) (Nat.log2 q) h7 h8 (isOne_lt h1 hp) (isOne_lt h2 hq)
    rw [e] at hr ⊢
    subst h5
    simp only [atomS]
    rw [if_neg (by omega), if_neg (by omega), if_neg (by omega), if_neg (by omega), if_neg (by omega), if_neg (by omega), if_neg (by omega), if_neg (by omega)]
    cases h1 : isOne p
    · rfl
    · cases h2 : isOne q
      · rfl
      · rw [hr h1 h2]
  · have e : renO op = op := by unfold renO; rw [if_neg h5]
    have hr := fun h1 h2 => h.2 op (Nat.log2 p) (Nat.log2 q) h7 h8 (isOne_lt h1 hp) (isOne_lt h2 hq)
    rw [e] at hr ⊢
    unfold atomS
    by_cases a1 : op = 1
    · rw [if_pos a1, if_pos a1]
    by_cases a2 : op = 2
    · rw [if_neg a1, if_pos a2, if_neg a1, if_pos a2]
    by_cases a3 : op = 3
    · rw [if_neg a1, if_neg a2, if_pos a3, if_neg a1, if_neg a2, if_pos a3]
    by_cases a4 : op = 4
    · rw [if_neg a1, if_neg a2, if_neg a3, if_pos a4, if_neg a1, if_neg a2, if_neg a3, if_pos a4]
    rw [if_neg a1, if_neg a2, if_neg a3, if_neg a4, if_neg a1, if_neg a2, if_neg a3, if_neg a4]
    cases h1 : isOne p
    · rfl
    · cases h2 : isOne q
      · rfl
      · rw [hr h1 h2]
theorem getV_lt {a : List Nat} {N : Nat} (h : ∀ u ∈ a, u < N) (hN : 0 < N) (x : Int) : getV a x < N := by
  unfold getV
  rw [List.getD_eq_getElem?_getD]
  cases e : a[x.toNat]? with
  | none => exact hN
  | some u => exact h u (List.mem_of_getElem? e)
theorem setV_lt {a : List Nat} {N s : Nat} (h : ∀ u ∈ a, u < N) (hs : s < N) (x : Int) : ∀ u ∈ setV a x s, u < N := fun u hu => by
  rcases List.mem_or_eq_of_mem_set hu with h1 | h1
  · exact h u h1
  · omega
theorem holds_ren {S S' : Stc} (h : Alike2 S S') : ∀ (t : Tr) (a : List Nat), (∀ m ∈ t.enc 0, m.op ≠ 7 ∧ m.op ≠ 8) → (∀ u ∈ a, u < 2 ^ S.n) → holdsT S t a = holdsT S' t.ren a := by
  have hp2 : 0 < 2 ^ S.n := Nat.pos_of_ne_zero (by simp)
  have sh : ∀ (t : Tr) (p : Nat), (∀ m ∈ t.enc p, m.op ≠ 7 ∧ m.op ≠ 8) → ∀ a : List Nat, (∀ u ∈ a, u < 2 ^ S.n) → holdsT S t a = holdsT S' t.ren a := by
    intro t
    induction t with
    | leaf op x y =>
      intro p hm a ha
      have ho := hm ⟨op, x, y, 0, 0⟩ (by simp [Tr.enc])
      simp only [holdsT, Tr.ren]
      exact atom_ren h op _ _ ho.1 ho.2 (getV_lt ha hp2 x) (getV_lt ha hp2 y)
    | un op x b ih =>
      intro p hm a ha
      have hb := ih p (fun m hmm => hm m (by simp only [Tr.enc, List.mem_append]; exact .inl hmm))
      have e1 : ∀ s, s < 2 ^ S.n → holdsT S b (setV a x s) = holdsT S' b.ren (setV a x s) := fun s hs => hb _ (setV_lt ha hs x)
      have e2 : ∀ p, p < S.n → holdsT S b (setV a x (2 ^ p)) = holdsT S' b.ren (setV a x (2 ^ p)) := fun p hp => e1 _ (Nat.pow_lt_pow_right (by omega) hp)
      have s1 : setN S.n ≤ 2 ^ S.n := Nat.mod_le _ _
      have any_c : ∀ (k : Nat) (g g' : Nat → Bool), (∀ i, i < k → g i = g' i) → (List.range k).any g = (List.range k).any g' := fun k g g' hg => by
        rw [Bool.eq_iff_iff, List.any_eq_true, List.any_eq_true]
        constructor
        · rintro ⟨i, hi, hh⟩; exact ⟨i, hi, by rw [← hg i (List.mem_range.1 hi)]; exact hh⟩
        · rintro ⟨i, hi, hh⟩; exact ⟨i, hi, by rw [hg i (List.mem_range.1 hi)]; exact hh⟩
      have all_c : ∀ (k : Nat) (g g' : Nat → Bool), (∀ i, i < k → g i = g' i) → (List.range k).all g = (List.range k).all g' := fun k g g' hg => by
        rw [Bool.eq_iff_iff, List.all_eq_true, List.all_eq_true]
        constructor
        · intro hh i hi; rw [← hg i (List.mem_range.1 hi)]; exact hh i hi
        · intro hh i hi; rw [hg i (List.mem_range.1 hi)]; exact hh i hi
      simp only [holdsT, Tr.ren]
      rw [← h.1, hb a ha, any_c _ _ _ (fun i hi => e1 i (by omega)), all_c _ _ _ (fun i hi => e1 i (by omega)), any_c _ _ _ (fun i hi => e2 i hi), all_c _ _ _ (fun i hi => e2 i hi)]
    | bin op b c ihb ihc =>
      intro p hm a ha
      simp only [holdsT, Tr.ren]
      rw [ihb p (fun m hmm => hm m (by simp only [Tr.enc, List.mem_append]; exact .inl hmm)) a ha, ihc _ (fun m hmm => hm m (by simp only [Tr.enc, List.mem_append]; exact .inr (.inl hmm))) a ha]
  exact fun t a hm ha => sh t 0 hm a ha

/-- The tree of a word's letters whose nodes have only right children. -/
def chainB : List Nat → Bt
  | [] => .nil
  | x :: xs => .node x .nil (chainB xs)
theorem chain_size : ∀ l, (chainB l).size = l.length
  | [] => rfl
  | x :: xs => by simp [chainB, Bt.size, chain_size xs]
def pathL (l : List Nat) : List Lf := (chainB l).enc 0
theorem chain_get : ∀ (l : List Nat) (p j x : Nat), l[j]? = some x → ((chainB l).enc p)[j]? = some ⟨x, -1, if j + 1 < l.length then ((p + j + 1 : Nat) : Int) else -1⟩
  | [], p, j, x, h => by simp at h
  | y :: ys, p, 0, x, h => by
    simp at h; subst h
    simp only [chainB, Bt.enc, Bt.size, List.nil_append, List.getElem?_cons_zero, Bt.at, chain_size]
    cases ys <;> simp [Bt.size]
  | y :: ys, p, j + 1, x, h => by
    simp only [List.getElem?_cons_succ] at h
    simp only [chainB, Bt.enc, Bt.size, List.nil_append, List.getElem?_cons_succ, Nat.add_zero]
    rw [chain_get ys (p + 1) j x h]
    simp only [List.length_cons, Option.some.injEq, Lf.mk.injEq, true_and]
    by_cases hj : j + 1 < ys.length
    · rw [if_pos hj, if_pos (by omega)]; omega
    · rw [if_neg hj, if_neg (by omega)]
theorem path_len (l : List Nat) : (pathL l).length = l.length := by rw [pathL, Bt.enc_len, chain_size]
theorem path_get (l : List Nat) (j x : Nat) (h : l[j]? = some x) : (pathL l)[j]? = some ⟨x, -1, if j + 1 < l.length then ((j + 1 : Nat) : Int) else -1⟩ := by
  have := chain_get l 0 j x h
  rw [Nat.zero_add] at this
  exact this
theorem path_formed (l : List Nat) (hl : l.length ≤ 31) : formedT (pathL l) = true := formedT_of (by rw [path_len]; exact hl) (by rw [path_len, chain_size]) (Seg.self (chainB l))
theorem path_check (l : List Nat) (hl : l.length ≤ 31) (h8 : ∀ x ∈ l, x < 8) : checkT (pathL l) 3 = 0 := by
  unfold checkT
  rw [if_neg (by omega), if_neg (by rw [path_len]; omega)]
  have hb : (pathL l).any (badLabel 3) = false := by
    rw [List.any_eq_false]
    intro x hx
    obtain ⟨j, hj⟩ := List.getElem?_of_mem hx
    have hjl : j < l.length := by have := (List.getElem?_eq_some_iff.1 hj).1; rwa [path_len] at this
    rw [path_get l j l[j] (List.getElem?_eq_getElem hjl)] at hj
    cases hj
    have := h8 l[j] (List.getElem_mem hjl)
    simp only [badLabel, ne_eq, decide_eq_true_eq, Decidable.not_not]
    have e : (2 : Int) ^ (3 : Int).toNat = 8 := by decide
    rw [e]; omega
  rw [hb, if_neg (by simp), if_pos (path_formed l hl)]
theorem path_labels (l : List Nat) : labelsS (pathL l) = l := by
  apply List.ext_getElem?
  intro j
  unfold labelsS
  rw [List.getElem?_map]
  by_cases hj : j < l.length
  · rw [path_get l j l[j] (List.getElem?_eq_getElem hj), List.getElem?_eq_getElem hj]; simp
  · rw [List.getElem?_eq_none (by rw [path_len]; omega), List.getElem?_eq_none (by omega)]; rfl
theorem path_anc (l : List Nat) (hl : l.length ≤ 31) (q : Nat) (hq : q < l.length) : ∀ d p, l.length - p ≤ d → p < l.length → ancS (pathL l) p q = decide (p < q) := by
  have hk := kids_ok (path_formed l hl)
  intro d
  induction d with
  | zero => intro p h1 h2; omega
  | succ d ih =>
    intro p hd hp
    rw [ancS_eq hk p q _ (path_get l p l[p] (List.getElem?_eq_getElem hp))]
    by_cases hqp : q ≤ p
    · rw [if_pos hqp]; simp; omega
    · rw [if_neg hqp]
      have hp1 : p + 1 < l.length := by omega
      simp only [if_pos hp1, Int.toNat_natCast]
      rw [ih (p + 1) (by omega) hp1]
      have e1 : decide ((-1 : Int) = q) = false := by simp
      have e2 : decide ((0 : Int) < -1) = false := by decide
      rw [e1, e2]
      rw [Bool.eq_iff_iff]; simp; omega
theorem path_alike (l : List Nat) (hl : l.length ≤ 31) : Alike2 (stcWord l.length) (stcTree (pathL l)) := by
  refine ⟨(path_len l).symm, fun op p q h7 h8 hp hq => ?_⟩
  have hp' : p < l.length := hp
  have hq' : q < l.length := hq
  have hr : rightS (pathL l) p = if p + 1 < l.length then ((p + 1 : Nat) : Int) else -1 := by
    unfold rightS; rw [path_get l p l[p] (List.getElem?_eq_getElem hp')]
  show relWord op p q = relTree (pathL l) (renO op) p q
  unfold relWord relTree renO
  by_cases h5 : op = 5
  · rw [if_pos h5, if_pos h5, if_neg (by omega), if_pos rfl, hr]
    by_cases hp1 : p + 1 < l.length
    · rw [if_pos hp1, Bool.eq_iff_iff]; simp; omega
    · rw [if_neg hp1, Bool.eq_iff_iff]; simp; omega
  · rw [if_neg h5, if_neg h5, if_neg h7, if_neg h8, path_anc l hl q hq' _ p (Nat.le_refl _) hp']
theorem paths_law (a : List Mk) (l : List Nat) (ha : ∀ m ∈ a, m.op ≠ 7 ∧ m.op ≠ 8) (hl : l.length ≤ 7) (h8 : ∀ x ∈ l, x < 8) : modelTreeS (a.map renM) 3 (pathL l) = wordS a 3 l := by
  have hbad : l.any (badL 3) = false := by
    rw [List.any_eq_false]
    intro x hx
    have := h8 x hx
    simp only [badL, ne_eq, decide_eq_true_eq, Decidable.not_not]
    have e : (2 : Int) ^ (3 : Int).toNat = 8 := by decide
    rw [e]; omega
  unfold modelTreeS
  rw [check_ren a ha]
  by_cases hc : checkS a 3 false = 0
  · rw [if_neg (by simp [hc]), if_neg (by simp [path_check l (by omega) h8])]
    rw [wordS_at hc (by omega) hbad rfl]
    have hf := check_formed_of hc
    obtain ⟨_, ok, _, he⟩ := treeOf_ok hf
    unfold evalS
    rw [tree_ren hf, cost_ren, path_labels]
    have hn : (stcTree (pathL l)).n = l.length := path_len l
    rw [hn, ← holds_ren (path_alike l (by omega)) (treeOf a) (givenS l) (by rw [← he]; exact ha) (fun u hu => by
      simp only [givenS, List.mem_map] at hu
      obtain ⟨v, _, rfl⟩ := hu
      exact givenV_lt l v)]
  · unfold wordS
    rw [if_pos hc, if_pos hc]
end Go.Proofs.YtdlibehffgfhlaaDoor

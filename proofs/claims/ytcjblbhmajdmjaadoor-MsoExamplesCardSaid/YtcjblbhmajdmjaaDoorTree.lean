/- Formulas as trees: a formed list of marks is the postorder of exactly one tree. -/
import Derived.Test.YtcjblbhmajdmjaaDoorSpec
set_option linter.unusedSimpArgs false
set_option linter.unusedVariables false
namespace Go.Proofs.YtcjblbhmajdmjaaDoor

inductive Tr where
  | leaf (op x y : Int)
  | un (op x : Int) (a : Tr)
  | bin (op : Int) (a b : Tr)

def Tr.size : Tr → Nat
  | .leaf _ _ _ => 1
  | .un _ _ a => a.size + 1
  | .bin _ a b => a.size + b.size + 1
theorem Tr.size_pos (t : Tr) : 1 ≤ t.size := by cases t <;> simp [Tr.size]

/-- The marks of a tree whose first mark has the index p. -/
def Tr.enc : Nat → Tr → List Mk
  | _, .leaf op x y => [⟨op, x, y, 0, 0⟩]
  | p, .un op x a => a.enc p ++ [⟨op, x, 0, ((p + a.size - 1 : Nat) : Int), 0⟩]
  | p, .bin op a b => a.enc p ++ (b.enc (p + a.size) ++ [⟨op, 0, 0, ((p + a.size - 1 : Nat) : Int), ((p + a.size + b.size - 1 : Nat) : Int)⟩])
theorem Tr.enc_len (t : Tr) : ∀ p, (t.enc p).length = t.size := by
  induction t with
  | leaf op x y => intro p; rfl
  | un op x a ih => intro p; simp [Tr.enc, Tr.size, ih]
  | bin op a b iha ihb => intro p; simp [Tr.enc, Tr.size, iha, ihb]; omega

def okLeaf (op x y : Int) : Prop := nm op ≠ [] ∧ nc op = 0 ∧ within ⟨op, x, y, 0, 0⟩ 6 = true ∧ spare ⟨op, x, y, 0, 0⟩ = true
def okUn (op x : Int) : Prop := nm op ≠ [] ∧ nc op = 1 ∧ within ⟨op, x, 0, 0, 0⟩ 6 = true ∧ spare ⟨op, x, 0, 0, 0⟩ = true
def Tr.ok : Tr → Prop
  | .leaf op x y => okLeaf op x y
  | .un op x a => okUn op x ∧ a.ok
  | .bin op a b => nc op = 2 ∧ a.ok ∧ b.ok

theorem foldl_prefix (g : List Mk) : ∀ acc : List Nat, (g.foldl (fun acc m => acc ++ [blk acc m]) acc).take acc.length = acc := by
  induction g with
  | nil => intro acc; simp
  | cons m g ih =>
    intro acc
    have h := ih (acc ++ [blk acc m])
    simp only [List.foldl_cons]
    have h2 := congrArg (List.take acc.length) h
    rw [List.take_take] at h2
    simpa [Nat.min_eq_left] using h2
theorem szs_take_eq (f : List Mk) (k : Nat) (hk : k ≤ f.length) : szs (f.take k) = (szs f).take k := by
  have h := foldl_prefix (f.drop k) (szs (f.take k))
  have e : (f.drop k).foldl (fun acc m => acc ++ [blk acc m]) (szs (f.take k)) = szs f := by
    unfold szs
    rw [← List.foldl_append, List.take_append_drop]
  rw [e, szs_len, List.length_take, Nat.min_eq_left hk] at h
  exact h.symm
theorem szs_get (f : List Mk) (i : Nat) (m : Mk) (h : f[i]? = some m) : (szs f).getD i 0 = blk ((szs f).take i) m := by
  have hi : i < f.length := (List.getElem?_eq_some_iff.1 h).1
  have e := szs_take f i m h
  rw [szs_take_eq f (i + 1) hi, szs_take_eq f i (by omega)] at e
  have h2 := congrArg (fun l : List Nat => l[i]?) e
  have hl : ((szs f).take i).length = i := by rw [List.length_take, szs_len]; omega
  simp only [List.getElem?_take] at h2
  rw [if_pos (by omega), List.getElem?_append_right (by omega), hl] at h2
  simp at h2
  rw [List.getD_eq_getElem?_getD, h2]; rfl
theorem take_getD (l : List Nat) (i j : Nat) (h : j < i) : (l.take i).getD j 0 = l.getD j 0 := by
  rw [List.getD_eq_getElem?_getD, List.getElem?_take, if_pos h, ← List.getD_eq_getElem?_getD]

theorem chkList_all (vars : Int) (known : Int → Bool) : ∀ (f : List Mk) (ss : List Nat), f.length = ss.length → chkList vars known f ss = 0 → ∀ i m, f[i]? = some m → chkNode vars known m (ss.getD i 0) = 0
  | [], _, _, _, i, m, h => by simp at h
  | a :: f, [], hl, _, _, _, _ => by simp at hl
  | a :: f, s :: ss, hl, h, i, m, hm => by
    rw [chkList] at h
    by_cases h0 : chkNode vars known a s = 0
    · rw [if_pos h0] at h
      cases i with
      | zero => simp at hm; subst hm; simpa using h0
      | succ i => exact chkList_all vars known f ss (by simpa using hl) h i m (by simpa using hm)
    · rw [if_neg h0] at h; exact absurd h h0
theorem chkNode_zero {vars : Int} {known : Int → Bool} {m : Mk} {s : Nat} (h : chkNode vars known m s = 0) : nm m.op ≠ [] ∧ known m.op = true ∧ within m vars = true ∧ spare m = true ∧ s ≠ 0 := by
  unfold chkNode at h
  by_cases h1 : nm m.op = []
  · rw [if_pos h1] at h; omega
  by_cases h2 : known m.op = false
  · rw [if_neg h1, if_pos h2] at h; omega
  by_cases h3 : within m vars = false
  · rw [if_neg h1, if_neg h2, if_pos h3] at h; omega
  by_cases h4 : spare m = false
  · rw [if_neg h1, if_neg h2, if_neg h3, if_pos h4] at h; omega
  by_cases h5 : s = 0
  · rw [if_neg h1, if_neg h2, if_neg h3, if_neg h4, if_pos h5] at h; omega
  exact ⟨h1, by simpa using h2, by simpa using h3, by simpa using h4, h5⟩

theorem nv_of_nc1 (op : Int) (h : nc op = 1) : nv op < 2 := by
  unfold nc at h
  unfold nv
  repeat' split at h
  all_goals first | omega | (repeat' split) <;> omega
theorem nv_of_nc2 (op : Int) (h : nc op = 2) : nv op = 0 ∧ nm op ≠ [] := by
  unfold nc at h
  by_cases h1 : op = 10 ∨ op = 11
  · rcases h1 with rfl | rfl <;> decide
  · rw [if_neg h1] at h
    split at h <;> omega

theorem take_snoc_get (f : List Mk) (p s : Nat) (m : Mk) (h : f[p + s]? = some m) : (f.drop p).take (s + 1) = (f.drop p).take s ++ [m] := by
  rw [List.take_add_one, List.getElem?_drop, h]; rfl

theorem tree_at (f : List Mk) (hn : ∀ i m, f[i]? = some m → nm m.op ≠ [] ∧ within m 6 = true ∧ spare m = true ∧ (szs f).getD i 0 ≠ 0) :
    ∀ i, i < f.length → (szs f).getD i 0 ≤ i + 1 ∧ ∃ t : Tr, t.ok ∧ t.size = (szs f).getD i 0 ∧ (f.drop (i + 1 - (szs f).getD i 0)).take ((szs f).getD i 0) = t.enc (i + 1 - (szs f).getD i 0) := by
  intro i
  induction i using Nat.strongRecOn with
  | _ i ih =>
    intro hi
    have hle := szs_le f i
    refine ⟨hle, ?_⟩
    obtain ⟨m, hm⟩ : ∃ m, f[i]? = some m := ⟨f[i], List.getElem?_eq_getElem hi⟩
    obtain ⟨n1, n2, n3, n4⟩ := hn i m hm
    have hg := szs_get f i m hm
    have hlen : ((szs f).take i).length = i := by rw [List.length_take, szs_len]; omega
    rw [hg] at n4 ⊢
    unfold blk at n4 ⊢
    simp only [hlen] at n4 ⊢
    by_cases c0 : nc m.op = 0
    · simp only [if_pos c0] at n4 ⊢
      by_cases hab : m.a = 0 ∧ m.b = 0
      · rw [if_pos hab]
        refine ⟨.leaf m.op m.x m.y, ⟨n1, c0, ?_, ?_⟩, rfl, ?_⟩
        · simpa [within] using n2
        · simpa [spare] using n3
        · have := take_snoc_get f i 0 m (by simpa using hm)
          simp only [Nat.add_sub_cancel]
          rw [show (1 : Nat) = 0 + 1 from rfl, this]
          obtain ⟨op, x, y, a, b⟩ := m
          simp only at hab
          simp [Tr.enc, hab.1, hab.2]
      · rw [if_neg hab] at n4; exact absurd rfl n4
    · simp only [if_neg c0] at n4 ⊢
      by_cases i0 : i = 0
      · simp only [if_pos i0] at n4; exact absurd rfl n4
      simp only [if_neg i0] at n4 ⊢
      rw [take_getD _ _ _ (by omega)] at n4 ⊢
      by_cases s0 : (szs f).getD (i - 1) 0 = 0
      · simp only [if_pos s0] at n4; exact absurd rfl n4
      simp only [if_neg s0] at n4 ⊢
      obtain ⟨l1, ta, oka, sa, ea⟩ := ih (i - 1) (by omega) (by omega)
      generalize hs1 : (szs f).getD (i - 1) 0 = s1 at *
      have ep : i - 1 + 1 - s1 = i - s1 := by omega
      rw [ep] at ea
      by_cases c1 : nc m.op = 1
      · simp only [if_pos c1] at n4 ⊢
        by_cases hab : m.a = (i : Int) - 1 ∧ m.b = 0
        · simp only [if_pos hab]
          have hy : m.y = 0 := by
            have := nv_of_nc1 m.op c1
            simp only [spare, Bool.and_eq_true, Bool.or_eq_true, decide_eq_true_eq] at n3
            omega
          have e1 : i + 1 - (1 + s1) = i - s1 := by omega
          rw [e1, Nat.add_comm 1 s1]
          refine ⟨.un m.op m.x ta, ⟨⟨n1, c1, ?_, ?_⟩, oka⟩, by simp [Tr.size, sa], ?_⟩
          · simpa [within, hy] using n2
          · simpa [spare, hy] using n3
          · rw [take_snoc_get f (i - s1) s1 m (by rw [show i - s1 + s1 = i by omega]; exact hm), ea]
            simp only [Tr.enc, sa]
            congr 1
            obtain ⟨op, x, y, a, b⟩ := m
            simp only at hab hy
            rw [show i - s1 + s1 - 1 = i - 1 by omega]
            simp only [List.cons.injEq, Mk.mk.injEq, and_true, true_and]
            refine ⟨hy, by omega, hab.2⟩
        · simp only [if_neg hab] at n4; exact absurd rfl n4
      · simp only [if_neg c1] at n4 ⊢
        have c2 : nc m.op = 2 := by rcases nc_cases m.op with h | h | h <;> simp_all
        by_cases d0 : i - s1 = 0
        · simp only [if_pos d0] at n4; exact absurd rfl n4
        simp only [if_neg d0] at n4 ⊢
        rw [take_getD _ _ _ (by omega)] at n4 ⊢
        by_cases s20 : (szs f).getD (i - s1 - 1) 0 = 0
        · simp only [if_pos s20] at n4; exact absurd rfl n4
        simp only [if_neg s20] at n4 ⊢
        obtain ⟨l2, tb, okb, sb, eb⟩ := ih (i - s1 - 1) (by omega) (by omega)
        generalize hs2 : (szs f).getD (i - s1 - 1) 0 = s2 at *
        have eq : i - s1 - 1 + 1 - s2 = i - s1 - s2 := by omega
        rw [eq] at eb
        by_cases hab : m.b = (i : Int) - 1 ∧ m.a = ((i - s1 - 1 : Nat) : Int)
        · simp only [if_pos hab]
          obtain ⟨hv, _⟩ := nv_of_nc2 m.op c2
          have hxy : m.x = 0 ∧ m.y = 0 := by
            simp only [spare, Bool.and_eq_true, Bool.or_eq_true, decide_eq_true_eq, hv] at n3
            omega
          have e1 : i + 1 - (1 + s1 + s2) = i - s1 - s2 := by omega
          rw [e1, show 1 + s1 + s2 = s2 + s1 + 1 by omega]
          refine ⟨.bin m.op tb ta, ⟨c2, okb, oka⟩, by simp [Tr.size, sa, sb], ?_⟩
          rw [take_snoc_get f (i - s1 - s2) (s2 + s1) m (by rw [show i - s1 - s2 + (s2 + s1) = i by omega]; exact hm)]
          rw [List.take_add, eb, List.drop_drop, show i - s1 - s2 + s2 = i - s1 by omega, ea]
          simp only [Tr.enc, sa, sb, List.append_assoc]
          rw [show i - s1 - s2 + s2 = i - s1 by omega]
          congr 2
          obtain ⟨op, x, y, a, b⟩ := m
          simp only at hab hxy
          rw [show i - s1 + s1 - 1 = i - 1 by omega]
          simp only [List.cons.injEq, Mk.mk.injEq, and_true, true_and]
          refine ⟨hxy.1, hxy.2, hab.2, by omega⟩
        · simp only [if_neg hab] at n4; exact absurd rfl n4

theorem formed_len (f : List Mk) (h : formedS f = true) : 1 ≤ f.length ∧ f.length ≤ 64 := by
  have h : chk f 6 (fun _ => true) = 0 := of_decide_eq_true h
  unfold chk at h
  by_cases h1 : f.length = 0
  · rw [if_pos h1] at h; omega
  · by_cases h2 : 64 < f.length
    · rw [if_neg h1, if_pos h2] at h; omega
    · omega

theorem formed_tree (f : List Mk) (h : formedS f = true) : f.length ≤ 64 ∧ ∃ t : Tr, t.ok ∧ t.size = f.length ∧ f = t.enc 0 := by
  have h : chk f 6 (fun _ => true) = 0 := of_decide_eq_true h
  unfold chk at h
  by_cases h1 : f.length = 0
  · rw [if_pos h1] at h; omega
  by_cases h2 : 64 < f.length
  · rw [if_neg h1, if_pos h2] at h; omega
  rw [if_neg h1, if_neg h2] at h
  by_cases h3 : chkList 6 (fun _ => true) f (szs f) = 0
  · rw [if_pos h3] at h
    by_cases h4 : (szs f).getD (f.length - 1) 0 = f.length
    · refine ⟨by omega, ?_⟩
      obtain ⟨_, t, ok, hs, he⟩ := tree_at f (fun i m hm => by
        obtain ⟨a, _, b, c, d⟩ := chkNode_zero (chkList_all 6 _ f (szs f) (szs_len f).symm h3 i m hm)
        exact ⟨a, b, c, d⟩) (f.length - 1) (by omega)
      rw [h4] at hs he
      rw [show f.length - 1 + 1 - f.length = 0 by omega, List.drop_zero, List.take_length] at he
      exact ⟨t, ok, hs, he⟩
    · rw [if_neg h4] at h; omega
  · rw [if_neg h3] at h; exact absurd h h3
end Go.Proofs.YtcjblbhmajdmjaaDoor

/- The postorder of a tree is a formed formula; Format and Parse are inverse to each other: plain. -/
import Derived.Test.YtdlibehffgfhlaaDoorParse
set_option linter.unusedSimpArgs false
set_option linter.unusedVariables false
namespace Go.Proofs.YtdlibehffgfhlaaDoor

def Tr.sz : Tr → List Nat
  | .leaf _ _ _ => [1]
  | .un _ _ a => a.sz ++ [a.size + 1]
  | .bin _ a b => a.sz ++ (b.sz ++ [a.size + b.size + 1])
theorem Tr.sz_len (t : Tr) : t.sz.length = t.size := by
  induction t with
  | leaf op x y => rfl
  | un op x a ih => simp [Tr.sz, Tr.size, ih]
  | bin op a b iha ihb => simp [Tr.sz, Tr.size, iha, ihb]; omega
theorem Tr.sz_last (t : Tr) : t.sz[t.size - 1]? = some t.size := by
  cases t with
  | leaf op x y => rfl
  | un op x a =>
    simp only [Tr.sz, Tr.size]
    rw [List.getElem?_append_right (by rw [Tr.sz_len]; omega), Tr.sz_len]
    simp
  | bin op a b =>
    simp only [Tr.sz, Tr.size]
    rw [List.getElem?_append_right (by rw [Tr.sz_len]; omega), Tr.sz_len, List.getElem?_append_right (by rw [Tr.sz_len]; omega), Tr.sz_len]
    have e : a.size + b.size + 1 - 1 - a.size - b.size = 0 := by omega
    rw [e]; rfl
theorem Tr.sz_pos (t : Tr) : ∀ i, i < t.size → t.sz.getD i 0 ≠ 0 := by
  have h : ∀ t : Tr, ∀ x ∈ t.sz, x ≠ 0 := by
    intro t
    induction t with
    | leaf op x y => simp [Tr.sz]
    | un op x a ih =>
      intro x hx
      simp only [Tr.sz, List.mem_append, List.mem_singleton] at hx
      rcases hx with hx | hx
      · exact ih x hx
      · omega
    | bin op a b iha ihb =>
      intro x hx
      simp only [Tr.sz, List.mem_append, List.mem_singleton] at hx
      rcases hx with hx | hx | hx
      · exact iha x hx
      · exact ihb x hx
      · omega
  intro i hi
  rw [List.getD_eq_getElem?_getD, List.getElem?_eq_getElem (by rw [Tr.sz_len]; exact hi)]
  exact h t _ (List.getElem_mem _)

theorem enc_szs (t : Tr) : t.ok → ∀ (acc : List Nat) (p : Nat), acc.length = p → (t.enc p).foldl (fun acc m => acc ++ [blk acc m]) acc = acc ++ t.sz := by
  induction t with
  | leaf op x y =>
    intro ok acc p hp
    have h0 : nc op = 0 := ok.2.1
    simp [Tr.enc, Tr.sz, blk, h0]
  | un op x a ih =>
    intro ok acc p hp
    have h0 : nc op = 1 := ok.1.2.1
    have hs := a.size_pos
    rw [Tr.enc, List.foldl_append, ih ok.2 acc p hp]
    simp only [List.foldl_cons, List.foldl_nil, Tr.sz, List.append_assoc]
    have hl : (acc ++ a.sz).length = p + a.size := by rw [List.length_append, Tr.sz_len, hp]
    have h1 : (acc ++ a.sz).getD (p + a.size - 1) 0 = a.size := by
      rw [List.getD_eq_getElem?_getD, List.getElem?_append_right (by omega), hp, show p + a.size - 1 - p = a.size - 1 by omega, Tr.sz_last]; rfl
    congr 2
    unfold blk
    simp only [h0, hl, h1]
    rw [if_neg (by omega), if_neg (by omega), if_neg (by omega), if_pos trivial, if_pos ⟨by omega, trivial⟩, Nat.add_comm]
  | bin op a b iha ihb =>
    intro ok acc p hp
    have h0 : nc op = 2 := ok.1
    have hs := a.size_pos
    have hs2 := b.size_pos
    rw [Tr.enc, List.foldl_append, iha ok.2.1 acc p hp, List.foldl_append, ihb ok.2.2 (acc ++ a.sz) (p + a.size) (by rw [List.length_append, Tr.sz_len, hp])]
    simp only [List.foldl_cons, List.foldl_nil, Tr.sz, List.append_assoc]
    have hl : (acc ++ (a.sz ++ b.sz)).length = p + a.size + b.size := by rw [List.length_append, List.length_append, Tr.sz_len, Tr.sz_len, hp]; omega
    have h1 : (acc ++ (a.sz ++ b.sz)).getD (p + a.size + b.size - 1) 0 = b.size := by
      rw [List.getD_eq_getElem?_getD, List.getElem?_append_right (by omega), List.getElem?_append_right (by rw [Tr.sz_len]; omega), hp, Tr.sz_len, show p + a.size + b.size - 1 - p - a.size = b.size - 1 by omega, Tr.sz_last]; rfl
    have h2 : (acc ++ (a.sz ++ b.sz)).getD (p + a.size + b.size - b.size - 1) 0 = a.size := by
      rw [List.getD_eq_getElem?_getD, List.getElem?_append_right (by omega), List.getElem?_append_left (by rw [Tr.sz_len]; omega), hp, show p + a.size + b.size - b.size - 1 - p = a.size - 1 by omega, Tr.sz_last]; rfl
    congr 3
    unfold blk
    simp only [h0, hl, h1, h2]
    rw [if_neg (by omega), if_neg (by omega), if_neg (by omega), if_neg (by omega), if_neg (by omega), if_neg (by omega), if_pos ⟨by omega, by omega⟩]
    congr 1
    omega
theorem szs_enc (t : Tr) (ok : t.ok) : szs (t.enc 0) = t.sz := by simpa [szs] using enc_szs t ok [] 0 rfl

theorem chkList_of (vars : Int) (known : Int → Bool) : ∀ (f : List Mk) (ss : List Nat), (∀ i m, f[i]? = some m → i < ss.length → chkNode vars known m (ss.getD i 0) = 0) → chkList vars known f ss = 0
  | [], _, _ => by simp [chkList]
  | m :: f, [], _ => by simp [chkList]
  | m :: f, s :: ss, h => by
    rw [chkList, if_pos (by simpa using h 0 m rfl (by simp))]
    exact chkList_of vars known f ss fun i a ha hi => by simpa using h (i + 1) a (by simpa using ha) (by simpa using hi)
theorem chkNode_mk {vars : Int} {known : Int → Bool} {m : Mk} {s : Nat} (h1 : nm m.op ≠ []) (h2 : known m.op = true) (h3 : within m vars = true) (h4 : spare m = true) (h5 : s ≠ 0) : chkNode vars known m s = 0 := by
  unfold chkNode
  rw [if_neg h1, if_neg (by simp [h2]), if_neg (by simp [h3]), if_neg (by simp [h4]), if_neg h5]
theorem Tr.enc_node (t : Tr) : t.ok → ∀ p, ∀ m ∈ t.enc p, nm m.op ≠ [] ∧ within m 6 = true ∧ spare m = true := by
  induction t with
  | leaf op x y => intro ok p m hm; simp only [Tr.enc, List.mem_singleton] at hm; subst hm; exact ⟨ok.1, ok.2.2.1, ok.2.2.2⟩
  | un op x a ih =>
    intro ok p m hm
    simp only [Tr.enc, List.mem_append, List.mem_singleton] at hm
    rcases hm with hm | hm
    · exact ih ok.2 p m hm
    · subst hm; exact ⟨ok.1.1, ok.1.2.2.1, ok.1.2.2.2⟩
  | bin op a b iha ihb =>
    intro ok p m hm
    simp only [Tr.enc, List.mem_append, List.mem_singleton] at hm
    rcases hm with hm | hm | hm
    · exact iha ok.2.1 p m hm
    · exact ihb ok.2.2 _ m hm
    · subst hm
      obtain ⟨v0, o1⟩ := nv_of_nc2 op ok.1
      exact ⟨o1, by simp [within, v0], by simp [spare]⟩
theorem chk_enc (t : Tr) (ok : t.ok) (hs : t.size ≤ 64) (vars : Int) (known : Int → Bool) (hk : ∀ m ∈ t.enc 0, known m.op = true) (hw : ∀ m ∈ t.enc 0, within m vars = true) : chk (t.enc 0) vars known = 0 := by
  have hp := t.size_pos
  unfold chk
  rw [Tr.enc_len, if_neg (by omega), if_neg (by omega), szs_enc t ok]
  rw [if_pos]
  · rw [List.getD_eq_getElem?_getD, Tr.sz_last]; simp
  · refine chkList_of _ _ _ _ fun i m hm hi => ?_
    have hmem := List.mem_of_getElem? hm
    obtain ⟨a, b, c⟩ := t.enc_node ok 0 m hmem
    exact chkNode_mk a (hk m hmem) (hw m hmem) c (t.sz_pos i (by rw [← Tr.sz_len]; exact hi))
theorem formed_enc (t : Tr) (ok : t.ok) (hs : t.size ≤ 64) : formedS (t.enc 0) = true :=
  decide_eq_true (chk_enc t ok hs 6 _ (fun _ _ => rfl) fun m hm => (t.enc_node ok 0 m hm).2.1)

/-- The text of a formula, as Format builds it. -/
def textS (f : List Mk) : List UInt8 := (stk f f.length).headD []
theorem text_enc (t : Tr) (ok : t.ok) : textS (t.enc 0) = t.text := by
  unfold textS stk
  rw [List.take_length, (t.enc_fmt ok 0 []).2]; rfl
theorem formed_is (f : List Mk) (hf : formedS f = true) : ∃ t : Tr, t.ok ∧ t.size ≤ 64 ∧ f = t.enc 0 ∧ textS f = t.text := by
  obtain ⟨hl, t, ok, hs, he⟩ := formed_tree f hf
  exact ⟨t, ok, by omega, he, by rw [he, text_enc t ok]⟩

theorem sum_ones : ∀ l : List Int, (l.map fun _ => 1).sum = l.length
  | [] => rfl
  | _ :: l => by simp only [List.map_cons, List.sum_cons, sum_ones l, List.length_cons]; omega
theorem Tr.text_len (t : Tr) : t.ok → t.text.length ≤ 20 * t.size := by
  induction t with
  | leaf op x y =>
    intro ok
    have h1 := nm_len op
    rw [Tr.text]
    split
    · simp only [Tr.size]; omega
    · have h2 := join_len (nm op :: (occ ⟨op, x, y, 0, 0⟩).map varB ++ [])
      have h3 := occ_len ⟨op, x, y, 0, 0⟩
      have e : ((nm op :: (occ ⟨op, x, y, 0, 0⟩).map varB ++ ([] : List (List UInt8)))).length = 1 + (occ ⟨op, x, y, 0, 0⟩).length := by simp; omega
      have e2 : tot (nm op :: (occ ⟨op, x, y, 0, 0⟩).map varB ++ ([] : List (List UInt8))) = (nm op).length + (occ ⟨op, x, y, 0, 0⟩).length := by
        generalize occ ⟨op, x, y, 0, 0⟩ = l
        simp only [tot, List.append_nil, List.map_cons, List.sum_cons, List.map_map, Function.comp_def, varB, List.length_singleton, sum_ones]
      simp only [fmtNode, List.length_append, List.length_singleton, Tr.size]
      omega
  | un op x a ih =>
    intro ok
    have h0 := ih ok.2
    have h1 := nm_len op
    have h2 := join_len (nm op :: (occ ⟨op, x, 0, 0, 0⟩).map varB ++ [a.text])
    have h3 := occ_len ⟨op, x, 0, 0, 0⟩
    have h4 : (occ ⟨op, x, 0, 0, 0⟩).length ≤ 1 := by
      have := nv_of_nc1 op ok.1.2.1
      unfold occ
      rw [List.length_take]
      simp only
      omega
    have e : ((nm op :: (occ ⟨op, x, 0, 0, 0⟩).map varB ++ [a.text])).length = 2 + (occ ⟨op, x, 0, 0, 0⟩).length := by simp; omega
    have e2 : tot (nm op :: (occ ⟨op, x, 0, 0, 0⟩).map varB ++ [a.text]) = (nm op).length + (occ ⟨op, x, 0, 0, 0⟩).length + a.text.length := by
      generalize occ ⟨op, x, 0, 0, 0⟩ = l
      simp only [tot, List.map_append, List.sum_append, List.map_cons, List.sum_cons, List.map_map, Function.comp_def, varB, List.length_singleton, sum_ones]
      simp <;> omega
    rw [Tr.text]
    simp only [fmtNode, List.length_append, List.length_singleton, Tr.size]
    omega
  | bin op a b iha ihb =>
    intro ok
    have h0 := iha ok.2.1
    have h0' := ihb ok.2.2
    have h1 := nm_len op
    have h2 := join_len (nm op :: (occ ⟨op, 0, 0, 0, 0⟩).map varB ++ [a.text, b.text])
    have h4 : occ ⟨op, 0, 0, 0, 0⟩ = [] := occ0 (nv_of_nc2 op ok.1).1
    rw [h4] at h2
    have e2 : tot (nm op :: ([] : List Int).map varB ++ [a.text, b.text]) = (nm op).length + a.text.length + b.text.length := by
      simp [tot]; omega
    have e3 : (nm op :: ([] : List Int).map varB ++ [a.text, b.text]).length = 3 := rfl
    rw [Tr.text]
    simp only [fmtNode, h4, List.length_append, List.length_singleton, Tr.size]
    omega

/-- The stage's theorem: Parse inverts Format. -/
theorem parse_text (f : List Mk) (hf : formedS f = true) : parseS (textS f) = (f, 0, 0) := by
  obtain ⟨t, ok, hs, he, ht⟩ := formed_is f hf
  have hl := t.text_len ok
  unfold parseS
  rw [ht, if_neg (by omega), form_text t.text t ok 65 0 0 ⟨[], by simp⟩ (by omega) (by omega) (fun c hc => by simp at hc)]
  simp only [Nat.zero_add]
  rw [if_neg (by omega), ← he]
/-- What is parsed is a formed formula with that text; an error lies in the text. -/
theorem parse_exact (s : List UInt8) : (((parseS s).2.2 = 0 ∧ formedS (parseS s).1 = true ∧ textS (parseS s).1 = s ∧ (parseS s).2.1 = 0) ∨
    ((parseS s).1 = [] ∧ (parseS s).2.2 ≠ 0 ∧ (parseS s).2.1 ≤ s.length ∧ (s.length ≤ 4096 → ((parseS s).2.2 = 3 ↔ (parseS s).2.1 = s.length)))) := by
  unfold parseS
  by_cases h : 4096 < s.length
  · rw [if_pos h]
    exact .inr ⟨rfl, by simp, by simp, by omega⟩
  rw [if_neg h]
  have g := form_good s 65 0 0 (by omega) (by omega) (by omega)
  cases hf : form s 65 0 0 with
  | err p e =>
    rw [hf] at g
    obtain ⟨g1, g2, g3, g4⟩ := g
    exact .inr ⟨rfl, by simp only; omega, g1, fun _ => g4⟩
  | ok p a =>
    rw [hf] at g
    obtain ⟨g1, g2, ok, g3, g4, g5⟩ := g
    simp only
    by_cases hp : p < s.length
    · rw [if_pos hp]
      exact .inr ⟨rfl, by simp, by simp only; omega, fun _ => by simp only; omega⟩
    · rw [if_neg hp]
      refine .inl ⟨rfl, formed_enc a.2 ok (by omega), ?_, rfl⟩
      simp only
      rw [text_enc a.2 ok]
      obtain ⟨r, hr⟩ := g5
      rw [List.drop_zero] at hr
      have : r = [] := by
        apply List.eq_nil_of_length_eq_zero
        have := congrArg List.length hr
        rw [List.length_append] at this
        omega
      rw [hr, this, List.append_nil]
end Go.Proofs.YtdlibehffgfhlaaDoor

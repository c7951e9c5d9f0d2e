/- Owned slices of strings (written by gen_str.py from XIntA). -/
/- The text of a tree; the stack of Format. -/
import Derived.Test.YtcjblbhmajdmjaaDoorIntA
import Derived.Test.YtcjblbhmajdmjaaDoorTree
import Derived.Lib.Join
set_option linter.unusedSimpArgs false
set_option linter.unusedVariables false
namespace Go.Proofs.YtcjblbhmajdmjaaDoor
open Go.RowKit

/-- A string of these bytes. -/
def strV (l : List UInt8) : Value := .string ⟨l.toArray⟩
theorem strV_one (l : List UInt8) : (strV l).oneCell' = true := rfl
theorem info_str : (Tryd.prog.info? 9).map (fun i => (i.zero, i.size, i.bytes)) = some (some (.string ⟨#[]⟩), 1, 16) := by kernel_rfl
/-- A slice that reads as these strings. -/
def SSl (w : World) (v : Value) (l : List (List UInt8)) : Prop :=
  ∃ A c, v = .slice A l.length c ∧ l.length ≤ c ∧ c ≤ 9223372036854775807 ∧ (0 < l.length → ∃ b o, A = some ⟨b, o, none⟩ ∧ b < w.heap.size ∧ ∀ (i : Nat) (x : List UInt8), l[i]? = some x → w.cell? ⟨b, o + i, none⟩ = some (strV x))
theorem SSl.below {w w' : World} {v : Value} {f : List (List UInt8)} {B : Nat} (h : SSl w v f) (hb : Below B w w') (hB : w.heap.size ≤ B) : SSl w' v f := by
  obtain ⟨A, c, h1, h2, h3, h4⟩ := h
  refine ⟨A, c, h1, h2, h3, fun hp => ?_⟩
  obtain ⟨b, o, hA, hb', hm⟩ := h4 hp
  exact ⟨b, o, hA, Nat.lt_of_lt_of_le hb' hb.size, fun i x hi => (hb.cell (by show b < B; omega)).trans (hm i x hi)⟩
theorem SSl.nil (w : World) : SSl w (.slice none 0 0) [] := ⟨none, 0, rfl, by simp, by omega, by simp⟩

def tcells (l : List (List UInt8)) : List Value := l.map strV
def SOl (w : World) (B : Nat) (v : Value) (l : List (List UInt8)) : Prop := w.ownsRow B 9 1 v l.length (tcells l)
theorem SOl.nil (w : World) (B : Nat) : SOl w B (.slice none 0 0) [] := World.ownsRow_nil _ _ _ _
theorem SOl.ssl {w : World} {B : Nat} {v : Value} {l : List (List UInt8)} (h : SOl w B v l) : SSl w v l := by
  have hx := h
  rcases h.2 with ⟨hv, hn⟩ | ⟨g, cap, cur, hv, hB, hg, hnc, hcm, hcs, ht⟩
  · exact ⟨none, 0, by rw [hv, hn], by omega, by omega, by omega⟩
  · refine ⟨some ⟨g, 0, none⟩, cap, hv, hnc, by simpa [maxLen] using hcm, fun _ => ⟨g, 0, rfl, lt_of_block hg, fun i x hi => ?_⟩⟩
    have hi' : i < l.length := (List.getElem?_eq_some_iff.1 hi).1
    unfold SOl at hx
    rw [hv] at hx
    rw [Nat.zero_add, hx.cellAt _ (by omega)]
    simp [tcells, hi]
theorem SOl.below {w w' : World} {B B' : Nat} {v : Value} {l : List (List UInt8)} (h : SOl w B v l) (hb : Below B' w w') (hB : w.heap.size ≤ B') : SOl w' B v l := by
  obtain ⟨h1, h⟩ := h
  refine ⟨h1, ?_⟩
  rcases h with h | ⟨g, cap, cur, hv, hBg, hg, r⟩
  · exact .inl h
  · exact .inr ⟨g, cap, cur, hv, hBg, (hb.block g (Nat.lt_of_lt_of_le (lt_of_block hg) hB)).trans hg, r⟩
theorem SOl.mono {w : World} {B B' : Nat} {v : Value} {l : List (List UInt8)} (h : SOl w B v l) (hB : B' ≤ B) : SOl w B' v l := by
  obtain ⟨h1, h⟩ := h
  refine ⟨h1, ?_⟩
  rcases h with h | ⟨g, cap, cur, hv, hBg, hg, r⟩
  · exact .inl h
  · exact .inr ⟨g, cap, cur, hv, by omega, hg, r⟩
theorem SOl.made {w : World} {n : Nat} (c : Array Value) (hc : c.size = n) (hn : n ≤ 1000000) : SOl (w.alloc (.cells c 9)) w.heap.size (.slice (some ⟨w.heap.size, 0, none⟩) 0 n) [] :=
  World.ownsRow_made w c n (Nat.le_refl _) (by simp only [maxLen]; omega) (by omega)

theorem run_append_ssl (w : World) (B : Nat) (v : Value) (f : List (List UInt8)) (hown : SOl w B v f) (x : Value) (g : List (List UInt8)) (hx : SSl w x g) (ty : TypeId) (hl : f.length + g.length ≤ 1000000) (hB : B ≤ w.heap.size) :
    ∃ v' w', (Builtin.append_ #[30, 30] ty #[v, x]).run Tryd.prog w = .ok v' w' ∧ SOl w' B v' (f ++ g) ∧ w.grownBy w' v.ownBlock ∧ (v'.ownBlock = v.ownBlock ∨ v'.ownBlock = some w.heap.size) := by
  obtain ⟨i, hi, hz, h1, h2⟩ := info_parts info_str
  obtain ⟨A, c, rfl, hc, hc2, hcell⟩ := hx
  have hlen : (f ++ g).length = f.length + g.length := by simp
  have h1c : ∀ u ∈ tcells g, u.oneCell' = true := by
    intro u hu
    simp only [tcells, List.mem_map] at hu
    obtain ⟨_, _, rfl⟩ := hu
    rfl
  by_cases hn : 0 < g.length
  · obtain ⟨b, o, rfl, hb, hm⟩ := hcell hn
    have hnews : ∀ j u, (tcells g)[j]? = some u → w.cell? ((⟨b, o, none⟩ : Addr).add j) = some u := by
      intro j u hu
      simp only [tcells, List.getElem?_map, Option.map_eq_some_iff] at hu
      obtain ⟨x, hx, rfl⟩ := hu
      have hadd : (⟨b, o, none⟩ : Addr).add j = ⟨b, o + j, none⟩ := by
        unfold Addr.add
        by_cases hj0 : j = 0
        · subst hj0; simp
        · rw [if_neg hj0]
      rw [hadd]; exact hm j x hx
    obtain ⟨v', w', hrun, h3, h4, _, h6⟩ := run_append_own_at (P := Tryd.prog) w B 30 ty 9 i _ 1 16 Tryd.underlying30 hi hz h1 h2 rfl (by omega) v f.length (tcells f) hown
      ⟨b, o, none⟩ g.length c (tcells g) (by simp [tcells]) hnews h1c (by simp only [maxLen]; omega) (by omega) hB
    exact ⟨v', w', hrun, by unfold SOl; rw [hlen, show tcells (f ++ g) = tcells f ++ tcells g by simp [tcells]]; exact h3, h4, h6⟩
  · have hg0 : g = [] := List.eq_nil_of_length_eq_zero (by omega)
    subst hg0
    simp only [List.append_nil]
    cases A with
    | none => exact ⟨v, w, append_nil_src w B _ ty _ i 1 Tryd.underlying30 hi v _ _ hown c, hown, World.grownBy.refl w _, .inl rfl⟩
    | some ad =>
      obtain ⟨v', w', hrun, h3, h4, _, h6⟩ := run_append_own_at (P := Tryd.prog) w B 30 ty 9 i _ 1 16 Tryd.underlying30 hi hz h1 h2 rfl (by omega) v f.length (tcells f) hown
        ad 0 c [] (by simp) (by simp) (by simp) (by simp only [maxLen]; omega) (by omega) hB
      exact ⟨v', w', hrun, by unfold SOl; simpa using h3, h4, h6⟩

theorem wp_append_ssl {o : Oper} {a : Act} {w : World} {K : Act → World → Prop} {Q : Exit → Act → World → Prop} (s x : Operand)
    (ho : o.op = .call { callee := .builtin .append, args := #[s, x], argTypes := #[30, 30] })
    (B : Nat) (v : Value) (f : List (List UInt8)) (hs : a.eval s = v) (hown : SOl w B v f) (y : Value) (g : List (List UInt8)) (hx : a.eval x = y) (hy : SSl w y g) (hl : f.length + g.length ≤ 1000000) (hB : B ≤ w.heap.size)
    (h : ∀ v' w', SOl w' B v' (f ++ g) → w.grownBy w' v.ownBlock → (v'.ownBlock = v.ownBlock ∨ v'.ownBlock = some w.heap.size) → K (a.put o.dst v') w') : o.wp Tryd.prog a w K Q := by
  obtain ⟨v', w', hrun, h2, h3, h4⟩ := run_append_ssl w B v f hown y g hy o.type hl hB
  unfold Oper.wp execOp
  simp only [ho, resolve, invoke, builtin, Sem.run_bind, Sem.run_pure, Result.andThen_ok, List.map_toArray, List.map_cons, List.map_nil, hs, hx, hrun]
  exact h v' w' h2 h3 h4
theorem wpList_append_ssl {ops : Array Oper} {rest : List Oper} {o : Oper} {a : Act} {w : World} {Q : Exit → Act → World → Prop} (hgd : o.guard = none) (s x : Operand)
    (ho : o.op = .call { callee := .builtin .append, args := #[s, x], argTypes := #[30, 30] })
    (B : Nat) (v : Value) (f : List (List UInt8)) (hs : a.eval s = v) (hown : SOl w B v f) (y : Value) (g : List (List UInt8)) (hx : a.eval x = y) (hy : SSl w y g) (hl : f.length + g.length ≤ 1000000) (hB : B ≤ w.heap.size)
    (h : ∀ v' w', SOl w' B v' (f ++ g) → w.grownBy w' v.ownBlock → (v'.ownBlock = v.ownBlock ∨ v'.ownBlock = some w.heap.size) → wpList Tryd.prog ops Q rest (a.put o.dst v') w') : wpList Tryd.prog ops Q (o :: rest) a w :=
  wpList_plain hgd fun _ hK => wp_append_ssl s x ho B v f hs hown y g hx hy hl hB fun v' w' h2 h3 h4 => hK _ _ (h v' w' h2 h3 h4)
theorem step_append_ssl {ops : Array Oper} {o : Oper} {a : Act} {w : World} {K : Act → World → Prop} {Q : Exit → Act → World → Prop} {E : Prop} (hgd : o.guard = none) (s x : Operand)
    (ho : o.op = .call { callee := .builtin .append, args := #[s, x], argTypes := #[30, 30] })
    (B : Nat) (v : Value) (f : List (List UInt8)) (hs : a.eval s = v) (hown : SOl w B v f) (y : Value) (g : List (List UInt8)) (hx : a.eval x = y) (hy : SSl w y g) (hl : f.length + g.length ≤ 1000000) (hB : B ≤ w.heap.size)
    (h : ∀ v' w', SOl w' B v' (f ++ g) → w.grownBy w' v.ownBlock → (v'.ownBlock = v.ownBlock ∨ v'.ownBlock = some w.heap.size) → K (a.put o.dst v') w') :
    if Region.wanted o (yielded ops a.tmps) = true then Oper.wp Tryd.prog o a w K Q else E := by
  have hw : Region.wanted o (yielded ops a.tmps) = true := by simp [Region.wanted, hgd]
  rw [if_pos hw]
  exact wp_append_ssl s x ho B v f hs hown y g hx hy hl hB h
theorem own_below_ssl {w w1 w2 : World} {B : Nat} {v : Value} {f : List (List UInt8)} (hb : Below B w w1) (ho : SOl w1 B v f) (hg : w1.grownBy w2 v.ownBlock) (hB : B ≤ w1.heap.size) : Below B w w2 :=
  hb.grown hg hB fun k hk => (World.ownsRow.lt ho k hk).1
/-- A literal of ints. -/
theorem SSl.lit {w : World} {g : Nat} {l : List (List UInt8)} (n c : Nat) (cs : Array Value) (h : Row w g 9 cs) (hn : n = l.length) (hc : n ≤ c) (hc2 : c ≤ 9223372036854775807) (hcs : ∀ (i : Nat) (x : List UInt8), l[i]? = some x → cs[i]? = some (strV x)) : SSl w (.slice (some ⟨g, 0, none⟩) n c) l := by
  subst hn
  exact ⟨some ⟨g, 0, none⟩, c, rfl, hc, hc2, fun _ => ⟨g, 0, rfl, h.lt, fun i x hi => by rw [h.cell, Nat.zero_add]; exact hcs i x hi⟩⟩

end Go.Proofs.YtcjblbhmajdmjaaDoor

namespace Go.Proofs.YtcjblbhmajdmjaaDoor

def varB (x : Int) : List UInt8 := [UInt8.ofNat (65 + x.toNat)]
/-- What Format makes of a node that is not "true", from the texts of its children. -/
def fmtNode (m : Mk) (cs : List (List UInt8)) : List UInt8 := [40] ++ Lib.join (nm m.op :: (occ m).map varB ++ cs) [32] ++ [41]
def fmtAt (st : List (List UInt8)) (m : Mk) : Nat := st.length - (nc m.op).toNat
def fmtStep (st : List (List UInt8)) (m : Mk) : List (List UInt8) :=
  if m.op = 1 then st ++ [nm m.op] else st.take (fmtAt st m) ++ [fmtNode m (st.drop (fmtAt st m))]
def Tr.text : Tr → List UInt8
  | .leaf op x y => if op = 1 then nm op else fmtNode ⟨op, x, y, 0, 0⟩ []
  | .un op x a => fmtNode ⟨op, x, 0, 0, 0⟩ [a.text]
  | .bin op a b => fmtNode ⟨op, 0, 0, 0, 0⟩ [a.text, b.text]

theorem fmtNode_ab (m : Mk) (a b : Int) (cs : List (List UInt8)) : fmtNode { m with a := a, b := b } cs = fmtNode m cs := rfl

/-- No step of the stack falls short. -/
def stOk : List (List UInt8) → List Mk → Prop
  | _, [] => True
  | st, m :: l => (nc m.op).toNat ≤ st.length ∧ stOk (fmtStep st m) l
theorem stOk_append (l1 : List Mk) : ∀ st l2, stOk st (l1 ++ l2) ↔ stOk st l1 ∧ stOk (l1.foldl fmtStep st) l2 := by
  induction l1 with
  | nil => intro st l2; simp [stOk]
  | cons m l ih => intro st l2; simp [stOk, ih, and_assoc]

theorem op1_nc {op : Int} (h : nc op ≠ 0) : op ≠ 1 := by
  intro h1; subst h1; exact h (by decide)

theorem Tr.enc_fmt (t : Tr) : t.ok → ∀ p st, stOk st (t.enc p) ∧ (t.enc p).foldl fmtStep st = st ++ [t.text] := by
  induction t with
  | leaf op x y =>
    intro ok p st
    have h0 : nc op = 0 := ok.2.1
    refine ⟨by simp [Tr.enc, stOk, h0], ?_⟩
    simp only [Tr.enc, List.foldl_cons, List.foldl_nil, fmtStep, Tr.text]
    split
    · rfl
    · simp [fmtAt, h0]
  | un op x a ih =>
    intro ok p st
    have h0 : nc op = 1 := ok.1.2.1
    obtain ⟨i1, i2⟩ := ih ok.2 p st
    have h1 : op ≠ 1 := op1_nc (by omega)
    refine ⟨?_, ?_⟩
    · rw [Tr.enc, stOk_append]
      exact ⟨i1, by rw [i2]; simp [stOk, h0]⟩
    · rw [Tr.enc, List.foldl_append, i2]
      simp only [List.foldl_cons, List.foldl_nil, fmtStep, Tr.text, if_neg h1]
      simp [fmtAt, h0]
      rfl
  | bin op a b iha ihb =>
    intro ok p st
    have h0 : nc op = 2 := ok.1
    obtain ⟨i1, i2⟩ := iha ok.2.1 p st
    obtain ⟨j1, j2⟩ := ihb ok.2.2 (p + a.size) (st ++ [a.text])
    have h1 : op ≠ 1 := op1_nc (by omega)
    refine ⟨?_, ?_⟩
    · rw [Tr.enc, stOk_append, i2, stOk_append, j2]
      exact ⟨i1, j1, by simp [stOk, h0]⟩
    · rw [Tr.enc, List.foldl_append, i2, List.foldl_append, j2]
      simp only [List.foldl_cons, List.foldl_nil, fmtStep, Tr.text, if_neg h1]
      simp [fmtAt, h0]
      rfl

/-- The stack behind the first k marks. -/
def stk (f : List Mk) (k : Nat) : List (List UInt8) := (f.take k).foldl fmtStep []
theorem stk_succ (f : List Mk) (k : Nat) (m : Mk) (h : f[k]? = some m) : stk f (k + 1) = fmtStep (stk f k) m := by
  have hk : k < f.length := (List.getElem?_eq_some_iff.1 h).1
  have hm : f[k] = m := (List.getElem?_eq_some_iff.1 h).2
  unfold stk
  rw [List.take_succ_eq_append_getElem hk, List.foldl_append, hm]; rfl
theorem stk_ok (f : List Mk) (hf : formedS f = true) (k : Nat) (m : Mk) (h : f[k]? = some m) : (nc m.op).toNat ≤ (stk f k).length := by
  obtain ⟨_, t, ok, _, he⟩ := formed_tree f hf
  have h1 := (t.enc_fmt ok 0 []).1
  rw [← he] at h1
  have hk : k < f.length := (List.getElem?_eq_some_iff.1 h).1
  have hm : f[k] = m := (List.getElem?_eq_some_iff.1 h).2
  rw [← List.take_append_drop k f, stOk_append, List.drop_eq_getElem_cons hk, hm] at h1
  exact h1.2.1
theorem formed_text (f : List Mk) (hf : formedS f = true) : ∃ t : Tr, t.ok ∧ f = t.enc 0 ∧ stk f f.length = [t.text] := by
  obtain ⟨_, t, ok, _, he⟩ := formed_tree f hf
  refine ⟨t, ok, he, ?_⟩
  unfold stk
  rw [List.take_length]
  have h := (t.enc_fmt ok 0 []).2
  rw [← he] at h
  simpa using h

theorem len_ite {c : Prop} [Decidable c] {a b : List UInt8} (ha : a.length ≤ 10) (hb : b.length ≤ 10) : (if c then a else b).length ≤ 10 := by split <;> assumption
theorem nm_len (op : Int) : (nm op).length ≤ 10 := by
  unfold nm
  iterate 15 refine len_ite (by decide) ?_
  decide
def tot (st : List (List UInt8)) : Nat := (st.map List.length).sum
theorem join_len (xs : List (List UInt8)) : (Lib.join xs [32]).length ≤ tot xs + xs.length := by
  cases xs with
  | nil => simp [Lib.join_nil, tot]
  | cons x r =>
    rw [Lib.join_cons, Lib.joinTail]
    have h : ((r.map ([32] ++ ·)).flatten).length = tot r + r.length := by
      clear x
      induction r with
      | nil => rfl
      | cons y r ih => simp only [List.map_cons, List.flatten_cons, List.length_append, ih, tot, List.sum_cons, List.length_cons, List.length_nil] ; omega
    simp only [List.length_append, h, tot, List.map_cons, List.sum_cons, List.length_cons]
    omega
theorem occ_len (m : Mk) : (occ m).length ≤ 2 := by unfold occ; simp [List.length_take]; omega
theorem fmtStep_tot (st : List (List UInt8)) (m : Mk) : tot (fmtStep st m) ≤ tot st + st.length + 20 := by
  have h1 := nm_len m.op
  unfold fmtStep
  split
  · simp [tot]; omega
  · have h2 := join_len (nm m.op :: (occ m).map varB ++ st.drop (fmtAt st m))
    have h3 := occ_len m
    have h4 : tot st = tot (st.take (fmtAt st m)) + tot (st.drop (fmtAt st m)) := by
      unfold tot
      rw [← List.sum_append, ← List.map_append, List.take_append_drop]
    have h5 : tot (nm m.op :: (occ m).map varB ++ st.drop (fmtAt st m)) = (nm m.op).length + (occ m).length + tot (st.drop (fmtAt st m)) := by
      unfold tot
      rw [List.map_append, List.sum_append, List.map_cons, List.sum_cons, List.map_map]
      have : ((occ m).map (List.length ∘ varB)).sum = (occ m).length := by
        generalize occ m = l
        induction l with
        | nil => rfl
        | cons a l ih => simp only [List.map_cons, List.sum_cons, ih, List.length_cons, Function.comp, varB, List.length_nil]; omega
      omega
    have h6 : tot (st.take (fmtAt st m) ++ [fmtNode m (st.drop (fmtAt st m))]) = tot (st.take (fmtAt st m)) + (fmtNode m (st.drop (fmtAt st m))).length := by simp [tot]
    have h7 : (fmtNode m (st.drop (fmtAt st m))).length = (Lib.join (nm m.op :: (occ m).map varB ++ st.drop (fmtAt st m)) [32]).length + 2 := by simp [fmtNode]
    have h8 : (nm m.op :: (occ m).map varB ++ st.drop (fmtAt st m)).length = 1 + (occ m).length + (st.drop (fmtAt st m)).length := by simp; omega
    have h9 : (st.drop (fmtAt st m)).length ≤ st.length := by simp
    omega
theorem fmtStep_len (st : List (List UInt8)) (m : Mk) : (fmtStep st m).length ≤ st.length + 1 := by
  unfold fmtStep
  split
  · simp
  · simp; omega
theorem stk_bound (f : List Mk) (hf : f.length ≤ 64) : ∀ k, k ≤ f.length → (stk f k).length ≤ k ∧ tot (stk f k) ≤ 100 * k := by
  intro k
  induction k with
  | zero => intro _; simp [stk, tot]
  | succ k ih =>
    intro hk
    obtain ⟨h1, h2⟩ := ih (by omega)
    rw [stk_succ f k _ (List.getElem?_eq_getElem (by omega))]
    have h3 := fmtStep_tot (stk f k) (f[k]'(by omega))
    have h4 := fmtStep_len (stk f k) (f[k]'(by omega))
    omega
end Go.Proofs.YtcjblbhmajdmjaaDoor

/- Owned slices of strings (written by gen_str.py from XIntA). -/
import Derived.Test.YtdlibehffgfhlaaDoorIntA
set_option linter.unusedSimpArgs false
set_option linter.unusedVariables false
namespace Go.Proofs.YtdlibehffgfhlaaDoor
open Go.RowKit

/-- A string of these bytes. -/
def strV (l : List UInt8) : Value := .string ⟨l.toArray⟩
theorem strV_one (l : List UInt8) : (strV l).oneCell' = true := rfl
theorem info_str : (Tryd.prog.info? 9).map (fun i => (i.zero, i.size, i.bytes)) = some (some (.string ⟨#[]⟩), 1, 16) := by kernel_rfl
/-- A slice that reads as these strings. -/
def SSl (w : World) (v : Value) (l : List (List UInt8)) : Prop :=
  ∃ A c, v = .slice A l.length c ∧ l.length ≤ c ∧ c ≤ 9223372036854775807 ∧ (0 < l.length → ∃ b o, A = some ⟨b, o, none⟩ ∧ b < w.heap.size ∧ ∀ (i : Nat) (x : List UInt8), l[i]? = some x → w.cell? ⟨b, o + i, none⟩ = some (strV x))
theorem SSl.below {w w' : World} {v : Value} {f : List (List UInt8)} {B : Nat} (h : SSl w v f) (hb : Below B w w') (hB : w.heap.size ≤ B) : SSl w' v f := by
  obtain ⟨A, c, h1, h2, h3, h4⟩ := h
  refine ⟨A, c, h1, h2, h3, fun hp => ?_⟩
  obtain ⟨b, o, hA, hb', hm⟩ := h4 hp
  exact ⟨b, o, hA, Nat.lt_of_lt_of_le hb' hb.size, fun i x hi => (hb.cell (by show b < B; omega)).trans (hm i x hi)⟩
theorem SSl.nil (w : World) : SSl w (.slice none 0 0) [] := ⟨none, 0, rfl, by simp, by omega, by simp⟩

def tcells (l : List (List UInt8)) : List Value := l.map strV
def SOl (w : World) (B : Nat) (v : Value) (l : List (List UInt8)) : Prop := w.ownsRow B 9 1 v l.length (tcells l)
theorem SOl.nil (w : World) (B : Nat) : SOl w B (.slice none 0 0) [] := World.ownsRow_nil _ _ _ _
theorem SOl.ssl {w : World} {B : Nat} {v : Value} {l : List (List UInt8)} (h : SOl w B v l) : SSl w v l := by
  have hx := h
  rcases h.2 with ⟨hv, hn⟩ | ⟨g, cap, cur, hv, hB, hg, hnc, hcm, hcs, ht⟩
  · exact ⟨none, 0, by rw [hv, hn], by omega, by omega, by omega⟩
  · refine ⟨some ⟨g, 0, none⟩, cap, hv, hnc, by simpa [maxLen] using hcm, fun _ => ⟨g, 0, rfl, lt_of_block hg, fun i x hi => ?_⟩⟩
    have hi' : i < l.length := (List.getElem?_eq_some_iff.1 hi).1
    unfold SOl at hx
    rw [hv] at hx
    rw [Nat.zero_add, hx.cellAt _ (by omega)]
    simp [tcells, hi]
theorem SOl.below {w w' : World} {B B' : Nat} {v : Value} {l : List (List UInt8)} (h : SOl w B v l) (hb : Below B' w w') (hB : w.heap.size ≤ B') : SOl w' B v l := by
  obtain ⟨h1, h⟩ := h
  refine ⟨h1, ?_⟩
  rcases h with h | ⟨g, cap, cur, hv, hBg, hg, r⟩
  · exact .inl h
  · exact .inr ⟨g, cap, cur, hv, hBg, (hb.block g (Nat.lt_of_lt_of_le (lt_of_block hg) hB)).trans hg, r⟩
theorem SOl.mono {w : World} {B B' : Nat} {v : Value} {l : List (List UInt8)} (h : SOl w B v l) (hB : B' ≤ B) : SOl w B' v l := by
  obtain ⟨h1, h⟩ := h
  refine ⟨h1, ?_⟩
  rcases h with h | ⟨g, cap, cur, hv, hBg, hg, r⟩
  · exact .inl h
  · exact .inr ⟨g, cap, cur, hv, by omega, hg, r⟩
theorem SOl.made {w : World} {n : Nat} (c : Array Value) (hc : c.size = n) (hn : n ≤ 1000000) : SOl (w.alloc (.cells c 9)) w.heap.size (.slice (some ⟨w.heap.size, 0, none⟩) 0 n) [] :=
  World.ownsRow_made w c n (Nat.le_refl _) (by simp only [maxLen]; omega) (by omega)

theorem run_append_ssl (w : World) (B : Nat) (v : Value) (f : List (List UInt8)) (hown : SOl w B v f) (x : Value) (g : List (List UInt8)) (hx : SSl w x g) (ty : TypeId) (hl : f.length + g.length ≤ 1000000) (hB : B ≤ w.heap.size) :
    ∃ v' w', (Builtin.append_ #[30, 30] ty #[v, x]).run Tryd.prog w = .ok v' w' ∧ SOl w' B v' (f ++ g) ∧ w.grownBy w' v.ownBlock ∧ (v'.ownBlock = v.ownBlock ∨ v'.ownBlock = some w.heap.size) := by
  obtain ⟨i, hi, hz, h1, h2⟩ := info_parts info_str
  obtain ⟨A, c, rfl, hc, hc2, hcell⟩ := hx
  have hlen : (f ++ g).length = f.length + g.length := by simp
  have h1c : ∀ u ∈ tcells g, u.oneCell' = true := by
    intro u hu
    simp only [tcells, List.mem_map] at hu
    obtain ⟨_, _, rfl⟩ := hu
    rfl
  by_cases hn : 0 < g.length
  · obtain ⟨b, o, rfl, hb, hm⟩ := hcell hn
    have hnews : ∀ j u, (tcells g)[j]? = some u → w.cell? ((⟨b, o, none⟩ : Addr).add j) = some u := by
      intro j u hu
      simp only [tcells, List.getElem?_map, Option.map_eq_some_iff] at hu
      obtain ⟨x, hx, rfl⟩ := hu
      have hadd : (⟨b, o, none⟩ : Addr).add j = ⟨b, o + j, none⟩ := by
        unfold Addr.add
        by_cases hj0 : j = 0
        · subst hj0; simp
        · rw [if_neg hj0]
      rw [hadd]; exact hm j x hx
    obtain ⟨v', w', hrun, h3, h4, _, h6⟩ := run_append_own_at (P := Tryd.prog) w B 30 ty 9 i _ 1 16 Tryd.underlying30 hi hz h1 h2 rfl (by omega) v f.length (tcells f) hown
      ⟨b, o, none⟩ g.length c (tcells g) (by simp [tcells]) hnews h1c (by simp only [maxLen]; omega) (by omega) hB
    exact ⟨v', w', hrun, by unfold SOl; rw [hlen, show tcells (f ++ g) = tcells f ++ tcells g by simp [tcells]]; exact h3, h4, h6⟩
  · have hg0 : g = [] := List.eq_nil_of_length_eq_zero (by omega)
    subst hg0
    simp only [List.append_nil]
    cases A with
    | none => exact ⟨v, w, append_nil_src w B _ ty _ i 1 Tryd.underlying30 hi v _ _ hown c, hown, World.grownBy.refl w _, .inl rfl⟩
    | some ad =>
      obtain ⟨v', w', hrun, h3, h4, _, h6⟩ := run_append_own_at (P := Tryd.prog) w B 30 ty 9 i _ 1 16 Tryd.underlying30 hi hz h1 h2 rfl (by omega) v f.length (tcells f) hown
        ad 0 c [] (by simp) (by simp) (by simp) (by simp only [maxLen]; omega) (by omega) hB
      exact ⟨v', w', hrun, by unfold SOl; simpa using h3, h4, h6⟩

theorem wp_append_ssl {o : Oper} {a : Act} {w : World} {K : Act → World → Prop} {Q : Exit → Act → World → Prop} (s x : Operand)
    (ho : o.op = .call { callee := .builtin .append, args := #[s, x], argTypes := #[30, 30] })
    (B : Nat) (v : Value) (f : List (List UInt8)) (hs : a.eval s = v) (hown : SOl w B v f) (y : Value) (g : List (List UInt8)) (hx : a.eval x = y) (hy : SSl w y g) (hl : f.length + g.length ≤ 1000000) (hB : B ≤ w.heap.size)
    (h : ∀ v' w', SOl w' B v' (f ++ g) → w.grownBy w' v.ownBlock → (v'.ownBlock = v.ownBlock ∨ v'.ownBlock = some w.heap.size) → K (a.put o.dst v') w') : o.wp Tryd.prog a w K Q := by
  obtain ⟨v', w', hrun, h2, h3, h4⟩ := run_append_ssl w B v f hown y g hy o.type hl hB
  unfold Oper.wp execOp
  simp only [ho, resolve, invoke, builtin, Sem.run_bind, Sem.run_pure, Result.andThen_ok, List.map_toArray, List.map_cons, List.map_nil, hs, hx, hrun]
  exact h v' w' h2 h3 h4
theorem wpList_append_ssl {ops : Array Oper} {rest : List Oper} {o : Oper} {a : Act} {w : World} {Q : Exit → Act → World → Prop} (hgd : o.guard = none) (s x : Operand)
    (ho : o.op = .call { callee := .builtin .append, args := #[s, x], argTypes := #[30, 30] })
    (B : Nat) (v : Value) (f : List (List UInt8)) (hs : a.eval s = v) (hown : SOl w B v f) (y : Value) (g : List (List UInt8)) (hx : a.eval x = y) (hy : SSl w y g) (hl : f.length + g.length ≤ 1000000) (hB : B ≤ w.heap.size)
    (h : ∀ v' w', SOl w' B v' (f ++ g) → w.grownBy w' v.ownBlock → (v'.ownBlock = v.ownBlock ∨ v'.ownBlock = some w.heap.size) → wpList Tryd.prog ops Q rest (a.put o.dst v') w') : wpList Tryd.prog ops Q (o :: rest) a w :=
  wpList_plain hgd fun _ hK => wp_append_ssl s x ho B v f hs hown y g hx hy hl hB fun v' w' h2 h3 h4 => hK _ _ (h v' w' h2 h3 h4)
theorem step_append_ssl {ops : Array Oper} {o : Oper} {a : Act} {w : World} {K : Act → World → Prop} {Q : Exit → Act → World → Prop} {E : Prop} (hgd : o.guard = none) (s x : Operand)
    (ho : o.op = .call { callee := .builtin .append, args := #[s, x], argTypes := #[30, 30] })
    (B : Nat) (v : Value) (f : List (List UInt8)) (hs : a.eval s = v) (hown : SOl w B v f) (y : Value) (g : List (List UInt8)) (hx : a.eval x = y) (hy : SSl w y g) (hl : f.length + g.length ≤ 1000000) (hB : B ≤ w.heap.size)
    (h : ∀ v' w', SOl w' B v' (f ++ g) → w.grownBy w' v.ownBlock → (v'.ownBlock = v.ownBlock ∨ v'.ownBlock = some w.heap.size) → K (a.put o.dst v') w') :
    if Region.wanted o (yielded ops a.tmps) = true then Oper.wp Tryd.prog o a w K Q else E := by
  have hw : Region.wanted o (yielded ops a.tmps) = true := by simp [Region.wanted, hgd]
  rw [if_pos hw]
  exact wp_append_ssl s x ho B v f hs hown y g hx hy hl hB h
theorem own_below_ssl {w w1 w2 : World} {B : Nat} {v : Value} {f : List (List UInt8)} (hb : Below B w w1) (ho : SOl w1 B v f) (hg : w1.grownBy w2 v.ownBlock) (hB : B ≤ w1.heap.size) : Below B w w2 :=
  hb.grown hg hB fun k hk => (World.ownsRow.lt ho k hk).1
/-- A literal of ints. -/
theorem SSl.lit {w : World} {g : Nat} {l : List (List UInt8)} (n c : Nat) (cs : Array Value) (h : Row w g 9 cs) (hn : n = l.length) (hc : n ≤ c) (hc2 : c ≤ 9223372036854775807) (hcs : ∀ (i : Nat) (x : List UInt8), l[i]? = some x → cs[i]? = some (strV x)) : SSl w (.slice (some ⟨g, 0, none⟩) n c) l := by
  subst hn
  exact ⟨some ⟨g, 0, none⟩, c, rfl, hc, hc2, fun _ => ⟨g, 0, rfl, h.lt, fun i x hi => by rw [h.cell, Nat.zero_add]; exact hcs i x hi⟩⟩

end Go.Proofs.YtdlibehffgfhlaaDoor

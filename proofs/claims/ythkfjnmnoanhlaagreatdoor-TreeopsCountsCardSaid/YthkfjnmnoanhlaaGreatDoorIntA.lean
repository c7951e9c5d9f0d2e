/- Slices of ints: append, slices.Clone, slices.Index, slices.Contains, occurs of the package mso. -/
import Derived.Test.YthkfjnmnoanhlaaGreatDoorMsoF
import Derived.Test.YthkfjnmnoanhlaaGreatDoorApp
import Derived.Deep.RegionLaw
set_option linter.unusedSimpArgs false
set_option linter.unusedVariables false
namespace Go.Proofs.YthkfjnmnoanhlaaGreatDoor
open Go.RowKit

def icells (l : List Int) : List Value := l.map (Value.int .i64)
def OWI (w : World) (B : Nat) (v : Value) (l : List Int) : Prop := w.ownsRow B 3 1 v l.length (icells l)
theorem OWI.nil (w : World) (B : Nat) : OWI w B (.slice none 0 0) [] := World.ownsRow_nil _ _ _ _
theorem OWI.is {w : World} {B : Nat} {v : Value} {l : List Int} (h : OWI w B v l) : IS w v l := by
  have hx := h
  rcases h.2 with ⟨hv, hn⟩ | ⟨g, cap, cur, hv, hB, hg, hnc, hcm, hcs, ht⟩
  · exact ⟨none, 0, by rw [hv, hn], by omega, by omega, by omega⟩
  · refine ⟨some ⟨g, 0, none⟩, cap, hv, hnc, by simpa [maxLen] using hcm, fun _ => ⟨g, 0, rfl, lt_of_block hg, fun i x hi => ?_⟩⟩
    have hi' : i < l.length := (List.getElem?_eq_some_iff.1 hi).1
    unfold OWI at hx
    rw [hv] at hx
    rw [Nat.zero_add, hx.cellAt _ (by omega)]
    simp [icells, hi]
theorem OWI.below {w w' : World} {B B' : Nat} {v : Value} {l : List Int} (h : OWI w B v l) (hb : Below B' w w') (hB : w.heap.size ≤ B') : OWI w' B v l := by
  obtain ⟨h1, h⟩ := h
  refine ⟨h1, ?_⟩
  rcases h with h | ⟨g, cap, cur, hv, hBg, hg, r⟩
  · exact .inl h
  · exact .inr ⟨g, cap, cur, hv, hBg, (hb.block g (Nat.lt_of_lt_of_le (lt_of_block hg) hB)).trans hg, r⟩
theorem OWI.mono {w : World} {B B' : Nat} {v : Value} {l : List Int} (h : OWI w B v l) (hB : B' ≤ B) : OWI w B' v l := by
  obtain ⟨h1, h⟩ := h
  refine ⟨h1, ?_⟩
  rcases h with h | ⟨g, cap, cur, hv, hBg, hg, r⟩
  · exact .inl h
  · exact .inr ⟨g, cap, cur, hv, by omega, hg, r⟩
theorem OWI.made {w : World} {n : Nat} (c : Array Value) (hc : c.size = n) (hn : n ≤ 1000000) : OWI (w.alloc (.cells c 3)) w.heap.size (.slice (some ⟨w.heap.size, 0, none⟩) 0 n) [] :=
  World.ownsRow_made w c n (Nat.le_refl _) (by simp only [maxLen]; omega) (by omega)

theorem run_append_is (w : World) (B : Nat) (v : Value) (f : List Int) (hown : OWI w B v f) (x : Value) (g : List Int) (hx : IS w x g) (ty : TypeId) (hl : f.length + g.length ≤ 1000000) (hB : B ≤ w.heap.size) :
    ∃ v' w', (Builtin.append_ #[53, 53] ty #[v, x]).run Tryz.prog w = .ok v' w' ∧ OWI w' B v' (f ++ g) ∧ w.grownBy w' v.ownBlock ∧ (v'.ownBlock = v.ownBlock ∨ v'.ownBlock = some w.heap.size) := by
  obtain ⟨i, hi, hz, h1, h2⟩ := info_parts info_int
  obtain ⟨A, c, rfl, hc, hc2, hcell⟩ := hx
  have hlen : (f ++ g).length = f.length + g.length := by simp
  have h1c : ∀ u ∈ icells g, u.oneCell' = true := by
    intro u hu
    simp only [icells, List.mem_map] at hu
    obtain ⟨_, _, rfl⟩ := hu
    rfl
  by_cases hn : 0 < g.length
  · obtain ⟨b, o, rfl, hb, hm⟩ := hcell hn
    have hnews : ∀ j u, (icells g)[j]? = some u → w.cell? ((⟨b, o, none⟩ : Addr).add j) = some u := by
      intro j u hu
      simp only [icells, List.getElem?_map, Option.map_eq_some_iff] at hu
      obtain ⟨x, hx, rfl⟩ := hu
      have hadd : (⟨b, o, none⟩ : Addr).add j = ⟨b, o + j, none⟩ := by
        unfold Addr.add
        by_cases hj0 : j = 0
        · subst hj0; simp
        · rw [if_neg hj0]
      rw [hadd]; exact hm j x hx
    obtain ⟨v', w', hrun, h3, h4, _, h6⟩ := run_append_own_at (P := Tryz.prog) w B 53 ty 3 i _ 1 8 Tryz.underlying53 hi hz h1 h2 rfl (by omega) v f.length (icells f) hown
      ⟨b, o, none⟩ g.length c (icells g) (by simp [icells]) hnews h1c (by simp only [maxLen]; omega) (by omega) hB
    exact ⟨v', w', hrun, by unfold OWI; rw [hlen, show icells (f ++ g) = icells f ++ icells g by simp [icells]]; exact h3, h4, h6⟩
  · have hg0 : g = [] := List.eq_nil_of_length_eq_zero (by omega)
    subst hg0
    simp only [List.append_nil]
    cases A with
    | none => exact ⟨v, w, append_nil_src w B _ ty _ i 1 Tryz.underlying53 hi v _ _ hown c, hown, World.grownBy.refl w _, .inl rfl⟩
    | some ad =>
      obtain ⟨v', w', hrun, h3, h4, _, h6⟩ := run_append_own_at (P := Tryz.prog) w B 53 ty 3 i _ 1 8 Tryz.underlying53 hi hz h1 h2 rfl (by omega) v f.length (icells f) hown
        ad 0 c [] (by simp) (by simp) (by simp) (by simp only [maxLen]; omega) (by omega) hB
      exact ⟨v', w', hrun, by unfold OWI; simpa using h3, h4, h6⟩

theorem wp_append_is {o : Oper} {a : Act} {w : World} {K : Act → World → Prop} {Q : Exit → Act → World → Prop} (s x : Operand)
    (ho : o.op = .call { callee := .builtin .append, args := #[s, x], argTypes := #[53, 53] })
    (B : Nat) (v : Value) (f : List Int) (hs : a.eval s = v) (hown : OWI w B v f) (y : Value) (g : List Int) (hx : a.eval x = y) (hy : IS w y g) (hl : f.length + g.length ≤ 1000000) (hB : B ≤ w.heap.size)
    (h : ∀ v' w', OWI w' B v' (f ++ g) → w.grownBy w' v.ownBlock → (v'.ownBlock = v.ownBlock ∨ v'.ownBlock = some w.heap.size) → K (a.put o.dst v') w') : o.wp Tryz.prog a w K Q := by
  obtain ⟨v', w', hrun, h2, h3, h4⟩ := run_append_is w B v f hown y g hy o.type hl hB
  unfold Oper.wp execOp
  simp only [ho, resolve, invoke, builtin, Sem.run_bind, Sem.run_pure, Result.andThen_ok, List.map_toArray, List.map_cons, List.map_nil, hs, hx, hrun]
  exact h v' w' h2 h3 h4
theorem wpList_append_is {ops : Array Oper} {rest : List Oper} {o : Oper} {a : Act} {w : World} {Q : Exit → Act → World → Prop} (hgd : o.guard = none) (s x : Operand)
    (ho : o.op = .call { callee := .builtin .append, args := #[s, x], argTypes := #[53, 53] })
    (B : Nat) (v : Value) (f : List Int) (hs : a.eval s = v) (hown : OWI w B v f) (y : Value) (g : List Int) (hx : a.eval x = y) (hy : IS w y g) (hl : f.length + g.length ≤ 1000000) (hB : B ≤ w.heap.size)
    (h : ∀ v' w', OWI w' B v' (f ++ g) → w.grownBy w' v.ownBlock → (v'.ownBlock = v.ownBlock ∨ v'.ownBlock = some w.heap.size) → wpList Tryz.prog ops Q rest (a.put o.dst v') w') : wpList Tryz.prog ops Q (o :: rest) a w :=
  wpList_plain hgd fun _ hK => wp_append_is s x ho B v f hs hown y g hx hy hl hB fun v' w' h2 h3 h4 => hK _ _ (h v' w' h2 h3 h4)
theorem step_append_is {ops : Array Oper} {o : Oper} {a : Act} {w : World} {K : Act → World → Prop} {Q : Exit → Act → World → Prop} {E : Prop} (hgd : o.guard = none) (s x : Operand)
    (ho : o.op = .call { callee := .builtin .append, args := #[s, x], argTypes := #[53, 53] })
    (B : Nat) (v : Value) (f : List Int) (hs : a.eval s = v) (hown : OWI w B v f) (y : Value) (g : List Int) (hx : a.eval x = y) (hy : IS w y g) (hl : f.length + g.length ≤ 1000000) (hB : B ≤ w.heap.size)
    (h : ∀ v' w', OWI w' B v' (f ++ g) → w.grownBy w' v.ownBlock → (v'.ownBlock = v.ownBlock ∨ v'.ownBlock = some w.heap.size) → K (a.put o.dst v') w') :
    if Region.wanted o (yielded ops a.tmps) = true then Oper.wp Tryz.prog o a w K Q else E := by
  have hw : Region.wanted o (yielded ops a.tmps) = true := by simp [Region.wanted, hgd]
  rw [if_pos hw]
  exact wp_append_is s x ho B v f hs hown y g hx hy hl hB h
theorem own_below_i {w w1 w2 : World} {B : Nat} {v : Value} {f : List Int} (hb : Below B w w1) (ho : OWI w1 B v f) (hg : w1.grownBy w2 v.ownBlock) (hB : B ≤ w1.heap.size) : Below B w w2 :=
  hb.grown hg hB fun k hk => (World.ownsRow.lt ho k hk).1
/-- A literal of ints. -/
theorem IS.lit {w : World} {g : Nat} {l : List Int} (n c : Nat) (cs : Array Value) (h : Row w g 3 cs) (hn : n = l.length) (hc : n ≤ c) (hc2 : c ≤ 9223372036854775807) (hcs : ∀ (i : Nat) (x : Int), l[i]? = some x → cs[i]? = some (Value.int .i64 x)) : IS w (.slice (some ⟨g, 0, none⟩) n c) l := by
  subst hn
  exact ⟨some ⟨g, 0, none⟩, c, rfl, hc, hc2, fun _ => ⟨g, 0, rfl, h.lt, fun i x hi => by rw [h.cell, Nat.zero_add]; exact hcs i x hi⟩⟩

theorem fresh_slice {B g n c : Nat} (h : B ≤ g) : ∀ b, (Value.slice (some ⟨g, 0, none⟩) n c).ownBlock = some b → B ≤ b := by
  intro b hb
  simp only [Value.ownBlock, Option.some.injEq] at hb
  omega

def RetIO (w : World) (l : List Int) (e : Ending) (w' : World) : Prop := ∃ v, e = .returned v ∧ Below w.heap.size w w' ∧ OWI w' w.heap.size v l
def RetIS (w : World) (l : List Int) (e : Ending) (w' : World) : Prop := ∃ v, e = .returned v ∧ Below w.heap.size w w' ∧ (∀ b, v.ownBlock = some b → w.heap.size ≤ b) ∧ IS w' v l

/-- The first place of x from k on, or -1. -/
def idxFrom (l : List Int) (x : Int) (k : Nat) : Int := match l with
  | [] => -1
  | y :: l => if x = y then k else idxFrom l x (k + 1)
theorem idxFrom_contains (l : List Int) (x : Int) (k : Nat) : 0 ≤ idxFrom l x k ↔ l.contains x = true := by
  induction l generalizing k with
  | nil => simp [idxFrom]
  | cons y l ih =>
    simp only [idxFrom, List.contains_cons]
    by_cases h : x = y
    · rw [if_pos h]; simp [h]
    · rw [if_neg h, ih]; simp [h]
def occ (m : Mk) : List Int := [m.x, m.y].take (nv m.op).toNat

end Go.Proofs.YthkfjnmnoanhlaaGreatDoor

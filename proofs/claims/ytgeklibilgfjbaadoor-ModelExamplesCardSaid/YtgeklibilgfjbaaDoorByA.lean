/- Slices of bytes: reading, append, CopyBytes, EqualBytes. (Printed by gen_lists.py.) -/
import Derived.Test.YtgeklibilgfjbaaDoorIntA
import Derived.Deep.RegionLaw
set_option linter.unusedSimpArgs false
set_option linter.unusedVariables false
namespace Go.Proofs.YtgeklibilgfjbaaDoor
open Go.RowKit

def byV (x : Nat) : Value := .int .u8 x
/-- A slice of bytes that reads as a list. -/
def YS (w : World) (v : Value) (l : List Nat) : Prop :=
  ∃ A c, v = .slice A l.length c ∧ l.length ≤ c ∧ c ≤ 9223372036854775807 ∧
    (0 < l.length → ∃ b o, A = some ⟨b, o, none⟩ ∧ b < w.heap.size ∧ ∀ i x, l[i]? = some x → w.cell? ⟨b, o + i, none⟩ = some (byV x))
theorem YS.below {w w' : World} {v : Value} {f : List Nat} {B : Nat} (h : YS w v f) (hb : Below B w w') (hB : w.heap.size ≤ B) : YS w' v f := by
  obtain ⟨A, c, hv, h1, h2, h3⟩ := h
  refine ⟨A, c, hv, h1, h2, fun hp => ?_⟩
  obtain ⟨b, o, hA, hlt, hm⟩ := h3 hp
  exact ⟨b, o, hA, Nat.lt_of_lt_of_le hlt hb.size, fun i m him => (hb.cell (p := ⟨b, o + i, none⟩) (by simpa using Nat.lt_of_lt_of_le hlt hB)).trans (hm i m him)⟩
theorem YS.nil (w : World) : YS w (.slice none 0 0) [] := ⟨none, 0, rfl, by simp, by omega, by simp⟩
theorem info_byte : (Tryd.prog.info? 5).map (fun i => (i.zero, i.size, i.bytes)) = some (some (.int .u8 0), 1, 1) := by kernel_rfl
def ycells (l : List Nat) : List Value := l.map (byV)
def YO (w : World) (B : Nat) (v : Value) (l : List Nat) : Prop := w.ownsRow B 5 1 v l.length (ycells l)
theorem YO.nil (w : World) (B : Nat) : YO w B (.slice none 0 0) [] := World.ownsRow_nil _ _ _ _
theorem YO.ys {w : World} {B : Nat} {v : Value} {l : List Nat} (h : YO w B v l) : YS w v l := by
  have hx := h
  rcases h.2 with ⟨hv, hn⟩ | ⟨g, cap, cur, hv, hB, hg, hnc, hcm, hcs, ht⟩
  · exact ⟨none, 0, by rw [hv, hn], by omega, by omega, by omega⟩
  · refine ⟨some ⟨g, 0, none⟩, cap, hv, hnc, by simpa [maxLen] using hcm, fun _ => ⟨g, 0, rfl, lt_of_block hg, fun i x hi => ?_⟩⟩
    have hi' : i < l.length := (List.getElem?_eq_some_iff.1 hi).1
    unfold YO at hx
    rw [hv] at hx
    rw [Nat.zero_add, hx.cellAt _ (by omega)]
    simp [ycells, hi]
theorem YO.below {w w' : World} {B B' : Nat} {v : Value} {l : List Nat} (h : YO w B v l) (hb : Below B' w w') (hB : w.heap.size ≤ B') : YO w' B v l := by
  obtain ⟨h1, h⟩ := h
  refine ⟨h1, ?_⟩
  rcases h with h | ⟨g, cap, cur, hv, hBg, hg, r⟩
  · exact .inl h
  · exact .inr ⟨g, cap, cur, hv, hBg, (hb.block g (Nat.lt_of_lt_of_le (lt_of_block hg) hB)).trans hg, r⟩
theorem YO.mono {w : World} {B B' : Nat} {v : Value} {l : List Nat} (h : YO w B v l) (hB : B' ≤ B) : YO w B' v l := by
  obtain ⟨h1, h⟩ := h
  refine ⟨h1, ?_⟩
  rcases h with h | ⟨g, cap, cur, hv, hBg, hg, r⟩
  · exact .inl h
  · exact .inr ⟨g, cap, cur, hv, by omega, hg, r⟩
theorem YO.made {w : World} {n : Nat} (c : Array Value) (hc : c.size = n) (hn : n ≤ 1000000) : YO (w.alloc (.cells c 5)) w.heap.size (.slice (some ⟨w.heap.size, 0, none⟩) 0 n) [] :=
  World.ownsRow_made w c n (Nat.le_refl _) (by simp only [maxLen]; omega) (by omega)

theorem run_append_ys (w : World) (B : Nat) (v : Value) (f : List Nat) (hown : YO w B v f) (x : Value) (g : List Nat) (hx : YS w x g) (ty : TypeId) (hl : f.length + g.length ≤ 1000000) (hB : B ≤ w.heap.size) :
    ∃ v' w', (Builtin.append_ #[36, 36] ty #[v, x]).run Tryd.prog w = .ok v' w' ∧ YO w' B v' (f ++ g) ∧ w.grownBy w' v.ownBlock ∧ (v'.ownBlock = v.ownBlock ∨ v'.ownBlock = some w.heap.size) := by
  obtain ⟨i, hi, hz, h1, h2⟩ := info_parts info_byte
  obtain ⟨A, c, rfl, hc, hc2, hcell⟩ := hx
  have hlen : (f ++ g).length = f.length + g.length := by simp
  have h1c : ∀ u ∈ ycells g, u.oneCell' = true := by
    intro u hu
    simp only [ycells, List.mem_map] at hu
    obtain ⟨_, _, rfl⟩ := hu
    rfl
  by_cases hn : 0 < g.length
  · obtain ⟨b, o, rfl, hb, hm⟩ := hcell hn
    have hnews : ∀ j u, (ycells g)[j]? = some u → w.cell? ((⟨b, o, none⟩ : Addr).add j) = some u := by
      intro j u hu
      simp only [ycells, List.getElem?_map, Option.map_eq_some_iff] at hu
      obtain ⟨x, hx, rfl⟩ := hu
      have hadd : (⟨b, o, none⟩ : Addr).add j = ⟨b, o + j, none⟩ := by
        unfold Addr.add
        by_cases hj0 : j = 0
        · subst hj0; simp
        · rw [if_neg hj0]
      rw [hadd]; exact hm j x hx
    obtain ⟨v', w', hrun, h3, h4, _, h6⟩ := run_append_own_at (P := Tryd.prog) w B 36 ty 5 i _ 1 1 Tryd.underlying36 hi hz h1 h2 rfl (by omega) v f.length (ycells f) hown
      ⟨b, o, none⟩ g.length c (ycells g) (by simp [ycells]) hnews h1c (by simp only [maxLen]; omega) (by omega) hB
    exact ⟨v', w', hrun, by unfold YO; rw [hlen, show ycells (f ++ g) = ycells f ++ ycells g by simp [ycells]]; exact h3, h4, h6⟩
  · have hg0 : g = [] := List.eq_nil_of_length_eq_zero (by omega)
    subst hg0
    simp only [List.append_nil]
    cases A with
    | none => exact ⟨v, w, append_nil_src w B _ ty _ i 1 Tryd.underlying36 hi v _ _ hown c, hown, World.grownBy.refl w _, .inl rfl⟩
    | some ad =>
      obtain ⟨v', w', hrun, h3, h4, _, h6⟩ := run_append_own_at (P := Tryd.prog) w B 36 ty 5 i _ 1 1 Tryd.underlying36 hi hz h1 h2 rfl (by omega) v f.length (ycells f) hown
        ad 0 c [] (by simp) (by simp) (by simp) (by simp only [maxLen]; omega) (by omega) hB
      exact ⟨v', w', hrun, by unfold YO; simpa using h3, h4, h6⟩

theorem wp_append_ys {o : Oper} {a : Act} {w : World} {K : Act → World → Prop} {Q : Exit → Act → World → Prop} (s x : Operand)
    (ho : o.op = .call { callee := .builtin .append, args := #[s, x], argTypes := #[36, 36] })
    (B : Nat) (v : Value) (f : List Nat) (hs : a.eval s = v) (hown : YO w B v f) (y : Value) (g : List Nat) (hx : a.eval x = y) (hy : YS w y g) (hl : f.length + g.length ≤ 1000000) (hB : B ≤ w.heap.size)
    (h : ∀ v' w', YO w' B v' (f ++ g) → w.grownBy w' v.ownBlock → (v'.ownBlock = v.ownBlock ∨ v'.ownBlock = some w.heap.size) → K (a.put o.dst v') w') : o.wp Tryd.prog a w K Q := by
  obtain ⟨v', w', hrun, h2, h3, h4⟩ := run_append_ys w B v f hown y g hy o.type hl hB
  unfold Oper.wp execOp
  simp only [ho, resolve, invoke, builtin, Sem.run_bind, Sem.run_pure, Result.andThen_ok, List.map_toArray, List.map_cons, List.map_nil, hs, hx, hrun]
  exact h v' w' h2 h3 h4
theorem wpList_append_ys {ops : Array Oper} {rest : List Oper} {o : Oper} {a : Act} {w : World} {Q : Exit → Act → World → Prop} (hgd : o.guard = none) (s x : Operand)
    (ho : o.op = .call { callee := .builtin .append, args := #[s, x], argTypes := #[36, 36] })
    (B : Nat) (v : Value) (f : List Nat) (hs : a.eval s = v) (hown : YO w B v f) (y : Value) (g : List Nat) (hx : a.eval x = y) (hy : YS w y g) (hl : f.length + g.length ≤ 1000000) (hB : B ≤ w.heap.size)
    (h : ∀ v' w', YO w' B v' (f ++ g) → w.grownBy w' v.ownBlock → (v'.ownBlock = v.ownBlock ∨ v'.ownBlock = some w.heap.size) → wpList Tryd.prog ops Q rest (a.put o.dst v') w') : wpList Tryd.prog ops Q (o :: rest) a w :=
  wpList_plain hgd fun _ hK => wp_append_ys s x ho B v f hs hown y g hx hy hl hB fun v' w' h2 h3 h4 => hK _ _ (h v' w' h2 h3 h4)
theorem step_append_ys {ops : Array Oper} {o : Oper} {a : Act} {w : World} {K : Act → World → Prop} {Q : Exit → Act → World → Prop} {E : Prop} (hgd : o.guard = none) (s x : Operand)
    (ho : o.op = .call { callee := .builtin .append, args := #[s, x], argTypes := #[36, 36] })
    (B : Nat) (v : Value) (f : List Nat) (hs : a.eval s = v) (hown : YO w B v f) (y : Value) (g : List Nat) (hx : a.eval x = y) (hy : YS w y g) (hl : f.length + g.length ≤ 1000000) (hB : B ≤ w.heap.size)
    (h : ∀ v' w', YO w' B v' (f ++ g) → w.grownBy w' v.ownBlock → (v'.ownBlock = v.ownBlock ∨ v'.ownBlock = some w.heap.size) → K (a.put o.dst v') w') :
    if Region.wanted o (yielded ops a.tmps) = true then Oper.wp Tryd.prog o a w K Q else E := by
  have hw : Region.wanted o (yielded ops a.tmps) = true := by simp [Region.wanted, hgd]
  rw [if_pos hw]
  exact wp_append_ys s x ho B v f hs hown y g hx hy hl hB h
theorem own_below_y {w w1 w2 : World} {B : Nat} {v : Value} {f : List Nat} (hb : Below B w w1) (ho : YO w1 B v f) (hg : w1.grownBy w2 v.ownBlock) (hB : B ≤ w1.heap.size) : Below B w w2 :=
  hb.grown hg hB fun k hk => (World.ownsRow.lt ho k hk).1
/-- A literal of ints. -/
theorem YS.lit {w : World} {g : Nat} {l : List Nat} (n c : Nat) (cs : Array Value) (h : Row w g 5 cs) (hn : n = l.length) (hc : n ≤ c) (hc2 : c ≤ 9223372036854775807) (hcs : ∀ (i : Nat) (x : Nat), l[i]? = some x → cs[i]? = some (byV x)) : YS w (.slice (some ⟨g, 0, none⟩) n c) l := by
  subst hn
  exact ⟨some ⟨g, 0, none⟩, c, rfl, hc, hc2, fun _ => ⟨g, 0, rfl, h.lt, fun i x hi => by rw [h.cell, Nat.zero_add]; exact hcs i x hi⟩⟩


def RetYO (w : World) (l : List Nat) (e : Ending) (w' : World) : Prop := ∃ v, e = .returned v ∧ Below w.heap.size w w' ∧ YO w' w.heap.size v l
set_option maxRecDepth 100000 in
set_option maxHeartbeats 400000 in
theorem copy_bytes (f : List Nat) (v : Value) (w : World) (hv : YS w v f) (hl : f.length ≤ 1000000) : Calls Tryd.prog 22 #[v] w (RetYO w f) := by
  have HV := Lib.hid hv; clear hv
  go_enter Tryd.func22, Tryd.ntmps22
  go_wp2_with (at_builtin; go_must (refine wpList_append_ys rfl (.const (.slice none 0 0)) (.tmp 3) rfl w.heap.size (.slice none 0 0) [] rfl (YO.nil _ _) v f rfl HV.out (by simpa using hl) (Nat.le_refl _) ?_; intro v1 w1 ho1 hg1 _))
  go_returns
  exact ⟨v1, rfl, own_below_y (Below.refl _ _) (YO.nil _ _) hg1 (Nat.le_refl _), ho1⟩
theorem YS.cut {w : World} {A : Option Addr} {n c : Nat} {f : List Nat} (h : YS w (.slice A n c) f) (k : Nat) (hk : k ≤ n) (A' : Option Addr) (hA' : 0 < k → A' = A) : YS w (.slice A' k c) (f.take k) := by
  obtain ⟨A1, c1, hv, h1, h2, h3⟩ := h
  simp only [Value.slice.injEq] at hv
  obtain ⟨rfl, rfl, rfl⟩ := hv
  have hl : (f.take k).length = k := by rw [List.length_take]; omega
  refine ⟨A', c, by rw [hl], by omega, h2, fun hp => ?_⟩
  rw [hl] at hp
  obtain ⟨b, o, hA, hb, hm⟩ := h3 (by omega)
  refine ⟨b, o, (hA' hp).trans hA, hb, fun i m hi => hm i m ?_⟩
  rw [List.getElem?_take] at hi
  by_cases hik : i < k
  · rwa [if_pos hik] at hi
  · rw [if_neg hik] at hi; cases hi
end Go.Proofs.YtgeklibilgfjbaaDoor

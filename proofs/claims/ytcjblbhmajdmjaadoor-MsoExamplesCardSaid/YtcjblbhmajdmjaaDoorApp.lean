/- append onto a slice of marks of the call's own, the source any slice of marks. -/
import Derived.Test.YtcjblbhmajdmjaaDoorBase
set_option linter.unusedSimpArgs false
set_option linter.unusedVariables false
namespace Go.Proofs.YtcjblbhmajdmjaaDoor
open Go.RowKit

theorem append_nil_src {P : Program} (w : World) (base : Nat) (t ty e : TypeId) (i : TypeInfo) (size : Nat) (ht : P.underlying t = some (.slice e)) (hi : P.info? e = some i)
    (v : Value) (n : Nat) (xs : List Value) (hown : w.ownsRow base e size v n xs) (c : Nat) : (Builtin.append_ #[t, t] ty #[v, .slice none 0 c]).run P w = .ok v w := by
  rcases hown.2 with ⟨rfl, rfl⟩ | ⟨g, cap, cur, rfl, _, _, hnc, _⟩
  · simp [Builtin.append_, run_underlying ht, sizeOf, typeInfo, hi, Builtin.lenOf, Builtin.firstCells]
  · simp [Builtin.append_, run_underlying ht, sizeOf, typeInfo, hi, Builtin.lenOf, Builtin.firstCells, hnc, storeCells]

theorem run_append_ms (w : World) (B : Nat) (v : Value) (f : List Mk) (hown : MO w B v f) (x : Value) (g : List Mk) (hx : MS w x g) (ty : TypeId) (hl : f.length + g.length ≤ 1000000) (hB : B ≤ w.heap.size) :
    ∃ v' w', (Builtin.append_ #[25, 25] ty #[v, x]).run Tryd.prog w = .ok v' w' ∧ MO w' B v' (f ++ g) ∧ w.grownBy w' v.ownBlock ∧ (v'.ownBlock = v.ownBlock ∨ v'.ownBlock = some w.heap.size) := by
  obtain ⟨i, hi, hz, h1, h2⟩ := info_parts info_mark
  obtain ⟨h0, hown⟩ := hown
  obtain ⟨hg, A, c, rfl, hc, hc2, hcell⟩ := hx
  have hop : OpOk (f ++ g) := by
    intro m hm
    rcases List.mem_append.1 hm with h | h
    · exact h0 m h
    · exact hg m h
  have hlen : (f ++ g).length = f.length + g.length := by simp
  by_cases hn : 0 < g.length
  · obtain ⟨b, o, rfl, hb, hm⟩ := hcell hn
    have hnews : ∀ j u, (fcells g)[j]? = some u → w.cell? ((⟨b, o, none⟩ : Addr).add j) = some u := by
      intro j u hu
      have hj : j < g.length * 5 := by rw [← fcells_len]; exact (List.getElem?_eq_some_iff.1 hu).1
      have hi5 : j / 5 < g.length := by omega
      obtain ⟨m, hmm⟩ : ∃ m, g[j / 5]? = some m := ⟨g[j / 5], List.getElem?_eq_getElem hi5⟩
      have hsplit : j = j / 5 * 5 + j % 5 := by omega
      have hr5 : j % 5 < 5 := by omega
      have e := fcells_get g (j / 5) m hmm (j % 5) hr5
      rw [← hsplit, hu] at e
      have hm5 := hm (j / 5) m hmm
      have hadd : (⟨b, o, none⟩ : Addr).add j = ⟨b, o + j / 5 * 5 + j % 5, none⟩ := by
        unfold Addr.add
        by_cases hj0 : j = 0
        · subst hj0; simp
        · rw [if_neg hj0]; simp; omega
      rw [hadd]
      obtain ⟨c0, c1, c2, c3, c4⟩ := hm5
      have hcase : j % 5 = 0 ∨ j % 5 = 1 ∨ j % 5 = 2 ∨ j % 5 = 3 ∨ j % 5 = 4 := by omega
      rcases hcase with h | h | h | h | h <;> rw [h] at e ⊢ <;> simp [Mk.cells] at e <;> subst e <;> assumption
    obtain ⟨v', w', hrun, h3, h4, _, h6⟩ := run_append_own_at (P := Tryd.prog) w B 25 ty 23 i _ 5 40 Tryd.underlying25 hi hz h1 h2 rfl (by omega) v f.length (fcells f) hown
      ⟨b, o, none⟩ g.length c (fcells g) (fcells_len g) hnews (fcells_one g) (by simp only [maxLen]; omega) (by omega) hB
    exact ⟨v', w', hrun, ⟨hop, by rw [hlen, fcells_append]; exact h3⟩, h4, h6⟩
  · have hg0 : g = [] := List.eq_nil_of_length_eq_zero (by omega)
    subst hg0
    simp only [List.append_nil] at hop ⊢
    cases A with
    | none => exact ⟨v, w, append_nil_src w B _ ty _ i 5 Tryd.underlying25 hi v _ _ hown c, ⟨hop, hown⟩, World.grownBy.refl w _, .inl rfl⟩
    | some ad =>
      obtain ⟨v', w', hrun, h3, h4, _, h6⟩ := run_append_own_at (P := Tryd.prog) w B 25 ty 23 i _ 5 40 Tryd.underlying25 hi hz h1 h2 rfl (by omega) v f.length (fcells f) hown
        ad 0 c [] (by simp) (by simp) (by simp) (by simp only [maxLen]; omega) (by omega) hB
      exact ⟨v', w', hrun, ⟨hop, by simpa using h3⟩, h4, h6⟩

theorem wp_append_ms {o : Oper} {a : Act} {w : World} {K : Act → World → Prop} {Q : Exit → Act → World → Prop} (s x : Operand)
    (ho : o.op = .call { callee := .builtin .append, args := #[s, x], argTypes := #[25, 25] })
    (B : Nat) (v : Value) (f : List Mk) (hs : a.eval s = v) (hown : MO w B v f) (y : Value) (g : List Mk) (hx : a.eval x = y) (hy : MS w y g) (hl : f.length + g.length ≤ 1000000) (hB : B ≤ w.heap.size)
    (h : ∀ v' w', MO w' B v' (f ++ g) → w.grownBy w' v.ownBlock → (v'.ownBlock = v.ownBlock ∨ v'.ownBlock = some w.heap.size) → K (a.put o.dst v') w') : o.wp Tryd.prog a w K Q := by
  obtain ⟨v', w', hrun, h2, h3, h4⟩ := run_append_ms w B v f hown y g hy o.type hl hB
  unfold Oper.wp execOp
  simp only [ho, resolve, invoke, builtin, Sem.run_bind, Sem.run_pure, Result.andThen_ok, List.map_toArray, List.map_cons, List.map_nil, hs, hx, hrun]
  exact h v' w' h2 h3 h4

theorem wpList_append_ms {ops : Array Oper} {rest : List Oper} {o : Oper} {a : Act} {w : World} {Q : Exit → Act → World → Prop} (hgd : o.guard = none) (s x : Operand)
    (ho : o.op = .call { callee := .builtin .append, args := #[s, x], argTypes := #[25, 25] })
    (B : Nat) (v : Value) (f : List Mk) (hs : a.eval s = v) (hown : MO w B v f) (y : Value) (g : List Mk) (hx : a.eval x = y) (hy : MS w y g) (hl : f.length + g.length ≤ 1000000) (hB : B ≤ w.heap.size)
    (h : ∀ v' w', MO w' B v' (f ++ g) → w.grownBy w' v.ownBlock → (v'.ownBlock = v.ownBlock ∨ v'.ownBlock = some w.heap.size) → wpList Tryd.prog ops Q rest (a.put o.dst v') w') : wpList Tryd.prog ops Q (o :: rest) a w :=
  wpList_plain hgd fun _ hK => wp_append_ms s x ho B v f hs hown y g hx hy hl hB fun v' w' h2 h3 h4 => hK _ _ (h v' w' h2 h3 h4)

theorem step_append_ms {ops : Array Oper} {o : Oper} {a : Act} {w : World} {K : Act → World → Prop} {Q : Exit → Act → World → Prop} {E : Prop} (hgd : o.guard = none) (s x : Operand)
    (ho : o.op = .call { callee := .builtin .append, args := #[s, x], argTypes := #[25, 25] })
    (B : Nat) (v : Value) (f : List Mk) (hs : a.eval s = v) (hown : MO w B v f) (y : Value) (g : List Mk) (hx : a.eval x = y) (hy : MS w y g) (hl : f.length + g.length ≤ 1000000) (hB : B ≤ w.heap.size)
    (h : ∀ v' w', MO w' B v' (f ++ g) → w.grownBy w' v.ownBlock → (v'.ownBlock = v.ownBlock ∨ v'.ownBlock = some w.heap.size) → K (a.put o.dst v') w') :
    if Region.wanted o (yielded ops a.tmps) = true then Oper.wp Tryd.prog o a w K Q else E := by
  have hw : Region.wanted o (yielded ops a.tmps) = true := by simp [Region.wanted, hgd]
  rw [if_pos hw]
  exact wp_append_ms s x ho B v f hs hown y g hx hy hl hB h

theorem Row.lit {w : World} {t : TypeId} {cs : Array Value} {g : Nat} (h : g = w.heap.size) : Row (w.alloc (.cells cs t)) g t cs := h ▸ Row.new w t cs
theorem Row.litd {w : World} {t : TypeId} {cs : Array Value} {g : Nat} (h : g = w.heap.size) : Row (w.alloc (.cells cs t)).drew g t cs := h ▸ Row.new w t cs

/-- A literal of one mark reads as that mark. -/
theorem MS.one {w : World} {g : Nat} {m : Mk} (h : Row w g 23 #[.int .u8 m.op, .int .i64 m.x, .int .i64 m.y, .int .i64 m.a, .int .i64 m.b]) (h0 : 0 ≤ m.op) (h1 : m.op ≤ 255) : MS w (.slice (some ⟨g, 0, none⟩) 1 1) [m] := by
  refine ⟨by simpa [OpOk] using ⟨h0, h1⟩, some ⟨g, 0, none⟩, 1, rfl, by simp, by omega, fun _ => ⟨g, 0, rfl, h.lt, fun i m' hi => ?_⟩⟩
  cases i with
  | succ i => simp at hi
  | zero =>
    simp only [List.getElem?_cons_zero, Option.some.injEq] at hi
    subst hi
    have c := h.cell
    exact ⟨by rw [c]; rfl, by rw [c]; rfl, by rw [c]; rfl, by rw [c]; rfl, by rw [c]; rfl⟩

/-- The result is a slice of marks of the call's own; nothing that was there has turned. -/
def RetMO (w : World) (f : List Mk) (e : Ending) (w' : World) : Prop := ∃ v, e = .returned v ∧ Below w.heap.size w w' ∧ MO w' w.heap.size v f

theorem own_below {w w1 w2 : World} {B : Nat} {v v' : Value} {f g : List Mk} (hb : Below B w w1) (ho : MO w1 B v f) (hg : w1.grownBy w2 v.ownBlock) (hB : B ≤ w1.heap.size) : Below B w w2 :=
  hb.grown hg hB fun k hk => (ho.2.lt k hk).1

set_option maxRecDepth 100000 in
set_option maxHeartbeats 400000 in
theorem copy_any (f : List Mk) (v : Value) (w : World) (hv : MS w v f) (hl : f.length ≤ 1000000) : Calls Tryd.prog 4 #[v] w (RetMO w f) := by
  have HV := Lib.hid hv; clear hv
  go_enter Tryd.func4, Tryd.ntmps4
  go_wp2_with (at_builtin; go_must (refine wpList_append_ms rfl (.const (.slice none 0 0)) (.tmp 3) rfl w.heap.size (.slice none 0 0) [] rfl (MO.nil _ _) v f rfl HV.out (by simpa using hl) (Nat.le_refl _) ?_; intro v1 w1 ho1 hg1 _))
  go_returns
  exact ⟨v1, rfl, own_below (v' := v1) (g := f) (Below.refl _ _) (MO.nil _ _) hg1 (Nat.le_refl _), ho1⟩

theorem MO.made {w : World} {n : Nat} (c : Array Value) (hc : c.size = n * 5) (hn : n ≤ 1000000) : MO (w.alloc (.cells c 23)) w.heap.size (.slice (some ⟨w.heap.size, 0, none⟩) 0 n) [] :=
  ⟨by simp [OpOk], World.ownsRow_made w c n (Nat.le_refl _) (by simp only [maxLen]; omega) hc⟩

set_option maxRecDepth 100000 in
set_option maxHeartbeats 400000 in
theorem clone_any (f : List Mk) (v : Value) (w : World) (hv : MS w v f) (hl : f.length ≤ 1000000) : Calls Tryd.prog 51 #[v] w (RetMO w f) := by
  have hnil := fun (W : World) (A : Option Addr) (n c : Nat) => Lib.run_eql_slice_nil (P := Tryd.prog) W 25 23 A n c 0 0 Tryd.underlying25
  have HV := Lib.hid hv
  obtain ⟨hop, A, c, rfl, hc, hc2, hcell⟩ := hv
  cases A with
  | none =>
    have hf : f = [] := by
      cases f with
      | nil => rfl
      | cons m f => obtain ⟨_, _, h, _⟩ := hcell (by simp); cases h
    subst hf
    clear hcell
    go_enter Tryd.func51, Tryd.ntmps51
    go_wp2
    go_returns
    exact ⟨_, rfl, Below.refl _ _, MO.nil _ _⟩
  | some ad =>
    clear hcell
    go_enter Tryd.func51, Tryd.ntmps51
    go_wp2_with (at_builtin; go_must (refine wpList_append_ms rfl (.tmp 5) (.tmp 6) rfl w.heap.size _ [] rfl (MO.made #[] rfl (by omega)) _ f rfl (HV.out.below (Below.alloc (Below.refl _ _) (Nat.le_refl _) _) (Nat.le_refl _)) (by simpa using hl) (by simp) ?_; intro v1 w1 ho1 hg1 _))
    go_returns
    exact ⟨v1, rfl, own_below (v' := v1) (g := f) (Below.alloc (Below.refl _ _) (Nat.le_refl _) _) (MO.made #[] rfl (by omega)) hg1 (by simp), ho1⟩

theorem take_next_eq {α : Type} {f g : List α} {k : Nat} {x y : α} (hx : f[k]? = some x) (hy : g[k]? = some y) (h : f.take k = g.take k) : f.take (k + 1) = g.take (k + 1) ↔ x = y := by
  rw [List.take_add_one, List.take_add_one, hx, hy, h]
  simp
end Go.Proofs.YtcjblbhmajdmjaaDoor

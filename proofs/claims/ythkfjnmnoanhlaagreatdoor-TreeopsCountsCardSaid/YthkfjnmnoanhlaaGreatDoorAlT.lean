/- Contract of All of the package tree. -/
import Derived.Test.YthkfjnmnoanhlaaGreatDoorItr
import Derived.Test.YthkfjnmnoanhlaaGreatDoorDec
import Derived.Test.YthkfjnmnoanhlaaGreatDoorVal
import Derived.Deep.DeepCutAuto
import Derived.Shelf.Abstract
set_option linter.unusedSimpArgs false
set_option linter.unusedVariables false
namespace Go.Proofs.YthkfjnmnoanhlaaGreatDoor
open Go.RowKit

theorem elt_tree : Elt 67 34 (.slice none 0 0) 24 := ⟨by kernel_rfl, by kernel_rfl, by omega, rfl⟩
/-- The values are the trees ts, each in a block of its own from B on. -/
def TL (w : World) (B : Nat) (vs : List Value) (ts : List (List Lf)) : Prop := vs.length = ts.length ∧ ∀ (i : Nat) v, vs[i]? = some v → ∃ t, ts[i]? = some t ∧ TO w B v t
theorem TL.nil (w : World) (B : Nat) : TL w B [] [] := ⟨rfl, fun i v h => by simp at h⟩
theorem TL.below {w w' : World} {B B' : Nat} {vs : List Value} {ts : List (List Lf)} (h : TL w B vs ts) (hb : Below B' w w') (hB : w.heap.size ≤ B') : TL w' B vs ts :=
  ⟨h.1, fun i v hv => by obtain ⟨t, h1, h2⟩ := h.2 i v hv; exact ⟨t, h1, h2.below hb hB⟩⟩
theorem TL.mono {w : World} {B B' : Nat} {vs : List Value} {ts : List (List Lf)} (h : TL w B vs ts) (hB : B' ≤ B) : TL w B' vs ts :=
  ⟨h.1, fun i v hv => by obtain ⟨t, h1, h2⟩ := h.2 i v hv; exact ⟨t, h1, h2.mono hB⟩⟩
theorem TL.snoc {w : World} {B : Nat} {vs : List Value} {ts : List (List Lf)} {v : Value} {t : List Lf} (h : TL w B vs ts) (ht : TO w B v t) : TL w B (vs ++ [v]) (ts ++ [t]) := by
  refine ⟨by simp [h.1], fun i u hu => ?_⟩
  by_cases hi : i < vs.length
  · rw [List.getElem?_append_left hi] at hu
    obtain ⟨s, h1, h2⟩ := h.2 i u hu
    exact ⟨s, by rw [List.getElem?_append_left (by rw [← h.1]; exact hi)]; exact h1, h2⟩
  · have := (List.getElem?_eq_some_iff.1 hu).1
    rw [List.length_append, List.length_singleton] at this
    have : i = vs.length := by omega
    subst this
    rw [List.getElem?_append_right (Nat.le_refl _), Nat.sub_self] at hu
    simp only [List.getElem?_cons_zero, Option.some.injEq] at hu
    subst hu
    exact ⟨t, by rw [List.getElem?_append_right (by rw [h.1]; exact Nat.le_refl _), h.1, Nat.sub_self]; rfl, ht⟩
theorem TO.turn {w w' : World} {B : Nat} {v : Value} {t : List Lf} {row : Option Nat} (h : TO w B v t) (hg : w.grownBy w' row) (hr : ∀ r, row = some r → r < B) : TO w' B v t := by
  obtain ⟨h0, h1, h2⟩ := h
  refine ⟨h0, h1, ?_⟩
  rcases h2 with h2 | ⟨g, cap, cur, hv, hB, hgr, r⟩
  · exact .inl h2
  · exact .inr ⟨g, cap, cur, hv, hB, (hg.block g (lt_of_block hgr) (fun e => by have := hr g e.symm; omega)).trans hgr, r⟩
theorem VO.turn {E : TypeId} {w w' : World} {B : Nat} {v : Value} {l : List Value} {row : Option Nat} (h : VO E w B v l) (hg : w.grownBy w' row) (hr : ∀ r, row = some r → r < B) : VO E w' B v l := by
  obtain ⟨h0, h1, h2⟩ := h
  refine ⟨h0, h1, ?_⟩
  rcases h2 with h2 | ⟨g, cap, cur, hv, hB, hgr, r⟩
  · exact .inl h2
  · exact .inr ⟨g, cap, cur, hv, hB, (hg.block g (lt_of_block hgr) (fun e => by have := hr g e.symm; omega)).trans hgr, r⟩
theorem TL.turn {w w' : World} {B : Nat} {vs : List Value} {ts : List (List Lf)} {row : Option Nat} (h : TL w B vs ts) (hg : w.grownBy w' row) (hr : ∀ r, row = some r → r < B) : TL w' B vs ts :=
  ⟨h.1, fun i v hv => by obtain ⟨t, h1, h2⟩ := h.2 i v hv; exact ⟨t, h1, h2.turn hg hr⟩⟩
def treeOfCode (x : List Int) : List Lf := (decB x.length x).1.enc 0
theorem treeOfCode_code {b : Bt} (h : b.pos) : treeOfCode b.code = b.enc 0 := by unfold treeOfCode; rw [decB_self h]

/-- Between two rounds of All's loop; N is the heap's size at the call. -/
structure AI (w : World) (v : Nat) (xs : List (List Int)) (W : World) : Prop where
  below : Below w.heap.size w W
  r0 : Row W w.heap.size 67 #[.slice none 0 0]
  r1 : Row W (w.heap.size + 1) 28 #[.int .i64 0]
  out : ∃ ov vs, Row W (w.heap.size + 2) 67 #[ov] ∧ VO 34 W (w.heap.size + 10) ov vs ∧ TL W (w.heap.size + 10) vs (xs.map treeOfCode)
  few : xs.length ≤ 4096
  rv : Row W (w.heap.size + 3) 3 #[.int .i64 v]
/-- How the loop is left. -/
structure AX (w : World) (xs : List (List Int)) (W : World) : Prop where
  below : Below w.heap.size w W
  r0 : Row W w.heap.size 67 #[.slice none 0 0]
  r1 : Row W (w.heap.size + 1) 28 #[.int .i64 10]
  many : 4096 < xs.length
theorem AI.abides (w : World) (v : Nat) : AbidesOwn (w.heap.size + 5) (2 + 3) (AI w v) := by
  intro s W W' row h hg hr
  obtain ⟨hb, r0, r1, ⟨ov, vs, ro, hv, ht⟩, hf, rv⟩ := h
  have hne : ∀ k, k < w.heap.size + 5 → some k ≠ row := fun k hk e => by have := hr k e.symm; omega
  have hlt : ∀ r, row = some r → r < w.heap.size + 10 := fun r e => by have := hr r e; omega
  exact ⟨hb.grown hg hb.size (fun k hk => by have := hr k hk; omega), r0.grown hg (hne _ (by omega)), r1.grown hg (hne _ (by omega)), ⟨ov, vs, ro.grown hg (hne _ (by omega)), hv.turn hg hlt, ht.turn hg hlt⟩, hf, rv.grown hg (hne _ (by omega))⟩
theorem AX.abides (w : World) : AbidesOwn (w.heap.size + 5) (2 + 3) (AX w) := by
  intro s W W' row h hg hr
  obtain ⟨hb, r0, r1, hm⟩ := h
  have hne : ∀ k, k < w.heap.size + 5 → some k ≠ row := fun k hk e => by have := hr k e.symm; omega
  exact ⟨hb.grown hg hb.size (fun k hk => by have := hr k hk; omega), r0.grown hg (hne _ (by omega)), r1.grown hg (hne _ (by omega)), hm⟩

theorem trees_any (v n : Int) (w : World) : Calls Tryz.prog 94 #[.int .i64 v, .int .i64 n] w fun e w' => e = .returned (.func (.func 129) #[] #[.pointer (some ⟨w.heap.size, 0, none⟩), .pointer (some ⟨w.heap.size + 1, 0, none⟩)]) ∧ w' = ((w.alloc (.cells #[.int .i64 v] 3)).alloc (.cells #[.int .i64 n] 3)) := by
  go_enter Tryz.func94, Tryz.ntmps94
  go_wp2_with fail
  go_returns
  exact ⟨rfl, rfl⟩

/-- The iterator's contract. -/
theorem trees_seq (vb nb vn n : Nat) (hvn : vn ≤ 3) (hn : n ≤ 31) (w : World) (h1 : Row w vb 3 #[.int .i64 vn]) (h2 : Row w nb 3 #[.int .i64 n]) :
    SeqOwn Tryz.prog 129 #[.pointer (some ⟨vb, 0, none⟩), .pointer (some ⟨nb, 0, none⟩)] rdC (· = vb) 3 (fun xs => xs = codesS (2 ^ vn) n) (fun pre => pre <+: codesS (2 ^ vn) n) w := by
  intro N l J Jx W hb hJ hJx hY h0
  refine callsIn_wide.2 ?_
  refine (trees1_any vb nb vn n l hvn hn J Jx W (h1.below hb h1.lt) (h2.below hb h2.lt) hJ hY h0).mono ?_
  rintro e W' ⟨rfl, h | ⟨q, h3, h4⟩⟩
  · exact ⟨⟨_, rfl⟩, .inl ⟨_, rfl, h⟩⟩
  · exact ⟨⟨_, rfl⟩, .inr ⟨q, h3, h4⟩⟩

/-- What All hands back. -/
def AllE (w : World) (x : List (List Lf) × Int) (e : Ending) (w' : World) : Prop := ∃ ov vs, e = .returned (.tuple #[ov, .int .i64 x.2]) ∧ Below w.heap.size w w' ∧ VO 34 w' w.heap.size ov vs ∧ TL w' w.heap.size vs x.1

/-- How All's loop is left, by the way out. -/
def AllX (w : World) (c : Code) (xs : List (List Int)) (W : World) : Prop := c = .ret ∧ AX w xs W
theorem AllX.abides (w : World) (c : Code) : AbidesOwn (w.heap.size + 5) (2 + 3) (AllX w c) := fun s W W' row h hg hr => ⟨h.1, AX.abides w s W W' row h.2 hg hr⟩
/-- The world in which All's loop begins. -/
def allW (w : World) (v n : Nat) : World := ((((w.alloc (.cells #[.slice none 0 0] 67)).alloc (.cells #[.int .i64 0] 28)).alloc (.cells #[.slice none 0 0] 67)).alloc (.cells #[.int .i64 v] 3)).alloc (.cells #[.int .i64 n] 3)
theorem allW_size (w : World) (v n : Nat) : (allW w v n).heap.size = w.heap.size + 5 := by simp [allW]
theorem allW_start (w : World) (v n : Nat) : AI w v [] (allW w v n) ∧ Row (allW w v n) (w.heap.size + 4) 3 #[.int .i64 n] := by
  refine ⟨⟨?_, ?_, ?_, ⟨.slice none 0 0, [], ?_, VO.nil _ _ _, TL.nil _ _⟩, by simp, ?_⟩, ?_⟩
  · exact (((((Below.refl _ w).alloc (Nat.le_refl _) _).alloc (by simp) _).alloc (by simp; omega) _).alloc (by simp; omega) _).alloc (by simp; omega) _
  · exact ((((Row.new w _ _).alloc _).alloc _).alloc _).alloc _
  · exact (((Row.lit (by simp)).alloc _).alloc _).alloc _
  · exact ((Row.lit (by simp)).alloc _).alloc _
  · exact (Row.lit (by simp)).alloc _
  · exact Row.lit (by simp)
theorem keep_far {E : Nat → Prop} {B k : Nat} {W : World} {p : Addr} (h : p.block < B) (hE : ∀ b, E b → b ≠ p.block) (u : Value) : KeepB E B k W (W.setCell p u) :=
  ⟨by simp, fun b hb => Below.heap_setCell W p u b (hb.elim (fun h1 => by omega) (hE b))⟩

theorem TO.farV {w w' : World} {B B' : Nat} {v u : Value} {f : List Lf} {l : List Value} (h : TO w B v f) (h2 : VO 34 w B' u l) (hg : w.grownBy w' u.ownBlock) : TO w' B v f := by
  obtain ⟨h0, h1, h3⟩ := h
  refine ⟨h0, h1, ?_⟩
  rcases h3 with h3 | ⟨g, cap, cur, hv, hB, hgr, r⟩
  · exact .inl h3
  · refine .inr ⟨g, cap, cur, hv, hB, (hg.block g (lt_of_block hgr) (fun e => ?_)).trans hgr, r⟩
    rcases h2.2.2 with ⟨h4, _⟩ | ⟨g', cap', cur', hu, _, hg', _⟩
    · rw [h4] at e; simp [Value.ownBlock] at e
    · rw [hu] at e
      simp only [Value.ownBlock, Option.some.injEq] at e
      subst e
      rw [hgr] at hg'
      simp only [Option.some.injEq, Obj.cells.injEq] at hg'
      exact absurd hg'.2.1 (by decide)
theorem treeOfCode_map {b : Bt} {pre : List (List Int)} (h : b.pos) : pre.map treeOfCode ++ [b.enc 0] = (pre ++ [b.code]).map treeOfCode := by simp [treeOfCode_code h]
/-- A tree more: what the round leaves. -/
theorem alt_app {w W X w3 : World} {v k c : Nat} {A : Option Addr} {vs : List Value} {ts : List (List Lf)} {tv v3 : Value} {t : List Lf} (hB : Below w.heap.size w W) (r0 : Row W w.heap.size 67 #[.slice none 0 0]) (r1 : Row W (w.heap.size + 1) 28 #[.int .i64 0])
    (ro : Row W (w.heap.size + 2) 67 #[.slice A k c]) (rv : Row W (w.heap.size + 3) 3 #[.int .i64 v]) (hv : VO 34 W (w.heap.size + 10) (.slice A k c) vs) (ht : TL W (w.heap.size + 10) vs ts)
    (hX : Below W.heap.size W X) (hT : TO X (w.heap.size + 10) tv t) (ho : VO 34 w3 (w.heap.size + 10) v3 (vs ++ [tv])) (hg : X.grownBy w3 (Value.slice A k c).ownBlock) (hz : w.heap.size + 10 ≤ W.heap.size) :
    Row w3 (w.heap.size + 2) 67 #[.slice A k c] ∧ KeepB (· = w.heap.size + 3) (w.heap.size + 5) (2 + 3) W (w3.setCell ⟨w.heap.size + 2, 0, none⟩ v3) ∧
      (∀ xs : List (List Int), xs.length ≤ 4096 → ts ++ [t] = xs.map treeOfCode → AI w v xs (w3.setCell ⟨w.heap.size + 2, 0, none⟩ v3)) := by
  have hvX := hv.below hX (Nat.le_refl _)
  have hob : ∀ r, (Value.slice A k c).ownBlock = some r → w.heap.size + 10 ≤ r := fun r e => (hvX.2.lt r e).1
  have hne : ∀ j, j < w.heap.size + 10 → some j ≠ (Value.slice A k c).ownBlock := fun j hj e => by have := hob j e.symm; omega
  have hmv : ∀ {j E} {cs : Array Value}, j < w.heap.size + 10 → Row W j E cs → Row w3 j E cs := fun hj r => (r.below hX (by omega)).grown hg (hne _ hj)
  have hz3 : W.heap.size ≤ w3.heap.size := Nat.le_trans hX.size hg.size
  have htX := (ht.below hX (Nat.le_refl _)).snoc hT
  have ht3 : TL w3 (w.heap.size + 10) (vs ++ [tv]) (ts ++ [t]) := ⟨htX.1, fun i u hu => by obtain ⟨s, h1, h2⟩ := htX.2 i u hu; exact ⟨s, h1, h2.farV hvX hg⟩⟩
  refine ⟨hmv (by omega) ro, ⟨by simp; omega, fun b hb => ?_⟩, fun xs hx hxs => ?_⟩
  · have hb10 : b < w.heap.size + 10 := by rcases hb with hb | hb <;> omega
    have hbne : b ≠ w.heap.size + 2 := by rcases hb with hb | hb <;> omega
    exact (Below.heap_setCell w3 _ _ b (by simpa using hbne)).trans ((hg.block b (by have := hX.size; omega) (hne b hb10)).trans (hX.block b (by omega)))
  · have hvf : VO 34 (w3.setCell ⟨w.heap.size + 2, 0, none⟩ v3) (w.heap.size + 10) v3 (vs ++ [tv]) := ho.setFar (fun e => by have := (ho.2.lt _ e).1; simp at this) _
    refine ⟨Below.setCell ((hB.trans (hX.mono hB.size)).grown hg (by have := hB.size; have := hX.size; omega) (fun j hj => by have := hob j hj; omega)) (by simp) _, (hmv (by omega) r0).far (by simp) _, (hmv (by omega) r1).far (by simp) _, ⟨v3, _, (hmv (by omega) ro).set 0 v3, hvf, ?_⟩, hx, (hmv (by omega) rv).far (by simp) _⟩
    rw [← hxs]
    exact ⟨ht3.1, fun i u hu => by obtain ⟨s, h1, h2⟩ := ht3.2 i u hu; exact ⟨s, h1, h2.setFar (by show w.heap.size + 2 < w.heap.size + 10; omega) _⟩⟩

theorem stepIn_append_vs {F : Fence} {m : Nat} {T E : TypeId} {z : Value} {by8 : Nat} (hE : Elt T E z by8) {ops : Array Oper} {o : Oper} {a : Act} {w : World} {K : Act → World → Prop} {Q : Exit → Act → World → Prop} {X : Prop} (hgd : o.guard = none) (s x : Operand)
    (ho : o.op = .call { callee := .builtin .append, args := #[s, x], argTypes := #[T, T] })
    (B : Nat) (v : Value) (f : List Value) (hs : a.eval s = v) (hown : VO E w B v f) (y : Value) (g : List Value) (hx : a.eval x = y) (hy : VS w y g) (h1c : ∀ u ∈ g, u.oneCell' = true) (hl : f.length + g.length ≤ 1000000) (hB : B ≤ w.heap.size)
    (h : ∀ v' w', VO E w' B v' (f ++ g) → w.grownBy w' v.ownBlock → (v'.ownBlock = v.ownBlock ∨ v'.ownBlock = some w.heap.size) → K (a.put o.dst v') w') :
    if Region.wanted o (yielded ops a.tmps) = true then Oper.wpIn F m Tryz.prog o a w K Q else X := by
  have hw : Region.wanted o (yielded ops a.tmps) = true := by simp [Region.wanted, hgd]
  rw [if_pos hw]
  obtain ⟨v', w', hrun, h2, h3, h4⟩ := run_append_vs hE w B v f hown y g hy h1c o.type hl hB
  unfold Oper.wpIn
  refine ⟨?_, ?_⟩
  · simp [Oper.about, ho, resolve, Target.leads, Sem.run_pure]
  · rw [Oper.semAt_plain F _ _ (by rw [ho]; intro c hc'; cases hc')]
    unfold execOp
    simp only [ho, resolve, invoke, builtin, Sem.run_bind, Sem.run_pure, Result.andThen_ok, List.map_toArray, List.map_cons, List.map_nil, hs, hx, hrun]
    exact h v' w' h2 h3 h4
theorem VS.lit1 {w : World} {g : Nat} {E : TypeId} {u : Value} (h : Row w g E #[u]) : VS w (.slice (some ⟨g, 0, none⟩) 1 1) [u] := VS.lit (l := [u]) h (by simp)

theorem results_all (tmps : Array Value) (w : World) (B : Nat) (u : Value) (e : Int) (h4 : tmps.getD 4 undef = .pointer (some ⟨B, 0, none⟩)) (h5 : tmps.getD 5 undef = .pointer (some ⟨B + 1, 0, none⟩)) (hu : w.cell? ⟨B, 0, none⟩ = some u) (he : w.cell? ⟨B + 1, 0, none⟩ = some (.int .i64 e)) :
    (results Tryz.f48 tmps).run Tryz.prog w = .ok (.tuple #[u, .int .i64 e]) w := by
  have h4' : tmps[4]?.getD undef = .pointer (some ⟨B, 0, none⟩) := by simpa using h4
  have h5' : tmps[5]?.getD undef = .pointer (some ⟨B + 1, 0, none⟩) := by simpa using h5
  have hl1 : (loadVar 67 ⟨B, 0, none⟩).run Tryz.prog w = .ok u w := by simp [go_sem, hu]
  have hl3 : (loadVar 28 ⟨B + 1, 0, none⟩).run Tryz.prog w = .ok (.int .i64 e) w := by simp [go_sem, he]
  simp [results, Tryz.results48, asAddr, h4', h5', hl1, hl3]
theorem put_row {w : World} {g l : Nat} {t : TypeId} {cs : Array Value} (h : Row w g t cs) (hg : g ≠ l) (o : Obj) : Row (w.putObj l o) g t cs := (World.putObj_heap_other hg).trans h
theorem put_below {w W : World} {B l : Nat} (h : Below B w W) (hB : B ≤ w.heap.size) (hl : B ≤ l) (o : Obj) : Below B w (W.putObj l o) := h.grown (grownBy_putObj' W l o) (Nat.le_trans hB h.size) (fun k hk => by cases hk; exact hl)
theorem all_mark {w w1 W : World} {u : Value} {e : Int} (hz : w1.heap.size = w.heap.size + 5) (hK : W.heap[w1.heap.size]? = some (.deferred (some []))) :
    ((W.setCell ⟨w.heap.size, 0, none⟩ u).setCell ⟨w.heap.size + 1, 0, none⟩ (.int .i64 e)).heap[w1.heap.size]? = some (.deferred (some [])) :=
  (Below.heap_setCell _ _ _ _ (by show w1.heap.size ≠ w.heap.size + 1; omega)).trans ((Below.heap_setCell _ _ _ _ (by show w1.heap.size ≠ w.heap.size; omega)).trans hK)
theorem all_fin {w w1 W : World} {k c : Nat} {A : Option Addr} {vs : List Value} {ts : List (List Lf)} (hB : Below w.heap.size w W) (r0 : Row W w.heap.size 67 #[.slice none 0 0]) (r1 : Row W (w.heap.size + 1) 28 #[.int .i64 0])
    (hv : VO 34 W (w.heap.size + 10) (.slice A k c) vs) (ht : TL W (w.heap.size + 10) vs ts) (hz : w1.heap.size = w.heap.size + 5) :
    (((W.setCell ⟨w.heap.size, 0, none⟩ (.slice A k c)).setCell ⟨w.heap.size + 1, 0, none⟩ (.int .i64 0)).putObj w1.heap.size (.deferred none)).cell? ⟨w.heap.size, 0, none⟩ = some (.slice A k c) ∧
    (((W.setCell ⟨w.heap.size, 0, none⟩ (.slice A k c)).setCell ⟨w.heap.size + 1, 0, none⟩ (.int .i64 0)).putObj w1.heap.size (.deferred none)).cell? ⟨w.heap.size + 1, 0, none⟩ = some (.int .i64 0) ∧
    Below w.heap.size w (((W.setCell ⟨w.heap.size, 0, none⟩ (.slice A k c)).setCell ⟨w.heap.size + 1, 0, none⟩ (.int .i64 0)).putObj w1.heap.size (.deferred none)) ∧
    VO 34 (((W.setCell ⟨w.heap.size, 0, none⟩ (.slice A k c)).setCell ⟨w.heap.size + 1, 0, none⟩ (.int .i64 0)).putObj w1.heap.size (.deferred none)) w.heap.size (.slice A k c) vs ∧
    TL (((W.setCell ⟨w.heap.size, 0, none⟩ (.slice A k c)).setCell ⟨w.heap.size + 1, 0, none⟩ (.int .i64 0)).putObj w1.heap.size (.deferred none)) w.heap.size vs ts := by
  rw [hz]
  have q0 := put_row ((r0.set 0 (.slice A k c)).far (p := ⟨w.heap.size + 1, 0, none⟩) (by simp) (.int .i64 0)) (show w.heap.size ≠ w.heap.size + 5 by omega) (.deferred none)
  have q1 := put_row ((r1.far (p := ⟨w.heap.size, 0, none⟩) (by simp) (.slice A k c)).set 0 (.int .i64 0)) (show w.heap.size + 1 ≠ w.heap.size + 5 by omega) (.deferred none)
  have hlt : ∀ r, some (w.heap.size + 5) = some r → r < w.heap.size + 10 := fun r e => by cases e; omega
  have hne : ∀ j, j < w.heap.size + 10 → (Value.slice A k c).ownBlock ≠ some j := fun j hj e => by have := (hv.2.lt j e).1; omega
  refine ⟨q0.cell 0, q1.cell 0, put_below ((hB.setCell (Nat.le_refl _) _).setCell (by simp) _) (Nat.le_refl _) (by omega) _, ?_, ?_⟩
  · exact (((hv.setFar (hne _ (by show w.heap.size < _; omega)) _).setFar (hne _ (by show w.heap.size + 1 < _; omega)) _).turn (grownBy_putObj' _ _ _) hlt).mono (by omega)
  · exact TL.mono (TL.turn ⟨ht.1, fun i u hu => by obtain ⟨s, h1, h2⟩ := ht.2 i u hu; exact ⟨s, h1, (h2.setFar (by show w.heap.size < _; omega) _).setFar (by show w.heap.size + 1 < _; omega) _⟩⟩ (grownBy_putObj' _ _ _) hlt) (by omega)
theorem all_stop {w w1 W : World} (hB : Below w.heap.size w W) (r0 : Row W w.heap.size 67 #[.slice none 0 0]) (r1 : Row W (w.heap.size + 1) 28 #[.int .i64 10]) (hz : w1.heap.size = w.heap.size + 5) :
    (W.putObj w1.heap.size (.deferred none)).cell? ⟨w.heap.size, 0, none⟩ = some (.slice none 0 0) ∧ (W.putObj w1.heap.size (.deferred none)).cell? ⟨w.heap.size + 1, 0, none⟩ = some (.int .i64 10) ∧ Below w.heap.size w (W.putObj w1.heap.size (.deferred none)) := by
  rw [hz]
  exact ⟨(put_row r0 (by omega) _).cell 0, (put_row r1 (by omega) _).cell 0, put_below hB (Nat.le_refl _) (by omega) _⟩
theorem all_good {w W : World} {v n k c : Nat} {A : Option Addr} {vs : List Value} {R : List (List Lf) × Int} (hv : v ≤ 3) (hn : n ≤ 31) (hR : R = allS v n) (hfew : (codesS (2 ^ v) n).length ≤ 4096)
    (h : Below w.heap.size w W ∧ VO 34 W w.heap.size (.slice A k c) vs ∧ TL W w.heap.size vs ((codesS (2 ^ v) n).map treeOfCode)) : AllE w R (.returned (.tuple #[.slice A k c, .int .i64 0])) W := by
  have e : R = ((btsS (2 ^ v) n).map fun b => b.enc 0, 0) := by
    rw [hR]; unfold allS
    have hl : cntF (2 ^ v) (2 * n + 1) 1 n ≤ 4096 := by rw [← codes_len]; exact hfew
    rw [if_neg (by omega), if_neg (by omega), Int.toNat_natCast, Int.toNat_natCast, if_neg (by omega)]
  rw [e]
  refine ⟨_, vs, rfl, h.1, h.2.1, ?_⟩
  have e2 : (btsS (2 ^ v) n).map (fun b => b.enc 0) = (codesS (2 ^ v) n).map treeOfCode := by unfold btsS; rw [List.map_map]; rfl
  rw [e2]
  exact h.2.2
theorem all_bad {w W : World} {v n : Nat} {R : List (List Lf) × Int} {pre : List (List Int)} (hv : v ≤ 3) (hn : n ≤ 31) (hR : R = allS v n) (hm : 4096 < pre.length) (hp : pre <+: codesS (2 ^ v) n) (h : Below w.heap.size w W) :
    AllE w R (.returned (.tuple #[.slice none 0 0, .int .i64 10])) W := by
  have e : R = ([], 10) := by
    rw [hR]; unfold allS
    have hl : 4096 < cntF (2 ^ v) (2 * n + 1) 1 n := by rw [← codes_len]; exact Nat.lt_of_lt_of_le hm hp.length_le
    rw [if_neg (by omega), if_neg (by omega), Int.toNat_natCast, Int.toNat_natCast, if_pos hl]
  rw [e]
  exact ⟨_, [], rfl, h, VO.nil _ _ _, TL.nil _ _⟩

section
attribute [local go_sem] Oper.semAt_some

set_option maxRecDepth 100000 in
set_option maxHeartbeats 4000000 in
theorem All_in (v n : Nat) (hv : v ≤ 3) (hn : n ≤ 31) (w : World) : Calls Tryz.prog 48 #[.int .i64 v, .int .i64 n] w (AllE w (allS v n)) := by
  have v1 : (v : Int) ≤ 3 := by omega
  have n1 : (n : Int) ≤ 31 := by omega
  have b1 : decide ((v : Int) < 0) = false := by simp
  have b2 : decide ((3 : Int) < v) = false := by simp; omega
  have b3 : decide ((n : Int) < 0) = false := by simp
  have b4 : decide ((31 : Int) < n) = false := by simp; omega
  obtain ⟨R, hR⟩ : ∃ R, R = allS v n := ⟨_, rfl⟩
  rw [← hR]
  have HR := Lib.hid hR
  clear hR
  refine (callsIn_wide (n := 3)).1 ?_
  refine callsIn_of_wp_marks Tryz.func48 rfl trivial ?_ rfl
  simp only [Tryz.ntmps48, List.size_toArray, List.length_cons, List.length_nil, Nat.reduceAdd, Nat.reduceSub, Array.replicate_succ, Array.replicate_zero, List.push_toArray, List.append_toArray, List.nil_append, List.cons_append]
  have HT := Lib.hid (fun (m : Nat) W => (callsIn_wide (n := m)).2 (trees_any v n W))
  gi_wp2_with ((try refine ⟨trivial, ?_⟩); gi_at_call 94; refine (HT.out _ _).mono ?_; rintro e w1 ⟨rfl, hw⟩; have HW := Lib.hid (show w1 = allW w v n from hw); clear hw)
  have hst := allW_start w v n
  have hsz := allW_size w v n
  rw [← HW.out] at hst hsz
  clear HT
  refine wpIn_rangeFunc_mine (gf := 129) (lb := #[.pointer (some ⟨w.heap.size + 1 + 1 + 1, 0, none⟩), .pointer (some ⟨w.heap.size + 1 + 1 + 1 + 1, 0, none⟩)]) rfl (enters_of Tryz.func129 (by kernel_rfl) rfl)
    (trees_seq (w.heap.size + 3) (w.heap.size + 4) v n hv hn w1 hst.1.rv hst.2) (fun b hb => by rw [hb, hsz]; omega) (Below.refl _ _) (fun x args B W hx => by rw [hx.1]; rfl) (fun x args B W W' hk hx => hx.keep hk)
    (AI w v) (AllX w) (by rw [hsz]; exact AI.abides w v) (fun c => by rw [hsz]; exact AllX.abides w c) hst.1
    (fun args => { tmps := #[.int .i64 v, .int .i64 n, undef, undef, .pointer (some ⟨w.heap.size, 0, none⟩), .pointer (some ⟨w.heap.size + 1, 0, none⟩), .pointer (some ⟨w.heap.size + 1 + 1, 0, none⟩), args.getD 0 undef, .bool false, .int .i64 v, .bool false, .bool false, .int .i64 v, .bool false, .bool false, .bool false, .int .i64 n, .bool false, .bool false, .int .i64 n, .bool false, .bool false, .int .i64 v, .int .i64 n,
      .func (.func 129) #[] #[.pointer (some ⟨w.heap.size + 1 + 1 + 1, 0, none⟩), .pointer (some ⟨w.heap.size + 1 + 1 + 1 + 1, 0, none⟩)], args.getD 0 undef, undef, undef, undef, undef, undef, undef, undef, undef, undef], defers := [] }) ?assign ?body ?done ?stop
  case assign =>
    rintro m l x args B W K ⟨rfl, -⟩ hK
    gi_wp2
    exact hK
  case body =>
    rintro m l pre x args W hi ⟨rfl, ⟨hl, b, rfl, hb, hs⟩, cs, hr, hcs, hc⟩ hwz
    rw [hsz] at hr hwz ⊢
    have hwz2 := hr.lt
    clear hst HW hsz
    obtain ⟨hbl, r0, r1, ⟨ov, vs, ro, hvo, htl⟩, hfew, hrv⟩ := hi
    have hcd : IS W (.slice (some ⟨w.heap.size + 5 + 2 + 2, 0, none⟩) b.code.length 63) b.code :=
      ⟨_, 63, rfl, hl, by omega, fun _ => ⟨_, 0, rfl, hr.lt, fun i y hi => by rw [hr.cell, Nat.zero_add]; exact hc i y hi⟩⟩
    have hlen : vs.length = pre.length := by rw [htl.1, List.length_map]
    obtain ⟨A, c, rfl⟩ := hvo.form
    obtain ⟨k, hk⟩ : ∃ k, k = vs.length := ⟨_, rfl⟩
    rw [← hk] at hlen ro hvo
    have z0 := r0.lt
    have c2 : W.cell? ⟨w.heap.size + 1 + 1, 0, none⟩ = some (.slice A k c) := ro.cell 0
    have f2 : W.frozen? ⟨w.heap.size + 1 + 1, 0, none⟩ = false := ro.free 0
    have c0 : W.cell? ⟨w.heap.size, 0, none⟩ = some (.slice none 0 0) := r0.cell 0
    have f0 : W.frozen? ⟨w.heap.size, 0, none⟩ = false := r0.free 0
    have c1 : W.cell? ⟨w.heap.size + 1, 0, none⟩ = some (.int .i64 0) := r1.cell 0
    have f1 : W.frozen? ⟨w.heap.size + 1, 0, none⟩ = false := r1.free 0
    have R0 := Lib.hid r0; have R1 := Lib.hid r1; have RO := Lib.hid ro; have RV := Lib.hid hrv; have HVO := Lib.hid hvo; have HTL := Lib.hid htl; have HB := Lib.hid hbl
    have HLEN := Lib.hid hlen; have HK := Lib.hid hk; have HCD := Lib.hid hcd
    clear r0 r1 ro hrv hvo htl hbl hcd hk hr hc hcs
    by_cases hfull : k = 4096
    · have hk2 : ((k : Int) == 4096) = true := by rw [hfull]; rfl
      have HF := Lib.hid hfull
      clear hlen hfull
      gi_wp2
      refine ⟨(keep_far (by show w.heap.size < w.heap.size + 5; omega) (fun b hb => by show b ≠ w.heap.size; omega) _).trans (keep_far (by show w.heap.size + 1 < w.heap.size + 5; omega) (fun b hb => by show b ≠ w.heap.size + 1; omega) _), rfl, ?_⟩
      exact ⟨(HB.out.setCell (Nat.le_refl _) _).setCell (by simp) _, (R0.out.set 0 _).far (by simp) _, (R1.out.far (by simp) _).set 0 _, by rw [List.length_append, List.length_singleton, ← HLEN.out, HF.out]; omega⟩
    · have hk2 : ((k : Int) == 4096) = false := by rw [beq_eq_false_iff_ne]; omega
      have HF := Lib.hid hfull
      clear hlen hfull
      gi_wp2_with fail
      refine wpIn_region_any (by kernel_rfl) ?_
      try (change wpAnyIn _ _ _ _ _ _ _ _ _ (World.drew _))
      refine wpAnyIn_ready (rs := [0, 1]) (by kernel_rfl) (by simp) ?_
      refine AllReadyIn.cons rfl (fun K hK => ?_) (AllReadyIn.cons rfl (fun K hK => ?_) AllReadyIn.nil)
      · go_simp
        refine hK _ _ ?_
        clear hK K
        refine wpAnyIn_ready (rs := [1]) (by kernel_rfl) (by simp) ?_
        refine AllReadyIn.cons rfl (fun K hK => ?_) AllReadyIn.nil
        go_simp
        refine hK _ _ ?_
        clear hK K
        refine wpAnyIn_ready (rs := [2]) (by kernel_rfl) (by simp) ?_
        refine AllReadyIn.cons rfl (fun K hK => ?_) AllReadyIn.nil
        go_simp
        refine ⟨trivial, (fun h => by cases h), ?_⟩
        skip
        refine (CallsIn.inRound l (callsIn_wide.2 (decode_any b _ _ (HCD.out.below (B := W.heap.size) (by go_grown) (Nat.le_refl _)) hb (by omega)))).mono ?_
        rintro e Wd ⟨tv, rfl, hbd, htd⟩
        obtain ⟨At, ct, rfl⟩ := htd.ts.form
        have HBD := Lib.hid (show Below W.heap.size W Wd from ⟨hbd.os, hbd.tape, hbd.output, hbd.size, hbd.block⟩); have HTD := Lib.hid htd
        have d2 : Wd.cell? ⟨w.heap.size + 1 + 1, 0, none⟩ = some (.slice A k c) := (RO.out.below HBD.out RO.out.lt).cell 0
        have z2 : w.heap.size + 1 + 1 < Wd.heap.size := (RO.out.below HBD.out RO.out.lt).lt
        clear hbd htd
        try go_simp
        first | (refine hK _ _ ?_; clear hK K) | skip
        refine wpAnyIn_ready (rs := [3]) (by kernel_rfl) (by simp) ?_
        refine AllReadyIn.cons rfl (fun K hK => ?_) AllReadyIn.nil
        go_simp
        refine hK _ _ ?_
        clear hK K
        refine wpAnyIn_ready (rs := [4]) (by kernel_rfl) (by simp) ?_
        refine AllReadyIn.cons rfl (fun K hK => ?_) AllReadyIn.nil
        refine stepIn_append_vs elt_tree rfl (.tmp 29) (.tmp 32) rfl (w.heap.size + 10) (.slice A k c) vs rfl (HVO.out.below (B' := W.heap.size) (by have h1 := HBD.out; have h2 := h1.size; go_grown) (Nat.le_refl _)) _ [.slice At (b.enc 0).length ct] rfl (VS.lit1 (by first | exact Row.new _ _ _ | exact Row.lit rfl)) (by intro u hu; simp only [List.mem_singleton] at hu; subst hu; rfl) (by rw [← HK.out, HLEN.out]; simp only [List.length_singleton]; omega) (by have h1 := HBD.out.size; simp only [World.size_alloc]; omega) ?_
        intro v3 w3 ho3 hg3 _
        have HAP := Lib.hid (alt_app HB.out R0.out R1.out RO.out RV.out HVO.out HTL.out (by have h1 := HBD.out; have h2 := h1.size; go_grown) ((HTD.out.mono (by simp only [World.size_drew]; exact hwz2)).below (B' := Wd.heap.size) (by go_grown) (Nat.le_refl _)) ho3 hg3 hwz2)
        obtain ⟨A3, c3, hv3⟩ := ho3.form
        rw [List.length_append, List.length_singleton] at hv3
        subst hv3
        have e2 : w3.cell? ⟨w.heap.size + 1 + 1, 0, none⟩ = some (.slice A k c) := HAP.out.1.cell 0
        have g2 : w3.frozen? ⟨w.heap.size + 1 + 1, 0, none⟩ = false := HAP.out.1.free 0
        clear ho3 hg3
        refine hK _ _ ?_
        clear hK K
        refine wpAnyIn_ready (rs := [5]) (by kernel_rfl) (by simp) ?_
        refine AllReadyIn.cons rfl (fun K hK => ?_) AllReadyIn.nil
        go_simp
        refine hK _ _ ?_
        clear hK K
        refine wpAnyIn_done (by kernel_rfl) ?_ _
        gi_wp2
        exact ⟨HAP.out.2.1, HAP.out.2.2 _ (by have h1 := HF.out; have h2 := HLEN.out; rw [List.length_append, List.length_singleton]; omega) (treeOfCode_map hb.pos)⟩
      · go_simp
        refine hK _ _ ?_
        clear hK K
        refine wpAnyIn_ready (rs := [0, 2]) (by kernel_rfl) (by simp) ?_
        refine AllReadyIn.cons rfl (fun K hK => ?_) (AllReadyIn.cons rfl (fun K hK => ?_) AllReadyIn.nil)
        · go_simp
          refine hK _ _ ?_
          clear hK K
          refine wpAnyIn_ready (rs := [2]) (by kernel_rfl) (by simp) ?_
          refine AllReadyIn.cons rfl (fun K hK => ?_) AllReadyIn.nil
          go_simp
          refine ⟨trivial, (fun h => by cases h), ?_⟩
          skip
          refine (CallsIn.inRound l (callsIn_wide.2 (decode_any b _ _ (HCD.out.below (B := W.heap.size) (by go_grown) (Nat.le_refl _)) hb (by omega)))).mono ?_
          rintro e Wd ⟨tv, rfl, hbd, htd⟩
          obtain ⟨At, ct, rfl⟩ := htd.ts.form
          have HBD := Lib.hid (show Below W.heap.size W Wd from ⟨hbd.os, hbd.tape, hbd.output, hbd.size, hbd.block⟩); have HTD := Lib.hid htd
          have d2 : Wd.cell? ⟨w.heap.size + 1 + 1, 0, none⟩ = some (.slice A k c) := (RO.out.below HBD.out RO.out.lt).cell 0
          have z2 : w.heap.size + 1 + 1 < Wd.heap.size := (RO.out.below HBD.out RO.out.lt).lt
          clear hbd htd
          try go_simp
          first | (refine hK _ _ ?_; clear hK K) | skip
          refine wpAnyIn_ready (rs := [3]) (by kernel_rfl) (by simp) ?_
          refine AllReadyIn.cons rfl (fun K hK => ?_) AllReadyIn.nil
          go_simp
          refine hK _ _ ?_
          clear hK K
          refine wpAnyIn_ready (rs := [4]) (by kernel_rfl) (by simp) ?_
          refine AllReadyIn.cons rfl (fun K hK => ?_) AllReadyIn.nil
          refine stepIn_append_vs elt_tree rfl (.tmp 29) (.tmp 32) rfl (w.heap.size + 10) (.slice A k c) vs rfl (HVO.out.below (B' := W.heap.size) (by have h1 := HBD.out; have h2 := h1.size; go_grown) (Nat.le_refl _)) _ [.slice At (b.enc 0).length ct] rfl (VS.lit1 (by first | exact Row.new _ _ _ | exact Row.lit rfl)) (by intro u hu; simp only [List.mem_singleton] at hu; subst hu; rfl) (by rw [← HK.out, HLEN.out]; simp only [List.length_singleton]; omega) (by have h1 := HBD.out.size; simp only [World.size_alloc]; omega) ?_
          intro v3 w3 ho3 hg3 _
          have HAP := Lib.hid (alt_app HB.out R0.out R1.out RO.out RV.out HVO.out HTL.out (by have h1 := HBD.out; have h2 := h1.size; go_grown) ((HTD.out.mono (by simp only [World.size_drew]; exact hwz2)).below (B' := Wd.heap.size) (by go_grown) (Nat.le_refl _)) ho3 hg3 hwz2)
          obtain ⟨A3, c3, hv3⟩ := ho3.form
          rw [List.length_append, List.length_singleton] at hv3
          subst hv3
          have e2 : w3.cell? ⟨w.heap.size + 1 + 1, 0, none⟩ = some (.slice A k c) := HAP.out.1.cell 0
          have g2 : w3.frozen? ⟨w.heap.size + 1 + 1, 0, none⟩ = false := HAP.out.1.free 0
          clear ho3 hg3
          refine hK _ _ ?_
          clear hK K
          refine wpAnyIn_ready (rs := [5]) (by kernel_rfl) (by simp) ?_
          refine AllReadyIn.cons rfl (fun K hK => ?_) AllReadyIn.nil
          go_simp
          refine hK _ _ ?_
          clear hK K
          refine wpAnyIn_done (by kernel_rfl) ?_ _
          gi_wp2
          exact ⟨HAP.out.2.1, HAP.out.2.2 _ (by have h1 := HF.out; have h2 := HLEN.out; rw [List.length_append, List.length_singleton]; omega) (treeOfCode_map hb.pos)⟩
        · go_simp
          refine ⟨trivial, (fun h => by cases h), ?_⟩
          skip
          refine (CallsIn.inRound l (callsIn_wide.2 (decode_any b _ _ (HCD.out.below (B := W.heap.size) (by go_grown) (Nat.le_refl _)) hb (by omega)))).mono ?_
          rintro e Wd ⟨tv, rfl, hbd, htd⟩
          obtain ⟨At, ct, rfl⟩ := htd.ts.form
          have HBD := Lib.hid (show Below W.heap.size W Wd from ⟨hbd.os, hbd.tape, hbd.output, hbd.size, hbd.block⟩); have HTD := Lib.hid htd
          have d2 : Wd.cell? ⟨w.heap.size + 1 + 1, 0, none⟩ = some (.slice A k c) := (RO.out.below HBD.out RO.out.lt).cell 0
          have z2 : w.heap.size + 1 + 1 < Wd.heap.size := (RO.out.below HBD.out RO.out.lt).lt
          clear hbd htd
          try go_simp
          first | (refine hK _ _ ?_; clear hK K) | skip
          refine wpAnyIn_ready (rs := [0, 3]) (by kernel_rfl) (by simp) ?_
          refine AllReadyIn.cons rfl (fun K hK => ?_) (AllReadyIn.cons rfl (fun K hK => ?_) AllReadyIn.nil)
          · go_simp
            refine hK _ _ ?_
            clear hK K
            refine wpAnyIn_ready (rs := [3]) (by kernel_rfl) (by simp) ?_
            refine AllReadyIn.cons rfl (fun K hK => ?_) AllReadyIn.nil
            go_simp
            refine hK _ _ ?_
            clear hK K
            refine wpAnyIn_ready (rs := [4]) (by kernel_rfl) (by simp) ?_
            refine AllReadyIn.cons rfl (fun K hK => ?_) AllReadyIn.nil
            refine stepIn_append_vs elt_tree rfl (.tmp 29) (.tmp 32) rfl (w.heap.size + 10) (.slice A k c) vs rfl (HVO.out.below (B' := W.heap.size) (by have h1 := HBD.out; have h2 := h1.size; go_grown) (Nat.le_refl _)) _ [.slice At (b.enc 0).length ct] rfl (VS.lit1 (by first | exact Row.new _ _ _ | exact Row.lit rfl)) (by intro u hu; simp only [List.mem_singleton] at hu; subst hu; rfl) (by rw [← HK.out, HLEN.out]; simp only [List.length_singleton]; omega) (by have h1 := HBD.out.size; simp only [World.size_alloc]; omega) ?_
            intro v3 w3 ho3 hg3 _
            have HAP := Lib.hid (alt_app HB.out R0.out R1.out RO.out RV.out HVO.out HTL.out (by have h1 := HBD.out; have h2 := h1.size; go_grown) ((HTD.out.mono (by simp only [World.size_drew]; exact hwz2)).below (B' := Wd.heap.size) (by go_grown) (Nat.le_refl _)) ho3 hg3 hwz2)
            obtain ⟨A3, c3, hv3⟩ := ho3.form
            rw [List.length_append, List.length_singleton] at hv3
            subst hv3
            have e2 : w3.cell? ⟨w.heap.size + 1 + 1, 0, none⟩ = some (.slice A k c) := HAP.out.1.cell 0
            have g2 : w3.frozen? ⟨w.heap.size + 1 + 1, 0, none⟩ = false := HAP.out.1.free 0
            clear ho3 hg3
            refine hK _ _ ?_
            clear hK K
            refine wpAnyIn_ready (rs := [5]) (by kernel_rfl) (by simp) ?_
            refine AllReadyIn.cons rfl (fun K hK => ?_) AllReadyIn.nil
            go_simp
            refine hK _ _ ?_
            clear hK K
            refine wpAnyIn_done (by kernel_rfl) ?_ _
            gi_wp2
            exact ⟨HAP.out.2.1, HAP.out.2.2 _ (by have h1 := HF.out; have h2 := HLEN.out; rw [List.length_append, List.length_singleton]; omega) (treeOfCode_map hb.pos)⟩
          · go_simp
            refine hK _ _ ?_
            clear hK K
            refine wpAnyIn_ready (rs := [0]) (by kernel_rfl) (by simp) ?_
            refine AllReadyIn.cons rfl (fun K hK => ?_) AllReadyIn.nil
            go_simp
            refine hK _ _ ?_
            clear hK K
            refine wpAnyIn_ready (rs := [4]) (by kernel_rfl) (by simp) ?_
            refine AllReadyIn.cons rfl (fun K hK => ?_) AllReadyIn.nil
            refine stepIn_append_vs elt_tree rfl (.tmp 29) (.tmp 32) rfl (w.heap.size + 10) (.slice A k c) vs rfl (HVO.out.below (B' := W.heap.size) (by have h1 := HBD.out; have h2 := h1.size; go_grown) (Nat.le_refl _)) _ [.slice At (b.enc 0).length ct] rfl (VS.lit1 (by first | exact Row.new _ _ _ | exact Row.lit rfl)) (by intro u hu; simp only [List.mem_singleton] at hu; subst hu; rfl) (by rw [← HK.out, HLEN.out]; simp only [List.length_singleton]; omega) (by have h1 := HBD.out.size; simp only [World.size_alloc]; omega) ?_
            intro v3 w3 ho3 hg3 _
            have HAP := Lib.hid (alt_app HB.out R0.out R1.out RO.out RV.out HVO.out HTL.out (by have h1 := HBD.out; have h2 := h1.size; go_grown) ((HTD.out.mono (by simp only [World.size_drew]; exact hwz2)).below (B' := Wd.heap.size) (by go_grown) (Nat.le_refl _)) ho3 hg3 hwz2)
            obtain ⟨A3, c3, hv3⟩ := ho3.form
            rw [List.length_append, List.length_singleton] at hv3
            subst hv3
            have e2 : w3.cell? ⟨w.heap.size + 1 + 1, 0, none⟩ = some (.slice A k c) := HAP.out.1.cell 0
            have g2 : w3.frozen? ⟨w.heap.size + 1 + 1, 0, none⟩ = false := HAP.out.1.free 0
            clear ho3 hg3
            refine hK _ _ ?_
            clear hK K
            refine wpAnyIn_ready (rs := [5]) (by kernel_rfl) (by simp) ?_
            refine AllReadyIn.cons rfl (fun K hK => ?_) AllReadyIn.nil
            go_simp
            refine hK _ _ ?_
            clear hK K
            refine wpAnyIn_done (by kernel_rfl) ?_ _
            gi_wp2
            exact ⟨HAP.out.2.1, HAP.out.2.2 _ (by have h1 := HF.out; have h2 := HLEN.out; rw [List.length_append, List.length_singleton]; omega) (treeOfCode_map hb.pos)⟩
  case done =>
    rintro xs W rfl ⟨hbl, r0, r1, ⟨ov, vs, ro, hvo, htl⟩, hfew, hrv⟩ hK
    have HSZ := Lib.hid hsz
    clear hst HW hsz
    obtain ⟨A, c, rfl⟩ := hvo.form
    obtain ⟨k, hk⟩ : ∃ k, k = vs.length := ⟨_, rfl⟩
    rw [← hk] at ro hvo
    have z0 := r0.lt
    have c2 : W.cell? ⟨w.heap.size + 1 + 1, 0, none⟩ = some (.slice A k c) := ro.cell 0
    have c0 : W.cell? ⟨w.heap.size, 0, none⟩ = some (.slice none 0 0) := r0.cell 0
    have f0 : W.frozen? ⟨w.heap.size, 0, none⟩ = false := r0.free 0
    have c1 : W.cell? ⟨w.heap.size + 1, 0, none⟩ = some (.int .i64 0) := r1.cell 0
    have f1 : W.frozen? ⟨w.heap.size + 1, 0, none⟩ = false := r1.free 0
    have R0 := Lib.hid r0; have R1 := Lib.hid r1; have HVO := Lib.hid hvo; have HTL := Lib.hid htl; have HB := Lib.hid hbl; have HKK := Lib.hid hK; have HFW := Lib.hid hfew
    clear r0 r1 ro hrv hvo htl hbl hk hK hfew
    gi_wp2
    refine ⟨by simp, .inl ⟨_, _, rfl, run_takeDeferred (all_mark HSZ.out HKK.out), ?_⟩⟩
    have hfin := all_fin HB.out R0.out R1.out HVO.out HTL.out HSZ.out
    exact ⟨_, results_all _ _ w.heap.size _ _ rfl rfl hfin.1 hfin.2.1, all_good hv hn HR.out HFW.out hfin.2.2⟩
  case stop =>
    rintro cd pre W hpre ⟨rfl, hbl, r0, r1, hmany⟩ hK
    have HSZ := Lib.hid hsz
    have z0 := r0.lt
    have R0 := Lib.hid r0; have R1 := Lib.hid r1; have HB := Lib.hid hbl; have HKK := Lib.hid hK
    have HM := Lib.hid hmany; have HP := Lib.hid hpre
    clear hst HW hsz r0 r1 hbl hK hmany hpre
    gi_wp2
    refine ⟨by simp, .inl ⟨_, _, rfl, run_takeDeferred HKK.out, ?_⟩⟩
    have hfin := all_stop HB.out R0.out R1.out HSZ.out
    exact ⟨_, results_all _ _ w.heap.size _ _ rfl rfl hfin.1 hfin.2.1, all_bad hv hn HR.out HM.out HP.out hfin.2.2⟩
end

theorem results_all2 {w : World} {R : List (List Lf) × Int} {e : Int} (hR : R = ([], e)) : AllE w R (.returned (.tuple #[.slice none 0 0, .int .i64 e])) ((w.alloc (.cells #[.slice none 0 0] 67)).alloc (.cells #[.int .i64 e] 28)) := by
  rw [hR]
  exact ⟨_, [], rfl, ((Below.refl _ w).alloc (Nat.le_refl _) _).alloc (by simp) _, VO.nil _ _ _, TL.nil _ _⟩
set_option maxRecDepth 100000 in
set_option maxHeartbeats 1000000 in
theorem All_any (v n : Int) (w : World) : Calls Tryz.prog 48 #[.int .i64 v, .int .i64 n] w (AllE w (allS v n)) := by
  obtain ⟨R, hR⟩ : ∃ R, R = allS v n := ⟨_, rfl⟩
  rw [← hR]
  by_cases h1 : v < 0
  · have HR := Lib.hid (show R = ([], 7) by rw [hR]; unfold allS; rw [if_pos (.inl h1)])
    have b1 : decide (v < 0) = true := by simp [h1]
    clear hR
    go_enter Tryz.func48, Tryz.ntmps48
    go_wp2
    exact bodyPost_ret (results_all _ _ w.heap.size _ _ rfl rfl (by simp [go_sem]) (by simp [go_sem])) rfl (results_all2 HR.out)
  by_cases h2 : 3 < v
  · have HR := Lib.hid (show R = ([], 7) by rw [hR]; unfold allS; rw [if_pos (.inr h2)])
    have b1 : decide (v < 0) = false := by simp; omega
    have b2 : decide (3 < v) = true := by simp [h2]
    clear hR h1
    go_enter Tryz.func48, Tryz.ntmps48
    go_wp2
    exact bodyPost_ret (results_all _ _ w.heap.size _ _ rfl rfl (by simp [go_sem]) (by simp [go_sem])) rfl (results_all2 HR.out)
  by_cases h3 : n < 0
  · have HR := Lib.hid (show R = ([], 1) by rw [hR]; unfold allS; rw [if_neg (by omega), if_pos (.inl h3)])
    have b1 : decide (v < 0) = false := by simp; omega
    have b2 : decide (3 < v) = false := by simp; omega
    have b3 : decide (n < 0) = true := by simp [h3]
    clear hR h1 h2
    go_enter Tryz.func48, Tryz.ntmps48
    go_wp2
    exact bodyPost_ret (results_all _ _ w.heap.size _ _ rfl rfl (by simp [go_sem]) (by simp [go_sem])) rfl (results_all2 HR.out)
  by_cases h4 : 31 < n
  · have HR := Lib.hid (show R = ([], 1) by rw [hR]; unfold allS; rw [if_neg (by omega), if_pos (.inr h4)])
    have b1 : decide (v < 0) = false := by simp; omega
    have b2 : decide (3 < v) = false := by simp; omega
    have b3 : decide (n < 0) = false := by simp; omega
    have b4 : decide (31 < n) = true := by simp [h4]
    clear hR h1 h2 h3
    go_enter Tryz.func48, Tryz.ntmps48
    go_wp2
    exact bodyPost_ret (results_all _ _ w.heap.size _ _ rfl rfl (by simp [go_sem]) (by simp [go_sem])) rfl (results_all2 HR.out)
  rw [hR]
  have := All_in v.toNat n.toNat (by omega) (by omega) w
  rw [Int.toNat_of_nonneg (by omega), Int.toNat_of_nonneg (by omega)] at this
  exact this
/-- Slices of trees that can be read. -/
def AR (W : World) (ov : Value) (vs : List Value) (L : List (List Lf)) : Prop := VS W ov vs ∧ vs.length = L.length ∧ ∀ (i : Nat) (v : Value) (x : List Lf), vs[i]? = some v → L[i]? = some x → TS W v x
theorem AR.to {W X : World} {ov : Value} {vs : List Value} {L : List (List Lf)} (h : AR W ov vs L) (hb : Below W.heap.size W X) : AR X ov vs L :=
  ⟨h.1.below hb (Nat.le_refl _), h.2.1, fun i v x h1 h2 => TS.below (h.2.2 i v x h1 h2) hb (Nat.le_refl _)⟩
theorem AR.of {w W : World} {x : List (List Lf) × Int} {e : Ending} (h : AllE w x e W) (n : Nat) (hn : x.1.length = n) : ∃ A c vs, e = .returned (.tuple #[.slice A n c, .int .i64 x.2]) ∧ Below w.heap.size w W ∧ AR W (.slice A n c) vs x.1 := by
  obtain ⟨ov, vs, he, hb, hv, ht⟩ := h
  obtain ⟨A, c, rfl⟩ := hv.form
  rw [show vs.length = n from ht.1.trans hn] at he hv
  refine ⟨A, c, vs, he, hb, hv.vs, ht.1, fun i v y h1 h2 => ?_⟩
  obtain ⟨t, h3, h4⟩ := ht.2 i v h1
  rw [h3] at h2
  cases h2
  exact h4.ts
/-- The element at a place. -/
theorem AR.at {W : World} {A : Option Addr} {n c k : Nat} {vs : List Value} {L : List (List Lf)} {x : List Lf} (h : AR W (.slice A n c) vs L) (hx : L[k]? = some x) :
    ∃ A1 c1, vs[k]? = some (.slice A1 x.length c1) := by
  have hk : k < vs.length := by rw [h.2.1]; exact (List.getElem?_eq_some_iff.1 hx).1
  have := h.2.2 k _ x (List.getElem?_eq_getElem hk) hx
  obtain ⟨A1, c1, e⟩ := this.form
  exact ⟨A1, c1, by rw [List.getElem?_eq_getElem hk, e]⟩
theorem AR.cell {W : World} {b o n c k : Nat} {vs : List Value} {L : List (List Lf)} {v : Value} (h : AR W (.slice (some ⟨b, o, none⟩) n c) vs L) (hx : vs[k]? = some v) : W.cell? ⟨b, o + k, none⟩ = some v := h.1.at hx
theorem AR.addr {W : World} {A : Option Addr} {n c k : Nat} {vs : List Value} {L : List (List Lf)} {v : Value} (h : AR W (.slice A n c) vs L) (hx : vs[k]? = some v) : ∃ b o, A = some ⟨b, o, none⟩ ∧ b < W.heap.size :=
  h.1.addr (by have := (List.getElem?_eq_some_iff.1 hx).1; omega)
end Go.Proofs.YthkfjnmnoanhlaaGreatDoor

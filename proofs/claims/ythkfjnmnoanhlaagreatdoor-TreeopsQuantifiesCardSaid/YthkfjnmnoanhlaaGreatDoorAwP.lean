/- The chapter's examples, evaluated. Plain functions, no program in sight. -/
/- Contracts: the chapter's two literal automata. -/
/- What the laws of chapter 20 share: automata in boxes, what sub and awake return. -/
/- Plain law: quantifying twice, and over two variables. No program in sight. -/
import Derived.Test.YthkfjnmnoanhlaaGreatDoorPrd
import Derived.Test.YthkfjnmnoanhlaaGreatDoorExt
import Derived.Test.YthkfjnmnoanhlaaGreatDoorDtP
set_option linter.unusedSimpArgs false
set_option linter.unusedVariables false
namespace Go.Proofs.YthkfjnmnoanhlaaGreatDoor
open Go.RowKit

def someD : Dta := ⟨2, 0, 2, fun l r x => if l = 0 ∧ r = 0 ∧ x = 0 then 0 else 1, fun s => s == 1⟩
def slimD : Dta := ⟨3, 0, 2, fun l r _ => match l, r with
  | 0, 0 => 1
  | 0, 1 => 1
  | 0, _ => 2
  | 1, 0 => 1
  | _, _ => 2, fun s => decide (s < 2)⟩
theorem someD_fit : someD.Fit 1 := ⟨⟨by decide, fun l r x hl hr hx => by show (if _ then 0 else 1) < 2; split <;> omega⟩, by decide, by omega, rfl⟩
theorem slimD_fit : slimD.Fit 1 := ⟨⟨by decide, fun l r x hl hr hx => by
  have h1 : l = 0 ∨ l = 1 ∨ l = 2 := by have : l < 3 := hl; omega
  have h2 : r = 0 ∨ r = 1 ∨ r = 2 := by have : r < 3 := hr; omega
  rcases h1 with rfl | rfl | rfl <;> rcases h2 with rfl | rfl | rfl <;> first | exact (by decide : 1 < 3) | exact (by decide : 2 < 3)⟩, by decide, by omega, rfl⟩
theorem some_raw : someD.raw 1 = ⟨1, 0, [[[0, 1], [1, 1]], [[1, 1], [1, 1]]], [false, true]⟩ := by kernel_rfl
theorem slim_raw : slimD.raw 1 = ⟨1, 0, [[[1, 1], [1, 1], [2, 2]], [[1, 1], [2, 2], [2, 2]], [[2, 2], [2, 2], [2, 2]]], [true, true, false]⟩ := by kernel_rfl
instance lbDec (L : Nat) : (t : Bt) → Decidable (t.lb L)
  | .nil => isTrue trivial
  | .node a l r => by
    haveI := lbDec L l
    haveI := lbDec L r
    show Decidable ((_ ∧ _) ∧ _ ∧ _)
    infer_instance
/-- No tree of these sizes is in the language, and T is the least of its size. -/
def leastT (L : Nat) (S : Bt → Bool) (T : Bt) : Bool := S T && decide (T.size ≤ 31) && (List.range T.size).all (fun n => (tsF L (n + 1) n).all fun u => !S u) && (tsF L (T.size + 1) T.size).all fun u => !S u || decide (cmpL T.code u.code ≤ 0)
theorem small_of {d : Dta} (h : d.OK) {S : Bt → Bool} (hS : ∀ t : Bt, t.lb d.L → d.fin (d.run t) = S t) (T : Bt) (hT : T.lb d.L) (hl : leastT d.L S T = true) : smallO d = (T.enc 0, true, 0) := by
  unfold leastT at hl
  simp only [Bool.and_eq_true, decide_eq_true_eq] at hl
  obtain ⟨⟨⟨h1, h31⟩, h2⟩, h3⟩ := hl
  have he : emptyS d = false := by
    cases e : emptyS d with
    | false => rfl
    | true => have := (empty_iff h).1 e T hT; rw [hS T hT, h1] at this; cases this
  have hm := Dta.mini_is h rfl hS
  have hno : ∀ u : Bt, u.lb d.L → S u = true → T.size < u.size ∨ T.size = u.size ∧ leB T u := by
    intro u hu hs
    rcases Nat.lt_trichotomy u.size T.size with hlt | heq | hgt
    · have h4 := List.all_eq_true.1 h2 u.size (List.mem_range.2 hlt)
      have h5 := List.all_eq_true.1 h4 u ((mem_tsF d.L (u.size + 1) u.size (by omega) u).2 ⟨rfl, hu⟩)
      rw [hs] at h5; cases h5
    · right
      have h5 := List.all_eq_true.1 h3 u ((mem_tsF d.L (T.size + 1) T.size (by omega) u).2 ⟨heq, hu⟩)
      rw [hs] at h5
      simp at h5
      exact ⟨heq.symm, h5⟩
    · exact .inl hgt
  unfold smallO
  rw [he]
  have key : smallS d.mini = some T := by
    cases e : smallS d.mini with
    | none =>
      have := small_none hm.can.ok e T (by rw [hm.hL]; exact hT) (by rw [hm.lang T hT]; exact h1)
      omega
    | some t =>
      obtain ⟨k1, k2, k3, k4⟩ := small_some hm.can.ok e
      rw [hm.hL] at k2
      have hst : S t = true := by rw [← hm.lang t k2]; exact k3
      have a := hno t k2 hst
      have b := k4 T (by rw [hm.hL]; exact hT) (by rw [hm.lang T hT]; exact h1)
      have hsz : T.size = t.size := by omega
      have h5 : leB T t := by rcases a with a | a; omega; exact a.2
      have h6 : leB t T := by rcases b with b | b; omega; exact b.2
      unfold leB at h5 h6
      have h7 := cmpL_swap T.code t.code
      have h8 : cmpL t.code T.code = 0 := by omega
      have h9 := (cmpL_zero _ _).1 h8
      have hp1 : t.pos := Bt.lt.pos (lb_lt.1 k2)
      have hp2 : T.pos := Bt.lt.pos (lb_lt.1 hT)
      have := code_inj t T [] [] hp1 hp2 (by rw [h9])
      rw [this.1]
  rw [key]
  rfl
theorem small_empty {d : Dta} (h : d.OK) (hS : ∀ t : Bt, t.lb d.L → d.fin (d.run t) = false) : smallO d = ([], false, 0) := by
  unfold smallO
  rw [(empty_iff h).2 hS]; rfl
def accS (d : Dta) (t : Bt) : Bool := d.fin (d.run t)
theorem notM_fit {d : Dta} {V : Nat} (h : d.Fit V) : d.notM.Fit V := ⟨(Dta.notM_is h.ok).can.ok, Nat.le_trans (Dta.mini_n (Dta.neg_ok h.ok)) h.n64, h.v3, (Dta.notM_is h.ok).hL.trans h.L⟩
theorem notM_n {d : Dta} (h : d.OK) : d.notM.n ≤ d.n := Dta.mini_n (Dta.neg_ok h)
theorem ev1 : smallO someD = ([⟨1, -1, -1⟩], true, 0) := small_of someD_fit.ok (S := accS someD) (fun _ _ => rfl) (.node 1 .nil .nil) (by decide) (by decide +kernel)
theorem ev2 : smallO slimD = ([], true, 0) := small_of slimD_fit.ok (S := accS slimD) (fun _ _ => rfl) .nil (by decide) (by decide +kernel)
theorem ev3 : smallO slimD.notM = ([⟨0, 1, 2⟩, ⟨0, -1, -1⟩, ⟨0, -1, -1⟩], true, 0) :=
  small_of (notM_fit slimD_fit).ok (S := fun t => !accS slimD t) (fun t ht => (Dta.notM_is slimD_fit.ok).lang t (by rw [(Dta.notM_is slimD_fit.ok).hL] at ht; exact ht)) (.node 0 (.node 0 .nil .nil) (.node 0 .nil .nil)) (by rw [(Dta.notM_is slimD_fit.ok).hL]; decide) (by rw [(Dta.notM_is slimD_fit.ok).hL]; decide +kernel)
theorem ev4 : (prodO someD someD.notM).length ≤ 64 := by
  have h := prodO_len someD_fit.ok (notM_fit someD_fit).ok (Dta.notM_is someD_fit.ok).hL.symm
  have h2 := notM_n someD_fit.ok
  have h3 : someD.n * someD.notM.n ≤ 2 * 2 := Nat.mul_le_mul (Nat.le_refl _) h2
  omega
theorem ev5 : smallO (prodM someD someD.notM fun p q => p && q) = ([], false, 0) := by
  have hL := (Dta.notM_is someD_fit.ok).hL
  have h := prodM_is someD_fit.ok (notM_fit someD_fit).ok hL.symm (fun p q => p && q)
  refine small_empty h.can.ok fun t ht => ?_
  rw [h.hL] at ht
  rw [h.lang t ht, (Dta.notM_is someD_fit.ok).lang t ht]
  simp
theorem ev6 : (prodO someD slimD).length ≤ 6 := prodO_len someD_fit.ok slimD_fit.ok rfl
theorem both_fit : (prodM someD slimD fun p q => p && q).Fit 1 := prodM_fit someD_fit slimD_fit _ (by have := ev6; omega)
theorem ev7 : inclO (prodM someD slimD fun p q => p && q) slimD = ([], true, 0) := by
  have hb := prodM_is someD_fit.ok slimD_fit.ok rfl (fun p q => p && q)
  have hn := prodM_n someD_fit.ok slimD_fit.ok rfl (fun p q => p && q)
  have hl := prodO_len both_fit.ok slimD_fit.ok hb.hL
  have hl6 := ev6
  have h3 : (prodM someD slimD fun p q => p && q).n * slimD.n ≤ 6 * 3 := Nat.mul_le_mul (by omega) (Nat.le_refl _)
  have h := prodM_is both_fit.ok slimD_fit.ok hb.hL (fun p q => p && !q)
  have he : smallO (prodM (prodM someD slimD fun p q => p && q) slimD fun p q => p && !q) = ([], false, 0) := by
    refine small_empty h.can.ok fun t ht => ?_
    rw [h.hL] at ht
    rw [h.lang t ht]
    rw [hb.hL] at ht
    rw [hb.lang t ht]
    cases someD.fin (someD.run t) <;> cases slimD.fin (slimD.run t) <;> rfl
  unfold inclO
  rw [if_pos (by omega), he]; rfl
theorem ev8 : inclO someD slimD = ([⟨0, 1, 2⟩, ⟨0, -1, -1⟩, ⟨1, -1, -1⟩], false, 0) := by
  have h := prodM_is someD_fit.ok slimD_fit.ok rfl (fun p q => p && !q)
  have he : smallO (prodM someD slimD fun p q => p && !q) = ([⟨0, 1, 2⟩, ⟨0, -1, -1⟩, ⟨1, -1, -1⟩], true, 0) :=
    small_of h.can.ok (S := fun t => accS someD t && !accS slimD t) (fun t ht => h.lang t (by rw [h.hL] at ht; exact ht)) (.node 0 (.node 0 .nil .nil) (.node 1 .nil .nil)) (by rw [h.hL]; decide) (by rw [h.hL]; decide +kernel)
  unfold inclO
  rw [if_pos (by have := ev6; omega), he]; rfl
theorem ev9 : inclO slimD someD = ([], false, 0) := by
  have h := prodM_is slimD_fit.ok someD_fit.ok rfl (fun p q => p && !q)
  have he : smallO (prodM slimD someD fun p q => p && !q) = ([], true, 0) :=
    small_of h.can.ok (S := fun t => accS slimD t && !accS someD t) (fun t ht => h.lang t (by rw [h.hL] at ht; exact ht)) .nil (by rw [h.hL]; decide) (by rw [h.hL]; decide +kernel)
  unfold inclO
  rw [if_pos (by have := prodO_len slimD_fit.ok someD_fit.ok rfl; have : slimD.n * someD.n = 6 := rfl; omega), he]; rfl
theorem ev10 : (setO someD 0).length = 2 := by decide +kernel
/-- The automaton of the trees with a node. -/
def wantD : Dta := ⟨2, 0, 2, fun _ _ _ => 1, fun s => s == 1⟩
theorem wantD_canon : wantD.Canon := by
  refine ⟨⟨by decide, fun l r x _ _ _ => (by decide : 1 < 2)⟩, by decide +kernel, ?_⟩
  intro R hR s t hst
  obtain ⟨hs, ht⟩ := hR.lt s t hst
  have hf := hR.fin s t hst
  have h1 : s = 0 ∨ s = 1 := by have : s < 2 := hs; omega
  have h2 : t = 0 ∨ t = 1 := by have : t < 2 := ht; omega
  rcases h1 with rfl | rfl <;> rcases h2 with rfl | rfl
  · rfl
  · exact absurd hf (by decide)
  · exact absurd hf (by decide)
  · rfl
def wantR : Raw := ⟨1, 0, [[[1, 1], [1, 1]], [[1, 1], [1, 1]]], [false, true]⟩
theorem want_raw : wantD.raw 1 = wantR := by kernel_rfl
theorem ev11 : (existsM someD 0).raw 1 = wantR := by
  have hE := existsM_is someD_fit.ok (V := 1) (v := 0) rfl (by omega)
  have hW : wantD.Is 2 (fun t => wantD.fin (wantD.run t)) := ⟨wantD_canon, rfl, fun _ _ => rfl⟩
  have hs : (existsM someD 0).Same wantD := by
    refine Dta.canon_same hE.can wantD_canon hE.hL ?_
    intro t ht
    rw [hE.hL] at ht
    have hi := exists_iff someD_fit.ok (by decide) (V := 1) (v := 0) rfl (by omega) t ht
    rw [Bool.eq_iff_iff, hi]
    cases t with
    | nil =>
      constructor
      · rintro ⟨u, hu, hf⟩
        cases u with
        | nil => exact hf
        | node => exact absurd hu (by simp [VarV, VarT])
      · intro hf; exact absurd hf (by decide)
    | node a l r =>
      constructor
      · intro _; rfl
      · intro _
        have h1 : hiV 0 a.toNat = 1 := by
          have : a.toNat = 0 ∨ a.toNat = 1 := by have : a.toNat < 2 := ht.1.2; omega
          rcases this with h | h <;> rw [h] <;> decide
        refine ⟨.node (1 : Int) l r, varV_node.2 ⟨⟨.inr (by rw [h1]; rfl), by omega⟩, varV_self 0 l ht.2.1, varV_self 0 r ht.2.2⟩, ?_⟩
        show someD.fin (someD.nx _ _ 1) = true
        simp [someD]
  rw [hs.raw hE.can.ok hE.hL 1, want_raw]
theorem ev12 : accN someD 0 = 0 := by decide +kernel
theorem ev13 : accN someD 1 = 1 := by decide +kernel
theorem ev14 : accN someD 2 = 6 := by decide +kernel
theorem ev15 : accN slimD 3 = 32 := by decide +kernel
end Go.Proofs.YthkfjnmnoanhlaaGreatDoor

namespace Go.Proofs.YthkfjnmnoanhlaaGreatDoor
open Go.RowKit

theorem N1.row {w : World} {g n : Nat} {l : List Int} {cs : Array Value} (h : Row w g 3 cs) (hc : cs = (iL l).toArray) (hn : l.length = n) (hl : n ≤ 1000000) : N1 w (.slice (some ⟨g, 0, none⟩) n n) l := by
  subst hc
  have := VS.lit h (by rw [iL_len]; omega)
  rw [iL_len, hn] at this
  exact this
theorem NB.row {w : World} {g n : Nat} {l : List Bool} {cs : Array Value} (h : Row w g 4 cs) (hc : cs = (bL l).toArray) (hn : l.length = n) (hl : n ≤ 1000000) : NB w (.slice (some ⟨g, 0, none⟩) n n) l := by
  subst hc
  have := VS.lit h (by rw [bL_len]; omega)
  rw [bL_len, hn] at this
  exact this
theorem N2.row {w : World} {g n : Nat} {l : List (List Int)} {vs : List Value} (h : Row w g 53 vs.toArray) (hn : vs.length = n) (hl : n ≤ 1000000) (hv : vs.length = l.length) (he : ∀ (i : Nat) u, vs[i]? = some u → ∃ x, l[i]? = some x ∧ N1 w u x) : N2 w (.slice (some ⟨g, 0, none⟩) n n) l := by
  subst hn
  exact ⟨vs, VS.lit h hl, hv, he⟩
theorem N3.row {w : World} {g n : Nat} {l : List (List (List Int))} {vs : List Value} (h : Row w g 54 vs.toArray) (hn : vs.length = n) (hl : n ≤ 1000000) (hv : vs.length = l.length) (he : ∀ (i : Nat) u, vs[i]? = some u → ∃ x, l[i]? = some x ∧ N2 w u x) : N3 w (.slice (some ⟨g, 0, none⟩) n n) l := by
  subst hn
  exact ⟨vs, VS.lit h hl, hv, he⟩
theorem each_two {α : Type} {P : Value → α → Prop} {u v : Value} {x y : α} (h1 : P u x) (h2 : P v y) : ∀ (i : Nat) z, [u, v][i]? = some z → ∃ a, [x, y][i]? = some a ∧ P z a := by
  intro i z hz
  match i, hz with
  | 0, hz => simp at hz; subst hz; exact ⟨x, rfl, h1⟩
  | 1, hz => simp at hz; subst hz; exact ⟨y, rfl, h2⟩
  | i + 2, hz => simp at hz
theorem each_three {α : Type} {P : Value → α → Prop} {u v s : Value} {x y t : α} (h1 : P u x) (h2 : P v y) (h3 : P s t) : ∀ (i : Nat) z, [u, v, s][i]? = some z → ∃ a, [x, y, t][i]? = some a ∧ P z a := by
  intro i z hz
  match i, hz with
  | 0, hz => simp at hz; subst hz; exact ⟨x, rfl, h1⟩
  | 1, hz => simp at hz; subst hz; exact ⟨y, rfl, h2⟩
  | 2, hz => simp at hz; subst hz; exact ⟨t, rfl, h3⟩
  | i + 3, hz => simp at hz
set_option maxRecDepth 100000 in
set_option maxHeartbeats 4000000 in
theorem some_ok (w : World) : Calls Tryz.prog 38 #[] w fun e w' => ∃ g h, e = .returned (.agg #[.int .i64 1, .int .i64 0, .slice (some ⟨g, 0, none⟩) 2 2, .slice (some ⟨h, 0, none⟩) 2 2]) ∧ Below w.heap.size w w' ∧ TD w' (.agg #[.int .i64 1, .int .i64 0, .slice (some ⟨g, 0, none⟩) 2 2, .slice (some ⟨h, 0, none⟩) 2 2]) (someD.raw 1) := by
  rw [some_raw]
  go_enter Tryz.func38, Tryz.ntmps38
  go_wp2
  go_returns
  refine ⟨_, _, rfl, by go_grown, _, _, rfl, N3.row (n := 2) (vs := [_, _]) (by (repeat (first | (refine Row.lit ?_; simp only [World.size_alloc] <;> omega) | apply Row.alloc))) rfl (by omega) rfl (each_two (N2.row (n := 2) (vs := [_, _]) (by (repeat (first | (refine Row.lit ?_; simp only [World.size_alloc] <;> omega) | apply Row.alloc))) rfl (by omega) rfl (each_two (N1.row (n := 2) (by (repeat (first | (refine Row.lit ?_; simp only [World.size_alloc] <;> omega) | apply Row.alloc))) rfl rfl (by omega)) (N1.row (n := 2) (by (repeat (first | (refine Row.lit ?_; simp only [World.size_alloc] <;> omega) | apply Row.alloc))) rfl rfl (by omega)))) (N2.row (n := 2) (vs := [_, _]) (by (repeat (first | (refine Row.lit ?_; simp only [World.size_alloc] <;> omega) | apply Row.alloc))) rfl (by omega) rfl (each_two (N1.row (n := 2) (by (repeat (first | (refine Row.lit ?_; simp only [World.size_alloc] <;> omega) | apply Row.alloc))) rfl rfl (by omega)) (N1.row (n := 2) (by (repeat (first | (refine Row.lit ?_; simp only [World.size_alloc] <;> omega) | apply Row.alloc))) rfl rfl (by omega))))), NB.row (by (repeat (first | (refine Row.lit ?_; simp only [World.size_alloc] <;> omega) | apply Row.alloc))) rfl rfl (by omega)⟩
set_option maxRecDepth 100000 in
set_option maxHeartbeats 8000000 in
theorem slim_ok (w : World) : Calls Tryz.prog 39 #[] w fun e w' => ∃ g h, e = .returned (.agg #[.int .i64 1, .int .i64 0, .slice (some ⟨g, 0, none⟩) 3 3, .slice (some ⟨h, 0, none⟩) 3 3]) ∧ Below w.heap.size w w' ∧ TD w' (.agg #[.int .i64 1, .int .i64 0, .slice (some ⟨g, 0, none⟩) 3 3, .slice (some ⟨h, 0, none⟩) 3 3]) (slimD.raw 1) := by
  rw [slim_raw]
  go_enter Tryz.func39, Tryz.ntmps39
  go_wp2
  go_returns
  refine ⟨_, _, rfl, by go_grown, _, _, rfl, N3.row (n := 3) (vs := [_, _, _]) (by (repeat (first | (refine Row.lit ?_; simp only [World.size_alloc] <;> omega) | apply Row.alloc))) rfl (by omega) rfl (each_three (N2.row (n := 3) (vs := [_, _, _]) (by (repeat (first | (refine Row.lit ?_; simp only [World.size_alloc] <;> omega) | apply Row.alloc))) rfl (by omega) rfl (each_three (N1.row (n := 2) (by (repeat (first | (refine Row.lit ?_; simp only [World.size_alloc] <;> omega) | apply Row.alloc))) rfl rfl (by omega)) (N1.row (n := 2) (by (repeat (first | (refine Row.lit ?_; simp only [World.size_alloc] <;> omega) | apply Row.alloc))) rfl rfl (by omega)) (N1.row (n := 2) (by (repeat (first | (refine Row.lit ?_; simp only [World.size_alloc] <;> omega) | apply Row.alloc))) rfl rfl (by omega)))) (N2.row (n := 3) (vs := [_, _, _]) (by (repeat (first | (refine Row.lit ?_; simp only [World.size_alloc] <;> omega) | apply Row.alloc))) rfl (by omega) rfl (each_three (N1.row (n := 2) (by (repeat (first | (refine Row.lit ?_; simp only [World.size_alloc] <;> omega) | apply Row.alloc))) rfl rfl (by omega)) (N1.row (n := 2) (by (repeat (first | (refine Row.lit ?_; simp only [World.size_alloc] <;> omega) | apply Row.alloc))) rfl rfl (by omega)) (N1.row (n := 2) (by (repeat (first | (refine Row.lit ?_; simp only [World.size_alloc] <;> omega) | apply Row.alloc))) rfl rfl (by omega)))) (N2.row (n := 3) (vs := [_, _, _]) (by (repeat (first | (refine Row.lit ?_; simp only [World.size_alloc] <;> omega) | apply Row.alloc))) rfl (by omega) rfl (each_three (N1.row (n := 2) (by (repeat (first | (refine Row.lit ?_; simp only [World.size_alloc] <;> omega) | apply Row.alloc))) rfl rfl (by omega)) (N1.row (n := 2) (by (repeat (first | (refine Row.lit ?_; simp only [World.size_alloc] <;> omega) | apply Row.alloc))) rfl rfl (by omega)) (N1.row (n := 2) (by (repeat (first | (refine Row.lit ?_; simp only [World.size_alloc] <;> omega) | apply Row.alloc))) rfl rfl (by omega))))), NB.row (by (repeat (first | (refine Row.lit ?_; simp only [World.size_alloc] <;> omega) | apply Row.alloc))) rfl rfl (by omega)⟩
end Go.Proofs.YthkfjnmnoanhlaaGreatDoor

namespace Go.Proofs.YthkfjnmnoanhlaaGreatDoor
open Go.RowKit

/-- An automaton in a box. -/
def Box (W : World) (g : Nat) (i j : Int) (n c m d : Nat) (A B : Option Addr) (r : Raw) : Prop := Row W g 25 #[.int .i64 i, .int .i64 j, .slice A n c, .slice B m d] ∧ TD W (.agg #[.int .i64 i, .int .i64 j, .slice A n c, .slice B m d]) r
theorem Box.to {W X : World} {g n c m d : Nat} {i j : Int} {A B : Option Addr} {r : Raw} (h : Box W g i j n c m d A B r) (hb : Below W.heap.size W X) : Box X g i j n c m d A B r := ⟨h.1.below hb h.1.lt, h.2.below hb (Nat.le_refl _)⟩
theorem Box.td {W : World} {g n c m d : Nat} {i j : Int} {A B : Option Addr} {r : Raw} (h : Box W g i j n c m d A B r) : TD W (.agg #[.int .i64 i, .int .i64 j, .slice A n c, .slice B m d]) r := h.2
theorem Box.cell {W : World} {g n c m d : Nat} {i j : Int} {A B : Option Addr} {r : Raw} (h : Box W g i j n c m d A B r) : ∀ k, W.cell? ⟨g, k, none⟩ = (#[.int .i64 i, .int .i64 j, .slice A n c, .slice B m d] : Array Value)[k]? := h.1.cell
theorem RetR.open {w : World} {r : Raw} {k : Nat} {z : Int} (hz : (k : Int) = z) {e : Ending} {w' : World} (h : RetR w r k e w') : ∃ i j n c m d A B, e = .returned (.tuple #[.agg #[.int .i64 i, .int .i64 j, .slice A n c, .slice B m d], .int .i64 z]) ∧ Below w.heap.size w w' ∧ TD w' (.agg #[.int .i64 i, .int .i64 j, .slice A n c, .slice B m d]) r := by
  obtain ⟨A, c, Af, cf, rfl, hb, ht⟩ := h.unfold
  exact ⟨_, _, _, _, _, _, _, _, by rw [hz], hb, ht.td⟩
theorem RetSm.open {w : World} {t : List Lf} {b : Bool} {k : Nat} {z : Int} (hz : (k : Int) = z) {e : Ending} {w' : World} (h : RetSm w (t, b, k) e w') : ∃ A c, e = .returned (.tuple #[.slice A t.length c, .bool b, .int .i64 z]) ∧ Below w.heap.size w w' := by
  obtain ⟨v, rfl, hb, ht⟩ := h
  obtain ⟨A, c, rfl⟩ := TS.form (show TS w' v t from ht.ts)
  exact ⟨A, c, by subst hz; rfl, hb⟩
theorem RetSm.openT {w : World} {t : List Lf} {b : Bool} {k : Nat} {z : Int} (hz : (k : Int) = z) {e : Ending} {w' : World} (h : RetSm w (t, b, k) e w') : ∃ A c, e = .returned (.tuple #[.slice A t.length c, .bool b, .int .i64 z]) ∧ Below w.heap.size w w' ∧ TS w' (.slice A t.length c) t := by
  obtain ⟨v, rfl, hb, ht⟩ := h
  have hts : TS w' v t := ht.ts
  obtain ⟨A, c, rfl⟩ := hts.form
  exact ⟨A, c, by subst hz; rfl, hb, hts⟩
theorem opR_ok {a b : Dta} {f : Bool → Bool → Bool} {V : Nat} (h : (prodO a b).length ≤ 64) : opR a b f V = ((prodM a b f).raw V, 0) := by unfold opR; rw [if_pos h]
/-- What sub returns. -/
def RetSub (w : World) (N V : Nat) (e : Ending) (w' : World) : Prop := ∃ D : Dta, D.Fit V ∧ D.n ≤ N ∧ ∃ v, e = .returned v ∧ Below w.heap.size w w' ∧ TDO w' w.heap.size v (D.raw V)
abbrev CSub (N V : Nat) : Prop := ∀ (r : Raw) (va : Value) (w : World), TD w va r → Calls Tryz.prog 29 #[va, .int .i64 (N : Int), .int .i64 (V : Int)] w (RetSub w N V)
abbrev CAwk : Prop := ∀ w, Calls Tryz.prog 28 #[] w fun e w' => e = .returned (.bool true) ∧ Below w.heap.size w w'
theorem RetSub.open {w : World} {N V : Nat} {e : Ending} {w' : World} (h : RetSub w N V e w') : ∃ D : Dta, D.Fit V ∧ D.n ≤ N ∧ ∃ i j n c m d A B, e = .returned (.agg #[.int .i64 i, .int .i64 j, .slice A n c, .slice B m d]) ∧ Below w.heap.size w w' ∧ TD w' (.agg #[.int .i64 i, .int .i64 j, .slice A n c, .slice B m d]) (D.raw V) := by
  obtain ⟨D, h1, h2, v, rfl, hb, ht⟩ := h
  obtain ⟨A, c, B, d, rfl⟩ := ht.td.form
  exact ⟨D, h1, h2, _, _, _, _, _, _, _, _, rfl, hb, ht.td⟩
end Go.Proofs.YthkfjnmnoanhlaaGreatDoor

namespace Go.Proofs.YthkfjnmnoanhlaaGreatDoor

theorem existsM_fit {d : Dta} {V v : Nat} (h : d.Fit V) (hv : v < V) (hl : (setO d v).length ≤ 64) : (existsM d v).Fit V :=
  ⟨(existsM_is h.ok h.L hv).can.ok, Nat.le_trans (existsM_n h.ok h.L hv) hl, h.v3, (existsM_is h.ok h.L hv).hL.trans h.L⟩
theorem setO_small {d : Dta} {V v : Nat} (h : d.Fit V) (hv : v < V) {N : Nat} (hN : 2 ^ d.n ≤ N) : (setO d v).length ≤ N := Nat.le_trans (setO_len h.ok h.L hv) hN
theorem idle_len {d : Dta} {V v : Nat} (h : d.Fit V) (hv : v < V) (hl : (setO d v).length ≤ 64) : (setO (existsM d v) v).length ≤ (setO d v).length := by
  have hA := existsM_fit h hv hl
  refine Nat.le_trans (exists_idle hA.ok hA.n64 hA.L hv fun t u ht hu => ?_) (existsM_n h.ok h.L hv)
  exact existsM_idle h.ok h.n64 h.L hv t u (by rw [h.L, ← hA.L]; exact ht) hu
theorem exists_twice {d : Dta} {V v : Nat} (h : d.Fit V) (hv : v < V) (hl : (setO d v).length ≤ 64) : (existsM (existsM d v) v).raw V = (existsM d v).raw V := by
  have hA := existsM_fit h hv hl
  have hI := existsM_is h.ok h.L hv
  have hJ := existsM_is hA.ok hA.L hv
  have hs : (existsM (existsM d v) v).Same (existsM d v) := by
    refine Dta.canon_same hJ.can hI.can hJ.hL fun t ht => ?_
    rw [hJ.hL] at ht
    rw [Bool.eq_iff_iff, exists_iff hA.ok hA.n64 hA.L hv t ht]
    constructor
    · rintro ⟨u, hu, hf⟩
      rw [existsM_idle h.ok h.n64 h.L hv t u (by rw [h.L, ← hA.L]; exact ht) hu] at hf
      exact hf
    · intro hf
      exact ⟨t, varV_self v t ht, hf⟩
  exact hs.raw hJ.can.ok hJ.hL V
theorem exists_comm {d : Dta} {V v z : Nat} (h : d.Fit V) (hv : v < V) (hz : z < V) (hne : v ≠ z) (hl : (setO d v).length ≤ 64) (hl2 : (setO d z).length ≤ 64) :
    (existsM (existsM d v) z).raw V = (existsM (existsM d z) v).raw V := by
  have hA := existsM_fit h hv hl
  have hX := existsM_fit h hz hl2
  have hJ := existsM_is hA.ok hA.L hz
  have hK := existsM_is hX.ok hX.L hv
  have hL1 : (existsM d v).L = d.L := hA.L.trans h.L.symm
  have hL2 : (existsM d z).L = d.L := hX.L.trans h.L.symm
  have key : ∀ (v z : Nat) (hv : v < V) (hz : z < V) (hA : (existsM d v).Fit V) (t : Bt) (ht : t.lb d.L), (existsM (existsM d v) z).fin ((existsM (existsM d v) z).run t) = true ↔ ∃ u w, VarV z t u ∧ VarV v u w ∧ d.fin (d.run w) = true := by
    intro v z hv hz hA t ht
    have hL : (existsM d v).L = d.L := hA.L.trans h.L.symm
    rw [exists_iff hA.ok hA.n64 hA.L hz t (by rw [hL]; exact ht)]
    constructor
    · rintro ⟨u, hu, hf⟩
      have hub : u.lb d.L := by rw [h.L] at ht ⊢; exact varV_lb hz ht hu
      obtain ⟨w, hw, hf2⟩ := (exists_iff h.ok h.n64 h.L hv u hub).1 hf
      exact ⟨u, w, hu, hw, hf2⟩
    · rintro ⟨u, w, hu, hw, hf⟩
      have hub : u.lb d.L := by rw [h.L] at ht ⊢; exact varV_lb hz ht hu
      exact ⟨u, hu, (exists_iff h.ok h.n64 h.L hv u hub).2 ⟨w, hw, hf⟩⟩
  have hs : (existsM (existsM d v) z).Same (existsM (existsM d z) v) := by
    refine Dta.canon_same hJ.can hK.can (hJ.hL.trans ((hL1.trans hL2.symm).trans hK.hL.symm)) fun t ht => ?_
    rw [hJ.hL, hL1] at ht
    rw [Bool.eq_iff_iff, key v z hv hz hA t ht, key z v hz hv hX t ht]
    constructor
    · rintro ⟨u, w, hu, hw, hf⟩
      obtain ⟨u', h1, h2⟩ := varV_swap (Ne.symm hne) hu hw
      exact ⟨u', w, h1, h2, hf⟩
    · rintro ⟨u, w, hu, hw, hf⟩
      obtain ⟨u', h1, h2⟩ := varV_swap hne hu hw
      exact ⟨u', w, h1, h2, hf⟩
  exact hs.raw hJ.can.ok (hJ.hL.trans ((hL1.trans hL2.symm).trans hK.hL.symm)) V
theorem incl_exists {d : Dta} {V v : Nat} (h : d.Fit V) (hv : v < V) (hl : (setO d v).length ≤ 64) (hp : d.n * (setO d v).length ≤ 64) : inclO d (existsM d v) = ([], true, 0) := by
  have hA := existsM_fit h hv hl
  have hL : d.L = (existsM d v).L := h.L.trans hA.L.symm
  have hlen : (prodO d (existsM d v)).length ≤ 64 := Nat.le_trans (prodO_len h.ok hA.ok hL) (Nat.le_trans (Nat.mul_le_mul (Nat.le_refl _) (existsM_n h.ok h.L hv)) hp)
  have hP := prodM_is h.ok hA.ok hL (fun p q => p && !q)
  have he : smallO (prodM d (existsM d v) fun p q => p && !q) = ([], false, 0) := by
    refine small_empty hP.can.ok fun t ht => ?_
    rw [hP.hL] at ht
    rw [hP.lang t ht]
    cases e : d.fin (d.run t) with
    | false => rfl
    | true =>
      have := (exists_iff h.ok h.n64 h.L hv t ht).2 ⟨t, varV_self v t ht, e⟩
      rw [this]; rfl
  unfold inclO
  rw [if_pos hlen, he]; rfl
end Go.Proofs.YthkfjnmnoanhlaaGreatDoor

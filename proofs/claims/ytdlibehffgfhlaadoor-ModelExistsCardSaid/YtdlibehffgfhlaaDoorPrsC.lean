/- The parser's function formula: what its walk keeps; the parts of its specification. -/
import Derived.Test.YtdlibehffgfhlaaDoorPrsB
import Derived.Test.YtdlibehffgfhlaaDoorKit
set_option linter.unusedSimpArgs false
set_option linter.unusedVariables false
namespace Go.Proofs.YtdlibehffgfhlaaDoor
open Go.RowKit

theorem MO.keep {S : Nat → Prop} {w w' : World} {B : Nat} {v : Value} {f : List Mk} (h : MO w B v f) (hk : Keep S w w') (hs : ∀ b, v.ownBlock = some b → ¬ S b) : MO w' B v f := by
  obtain ⟨h0, h1, h2⟩ := h
  refine ⟨h0, h1, ?_⟩
  rcases h2 with h2 | ⟨g, cap, cur, hv, hB, hg, r⟩
  · exact .inl h2
  · exact .inr ⟨g, cap, cur, hv, hB, (hk.block g (lt_of_block hg) (hs g (by rw [hv]; rfl))).trans hg, r⟩
theorem MO.own_lt {w : World} {B : Nat} {v : Value} {f : List Mk} (h : MO w B v f) : ∀ b, v.ownBlock = some b → B ≤ b ∧ b < w.heap.size := World.ownsRow.lt h.2
theorem MO.apart {w : World} {B g : Nat} {v : Value} {f : List Mk} {t : TypeId} {cs : Array Value} (h : MO w B v f) (hr : Row w g t cs) (ht : t ≠ 23) : ∀ b, v.ownBlock = some b → b ≠ g := by
  intro b hb hbg
  subst hbg
  rcases h.2.2 with ⟨hv, _⟩ | ⟨g', cap, cur, hv, hB, hg, _⟩
  · rw [hv] at hb; simp [Value.ownBlock] at hb
  · rw [hv] at hb
    simp only [Value.ownBlock, Option.some.injEq] at hb
    subst hb
    unfold Row at hr
    rw [hr] at hg
    simp only [Option.some.injEq, Obj.cells.injEq] at hg
    exact ht hg.2.1
theorem MO.form {w : World} {B : Nat} {v : Value} {f : List Mk} (h : MO w B v f) : ∃ A c, v = .slice A f.length c := by
  obtain ⟨_, A, c, hv, _⟩ := h.ms
  exact ⟨A, c, hv⟩

/-- The state of formula: the reader in block g, its node in block X, its form in block O. -/
structure FI (S : ByteArray) (w0 : World) (B g X O : Nat) (lv0 : Value) (p many : Nat) (lv : Value) (l : List Mk) (xm om : Array Value) (W : World) : Prop where
  r : Row W g 89 #[.string S, .int .i64 p, lv, .int .i64 many]
  x : Row W X 23 xm
  o : Row W O 123 om
  own : MO W B lv l
  k : Keep (fun b => b = g ∨ lv0.ownBlock = some b) w0 W
  d : X ≠ g ∧ O ≠ g ∧ O ≠ X ∧ w0.heap.size ≤ X ∧ w0.heap.size ≤ O
  lo : ∀ b, lv.ownBlock = some b → b ≠ g ∧ b ≠ X ∧ b ≠ O ∧ (lv0.ownBlock = some b ∨ w0.heap.size ≤ b)
theorem FI.set {S : ByteArray} {w0 : World} {B g X O : Nat} {lv0 : Value} {p many : Nat} {lv : Value} {l : List Mk} {xm om : Array Value} {W : World} (h : FI S w0 B g X O lv0 p many lv l xm om W) (i : Nat) (v : Value) :
    FI S w0 B g X O lv0 p many lv l (xm.setIfInBounds i v) om (W.setCell ⟨X, i, none⟩ v) :=
  ⟨h.r.far h.d.1.symm _, h.x.set i v, h.o.far h.d.2.2.1 _, h.own.far (fun e => (h.lo X e).2.1 rfl) _, h.k.set (.inr h.d.2.2.2.1) _, h.d, h.lo⟩
theorem FI.step {S : ByteArray} {w0 : World} {B g X O : Nat} {lv0 : Value} {p q many : Nat} {lv : Value} {l : List Mk} {xm om : Array Value} {W W' : World} (h : FI S w0 B g X O lv0 p many lv l xm om W) (hk : Keep (· = g) W W')
    (hr : Row W' g 89 #[.string S, .int .i64 q, lv, .int .i64 many]) : FI S w0 B g X O lv0 q many lv l xm om W' :=
  ⟨hr, hk.row h.x h.d.1, hk.row h.o h.d.2.1, h.own.keep hk fun b hb => (h.lo b hb).1, ⟨hk.os.trans h.k.os, hk.tape.trans h.k.tape, hk.output.trans h.k.output, Nat.le_trans h.k.size hk.size, fun i hi hs => (hk.block i (Nat.lt_of_lt_of_le hi h.k.size) fun e => hs (.inl e)).trans (h.k.block i hi hs)⟩, h.d, h.lo⟩
theorem FI.child {S : ByteArray} {w0 : World} {B g X O : Nat} {lv0 : Value} {p q many many' : Nat} {lv lv' : Value} {l l' : List Mk} {xm om : Array Value} {W W' : World} (h : FI S w0 B g X O lv0 p many lv l xm om W) (hk : Keep (fun b => b = g ∨ lv.ownBlock = some b) W W')
    (hr : Row W' g 89 #[.string S, .int .i64 q, lv', .int .i64 many']) (ho : MO W' B lv' l') (hl : ∀ b, lv'.ownBlock = some b → lv.ownBlock = some b ∨ W.heap.size ≤ b) : FI S w0 B g X O lv0 q many' lv' l' xm om W' := by
  have hx : ¬ (X = g ∨ lv.ownBlock = some X) := fun e => e.elim h.d.1 fun e => (h.lo X e).2.1 rfl
  have hoo : ¬ (O = g ∨ lv.ownBlock = some O) := fun e => e.elim h.d.2.1 fun e => (h.lo O e).2.2.1 rfl
  refine ⟨hr, hk.row h.x hx, hk.row h.o hoo, ho, ⟨hk.os.trans h.k.os, hk.tape.trans h.k.tape, hk.output.trans h.k.output, Nat.le_trans h.k.size hk.size, fun i hi hs => ?_⟩, h.d, fun b hb => ?_⟩
  · refine (hk.block i (Nat.lt_of_lt_of_le hi h.k.size) fun e => ?_).trans (h.k.block i hi hs)
    rcases e with e | e
    · exact hs (.inl e)
    · rcases (h.lo i e).2.2.2 with e2 | e2
      · exact hs (.inr e2)
      · omega
  · rcases hl b hb with e | e
    · exact h.lo b e
    · have a1 := h.r.lt
      have a2 := h.x.lt
      have a3 := h.o.lt
      have a4 := h.k.size
      exact ⟨by omega, by omega, by omega, .inr (by omega)⟩

def FormPost (S : ByteArray) (B g : Nat) (lv : Value) (l : List Mk) (x : PR (Nat × Tr)) (w : World) (e : Ending) (w' : World) : Prop :=
  match x with
  | .ok q a => ∃ lv', e = .returned (.int .i64 ((l.length : Int) + a.2.size - 1)) ∧ Keep (fun b => b = g ∨ lv.ownBlock = some b) w w' ∧ Row w' g 89 #[.string S, .int .i64 q, lv', .int .i64 a.1] ∧
      MO w' B lv' (l ++ a.2.enc l.length) ∧ (∀ b, lv'.ownBlock = some b → lv.ownBlock = some b ∨ w.heap.size ≤ b)
  | .err q k => e = .panicked (Pan q k) ∧ Below B w w'
theorem FormPost.err {S : ByteArray} {B g : Nat} {lv : Value} {l : List Mk} {x : PR (Nat × Tr)} {w w' : World} {q : Nat} {k : Int} (h : x = .err q k) (hb : Below B w w') : FormPost S B g lv l x w (.panicked (Pan q k)) w' := by subst h; exact ⟨rfl, hb⟩
theorem FormPost.ok {S : ByteArray} {B g : Nat} {lv lv' : Value} {l : List Mk} {x : PR (Nat × Tr)} {w w' : World} {q : Nat} {a : Nat × Tr} {e : Ending} (h : x = .ok q a) (he : e = .returned (.int .i64 ((l.length : Int) + a.2.size - 1))) (hk : Keep (fun b => b = g ∨ lv.ownBlock = some b) w w')
    (hr : Row w' g 89 #[.string S, .int .i64 q, lv', .int .i64 a.1]) (ho : MO w' B lv' (l ++ a.2.enc l.length)) (hl : ∀ b, lv'.ownBlock = some b → lv.ownBlock = some b ∨ w.heap.size ≤ b) : FormPost S B g lv l x w e w' := by
  subst h; exact ⟨lv', he, hk, hr, ho, hl⟩
/-- What formula promises, with n left of the depth. -/
abbrev FormHyp (S : ByteArray) (B g n : Nat) : Prop := ∀ (p many : Nat) (l : List Mk) (lv : Value) (W : World), Row W g 89 #[.string S, .int .i64 p, lv, .int .i64 many] → MO W B lv l → p ≤ S.size → many ≤ 64 → 65 ≤ n + many → l.length ≤ many →
  Calls Tryd.prog 57 #[.pointer (some ⟨g, 0, none⟩)] W (FormPost S B g lv l (form (bts S) n p many) W)

theorem form_need (s : List UInt8) (n p many : Nat) : form s (n + 1) p many = (needP s (40 :: bts smallB) 2 p).bind fun p c =>
    if many = 64 then .err p 4
    else (nameP s (c = 40) (if c = 40 then p + 1 else p)).bind fun p op =>
      (optVar (decide (0 < nv op)) s p).bind fun p x =>
      (optVar (decide (1 < nv op)) s p).bind fun p y =>
      if nc op = 0 then closeP (c = 40) s p (many + 1, .leaf op x y)
      else (pastP s 32 p).bind fun p _ => (form s n p (many + 1)).bind fun p a =>
        if nc op = 1 then closeP (c = 40) s p (a.1, .un op x a.2)
        else (pastP s 32 p).bind fun p _ => (form s n p a.1).bind fun p b => closeP (c = 40) s p (b.1, .bin op a.2 b.2) := by
  rw [form]
  unfold needP
  cases s[p]? with
  | none => rfl
  | some c =>
    simp only [openB_low]
    by_cases h : c = 40 ∨ low c = true
    · have h2 : (decide (c = 40) || low c) = true := by simpa using h
      rw [if_pos h]
      simp only [h2, if_true, PR.bind_ok]
    · have h2 : (decide (c = 40) || low c) = false := by
        rw [Bool.eq_false_iff]
        intro h3
        exact h (by simpa using h3)
      rw [if_neg h]
      simp only [h2, Bool.false_eq_true, if_false, PR.bind_err]
theorem FI.below {S : ByteArray} {w0 : World} {B g X O : Nat} {lv0 : Value} {p many : Nat} {lv : Value} {l : List Mk} {xm om : Array Value} {W W' : World} (h : FI S w0 B g X O lv0 p many lv l xm om W) (hB : B ≤ g) (hl : ∀ b, lv0.ownBlock = some b → B ≤ b) (hs : B ≤ w0.heap.size) (hk : Below B W W') : Below B w0 W' :=
  (h.k.below hs fun k hk e => by
    rcases e with e | e
    · omega
    · have := hl k e; omega).trans hk
theorem Keep.below_le {S : Nat → Prop} {a b : World} (h : Keep S a b) {B : Nat} (hB : B ≤ a.heap.size) (hS : ∀ k, S k → B ≤ k) : Below B a b := h.below hB fun k hk hs => by have := hS k hs; omega

/-- The outcome of a step, in two ways. -/
theorem StepPost.split {α : Type} {val : α → Value} {S : ByteArray} {g : Nat} {lv u : Value} {x : PR α} {w w' : World} {e : Ending} (h : StepPost val S g lv u x w e w') :
    (∃ q v, x = .ok q v ∧ e = .returned (val v) ∧ Keep (· = g) w w' ∧ Row w' g 89 #[.string S, .int .i64 q, lv, u]) ∨ ∃ q k, x = .err q k ∧ e = .panicked (Pan q k) ∧ Keep (· = g) w w' := by
  obtain ⟨h1, h2⟩ := h
  cases x with
  | ok q v => exact .inl ⟨q, v, rfl, h2.1, h1, h2.2⟩
  | err q k => exact .inr ⟨q, k, rfl, h2, h1⟩
theorem FormPost.split {S : ByteArray} {B g : Nat} {lv : Value} {l : List Mk} {x : PR (Nat × Tr)} {w w' : World} {e : Ending} (h : FormPost S B g lv l x w e w') :
    (∃ q a lv', x = .ok q a ∧ e = .returned (.int .i64 ((l.length : Int) + a.2.size - 1)) ∧ Keep (fun b => b = g ∨ lv.ownBlock = some b) w w' ∧ Row w' g 89 #[.string S, .int .i64 q, lv', .int .i64 a.1] ∧
      MO w' B lv' (l ++ a.2.enc l.length) ∧ (∀ b, lv'.ownBlock = some b → lv.ownBlock = some b ∨ w.heap.size ≤ b)) ∨ ∃ q k, x = .err q k ∧ e = .panicked (Pan q k) ∧ Below B w w' := by
  cases x with
  | ok q a => obtain ⟨lv', h⟩ := h; exact .inl ⟨q, a, lv', rfl, h⟩
  | err q k => exact .inr ⟨q, k, rfl, h.1, h.2⟩

/-- The law of append of one mark, the result a slice that is written out. -/
theorem step_append_msl {ops : Array Oper} {o : Oper} {a : Act} {w : World} {K : Act → World → Prop} {Q : Exit → Act → World → Prop} {E : Prop} (hgd : o.guard = none) (s x : Operand)
    (ho : o.op = .call { callee := .builtin .append, args := #[s, x], argTypes := #[25, 25] })
    (B : Nat) (v : Value) (f : List Mk) (hs : a.eval s = v) (hown : MO w B v f) (y : Value) (g : List Mk) (hx : a.eval x = y) (hy : MS w y g) (hl : f.length + g.length ≤ 1000000) (hB : B ≤ w.heap.size) (n : Nat) (hn : n = f.length + g.length)
    (h : ∀ A c w', MO w' B (.slice A n c) (f ++ g) → w.grownBy w' v.ownBlock → ((Value.slice A n c).ownBlock = v.ownBlock ∨ (Value.slice A n c).ownBlock = some w.heap.size) → K (a.put o.dst (.slice A n c)) w') :
    if Region.wanted o (yielded ops a.tmps) = true then Oper.wp Tryd.prog o a w K Q else E :=
  step_append_ms hgd s x ho B v f hs hown y g hx hy hl hB fun v' w' h1 h2 h3 => by
    obtain ⟨A, c, hv⟩ := h1.form
    rw [List.length_append, ← hn] at hv
    subst hv
    exact h A c w' h1 h2 h3
theorem FI.mid {S : ByteArray} {w0 : World} {B g X O : Nat} {lv0 : Value} {p many : Nat} {lv : Value} {l : List Mk} {xm om : Array Value} {W W' w6 : World} (h : FI S w0 B g X O lv0 p many lv l xm om W) (hb : Below W.heap.size W W') (hg : W'.grownBy w6 lv.ownBlock) :
    Row w6 g 89 #[.string S, .int .i64 p, lv, .int .i64 many] := (h.r.below hb h.r.lt).grown hg fun e => (h.lo g e.symm).1 rfl
theorem FI.finish {S : ByteArray} {w0 : World} {B g X O : Nat} {lv0 : Value} {p many : Nat} {lv v6 : Value} {l l' : List Mk} {xm om : Array Value} {W W' w6 : World} (h : FI S w0 B g X O lv0 p many lv l xm om W) (hb : Below W.heap.size W W') (hg : W'.grownBy w6 lv.ownBlock)
    (ho : MO w6 B v6 l') (ht : v6.ownBlock = lv.ownBlock ∨ v6.ownBlock = some W'.heap.size) :
    Keep (fun b => b = g ∨ lv0.ownBlock = some b) w0 (w6.setCell ⟨g, 2, none⟩ v6) ∧ Row (w6.setCell ⟨g, 2, none⟩ v6) g 89 #[.string S, .int .i64 p, v6, .int .i64 many] ∧ MO (w6.setCell ⟨g, 2, none⟩ v6) B v6 l' ∧ (∀ b, v6.ownBlock = some b → lv0.ownBlock = some b ∨ w0.heap.size ≤ b) := by
  have hks := h.k.size
  have hbs := hb.size
  have hgl := h.r.lt
  have hv : ∀ b, v6.ownBlock = some b → lv.ownBlock = some b ∨ W'.heap.size ≤ b := fun b e => by
    rcases ht with t | t
    · exact .inl (t.symm.trans e)
    · rw [t] at e; injection e with e; exact .inr (by omega)
  have hgs := hg.size
  refine ⟨?_, (h.mid hb hg).set 2 v6, ho.far (fun e => ?_) _, fun b e => ?_⟩
  · refine Keep.set ?_ (.inl (.inl rfl)) _
    refine ⟨hg.os.trans (hb.os.trans h.k.os), hg.tape.trans (hb.tape.trans h.k.tape), hg.output.trans (hb.output.trans h.k.output), by omega, fun i hi hs => ?_⟩
    refine (hg.block i (by omega) fun e => ?_).trans ((hb.block i (by omega)).trans (h.k.block i hi hs))
    rcases (h.lo i e.symm).2.2.2 with e2 | e2
    · exact hs (.inr e2)
    · omega
  · rcases hv g e with e2 | e2
    · exact (h.lo g e2).1 rfl
    · omega
  · rcases hv b e with e2 | e2
    · exact (h.lo b e2).2.2.2
    · exact .inr (by omega)
end Go.Proofs.YtdlibehffgfhlaaDoor

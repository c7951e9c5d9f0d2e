/- A range over a function whose iterator writes blocks of its own: the law of the statement. -/
import Derived.RangeFuncNested
import Derived.RangeFuncBound
import Derived.RangeFuncCalls
import Derived.RangeFuncLeaves
import Derived.Test.YthkfjnmnoanhlaaGreatDoorBase
set_option linter.unusedSimpArgs false
set_option linter.unusedVariables false
namespace Go.Proofs.YthkfjnmnoanhlaaGreatDoor
open Go.RowKit

/-- J abides new blocks and the turn of one of the k blocks from B on. -/
def AbidesOwn {β : Type} (B k : Nat) (J : β → World → Prop) : Prop :=
  ∀ s W W' row, J s W → W.grownBy W' row → (∀ r, row = some r → B ≤ r ∧ r < B + k) → J s W'
/-- The k blocks from B on, and those of E, lie as they lay. -/
def KeepB (E : Nat → Prop) (B k : Nat) (W W' : World) : Prop := W.heap.size ≤ W'.heap.size ∧ ∀ b, (B ≤ b ∧ b < B + k) ∨ E b → W'.heap[b]? = W.heap[b]?
theorem KeepB.refl (E : Nat → Prop) (B k : Nat) (W : World) : KeepB E B k W W := ⟨Nat.le_refl _, fun _ _ => rfl⟩
theorem KeepB.trans {E : Nat → Prop} {B k : Nat} {X Y Z : World} (h : KeepB E B k X Y) (g : KeepB E B k Y Z) : KeepB E B k X Z := ⟨Nat.le_trans h.1 g.1, fun b h1 => (g.2 b h1).trans (h.2 b h1)⟩
theorem KeepB.sub {E : Nat → Prop} {B k B' k' : Nat} {X Y : World} (h : KeepB E B k X Y) (h1 : B ≤ B') (h2 : B' + k' ≤ B + k) : KeepB E B' k' X Y := ⟨h.1, fun b g => h.2 b (g.elim (fun g => .inl (by omega)) .inr)⟩
theorem KeepB.putObj {E : Nat → Prop} {B k l : Nat} (W : World) (o : Obj) (h : l < B ∨ B + k ≤ l) (hE : ∀ b, E b → b ≠ l) : KeepB E B k W (W.putObj l o) := ⟨by simp, fun b h1 => World.putObj_heap_other (h1.elim (fun h1 => by omega) (fun h1 => (hE b h1)))⟩

/-- The contract of an iterator value: it writes new blocks and the first k blocks that it lays; rd says how the arguments of yield read. -/
def SeqOwn {α : Type} (P : Program) (g : Nat) (lb : Array Value) (rd : α → Array Value → Nat → World → Prop) (E : Nat → Prop) (k : Nat) (S Sp : List α → Prop) (w : World) : Prop :=
  ∀ (n l : Nat) (J Jx : List α → World → Prop) (W : World), Below w.heap.size w W → AbidesOwn W.heap.size k J → AbidesOwn W.heap.size k Jx →
    (∀ (m : Nat) pre x args W1, J pre W1 → rd x args W.heap.size W1 → YieldAt Fence.wide m P l args W1 fun e W' =>
      (e = .returned (.bool true) ∧ J (pre ++ [x]) W' ∧ KeepB E W.heap.size k W1 W') ∨ (e = .returned (.bool false) ∧ Jx (pre ++ [x]) W')) →
    J [] W →
    CallsIn Fence.wide n P g (#[.func (.yield l) #[] #[]] ++ lb) W fun e W' => (∃ v, e = .returned v) ∧ ((∃ xs, S xs ∧ J xs W') ∨ (∃ pre, Sp pre ∧ Jx pre W'))

/-- How the body of a round may be left. -/
def roundPostOwn {α : Type} (E : Nat → Prop) (B k : Nat) (I : List α → World → Prop) (Ix : Code → List α → World → Prop) (xs : List α) (W : World) : Exit → Act → World → Prop
  | .normal, _, W' => KeepB E B k W W' ∧ I xs W'
  | .ret, _, W' => KeepB E B k W W' ∧ Ix .ret xs W'
  | .exit id, _, W' => KeepB E B k W W' ∧ Ix (.exit id) xs W'
  | .goto t, _, W' => KeepB E B k W W' ∧ Ix (.goto t) xs W'
  | .panic _, _, _ => False
  | .outgrown, _, _ => False

theorem wpIn_rangeFunc_mine {α : Type} {P : Program} {n : Nat} {g : Operand} {ps : Array Tmp} {assign body : Code} {Q : Exit → Act → World → Prop} {a : Act} {w : World}
    {gf : Nat} {lb : Array Value} (hg : a.eval g = .func (.func gf) #[] lb) (eg : ∀ args w, (callFunc gf args).run P w = .ok (.enter gf args) w)
    {rd : α → Array Value → Nat → World → Prop} {E : Nat → Prop} {k : Nat} {S Sp : List α → Prop} {w0 : World} (hseq : SeqOwn P gf lb rd E k S Sp w0) (hE : ∀ b, E b → b < w0.heap.size) (hb0 : Below w0.heap.size w0 w)
    (hps : ∀ x args B W, rd x args B W → args.size = ps.size) (hrd : ∀ x args B W W', KeepB E B k W W' → rd x args B W → rd x args B W')
    (I : List α → World → Prop) (Ix : Code → List α → World → Prop) (hI : AbidesOwn w.heap.size (2 + k) I) (hIx : ∀ c, AbidesOwn w.heap.size (2 + k) (Ix c)) (h0 : I [] w) (a₁ : Array Value → Act)
    (hassign : ∀ (m l : Nat) (x : α) (args : Array Value) (B : Nat) (W : World) (K : Act → World → Prop), rd x args B W → K (a₁ args) W →
      assign.wpIn (Fence.wide.inRound l) m P (Exit.then K (fun _ _ _ => False)) { tmps := (ps.zip args).foldl (fun t (p, v) => t.setIfInBounds p v) a.tmps, defers := [] } W)
    (hbody : ∀ (m l : Nat) (pre : List α) (x : α) (args : Array Value) (W : World), I pre W → rd x args (w.heap.size + 2) W → w.heap.size + 2 ≤ W.heap.size → body.wpIn (Fence.wide.inRound l) m P (roundPostOwn E w.heap.size (2 + k) I Ix (pre ++ [x]) W) (a₁ args) W)
    (hdone : ∀ (xs : List α) (W : World), S xs → I xs W → W.heap[w.heap.size]? = some (.deferred (some [])) → Q .normal { a with defers := { target := .collected w.heap.size, args := #[] } :: a.defers } W)
    (hstop : ∀ (c : Code) (pre : List α) (W : World), Sp pre → Ix c pre W → W.heap[w.heap.size]? = some (.deferred (some [])) → c.wpIn Fence.wide n P Q { a with defers := { target := .collected w.heap.size, args := #[] } :: a.defers } W) :
    (Code.rangeFunc g ps assign body).wpIn Fence.wide n P Q a w := by
  refine wpIn_rangeFunc ?_
  intro fn hfn
  rw [show Fence.wide.round = none from rfl]
  obtain ⟨rec, hrec⟩ : ∃ rec : LoopState → Option Code → Loop, rec = fun st pe => { state := st, pending := pe, fn, tmps := a.tmps, params := ps, assign, body, defers := w.heap.size } := ⟨_, rfl⟩
  obtain ⟨W1, hW1⟩ : ∃ W1, (w.alloc (.deferred (some []))).alloc (.loop (rec .ready none)) = W1 := ⟨_, rfl⟩
  have hs1 : W1.heap.size = w.heap.size + 2 := by rw [← hW1]; simp
  have hL1 : W1.heap[w.heap.size + 1]? = some (.loop (rec .ready none)) := by
    rw [← hW1]; have := World.alloc_heap_new (w.alloc (.deferred (some []))) (.loop (rec .ready none)); rwa [World.size_alloc] at this
  have hK1 : W1.heap[w.heap.size]? = some (.deferred (some [])) := by
    rw [← hW1]; exact (Below.heap_alloc _ _ _ (by simp)).trans (World.alloc_heap_new w _)
  have hal : ∀ s (W : World) o, I s W → I s (W.alloc o) := fun s W o h => hI s W _ none h (World.grownBy_alloc W o none) (fun r e => by cases e)
  have hput : ∀ s (W : World) o, I s W → I s (W.putObj (w.heap.size + 1) o) := fun s W o h => hI s W _ (some (w.heap.size + 1)) h (grownBy_putObj' W _ o) (fun r e => by cases e; omega)
  have hputx : ∀ c s (W : World) o, Ix c s W → Ix c s (W.putObj (w.heap.size + 1) o) := fun c s W o h => hIx c s W _ (some (w.heap.size + 1)) h (grownBy_putObj' W _ o) (fun r e => by cases e; omega)
  have hI1 : I [] W1 := by rw [← hW1]; exact hal _ _ _ (hal _ _ _ h0)
  have hb1 : Below w0.heap.size w0 W1 := by
    rw [← hW1]; exact hb0.trans ((((Below.refl _ w).alloc (Nat.le_refl _) _).alloc (by simp) _).mono hb0.size)
  refine ⟨w.heap.size + 1, [{ target := .collected w.heap.size, args := #[] }], W1, { target := .fn (.func gf) lb, args := #[.func (.yield (w.heap.size + 1)) #[] #[]] }, W1, gf,
    #[.func (.yield (w.heap.size + 1)) #[] #[]] ++ lb, W1, ?_, ?_, ?_, ?_, fun h => by simp [Fence.wide] at h, ?_⟩
  · rw [← hW1, hrec]; exact run_enterLoop_outer _ _ _ _ _
  · simp only [resolve, hg]
    simp [go_sem]
  · intro f' _; trivial
  · simp [invoke, go_sem, eg]
  · refine (hseq (n - 1) (w.heap.size + 1)
      (fun pre W => I pre W ∧ W.heap[w.heap.size + 1]? = some (.loop (rec .ready none)) ∧ W.heap[w.heap.size]? = some (.deferred (some [])))
      (fun pre W => ∃ c, Ix c pre W ∧ W.heap[w.heap.size + 1]? = some (.loop (rec .done (some c))) ∧ W.heap[w.heap.size]? = some (.deferred (some [])))
      W1 hb1
      (fun s A B row hs hg' hr => ?_) (fun s A B row hs hg' hr => ?_) ?_ ⟨hI1, hL1, hK1⟩).mono ?_
    · rw [hs1] at hr
      have hb : ∀ b, b < w.heap.size + 2 → b < A.heap.size → B.heap[b]? = A.heap[b]? := fun b h1 h2 => hg'.block b h2 (fun e => by have := hr b e.symm; omega)
      exact ⟨hI s A B row hs.1 hg' (fun r e => by have := hr r e; omega), (hb _ (by omega) (lt_of_block hs.2.1)).trans hs.2.1, (hb _ (by omega) (lt_of_block hs.2.2)).trans hs.2.2⟩
    · rw [hs1] at hr
      have hb : ∀ b, b < w.heap.size + 2 → b < A.heap.size → B.heap[b]? = A.heap[b]? := fun b h1 h2 => hg'.block b h2 (fun e => by have := hr b e.symm; omega)
      obtain ⟨c, hc, hl, hk⟩ := hs
      exact ⟨c, hIx c s A B row hc hg' (fun r e => by have := hr r e; omega), (hb _ (by omega) (lt_of_block hl)).trans hl, (hb _ (by omega) (lt_of_block hk)).trans hk⟩
    · rintro m pre x args W ⟨hi, hl, hk⟩ hx
      rw [hs1] at hx ⊢
      have hlt : w.heap.size + 1 < W.heap.size := lt_of_block hl
      have hy := run_yield (P := P) (args := args) hl (by rw [hrec]; exact hps x args _ _ hx)
      rw [hrec] at hy
      refine ⟨fn, _, assign, body, hy, roundIn_of_wpIn hfn (hassign _ _ x args _ W _ hx ⟨_, run_beginRound hl (by rw [hrec]), ?_⟩)⟩
      have hl2 : (W.putObj (w.heap.size + 1) (.loop { rec .ready none with state := .busy })).heap[w.heap.size + 1]? = some (.loop { rec .ready none with state := .busy }) := World.putObj_heap_same hlt
      have hk2 : (W.putObj (w.heap.size + 1) (.loop { rec .ready none with state := .busy })).heap[w.heap.size]? = some (.deferred (some [])) := (World.putObj_heap_other (by omega)).trans hk
      have hw2 : ∀ (W : World) o, KeepB E (w.heap.size + 2) k W (W.putObj (w.heap.size + 1) o) := fun W o => KeepB.putObj W o (.inl (by omega)) (fun b hb => by have h1 := hE b hb; have h2 := hb0.size; omega)
      refine wpIn_mono (hbody m _ pre x args _ (hput _ _ _ hi) (hrd _ _ _ _ _ (hw2 _ _) hx) (by simp; omega)) ?_
      have fin : ∀ (jump : Option Code) (W3 : World), KeepB E w.heap.size (2 + k) (W.putObj (w.heap.size + 1) (.loop { rec .ready none with state := .busy })) W3 →
          (Instr.endRound (w.heap.size + 1) jump).run P W3 = .ok (.bool jump.isNone) (W3.putObj (w.heap.size + 1) (.loop (rec (if jump.isNone then .ready else .done) jump))) ∧
          (W3.putObj (w.heap.size + 1) (.loop (rec (if jump.isNone then .ready else .done) jump))).heap[w.heap.size + 1]? = some (.loop (rec (if jump.isNone then .ready else .done) jump)) ∧
          (W3.putObj (w.heap.size + 1) (.loop (rec (if jump.isNone then .ready else .done) jump))).heap[w.heap.size]? = some (.deferred (some [])) := fun jump W3 hk3 => by
        have hl3 := (hk3.2 (w.heap.size + 1) (.inl (by omega))).trans hl2
        have hd3 := (hk3.2 w.heap.size (.inl (by omega))).trans hk2
        have := run_endRound (P := P) jump hl3
        rw [hrec] at this ⊢
        exact ⟨this, World.putObj_heap_same (lt_of_block hl3), (World.putObj_heap_other (by omega)).trans hd3⟩
      rintro e a3 W3 hp
      cases e with
      | normal =>
        obtain ⟨hk3, hi3⟩ := hp
        obtain ⟨hr, hl4, hk4⟩ := fin none W3 hk3
        exact ⟨_, _, hr, .inl ⟨rfl, ⟨hput _ _ _ hi3, hl4, hk4⟩, ((hw2 _ _).trans (hk3.sub (by omega) (by omega))).trans (hw2 _ _)⟩⟩
      | ret =>
        obtain ⟨hk3, hi3⟩ := hp
        obtain ⟨hr, hl4, hk4⟩ := fin (some .ret) W3 hk3
        exact ⟨_, _, hr, .inr ⟨rfl, .ret, hputx _ _ _ _ hi3, hl4, hk4⟩⟩
      | exit id =>
        obtain ⟨hk3, hi3⟩ := hp
        obtain ⟨hr, hl4, hk4⟩ := fin (some (.exit id)) W3 hk3
        exact ⟨_, _, hr, .inr ⟨rfl, .exit id, hputx _ _ _ _ hi3, hl4, hk4⟩⟩
      | goto t =>
        obtain ⟨hk3, hi3⟩ := hp
        obtain ⟨hr, hl4, hk4⟩ := fin (some (.goto t)) W3 hk3
        exact ⟨_, _, hr, .inr ⟨rfl, .goto t, hputx _ _ _ _ hi3, hl4, hk4⟩⟩
      | panic ch => exact hp.elim
      | outgrown => exact hp.elim
    · rintro e W2 ⟨⟨v, rfl⟩, (⟨xs, hS, hi, hl, hk⟩ | ⟨pre, hSp, c, hi, hl, hk⟩)⟩
      · exact ⟨none, _, by have := run_endLoop (P := P) hl (by rw [hrec]; simp); rw [hrec] at this; exact this, hdone xs _ hS (hput _ _ _ hi) ((World.putObj_heap_other (by omega)).trans hk)⟩
      · exact ⟨some c, _, by have := run_endLoop (P := P) hl (by rw [hrec]; simp); rw [hrec] at this; exact this, hstop c pre _ hSp (hputx _ _ _ _ hi) ((World.putObj_heap_other (by omega)).trans hk)⟩
end Go.Proofs.YthkfjnmnoanhlaaGreatDoor

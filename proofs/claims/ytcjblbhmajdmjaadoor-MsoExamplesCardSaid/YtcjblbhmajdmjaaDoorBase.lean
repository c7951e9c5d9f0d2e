/- What memory holds: rows, slices of marks, slices of integers; laws of the walk that the later texts share. -/
import Derived.Test.YtcjblbhmajdmjaaDoorChecked
import Derived.Test.YtcjblbhmajdmjaaDoorSpec
import Derived.WalkKit
import Derived.WalkSpells
import Derived.WalkLawsBesides
import Derived.Handy
import Derived.Lib.Hide
import Derived.Deep.LoopGhost
import Derived.Deep.QuietTactic
import Derived.BigQuiet
import Derived.Lib.QuietBelow
import Derived.Deep.RegionWith
import Derived.Deep.DeepFit
import Derived.Deep.DeepMust
import Derived.Maps.AppendAt
import Derived.Deep.AppendLies
set_option linter.unusedSimpArgs false
set_option linter.unusedVariables false
namespace Go.Proofs.YtcjblbhmajdmjaaDoor
open Go.RowKit

theorem bcell {W w1 : World} (hb : Below W.heap.size W w1) : (∀ b o, b < W.heap.size → w1.cell? ⟨b, o, none⟩ = W.cell? ⟨b, o, none⟩) ∧ (∀ b o, b < W.heap.size → w1.frozen? ⟨b, o, none⟩ = W.frozen? ⟨b, o, none⟩) :=
  ⟨fun b o h => hb.cell (p := ⟨b, o, none⟩) h, fun b o h => hb.frozen (p := ⟨b, o, none⟩) h⟩

theorem ret_bool {a b : Bool} (h : a = true ↔ b = true) : Ending.returned (.bool a) = Ending.returned (.bool b) := by rw [Bool.eq_iff_iff.2 h]
theorem ret_int {k : IntKind} {a b : Int} (h : a = b) : Ending.returned (.int k a) = Ending.returned (.int k b) := by rw [h]

/-- Block g of the world is the row cs of element type t, nothing of it frozen. -/
def Row (w : World) (g : Nat) (t : TypeId) (cs : Array Value) : Prop := w.heap[g]? = some (.cells cs t (0, 0))
theorem Row.lt {w : World} {g : Nat} {t : TypeId} {cs : Array Value} (h : Row w g t cs) : g < w.heap.size := lt_of_block h
theorem Row.cell {w : World} {g : Nat} {t : TypeId} {cs : Array Value} (h : Row w g t cs) : ∀ i, w.cell? ⟨g, i, none⟩ = cs[i]? := fun i => cell_of_row w g i cs t (0, 0) h
theorem Row.free {w : World} {g : Nat} {t : TypeId} {cs : Array Value} (h : Row w g t cs) : ∀ i, w.frozen? ⟨g, i, none⟩ = false := fun i => by unfold Row at h; simp [World.frozen?, h]
theorem Row.new (w : World) (t : TypeId) (cs : Array Value) : Row (w.alloc (.cells cs t)) w.heap.size t cs := heap_alloc_new w _
theorem Row.drew {w : World} {g : Nat} {t : TypeId} {cs : Array Value} (h : Row w g t cs) : Row w.drew g t cs := h
theorem Row.alloc {w : World} {g : Nat} {t : TypeId} {cs : Array Value} (h : Row w g t cs) (o : Obj) : Row (w.alloc o) g t cs := (Below.heap_alloc w o g h.lt).trans h
theorem Row.set {w : World} {g : Nat} {t : TypeId} {cs : Array Value} (h : Row w g t cs) (i : Nat) (u : Value) : Row (w.setCell ⟨g, i, none⟩ u) g t (cs.setIfInBounds i u) := by
  unfold Row at h ⊢
  simp [World.setCell, Array.getElem?_modify, h]
theorem Row.far {w : World} {g : Nat} {t : TypeId} {cs : Array Value} (h : Row w g t cs) {p : Addr} (hp : g ≠ p.block) (u : Value) : Row (w.setCell p u) g t cs := (Below.heap_setCell w p u g hp).trans h
theorem Row.below {w w' : World} {g : Nat} {t : TypeId} {cs : Array Value} {B : Nat} (h : Row w g t cs) (hb : Below B w w') (hg : g < B) : Row w' g t cs := (hb.block g hg).trans h
theorem Row.grown {w w' : World} {g : Nat} {t : TypeId} {cs : Array Value} {row : Option Nat} (h : Row w g t cs) (hb : w.grownBy w' row) (hg : some g ≠ row) : Row w' g t cs := (hb.block g h.lt hg).trans h

/-- What is known behind a call that was made when one, two blocks had just been laid. -/
theorem after1 {w w1 : World} {cs : Array Value} {t : TypeId} (h : Below (w.alloc (.cells cs t)).heap.size (w.alloc (.cells cs t)) w1) :
    (∀ j, w1.cell? ⟨w.heap.size, j, none⟩ = cs[j]?) ∧ (∀ j, w1.frozen? ⟨w.heap.size, j, none⟩ = false) ∧ w.heap.size < w1.heap.size ∧ Hid (Below w.heap.size w w1) := by
  have r := (Row.new w t cs).below h (by simp only [World.size_alloc]; omega)
  exact ⟨r.cell, r.free, r.lt, (Below.alloc (Below.refl _ _) (Nat.le_refl _) _).trans (h.mono (by simp only [World.size_alloc]; omega))⟩
theorem after2 {w w1 : World} {cs ds : Array Value} {t u : TypeId} (h : Below ((w.alloc (.cells cs t)).alloc (.cells ds u)).heap.size ((w.alloc (.cells cs t)).alloc (.cells ds u)) w1) :
    (∀ j, w1.cell? ⟨w.heap.size, j, none⟩ = cs[j]?) ∧ (∀ j, w1.frozen? ⟨w.heap.size, j, none⟩ = false) ∧ (∀ j, w1.cell? ⟨w.heap.size + 1, j, none⟩ = ds[j]?) ∧ (∀ j, w1.frozen? ⟨w.heap.size + 1, j, none⟩ = false) ∧
      w.heap.size + 1 < w1.heap.size ∧ Hid (Below w.heap.size w w1) := by
  have r := (Row.alloc (Row.new w t cs) (.cells ds u)).below h (by simp only [World.size_alloc]; omega)
  have q := (Row.new (w.alloc (.cells cs t)) u ds).below h (by simp only [World.size_alloc]; omega)
  simp only [World.size_alloc] at q
  exact ⟨r.cell, r.free, q.cell, q.free, q.lt, ((Below.alloc (Below.refl _ _) (Nat.le_refl _) _).alloc (by simp only [World.size_alloc]; omega) _).trans (h.mono (by simp only [World.size_alloc]; omega))⟩

/-- What comes depends on these facts of the world alone. -/
theorem rounds_abs {P : Program} {c : Code} {Q : Exit → Act → World → Prop} {n : Nat} {a : Act} {w : World} (F : World → Prop) (hF : F w) (hk : ∀ W, F W → Code.rounds P c Q n a W) : Code.rounds P c Q n a w := hk w hF
theorem wp_abs {P : Program} {c : Code} {Q : Exit → Act → World → Prop} {a : Act} {w : World} (F : World → Prop) (hF : F w) (hk : ∀ W, F W → Code.wp P c Q a W) : Code.wp P c Q a w := hk w hF

theorem run_make_rowN {P : Program} (t e : TypeId) (i : TypeInfo) (z : Value) (ht : P.underlying t = some (.slice e)) (hi : P.info? e = some i) (hz : i.zero = some z)
    (kl kc : IntKind) (n c : Nat) (hnc : n ≤ c) (hbytes : i.bytes * c ≤ 281474976710656) (h63 : c ≤ 9223372036854775807) (w : World) :
    (Instr.makeSlice t (.int kl (n : Int)) (.int kc (c : Int))).run P w = .ok (.slice (some ⟨w.heap.size, 0, none⟩) n c) (w.alloc (.cells (madeCells z.cells (c * i.size)) e)) := by
  have hb : (i.bytes : Int) * (c : Int) ≤ 281474976710656 := by
    have h : ((i.bytes * c : Nat) : Int) ≤ 281474976710656 := by omega
    rwa [Int.natCast_mul] at h
  have hr := run_make (P := P) w t e i z ht hi hz kl kc n c (by omega) (by omega) hb (by omega)
  simp only [Int.toNat_natCast] at hr
  exact hr

theorem info_int : (Tryd.prog.info? 3).map (fun i => (i.zero, i.size, i.bytes)) = some (some (.int .i64 0), 1, 8) := by kernel_rfl
theorem run_make_ints (n : Nat) (hn : n ≤ 1000000) (w : World) :
    (Instr.makeSlice 68 (.int .i64 (n : Int)) (.int .i64 (n : Int))).run Tryd.prog w = .ok (.slice (some ⟨w.heap.size, 0, none⟩) n n) (w.alloc (.cells (madeCells #[.int .i64 0] n) 3)) := by
  obtain ⟨i, hi, hz, h1, h2⟩ := info_parts info_int
  have := run_make_rowN (P := Tryd.prog) 68 3 i (.int .i64 0) Tryd.underlying68 hi hz .i64 .i64 n n (Nat.le_refl _) (by rw [h2]; omega) (by omega) w
  rw [h1, Nat.mul_one] at this
  exact this

theorem fld_form0 (W : World) (s x y : Value) : (Instr.field 79 (.agg #[s, x, y]) 0).run Tryd.prog W = .ok s W := by kernel_rfl
theorem fld_form1 (W : World) (s x y : Value) : (Instr.field 79 (.agg #[s, x, y]) 1).run Tryd.prog W = .ok x W := by kernel_rfl
theorem fld_form2 (W : World) (s x y : Value) : (Instr.field 79 (.agg #[s, x, y]) 2).run Tryd.prog W = .ok y W := by kernel_rfl

/-- The five cells of a mark. -/
def Mk.cells (m : Mk) : List Value := [.int .u8 m.op, .int .i64 m.x, .int .i64 m.y, .int .i64 m.a, .int .i64 m.b]
def fcells (f : List Mk) : List Value := f.flatMap Mk.cells
def OpOk (f : List Mk) : Prop := ∀ m ∈ f, 0 ≤ m.op ∧ m.op ≤ 255
theorem fcells_len (f : List Mk) : (fcells f).length = f.length * 5 := by
  induction f with
  | nil => rfl
  | cons m f ih => simp only [fcells, List.flatMap_cons, List.length_append, List.length_cons] at *; rw [ih]; simp [Mk.cells]; omega
theorem fcells_get (f : List Mk) (i : Nat) (m : Mk) (h : f[i]? = some m) (j : Nat) (hj : j < 5) : (fcells f)[i * 5 + j]? = m.cells[j]? := by
  induction f generalizing i with
  | nil => simp at h
  | cons a f ih =>
    simp only [fcells, List.flatMap_cons]
    cases i with
    | zero =>
      simp only [List.getElem?_cons_zero, Option.some.injEq] at h
      subst h
      rw [List.getElem?_append_left (by simp [Mk.cells]; omega)]
      simp
    | succ i =>
      simp only [List.getElem?_cons_succ] at h
      rw [List.getElem?_append_right (by simp [Mk.cells]; omega)]
      have := ih i h
      simp only [fcells] at this
      rw [← this]
      congr 1
      simp [Mk.cells]; omega
theorem fcells_append (f g : List Mk) : fcells (f ++ g) = fcells f ++ fcells g := by simp [fcells]
theorem fcells_one (f : List Mk) : ∀ u ∈ fcells f, u.oneCell' = true := by
  intro u hu
  simp only [fcells, List.mem_flatMap, Mk.cells] at hu
  obtain ⟨m, _, hu⟩ := hu
  simp only [List.mem_cons, List.not_mem_nil, or_false] at hu
  rcases hu with rfl | rfl | rfl | rfl | rfl <;> rfl

/-- The cells of a mark at a place. -/
def M5 (w : World) (b p : Nat) (m : Mk) : Prop :=
  w.cell? ⟨b, p, none⟩ = some (.int .u8 m.op) ∧ w.cell? ⟨b, p + 1, none⟩ = some (.int .i64 m.x) ∧ w.cell? ⟨b, p + 2, none⟩ = some (.int .i64 m.y) ∧
    w.cell? ⟨b, p + 3, none⟩ = some (.int .i64 m.a) ∧ w.cell? ⟨b, p + 4, none⟩ = some (.int .i64 m.b)
theorem M5.keep {w w' : World} {b p : Nat} {m : Mk} (h : M5 w b p m) (hk : ∀ o, w'.cell? ⟨b, o, none⟩ = w.cell? ⟨b, o, none⟩) : M5 w' b p m := by
  unfold M5 at *
  simpa only [hk] using h

/-- The slice value v reads as the marks f. -/
def MS (w : World) (v : Value) (f : List Mk) : Prop :=
  OpOk f ∧ ∃ A c, v = .slice A f.length c ∧ f.length ≤ c ∧ c ≤ 9223372036854775807 ∧
    (0 < f.length → ∃ b o, A = some ⟨b, o, none⟩ ∧ b < w.heap.size ∧ ∀ i m, f[i]? = some m → M5 w b (o + i * 5) m)
theorem MS.below {w w' : World} {v : Value} {f : List Mk} {B : Nat} (h : MS w v f) (hb : Below B w w') (hB : w.heap.size ≤ B) : MS w' v f := by
  obtain ⟨h0, A, c, hv, h1, h2, h3⟩ := h
  refine ⟨h0, A, c, hv, h1, h2, fun hp => ?_⟩
  obtain ⟨b, o, hA, hlt, hm⟩ := h3 hp
  exact ⟨b, o, hA, Nat.lt_of_lt_of_le hlt hb.size, fun i m him => (hm i m him).keep fun q => hb.cell (p := ⟨b, q, none⟩) (by simpa using Nat.lt_of_lt_of_le hlt hB)⟩
theorem MS.nil (w : World) : MS w (.slice none 0 0) [] := ⟨by simp [OpOk], none, 0, rfl, by simp, by omega, by simp⟩

/-- The slice value v reads as the marks f, in a block of its own from B on. -/
def MO (w : World) (B : Nat) (v : Value) (f : List Mk) : Prop := OpOk f ∧ w.ownsRow B 23 5 v f.length (fcells f)
theorem MO.nil (w : World) (B : Nat) : MO w B (.slice none 0 0) [] := ⟨by simp [OpOk], World.ownsRow_nil _ _ _ _⟩
theorem MO.ms {w : World} {B : Nat} {v : Value} {f : List Mk} (h : MO w B v f) : MS w v f := by
  obtain ⟨h0, h⟩ := h
  have hx := h
  refine ⟨h0, ?_⟩
  rcases h.2 with ⟨hv, hn⟩ | ⟨g, cap, cur, hv, hB, hg, hnc, hcm, hcs, ht⟩
  · exact ⟨none, 0, by rw [hv, hn], by omega, by omega, by omega⟩
  · refine ⟨some ⟨g, 0, none⟩, cap, hv, hnc, by simpa [maxLen] using hcm, fun _ => ⟨g, 0, rfl, lt_of_block hg, fun i m hi => ?_⟩⟩
    have hi' : i < f.length := (List.getElem?_eq_some_iff.1 hi).1
    have key : ∀ j, j < 5 → w.cell? ⟨g, 0 + i * 5 + j, none⟩ = m.cells[j]? := fun j hj => by
      subst hv
      rw [Nat.zero_add, hx.cellAt _ (by omega), fcells_get f i m hi j hj]
    exact ⟨key 0 (by omega), key 1 (by omega), key 2 (by omega), key 3 (by omega), key 4 (by omega)⟩
theorem MO.below {w w' : World} {B B' : Nat} {v : Value} {f : List Mk} (h : MO w B v f) (hb : Below B' w w') (hB : w.heap.size ≤ B') : MO w' B v f := by
  obtain ⟨h0, h1, h⟩ := h
  refine ⟨h0, h1, ?_⟩
  rcases h with h | ⟨g, cap, cur, hv, hBg, hg, r⟩
  · exact .inl h
  · exact .inr ⟨g, cap, cur, hv, hBg, (hb.block g (Nat.lt_of_lt_of_le (lt_of_block hg) hB)).trans hg, r⟩
theorem MO.mono {w : World} {B B' : Nat} {v : Value} {f : List Mk} (h : MO w B v f) (hB : B' ≤ B) : MO w B' v f := by
  obtain ⟨h0, h1, h⟩ := h
  refine ⟨h0, h1, ?_⟩
  rcases h with h | ⟨g, cap, cur, hv, hB, hg, r⟩
  · exact .inl h
  · exact .inr ⟨g, cap, cur, hv, by omega, hg, r⟩

theorem info_mark : (Tryd.prog.info? 23).map (fun i => (i.zero, i.size, i.bytes)) = some (some (.agg #[.int .u8 0, .int .i64 0, .int .i64 0, .int .i64 0, .int .i64 0]), 5, 40) := by kernel_rfl

/-- A slice of ints that reads as a list. -/
def IS (w : World) (v : Value) (l : List Int) : Prop :=
  ∃ A c, v = .slice A l.length c ∧ l.length ≤ c ∧ c ≤ 9223372036854775807 ∧
    (0 < l.length → ∃ b o, A = some ⟨b, o, none⟩ ∧ b < w.heap.size ∧ ∀ i x, l[i]? = some x → w.cell? ⟨b, o + i, none⟩ = some (.int .i64 x))
theorem IS.below {w w' : World} {v : Value} {f : List Int} {B : Nat} (h : IS w v f) (hb : Below B w w') (hB : w.heap.size ≤ B) : IS w' v f := by
  obtain ⟨A, c, hv, h1, h2, h3⟩ := h
  refine ⟨A, c, hv, h1, h2, fun hp => ?_⟩
  obtain ⟨b, o, hA, hlt, hm⟩ := h3 hp
  exact ⟨b, o, hA, Nat.lt_of_lt_of_le hlt hb.size, fun i m him => (hb.cell (p := ⟨b, o + i, none⟩) (by simpa using Nat.lt_of_lt_of_le hlt hB)).trans (hm i m him)⟩
theorem IS.nil (w : World) : IS w (.slice none 0 0) [] := ⟨none, 0, rfl, by simp, by omega, by simp⟩

end Go.Proofs.YtcjblbhmajdmjaaDoor

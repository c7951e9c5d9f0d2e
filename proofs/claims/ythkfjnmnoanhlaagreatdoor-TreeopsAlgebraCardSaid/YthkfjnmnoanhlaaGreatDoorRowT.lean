/- From a contract to a row, for the statements of chapter 15: the arguments are read, the call leaves them as they were. -/
import Derived.Test.YthkfjnmnoanhlaaGreatDoorBase
import Derived.Test.YthkfjnmnoanhlaaGreatDoorCards
import Derived.Test.YthkfjnmnoanhlaaGreatDoorTie
import Derived.Test.YthkfjnmnoanhlaaGreatDoorLfA
import Derived.ProofKit
import Derived.OpenShut
import Derived.Carry
import Derived.Deep.Slices
import Derived.Deep.DeepHandedRow
import Derived.Lib.LaidTab
set_option linter.unusedSimpArgs false
set_option linter.unusedVariables false
namespace Go.Proofs.YthkfjnmnoanhlaaGreatDoor
open Go.ChangeShapes Go.WideShapes Go.ChangeAt Go.RowKit

theorem rowOwn : ownKnob Tryz.prog.godebug = none := by kernel_rfl
theorem rowLaid : laidOutB Tryz.prog = true := by kernel_rfl

theorem below_trodAll {H : Type} {enc : TypeId × Value → H} {W W' : World} (hb : Below W.heap.size W W') : ∀ {ts : List TypeId} {vs : List Value} {ds : List (DataW H)} {ps : List MemPlace}, (∀ t ∈ ts, Tryz.prog.readableRec t = true ∧ t < Tryz.prog.types.size) →
    DataW.TrodAll enc Tryz.prog W 0 (fun _ => true) true ts vs ds ps → (∀ x ∈ ps, x.block < W.heap.size) → DataW.TrodAll enc Tryz.prog W' 0 (fun b => decide (b < W.heap.size)) true ts vs ds ps
  | [], [], [], _, _, h, _ => h
  | [], _ :: _, _, _, _, h, _ => by cases h
  | [], [], _ :: _, _, _, h, _ => by cases h
  | _ :: _, [], _, _, _, h, _ => by cases h
  | _ :: _, _ :: _, [], _, _, h, _ => by cases h
  | t :: ts, v :: vs, d :: ds, ps, ht, h, hl => by
    obtain ⟨p, q, h1, h2, rfl⟩ := h
    exact ⟨p, q, Below.trod rowLaid (ht t (by simp)).1 (ht t (by simp)).2 h1 hb (fun x hx => hl x (by simp [hx])), below_trodAll hb (fun t' h' => ht t' (by simp [h'])) h2 (fun x hx => hl x (by simp [hx])), rfl⟩

/-- What a law's row asks behind the call. -/
theorem law_post {H : Type} {enc : TypeId × Value → H} {f : Func} {s : ChangeSpec} {W W' : World} {args : Array Value} {ds gs : List (DataW H)} {before : List MemPlace} (hs : s.vars = []) (hf : f.resultTypes.toList = [4]) (hf2 : f.resultTypes.size = 1)
    (hW : DataW.Whole enc Tryz.prog f.params.toList s.vars false W args.toList ds gs before) (hb : Below W.heap.size W W') (ht : ∀ t ∈ f.params.toList, Tryz.prog.readableRec t = true ∧ t < Tryz.prog.types.size)
    (hfn : (s.fn H (ds ++ gs)).results = [.lit (.bool true)] ∧ (s.fn H (ds ++ gs)).args = ds ∧ (s.fn H (ds ++ gs)).vars = []) : s.post enc Tryz.prog f false true false false W args (.bool true) W' := by
  have hlt := hW.lt
  have hW' := hW
  obtain ⟨p, q, hA, hV, rfl, _, _⟩ := hW
  rw [hs] at hV
  obtain ⟨rfl, rfl⟩ := trodVars_none hV
  refine ⟨ds, [], _, [], p, [], hW', ?_, ?_, ?_, hb.frame _, fun h => by cases h⟩
  · rw [hf, hf2, hfn.1]
    exact trodAll_mk1 (shut_bool Tryz.underlying4 _)
  · rw [hfn.2.1]
    exact below_trodAll hb ht hA fun x hx => hlt x (by simp [hx])
  · rw [hs, hfn.2.2]
    exact rfl

theorem cells_u8 : Tryz.prog.cellsOf 5 = 1 := by kernel_rfl
theorem cells_int : Tryz.prog.cellsOf 3 = 1 := by kernel_rfl

theorem cells_leaf : Tryz.prog.cellsOf 61 = 3 := by kernel_rfl
theorem three {cs : List Value} (h : cs.length = 3) : ∃ a b c, cs = [a, b, c] := by
  match cs, h with
  | [a, b, c], _ => exact ⟨a, b, c, rfl⟩
theorem und_leaf : ∃ f0 f1 f2 : Field, Tryz.prog.underlying 61 = some (.struct #[f0, f1, f2]) ∧ f0.type = 5 ∧ f1.type = 3 ∧ f2.type = 3 ∧
    f0.offset = 0 ∧ f1.offset = 1 ∧ f2.offset = 2 := ⟨_, _, _, Tryz.underlying61, rfl, rfl, rfl, rfl, rfl, rfl⟩
/-- A leaf that can be read has three integer cells. -/
theorem open_leaf {H : Type} {enc : TypeId × Value → H} {W : World} {base : Nat} {sp : Nat → Bool} {held : Bool} {fuel : Nat} {cs : List Value} {x : DataW H × List MemPlace} (h : DataW.trod enc Tryz.prog W base sp held fuel 61 cs = some x) :
    ∃ m : Lf, cs = m.cells ∧ 0 ≤ m.label ∧ m.label ≤ 255 := by
  obtain ⟨f0, f1, f2, hu, t0, t1, t2, o0, o1, o2⟩ := und_leaf
  obtain ⟨xs, n, _, _, hl, hxl, hx⟩ := DataW.trod_struct hu h
  rw [cells_leaf] at hl
  obtain ⟨a, b, c, rfl⟩ := three hl
  have g0 := hx 0 f0 rfl
  have g1 := hx 1 f1 rfl
  have g2 := hx 2 f2 rfl
  have hxl' : xs.length = 3 := hxl
  rw [t0, o0, cells_u8, List.getElem?_eq_getElem (by omega)] at g0
  rw [t1, o1, cells_int, List.getElem?_eq_getElem (by omega)] at g1
  rw [t2, o2, cells_int, List.getElem?_eq_getElem (by omega)] at g2
  simp only [List.drop_zero, List.drop_succ_cons, List.take_succ_cons, List.take_zero] at g0 g1 g2
  obtain ⟨i0, e0, _, w0⟩ := DataW.trod_int Tryz.underlying5 g0
  obtain ⟨i1, e1, _, w1⟩ := DataW.trod_int Tryz.underlying3 g1
  obtain ⟨i2, e2, _, w2⟩ := DataW.trod_int Tryz.underlying3 g2
  injection e0 with e0 _
  injection e1 with e1 _
  injection e2 with e2 _
  subst e0; subst e1; subst e2
  have hb := bounds_u8 w0
  exact ⟨⟨i0, i1, i2⟩, rfl, hb.1, by have := hb.2; simpa using this⟩

instance : Inhabited Lf := ⟨⟨0, 0, 0⟩⟩
set_option maxRecDepth 100000 in
/-- An argument that is a tree, opened. -/
theorem open_tree {H : Type} {enc : TypeId × Value → H} {W : World} {d : DataW H} {p : List MemPlace} {v : Value} (h : DataW.Trod enc Tryz.prog W 0 (fun _ => true) true 34 v d p) (hval : Value.okWide Tryz.prog W .any 0 34 v) :
    ∃ f, TS W v f := by
  obtain ⟨a0, len, cap, rfl⟩ := okWide_slice Tryz.underlying34 hval
  obtain ⟨fuel, hf⟩ := h
  rcases Go.Deep.open_slice Tryz.underlying34 hf with ⟨hcs, _⟩ | ⟨a, l, c, m, n, D, Pl, hcs, _, hl, hm, hmm, _, hx⟩
  · simp only [Value.cells, List.cons.injEq, and_true] at hcs
    cases hcs
    exact ⟨[], TS.nil W⟩
  · have hcs' : Value.slice a0 len cap = .slice (some a) l c := by simpa [Value.cells] using hcs
    cases hcs'
    simp only [if_true] at hmm
    subst hmm
    rw [cells_leaf] at hx
    have hx2 : ∀ i, i < len → ∃ m : Lf, W.cells? 0 (a.add (i * 3)) 3 = some m.cells ∧ 0 ≤ m.label ∧ m.label ≤ 255 := fun i hi => by
      obtain ⟨cs', h1, h2⟩ := hx i (by omega)
      obtain ⟨mm, rfl, h3⟩ := open_leaf h2
      exact ⟨mm, h1, h3⟩
    obtain ⟨F, hF⟩ := Go.Deep.choose_lt (α := Lf) hx2
    refine ⟨(List.range len).map F, fun mm hmm => ?_, some a, m, by simp, by simpa using hl, (by unfold maxLen at hm; exact hm), fun hp => ?_⟩
    · obtain ⟨i, hi, rfl⟩ := List.mem_map.1 hmm
      exact (hF i (List.mem_range.1 hi)).2
    · simp only [List.length_map, List.length_range] at hp
      obtain ⟨b, off, spot⟩ := a
      have key : ∀ i, i < len → ∀ j, j < 3 → W.cell? (((⟨b, off, spot⟩ : Addr).add (i * 3)).add j) = (F i).cells[j]? := fun i hi j hj => (World.cells?_some (hF i hi).1).2.2 j hj
      have hspot : spot = none := by
        have h0 := key 0 hp 0 (by omega)
        simp only [Nat.zero_mul] at h0
        have : W.cell? ⟨b, off, spot⟩ = some (.int .u8 (F 0).label) := by simpa [Addr.add, Lf.cells] using h0
        exact World.cell?_spot this
      subst hspot
      have hadd : ∀ (o j : Nat), (⟨b, o, none⟩ : Addr).add j = ⟨b, o + j, none⟩ := fun o j => Go.WideShapes.add_plain b o j
      simp only [hadd] at key
      refine ⟨b, off, rfl, ?_, fun i mm hi => ?_⟩
      · have h0 := key 0 hp 0 (by omega)
        simp only [Nat.zero_mul, Nat.add_zero] at h0
        exact World.block_lt_of_cell? _ _ h0
      · obtain ⟨hi1, hi2⟩ := List.getElem?_eq_some_iff.1 hi
        simp only [List.length_map, List.length_range] at hi1
        simp only [List.getElem_map, List.getElem_range] at hi2
        subst hi2
        exact ⟨key i hi1 0 (by omega), key i hi1 1 (by omega), key i hi1 2 (by omega)⟩


def litV : DataW Unit → Value
  | .lit (.int k n) => .int k n
  | _ => undef
def litCells : DataW Unit → List Value
  | .agg l => l.map litV
  | _ => []
def layAs (vs : List Value) : Obj → Obj
  | .cells _ t frozen => .cells vs.toArray t frozen
  | o => o
abbrev rangesV : List Value := [.int .u8 128, .int .u8 191, .int .u8 160, .int .u8 191, .int .u8 128, .int .u8 159, .int .u8 144, .int .u8 191, .int .u8 128, .int .u8 143, .int .u8 0, .int .u8 0, .int .u8 0, .int .u8 0, .int .u8 0, .int .u8 0, .int .u8 0, .int .u8 0, .int .u8 0, .int .u8 0, .int .u8 0, .int .u8 0, .int .u8 0, .int .u8 0, .int .u8 0, .int .u8 0, .int .u8 0, .int .u8 0, .int .u8 0, .int .u8 0, .int .u8 0, .int .u8 0]
end Go.Proofs.YthkfjnmnoanhlaaGreatDoor

/- From a contract to a row: the arguments are read, the call leaves them as they were. -/
import Derived.Test.YtcjblbhmajdmjaaDoorBase
import Derived.Test.YtcjblbhmajdmjaaDoorCards
import Derived.Test.YtcjblbhmajdmjaaDoorTie
import Derived.ProofKit
import Derived.OpenShut
import Derived.Carry
import Derived.Deep.Slices
import Derived.Deep.DeepHandedRow
import Derived.Lib.LaidTab
set_option linter.unusedSimpArgs false
set_option linter.unusedVariables false
namespace Go.Proofs.YtcjblbhmajdmjaaDoor
open Go.ChangeShapes Go.WideShapes Go.ChangeAt Go.RowKit

theorem rowOwn : ownKnob Tryd.prog.godebug = none := by kernel_rfl
theorem rowLaid : laidOutB Tryd.prog = true := by kernel_rfl

theorem below_trodAll {H : Type} {enc : TypeId × Value → H} {W W' : World} (hb : Below W.heap.size W W') : ∀ {ts : List TypeId} {vs : List Value} {ds : List (DataW H)} {ps : List MemPlace}, (∀ t ∈ ts, Tryd.prog.readableRec t = true ∧ t < Tryd.prog.types.size) →
    DataW.TrodAll enc Tryd.prog W 0 (fun _ => true) true ts vs ds ps → (∀ x ∈ ps, x.block < W.heap.size) → DataW.TrodAll enc Tryd.prog W' 0 (fun b => decide (b < W.heap.size)) true ts vs ds ps
  | [], [], [], _, _, h, _ => h
  | [], _ :: _, _, _, _, h, _ => by cases h
  | [], [], _ :: _, _, _, h, _ => by cases h
  | _ :: _, [], _, _, _, h, _ => by cases h
  | _ :: _, _ :: _, [], _, _, h, _ => by cases h
  | t :: ts, v :: vs, d :: ds, ps, ht, h, hl => by
    obtain ⟨p, q, h1, h2, rfl⟩ := h
    exact ⟨p, q, Below.trod rowLaid (ht t (by simp)).1 (ht t (by simp)).2 h1 hb (fun x hx => hl x (by simp [hx])), below_trodAll hb (fun t' h' => ht t' (by simp [h'])) h2 (fun x hx => hl x (by simp [hx])), rfl⟩

/-- What a law's row asks behind the call. -/
theorem law_post {H : Type} {enc : TypeId × Value → H} {f : Func} {s : ChangeSpec} {W W' : World} {args : Array Value} {ds gs : List (DataW H)} {before : List MemPlace} (hs : s.vars = []) (hf : f.resultTypes.toList = [4]) (hf2 : f.resultTypes.size = 1)
    (hW : DataW.Whole enc Tryd.prog f.params.toList s.vars false W args.toList ds gs before) (hb : Below W.heap.size W W') (ht : ∀ t ∈ f.params.toList, Tryd.prog.readableRec t = true ∧ t < Tryd.prog.types.size)
    (hfn : (s.fn H (ds ++ gs)).results = [.lit (.bool true)] ∧ (s.fn H (ds ++ gs)).args = ds ∧ (s.fn H (ds ++ gs)).vars = []) : s.post enc Tryd.prog f false true false false W args (.bool true) W' := by
  have hlt := hW.lt
  have hW' := hW
  obtain ⟨p, q, hA, hV, rfl, _, _⟩ := hW
  rw [hs] at hV
  obtain ⟨rfl, rfl⟩ := trodVars_none hV
  refine ⟨ds, [], _, [], p, [], hW', ?_, ?_, ?_, hb.frame _, fun h => by cases h⟩
  · rw [hf, hf2, hfn.1]
    exact trodAll_mk1 (shut_bool Tryd.underlying4 _)
  · rw [hfn.2.1]
    exact below_trodAll hb ht hA fun x hx => hlt x (by simp [hx])
  · rw [hs, hfn.2.2]
    exact rfl

theorem cells_mark : Tryd.prog.cellsOf 23 = 5 := by kernel_rfl
theorem five {cs : List Value} (h : cs.length = 5) : ∃ a b c d e, cs = [a, b, c, d, e] := by
  match cs, h with
  | [a, b, c, d, e], _ => exact ⟨a, b, c, d, e, rfl⟩
theorem und_mark : ∃ f0 f1 f2 f3 f4 : Field, Tryd.prog.underlying 23 = some (.struct #[f0, f1, f2, f3, f4]) ∧ f0.type = 5 ∧ f1.type = 3 ∧ f2.type = 3 ∧ f3.type = 3 ∧ f4.type = 3 ∧
    f0.offset = 0 ∧ f1.offset = 1 ∧ f2.offset = 2 ∧ f3.offset = 3 ∧ f4.offset = 4 := ⟨_, _, _, _, _, Tryd.underlying23, rfl, rfl, rfl, rfl, rfl, rfl, rfl, rfl, rfl, rfl⟩
theorem cells_u8 : Tryd.prog.cellsOf 5 = 1 := by kernel_rfl
theorem cells_int : Tryd.prog.cellsOf 3 = 1 := by kernel_rfl

/-- A mark that can be read has five integer cells. -/
theorem open_mark {H : Type} {enc : TypeId × Value → H} {W : World} {base : Nat} {sp : Nat → Bool} {held : Bool} {fuel : Nat} {cs : List Value} {x : DataW H × List MemPlace} (h : DataW.trod enc Tryd.prog W base sp held fuel 23 cs = some x) :
    ∃ m : Mk, cs = m.cells ∧ 0 ≤ m.op ∧ m.op ≤ 255 := by
  obtain ⟨f0, f1, f2, f3, f4, hu, t0, t1, t2, t3, t4, o0, o1, o2, o3, o4⟩ := und_mark
  obtain ⟨xs, n, _, _, hl, hxl, hx⟩ := DataW.trod_struct hu h
  rw [cells_mark] at hl
  obtain ⟨a, b, c, d, e, rfl⟩ := five hl
  have g0 := hx 0 f0 rfl
  have g1 := hx 1 f1 rfl
  have g2 := hx 2 f2 rfl
  have g3 := hx 3 f3 rfl
  have g4 := hx 4 f4 rfl
  have hxl' : xs.length = 5 := hxl
  rw [t0, o0, cells_u8, List.getElem?_eq_getElem (by omega)] at g0
  rw [t1, o1, cells_int, List.getElem?_eq_getElem (by omega)] at g1
  rw [t2, o2, cells_int, List.getElem?_eq_getElem (by omega)] at g2
  rw [t3, o3, cells_int, List.getElem?_eq_getElem (by omega)] at g3
  rw [t4, o4, cells_int, List.getElem?_eq_getElem (by omega)] at g4
  simp only [List.drop_zero, List.drop_succ_cons, List.take_succ_cons, List.take_zero] at g0 g1 g2 g3 g4
  obtain ⟨i0, e0, _, w0⟩ := DataW.trod_int Tryd.underlying5 g0
  obtain ⟨i1, e1, _, w1⟩ := DataW.trod_int Tryd.underlying3 g1
  obtain ⟨i2, e2, _, w2⟩ := DataW.trod_int Tryd.underlying3 g2
  obtain ⟨i3, e3, _, w3⟩ := DataW.trod_int Tryd.underlying3 g3
  obtain ⟨i4, e4, _, w4⟩ := DataW.trod_int Tryd.underlying3 g4
  injection e0 with e0 _
  injection e1 with e1 _
  injection e2 with e2 _
  injection e3 with e3 _
  injection e4 with e4 _
  subst e0; subst e1; subst e2; subst e3; subst e4
  have hb := bounds_u8 w0
  exact ⟨⟨i0, i1, i2, i3, i4⟩, rfl, hb.1, by have := hb.2; simpa using this⟩

instance : Inhabited Mk := ⟨⟨0, 0, 0, 0, 0⟩⟩
set_option maxRecDepth 100000 in
/-- An argument that is a formula, opened. -/
theorem open_formula {H : Type} {enc : TypeId × Value → H} {W : World} {d : DataW H} {p : List MemPlace} {v : Value} (h : DataW.Trod enc Tryd.prog W 0 (fun _ => true) true 25 v d p) (hval : Value.okWide Tryd.prog W .any 0 25 v) :
    ∃ f, MS W v f := by
  obtain ⟨a0, len, cap, rfl⟩ := okWide_slice Tryd.underlying25 hval
  obtain ⟨fuel, hf⟩ := h
  rcases Go.Deep.open_slice Tryd.underlying25 hf with ⟨hcs, _⟩ | ⟨a, l, c, m, n, D, Pl, hcs, _, hl, hm, hmm, _, hx⟩
  · simp only [Value.cells, List.cons.injEq, and_true] at hcs
    cases hcs
    exact ⟨[], MS.nil W⟩
  · have hcs' : Value.slice a0 len cap = .slice (some a) l c := by simpa [Value.cells] using hcs
    cases hcs'
    simp only [if_true] at hmm
    subst hmm
    rw [cells_mark] at hx
    have hx2 : ∀ i, i < len → ∃ m : Mk, W.cells? 0 (a.add (i * 5)) 5 = some m.cells ∧ 0 ≤ m.op ∧ m.op ≤ 255 := fun i hi => by
      obtain ⟨cs', h1, h2⟩ := hx i (by omega)
      obtain ⟨mm, rfl, h3⟩ := open_mark h2
      exact ⟨mm, h1, h3⟩
    obtain ⟨F, hF⟩ := Go.Deep.choose_lt (α := Mk) hx2
    refine ⟨(List.range len).map F, fun mm hmm => ?_, some a, m, by simp, by simpa using hl, (by unfold maxLen at hm; exact hm), fun hp => ?_⟩
    · obtain ⟨i, hi, rfl⟩ := List.mem_map.1 hmm
      exact (hF i (List.mem_range.1 hi)).2
    · simp only [List.length_map, List.length_range] at hp
      obtain ⟨b, off, spot⟩ := a
      have key : ∀ i, i < len → ∀ j, j < 5 → W.cell? (((⟨b, off, spot⟩ : Addr).add (i * 5)).add j) = (F i).cells[j]? := fun i hi j hj => (World.cells?_some (hF i hi).1).2.2 j hj
      have hspot : spot = none := by
        have h0 := key 0 hp 0 (by omega)
        simp only [Nat.zero_mul] at h0
        have : W.cell? ⟨b, off, spot⟩ = some (.int .u8 (F 0).op) := by simpa [Addr.add, Mk.cells] using h0
        exact World.cell?_spot this
      subst hspot
      have hadd : ∀ (o j : Nat), (⟨b, o, none⟩ : Addr).add j = ⟨b, o + j, none⟩ := fun o j => Go.WideShapes.add_plain b o j
      simp only [hadd] at key
      refine ⟨b, off, rfl, ?_, fun i mm hi => ?_⟩
      · have h0 := key 0 hp 0 (by omega)
        simp only [Nat.zero_mul, Nat.add_zero] at h0
        exact World.block_lt_of_cell? _ _ h0
      · obtain ⟨hi1, hi2⟩ := List.getElem?_eq_some_iff.1 hi
        simp only [List.length_map, List.length_range] at hi1
        simp only [List.getElem_map, List.getElem_range] at hi2
        subst hi2
        exact ⟨key i hi1 0 (by omega), key i hi1 1 (by omega), key i hi1 2 (by omega), key i hi1 3 (by omega), key i hi1 4 (by omega)⟩
end Go.Proofs.YtcjblbhmajdmjaaDoor

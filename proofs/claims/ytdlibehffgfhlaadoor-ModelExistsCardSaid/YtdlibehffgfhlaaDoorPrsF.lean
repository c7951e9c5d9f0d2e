/- Contracts: Parse and its deferred closure. -/
import Derived.Test.YtdlibehffgfhlaaDoorPrsE
import Derived.Defers
import Derived.Recover
set_option linter.unusedSimpArgs false
set_option linter.unusedVariables false
namespace Go.Proofs.YtdlibehffgfhlaaDoor
open Go.RowKit

theorem catch_idle (p1 p2 p3 : Addr) (w : World) :
    CallsD Tryd.prog 56 #[.pointer (some p1), .pointer (some p2), .pointer (some p3)] .returning w fun e u' w' => e = .returned (.tuple #[]) ∧ u' = .returning ∧ w' = w := by
  refine callsD_of_wpS Tryd.func56 rfl fun c₀ cs hu => ?_
  apply wpS_seq
  apply wpS_region
  simp [wpOpsS, go_sem, recoverD, hu, Tryd.ntmps56, Exit.thenS]
  refine wpS_of_wp ?_
  go_wp2
  cases c₀
  simp_all [bodyPostS, results, Tryd.results56]
def CatchPost (bf ba be p : Nat) (k : Int) (w w' : World) : Prop :=
  Row w' bf 25 #[.slice none 0 0] ∧ Row w' ba 3 #[.int .i64 p] ∧ Row w' be 31 #[.int .i64 k] ∧ Keep (fun b => b = bf ∨ b = ba ∨ b = be) w w'
set_option maxRecDepth 100000 in
set_option maxHeartbeats 1000000 in
theorem catch_wrong (bf ba be p : Nat) (k : Int) (x y z : Value) (w : World) (h1 : Row w bf 25 #[x]) (h2 : Row w ba 3 #[y]) (h3 : Row w be 31 #[z]) (d1 : bf ≠ ba) (d2 : bf ≠ be) (d3 : ba ≠ be) :
    CallsD Tryd.prog 56 #[.pointer (some ⟨bf, 0, none⟩), .pointer (some ⟨ba, 0, none⟩), .pointer (some ⟨be, 0, none⟩)] (.panicking (Pan p k)) w fun e u' w' =>
      e = .returned (.tuple #[]) ∧ (∃ v, u' = .panicking [{ v := v, recovered := true }]) ∧ CatchPost bf ba be p k w w' := by
  have c1 := h1.cell; have c2 := h2.cell; have c3 := h3.cell
  have f1 := h1.free; have f2 := h2.free; have f3 := h3.free
  have l1 := h1.lt; have l2 := h2.lt; have l3 := h3.lt
  refine callsD_of_wpS Tryd.func56 rfl fun c₀ cs hu => ?_
  unfold Pan at hu
  apply wpS_seq
  apply wpS_region
  simp [wpOpsS, go_sem, recoverD, hu, Tryd.ntmps56, Exit.thenS]
  refine wpS_of_wp ?_
  change Code.wp _ _ _ { tmps := #[.pointer (some ⟨bf, 0, none⟩), .pointer (some ⟨ba, 0, none⟩), .pointer (some ⟨be, 0, none⟩), undef, undef, undef, .iface 86 (.agg #[.int .i64 p, .int .i64 k]), undef, undef, undef, undef, undef, undef, undef, undef, undef], defers := [] } _
  have hta : ∀ (a b : Value) (W : World), (Instr.typeAssert (.iface 86 (.agg #[a, b])) 20 86 true).run Tryd.prog W = .ok (.tuple #[.agg #[a, b], .bool true]) W := fun _ _ _ => by kernel_rfl
  go_wp2
  go_region
  go_wp2
  have hcp : CatchPost bf ba be p k w ((((w.setCell ⟨bf, 0, none⟩ (.slice none 0 0)).setCell ⟨ba, 0, none⟩ (.int .i64 p)).setCell ⟨be, 0, none⟩ (.int .i64 k)).alloc (.cells #[.int .i64 p, .int .i64 k] 86)).drew :=
    ⟨(((h1.set 0 (.slice none 0 0)).far d1 _).far d2 _).alloc _, (((h2.far d1.symm _).set 0 (.int .i64 p)).far d3 _).alloc _, (((h3.far d2.symm _).far d3.symm _).set 0 (.int .i64 k)).alloc _,
      ((((Keep.refl _ _).set (p := ⟨bf, 0, none⟩) (.inl (.inl rfl)) _).set (p := ⟨ba, 0, none⟩) (.inl (.inr (.inl rfl))) _).set (p := ⟨be, 0, none⟩) (.inl (.inr (.inr rfl))) _).alloc _ |>.drew⟩
  have HCP := Lib.hid hcp; clear hcp
  cases c₀
  simp only at hu
  subst hu
  simp [bodyPostS, results, Tryd.results56]
  exact HCP.out

/-- Three results: a formula of the call's own, a place, an error. -/
def RetFPE (w : World) (r : List Mk × Nat × Int) (e : Ending) (w' : World) : Prop := ∃ v, e = .returned (.tuple #[v, .int .i64 r.2.1, .int .i64 r.2.2]) ∧ Below w.heap.size w w' ∧ MO w' w.heap.size v r.1

set_option maxRecDepth 100000 in
set_option maxHeartbeats 1000000 in
theorem Parse_long (S : ByteArray) (w : World) (hS : 4096 < S.size) : Calls Tryd.prog 18 #[.string S] w (RetFPE w ([], 0, 4)) := by
  have hmf : ∀ (fn : Fn) (first cap : Array Value) (W : World), (Instr.makeFunc fn first cap).run Tryd.prog W = .ok (.func fn first cap) W := fun _ _ _ _ => rfl
  go_enter_defers Tryd.func18, Tryd.ntmps18
  go_wp2
  exact ⟨.tuple #[.slice none 0 0, .int .i64 0, .int .i64 4], by simp [results, Tryd.results18, go_sem], ⟨_, rfl, by go_grown, MO.nil _ _⟩⟩
set_option maxRecDepth 100000 in
set_option maxHeartbeats 1000000 in
theorem Parse_err (S : ByteArray) (w : World) (hS : S.size ≤ 4096) (p : Nat) (k : Int) (h : form (bts S) 65 0 0 = .err p k) : Calls Tryd.prog 18 #[.string S] w (RetFPE w ([], p, k)) := by
  have hmf : ∀ (fn : Fn) (first cap : Array Value) (W : World), (Instr.makeFunc fn first cap).run Tryd.prog W = .ok (.func fn first cap) W := fun _ _ _ _ => rfl
  have hform := fun W h1 h2 => formula_any S (w.heap.size + 3) (w.heap.size + 3) (Nat.le_refl _) (by omega) 65 0 0 [] (.slice none 0 0) W h1 h2 (by omega) (by omega) (by omega) (by simp)
  rw [h] at hform
  have HF := Lib.hid hform; clear hform h
  go_enter_defers Tryd.func18, Tryd.ntmps18
  go_wp2_with (go_at_call 57; refine (HF.out _ (Row.lit (by simp only [World.size_alloc])) (MO.nil _ _)).mono ?_; rintro e w1 ⟨rfl, hb1⟩)
  have r1 := ((((Row.new w 25 #[.slice none 0 0]).alloc (.cells #[.int .i64 0] 3)).alloc (.cells #[.int .i64 0] 31)).alloc (.cells #[.string S, .int .i64 (0 : Nat), .slice none 0 0, .int .i64 (0 : Nat)] 89)).below hb1 (by omega)
  have r2 := (((Row.new (w.alloc (.cells #[.slice none 0 0] 25)) 3 #[.int .i64 0]).alloc (.cells #[.int .i64 0] 31)).alloc (.cells #[.string S, .int .i64 (0 : Nat), .slice none 0 0, .int .i64 (0 : Nat)] 89)).below hb1 (by simp only [World.size_alloc]; omega)
  have r3 := ((Row.new ((w.alloc (.cells #[.slice none 0 0] 25)).alloc (.cells #[.int .i64 0] 3)) 31 #[.int .i64 0]).alloc (.cells #[.string S, .int .i64 (0 : Nat), .slice none 0 0, .int .i64 (0 : Nat)] 89)).below hb1 (by simp only [World.size_alloc]; omega)
  simp only [World.size_alloc] at r2 r3
  have hbw : Below w.heap.size w w1 := (by go_grown : Below w.heap.size w ((((w.alloc (.cells #[.slice none 0 0] 25)).alloc (.cells #[.int .i64 0] 3)).alloc (.cells #[.int .i64 0] 31)).alloc (.cells #[.string S, .int .i64 (0 : Nat), .slice none 0 0, .int .i64 (0 : Nat)] 89))).trans (hb1.mono (by omega))
  refine leaves_cons (f := 56) (args := #[.pointer (some ⟨w.heap.size, 0, none⟩), .pointer (some ⟨w.heap.size + 1, 0, none⟩), .pointer (some ⟨w.heap.size + 1 + 1, 0, none⟩)]) (by simp [Pan]) (by simp [go_sem]) ?_
  refine (catch_wrong _ _ _ p k _ _ _ w1 r1 r2 r3 (by omega) (by omega) (by omega)).mono ?_
  rintro e u' w2 ⟨rfl, ⟨v, rfl⟩, c1, c2, c3, c4⟩
  have d1 := c1.cell; have d2 := c2.cell; have d3 := c3.cell
  show Leaves _ _ _ _ _ .returning w2
  exact ⟨.tuple #[.slice none 0 0, .int .i64 p, .int .i64 k], by simp [results, Tryd.results18, go_sem, d1, d2, d3], ⟨_, rfl, hbw.trans (c4.below_le hbw.size fun b hb => by omega), MO.nil _ _⟩⟩

set_option maxRecDepth 100000 in
set_option maxHeartbeats 1000000 in
theorem Parse_ok (S : ByteArray) (w : World) (hS : S.size ≤ 4096) (p : Nat) (a : Nat × Tr) (h : form (bts S) 65 0 0 = .ok p a) (r : List Mk × Nat × Int) (hr : r = if p < S.size then ([], p, 5) else (a.2.enc 0, 0, 0)) : Calls Tryd.prog 18 #[.string S] w (RetFPE w r) := by
  have hmf : ∀ (fn : Fn) (first cap : Array Value) (W : World), (Instr.makeFunc fn first cap).run Tryd.prog W = .ok (.func fn first cap) W := fun _ _ _ _ => rfl
  have hform := fun W h1 h2 => formula_any S (w.heap.size + 3) (w.heap.size + 3) (Nat.le_refl _) (by omega) 65 0 0 [] (.slice none 0 0) W h1 h2 (by omega) (by omega) (by omega) (by simp)
  rw [h] at hform
  have HF := Lib.hid hform; clear hform h
  have HR := Lib.hid hr; clear hr
  go_enter_defers Tryd.func18, Tryd.ntmps18
  have hrows : ∀ w1, Keep (fun b => b = w.heap.size + 3 ∨ (Value.slice none 0 0).ownBlock = some b) ((((w.alloc (.cells #[.slice none 0 0] 25)).alloc (.cells #[.int .i64 0] 3)).alloc (.cells #[.int .i64 0] 31)).alloc (.cells #[.string S, .int .i64 (0 : Nat), .slice none 0 0, .int .i64 (0 : Nat)] 89)) w1 →
      Row w1 w.heap.size 25 #[.slice none 0 0] ∧ Row w1 (w.heap.size + 1) 3 #[.int .i64 0] ∧ Row w1 (w.heap.size + 1 + 1) 31 #[.int .i64 0] ∧ Below w.heap.size w w1 := by
    intro w1 hk
    have r1 := ((((Row.new w 25 #[.slice none 0 0]).alloc (.cells #[.int .i64 0] 3)).alloc (.cells #[.int .i64 0] 31)).alloc (.cells #[.string S, .int .i64 (0 : Nat), .slice none 0 0, .int .i64 (0 : Nat)] 89))
    have r2 := (((Row.new (w.alloc (.cells #[.slice none 0 0] 25)) 3 #[.int .i64 0]).alloc (.cells #[.int .i64 0] 31)).alloc (.cells #[.string S, .int .i64 (0 : Nat), .slice none 0 0, .int .i64 (0 : Nat)] 89))
    have r3 := ((Row.new ((w.alloc (.cells #[.slice none 0 0] 25)).alloc (.cells #[.int .i64 0] 3)) 31 #[.int .i64 0]).alloc (.cells #[.string S, .int .i64 (0 : Nat), .slice none 0 0, .int .i64 (0 : Nat)] 89))
    simp only [World.size_alloc] at r2 r3
    have no : ∀ b, (Value.slice none 0 0).ownBlock ≠ some b := fun b h => by simp [Value.ownBlock] at h
    refine ⟨hk.row r1 (fun h => h.elim (by omega) (no _)), hk.row r2 (fun h => h.elim (by omega) (no _)), hk.row r3 (fun h => h.elim (by omega) (no _)), ?_⟩
    exact (by go_grown : Below w.heap.size w ((((w.alloc (.cells #[.slice none 0 0] 25)).alloc (.cells #[.int .i64 0] 3)).alloc (.cells #[.int .i64 0] 31)).alloc (.cells #[.string S, .int .i64 (0 : Nat), .slice none 0 0, .int .i64 (0 : Nat)] 89))).trans
      (hk.below_le (by simp only [World.size_alloc]; omega) fun b hb => hb.elim (by omega) fun h => absurd h (no _))
  have HRW := Lib.hid hrows; clear hrows
  by_cases hlt : p < S.size
  all_goals
    go_wp2_with (go_at_call 57; refine (HF.out _ (Row.lit (by simp only [World.size_alloc])) (MO.nil _ _)).mono ?_; rintro e w1 ⟨lv, rfl, hk1, hr1, ho1, hl1⟩; have rc := hr1.cell; have rl := hr1.lt; obtain ⟨r1, r2, r3, hbw⟩ := HRW.out _ hk1; have c1 := r1.cell; have c2 := r2.cell; have c3 := r3.cell; have f1 := r1.free; have f2 := r2.free; have f3 := r3.free; have HBW := Lib.hid hbw; obtain ⟨A, c, rfl⟩ := ho1.form; have HO := Lib.hid ho1; clear hk1 hl1 hbw ho1)
  · go_region
    go_wp2
    refine leaves_cons (f := 56) (args := #[.pointer (some ⟨w.heap.size, 0, none⟩), .pointer (some ⟨w.heap.size + 1, 0, none⟩), .pointer (some ⟨w.heap.size + 1 + 1, 0, none⟩)]) (by simp) (by simp [go_sem]) ?_
    refine (catch_idle _ _ _ _).mono ?_
    rintro e u' w2 ⟨rfl, rfl, rfl⟩
    show Leaves _ _ _ _ _ .returning _
    refine ⟨.tuple #[.slice none 0 0, .int .i64 p, .int .i64 5], by simp [results, Tryd.results18, go_sem, c1, c2, c3], ⟨.slice none 0 0, by rw [HR.out, if_pos hlt], ?_, by rw [HR.out, if_pos hlt]; exact MO.nil _ _⟩⟩
    have hh := HBW.out
    go_grown
  · refine leaves_cons (f := 56) (args := #[.pointer (some ⟨w.heap.size, 0, none⟩), .pointer (some ⟨w.heap.size + 1, 0, none⟩), .pointer (some ⟨w.heap.size + 1 + 1, 0, none⟩)]) (by simp) (by simp [go_sem]) ?_
    refine (catch_idle _ _ _ _).mono ?_
    rintro e u' w2 ⟨rfl, rfl, rfl⟩
    show Leaves _ _ _ _ _ .returning _
    refine ⟨.tuple #[.slice A (a.2.enc 0).length c, .int .i64 0, .int .i64 0], by simp [results, Tryd.results18, go_sem, c1, c2, c3], ⟨.slice A (a.2.enc 0).length c, by rw [HR.out, if_neg hlt]; rfl, ?_, ?_⟩⟩
    · have hh := HBW.out
      go_grown
    · rw [HR.out, if_neg hlt]
      have ho : MO w1 (w.heap.size + 3) (.slice A (a.2.enc 0).length c) (a.2.enc 0) := HO.out
      have hne : ∀ b, b < w.heap.size + 3 → (Value.slice A (a.2.enc 0).length c).ownBlock ≠ some b := fun b hb e => by have := (ho.own_lt b e).1; omega
      exact (((ho.far (hne _ (by simp only; omega)) _).far (hne _ (by simp only; omega)) _).far (hne _ (by simp only; omega)) _).mono (by omega)
theorem Parse_any (S : ByteArray) (w : World) : Calls Tryd.prog 18 #[.string S] w (RetFPE w (parseS (bts S))) := by
  unfold parseS
  rw [bts_len]
  by_cases h : 4096 < S.size
  · rw [if_pos h]; exact Parse_long S w h
  · rw [if_neg h]
    cases hf : form (bts S) 65 0 0 with
    | err p k => exact Parse_err S w (by omega) p k hf
    | ok p a => exact Parse_ok S w (by omega) p a hf _ rfl
end Go.Proofs.YtdlibehffgfhlaaDoor

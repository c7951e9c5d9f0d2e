/- Contract: holds of the package model, for words and for trees. (Printed by gen_model.py.) -/
import Derived.Test.YtgeklibilgfjbaaDoorMdlA
import Derived.Test.YtgeklibilgfjbaaDoorModP
set_option linter.unusedSimpArgs false
set_option linter.unusedVariables false
namespace Go.Proofs.YtgeklibilgfjbaaDoor
open Go.RowKit

theorem set6 (c0 c1 c2 c3 c4 c5 d0 d1 d2 d3 d4 d5 X s : Nat) (hX : X < 6) (h : setV [c0, c1, c2, c3, c4, c5] (X : Int) s = [d0, d1, d2, d3, d4, d5]) :
    (#[Value.int .u64 c0, .int .u64 c1, .int .u64 c2, .int .u64 c3, .int .u64 c4, .int .u64 c5] : Array Value).setIfInBounds X (.int .u64 s) = #[Value.int .u64 d0, .int .u64 d1, .int .u64 d2, .int .u64 d3, .int .u64 d4, .int .u64 d5] := by
  have : X = 0 ∨ X = 1 ∨ X = 2 ∨ X = 3 ∨ X = 4 ∨ X = 5 := by omega
  unfold setV at h
  rcases this with rfl | rfl | rfl | rfl | rfl | rfl <;> simp at h <;> obtain ⟨rfl, rfl, rfl, rfl, rfl, rfl⟩ := h <;> rfl
theorem set6_ex (c0 c1 c2 c3 c4 c5 s : Nat) (x : Int) : ∃ d0 d1 d2 d3 d4 d5, setV [c0, c1, c2, c3, c4, c5] x s = [d0, d1, d2, d3, d4, d5] := by
  have h : (setV [c0, c1, c2, c3, c4, c5] x s).length = 6 := by rw [setV_len]; rfl
  match hl : setV [c0, c1, c2, c3, c4, c5] x s, h with
  | [d0, d1, d2, d3, d4, d5], _ => exact ⟨d0, d1, d2, d3, d4, d5, rfl⟩
theorem setV_setV (a : List Nat) (x : Int) (s u : Nat) : setV (setV a x s) x u = setV a x u := by simp [setV]
theorem setV_mem {a : List Nat} {x : Int} {s v N : Nat} (hv : v ∈ setV a x s) (ha : ∀ u ∈ a, u < N) (hs : s < N) : v < N := by
  rcases List.mem_or_eq_of_mem_set hv with h | h
  · exact ha v h
  · omega
theorem ret_b {R b : Bool} (h : R = b) : Ending.returned (.bool b) = .returned (.bool R) := by rw [h]
theorem setN_le (n : Nat) : setN n ≤ 2 ^ n := Nat.mod_le _ _
theorem any_snoc (g : Nat → Bool) (k : Nat) : (List.range (k + 1)).any g = ((List.range k).any g || g k) := by simp [List.range_succ]
theorem all_snoc (g : Nat → Bool) (k : Nat) : (List.range (k + 1)).all g = ((List.range k).all g && g k) := by simp [List.range_succ]
theorem any_hit {g : Nat → Bool} {k n : Nat} (hk : k < n) (h : g k = true) : (List.range n).any g = true := List.any_eq_true.2 ⟨k, List.mem_range.2 hk, h⟩
theorem all_miss {g : Nat → Bool} {k n : Nat} (hk : k < n) (h : g k = false) : (List.range n).all g = false := by
  rw [List.all_eq_false]; exact ⟨k, List.mem_range.2 hk, by simp [h]⟩
theorem leaf_vars {op x y : Int} (h : okLeaf op x y) : (∃ X : Nat, x = X ∧ X < 6) ∧ (∃ Y : Nat, y = Y ∧ Y < 6) := by
  obtain ⟨_, _, h1, h2⟩ := h
  unfold within at h1; unfold spare at h2
  simp only [Bool.and_eq_true, Bool.or_eq_true, decide_eq_true_eq] at h1 h2
  exact ⟨⟨x.toNat, by omega, by omega⟩, ⟨y.toNat, by omega, by omega⟩⟩
theorem shl_set (n N : Nat) (h : N = setN n) (hn : n ≤ 64) : IntKind.u64.wrap (2 ^ n) = (N : Int) := by
  rw [h, IntKind.wrap_u64]
  unfold setN
  rw [Int.natCast_emod]
  simp [Int.natCast_pow]
theorem shl_one (k u : Nat) (h : u = 2 ^ k) (hk : k < 64) : IntKind.u64.wrap (2 ^ k) = (u : Int) := by
  have : u < 18446744073709551616 := by rw [h]; exact Nat.lt_of_lt_of_le (Nat.pow_lt_pow_right (by omega) hk) (by omega)
  rw [IntKind.wrap_u64]
  have e : (2 : Int) ^ k = (u : Int) := by rw [h]; simp [Int.natCast_pow]
  rw [e]; omega
theorem un_var {op x : Int} (h : okUn op x) : ∃ X : Nat, x = X ∧ X < 6 := by
  obtain ⟨_, _, h1, h2⟩ := h
  unfold within at h1; unfold spare at h2
  simp only [Bool.and_eq_true, Bool.or_eq_true, decide_eq_true_eq] at h1 h2
  exact ⟨x.toNat, by omega, by omega⟩

set_option maxRecDepth 100000 in
set_option maxHeartbeats 2000000 in
theorem holds_W (n : Nat) (hn : n ≤ 64) (f : List Mk) (v : Value) (hf64 : f.length ≤ 64) : ∀ (tr : Tr) (p i : Nat) (b0 b1 b2 b3 b4 b5 : Nat) (w : World), tr.ok → Sg f p tr → i + 1 = p + tr.size → MS w v f → DB w → (∀ u ∈ [b0, b1, b2, b3, b4, b5], u < 2 ^ n) → 
    Calls Tryd.prog 190 #[.iface 174 (.int .i64 n), v, .int .i64 i, .agg #[.int .u64 b0, .int .u64 b1, .int .u64 b2, .int .u64 b3, .int .u64 b4, .int .u64 b5]] w fun e w' => e = .returned (.bool (holdsT (stcWord n) tr [b0, b1, b2, b3, b4, b5])) ∧ Below w.heap.size w w' := by
  have s1 := nil_size_W; have s2 := meth_size_W
  intro tr
  induction tr with
  | leaf op x y =>
    intro p i b0 b1 b2 b3 b4 b5 w hok hsg hi hv hdb hbd
    have hip : i = p := by simp [Tr.size] at hi; omega
    subst hip
    obtain ⟨⟨X, rfl, hX⟩, ⟨Y, rfl, hY⟩⟩ := leaf_vars hok
    have hm := hsg.leaf
    clear hsg hi
    have HV := Lib.hid hv
    obtain ⟨hop, A1, cc, rfl, hc, hc2, hcell⟩ := hv
    have hil : i < f.length := (List.getElem?_eq_some_iff.1 hm).1
    obtain ⟨b, o, rfl, hb, hcell2⟩ := hcell (by omega)
    obtain ⟨c0, c1, c2, c3, c4⟩ := hcell2 i _ hm
    simp only at c0 c1 c2 c3 c4
    clear hcell hcell2 hop
    obtain ⟨q1, q2, q3, q4, q5, q6, q7⟩ := nc0_op hok.2.1
    have HDB := Lib.hid hdb; have HBD := Lib.hid hbd; clear hdb hbd
    obtain ⟨R, hR⟩ : ∃ R, R = holdsT (stcWord n) (.leaf op X Y) [b0, b1, b2, b3, b4, b5] := ⟨_, rfl⟩
    rw [← hR]
    have HR := Lib.hid hR
    clear hR hok hm
    go_enter Tryd.func190, Tryd.ntmps190
    go_upto_region 2 with (fail)
    refine wp_abs (fun W => Row W w.heap.size 202 #[Value.int .u64 b0, .int .u64 b1, .int .u64 b2, .int .u64 b3, .int .u64 b4, .int .u64 b5] ∧ Row W (w.heap.size + 1) 23 #[Value.int .u8 op, .int .i64 X, .int .i64 Y, .int .i64 0, .int .i64 0] ∧ Below w.heap.size w W) ?_ ?_
    · exact ⟨(Row.new w _ _).alloc _, Row.lit (by simp only [World.size_alloc]), by go_grown⟩
    rintro W ⟨ra, rx, hb⟩
    have RA := Lib.hid ra; have RX := Lib.hid rx; have HB := Lib.hid hb
    have a0 := ra.cell; have x0 := rx.cell; have x1 := rx.lt; have a1 := ra.lt; have a2 := ra.free
    clear ra rx hb c0 c1 c2 c3 c4
    go_wp2_with (go_at_call 206; go_must ((with_reducible refine (atom_W n hn op X Y hX hY b0 b1 b2 b3 b4 b5 HBD.out _ (HDB.out.below HB.out (Nat.le_refl _))).mono ?_); rintro e w1 ⟨he, hb1⟩; obtain rfl : e = .returned (.bool R) := he.trans (by rw [HR.out]; rfl); replace HB := Lib.hid (HB.out.trans (hb1.mono HB.out.size)); clear hb1 he))
    go_returns
    exact ⟨rfl, HB.out⟩
  | un op x a ih =>
    intro p i b0 b1 b2 b3 b4 b5 w hok hsg hi hv hdb hbd
    have hpos := a.size_pos
    have hip : i = p + a.size := by simp [Tr.size] at hi; omega
    obtain ⟨X, rfl, hX⟩ := un_var hok.1
    have hm : f[i]? = some ⟨op, X, 0, ((p + a.size - 1 : Nat) : Int), 0⟩ := by rw [hip]; exact hsg.un
    have hsa := hsg.un1
    have hops := nc1_op hok.1.2.1
    have HOK := Lib.hid hok.2
    have hj1 : p + a.size - 1 + 1 = p + a.size := by omega
    have HJ1 := Lib.hid hj1; clear hj1
    have HSA := Lib.hid hsa; clear hsa
    have HIH := Lib.hid ih; clear ih hsg hi hok
    have HV := Lib.hid hv
    obtain ⟨hop, A1, cc, rfl, hc, hc2, hcell⟩ := hv
    have hil : i < f.length := (List.getElem?_eq_some_iff.1 hm).1
    obtain ⟨b, o, rfl, hb, hcell2⟩ := hcell (by omega)
    obtain ⟨c0, c1, c2, c3, c4⟩ := hcell2 i _ hm
    simp only at c0 c1 c2 c3 c4
    clear hcell hcell2 hop hm
    have HIP := Lib.hid hip; clear hip
    generalize hJ : p + a.size - 1 = J at *
    have HJ := Lib.hid hJ; clear hJ
    have HDB := Lib.hid hdb; have HBD := Lib.hid hbd; clear hdb hbd
    obtain ⟨R, hR⟩ : ∃ R, R = holdsT (stcWord n) (.un op X a) [b0, b1, b2, b3, b4, b5] := ⟨_, rfl⟩
    rw [← hR]
    have HR := Lib.hid hR
    clear hR
    rcases hops with rfl | rfl | rfl | rfl | rfl
    · have hr : R = !holdsT (stcWord n) a [b0, b1, b2, b3, b4, b5] := by rw [HR.out]; simp [holdsT]
      rw [hr]; clear hr
      go_enter Tryd.func190, Tryd.ntmps190
      go_upto_region 2 with (fail)
      refine wp_abs (fun W => Row W w.heap.size 202 #[Value.int .u64 b0, .int .u64 b1, .int .u64 b2, .int .u64 b3, .int .u64 b4, .int .u64 b5] ∧ Row W (w.heap.size + 1) 23 #[Value.int .u8 9, .int .i64 X, .int .i64 0, .int .i64 J, .int .i64 0] ∧ Below w.heap.size w W) ?_ ?_
      · exact ⟨(Row.new w _ _).alloc _, Row.lit (by simp only [World.size_alloc]), by go_grown⟩
      rintro W ⟨ra, rx, hb⟩
      have RA := Lib.hid ra; have RX := Lib.hid rx; have HB := Lib.hid hb
      have a0 := ra.cell; have x0 := rx.cell; have x1 := rx.lt; have a1 := ra.lt; have a2 := ra.free
      clear ra rx hb c0 c1 c2 c3 c4
      go_wp2_with (go_at_call 190; go_must ((with_reducible refine (HIH.out p J b0 b1 b2 b3 b4 b5 _ HOK.out HSA.out HJ1.out (HV.out.below HB.out (Nat.le_refl _)) (HDB.out.below HB.out (Nat.le_refl _)) HBD.out).mono ?_); rintro e w1 ⟨rfl, hb1⟩; replace HB := Lib.hid (HB.out.trans (hb1.mono HB.out.size)); clear hb1))
      go_returns
      exact ⟨rfl, HB.out⟩
    · have hr : R = (List.range (setN n)).any (fun s => holdsT (stcWord n) a (setV [b0, b1, b2, b3, b4, b5] X s)) := by rw [HR.out]; rfl
      have HRR := Lib.hid hr; clear hr HR
      obtain ⟨N, hN⟩ : ∃ N, N = setN n := ⟨_, rfl⟩
      have hN2 : N < 18446744073709551616 := by rw [hN]; exact Nat.mod_lt _ (by omega)
      have hN3 : N ≤ 2 ^ n := by rw [hN]; exact setN_le n
      have HB3 := Lib.hid (fun (s : Nat) (h : s < N) => (show s < 2 ^ n by omega)); clear hN3
      rw [← hN] at HRR
      have HNE := Lib.hid hN; clear hN
      have hsh := shl_set n N HNE.out (by omega)
      go_enter Tryd.func190, Tryd.ntmps190
      go_upto_region 2 with (fail)
      refine wp_abs (fun W => Row W w.heap.size 202 #[Value.int .u64 b0, .int .u64 b1, .int .u64 b2, .int .u64 b3, .int .u64 b4, .int .u64 b5] ∧ Row W (w.heap.size + 1) 23 #[Value.int .u8 12, .int .i64 X, .int .i64 0, .int .i64 J, .int .i64 0] ∧ Below w.heap.size w W) ?_ ?_
      · exact ⟨(Row.new w _ _).alloc _, Row.lit (by simp only [World.size_alloc]), by go_grown⟩
      rintro W ⟨ra, rx, hb⟩
      have RA := Lib.hid ra; have RX := Lib.hid rx; have HB := Lib.hid hb
      have a0 := ra.cell; have x0 := rx.cell; have x1 := rx.lt; have a1 := ra.lt; have a2 := ra.free
      clear ra rx hb c0 c1 c2 c3 c4
      go_wp2_with (go_at_call 249; go_must (refine (possize_any n (by omega) _).mono ?_; rintro e w1 ⟨rfl, rfl⟩))
      go_loopg [65] N (fun gk v wr => ∃ (k c0 c1 c2 c3 c4 c5 : Nat), k ≤ N ∧ gk = N - k ∧ v = .int .u64 k ∧ Row wr w.heap.size 202 #[Value.int .u64 c0, .int .u64 c1, .int .u64 c2, .int .u64 c3, .int .u64 c4, .int .u64 c5] ∧ (∀ s, setV [c0, c1, c2, c3, c4, c5] (X : Int) s = setV [b0, b1, b2, b3, b4, b5] (X : Int) s) ∧ Row wr (w.heap.size + 1) 23 #[Value.int .u8 12, .int .i64 X, .int .i64 0, .int .i64 J, .int .i64 0] ∧ Below w.heap.size w wr ∧ (List.range k).any (fun s => holdsT (stcWord n) a (setV [b0, b1, b2, b3, b4, b5] X s)) = false)
      case atStart => exact ⟨0, b0, b1, b2, b3, b4, b5, Nat.zero_le _, rfl, rfl, RA.out, fun _ => rfl, RX.out, HB.out, rfl⟩
      case round =>
        obtain ⟨k, c0, c1, c2, c3, c4, c5, hk, rfl, rfl, ra, hset, rx, hb, hacc⟩ := hrel
        clear a0 a1 a2 x0 x1 RA RX HB
        have RA := Lib.hid ra; have RX := Lib.hid rx; have HB := Lib.hid hb; have HS := Lib.hid hset; have HC := Lib.hid hacc
        clear hb hset hacc
        by_cases hlt : k < N
        · obtain ⟨d0, d1, d2, d3, d4, d5, hd⟩ := set6_ex b0 b1 b2 b3 b4 b5 k X
          have hd2 := set6 c0 c1 c2 c3 c4 c5 d0 d1 d2 d3 d4 d5 X _ hX ((HS.out _).trans hd)
          have HD := Lib.hid hd; have HD2 := Lib.hid hd2; clear hd hd2
          have a0 := ra.cell; have x0 := rx.cell; have x1 := rx.lt; have a1 := ra.lt; have a2 := ra.free
          clear ra rx
          go_upto_region 15 with (fail)
          refine wp_abs (fun W => Row W w.heap.size 202 #[Value.int .u64 d0, .int .u64 d1, .int .u64 d2, .int .u64 d3, .int .u64 d4, .int .u64 d5] ∧ Row W (w.heap.size + 1) 23 #[Value.int .u8 12, .int .i64 X, .int .i64 0, .int .i64 J, .int .i64 0] ∧ Below w.heap.size w W) ?_ ?_
          · have hh := HB.out
            exact ⟨by rw [← HD2.out]; exact RA.out.set X _, RX.out.far (by simp) _, by go_grown⟩
          clear a0 a1 a2 x0 x1 RA RX HB
          rintro W ⟨ra, rx, hb⟩
          have HB := Lib.hid hb; have RA := Lib.hid ra; have RX := Lib.hid rx
          have a0 := ra.cell; have x0 := rx.cell
          have bd : Hid (∀ y ∈ [d0, d1, d2, d3, d4, d5], y < 2 ^ n) := fun y hy => setV_mem (HD.out ▸ hy) HBD.out (HB3.out k hlt)
          obtain ⟨r, hr⟩ : ∃ r : Bool, r = (fun s => holdsT (stcWord n) a (setV [b0, b1, b2, b3, b4, b5] X s)) k := ⟨_, rfl⟩
          have hg : Hid (holdsT (stcWord n) a [d0, d1, d2, d3, d4, d5] = r) := by rw [Hid, hr, ← HD.out]
          have HRk := Lib.hid hr; clear hr
          clear ra rx hb
          have ac0 := a0 0; have ac1 := a0 1; have ac2 := a0 2; have ac3 := a0 3; have ac4 := a0 4; have ac5 := a0 5
          have xc0 := x0 0; have xc3 := x0 3
          simp only [List.getElem?_toArray, List.getElem?_cons_zero, List.getElem?_cons_succ] at ac0 ac1 ac2 ac3 ac4 ac5 xc0 xc3
          clear a0 x0
          go_region_held3 (fun W => W.cell? ⟨w.heap.size + 1, 3, none⟩ = some (.int .i64 J) ∧ W.cell? ⟨w.heap.size + 1, 0, none⟩ = some (.int .u8 12) ∧ W.cell? ⟨w.heap.size, 0, none⟩ = some (.int .u64 d0) ∧ W.cell? ⟨w.heap.size, 1, none⟩ = some (.int .u64 d1) ∧ W.cell? ⟨w.heap.size, 2, none⟩ = some (.int .u64 d2) ∧ W.cell? ⟨w.heap.size, 3, none⟩ = some (.int .u64 d3) ∧ W.cell? ⟨w.heap.size, 4, none⟩ = some (.int .u64 d4) ∧ W.cell? ⟨w.heap.size, 5, none⟩ = some (.int .u64 d5)) (first | exact ⟨yc3, yc0, bc0, bc1, bc2, bc3, bc4, bc5⟩ | exact ⟨xc3, xc0, ac0, ac1, ac2, ac3, ac4, ac5⟩) (first | (go_at_call 190; (with_reducible refine (HIH.out p J d0 d1 d2 d3 d4 d5 _ HOK.out HSA.out HJ1.out (HV.out.below HB.out.drew (Nat.le_refl _)) (HDB.out.below HB.out.drew (Nat.le_refl _)) bd.out).mono ?_); rintro e w1 ⟨rfl, hb1⟩; rw [hg.out]; have HBb : Hid (Below W.heap.size W w1) := (⟨hb1.os, hb1.tape, hb1.output, hb1.size, hb1.block⟩ : Below W.heap.size W w1); have RA1 := Lib.hid (RA.out.below HBb.out RA.out.lt); have RX1 := Lib.hid (RX.out.below HBb.out RX.out.lt); have HB1 := Lib.hid (HB.out.trans (HBb.out.mono HB.out.size)); clear hb1; have y0 := RX1.out.cell; have b0' := RA1.out.cell; have yc0 := y0 0; have yc3 := y0 3; have bc0 := b0' 0; have bc1 := b0' 1; have bc2 := b0' 2; have bc3 := b0' 3; have bc4 := b0' 4; have bc5 := b0' 5; simp only [List.getElem?_toArray, List.getElem?_cons_zero, List.getElem?_cons_succ] at yc0 yc3 bc0 bc1 bc2 bc3 bc4 bc5; clear y0 b0'))
          cases r
          · have x1 := RX1.out.lt
            go_wp2
            go_roundg (N - (k + 1))
            case rel => exact ⟨k + 1, d0, d1, d2, d3, d4, d5, by omega, rfl, by go_num, RA1.out, fun s => by rw [← HD.out, setV_setV], RX1.out, by have := HB1.out; go_grown, by rw [any_snoc, HC.out, ← HRk.out]; rfl⟩
            case measure => omega
          · have hR : R = true := by rw [HRR.out]; exact any_hit hlt HRk.out.symm
            have HR0 := Lib.hid hR; clear hR
            have x0 := RX1.out.cell; have x1 := RX1.out.lt
            go_wp2
            go_returns
            exact ⟨ret_b HR0.out, by have := HB1.out; go_grown⟩
        · have hkN : k = N := by omega
          have hR : R = false := by rw [HRR.out]; have hh := HC.out; rw [hkN] at hh; exact hh
          have HR0 := Lib.hid hR; clear hR hkN
          have x0 := rx.cell; have x1 := rx.lt
          clear ra rx
          go_wp2
          go_returns
          exact ⟨ret_b HR0.out, HB.out⟩
    · have hr : R = (List.range (setN n)).all (fun s => holdsT (stcWord n) a (setV [b0, b1, b2, b3, b4, b5] X s)) := by rw [HR.out]; rfl
      have HRR := Lib.hid hr; clear hr HR
      obtain ⟨N, hN⟩ : ∃ N, N = setN n := ⟨_, rfl⟩
      have hN2 : N < 18446744073709551616 := by rw [hN]; exact Nat.mod_lt _ (by omega)
      have hN3 : N ≤ 2 ^ n := by rw [hN]; exact setN_le n
      have HB3 := Lib.hid (fun (s : Nat) (h : s < N) => (show s < 2 ^ n by omega)); clear hN3
      rw [← hN] at HRR
      have HNE := Lib.hid hN; clear hN
      have hsh := shl_set n N HNE.out (by omega)
      go_enter Tryd.func190, Tryd.ntmps190
      go_upto_region 2 with (fail)
      refine wp_abs (fun W => Row W w.heap.size 202 #[Value.int .u64 b0, .int .u64 b1, .int .u64 b2, .int .u64 b3, .int .u64 b4, .int .u64 b5] ∧ Row W (w.heap.size + 1) 23 #[Value.int .u8 13, .int .i64 X, .int .i64 0, .int .i64 J, .int .i64 0] ∧ Below w.heap.size w W) ?_ ?_
      · exact ⟨(Row.new w _ _).alloc _, Row.lit (by simp only [World.size_alloc]), by go_grown⟩
      rintro W ⟨ra, rx, hb⟩
      have RA := Lib.hid ra; have RX := Lib.hid rx; have HB := Lib.hid hb
      have a0 := ra.cell; have x0 := rx.cell; have x1 := rx.lt; have a1 := ra.lt; have a2 := ra.free
      clear ra rx hb c0 c1 c2 c3 c4
      go_wp2_with (go_at_call 249; go_must (refine (possize_any n (by omega) _).mono ?_; rintro e w1 ⟨rfl, rfl⟩))
      go_loopg [65] N (fun gk v wr => ∃ (k c0 c1 c2 c3 c4 c5 : Nat), k ≤ N ∧ gk = N - k ∧ v = .int .u64 k ∧ Row wr w.heap.size 202 #[Value.int .u64 c0, .int .u64 c1, .int .u64 c2, .int .u64 c3, .int .u64 c4, .int .u64 c5] ∧ (∀ s, setV [c0, c1, c2, c3, c4, c5] (X : Int) s = setV [b0, b1, b2, b3, b4, b5] (X : Int) s) ∧ Row wr (w.heap.size + 1) 23 #[Value.int .u8 13, .int .i64 X, .int .i64 0, .int .i64 J, .int .i64 0] ∧ Below w.heap.size w wr ∧ (List.range k).all (fun s => holdsT (stcWord n) a (setV [b0, b1, b2, b3, b4, b5] X s)) = true)
      case atStart => exact ⟨0, b0, b1, b2, b3, b4, b5, Nat.zero_le _, rfl, rfl, RA.out, fun _ => rfl, RX.out, HB.out, rfl⟩
      case round =>
        obtain ⟨k, c0, c1, c2, c3, c4, c5, hk, rfl, rfl, ra, hset, rx, hb, hacc⟩ := hrel
        clear a0 a1 a2 x0 x1 RA RX HB
        have RA := Lib.hid ra; have RX := Lib.hid rx; have HB := Lib.hid hb; have HS := Lib.hid hset; have HC := Lib.hid hacc
        clear hb hset hacc
        by_cases hlt : k < N
        · obtain ⟨d0, d1, d2, d3, d4, d5, hd⟩ := set6_ex b0 b1 b2 b3 b4 b5 k X
          have hd2 := set6 c0 c1 c2 c3 c4 c5 d0 d1 d2 d3 d4 d5 X _ hX ((HS.out _).trans hd)
          have HD := Lib.hid hd; have HD2 := Lib.hid hd2; clear hd hd2
          have a0 := ra.cell; have x0 := rx.cell; have x1 := rx.lt; have a1 := ra.lt; have a2 := ra.free
          clear ra rx
          go_upto_region 15 with (fail)
          refine wp_abs (fun W => Row W w.heap.size 202 #[Value.int .u64 d0, .int .u64 d1, .int .u64 d2, .int .u64 d3, .int .u64 d4, .int .u64 d5] ∧ Row W (w.heap.size + 1) 23 #[Value.int .u8 13, .int .i64 X, .int .i64 0, .int .i64 J, .int .i64 0] ∧ Below w.heap.size w W) ?_ ?_
          · have hh := HB.out
            exact ⟨by rw [← HD2.out]; exact RA.out.set X _, RX.out.far (by simp) _, by go_grown⟩
          clear a0 a1 a2 x0 x1 RA RX HB
          rintro W ⟨ra, rx, hb⟩
          have HB := Lib.hid hb; have RA := Lib.hid ra; have RX := Lib.hid rx
          have a0 := ra.cell; have x0 := rx.cell
          have bd : Hid (∀ y ∈ [d0, d1, d2, d3, d4, d5], y < 2 ^ n) := fun y hy => setV_mem (HD.out ▸ hy) HBD.out (HB3.out k hlt)
          obtain ⟨r, hr⟩ : ∃ r : Bool, r = (fun s => holdsT (stcWord n) a (setV [b0, b1, b2, b3, b4, b5] X s)) k := ⟨_, rfl⟩
          have hg : Hid (holdsT (stcWord n) a [d0, d1, d2, d3, d4, d5] = r) := by rw [Hid, hr, ← HD.out]
          have HRk := Lib.hid hr; clear hr
          clear ra rx hb
          have ac0 := a0 0; have ac1 := a0 1; have ac2 := a0 2; have ac3 := a0 3; have ac4 := a0 4; have ac5 := a0 5
          have xc0 := x0 0; have xc3 := x0 3
          simp only [List.getElem?_toArray, List.getElem?_cons_zero, List.getElem?_cons_succ] at ac0 ac1 ac2 ac3 ac4 ac5 xc0 xc3
          clear a0 x0
          go_region_held3 (fun W => W.cell? ⟨w.heap.size + 1, 3, none⟩ = some (.int .i64 J) ∧ W.cell? ⟨w.heap.size + 1, 0, none⟩ = some (.int .u8 13) ∧ W.cell? ⟨w.heap.size, 0, none⟩ = some (.int .u64 d0) ∧ W.cell? ⟨w.heap.size, 1, none⟩ = some (.int .u64 d1) ∧ W.cell? ⟨w.heap.size, 2, none⟩ = some (.int .u64 d2) ∧ W.cell? ⟨w.heap.size, 3, none⟩ = some (.int .u64 d3) ∧ W.cell? ⟨w.heap.size, 4, none⟩ = some (.int .u64 d4) ∧ W.cell? ⟨w.heap.size, 5, none⟩ = some (.int .u64 d5)) (first | exact ⟨yc3, yc0, bc0, bc1, bc2, bc3, bc4, bc5⟩ | exact ⟨xc3, xc0, ac0, ac1, ac2, ac3, ac4, ac5⟩) (first | (go_at_call 190; (with_reducible refine (HIH.out p J d0 d1 d2 d3 d4 d5 _ HOK.out HSA.out HJ1.out (HV.out.below HB.out.drew (Nat.le_refl _)) (HDB.out.below HB.out.drew (Nat.le_refl _)) bd.out).mono ?_); rintro e w1 ⟨rfl, hb1⟩; rw [hg.out]; have HBb : Hid (Below W.heap.size W w1) := (⟨hb1.os, hb1.tape, hb1.output, hb1.size, hb1.block⟩ : Below W.heap.size W w1); have RA1 := Lib.hid (RA.out.below HBb.out RA.out.lt); have RX1 := Lib.hid (RX.out.below HBb.out RX.out.lt); have HB1 := Lib.hid (HB.out.trans (HBb.out.mono HB.out.size)); clear hb1; have y0 := RX1.out.cell; have b0' := RA1.out.cell; have yc0 := y0 0; have yc3 := y0 3; have bc0 := b0' 0; have bc1 := b0' 1; have bc2 := b0' 2; have bc3 := b0' 3; have bc4 := b0' 4; have bc5 := b0' 5; simp only [List.getElem?_toArray, List.getElem?_cons_zero, List.getElem?_cons_succ] at yc0 yc3 bc0 bc1 bc2 bc3 bc4 bc5; clear y0 b0'))
          cases r
          · have hR : R = false := by rw [HRR.out]; exact all_miss hlt HRk.out.symm
            have HR0 := Lib.hid hR; clear hR
            have x0 := RX1.out.cell; have x1 := RX1.out.lt
            go_wp2
            go_returns
            exact ⟨ret_b HR0.out, by have := HB1.out; go_grown⟩
          · have x1 := RX1.out.lt
            go_wp2
            go_roundg (N - (k + 1))
            case rel => exact ⟨k + 1, d0, d1, d2, d3, d4, d5, by omega, rfl, by go_num, RA1.out, fun s => by rw [← HD.out, setV_setV], RX1.out, by have := HB1.out; go_grown, by rw [all_snoc, HC.out, ← HRk.out]; rfl⟩
            case measure => omega
        · have hkN : k = N := by omega
          have hR : R = true := by rw [HRR.out]; have hh := HC.out; rw [hkN] at hh; exact hh
          have HR0 := Lib.hid hR; clear hR hkN
          have x0 := rx.cell; have x1 := rx.lt
          clear ra rx
          go_wp2
          go_returns
          exact ⟨ret_b HR0.out, HB.out⟩
    · have hr : R = (List.range (n)).any (fun s => holdsT (stcWord n) a (setV [b0, b1, b2, b3, b4, b5] X (2 ^ s))) := by rw [HR.out]; rfl
      have HRR := Lib.hid hr; clear hr HR
      have hN2 : n ≤ 64 := by omega
      have HB3 := Lib.hid (fun (s : Nat) (h : s < n) => (show 2 ^ s < 2 ^ n from Nat.pow_lt_pow_right (by omega) (by omega)))
      go_enter Tryd.func190, Tryd.ntmps190
      go_upto_region 2 with (fail)
      refine wp_abs (fun W => Row W w.heap.size 202 #[Value.int .u64 b0, .int .u64 b1, .int .u64 b2, .int .u64 b3, .int .u64 b4, .int .u64 b5] ∧ Row W (w.heap.size + 1) 23 #[Value.int .u8 14, .int .i64 X, .int .i64 0, .int .i64 J, .int .i64 0] ∧ Below w.heap.size w W) ?_ ?_
      · exact ⟨(Row.new w _ _).alloc _, Row.lit (by simp only [World.size_alloc]), by go_grown⟩
      rintro W ⟨ra, rx, hb⟩
      have RA := Lib.hid ra; have RX := Lib.hid rx; have HB := Lib.hid hb
      have a0 := ra.cell; have x0 := rx.cell; have x1 := rx.lt; have a1 := ra.lt; have a2 := ra.free
      clear ra rx hb c0 c1 c2 c3 c4
      go_wp2_with (go_at_call 249; go_must (refine (possize_any n (by omega) _).mono ?_; rintro e w1 ⟨rfl, rfl⟩))
      go_loopg [94] n (fun gk v wr => ∃ (k c0 c1 c2 c3 c4 c5 : Nat), k ≤ n ∧ gk = n - k ∧ v = .int .i64 k ∧ Row wr w.heap.size 202 #[Value.int .u64 c0, .int .u64 c1, .int .u64 c2, .int .u64 c3, .int .u64 c4, .int .u64 c5] ∧ (∀ s, setV [c0, c1, c2, c3, c4, c5] (X : Int) s = setV [b0, b1, b2, b3, b4, b5] (X : Int) s) ∧ Row wr (w.heap.size + 1) 23 #[Value.int .u8 14, .int .i64 X, .int .i64 0, .int .i64 J, .int .i64 0] ∧ Below w.heap.size w wr ∧ (List.range k).any (fun s => holdsT (stcWord n) a (setV [b0, b1, b2, b3, b4, b5] X (2 ^ s))) = false)
      case atStart => exact ⟨0, b0, b1, b2, b3, b4, b5, Nat.zero_le _, rfl, rfl, RA.out, fun _ => rfl, RX.out, HB.out, rfl⟩
      case round =>
        obtain ⟨k, c0, c1, c2, c3, c4, c5, hk, rfl, rfl, ra, hset, rx, hb, hacc⟩ := hrel
        clear a0 a1 a2 x0 x1 RA RX HB
        have RA := Lib.hid ra; have RX := Lib.hid rx; have HB := Lib.hid hb; have HS := Lib.hid hset; have HC := Lib.hid hacc
        clear hb hset hacc
        by_cases hlt : k < n
        · obtain ⟨d0, d1, d2, d3, d4, d5, hd⟩ := set6_ex b0 b1 b2 b3 b4 b5 (2 ^ k) X
          have hd2 := set6 c0 c1 c2 c3 c4 c5 d0 d1 d2 d3 d4 d5 X _ hX ((HS.out _).trans hd)
          have HD := Lib.hid hd; have HD2 := Lib.hid hd2; clear hd hd2
          have a0 := ra.cell; have x0 := rx.cell; have x1 := rx.lt; have a1 := ra.lt; have a2 := ra.free
          clear ra rx
          obtain ⟨u, hu⟩ : ∃ u : Nat, u = 2 ^ k := ⟨_, rfl⟩
          have hsh := shl_one k u hu (by omega)
          rw [← hu] at HD2 HD
          have HU := Lib.hid hu; clear hu
          go_upto_region 24 with (fail)
          first | go_region | fail
          go_upto_region 25 with (fail)
          refine wp_abs (fun W => Row W w.heap.size 202 #[Value.int .u64 d0, .int .u64 d1, .int .u64 d2, .int .u64 d3, .int .u64 d4, .int .u64 d5] ∧ Row W (w.heap.size + 1) 23 #[Value.int .u8 14, .int .i64 X, .int .i64 0, .int .i64 J, .int .i64 0] ∧ Below w.heap.size w W) ?_ ?_
          · have hh := HB.out
            exact ⟨by rw [← HD2.out]; exact RA.out.set X _, RX.out.far (by simp) _, by go_grown⟩
          clear a0 a1 a2 x0 x1 RA RX HB
          rintro W ⟨ra, rx, hb⟩
          have HB := Lib.hid hb; have RA := Lib.hid ra; have RX := Lib.hid rx
          have a0 := ra.cell; have x0 := rx.cell
          have bd : Hid (∀ y ∈ [d0, d1, d2, d3, d4, d5], y < 2 ^ n) := fun y hy => setV_mem (HD.out ▸ hy) HBD.out (by have := HB3.out k hlt; rw [HU.out]; exact this)
          obtain ⟨r, hr⟩ : ∃ r : Bool, r = (fun s => holdsT (stcWord n) a (setV [b0, b1, b2, b3, b4, b5] X (2 ^ s))) k := ⟨_, rfl⟩
          have hg : Hid (holdsT (stcWord n) a [d0, d1, d2, d3, d4, d5] = r) := by rw [Hid, hr, ← HD.out, HU.out]
          have HRk := Lib.hid hr; clear hr
          clear ra rx hb
          have ac0 := a0 0; have ac1 := a0 1; have ac2 := a0 2; have ac3 := a0 3; have ac4 := a0 4; have ac5 := a0 5
          have xc0 := x0 0; have xc3 := x0 3
          simp only [List.getElem?_toArray, List.getElem?_cons_zero, List.getElem?_cons_succ] at ac0 ac1 ac2 ac3 ac4 ac5 xc0 xc3
          clear a0 x0
          go_region_held3 (fun W => W.cell? ⟨w.heap.size + 1, 3, none⟩ = some (.int .i64 J) ∧ W.cell? ⟨w.heap.size + 1, 0, none⟩ = some (.int .u8 14) ∧ W.cell? ⟨w.heap.size, 0, none⟩ = some (.int .u64 d0) ∧ W.cell? ⟨w.heap.size, 1, none⟩ = some (.int .u64 d1) ∧ W.cell? ⟨w.heap.size, 2, none⟩ = some (.int .u64 d2) ∧ W.cell? ⟨w.heap.size, 3, none⟩ = some (.int .u64 d3) ∧ W.cell? ⟨w.heap.size, 4, none⟩ = some (.int .u64 d4) ∧ W.cell? ⟨w.heap.size, 5, none⟩ = some (.int .u64 d5)) (first | exact ⟨yc3, yc0, bc0, bc1, bc2, bc3, bc4, bc5⟩ | exact ⟨xc3, xc0, ac0, ac1, ac2, ac3, ac4, ac5⟩) (first | (go_at_call 190; (with_reducible refine (HIH.out p J d0 d1 d2 d3 d4 d5 _ HOK.out HSA.out HJ1.out (HV.out.below HB.out.drew (Nat.le_refl _)) (HDB.out.below HB.out.drew (Nat.le_refl _)) bd.out).mono ?_); rintro e w1 ⟨rfl, hb1⟩; rw [hg.out]; have HBb : Hid (Below W.heap.size W w1) := (⟨hb1.os, hb1.tape, hb1.output, hb1.size, hb1.block⟩ : Below W.heap.size W w1); have RA1 := Lib.hid (RA.out.below HBb.out RA.out.lt); have RX1 := Lib.hid (RX.out.below HBb.out RX.out.lt); have HB1 := Lib.hid (HB.out.trans (HBb.out.mono HB.out.size)); clear hb1; have y0 := RX1.out.cell; have b0' := RA1.out.cell; have yc0 := y0 0; have yc3 := y0 3; have bc0 := b0' 0; have bc1 := b0' 1; have bc2 := b0' 2; have bc3 := b0' 3; have bc4 := b0' 4; have bc5 := b0' 5; simp only [List.getElem?_toArray, List.getElem?_cons_zero, List.getElem?_cons_succ] at yc0 yc3 bc0 bc1 bc2 bc3 bc4 bc5; clear y0 b0'))
          cases r
          · have x1 := RX1.out.lt
            go_wp2
            go_roundg (n - (k + 1))
            case rel => exact ⟨k + 1, d0, d1, d2, d3, d4, d5, by omega, rfl, by go_num, RA1.out, fun s => by rw [← HD.out, setV_setV], RX1.out, by have := HB1.out; go_grown, by rw [any_snoc, HC.out, ← HRk.out]; rfl⟩
            case measure => omega
          · have hR : R = true := by rw [HRR.out]; exact any_hit hlt HRk.out.symm
            have HR0 := Lib.hid hR; clear hR
            have x0 := RX1.out.cell; have x1 := RX1.out.lt
            go_wp2
            go_returns
            exact ⟨ret_b HR0.out, by have := HB1.out; go_grown⟩
        · have hkN : k = n := by omega
          have hR : R = false := by rw [HRR.out]; have hh := HC.out; rw [hkN] at hh; exact hh
          have HR0 := Lib.hid hR; clear hR hkN
          have x0 := rx.cell; have x1 := rx.lt
          clear ra rx
          go_wp2
          go_returns
          exact ⟨ret_b HR0.out, HB.out⟩
    · have hr : R = (List.range (n)).all (fun s => holdsT (stcWord n) a (setV [b0, b1, b2, b3, b4, b5] X (2 ^ s))) := by rw [HR.out]; rfl
      have HRR := Lib.hid hr; clear hr HR
      have hN2 : n ≤ 64 := by omega
      have HB3 := Lib.hid (fun (s : Nat) (h : s < n) => (show 2 ^ s < 2 ^ n from Nat.pow_lt_pow_right (by omega) (by omega)))
      go_enter Tryd.func190, Tryd.ntmps190
      go_upto_region 2 with (fail)
      refine wp_abs (fun W => Row W w.heap.size 202 #[Value.int .u64 b0, .int .u64 b1, .int .u64 b2, .int .u64 b3, .int .u64 b4, .int .u64 b5] ∧ Row W (w.heap.size + 1) 23 #[Value.int .u8 15, .int .i64 X, .int .i64 0, .int .i64 J, .int .i64 0] ∧ Below w.heap.size w W) ?_ ?_
      · exact ⟨(Row.new w _ _).alloc _, Row.lit (by simp only [World.size_alloc]), by go_grown⟩
      rintro W ⟨ra, rx, hb⟩
      have RA := Lib.hid ra; have RX := Lib.hid rx; have HB := Lib.hid hb
      have a0 := ra.cell; have x0 := rx.cell; have x1 := rx.lt; have a1 := ra.lt; have a2 := ra.free
      clear ra rx hb c0 c1 c2 c3 c4
      go_wp2_with (go_at_call 249; go_must (refine (possize_any n (by omega) _).mono ?_; rintro e w1 ⟨rfl, rfl⟩))
      go_loopg [94] n (fun gk v wr => ∃ (k c0 c1 c2 c3 c4 c5 : Nat), k ≤ n ∧ gk = n - k ∧ v = .int .i64 k ∧ Row wr w.heap.size 202 #[Value.int .u64 c0, .int .u64 c1, .int .u64 c2, .int .u64 c3, .int .u64 c4, .int .u64 c5] ∧ (∀ s, setV [c0, c1, c2, c3, c4, c5] (X : Int) s = setV [b0, b1, b2, b3, b4, b5] (X : Int) s) ∧ Row wr (w.heap.size + 1) 23 #[Value.int .u8 15, .int .i64 X, .int .i64 0, .int .i64 J, .int .i64 0] ∧ Below w.heap.size w wr ∧ (List.range k).all (fun s => holdsT (stcWord n) a (setV [b0, b1, b2, b3, b4, b5] X (2 ^ s))) = true)
      case atStart => exact ⟨0, b0, b1, b2, b3, b4, b5, Nat.zero_le _, rfl, rfl, RA.out, fun _ => rfl, RX.out, HB.out, rfl⟩
      case round =>
        obtain ⟨k, c0, c1, c2, c3, c4, c5, hk, rfl, rfl, ra, hset, rx, hb, hacc⟩ := hrel
        clear a0 a1 a2 x0 x1 RA RX HB
        have RA := Lib.hid ra; have RX := Lib.hid rx; have HB := Lib.hid hb; have HS := Lib.hid hset; have HC := Lib.hid hacc
        clear hb hset hacc
        by_cases hlt : k < n
        · obtain ⟨d0, d1, d2, d3, d4, d5, hd⟩ := set6_ex b0 b1 b2 b3 b4 b5 (2 ^ k) X
          have hd2 := set6 c0 c1 c2 c3 c4 c5 d0 d1 d2 d3 d4 d5 X _ hX ((HS.out _).trans hd)
          have HD := Lib.hid hd; have HD2 := Lib.hid hd2; clear hd hd2
          have a0 := ra.cell; have x0 := rx.cell; have x1 := rx.lt; have a1 := ra.lt; have a2 := ra.free
          clear ra rx
          obtain ⟨u, hu⟩ : ∃ u : Nat, u = 2 ^ k := ⟨_, rfl⟩
          have hsh := shl_one k u hu (by omega)
          rw [← hu] at HD2 HD
          have HU := Lib.hid hu; clear hu
          go_upto_region 24 with (fail)
          first | go_region | fail
          go_upto_region 25 with (fail)
          refine wp_abs (fun W => Row W w.heap.size 202 #[Value.int .u64 d0, .int .u64 d1, .int .u64 d2, .int .u64 d3, .int .u64 d4, .int .u64 d5] ∧ Row W (w.heap.size + 1) 23 #[Value.int .u8 15, .int .i64 X, .int .i64 0, .int .i64 J, .int .i64 0] ∧ Below w.heap.size w W) ?_ ?_
          · have hh := HB.out
            exact ⟨by rw [← HD2.out]; exact RA.out.set X _, RX.out.far (by simp) _, by go_grown⟩
          clear a0 a1 a2 x0 x1 RA RX HB
          rintro W ⟨ra, rx, hb⟩
          have HB := Lib.hid hb; have RA := Lib.hid ra; have RX := Lib.hid rx
          have a0 := ra.cell; have x0 := rx.cell
          have bd : Hid (∀ y ∈ [d0, d1, d2, d3, d4, d5], y < 2 ^ n) := fun y hy => setV_mem (HD.out ▸ hy) HBD.out (by have := HB3.out k hlt; rw [HU.out]; exact this)
          obtain ⟨r, hr⟩ : ∃ r : Bool, r = (fun s => holdsT (stcWord n) a (setV [b0, b1, b2, b3, b4, b5] X (2 ^ s))) k := ⟨_, rfl⟩
          have hg : Hid (holdsT (stcWord n) a [d0, d1, d2, d3, d4, d5] = r) := by rw [Hid, hr, ← HD.out, HU.out]
          have HRk := Lib.hid hr; clear hr
          clear ra rx hb
          have ac0 := a0 0; have ac1 := a0 1; have ac2 := a0 2; have ac3 := a0 3; have ac4 := a0 4; have ac5 := a0 5
          have xc0 := x0 0; have xc3 := x0 3
          simp only [List.getElem?_toArray, List.getElem?_cons_zero, List.getElem?_cons_succ] at ac0 ac1 ac2 ac3 ac4 ac5 xc0 xc3
          clear a0 x0
          go_region_held3 (fun W => W.cell? ⟨w.heap.size + 1, 3, none⟩ = some (.int .i64 J) ∧ W.cell? ⟨w.heap.size + 1, 0, none⟩ = some (.int .u8 15) ∧ W.cell? ⟨w.heap.size, 0, none⟩ = some (.int .u64 d0) ∧ W.cell? ⟨w.heap.size, 1, none⟩ = some (.int .u64 d1) ∧ W.cell? ⟨w.heap.size, 2, none⟩ = some (.int .u64 d2) ∧ W.cell? ⟨w.heap.size, 3, none⟩ = some (.int .u64 d3) ∧ W.cell? ⟨w.heap.size, 4, none⟩ = some (.int .u64 d4) ∧ W.cell? ⟨w.heap.size, 5, none⟩ = some (.int .u64 d5)) (first | exact ⟨yc3, yc0, bc0, bc1, bc2, bc3, bc4, bc5⟩ | exact ⟨xc3, xc0, ac0, ac1, ac2, ac3, ac4, ac5⟩) (first | (go_at_call 190; (with_reducible refine (HIH.out p J d0 d1 d2 d3 d4 d5 _ HOK.out HSA.out HJ1.out (HV.out.below HB.out.drew (Nat.le_refl _)) (HDB.out.below HB.out.drew (Nat.le_refl _)) bd.out).mono ?_); rintro e w1 ⟨rfl, hb1⟩; rw [hg.out]; have HBb : Hid (Below W.heap.size W w1) := (⟨hb1.os, hb1.tape, hb1.output, hb1.size, hb1.block⟩ : Below W.heap.size W w1); have RA1 := Lib.hid (RA.out.below HBb.out RA.out.lt); have RX1 := Lib.hid (RX.out.below HBb.out RX.out.lt); have HB1 := Lib.hid (HB.out.trans (HBb.out.mono HB.out.size)); clear hb1; have y0 := RX1.out.cell; have b0' := RA1.out.cell; have yc0 := y0 0; have yc3 := y0 3; have bc0 := b0' 0; have bc1 := b0' 1; have bc2 := b0' 2; have bc3 := b0' 3; have bc4 := b0' 4; have bc5 := b0' 5; simp only [List.getElem?_toArray, List.getElem?_cons_zero, List.getElem?_cons_succ] at yc0 yc3 bc0 bc1 bc2 bc3 bc4 bc5; clear y0 b0'))
          cases r
          · have hR : R = false := by rw [HRR.out]; exact all_miss hlt HRk.out.symm
            have HR0 := Lib.hid hR; clear hR
            have x0 := RX1.out.cell; have x1 := RX1.out.lt
            go_wp2
            go_returns
            exact ⟨ret_b HR0.out, by have := HB1.out; go_grown⟩
          · have x1 := RX1.out.lt
            go_wp2
            go_roundg (n - (k + 1))
            case rel => exact ⟨k + 1, d0, d1, d2, d3, d4, d5, by omega, rfl, by go_num, RA1.out, fun s => by rw [← HD.out, setV_setV], RX1.out, by have := HB1.out; go_grown, by rw [all_snoc, HC.out, ← HRk.out]; rfl⟩
            case measure => omega
        · have hkN : k = n := by omega
          have hR : R = true := by rw [HRR.out]; have hh := HC.out; rw [hkN] at hh; exact hh
          have HR0 := Lib.hid hR; clear hR hkN
          have x0 := rx.cell; have x1 := rx.lt
          clear ra rx
          go_wp2
          go_returns
          exact ⟨ret_b HR0.out, HB.out⟩
  | bin op a b iha ihb =>
    intro p i b0 b1 b2 b3 b4 b5 w hok hsg hi hv hdb hbd
    have hposa := a.size_pos
    have hposb := b.size_pos
    have hip : i = p + a.size + b.size := by simp [Tr.size] at hi; omega
    have hm : f[i]? = some ⟨op, 0, 0, ((p + a.size - 1 : Nat) : Int), ((p + a.size + b.size - 1 : Nat) : Int)⟩ := by rw [hip]; exact hsg.bin
    have HSA := Lib.hid hsg.bin1
    have HSB := Lib.hid hsg.bin2
    have hops := nc2_op hok.1
    have HOA := Lib.hid hok.2.1
    have HOB := Lib.hid hok.2.2
    have hj1 : p + a.size - 1 + 1 = p + a.size := by omega
    have hj2 : p + a.size + b.size - 1 + 1 = p + a.size + b.size := by omega
    have HJ1 := Lib.hid hj1; have HJ2 := Lib.hid hj2; clear hj1 hj2
    have HIA := Lib.hid iha; have HIB := Lib.hid ihb; clear iha ihb hsg hi hok
    have HV := Lib.hid hv
    obtain ⟨hop, A1, cc, rfl, hc, hc2, hcell⟩ := hv
    have hil : i < f.length := (List.getElem?_eq_some_iff.1 hm).1
    obtain ⟨bb, o, rfl, hb, hcell2⟩ := hcell (by omega)
    obtain ⟨c0, c1, c2, c3, c4⟩ := hcell2 i _ hm
    simp only at c0 c1 c2 c3 c4
    clear hcell hcell2 hop hm
    have HIP := Lib.hid hip; clear hip
    generalize hK : p + a.size + b.size - 1 = K at *
    generalize hJ : p + a.size - 1 = J at *
    have HJ := Lib.hid hJ; have HK := Lib.hid hK; clear hJ hK
    have HDB := Lib.hid hdb; have HBD := Lib.hid hbd; clear hdb hbd
    obtain ⟨R, hR⟩ : ∃ R, R = holdsT (stcWord n) (.bin op a b) [b0, b1, b2, b3, b4, b5] := ⟨_, rfl⟩
    rw [← hR]
    have HR := Lib.hid hR
    clear hR
    obtain ⟨ra, hra⟩ : ∃ r, r = holdsT (stcWord n) a [b0, b1, b2, b3, b4, b5] := ⟨_, rfl⟩
    obtain ⟨rb, hrb⟩ : ∃ r, r = holdsT (stcWord n) b [b0, b1, b2, b3, b4, b5] := ⟨_, rfl⟩
    have HRA := Lib.hid hra; have HRB := Lib.hid hrb; clear hra hrb
    rcases hops with rfl | rfl
    · have hR : R = (ra && rb) := by rw [HR.out, HRA.out, HRB.out]; simp [holdsT]
      rw [hR]; clear hR
      cases ra
      all_goals
        go_enter Tryd.func190, Tryd.ntmps190
        go_upto_region 2 with (fail)
        refine wp_abs (fun W => Row W w.heap.size 202 #[Value.int .u64 b0, .int .u64 b1, .int .u64 b2, .int .u64 b3, .int .u64 b4, .int .u64 b5] ∧ Row W (w.heap.size + 1) 23 #[Value.int .u8 10, .int .i64 0, .int .i64 0, .int .i64 J, .int .i64 K] ∧ Below w.heap.size w W) ?_ ?_
        · exact ⟨(Row.new w _ _).alloc _, Row.lit (by simp only [World.size_alloc]), by go_grown⟩
        rintro W ⟨ra, rx, hb⟩
        have RA := Lib.hid ra; have RX := Lib.hid rx; have HB := Lib.hid hb
        have a0 := ra.cell; have x0 := rx.cell; have x1 := rx.lt; have a1 := ra.lt; have a2 := ra.free
        clear ra rx hb c0 c1 c2 c3 c4
        go_wp2_with (first
          | (go_at_call 190; (with_reducible refine (HIA.out p J b0 b1 b2 b3 b4 b5 _ HOA.out HSA.out HJ1.out (HV.out.below HB.out (Nat.le_refl _)) (HDB.out.below HB.out (Nat.le_refl _)) HBD.out).mono ?_); rintro e w1 ⟨rfl, hb1⟩; rw [← HRA.out]; have RX1 := Lib.hid (RX.out.below hb1 RX.out.lt); have RA1 := Lib.hid (RA.out.below hb1 RA.out.lt); replace HB := Lib.hid (HB.out.trans (hb1.mono HB.out.size)); clear hb1 a0 a1 a2 x0 x1; have a0 := RA1.out.cell; have x0 := RX1.out.cell; have x1 := RX1.out.lt; have a1 := RA1.out.lt)
          | (go_at_call 190; (with_reducible refine (HIB.out (p + a.size) K b0 b1 b2 b3 b4 b5 _ HOB.out HSB.out HJ2.out (HV.out.below HB.out (Nat.le_refl _)) (HDB.out.below HB.out (Nat.le_refl _)) HBD.out).mono ?_); rintro e w2 ⟨rfl, hb2⟩; rw [← HRB.out]; replace HB := Lib.hid (HB.out.trans (hb2.mono HB.out.size)); clear hb2))
        go_returns
        exact ⟨rfl, HB.out⟩
    · have hR : R = (ra || rb) := by rw [HR.out, HRA.out, HRB.out]; simp [holdsT]
      rw [hR]; clear hR
      cases ra
      all_goals
        go_enter Tryd.func190, Tryd.ntmps190
        go_upto_region 2 with (fail)
        refine wp_abs (fun W => Row W w.heap.size 202 #[Value.int .u64 b0, .int .u64 b1, .int .u64 b2, .int .u64 b3, .int .u64 b4, .int .u64 b5] ∧ Row W (w.heap.size + 1) 23 #[Value.int .u8 11, .int .i64 0, .int .i64 0, .int .i64 J, .int .i64 K] ∧ Below w.heap.size w W) ?_ ?_
        · exact ⟨(Row.new w _ _).alloc _, Row.lit (by simp only [World.size_alloc]), by go_grown⟩
        rintro W ⟨ra, rx, hb⟩
        have RA := Lib.hid ra; have RX := Lib.hid rx; have HB := Lib.hid hb
        have a0 := ra.cell; have x0 := rx.cell; have x1 := rx.lt; have a1 := ra.lt; have a2 := ra.free
        clear ra rx hb c0 c1 c2 c3 c4
        go_wp2_with (first
          | (go_at_call 190; (with_reducible refine (HIA.out p J b0 b1 b2 b3 b4 b5 _ HOA.out HSA.out HJ1.out (HV.out.below HB.out (Nat.le_refl _)) (HDB.out.below HB.out (Nat.le_refl _)) HBD.out).mono ?_); rintro e w1 ⟨rfl, hb1⟩; rw [← HRA.out]; have RX1 := Lib.hid (RX.out.below hb1 RX.out.lt); have RA1 := Lib.hid (RA.out.below hb1 RA.out.lt); replace HB := Lib.hid (HB.out.trans (hb1.mono HB.out.size)); clear hb1 a0 a1 a2 x0 x1; have a0 := RA1.out.cell; have x0 := RX1.out.cell; have x1 := RX1.out.lt; have a1 := RA1.out.lt)
          | (go_at_call 190; (with_reducible refine (HIB.out (p + a.size) K b0 b1 b2 b3 b4 b5 _ HOB.out HSB.out HJ2.out (HV.out.below HB.out (Nat.le_refl _)) (HDB.out.below HB.out (Nat.le_refl _)) HBD.out).mono ?_); rintro e w2 ⟨rfl, hb2⟩; rw [← HRB.out]; replace HB := Lib.hid (HB.out.trans (hb2.mono HB.out.size)); clear hb2))
        go_returns
        exact ⟨rfl, HB.out⟩

set_option maxRecDepth 100000 in
set_option maxHeartbeats 2000000 in
theorem holds_T (t : List Lf) (A : Option Addr) (n c : Nat) (hn : n = t.length) (hk : KidsOk t) (hl : n ≤ 31) (f : List Mk) (v : Value) (hf64 : f.length ≤ 64) : ∀ (tr : Tr) (p i : Nat) (b0 b1 b2 b3 b4 b5 : Nat) (w : World), tr.ok → Sg f p tr → i + 1 = p + tr.size → MS w v f → DB w → (∀ u ∈ [b0, b1, b2, b3, b4, b5], u < 2 ^ n) → TS w (.slice A n c) t → 
    Calls Tryd.prog 190 #[.iface 183 (.slice A n c), v, .int .i64 i, .agg #[.int .u64 b0, .int .u64 b1, .int .u64 b2, .int .u64 b3, .int .u64 b4, .int .u64 b5]] w fun e w' => e = .returned (.bool (holdsT (stcTree t) tr [b0, b1, b2, b3, b4, b5])) ∧ Below w.heap.size w w' := by
  have HN := Lib.hid hn; clear hn
  have s1 := nil_size_T; have s2 := meth_size_T
  intro tr
  induction tr with
  | leaf op x y =>
    intro p i b0 b1 b2 b3 b4 b5 w hok hsg hi hv hdb hbd htv
    have hip : i = p := by simp [Tr.size] at hi; omega
    subst hip
    obtain ⟨⟨X, rfl, hX⟩, ⟨Y, rfl, hY⟩⟩ := leaf_vars hok
    have hm := hsg.leaf
    clear hsg hi
    have HV := Lib.hid hv
    obtain ⟨hop, A1, cc, rfl, hc, hc2, hcell⟩ := hv
    have hil : i < f.length := (List.getElem?_eq_some_iff.1 hm).1
    obtain ⟨b, o, rfl, hb, hcell2⟩ := hcell (by omega)
    obtain ⟨c0, c1, c2, c3, c4⟩ := hcell2 i _ hm
    simp only at c0 c1 c2 c3 c4
    clear hcell hcell2 hop
    obtain ⟨q1, q2, q3, q4, q5, q6, q7⟩ := nc0_op hok.2.1
    have HDB := Lib.hid hdb; have HBD := Lib.hid hbd; clear hdb hbd; have HTV := Lib.hid htv; clear htv
    obtain ⟨R, hR⟩ : ∃ R, R = holdsT (stcTree t) (.leaf op X Y) [b0, b1, b2, b3, b4, b5] := ⟨_, rfl⟩
    rw [← hR]
    have HR := Lib.hid hR
    clear hR hok hm
    go_enter Tryd.func190, Tryd.ntmps190
    go_upto_region 2 with (fail)
    refine wp_abs (fun W => Row W w.heap.size 202 #[Value.int .u64 b0, .int .u64 b1, .int .u64 b2, .int .u64 b3, .int .u64 b4, .int .u64 b5] ∧ Row W (w.heap.size + 1) 23 #[Value.int .u8 op, .int .i64 X, .int .i64 Y, .int .i64 0, .int .i64 0] ∧ Below w.heap.size w W) ?_ ?_
    · exact ⟨(Row.new w _ _).alloc _, Row.lit (by simp only [World.size_alloc]), by go_grown⟩
    rintro W ⟨ra, rx, hb⟩
    have RA := Lib.hid ra; have RX := Lib.hid rx; have HB := Lib.hid hb
    have a0 := ra.cell; have x0 := rx.cell; have x1 := rx.lt; have a1 := ra.lt; have a2 := ra.free
    clear ra rx hb c0 c1 c2 c3 c4
    go_wp2_with (go_at_call 206; go_must ((with_reducible refine (atom_T t A n c HN.out hk hl op X Y hX hY b0 b1 b2 b3 b4 b5 HBD.out _ (HDB.out.below HB.out (Nat.le_refl _)) (HTV.out.below HB.out (Nat.le_refl _))).mono ?_); rintro e w1 ⟨he, hb1⟩; obtain rfl : e = .returned (.bool R) := he.trans (by rw [HR.out]; rfl); replace HB := Lib.hid (HB.out.trans (hb1.mono HB.out.size)); clear hb1 he))
    go_returns
    exact ⟨rfl, HB.out⟩
  | un op x a ih =>
    intro p i b0 b1 b2 b3 b4 b5 w hok hsg hi hv hdb hbd htv
    have hpos := a.size_pos
    have hip : i = p + a.size := by simp [Tr.size] at hi; omega
    obtain ⟨X, rfl, hX⟩ := un_var hok.1
    have hm : f[i]? = some ⟨op, X, 0, ((p + a.size - 1 : Nat) : Int), 0⟩ := by rw [hip]; exact hsg.un
    have hsa := hsg.un1
    have hops := nc1_op hok.1.2.1
    have HOK := Lib.hid hok.2
    have hj1 : p + a.size - 1 + 1 = p + a.size := by omega
    have HJ1 := Lib.hid hj1; clear hj1
    have HSA := Lib.hid hsa; clear hsa
    have HIH := Lib.hid ih; clear ih hsg hi hok
    have HV := Lib.hid hv
    obtain ⟨hop, A1, cc, rfl, hc, hc2, hcell⟩ := hv
    have hil : i < f.length := (List.getElem?_eq_some_iff.1 hm).1
    obtain ⟨b, o, rfl, hb, hcell2⟩ := hcell (by omega)
    obtain ⟨c0, c1, c2, c3, c4⟩ := hcell2 i _ hm
    simp only at c0 c1 c2 c3 c4
    clear hcell hcell2 hop hm
    have HIP := Lib.hid hip; clear hip
    generalize hJ : p + a.size - 1 = J at *
    have HJ := Lib.hid hJ; clear hJ
    have HDB := Lib.hid hdb; have HBD := Lib.hid hbd; clear hdb hbd; have HTV := Lib.hid htv; clear htv
    obtain ⟨R, hR⟩ : ∃ R, R = holdsT (stcTree t) (.un op X a) [b0, b1, b2, b3, b4, b5] := ⟨_, rfl⟩
    rw [← hR]
    have HR := Lib.hid hR
    clear hR
    rcases hops with rfl | rfl | rfl | rfl | rfl
    · have hr : R = !holdsT (stcTree t) a [b0, b1, b2, b3, b4, b5] := by rw [HR.out]; simp [holdsT]
      rw [hr]; clear hr
      go_enter Tryd.func190, Tryd.ntmps190
      go_upto_region 2 with (fail)
      refine wp_abs (fun W => Row W w.heap.size 202 #[Value.int .u64 b0, .int .u64 b1, .int .u64 b2, .int .u64 b3, .int .u64 b4, .int .u64 b5] ∧ Row W (w.heap.size + 1) 23 #[Value.int .u8 9, .int .i64 X, .int .i64 0, .int .i64 J, .int .i64 0] ∧ Below w.heap.size w W) ?_ ?_
      · exact ⟨(Row.new w _ _).alloc _, Row.lit (by simp only [World.size_alloc]), by go_grown⟩
      rintro W ⟨ra, rx, hb⟩
      have RA := Lib.hid ra; have RX := Lib.hid rx; have HB := Lib.hid hb
      have a0 := ra.cell; have x0 := rx.cell; have x1 := rx.lt; have a1 := ra.lt; have a2 := ra.free
      clear ra rx hb c0 c1 c2 c3 c4
      go_wp2_with (go_at_call 190; go_must ((with_reducible refine (HIH.out p J b0 b1 b2 b3 b4 b5 _ HOK.out HSA.out HJ1.out (HV.out.below HB.out (Nat.le_refl _)) (HDB.out.below HB.out (Nat.le_refl _)) HBD.out (HTV.out.below HB.out (Nat.le_refl _))).mono ?_); rintro e w1 ⟨rfl, hb1⟩; replace HB := Lib.hid (HB.out.trans (hb1.mono HB.out.size)); clear hb1))
      go_returns
      exact ⟨rfl, HB.out⟩
    · have hr : R = (List.range (setN n)).any (fun s => holdsT (stcTree t) a (setV [b0, b1, b2, b3, b4, b5] X s)) := by have e := HN.out; subst e; rw [HR.out]; rfl
      have HRR := Lib.hid hr; clear hr HR
      obtain ⟨N, hN⟩ : ∃ N, N = setN n := ⟨_, rfl⟩
      have hN2 : N < 18446744073709551616 := by rw [hN]; exact Nat.mod_lt _ (by omega)
      have hN3 : N ≤ 2 ^ n := by rw [hN]; exact setN_le n
      have HB3 := Lib.hid (fun (s : Nat) (h : s < N) => (show s < 2 ^ n by omega)); clear hN3
      rw [← hN] at HRR
      have HNE := Lib.hid hN; clear hN
      have hsh := shl_set n N HNE.out (by omega)
      go_enter Tryd.func190, Tryd.ntmps190
      go_upto_region 2 with (fail)
      refine wp_abs (fun W => Row W w.heap.size 202 #[Value.int .u64 b0, .int .u64 b1, .int .u64 b2, .int .u64 b3, .int .u64 b4, .int .u64 b5] ∧ Row W (w.heap.size + 1) 23 #[Value.int .u8 12, .int .i64 X, .int .i64 0, .int .i64 J, .int .i64 0] ∧ Below w.heap.size w W) ?_ ?_
      · exact ⟨(Row.new w _ _).alloc _, Row.lit (by simp only [World.size_alloc]), by go_grown⟩
      rintro W ⟨ra, rx, hb⟩
      have RA := Lib.hid ra; have RX := Lib.hid rx; have HB := Lib.hid hb
      have a0 := ra.cell; have x0 := rx.cell; have x1 := rx.lt; have a1 := ra.lt; have a2 := ra.free
      clear ra rx hb c0 c1 c2 c3 c4
      go_wp2_with (go_at_call 251; go_must (refine (nodsize_any A n c _).mono ?_; rintro e w1 ⟨rfl, rfl⟩))
      go_loopg [65] N (fun gk v wr => ∃ (k c0 c1 c2 c3 c4 c5 : Nat), k ≤ N ∧ gk = N - k ∧ v = .int .u64 k ∧ Row wr w.heap.size 202 #[Value.int .u64 c0, .int .u64 c1, .int .u64 c2, .int .u64 c3, .int .u64 c4, .int .u64 c5] ∧ (∀ s, setV [c0, c1, c2, c3, c4, c5] (X : Int) s = setV [b0, b1, b2, b3, b4, b5] (X : Int) s) ∧ Row wr (w.heap.size + 1) 23 #[Value.int .u8 12, .int .i64 X, .int .i64 0, .int .i64 J, .int .i64 0] ∧ Below w.heap.size w wr ∧ (List.range k).any (fun s => holdsT (stcTree t) a (setV [b0, b1, b2, b3, b4, b5] X s)) = false)
      case atStart => exact ⟨0, b0, b1, b2, b3, b4, b5, Nat.zero_le _, rfl, rfl, RA.out, fun _ => rfl, RX.out, HB.out, rfl⟩
      case round =>
        obtain ⟨k, c0, c1, c2, c3, c4, c5, hk, rfl, rfl, ra, hset, rx, hb, hacc⟩ := hrel
        clear a0 a1 a2 x0 x1 RA RX HB
        have RA := Lib.hid ra; have RX := Lib.hid rx; have HB := Lib.hid hb; have HS := Lib.hid hset; have HC := Lib.hid hacc
        clear hb hset hacc
        by_cases hlt : k < N
        · obtain ⟨d0, d1, d2, d3, d4, d5, hd⟩ := set6_ex b0 b1 b2 b3 b4 b5 k X
          have hd2 := set6 c0 c1 c2 c3 c4 c5 d0 d1 d2 d3 d4 d5 X _ hX ((HS.out _).trans hd)
          have HD := Lib.hid hd; have HD2 := Lib.hid hd2; clear hd hd2
          have a0 := ra.cell; have x0 := rx.cell; have x1 := rx.lt; have a1 := ra.lt; have a2 := ra.free
          clear ra rx
          go_upto_region 15 with (fail)
          refine wp_abs (fun W => Row W w.heap.size 202 #[Value.int .u64 d0, .int .u64 d1, .int .u64 d2, .int .u64 d3, .int .u64 d4, .int .u64 d5] ∧ Row W (w.heap.size + 1) 23 #[Value.int .u8 12, .int .i64 X, .int .i64 0, .int .i64 J, .int .i64 0] ∧ Below w.heap.size w W) ?_ ?_
          · have hh := HB.out
            exact ⟨by rw [← HD2.out]; exact RA.out.set X _, RX.out.far (by simp) _, by go_grown⟩
          clear a0 a1 a2 x0 x1 RA RX HB
          rintro W ⟨ra, rx, hb⟩
          have HB := Lib.hid hb; have RA := Lib.hid ra; have RX := Lib.hid rx
          have a0 := ra.cell; have x0 := rx.cell
          have bd : Hid (∀ y ∈ [d0, d1, d2, d3, d4, d5], y < 2 ^ n) := fun y hy => setV_mem (HD.out ▸ hy) HBD.out (HB3.out k hlt)
          obtain ⟨r, hr⟩ : ∃ r : Bool, r = (fun s => holdsT (stcTree t) a (setV [b0, b1, b2, b3, b4, b5] X s)) k := ⟨_, rfl⟩
          have hg : Hid (holdsT (stcTree t) a [d0, d1, d2, d3, d4, d5] = r) := by rw [Hid, hr, ← HD.out]
          have HRk := Lib.hid hr; clear hr
          clear ra rx hb
          have ac0 := a0 0; have ac1 := a0 1; have ac2 := a0 2; have ac3 := a0 3; have ac4 := a0 4; have ac5 := a0 5
          have xc0 := x0 0; have xc3 := x0 3
          simp only [List.getElem?_toArray, List.getElem?_cons_zero, List.getElem?_cons_succ] at ac0 ac1 ac2 ac3 ac4 ac5 xc0 xc3
          clear a0 x0
          go_region_held3 (fun W => W.cell? ⟨w.heap.size + 1, 3, none⟩ = some (.int .i64 J) ∧ W.cell? ⟨w.heap.size + 1, 0, none⟩ = some (.int .u8 12) ∧ W.cell? ⟨w.heap.size, 0, none⟩ = some (.int .u64 d0) ∧ W.cell? ⟨w.heap.size, 1, none⟩ = some (.int .u64 d1) ∧ W.cell? ⟨w.heap.size, 2, none⟩ = some (.int .u64 d2) ∧ W.cell? ⟨w.heap.size, 3, none⟩ = some (.int .u64 d3) ∧ W.cell? ⟨w.heap.size, 4, none⟩ = some (.int .u64 d4) ∧ W.cell? ⟨w.heap.size, 5, none⟩ = some (.int .u64 d5)) (first | exact ⟨yc3, yc0, bc0, bc1, bc2, bc3, bc4, bc5⟩ | exact ⟨xc3, xc0, ac0, ac1, ac2, ac3, ac4, ac5⟩) (first | (go_at_call 190; (with_reducible refine (HIH.out p J d0 d1 d2 d3 d4 d5 _ HOK.out HSA.out HJ1.out (HV.out.below HB.out.drew (Nat.le_refl _)) (HDB.out.below HB.out.drew (Nat.le_refl _)) bd.out (HTV.out.below HB.out.drew (Nat.le_refl _))).mono ?_); rintro e w1 ⟨rfl, hb1⟩; rw [hg.out]; have HBb : Hid (Below W.heap.size W w1) := (⟨hb1.os, hb1.tape, hb1.output, hb1.size, hb1.block⟩ : Below W.heap.size W w1); have RA1 := Lib.hid (RA.out.below HBb.out RA.out.lt); have RX1 := Lib.hid (RX.out.below HBb.out RX.out.lt); have HB1 := Lib.hid (HB.out.trans (HBb.out.mono HB.out.size)); clear hb1; have y0 := RX1.out.cell; have b0' := RA1.out.cell; have yc0 := y0 0; have yc3 := y0 3; have bc0 := b0' 0; have bc1 := b0' 1; have bc2 := b0' 2; have bc3 := b0' 3; have bc4 := b0' 4; have bc5 := b0' 5; simp only [List.getElem?_toArray, List.getElem?_cons_zero, List.getElem?_cons_succ] at yc0 yc3 bc0 bc1 bc2 bc3 bc4 bc5; clear y0 b0'))
          cases r
          · have x1 := RX1.out.lt
            go_wp2
            go_roundg (N - (k + 1))
            case rel => exact ⟨k + 1, d0, d1, d2, d3, d4, d5, by omega, rfl, by go_num, RA1.out, fun s => by rw [← HD.out, setV_setV], RX1.out, by have := HB1.out; go_grown, by rw [any_snoc, HC.out, ← HRk.out]; rfl⟩
            case measure => omega
          · have hR : R = true := by rw [HRR.out]; exact any_hit hlt HRk.out.symm
            have HR0 := Lib.hid hR; clear hR
            have x0 := RX1.out.cell; have x1 := RX1.out.lt
            go_wp2
            go_returns
            exact ⟨ret_b HR0.out, by have := HB1.out; go_grown⟩
        · have hkN : k = N := by omega
          have hR : R = false := by rw [HRR.out]; have hh := HC.out; rw [hkN] at hh; exact hh
          have HR0 := Lib.hid hR; clear hR hkN
          have x0 := rx.cell; have x1 := rx.lt
          clear ra rx
          go_wp2
          go_returns
          exact ⟨ret_b HR0.out, HB.out⟩
    · have hr : R = (List.range (setN n)).all (fun s => holdsT (stcTree t) a (setV [b0, b1, b2, b3, b4, b5] X s)) := by have e := HN.out; subst e; rw [HR.out]; rfl
      have HRR := Lib.hid hr; clear hr HR
      obtain ⟨N, hN⟩ : ∃ N, N = setN n := ⟨_, rfl⟩
      have hN2 : N < 18446744073709551616 := by rw [hN]; exact Nat.mod_lt _ (by omega)
      have hN3 : N ≤ 2 ^ n := by rw [hN]; exact setN_le n
      have HB3 := Lib.hid (fun (s : Nat) (h : s < N) => (show s < 2 ^ n by omega)); clear hN3
      rw [← hN] at HRR
      have HNE := Lib.hid hN; clear hN
      have hsh := shl_set n N HNE.out (by omega)
      go_enter Tryd.func190, Tryd.ntmps190
      go_upto_region 2 with (fail)
      refine wp_abs (fun W => Row W w.heap.size 202 #[Value.int .u64 b0, .int .u64 b1, .int .u64 b2, .int .u64 b3, .int .u64 b4, .int .u64 b5] ∧ Row W (w.heap.size + 1) 23 #[Value.int .u8 13, .int .i64 X, .int .i64 0, .int .i64 J, .int .i64 0] ∧ Below w.heap.size w W) ?_ ?_
      · exact ⟨(Row.new w _ _).alloc _, Row.lit (by simp only [World.size_alloc]), by go_grown⟩
      rintro W ⟨ra, rx, hb⟩
      have RA := Lib.hid ra; have RX := Lib.hid rx; have HB := Lib.hid hb
      have a0 := ra.cell; have x0 := rx.cell; have x1 := rx.lt; have a1 := ra.lt; have a2 := ra.free
      clear ra rx hb c0 c1 c2 c3 c4
      go_wp2_with (go_at_call 251; go_must (refine (nodsize_any A n c _).mono ?_; rintro e w1 ⟨rfl, rfl⟩))
      go_loopg [65] N (fun gk v wr => ∃ (k c0 c1 c2 c3 c4 c5 : Nat), k ≤ N ∧ gk = N - k ∧ v = .int .u64 k ∧ Row wr w.heap.size 202 #[Value.int .u64 c0, .int .u64 c1, .int .u64 c2, .int .u64 c3, .int .u64 c4, .int .u64 c5] ∧ (∀ s, setV [c0, c1, c2, c3, c4, c5] (X : Int) s = setV [b0, b1, b2, b3, b4, b5] (X : Int) s) ∧ Row wr (w.heap.size + 1) 23 #[Value.int .u8 13, .int .i64 X, .int .i64 0, .int .i64 J, .int .i64 0] ∧ Below w.heap.size w wr ∧ (List.range k).all (fun s => holdsT (stcTree t) a (setV [b0, b1, b2, b3, b4, b5] X s)) = true)
      case atStart => exact ⟨0, b0, b1, b2, b3, b4, b5, Nat.zero_le _, rfl, rfl, RA.out, fun _ => rfl, RX.out, HB.out, rfl⟩
      case round =>
        obtain ⟨k, c0, c1, c2, c3, c4, c5, hk, rfl, rfl, ra, hset, rx, hb, hacc⟩ := hrel
        clear a0 a1 a2 x0 x1 RA RX HB
        have RA := Lib.hid ra; have RX := Lib.hid rx; have HB := Lib.hid hb; have HS := Lib.hid hset; have HC := Lib.hid hacc
        clear hb hset hacc
        by_cases hlt : k < N
        · obtain ⟨d0, d1, d2, d3, d4, d5, hd⟩ := set6_ex b0 b1 b2 b3 b4 b5 k X
          have hd2 := set6 c0 c1 c2 c3 c4 c5 d0 d1 d2 d3 d4 d5 X _ hX ((HS.out _).trans hd)
          have HD := Lib.hid hd; have HD2 := Lib.hid hd2; clear hd hd2
          have a0 := ra.cell; have x0 := rx.cell; have x1 := rx.lt; have a1 := ra.lt; have a2 := ra.free
          clear ra rx
          go_upto_region 15 with (fail)
          refine wp_abs (fun W => Row W w.heap.size 202 #[Value.int .u64 d0, .int .u64 d1, .int .u64 d2, .int .u64 d3, .int .u64 d4, .int .u64 d5] ∧ Row W (w.heap.size + 1) 23 #[Value.int .u8 13, .int .i64 X, .int .i64 0, .int .i64 J, .int .i64 0] ∧ Below w.heap.size w W) ?_ ?_
          · have hh := HB.out
            exact ⟨by rw [← HD2.out]; exact RA.out.set X _, RX.out.far (by simp) _, by go_grown⟩
          clear a0 a1 a2 x0 x1 RA RX HB
          rintro W ⟨ra, rx, hb⟩
          have HB := Lib.hid hb; have RA := Lib.hid ra; have RX := Lib.hid rx
          have a0 := ra.cell; have x0 := rx.cell
          have bd : Hid (∀ y ∈ [d0, d1, d2, d3, d4, d5], y < 2 ^ n) := fun y hy => setV_mem (HD.out ▸ hy) HBD.out (HB3.out k hlt)
          obtain ⟨r, hr⟩ : ∃ r : Bool, r = (fun s => holdsT (stcTree t) a (setV [b0, b1, b2, b3, b4, b5] X s)) k := ⟨_, rfl⟩
          have hg : Hid (holdsT (stcTree t) a [d0, d1, d2, d3, d4, d5] = r) := by rw [Hid, hr, ← HD.out]
          have HRk := Lib.hid hr; clear hr
          clear ra rx hb
          have ac0 := a0 0; have ac1 := a0 1; have ac2 := a0 2; have ac3 := a0 3; have ac4 := a0 4; have ac5 := a0 5
          have xc0 := x0 0; have xc3 := x0 3
          simp only [List.getElem?_toArray, List.getElem?_cons_zero, List.getElem?_cons_succ] at ac0 ac1 ac2 ac3 ac4 ac5 xc0 xc3
          clear a0 x0
          go_region_held3 (fun W => W.cell? ⟨w.heap.size + 1, 3, none⟩ = some (.int .i64 J) ∧ W.cell? ⟨w.heap.size + 1, 0, none⟩ = some (.int .u8 13) ∧ W.cell? ⟨w.heap.size, 0, none⟩ = some (.int .u64 d0) ∧ W.cell? ⟨w.heap.size, 1, none⟩ = some (.int .u64 d1) ∧ W.cell? ⟨w.heap.size, 2, none⟩ = some (.int .u64 d2) ∧ W.cell? ⟨w.heap.size, 3, none⟩ = some (.int .u64 d3) ∧ W.cell? ⟨w.heap.size, 4, none⟩ = some (.int .u64 d4) ∧ W.cell? ⟨w.heap.size, 5, none⟩ = some (.int .u64 d5)) (first | exact ⟨yc3, yc0, bc0, bc1, bc2, bc3, bc4, bc5⟩ | exact ⟨xc3, xc0, ac0, ac1, ac2, ac3, ac4, ac5⟩) (first | (go_at_call 190; (with_reducible refine (HIH.out p J d0 d1 d2 d3 d4 d5 _ HOK.out HSA.out HJ1.out (HV.out.below HB.out.drew (Nat.le_refl _)) (HDB.out.below HB.out.drew (Nat.le_refl _)) bd.out (HTV.out.below HB.out.drew (Nat.le_refl _))).mono ?_); rintro e w1 ⟨rfl, hb1⟩; rw [hg.out]; have HBb : Hid (Below W.heap.size W w1) := (⟨hb1.os, hb1.tape, hb1.output, hb1.size, hb1.block⟩ : Below W.heap.size W w1); have RA1 := Lib.hid (RA.out.below HBb.out RA.out.lt); have RX1 := Lib.hid (RX.out.below HBb.out RX.out.lt); have HB1 := Lib.hid (HB.out.trans (HBb.out.mono HB.out.size)); clear hb1; have y0 := RX1.out.cell; have b0' := RA1.out.cell; have yc0 := y0 0; have yc3 := y0 3; have bc0 := b0' 0; have bc1 := b0' 1; have bc2 := b0' 2; have bc3 := b0' 3; have bc4 := b0' 4; have bc5 := b0' 5; simp only [List.getElem?_toArray, List.getElem?_cons_zero, List.getElem?_cons_succ] at yc0 yc3 bc0 bc1 bc2 bc3 bc4 bc5; clear y0 b0'))
          cases r
          · have hR : R = false := by rw [HRR.out]; exact all_miss hlt HRk.out.symm
            have HR0 := Lib.hid hR; clear hR
            have x0 := RX1.out.cell; have x1 := RX1.out.lt
            go_wp2
            go_returns
            exact ⟨ret_b HR0.out, by have := HB1.out; go_grown⟩
          · have x1 := RX1.out.lt
            go_wp2
            go_roundg (N - (k + 1))
            case rel => exact ⟨k + 1, d0, d1, d2, d3, d4, d5, by omega, rfl, by go_num, RA1.out, fun s => by rw [← HD.out, setV_setV], RX1.out, by have := HB1.out; go_grown, by rw [all_snoc, HC.out, ← HRk.out]; rfl⟩
            case measure => omega
        · have hkN : k = N := by omega
          have hR : R = true := by rw [HRR.out]; have hh := HC.out; rw [hkN] at hh; exact hh
          have HR0 := Lib.hid hR; clear hR hkN
          have x0 := rx.cell; have x1 := rx.lt
          clear ra rx
          go_wp2
          go_returns
          exact ⟨ret_b HR0.out, HB.out⟩
    · have hr : R = (List.range (n)).any (fun s => holdsT (stcTree t) a (setV [b0, b1, b2, b3, b4, b5] X (2 ^ s))) := by have e := HN.out; subst e; rw [HR.out]; rfl
      have HRR := Lib.hid hr; clear hr HR
      have hN2 : n ≤ 64 := by omega
      have HB3 := Lib.hid (fun (s : Nat) (h : s < n) => (show 2 ^ s < 2 ^ n from Nat.pow_lt_pow_right (by omega) (by omega)))
      go_enter Tryd.func190, Tryd.ntmps190
      go_upto_region 2 with (fail)
      refine wp_abs (fun W => Row W w.heap.size 202 #[Value.int .u64 b0, .int .u64 b1, .int .u64 b2, .int .u64 b3, .int .u64 b4, .int .u64 b5] ∧ Row W (w.heap.size + 1) 23 #[Value.int .u8 14, .int .i64 X, .int .i64 0, .int .i64 J, .int .i64 0] ∧ Below w.heap.size w W) ?_ ?_
      · exact ⟨(Row.new w _ _).alloc _, Row.lit (by simp only [World.size_alloc]), by go_grown⟩
      rintro W ⟨ra, rx, hb⟩
      have RA := Lib.hid ra; have RX := Lib.hid rx; have HB := Lib.hid hb
      have a0 := ra.cell; have x0 := rx.cell; have x1 := rx.lt; have a1 := ra.lt; have a2 := ra.free
      clear ra rx hb c0 c1 c2 c3 c4
      go_wp2_with (go_at_call 251; go_must (refine (nodsize_any A n c _).mono ?_; rintro e w1 ⟨rfl, rfl⟩))
      go_loopg [94] n (fun gk v wr => ∃ (k c0 c1 c2 c3 c4 c5 : Nat), k ≤ n ∧ gk = n - k ∧ v = .int .i64 k ∧ Row wr w.heap.size 202 #[Value.int .u64 c0, .int .u64 c1, .int .u64 c2, .int .u64 c3, .int .u64 c4, .int .u64 c5] ∧ (∀ s, setV [c0, c1, c2, c3, c4, c5] (X : Int) s = setV [b0, b1, b2, b3, b4, b5] (X : Int) s) ∧ Row wr (w.heap.size + 1) 23 #[Value.int .u8 14, .int .i64 X, .int .i64 0, .int .i64 J, .int .i64 0] ∧ Below w.heap.size w wr ∧ (List.range k).any (fun s => holdsT (stcTree t) a (setV [b0, b1, b2, b3, b4, b5] X (2 ^ s))) = false)
      case atStart => exact ⟨0, b0, b1, b2, b3, b4, b5, Nat.zero_le _, rfl, rfl, RA.out, fun _ => rfl, RX.out, HB.out, rfl⟩
      case round =>
        obtain ⟨k, c0, c1, c2, c3, c4, c5, hk, rfl, rfl, ra, hset, rx, hb, hacc⟩ := hrel
        clear a0 a1 a2 x0 x1 RA RX HB
        have RA := Lib.hid ra; have RX := Lib.hid rx; have HB := Lib.hid hb; have HS := Lib.hid hset; have HC := Lib.hid hacc
        clear hb hset hacc
        by_cases hlt : k < n
        · obtain ⟨d0, d1, d2, d3, d4, d5, hd⟩ := set6_ex b0 b1 b2 b3 b4 b5 (2 ^ k) X
          have hd2 := set6 c0 c1 c2 c3 c4 c5 d0 d1 d2 d3 d4 d5 X _ hX ((HS.out _).trans hd)
          have HD := Lib.hid hd; have HD2 := Lib.hid hd2; clear hd hd2
          have a0 := ra.cell; have x0 := rx.cell; have x1 := rx.lt; have a1 := ra.lt; have a2 := ra.free
          clear ra rx
          obtain ⟨u, hu⟩ : ∃ u : Nat, u = 2 ^ k := ⟨_, rfl⟩
          have hsh := shl_one k u hu (by omega)
          rw [← hu] at HD2 HD
          have HU := Lib.hid hu; clear hu
          go_upto_region 24 with (fail)
          first | go_region | fail
          go_upto_region 25 with (fail)
          refine wp_abs (fun W => Row W w.heap.size 202 #[Value.int .u64 d0, .int .u64 d1, .int .u64 d2, .int .u64 d3, .int .u64 d4, .int .u64 d5] ∧ Row W (w.heap.size + 1) 23 #[Value.int .u8 14, .int .i64 X, .int .i64 0, .int .i64 J, .int .i64 0] ∧ Below w.heap.size w W) ?_ ?_
          · have hh := HB.out
            exact ⟨by rw [← HD2.out]; exact RA.out.set X _, RX.out.far (by simp) _, by go_grown⟩
          clear a0 a1 a2 x0 x1 RA RX HB
          rintro W ⟨ra, rx, hb⟩
          have HB := Lib.hid hb; have RA := Lib.hid ra; have RX := Lib.hid rx
          have a0 := ra.cell; have x0 := rx.cell
          have bd : Hid (∀ y ∈ [d0, d1, d2, d3, d4, d5], y < 2 ^ n) := fun y hy => setV_mem (HD.out ▸ hy) HBD.out (by have := HB3.out k hlt; rw [HU.out]; exact this)
          obtain ⟨r, hr⟩ : ∃ r : Bool, r = (fun s => holdsT (stcTree t) a (setV [b0, b1, b2, b3, b4, b5] X (2 ^ s))) k := ⟨_, rfl⟩
          have hg : Hid (holdsT (stcTree t) a [d0, d1, d2, d3, d4, d5] = r) := by rw [Hid, hr, ← HD.out, HU.out]
          have HRk := Lib.hid hr; clear hr
          clear ra rx hb
          have ac0 := a0 0; have ac1 := a0 1; have ac2 := a0 2; have ac3 := a0 3; have ac4 := a0 4; have ac5 := a0 5
          have xc0 := x0 0; have xc3 := x0 3
          simp only [List.getElem?_toArray, List.getElem?_cons_zero, List.getElem?_cons_succ] at ac0 ac1 ac2 ac3 ac4 ac5 xc0 xc3
          clear a0 x0
          go_region_held3 (fun W => W.cell? ⟨w.heap.size + 1, 3, none⟩ = some (.int .i64 J) ∧ W.cell? ⟨w.heap.size + 1, 0, none⟩ = some (.int .u8 14) ∧ W.cell? ⟨w.heap.size, 0, none⟩ = some (.int .u64 d0) ∧ W.cell? ⟨w.heap.size, 1, none⟩ = some (.int .u64 d1) ∧ W.cell? ⟨w.heap.size, 2, none⟩ = some (.int .u64 d2) ∧ W.cell? ⟨w.heap.size, 3, none⟩ = some (.int .u64 d3) ∧ W.cell? ⟨w.heap.size, 4, none⟩ = some (.int .u64 d4) ∧ W.cell? ⟨w.heap.size, 5, none⟩ = some (.int .u64 d5)) (first | exact ⟨yc3, yc0, bc0, bc1, bc2, bc3, bc4, bc5⟩ | exact ⟨xc3, xc0, ac0, ac1, ac2, ac3, ac4, ac5⟩) (first | (go_at_call 190; (with_reducible refine (HIH.out p J d0 d1 d2 d3 d4 d5 _ HOK.out HSA.out HJ1.out (HV.out.below HB.out.drew (Nat.le_refl _)) (HDB.out.below HB.out.drew (Nat.le_refl _)) bd.out (HTV.out.below HB.out.drew (Nat.le_refl _))).mono ?_); rintro e w1 ⟨rfl, hb1⟩; rw [hg.out]; have HBb : Hid (Below W.heap.size W w1) := (⟨hb1.os, hb1.tape, hb1.output, hb1.size, hb1.block⟩ : Below W.heap.size W w1); have RA1 := Lib.hid (RA.out.below HBb.out RA.out.lt); have RX1 := Lib.hid (RX.out.below HBb.out RX.out.lt); have HB1 := Lib.hid (HB.out.trans (HBb.out.mono HB.out.size)); clear hb1; have y0 := RX1.out.cell; have b0' := RA1.out.cell; have yc0 := y0 0; have yc3 := y0 3; have bc0 := b0' 0; have bc1 := b0' 1; have bc2 := b0' 2; have bc3 := b0' 3; have bc4 := b0' 4; have bc5 := b0' 5; simp only [List.getElem?_toArray, List.getElem?_cons_zero, List.getElem?_cons_succ] at yc0 yc3 bc0 bc1 bc2 bc3 bc4 bc5; clear y0 b0'))
          cases r
          · have x1 := RX1.out.lt
            go_wp2
            go_roundg (n - (k + 1))
            case rel => exact ⟨k + 1, d0, d1, d2, d3, d4, d5, by omega, rfl, by go_num, RA1.out, fun s => by rw [← HD.out, setV_setV], RX1.out, by have := HB1.out; go_grown, by rw [any_snoc, HC.out, ← HRk.out]; rfl⟩
            case measure => omega
          · have hR : R = true := by rw [HRR.out]; exact any_hit hlt HRk.out.symm
            have HR0 := Lib.hid hR; clear hR
            have x0 := RX1.out.cell; have x1 := RX1.out.lt
            go_wp2
            go_returns
            exact ⟨ret_b HR0.out, by have := HB1.out; go_grown⟩
        · have hkN : k = n := by omega
          have hR : R = false := by rw [HRR.out]; have hh := HC.out; rw [hkN] at hh; exact hh
          have HR0 := Lib.hid hR; clear hR hkN
          have x0 := rx.cell; have x1 := rx.lt
          clear ra rx
          go_wp2
          go_returns
          exact ⟨ret_b HR0.out, HB.out⟩
    · have hr : R = (List.range (n)).all (fun s => holdsT (stcTree t) a (setV [b0, b1, b2, b3, b4, b5] X (2 ^ s))) := by have e := HN.out; subst e; rw [HR.out]; rfl
      have HRR := Lib.hid hr; clear hr HR
      have hN2 : n ≤ 64 := by omega
      have HB3 := Lib.hid (fun (s : Nat) (h : s < n) => (show 2 ^ s < 2 ^ n from Nat.pow_lt_pow_right (by omega) (by omega)))
      go_enter Tryd.func190, Tryd.ntmps190
      go_upto_region 2 with (fail)
      refine wp_abs (fun W => Row W w.heap.size 202 #[Value.int .u64 b0, .int .u64 b1, .int .u64 b2, .int .u64 b3, .int .u64 b4, .int .u64 b5] ∧ Row W (w.heap.size + 1) 23 #[Value.int .u8 15, .int .i64 X, .int .i64 0, .int .i64 J, .int .i64 0] ∧ Below w.heap.size w W) ?_ ?_
      · exact ⟨(Row.new w _ _).alloc _, Row.lit (by simp only [World.size_alloc]), by go_grown⟩
      rintro W ⟨ra, rx, hb⟩
      have RA := Lib.hid ra; have RX := Lib.hid rx; have HB := Lib.hid hb
      have a0 := ra.cell; have x0 := rx.cell; have x1 := rx.lt; have a1 := ra.lt; have a2 := ra.free
      clear ra rx hb c0 c1 c2 c3 c4
      go_wp2_with (go_at_call 251; go_must (refine (nodsize_any A n c _).mono ?_; rintro e w1 ⟨rfl, rfl⟩))
      go_loopg [94] n (fun gk v wr => ∃ (k c0 c1 c2 c3 c4 c5 : Nat), k ≤ n ∧ gk = n - k ∧ v = .int .i64 k ∧ Row wr w.heap.size 202 #[Value.int .u64 c0, .int .u64 c1, .int .u64 c2, .int .u64 c3, .int .u64 c4, .int .u64 c5] ∧ (∀ s, setV [c0, c1, c2, c3, c4, c5] (X : Int) s = setV [b0, b1, b2, b3, b4, b5] (X : Int) s) ∧ Row wr (w.heap.size + 1) 23 #[Value.int .u8 15, .int .i64 X, .int .i64 0, .int .i64 J, .int .i64 0] ∧ Below w.heap.size w wr ∧ (List.range k).all (fun s => holdsT (stcTree t) a (setV [b0, b1, b2, b3, b4, b5] X (2 ^ s))) = true)
      case atStart => exact ⟨0, b0, b1, b2, b3, b4, b5, Nat.zero_le _, rfl, rfl, RA.out, fun _ => rfl, RX.out, HB.out, rfl⟩
      case round =>
        obtain ⟨k, c0, c1, c2, c3, c4, c5, hk, rfl, rfl, ra, hset, rx, hb, hacc⟩ := hrel
        clear a0 a1 a2 x0 x1 RA RX HB
        have RA := Lib.hid ra; have RX := Lib.hid rx; have HB := Lib.hid hb; have HS := Lib.hid hset; have HC := Lib.hid hacc
        clear hb hset hacc
        by_cases hlt : k < n
        · obtain ⟨d0, d1, d2, d3, d4, d5, hd⟩ := set6_ex b0 b1 b2 b3 b4 b5 (2 ^ k) X
          have hd2 := set6 c0 c1 c2 c3 c4 c5 d0 d1 d2 d3 d4 d5 X _ hX ((HS.out _).trans hd)
          have HD := Lib.hid hd; have HD2 := Lib.hid hd2; clear hd hd2
          have a0 := ra.cell; have x0 := rx.cell; have x1 := rx.lt; have a1 := ra.lt; have a2 := ra.free
          clear ra rx
          obtain ⟨u, hu⟩ : ∃ u : Nat, u = 2 ^ k := ⟨_, rfl⟩
          have hsh := shl_one k u hu (by omega)
          rw [← hu] at HD2 HD
          have HU := Lib.hid hu; clear hu
          go_upto_region 24 with (fail)
          first | go_region | fail
          go_upto_region 25 with (fail)
          refine wp_abs (fun W => Row W w.heap.size 202 #[Value.int .u64 d0, .int .u64 d1, .int .u64 d2, .int .u64 d3, .int .u64 d4, .int .u64 d5] ∧ Row W (w.heap.size + 1) 23 #[Value.int .u8 15, .int .i64 X, .int .i64 0, .int .i64 J, .int .i64 0] ∧ Below w.heap.size w W) ?_ ?_
          · have hh := HB.out
            exact ⟨by rw [← HD2.out]; exact RA.out.set X _, RX.out.far (by simp) _, by go_grown⟩
          clear a0 a1 a2 x0 x1 RA RX HB
          rintro W ⟨ra, rx, hb⟩
          have HB := Lib.hid hb; have RA := Lib.hid ra; have RX := Lib.hid rx
          have a0 := ra.cell; have x0 := rx.cell
          have bd : Hid (∀ y ∈ [d0, d1, d2, d3, d4, d5], y < 2 ^ n) := fun y hy => setV_mem (HD.out ▸ hy) HBD.out (by have := HB3.out k hlt; rw [HU.out]; exact this)
          obtain ⟨r, hr⟩ : ∃ r : Bool, r = (fun s => holdsT (stcTree t) a (setV [b0, b1, b2, b3, b4, b5] X (2 ^ s))) k := ⟨_, rfl⟩
          have hg : Hid (holdsT (stcTree t) a [d0, d1, d2, d3, d4, d5] = r) := by rw [Hid, hr, ← HD.out, HU.out]
          have HRk := Lib.hid hr; clear hr
          clear ra rx hb
          have ac0 := a0 0; have ac1 := a0 1; have ac2 := a0 2; have ac3 := a0 3; have ac4 := a0 4; have ac5 := a0 5
          have xc0 := x0 0; have xc3 := x0 3
          simp only [List.getElem?_toArray, List.getElem?_cons_zero, List.getElem?_cons_succ] at ac0 ac1 ac2 ac3 ac4 ac5 xc0 xc3
          clear a0 x0
          go_region_held3 (fun W => W.cell? ⟨w.heap.size + 1, 3, none⟩ = some (.int .i64 J) ∧ W.cell? ⟨w.heap.size + 1, 0, none⟩ = some (.int .u8 15) ∧ W.cell? ⟨w.heap.size, 0, none⟩ = some (.int .u64 d0) ∧ W.cell? ⟨w.heap.size, 1, none⟩ = some (.int .u64 d1) ∧ W.cell? ⟨w.heap.size, 2, none⟩ = some (.int .u64 d2) ∧ W.cell? ⟨w.heap.size, 3, none⟩ = some (.int .u64 d3) ∧ W.cell? ⟨w.heap.size, 4, none⟩ = some (.int .u64 d4) ∧ W.cell? ⟨w.heap.size, 5, none⟩ = some (.int .u64 d5)) (first | exact ⟨yc3, yc0, bc0, bc1, bc2, bc3, bc4, bc5⟩ | exact ⟨xc3, xc0, ac0, ac1, ac2, ac3, ac4, ac5⟩) (first | (go_at_call 190; (with_reducible refine (HIH.out p J d0 d1 d2 d3 d4 d5 _ HOK.out HSA.out HJ1.out (HV.out.below HB.out.drew (Nat.le_refl _)) (HDB.out.below HB.out.drew (Nat.le_refl _)) bd.out (HTV.out.below HB.out.drew (Nat.le_refl _))).mono ?_); rintro e w1 ⟨rfl, hb1⟩; rw [hg.out]; have HBb : Hid (Below W.heap.size W w1) := (⟨hb1.os, hb1.tape, hb1.output, hb1.size, hb1.block⟩ : Below W.heap.size W w1); have RA1 := Lib.hid (RA.out.below HBb.out RA.out.lt); have RX1 := Lib.hid (RX.out.below HBb.out RX.out.lt); have HB1 := Lib.hid (HB.out.trans (HBb.out.mono HB.out.size)); clear hb1; have y0 := RX1.out.cell; have b0' := RA1.out.cell; have yc0 := y0 0; have yc3 := y0 3; have bc0 := b0' 0; have bc1 := b0' 1; have bc2 := b0' 2; have bc3 := b0' 3; have bc4 := b0' 4; have bc5 := b0' 5; simp only [List.getElem?_toArray, List.getElem?_cons_zero, List.getElem?_cons_succ] at yc0 yc3 bc0 bc1 bc2 bc3 bc4 bc5; clear y0 b0'))
          cases r
          · have hR : R = false := by rw [HRR.out]; exact all_miss hlt HRk.out.symm
            have HR0 := Lib.hid hR; clear hR
            have x0 := RX1.out.cell; have x1 := RX1.out.lt
            go_wp2
            go_returns
            exact ⟨ret_b HR0.out, by have := HB1.out; go_grown⟩
          · have x1 := RX1.out.lt
            go_wp2
            go_roundg (n - (k + 1))
            case rel => exact ⟨k + 1, d0, d1, d2, d3, d4, d5, by omega, rfl, by go_num, RA1.out, fun s => by rw [← HD.out, setV_setV], RX1.out, by have := HB1.out; go_grown, by rw [all_snoc, HC.out, ← HRk.out]; rfl⟩
            case measure => omega
        · have hkN : k = n := by omega
          have hR : R = true := by rw [HRR.out]; have hh := HC.out; rw [hkN] at hh; exact hh
          have HR0 := Lib.hid hR; clear hR hkN
          have x0 := rx.cell; have x1 := rx.lt
          clear ra rx
          go_wp2
          go_returns
          exact ⟨ret_b HR0.out, HB.out⟩
  | bin op a b iha ihb =>
    intro p i b0 b1 b2 b3 b4 b5 w hok hsg hi hv hdb hbd htv
    have hposa := a.size_pos
    have hposb := b.size_pos
    have hip : i = p + a.size + b.size := by simp [Tr.size] at hi; omega
    have hm : f[i]? = some ⟨op, 0, 0, ((p + a.size - 1 : Nat) : Int), ((p + a.size + b.size - 1 : Nat) : Int)⟩ := by rw [hip]; exact hsg.bin
    have HSA := Lib.hid hsg.bin1
    have HSB := Lib.hid hsg.bin2
    have hops := nc2_op hok.1
    have HOA := Lib.hid hok.2.1
    have HOB := Lib.hid hok.2.2
    have hj1 : p + a.size - 1 + 1 = p + a.size := by omega
    have hj2 : p + a.size + b.size - 1 + 1 = p + a.size + b.size := by omega
    have HJ1 := Lib.hid hj1; have HJ2 := Lib.hid hj2; clear hj1 hj2
    have HIA := Lib.hid iha; have HIB := Lib.hid ihb; clear iha ihb hsg hi hok
    have HV := Lib.hid hv
    obtain ⟨hop, A1, cc, rfl, hc, hc2, hcell⟩ := hv
    have hil : i < f.length := (List.getElem?_eq_some_iff.1 hm).1
    obtain ⟨bb, o, rfl, hb, hcell2⟩ := hcell (by omega)
    obtain ⟨c0, c1, c2, c3, c4⟩ := hcell2 i _ hm
    simp only at c0 c1 c2 c3 c4
    clear hcell hcell2 hop hm
    have HIP := Lib.hid hip; clear hip
    generalize hK : p + a.size + b.size - 1 = K at *
    generalize hJ : p + a.size - 1 = J at *
    have HJ := Lib.hid hJ; have HK := Lib.hid hK; clear hJ hK
    have HDB := Lib.hid hdb; have HBD := Lib.hid hbd; clear hdb hbd; have HTV := Lib.hid htv; clear htv
    obtain ⟨R, hR⟩ : ∃ R, R = holdsT (stcTree t) (.bin op a b) [b0, b1, b2, b3, b4, b5] := ⟨_, rfl⟩
    rw [← hR]
    have HR := Lib.hid hR
    clear hR
    obtain ⟨ra, hra⟩ : ∃ r, r = holdsT (stcTree t) a [b0, b1, b2, b3, b4, b5] := ⟨_, rfl⟩
    obtain ⟨rb, hrb⟩ : ∃ r, r = holdsT (stcTree t) b [b0, b1, b2, b3, b4, b5] := ⟨_, rfl⟩
    have HRA := Lib.hid hra; have HRB := Lib.hid hrb; clear hra hrb
    rcases hops with rfl | rfl
    · have hR : R = (ra && rb) := by rw [HR.out, HRA.out, HRB.out]; simp [holdsT]
      rw [hR]; clear hR
      cases ra
      all_goals
        go_enter Tryd.func190, Tryd.ntmps190
        go_upto_region 2 with (fail)
        refine wp_abs (fun W => Row W w.heap.size 202 #[Value.int .u64 b0, .int .u64 b1, .int .u64 b2, .int .u64 b3, .int .u64 b4, .int .u64 b5] ∧ Row W (w.heap.size + 1) 23 #[Value.int .u8 10, .int .i64 0, .int .i64 0, .int .i64 J, .int .i64 K] ∧ Below w.heap.size w W) ?_ ?_
        · exact ⟨(Row.new w _ _).alloc _, Row.lit (by simp only [World.size_alloc]), by go_grown⟩
        rintro W ⟨ra, rx, hb⟩
        have RA := Lib.hid ra; have RX := Lib.hid rx; have HB := Lib.hid hb
        have a0 := ra.cell; have x0 := rx.cell; have x1 := rx.lt; have a1 := ra.lt; have a2 := ra.free
        clear ra rx hb c0 c1 c2 c3 c4
        go_wp2_with (first
          | (go_at_call 190; (with_reducible refine (HIA.out p J b0 b1 b2 b3 b4 b5 _ HOA.out HSA.out HJ1.out (HV.out.below HB.out (Nat.le_refl _)) (HDB.out.below HB.out (Nat.le_refl _)) HBD.out (HTV.out.below HB.out (Nat.le_refl _))).mono ?_); rintro e w1 ⟨rfl, hb1⟩; rw [← HRA.out]; have RX1 := Lib.hid (RX.out.below hb1 RX.out.lt); have RA1 := Lib.hid (RA.out.below hb1 RA.out.lt); replace HB := Lib.hid (HB.out.trans (hb1.mono HB.out.size)); clear hb1 a0 a1 a2 x0 x1; have a0 := RA1.out.cell; have x0 := RX1.out.cell; have x1 := RX1.out.lt; have a1 := RA1.out.lt)
          | (go_at_call 190; (with_reducible refine (HIB.out (p + a.size) K b0 b1 b2 b3 b4 b5 _ HOB.out HSB.out HJ2.out (HV.out.below HB.out (Nat.le_refl _)) (HDB.out.below HB.out (Nat.le_refl _)) HBD.out (HTV.out.below HB.out (Nat.le_refl _))).mono ?_); rintro e w2 ⟨rfl, hb2⟩; rw [← HRB.out]; replace HB := Lib.hid (HB.out.trans (hb2.mono HB.out.size)); clear hb2))
        go_returns
        exact ⟨rfl, HB.out⟩
    · have hR : R = (ra || rb) := by rw [HR.out, HRA.out, HRB.out]; simp [holdsT]
      rw [hR]; clear hR
      cases ra
      all_goals
        go_enter Tryd.func190, Tryd.ntmps190
        go_upto_region 2 with (fail)
        refine wp_abs (fun W => Row W w.heap.size 202 #[Value.int .u64 b0, .int .u64 b1, .int .u64 b2, .int .u64 b3, .int .u64 b4, .int .u64 b5] ∧ Row W (w.heap.size + 1) 23 #[Value.int .u8 11, .int .i64 0, .int .i64 0, .int .i64 J, .int .i64 K] ∧ Below w.heap.size w W) ?_ ?_
        · exact ⟨(Row.new w _ _).alloc _, Row.lit (by simp only [World.size_alloc]), by go_grown⟩
        rintro W ⟨ra, rx, hb⟩
        have RA := Lib.hid ra; have RX := Lib.hid rx; have HB := Lib.hid hb
        have a0 := ra.cell; have x0 := rx.cell; have x1 := rx.lt; have a1 := ra.lt; have a2 := ra.free
        clear ra rx hb c0 c1 c2 c3 c4
        go_wp2_with (first
          | (go_at_call 190; (with_reducible refine (HIA.out p J b0 b1 b2 b3 b4 b5 _ HOA.out HSA.out HJ1.out (HV.out.below HB.out (Nat.le_refl _)) (HDB.out.below HB.out (Nat.le_refl _)) HBD.out (HTV.out.below HB.out (Nat.le_refl _))).mono ?_); rintro e w1 ⟨rfl, hb1⟩; rw [← HRA.out]; have RX1 := Lib.hid (RX.out.below hb1 RX.out.lt); have RA1 := Lib.hid (RA.out.below hb1 RA.out.lt); replace HB := Lib.hid (HB.out.trans (hb1.mono HB.out.size)); clear hb1 a0 a1 a2 x0 x1; have a0 := RA1.out.cell; have x0 := RX1.out.cell; have x1 := RX1.out.lt; have a1 := RA1.out.lt)
          | (go_at_call 190; (with_reducible refine (HIB.out (p + a.size) K b0 b1 b2 b3 b4 b5 _ HOB.out HSB.out HJ2.out (HV.out.below HB.out (Nat.le_refl _)) (HDB.out.below HB.out (Nat.le_refl _)) HBD.out (HTV.out.below HB.out (Nat.le_refl _))).mono ?_); rintro e w2 ⟨rfl, hb2⟩; rw [← HRB.out]; replace HB := Lib.hid (HB.out.trans (hb2.mono HB.out.size)); clear hb2))
        go_returns
        exact ⟨rfl, HB.out⟩
end Go.Proofs.YtgeklibilgfjbaaDoor

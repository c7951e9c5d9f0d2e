/- Contract: run of the package treedet. -/
import Derived.Test.YthkfjnmnoanhlaaGreatDoorMem
import Derived.Test.YthkfjnmnoanhlaaGreatDoorDtP
import Derived.Test.YthkfjnmnoanhlaaGreatDoorLfA
import Derived.StillTailTactics
set_option linter.unusedSimpArgs false
set_option linter.unusedVariables false
namespace Go.Proofs.YthkfjnmnoanhlaaGreatDoor
open Go.RowKit

set_option maxRecDepth 100000 in
set_option maxHeartbeats 4000000 in
theorem run1 (W : World) (gn go gr n : Nat) (cap : Nat) (c : Int) (x : Int) (hc0 : c < 0 ∨ c ≤ n) (hrn : W.cell? ⟨gn, 0, none⟩ = some (.int .i64 (n : Int))) (hro : W.cell? ⟨go, 0, none⟩ = some (.slice (some ⟨gr, 0, none⟩) (n + 1) cap)) (hx : W.cell? ⟨gr, kidN n c, none⟩ = some (.int .i64 x)) :
    Calls Tryz.prog 125 #[.int .i64 c, .pointer (some ⟨gn, 0, none⟩), .pointer (some ⟨go, 0, none⟩)] W fun e w' => e = .returned (.int .i64 x) ∧ w' = W := by
  unfold kidN at hx
  by_cases hc : c < 0
  · rw [if_pos hc] at hx
    go_enter Tryz.func125, Tryz.ntmps125
    go_wp2
    go_returns
    exact ⟨rfl, rfl⟩
  · rw [if_neg hc] at hx
    obtain ⟨k, rfl⟩ : ∃ k : Nat, c = k := ⟨c.toNat, by omega⟩
    rw [Int.toNat_natCast] at hx
    have hk : k < n + 1 := by omega
    have h0 : ¬ ((k : Int) < 0) := by omega
    clear hc hc0
    go_enter Tryz.func125, Tryz.ntmps125
    go_wp2
    go_returns
    exact ⟨rfl, rfl⟩
/-- From the node k on the row holds the states. -/
def StL (d : Dta) (t : List Lf) (k : Nat) (l : List Int) : Prop := l.length = t.length + 1 ∧ ∀ j, k ≤ j → j ≤ t.length → l[j]? = some (stN d t j : Int)
theorem StL.set {d : Dta} {t : List Lf} {k : Nat} {l : List Int} (h : StL d t (k + 1) l) (hk : k < t.length) : StL d t k (l.set k (stN d t k : Int)) := by
  refine ⟨by rw [List.length_set]; exact h.1, fun j hj hl => ?_⟩
  rw [List.getElem?_set]
  by_cases e : k = j
  · subst e
    rw [if_pos rfl, if_pos (by rw [h.1]; omega)]
  · rw [if_neg e]; exact h.2 j (by omega) hl
theorem StL.full {d : Dta} {t : List Lf} {l : List Int} (h : StL d t 0 l) : l = oI ((List.range (t.length + 1)).map (stN d t)) := by
  apply List.ext_getElem?
  intro j
  by_cases hj : j ≤ t.length
  · rw [h.2 j (by omega) hj, oI_at (a := stN d t j) (by rw [List.getElem?_map, List.getElem?_range (by omega)]; rfl)]
  · rw [List.getElem?_eq_none (by rw [h.1]; omega), List.getElem?_eq_none (by rw [oI_len]; simp; omega)]
structure RunS (w : World) (V n E : Nat) (d : Dta) (t : List Lf) (vn vf : Value) (k : Nat) (W : World) : Prop where
  below : Below w.heap.size w W
  rd : Row W w.heap.size 25 #[.int .i64 (V : Int), .int .i64 (E : Int), vn, vf]
  hn : Row W (w.heap.size + 1) 3 #[.int .i64 (n : Int)]
  ho : Row W (w.heap.size + 1 + 1 + 1) 53 #[.slice (some ⟨w.heap.size + 1 + 1, 0, none⟩) (n + 1) (n + 1)]
  hl : ∃ l, VO 3 W w.heap.size (.slice (some ⟨w.heap.size + 1 + 1, 0, none⟩) (n + 1) (n + 1)) (iL l) ∧ StL d t k l
theorem RunS.set {w W : World} {V n E k j k' : Nat} {d : Dta} {t : List Lf} {vn vf : Value} (h : RunS w V n E d t vn vf k W) (hn : n = t.length) (x : Int) (hst : ∀ l, StL d t k l → StL d t k' (l.set j x)) : RunS w V n E d t vn vf k' (W.setCell ⟨w.heap.size + 1 + 1, j, none⟩ (.int .i64 x)) := by
  obtain ⟨l, h1, h2⟩ := h.hl
  have h3 := set_val h1 (by rw [iL_len, h2.1, hn]) j (.int .i64 x) rfl
  rw [iL_set] at h3
  exact ⟨h.below.setCell (p := ⟨w.heap.size + 1 + 1, j, none⟩) (by simp; omega) _, h.rd.far (by simp; omega) _, h.hn.far (by simp) _, h.ho.far (by simp) _, _, h3, hst l h2⟩
theorem RunS.drew {w W : World} {V n E k : Nat} {d : Dta} {t : List Lf} {vn vf : Value} (h : RunS w V n E d t vn vf k W) : RunS w V n E d t vn vf k W.drew :=
  ⟨h.below.drew, h.rd, h.hn, h.ho, h.hl⟩
set_option maxRecDepth 100000 in
set_option maxHeartbeats 8000000 in
theorem run_ok (d : Dta) (V : Nat) (hd : d.Fit V) (va u : Value) (t : List Lf) (w : World) (hva : TD w va (d.raw V)) (hu : TS w u t) (hf : formedT t = true) (hlab : ∀ m ∈ t, m.label.toNat < d.L) (hlb : ∀ m ∈ t, 0 ≤ m.label) :
    Calls Tryz.prog 88 #[va, u] w fun e w' => ∃ v, e = .returned v ∧ Below w.heap.size w w' ∧ O1 w' w.heap.size v (oI ((List.range (t.length + 1)).map (stN d t))) := by
  have h31 := (btOf_ok hf).1
  obtain ⟨vn, vf, rfl, hn, hff⟩ := hva
  have hvars : (d.raw V).vars = (V : Int) := rfl
  have hemp : (d.raw V).empty = (d.e : Int) := rfl
  rw [hvars, hemp]
  obtain ⟨b3, o3, c3, hN⟩ := (show N3 w vn (nx3 d.n d.L d.nx) from hn).nx hd.pos hd.L8.1
  obtain rfl := hN.form
  obtain ⟨A2, c2, rfl, _⟩ := hff.open
  rw [(d.raw_len V).2]
  obtain ⟨_, Au, cu, rfl, hu1, hu2, hu3⟩ := hu
  obtain ⟨n, hnn⟩ : ∃ n, n = t.length := ⟨_, rfl⟩
  rw [← hnn] at hu1 h31 hu3 ⊢
  have hmk : ∀ w, (Instr.makeSlice 53 (.int .i64 ((n : Int) + 1)) (.int .i64 ((n : Int) + 1))).run Tryz.prog w = .ok (.slice (some ⟨w.heap.size, 0, none⟩) (n + 1) (n + 1)) (w.alloc (.cells (List.replicate (n + 1) (.int .i64 0)).toArray 3)) := fun w => by
    have h := run_make_vs eI (n + 1) (by omega) w
    exact h
  have hL8 := hd.L8.2
  have hn64 := hd.n64
  have HNN := Lib.hid hnn; have HF := Lib.hid hf; have HD := Lib.hid hd.ok; have HLAB := Lib.hid hlab; have HLB := Lib.hid hlb
  have HU3 := Lib.hid hu3; have HN3 := Lib.hid hN.at3
  have HST := Lib.hid (stN_end d t)
  rw [← hnn] at HST
  clear hn hff hu3 hnn hf hlab hlb hvars hemp hN hd
  obtain ⟨N, hNN⟩ : ∃ N, N = d.n := ⟨_, rfl⟩
  obtain ⟨L, hLL⟩ : ∃ N, N = d.L := ⟨_, rfl⟩
  obtain ⟨E, hE⟩ : ∃ E, E = d.e := ⟨_, rfl⟩
  rw [← hE] at HST
  rw [← hNN, ← hLL] at HN3
  rw [← hLL] at HLAB hL8
  rw [← hNN] at hn64
  rw [← hNN, ← hE]
  have HNE := Lib.hid hNN; have HLE := Lib.hid hLL
  clear hNN hE hLL
  go_enter Tryz.func88, Tryz.ntmps88
  go_upto_region 3 with fail
  refine wp_abs (fun W => RunS w V n E d t (.slice (some ⟨b3, o3, none⟩) N c3) (.slice A2 N c2) (n + 1) W)
    ⟨by go_grown, (((Row.new _ _ _).alloc _).alloc _).alloc _, ((Row.lit (by simp)).alloc _).alloc _, Row.lit (by simp), ⟨List.replicate (n + 1) 0, ?_, ⟨by rw [List.length_replicate, HNN.out], fun j h1 h2 => by have := HNN.out; omega⟩⟩⟩ ?_
  · have h := VO.lit (E := 3) (w := (w.alloc (.cells #[.int .i64 (V : Int), .int .i64 (E : Int), .slice (some ⟨b3, o3, none⟩) N c3, .slice A2 N c2] 25)).alloc (.cells #[.int .i64 (n : Int)] 3)) (n := n + 1) (List.replicate (n + 1) (.int .i64 0)) (by simp) (by omega) (by intro u hu; rw [List.eq_of_mem_replicate hu]; rfl)
    simp only [World.size_alloc] at h
    have e : iL (List.replicate (n + 1) 0) = List.replicate (n + 1) (.int .i64 0) := by simp [iL]
    rw [e]
    rw [List.toArray_replicate] at h
    exact (h.mono (by omega)).allocd _
  clear hmk
  rintro W hs
  have HS := Lib.hid hs
  obtain ⟨l0, hv0, hst0⟩ := hs.hl
  obtain ⟨⟨u0, hu0⟩, hf0, _, hg0⟩ := hv0.spot (j := n) (by rw [iL_len, hst0.1, HNN.out]) (by omega)
  have y0 := hs.rd.cell; have y1 := hs.hn.cell; have y2 := hs.ho.cell
  have z1 := fun j u => (hs.hn.far (p := ⟨w.heap.size + 1 + 1, j, none⟩) (by simp) u).cell
  clear hv0 hst0 hs l0
  go_wp2
  refine wp_abs (fun W => RunS w V n E d t (.slice (some ⟨b3, o3, none⟩) N c3) (.slice A2 N c2) n W)
    (HS.out.set HNN.out (E : Int) (fun l hl => ⟨by rw [List.length_set]; exact hl.1, fun j h1 h2 => by
      have : j = n := by have := HNN.out; omega
      subst this
      rw [List.getElem?_set, if_pos rfl, if_pos (by rw [hl.1, ← HNN.out]; omega), HST.out]⟩)) ?_
  clear HS hu0 hf0 y0 y1 y2 z1 hg0
  rintro W2 hs
  have HS := Lib.hid hs
  clear hs
  go_loopg [8] (n + 1) (fun gk q wr => ∃ (k : Nat) (z : Int), k ≤ n ∧ gk = k + 1 ∧ z + 1 = (k : Int) ∧ q = .int .i64 z ∧ RunS w V n E d t (.slice (some ⟨b3, o3, none⟩) N c3) (.slice A2 N c2) k wr)
  case atStart => exact ⟨n, (n : Int) - 1, Nat.le_refl _, rfl, by omega, by go_num, HS.out⟩
  case round =>
    clear HS
    obtain ⟨k, z, hk, rfl, hz, rfl, hs⟩ := hrel
    have HS := Lib.hid hs
    obtain ⟨l, hv, hst⟩ := hs.hl
    have y2 := hs.ho.cell
    have HV := Lib.hid hv; have HSL := Lib.hid hst
    clear hv hst hs
    by_cases hlt : 0 ≤ z
    · obtain ⟨i, rfl⟩ : ∃ i : Nat, z = i := ⟨z.toNat, by omega⟩
      obtain rfl : k = i + 1 := by omega
      obtain ⟨m, hm⟩ : ∃ m, t[i]? = some m := ⟨t[i]'(by rw [← HNN.out]; omega), List.getElem?_eq_getElem _⟩
      obtain ⟨b, o, rfl, hbl, hL3⟩ := HU3.out (by omega)
      obtain ⟨c0, c1, c2'⟩ := hL3 i m hm
      rw [← HS.out.below.cell (p := ⟨b, _, none⟩) hbl] at c0 c1 c2'
      have hstep := stN_step d HF.out hm
      rw [← HNN.out] at hstep
      obtain ⟨s1, s2, s3, s4, s5⟩ := hstep
      have hlabm := HLAB.out m (List.mem_of_getElem? hm)
      have hlbm := HLB.out m (List.mem_of_getElem? hm)
      obtain ⟨x, hx⟩ : ∃ x, x = m.label.toNat := ⟨_, rfl⟩
      have hxl : m.label = (x : Int) := by omega
      have ha := stN_lt HD.out HF.out (fun m hm => by rw [← HLE.out]; exact HLAB.out m hm) _ (kidN n m.left) (Nat.le_refl _) (by rw [← HNN.out]; exact s2)
      have hb := stN_lt HD.out HF.out (fun m hm => by rw [← HLE.out]; exact HLAB.out m hm) _ (kidN n m.right) (Nat.le_refl _) (by rw [← HNN.out]; exact s4)
      rw [← HNE.out] at ha hb
      have la := HSL.out.2 (kidN n m.left) (by omega) (by rw [← HNN.out]; exact s2)
      have lb := HSL.out.2 (kidN n m.right) (by omega) (by rw [← HNN.out]; exact s4)
      rw [← hx] at s5 hlabm
      obtain ⟨a, haa⟩ : ∃ a, a = stN d t (kidN n m.left) := ⟨_, rfl⟩
      obtain ⟨bb, hbb⟩ : ∃ a, a = stN d t (kidN n m.right) := ⟨_, rfl⟩
      rw [← haa] at s5 ha la
      rw [← hbb] at s5 hb lb
      obtain ⟨x2, o2, k2, x1, o1, k1, h1, h2, h3, h4, h5, h6, h7, h8⟩ := HN3.out a bb x ha hb hlabm
      rw [← HS.out.below.cell (p := ⟨b3, _, none⟩) h1] at h2
      rw [← HS.out.below.cell (p := ⟨x2, _, none⟩) h4] at h5
      rw [← HS.out.below.cell (p := ⟨x1, _, none⟩) h7] at h8
      rw [← s5] at h8
      obtain ⟨⟨u0, hu0⟩, hf0, _, hg0⟩ := HV.out.spot (j := i) (by rw [iL_len, HSL.out.1, HNN.out]) (by omega)
      have hcl : ∀ j y, l[j]? = some (y : Int) → wr.cell? ⟨w.heap.size + 1 + 1, j, none⟩ = some (.int .i64 y) := fun j y hy => by
        obtain ⟨g, cap, cs, he, _, _, _, _, hcell⟩ := HV.out.row (by rw [iL_len, HSL.out.1]; omega)
        simp only [Value.slice.injEq, Option.some.injEq, Addr.mk.injEq, and_true] at he
        obtain ⟨rfl, _, _⟩ := he
        exact hcell j _ (iL_at hy)
      have hR1 := run1 wr.drew (w.heap.size + 1) (w.heap.size + 1 + 1 + 1) (w.heap.size + 1 + 1) n (n + 1) m.left a (by unfold kidN at s2; split at s2 <;> omega) (HS.out.hn.cell 0) (HS.out.ho.cell 0) (hcl _ _ la)
      have hR2 := run1 wr.drew (w.heap.size + 1) (w.heap.size + 1 + 1 + 1) (w.heap.size + 1 + 1) n (n + 1) m.right bb (by unfold kidN at s4; split at s4 <;> omega) (HS.out.hn.cell 0) (HS.out.ho.cell 0) (hcl _ _ lb)
      have y0 := HS.out.rd.cell
      obtain ⟨y, hy⟩ : ∃ y, y = stN d t i := ⟨_, rfl⟩
      have HY := Lib.hid hy
      rw [← hy] at h8
      obtain ⟨cl, hcl'⟩ : ∃ c, c = m.left := ⟨_, rfl⟩
      obtain ⟨cr, hcr'⟩ : ∃ c, c = m.right := ⟨_, rfl⟩
      rw [hxl] at c0
      rw [← hcl'] at c1 hR1
      rw [← hcr'] at c2' hR2
      have HR1 := Lib.hid hR1; have HR2 := Lib.hid hR2
      clear hm hL3 s1 s2 s3 s4 s5 hx hxl la lb haa hbb hcl hR1 hR2 hy hcl' hcr' hlbm
      have hin : i < n := by omega
      have hin1 : (i : Int) < (n : Int) + 1 := by omega
      go_upto_region 8 with fail
      go_still_tail 30, (by kernel_rfl)
      still_call HR1.out
      repeat still_step
      still_call HR2.out
      repeat still_step
      refine wpStill_nil ?_
      change wpList _ _ _ _ _ wr.drew
      have HSD := Lib.hid (HS.out.drew)
      have hu1' : wr.drew.cell? ⟨w.heap.size + 1 + 1, i, none⟩ = some u0 := hu0
      have hf1' : wr.drew.frozen? ⟨w.heap.size + 1 + 1, i, none⟩ = false := hf0
      clear hu0 hf0 y0 y2 c0 c1 c2' h2 h5 h8 HR1 HR2 HS
      generalize wr.drew = W3 at *
      go_wp2
      go_roundg (i + 1)
      case rel =>
        refine ⟨i, (i : Int) - 1, by omega, rfl, by omega, by go_num, HSD.out.set HNN.out (y : Int) (fun l hl => ?_)⟩
        rw [HY.out]
        exact hl.set (by have := HNN.out; omega)
      case measure => omega
    · obtain rfl : k = 0 := by omega
      have hfull := HSL.out.full
      have ho := HV.out
      rw [hfull, ← HNN.out] at ho
      have HO := Lib.hid ho
      clear ho hfull
      go_wp2
      go_returns
      exact ⟨.slice (some ⟨w.heap.size + 1 + 1, 0, none⟩) (n + 1) (n + 1), rfl, HS.out.below, by have h := HO.out; rw [List.range_succ, List.map_append] at h; exact h⟩
end Go.Proofs.YthkfjnmnoanhlaaGreatDoor

/- Contract: the function grow of explored, for pairs. -/
import Derived.Test.YthkfjnmnoanhlaaGreatDoorExK
import Derived.Test.YthkfjnmnoanhlaaGreatDoorRgT
import Derived.Deep.RegionLaw
import Derived.Deep.RegionHeld3
set_option linter.unusedSimpArgs false
set_option linter.unusedVariables false
namespace Go.Proofs.YthkfjnmnoanhlaaGreatDoor
open Go.RowKit

theorem KeepG.grow {E1 E2 : TypeId} {r row : Option Nat} {A B C : World} (h : KeepG E1 E2 r A B) (hg : B.grownBy C row) (hr : ∀ g, row = some g → A.heap.size ≤ g) : KeepG E1 E2 r A C :=
  ⟨hg.os.trans h.os, hg.tape.trans h.tape, hg.output.trans h.output, Nat.le_trans h.size hg.size, fun g cs E fr hgg h1 h2 h3 => by
    have hl : g < A.heap.size := (Array.getElem?_eq_some_iff.1 hgg).1
    rw [hg.block g (Nat.lt_of_lt_of_le hl h.size) (fun e => by have := hr g e.symm; omega)]
    exact h.block g cs E fr hgg h1 h2 h3⟩
theorem KeepG.growR {E1 E2 : TypeId} {row : Option Nat} {A B C : World} (h : KeepG E1 E2 row A B) (hg : B.grownBy C row) : KeepG E1 E2 row A C :=
  ⟨hg.os.trans h.os, hg.tape.trans h.tape, hg.output.trans h.output, Nat.le_trans h.size hg.size, fun g cs E fr hgg h1 h2 h3 => by
    have hl : g < A.heap.size := (Array.getElem?_eq_some_iff.1 hgg).1
    rw [hg.block g (Nat.lt_of_lt_of_le hl h.size) h3]
    exact h.block g cs E fr hgg h1 h2 h3⟩
section
variable {α : Type} [DecidableEq α]
def ksX (f : α → α → Nat → α) (a b : α) (ks : List α) (x : Nat) : List α := (List.range x).foldl (fun o x => addS o (f a b x)) ks
theorem ksX_succ (f : α → α → Nat → α) (a b : α) (ks : List α) (x : Nat) : ksX f a b ks (x + 1) = addS (ksX f a b ks x) (f a b x) := by
  unfold ksX; rw [List.range_succ, List.foldl_append]; rfl
theorem ksX_pre (f : α → α → Nat → α) (a b : α) (ks : List α) (x : Nat) : ks <+: ksX f a b ks x := by
  induction x with
  | zero => exact List.prefix_refl _
  | succ x ih => rw [ksX_succ]; exact ih.trans (addS_pre _ _)
theorem ksX_mono (f : α → α → Nat → α) (a b : α) (ks : List α) {x y : Nat} (h : x ≤ y) : ksX f a b ks x <+: ksX f a b ks y := by
  induction y with
  | zero => have : x = 0 := by omega
            subst this; exact List.prefix_refl _
  | succ y ih =>
    by_cases e : x = y + 1
    · subst e; exact List.prefix_refl _
    · rw [ksX_succ]; exact (ih (by omega)).trans (addS_pre _ _)
theorem ksX_len (f : α → α → Nat → α) (a b : α) (ks : List α) (x : Nat) : (ksX f a b ks x).length ≤ ks.length + x := by
  induction x with
  | zero => exact Nat.le_refl _
  | succ x ih =>
    rw [ksX_succ]
    have : (addS (ksX f a b ks x) (f a b x)).length ≤ (ksX f a b ks x).length + 1 := by unfold addS; split <;> simp
    omega
def cX (f : α → α → Nat → α) (a b : α) (ks : List α) (x : Nat) : Nat := idxD (ksX f a b ks (x + 1)) (f a b x)
theorem idxD_get {o : List α} {s : α} (h : s ∈ o) : o[idxD o s]? = some s := by
  induction o with
  | nil => simp at h
  | cons b o ih =>
    rw [idxD_cons]
    by_cases e : b = s
    · subst e; rw [if_pos rfl]; rfl
    · rw [if_neg e]
      have : s ∈ o := by
        rcases List.mem_cons.1 h with h | h
        · exact absurd h.symm e
        · exact h
      simpa using ih this
theorem cX_get (f : α → α → Nat → α) (a b : α) (ks : List α) {x L : Nat} (h : x < L) : (ksX f a b ks L)[cX f a b ks x]? = some (f a b x) := by
  refine pre_get (ksX_mono f a b ks (show x + 1 ≤ L from h)) ?_
  exact idxD_get (by rw [ksX_succ]; exact addS_mem _ _)
end
theorem own_ne_none {v : Value} : v.ownBlock = none ∨ v.ownBlock ≠ none := by cases v.ownBlock <;> simp
theorem ExI.far {α : Type} [DecidableEq α] {K SK MT : TypeId} {n : Nat} {lit : α → Lit} {kC : α → List Value} {w0 : World} {go gn bm : Nat} {ks : List α} {W w' : World} {X : Obj} {E : TypeId} {B : Nat} {u : Value} {xs : List Value} (h : ExI K SK MT n lit kC w0 go gn bm ks W)
    (hg : (W.alloc X).grownBy w' u.ownBlock) (hu : VO E (W.alloc X) B u xs) (h1 : K ≠ E) (h2 : SK ≠ E) (h3 : MT ≠ E) (hB : w0.heap.size ≤ B) : ExI K SK MT n lit kC w0 go gn bm ks w' := by
  have hk := h.keep (Below.alloc (Below.refl W.heap.size W) (Nat.le_refl _) X)
  obtain ⟨ov, r1, r2⟩ := hk.ro
  exact ⟨hk.below.grown hg hk.below.size (fun k hk => Nat.le_trans hB (World.ownsRow.lt hu.2 k hk).1), hk.rn.far_own h3 hu.2 hg, hk.nm.kept hg (fun e => hk.nm.ne_own hu e), ⟨ov, r1.far_own h2 hu.2 hg, r2.far h1 hu.2 hg⟩, hk.bd⟩
/-- The variables that grow reads. -/
structure GrB (TA TN : TypeId) (V gv ga gx go gn : Nat) (j1 j2 : Value) (W : World) : Prop where
  rv : Row W gv 3 #[.int .i64 (V : Int)]
  ra : Row W ga TA #[.func (.func 147) #[] #[.pointer (some ⟨gn, 0, none⟩), .pointer (some ⟨go, 0, none⟩)]]
  rx : Row W gx TN #[.func (.func 116) #[] #[j1, j2]]
structure TyOK (TA TN : TypeId) : Prop where
  a1 : TA ≠ 143
  a2 : TA ≠ 140
  n1 : TN ≠ 143
  n2 : TN ≠ 140
  a3 : TA ≠ 53
  n3 : TN ≠ 53
  a4 : TA ≠ 54
  n4 : TN ≠ 54
theorem GrB.keepG {TA TN : TypeId} (t : TyOK TA TN) {V gv ga gx go gn : Nat} {j1 j2 : Value} {W W' : World} (h : GrB TA TN V gv ga gx go gn j1 j2 W) (hk : KeepP none W W') : GrB TA TN V gv ga gx go gn j1 j2 W' :=
  ⟨h.rv.keepG hk (by decide) (by decide) (by simp), h.ra.keepG hk t.a1 t.a2 (by simp), h.rx.keepG hk t.n1 t.n2 (by simp)⟩
set_option maxRecDepth 100000 in
set_option maxHeartbeats 8000000 in
theorem grow_P (P : Nat × Nat → Prop) (hPk : ∀ p, P p → pOK p) (f : Nat × Nat → Nat × Nat → Nat → Nat × Nat) (V L : Nat) (hV : V ≤ 3) (hL : L = 2 ^ V) (j1 j2 : Value) (w0 : World) (TA TN : TypeId) (ht : TyOK TA TN) (gv ga gx go gn bm : Nat) (hnx : NextP P f L j1 j2 w0) (hok : ∀ a b x, P a → P b → x < L → P (f a b x))
    (ks : List (Nat × Nat)) (hks : ∀ p ∈ ks, P p) (hlen : ks.length ≤ 4900) (l r : Nat) (a b : Nat × Nat) (ha : ks[l]? = some a) (hb : ks[r]? = some b) (B : Nat) (rv : Value) (vs : List Value) (hvl : vs.length ≤ 1000) (W : World) (hW : ExP w0 go gn bm ks W) (hB : GrB TA TN V gv ga gx go gn j1 j2 W) (hrv : VO 53 W B rv vs) (hBB : B ≤ W.heap.size) (hBw : w0.heap.size ≤ B) :
    Calls Tryz.prog 148 #[rv, .int .i64 (l : Int), .int .i64 (r : Int), .pointer (some ⟨gv, 0, none⟩), .pointer (some ⟨ga, 0, none⟩), .pointer (some ⟨gx, 0, none⟩), .pointer (some ⟨go, 0, none⟩)] W
      fun e W' => ∃ rv' u, e = .returned rv' ∧ VO 53 W' B rv' (vs ++ [u]) ∧ O1 W' W.heap.size u (oI ((List.range L).map (cX f a b ks))) ∧ ExP w0 go gn bm (ksX f a b ks L) W' ∧ KeepP rv.ownBlock W W' ∧ (rv'.ownBlock = rv.ownBlock ∨ ∃ g, rv'.ownBlock = some g ∧ W.heap.size ≤ g) := by
  have hsh := shl_i64 V hV
  rw [← hL] at hsh
  have hL8 : L ≤ 8 := by rw [hL]; exact Nat.pow_le_pow_right (by omega) hV
  have hV3' : (V : Int) ≤ 3 := by omega
  have HW := Lib.hid hW; have HBX := Lib.hid hB; have HRV := Lib.hid hrv; have HNX := Lib.hid hnx; have HOK := Lib.hid hok
  have hla : l < ks.length := (List.getElem?_eq_some_iff.1 ha).1
  have hrb : r < ks.length := (List.getElem?_eq_some_iff.1 hb).1
  have HA := Lib.hid ha; have HBb := Lib.hid hb
  have hpa : P a := hks a (List.mem_of_getElem? ha)
  have hpb : P b := hks b (List.mem_of_getElem? hb)
  obtain ⟨nv, hnv⟩ : ∃ n, n = vs.length := ⟨_, rfl⟩
  obtain ⟨Ar, cr, rfl⟩ := VO.formN (n := nv) hrv hnv.symm
  have HNV := Lib.hid hnv
  have z0 := hB.rv.cell
  clear hL hW hB hrv hnx hok ha hb hks hnv
  go_enter Tryz.func148, Tryz.ntmps148
  go_wp2
  clear z0
  go_loopg [11, 15] L (fun gk q11 q15 wr => ∃ x : Nat, x ≤ L ∧ gk = L - x ∧ q15 = .int .i64 x ∧ VO 3 wr W.heap.size q11 (iL (oI ((List.range x).map (cX f a b ks)))) ∧ ExP w0 go gn bm (ksX f a b ks x) wr ∧ KeepP none W wr)
  case atStart => exact ⟨0, Nat.zero_le _, rfl, rfl, VO.nil _ _ _, HW.out, KeepG.refl _ _ _ _⟩
  case round =>
    obtain ⟨x, hx, rfl, rfl, hto, hex, hkp⟩ := hrel
    obtain ⟨wx, hwx⟩ : ∃ y, y = wr := ⟨_, rfl⟩
    subst hwx
    obtain ⟨At, ct, rfl⟩ := VO.formN (n := x) hto (by rw [iL_len, oI_len]; simp)
    have HTO := Lib.hid hto; have HEX := Lib.hid hex; have HKP := Lib.hid hkp
    have hgrb := HBX.out.keepG ht hkp
    clear hto hkp hsh hV3'
    by_cases hlt : x < L
    · obtain ⟨ov, ho1, ho2⟩ := hex.ro
      have hpre := ksX_pre f a b ks x
      have hkl := ksX_len f a b ks x
      obtain ⟨m, hm⟩ : ∃ m, m = (ksX f a b ks x).length := ⟨_, rfl⟩
      obtain ⟨g3, cap3, cs3, rfl, hg3, hrow3, hc1, hc2, hcell3⟩ := ho2.row (by rw [List.length_map]; have := hpre.length_le; omega)
      rw [List.length_map, ← hm] at ho1 ho2 hc1
      have e0 := hcell3 l (pC a) (by rw [List.getElem?_map, pre_get hpre HA.out]; rfl)
      have e1 := hcell3 r (pC b) (by rw [List.getElem?_map, pre_get hpre HBb.out]; rfl)
      have a0 := e0 0 (by omega); have a1 := e0 1 (by omega); have b0 := e1 0 (by omega); have b1 := e1 1 (by omega)
      simp only [pC, List.getElem?_cons_zero, List.getElem?_cons_succ, Nat.add_zero] at a0 a1 b0 b1
      have y0 := ho1.cell; have y1 := hgrb.ra.cell; have y2 := hgrb.rx.cell
      have hpl := hpre.length_le
      have hlm : l < m := by omega
      have hrm : r < m := by omega
      have hnext := fun W' (h : Below wx.heap.size wx W') => HNX.out a b x W' hpa hpb hlt (hex.below.trans (h.mono hex.below.size))
      have HCB := Lib.hid (fun W' (h : Below wx.heap.size wx W') => (show Calls Tryz.prog 116 #[.agg #[.int .i64 (a.1 : Int), .int .i64 (a.2 : Int)], .agg #[.int .i64 (b.1 : Int), .int .i64 (b.2 : Int)], .int .i64 (x : Int), j1, j2] W' (fun e W2 => e = .returned (pV (f a b x)) ∧ Below W'.heap.size W' W2) from hnext W' h))
      have hfo := hPk _ (HOK.out a b x hpa hpb hlt)
      have hsucc := ksX_succ f a b ks x
      have hcx : cX f a b ks x = idxD (addS (ksX f a b ks x) (f a b x)) (f a b x) := by unfold cX; rw [ksX_succ]
      have HAT := Lib.hid (fun W' (h : Below wx.heap.size wx W') => at_P w0 go gn bm (f a b x) hfo (ksX f a b ks x) (by omega) W' (hex.keep h))
      rw [← hsucc] at HAT
      have HSX := Lib.hid hcx
      obtain ⟨s, hs⟩ : ∃ s, s = f a b x := ⟨_, rfl⟩
      rw [← hs] at HCB HAT
      obtain ⟨q, hq⟩ : ∃ q, q = cX f a b ks x := ⟨_, rfl⟩
      have HQ := Lib.hid (show idxD (ksX f a b ks (x + 1)) s = q by rw [hq, hs]; rfl)
      have HQ2 := Lib.hid hq
      have HGA := Lib.hid hgrb
      have HLEN : Hid ((iL (oI ((List.range x).map (cX f a b ks)))).length + [Value.int .i64 (q : Int)].length ≤ 1000000) := by unfold Hid; rw [iL_len, oI_len, List.length_map, List.length_range]; simp only [List.length_cons, List.length_nil]; omega
      have hgo := ho1.lt
      have hg3l := hrow3.lt
      clear ho1 ho2 hrow3 hc1 hc2 hcell3 e0 e1 hpre hkl hm hnext hfo hsucc hcx hs hq hpl hg3 hgrb hex
      have ya : wx.cell? ⟨ga, 0, none⟩ = some (.func (.func 147) #[] #[.pointer (some ⟨gn, 0, none⟩), .pointer (some ⟨go, 0, none⟩)]) := y1 0
      have yn : wx.cell? ⟨gx, 0, none⟩ = some (.func (.func 116) #[] #[j1, j2]) := y2 0
      have yk : wx.cell? ⟨go, 0, none⟩ = some (.slice (some ⟨g3, 0, none⟩) m cap3) := y0 0
      clear y0 y1 y2
      go_upto_region 5 with fail
      refine RgA.start (c := 13) (S := fun W' => W'.cell? ⟨ga, 0, none⟩ = some (.func (.func 147) #[] #[.pointer (some ⟨gn, 0, none⟩), .pointer (some ⟨go, 0, none⟩)]) ∧ W'.cell? ⟨gx, 0, none⟩ = some (.func (.func 116) #[] #[j1, j2]) ∧ W'.cell? ⟨go, 0, none⟩ = some (.slice (some ⟨g3, 0, none⟩) m cap3) ∧ W'.cell? ⟨g3, l * 2, none⟩ = some (.int .i64 (a.1 : Int)) ∧ W'.cell? ⟨g3, l * 2 + 1, none⟩ = some (.int .i64 (a.2 : Int)) ∧ W'.cell? ⟨g3, r * 2, none⟩ = some (.int .i64 (b.1 : Int)) ∧ W'.cell? ⟨g3, r * 2 + 1, none⟩ = some (.int .i64 (b.2 : Int))) (by kernel_rfl) ⟨ya, yn, yk, a0, a1, b0, b1⟩ ?_
      refine RgA.take0 (i := 0) (oi := ⟨some 18, _, _, _, _, _⟩) (v := ?_) rfl (by kernel_rfl) (by kernel_rfl) (by kernel_rfl) (fun _ _ _ h => h) rfl (Or.inl ⟨by rfl, ?_⟩) ?_
      rotate_left 1
      · (intro w hSw; (first | (go_simp; done) | (go_simp; with_reducible rfl)))
      try simp only [Act.put, List.setIfInBounds_toArray, List.set_cons_zero, List.set_cons_succ]
      refine RgA.take (i := 1) (oi := ⟨some 19, _, _, _, _, _⟩) (v := ?_) rfl (by kernel_rfl) (by kernel_rfl) (by kernel_rfl) (fun _ _ _ h => h) [1] (by kernel_rfl) (by rfl) rfl (Or.inl ⟨by rfl, ?_⟩) ?_
      rotate_left 1
      · (rintro w ⟨s0, s1, s2, s3, s4, s5, s6⟩; (first | (go_simp; done) | (go_simp; with_reducible rfl)))
      try simp only [Act.put, List.setIfInBounds_toArray, List.set_cons_zero, List.set_cons_succ]
      refine RgA.take (i := 2) (oi := ⟨some 20, _, _, _, _, _⟩) (v := ?_) rfl (by kernel_rfl) (by kernel_rfl) (by kernel_rfl) (fun _ _ _ h => h) [12, 2] (by kernel_rfl) (by rfl) rfl (Or.inl ⟨by rfl, ?_⟩) ?_
      rotate_left 1
      · (rintro w ⟨s0, s1, s2, s3, s4, s5, s6⟩; (first | (go_simp; done) | (go_simp; with_reducible rfl)))
      try simp only [Act.put, List.setIfInBounds_toArray, List.set_cons_zero, List.set_cons_succ]
      refine RgA.take (i := 3) (oi := ⟨some 21, _, _, _, _, _⟩) (v := ?_) rfl (by kernel_rfl) (by kernel_rfl) (by kernel_rfl) (fun _ _ _ h => h) [12, 6, 5, 3] (by kernel_rfl) (by rfl) rfl (Or.inl ⟨by rfl, ?_⟩) ?_
      rotate_left 1
      · (rintro w ⟨s0, s1, s2, s3, s4, s5, s6⟩; (first | (go_simp; done) | (go_simp; with_reducible rfl)))
      try simp only [Act.put, List.setIfInBounds_toArray, List.set_cons_zero, List.set_cons_succ]
      refine RgA.take (i := 4) (oi := ⟨some 22, _, _, _, _, _⟩) (v := ?_) rfl (by kernel_rfl) (by kernel_rfl) (by kernel_rfl) (fun _ _ _ h => h) [12, 6, 5, 4] (by kernel_rfl) (by rfl) rfl (Or.inl ⟨by rfl, ?_⟩) ?_
      rotate_left 1
      · (rintro w ⟨s0, s1, s2, s3, s4, s5, s6⟩; (first | (go_simp; done) | (go_simp; with_reducible rfl)))
      try simp only [Act.put, List.setIfInBounds_toArray, List.set_cons_zero, List.set_cons_succ]
      refine RgA.take (i := 5) (oi := ⟨some 23, _, _, _, _, _⟩) (v := ?_) rfl (by kernel_rfl) (by kernel_rfl) (by kernel_rfl) (fun _ _ _ h => h) [12, 6, 5] (by kernel_rfl) (by rfl) rfl (Or.inl ⟨by rfl, ?_⟩) ?_
      rotate_left 1
      · (rintro w ⟨s0, s1, s2, s3, s4, s5, s6⟩; (first | (go_simp; done) | (go_simp; with_reducible rfl)))
      try simp only [Act.put, List.setIfInBounds_toArray, List.set_cons_zero, List.set_cons_succ]
      refine RgA.take (i := 6) (oi := ⟨some 24, _, _, _, _, _⟩) (v := ?_) rfl (by kernel_rfl) (by kernel_rfl) (by kernel_rfl) (fun _ _ _ h => h) [12, 6] (by kernel_rfl) (by rfl) rfl (Or.inl ⟨by rfl, ?_⟩) ?_
      rotate_left 1
      · (rintro w ⟨s0, s1, s2, s3, s4, s5, s6⟩; (first | (go_simp; done) | (go_simp; with_reducible rfl)))
      try simp only [Act.put, List.setIfInBounds_toArray, List.set_cons_zero, List.set_cons_succ]
      refine RgA.take (i := 7) (oi := ⟨some 25, _, _, _, _, _⟩) (v := ?_) rfl (by kernel_rfl) (by kernel_rfl) (by kernel_rfl) (fun _ _ _ h => h) [12, 10, 9, 7] (by kernel_rfl) (by rfl) rfl (Or.inl ⟨by rfl, ?_⟩) ?_
      rotate_left 1
      · (rintro w ⟨s0, s1, s2, s3, s4, s5, s6⟩; (first | (go_simp; done) | (go_simp; with_reducible rfl)))
      try simp only [Act.put, List.setIfInBounds_toArray, List.set_cons_zero, List.set_cons_succ]
      refine RgA.take (i := 8) (oi := ⟨some 26, _, _, _, _, _⟩) (v := ?_) rfl (by kernel_rfl) (by kernel_rfl) (by kernel_rfl) (fun _ _ _ h => h) [12, 10, 9, 8] (by kernel_rfl) (by rfl) rfl (Or.inl ⟨by rfl, ?_⟩) ?_
      rotate_left 1
      · (rintro w ⟨s0, s1, s2, s3, s4, s5, s6⟩; (first | (go_simp; done) | (go_simp; with_reducible rfl)))
      try simp only [Act.put, List.setIfInBounds_toArray, List.set_cons_zero, List.set_cons_succ]
      refine RgA.take (i := 9) (oi := ⟨some 27, _, _, _, _, _⟩) (v := ?_) rfl (by kernel_rfl) (by kernel_rfl) (by kernel_rfl) (fun _ _ _ h => h) [12, 10, 9] (by kernel_rfl) (by rfl) rfl (Or.inl ⟨by rfl, ?_⟩) ?_
      rotate_left 1
      · (rintro w ⟨s0, s1, s2, s3, s4, s5, s6⟩; (first | (go_simp; done) | (go_simp; with_reducible rfl)))
      try simp only [Act.put, List.setIfInBounds_toArray, List.set_cons_zero, List.set_cons_succ]
      refine RgA.take (i := 10) (oi := ⟨some 28, _, _, _, _, _⟩) (v := ?_) rfl (by kernel_rfl) (by kernel_rfl) (by kernel_rfl) (fun _ _ _ h => h) [12, 10] (by kernel_rfl) (by rfl) rfl (Or.inl ⟨by rfl, ?_⟩) ?_
      rotate_left 1
      · (rintro w ⟨s0, s1, s2, s3, s4, s5, s6⟩; (first | (go_simp; done) | (go_simp; with_reducible rfl)))
      try simp only [Act.put, List.setIfInBounds_toArray, List.set_cons_zero, List.set_cons_succ]
      refine RgA.take (i := 11) (oi := ⟨some 29, _, _, _, _, _⟩) (v := ?_) rfl (by kernel_rfl) (by kernel_rfl) (by kernel_rfl) (fun _ _ _ h => h) [12, 11] (by kernel_rfl) (by rfl) rfl (Or.inl ⟨by rfl, ?_⟩) ?_
      rotate_left 1
      · (rintro w ⟨s0, s1, s2, s3, s4, s5, s6⟩; (first | (go_simp; done) | (go_simp; with_reducible rfl)))
      try simp only [Act.put, List.setIfInBounds_toArray, List.set_cons_zero, List.set_cons_succ]
      refine RgA.one (i := 12) (by kernel_rfl) rfl (fun K hK => ?_)
      go_simp
      (go_at_call 116; refine (HCB.out _ ((Below.refl _ _).drew)).mono ?_; rintro e w3 ⟨rfl, hb3⟩)
      have HB3 : Hid (Below wx.heap.size wx w3) := ⟨hb3.os, hb3.tape, hb3.output, hb3.size, hb3.block⟩
      clear hb3
      refine hK.out _ _ (fun _ => ⟨(HGA.out.ra.below HB3.out HGA.out.ra.lt).cell 0, (HGA.out.rx.below HB3.out HGA.out.rx.lt).cell 0, (HB3.out.cell (p := ⟨go, 0, none⟩) hgo).trans yk, (HB3.out.cell (p := ⟨g3, _, none⟩) hg3l).trans a0, (HB3.out.cell (p := ⟨g3, _, none⟩) hg3l).trans a1, (HB3.out.cell (p := ⟨g3, _, none⟩) hg3l).trans b0, (HB3.out.cell (p := ⟨g3, _, none⟩) hg3l).trans b1⟩) ?_
      clear hK K
      try simp only [Act.put, List.setIfInBounds_toArray, List.set_cons_zero, List.set_cons_succ]
      refine RgA.one (i := 13) (by kernel_rfl) rfl (fun K hK => ?_)
      go_simp
      (go_at_call 147; refine (HAT.out _ HB3.out).mono ?_; rintro e w4 ⟨rfl, hex4, hkp4⟩; rw [HQ.out])
      have HEX4 := Lib.hid hex4; have HKQ := Lib.hid ((KeepG.of_below HB3.out).trans hkp4); have HKP4 := Lib.hid (HKP.out.trans HKQ.out)
      have HTO4 := Lib.hid (VO.keepG (VO.below HTO.out HB3.out (Nat.le_refl _)) hkp4 (by decide) (by decide) own_ne_none)
      clear hex4 hkp4
      refine hK.out _ _ (fun hc => by simp at hc) ?_
      clear hK K
      try simp only [Act.put, List.setIfInBounds_toArray, List.set_cons_zero, List.set_cons_succ]
      refine RgA.one (i := 14) (by kernel_rfl) rfl (fun K hK => ?_)
      go_simp
      refine hK.out _ _ (fun hc => by simp at hc) ?_
      clear hK K
      try simp only [Act.put, List.setIfInBounds_toArray, List.set_cons_zero, List.set_cons_succ]
      refine RgA.one (i := 15) (by kernel_rfl) rfl (fun K hK => ?_)
      refine step_append_vs eI rfl (.tmp 18) (.tmp 32) rfl W.heap.size _ _ rfl (VO.allocd HTO4.out _) _ [.int .i64 (q : Int)] rfl (VS.one (Row.new _ _ _)) (iL_one [(q : Int)]) HLEN.out (HKP4.out.trans (KeepG.of_below (Below.alloc (Below.refl _ _) (Nat.le_refl _) _))).size ?_
      intro v5 w5 ho5 hg5 _
      obtain ⟨A5, c5, rfl⟩ := VO.formN (n := x + 1) ho5 (by rw [List.length_append, iL_len, oI_len, List.length_map, List.length_range]; rfl)
      have HO5 := Lib.hid ho5
      have HKP5 := Lib.hid ((HKP4.out.trans (KeepG.of_below (Below.alloc (Below.refl _ _) (Nat.le_refl _) _))).grow hg5 (fun g hg => (World.ownsRow.lt HTO4.out.2 g hg).1))
      have HEX5 := Lib.hid (HEX4.out.far hg5 (VO.allocd HTO4.out _) (by decide) (by decide) (by decide) HW.out.below.size)
      clear ho5 hg5
      refine hK.out _ _ (fun hc => by simp at hc) ?_
      clear hK K
      try simp only [Act.put, List.setIfInBounds_toArray, List.set_cons_zero, List.set_cons_succ]
      refine RgA.one (i := 16) (by kernel_rfl) rfl (fun K hK => ?_)
      go_simp
      refine hK.out _ _ (fun hc => by simp at hc) ?_
      clear hK K
      try simp only [Act.put, List.setIfInBounds_toArray, List.set_cons_zero, List.set_cons_succ]
      refine RgA.done (by kernel_rfl) ?_
      have HTO5 : Hid (VO 3 w5 W.heap.size (.slice A5 (x + 1) c5) (iL (oI ((List.range (x + 1)).map (cX f a b ks))))) := by
        have h := HO5.out
        rw [HQ2.out] at h
        unfold Hid
        rw [List.range_succ, List.map_append, List.map_cons, List.map_nil, oI_snoc, iL_snoc]
        exact h
      go_wp2
      go_roundg (L - (x + 1))
      case rel => exact ⟨x + 1, by omega, rfl, by go_num, HTO5.out, HEX5.out, HKP5.out⟩
      case measure => omega
    · have hxe : x = L := by omega
      have hto := HTO.out
      rw [hxe] at hto hex
      have HXE := Lib.hid hxe
      have HTO2 := Lib.hid hto; have HEX2 := Lib.hid hex
      clear hxe
      have HRV2 := Lib.hid (HRV.out.keepG HKP.out (by decide) (by decide) own_ne_none)
      have hsz := HKP.out.size
      clear hto hex hgrb
      go_wp2_with (at_builtin; refine wpList_append_vs eII rfl (.tmp 35) (.tmp 37) rfl B _ _ rfl (VO.allocd HRV2.out _) _ [.slice At x ct] rfl (VS.one (Row.new _ _ _)) (by intro u hu; simp at hu; subst hu; rfl) (by rw [← HNV.out]; simp; have := HNV.out; omega) (by simp only [World.size_alloc]; omega) ?_; intro v7 w7 ho7 hg7 hob7; have HO7 := Lib.hid ho7; have HT7 := Lib.hid (VO.far (VO.allocd HTO2.out _) (by decide) (VO.allocd HRV2.out _).2 hg7); have HE7 := Lib.hid (HEX2.out.far hg7 (VO.allocd HRV2.out _) (by decide) (by decide) (by decide) hBw); have HK7 := Lib.hid ((HKP.out.trans (KeepG.of_below (Below.alloc (Below.refl _ _) (Nat.le_refl _) _))).wide.growR hg7); have HOB := Lib.hid hob7; clear ho7 hg7 hob7)
      go_returns
      refine ⟨v7, _, rfl, HO7.out, (by rw [HXE.out]; exact HT7.out), HE7.out, HK7.out, ?_⟩
      rcases HOB.out with h | h
      · exact .inl h
      · exact .inr ⟨_, h, by simp only [World.size_alloc]; omega⟩
end Go.Proofs.YthkfjnmnoanhlaaGreatDoor

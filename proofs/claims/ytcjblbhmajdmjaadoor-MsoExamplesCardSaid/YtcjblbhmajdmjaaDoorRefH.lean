/- Contracts of the reference: free, captures. -/
/- What Free and Substitute compute, said of trees: plain. -/
/- Contracts of the reference: replace, Substitute, Not, Bind. -/
import Derived.Test.YtcjblbhmajdmjaaDoorRefE
import Derived.Test.YtcjblbhmajdmjaaDoorSubst
import Derived.Test.YtcjblbhmajdmjaaDoorRefB
set_option linter.unusedSimpArgs false
set_option linter.unusedVariables false
namespace Go.Proofs.YtcjblbhmajdmjaaDoor
open Go.RowKit

/-- Whether a variable is free in a tree; whether a free occurrence of x lies below a quantifier of y. -/
def frT (v : Int) : Tr → Bool
  | .leaf op x y => (decide (0 < nv op) && (x == v)) || (decide (1 < nv op) && (y == v))
  | .un op x a => if 12 ≤ op then (x != v) && frT v a else frT v a
  | .bin _ a b => frT v a || frT v b
def capT (x y : Int) : Tr → Bool
  | .leaf _ _ _ => false
  | .un op z a => if 12 ≤ op then (if z = x then false else ((z == y) && frT x a) || capT x y a) else capT x y a
  | .bin _ a b => capT x y a || capT x y b

abbrev FreeOf (f : List Mk) (v : Value) (i x : Int) (r : Bool) : Prop :=
  ∀ W, MS W v f → Calls Tryd.prog 56 #[v, .int .i64 i, .int .i64 x] W fun e w' => e = .returned (.bool r) ∧ Below W.heap.size W w'
abbrev CapOf (f : List Mk) (v : Value) (i x y : Int) (r : Bool) : Prop :=
  ∀ W, MS W v f → Calls Tryd.prog 54 #[v, .int .i64 i, .int .i64 x, .int .i64 y] W fun e w' => e = .returned (.bool r) ∧ Below W.heap.size W w'

set_option maxRecDepth 100000 in
set_option maxHeartbeats 4000000 in
theorem free_leaf (f : List Mk) (v : Value) (i : Nat) (m : Mk) (x k : Int) (hm : f[i]? = some m) (hv : nv m.op = k) (hc : nc m.op = 0) (hop : m.op ≤ 11) : FreeOf f v i x ((decide (0 < k) && (m.x == x)) || (decide (1 < k) && (m.y == x))) := by
  intro w hms
  have HV := Lib.hid hms
  obtain ⟨ho, A, c, rfl, hcc, hc2, hcell⟩ := hms
  have hlt : i < f.length := (List.getElem?_eq_some_iff.1 hm).1
  obtain ⟨b, o, rfl⟩ := HV.out.addr (by omega)
  obtain ⟨c0, c1, c2', c3, c4⟩ := HV.out.at5 hm
  have hbl : b < w.heap.size := World.block_lt_of_cell? _ _ c0
  obtain ⟨m1, m2⟩ := ho m (List.mem_of_getElem? hm)
  have hX := fun W => RUsesX_any m.op W m1 m2
  have hY := fun W => RUsesY_any m.op W m1 m2
  have hC := fun W => RChildren_any m.op W m1 m2
  rw [hv] at hX hY
  rw [hc] at hC
  have hk : k = 0 ∨ k = 1 ∨ k = 2 := by rw [← hv]; exact nv_cases _
  have hq : decide ((12 : Int) ≤ m.op) = false := by simp; omega
  obtain ⟨bx, hbx⟩ : ∃ t, (m.x == x) = t := ⟨_, rfl⟩
  obtain ⟨b2, hby⟩ : ∃ t, (m.y == x) = t := ⟨_, rfl⟩
  rw [hbx, hby]
  clear hcell ho hm hv hc
  obtain ⟨n, hn⟩ : ∃ n, n = f.length := ⟨_, rfl⟩
  rw [← hn] at hcc hlt HV ⊢
  clear hn HV
  have HX := Lib.hid hX; have HY := Lib.hid hY; have HC := Lib.hid hC
  clear hX hY hC
  rcases hk with rfl | rfl | rfl <;> cases bx <;> cases b2
  all_goals
    go_enter Tryd.func56, Tryd.ntmps56
    go_wp2_with (first
      | (go_at_call 40; go_must ((with_reducible refine (HX.out _).mono ?_); rintro e w2 ⟨rfl, rfl⟩))
      | (go_at_call 41; go_must ((with_reducible refine (HY.out _).mono ?_); rintro e w2 ⟨rfl, rfl⟩))
      | (go_at_call 60; go_must ((with_reducible refine (HC.out _).mono ?_); rintro e w2 ⟨rfl, rfl⟩)))
    go_returns
    exact ⟨rfl, by go_grown⟩
set_option maxRecDepth 100000 in
set_option maxHeartbeats 4000000 in
theorem free_q (f : List Mk) (v : Value) (i : Nat) (m : Mk) (x : Int) (ra : Bool) (hm : f[i]? = some m) (hop : 12 ≤ m.op) (ha : FreeOf f v m.a x ra) : FreeOf f v i x ((m.x != x) && ra) := by
  intro w hms
  have HV := Lib.hid hms
  obtain ⟨ho, A, c, rfl, hcc, hc2, hcell⟩ := hms
  have hlt : i < f.length := (List.getElem?_eq_some_iff.1 hm).1
  obtain ⟨b, o, rfl⟩ := HV.out.addr (by omega)
  obtain ⟨c0, c1, c2', c3, c4⟩ := HV.out.at5 hm
  have hbl : b < w.heap.size := World.block_lt_of_cell? _ _ c0
  have hq : decide ((12 : Int) ≤ m.op) = true := by simp; omega
  obtain ⟨bx, hbx⟩ : ∃ t, (m.x != x) = t := ⟨_, rfl⟩
  rw [hbx]
  clear hcell ho hm hop
  obtain ⟨n, hn⟩ : ∃ n, n = f.length := ⟨_, rfl⟩
  rw [← hn] at hcc hlt HV ha ⊢
  clear hn
  have HA := Lib.hid ha; clear ha
  have HB : Hid (Below w.heap.size w (w.alloc (.cells #[.int .u8 m.op, .int .i64 m.x, .int .i64 m.y, .int .i64 m.a, .int .i64 m.b] 23))) := Below.alloc (Below.refl _ _) (Nat.le_refl _) _
  cases bx
  all_goals
    go_enter Tryd.func56, Tryd.ntmps56
    go_wp2_with (go_at_call 56; go_must ((with_reducible refine (HA.out _ (HV.out.below HB.out (Nat.le_refl _))).mono ?_); rintro e w2 ⟨rfl, hb2⟩; replace HB := Lib.hid (HB.out.trans (hb2.mono HB.out.size)); clear hb2))
    go_returns
    exact ⟨rfl, HB.out⟩
set_option maxRecDepth 100000 in
set_option maxHeartbeats 4000000 in
theorem free_not (f : List Mk) (v : Value) (i : Nat) (m : Mk) (x : Int) (ra : Bool) (hm : f[i]? = some m) (hop : m.op ≤ 11) (hc : nc m.op = 1) (ha : FreeOf f v m.a x ra) : FreeOf f v i x ra := by
  intro w hms
  have HV := Lib.hid hms
  obtain ⟨ho, A, c, rfl, hcc, hc2, hcell⟩ := hms
  have hlt : i < f.length := (List.getElem?_eq_some_iff.1 hm).1
  obtain ⟨b, o, rfl⟩ := HV.out.addr (by omega)
  obtain ⟨c0, c1, c2', c3, c4⟩ := HV.out.at5 hm
  have hbl : b < w.heap.size := World.block_lt_of_cell? _ _ c0
  obtain ⟨m1, m2⟩ := ho m (List.mem_of_getElem? hm)
  have hC := fun W => RChildren_any m.op W m1 m2
  rw [hc] at hC
  have HC := Lib.hid hC; clear hC
  have hq : decide ((12 : Int) ≤ m.op) = false := by simp; omega
  clear hcell ho hm hop hc
  obtain ⟨n, hn⟩ : ∃ n, n = f.length := ⟨_, rfl⟩
  rw [← hn] at hcc hlt HV ha ⊢
  clear hn
  have HA := Lib.hid ha; clear ha
  have HB : Hid (Below w.heap.size w (w.alloc (.cells #[.int .u8 m.op, .int .i64 m.x, .int .i64 m.y, .int .i64 m.a, .int .i64 m.b] 23))) := Below.alloc (Below.refl _ _) (Nat.le_refl _) _
  go_enter Tryd.func56, Tryd.ntmps56
  go_wp2_with (first
    | (go_at_call 60; go_must ((with_reducible refine (HC.out _).mono ?_); rintro e w2 ⟨rfl, rfl⟩))
    | (go_at_call 56; go_must ((with_reducible refine (HA.out _ (HV.out.below HB.out (Nat.le_refl _))).mono ?_); rintro e w2 ⟨rfl, hb2⟩; replace HB := Lib.hid (HB.out.trans (hb2.mono HB.out.size)); clear hb2)))
  go_returns
  exact ⟨rfl, HB.out⟩
set_option maxRecDepth 100000 in
set_option maxHeartbeats 4000000 in
theorem free_bin (f : List Mk) (v : Value) (i : Nat) (m : Mk) (x : Int) (ra rb : Bool) (hm : f[i]? = some m) (hop : m.op ≤ 11) (hc : nc m.op = 2) (ha : FreeOf f v m.a x ra) (hb : FreeOf f v m.b x rb) : FreeOf f v i x (ra || rb) := by
  intro w hms
  have HV := Lib.hid hms
  obtain ⟨ho, A, c, rfl, hcc, hc2, hcell⟩ := hms
  have hlt : i < f.length := (List.getElem?_eq_some_iff.1 hm).1
  obtain ⟨b, o, rfl⟩ := HV.out.addr (by omega)
  obtain ⟨c0, c1, c2', c3, c4⟩ := HV.out.at5 hm
  have hbl : b < w.heap.size := World.block_lt_of_cell? _ _ c0
  obtain ⟨m1, m2⟩ := ho m (List.mem_of_getElem? hm)
  have hC := fun W => RChildren_any m.op W m1 m2
  rw [hc] at hC
  have HC := Lib.hid hC; clear hC
  have hq : decide ((12 : Int) ≤ m.op) = false := by simp; omega
  clear hcell ho hm hop hc
  obtain ⟨n, hn⟩ : ∃ n, n = f.length := ⟨_, rfl⟩
  rw [← hn] at hcc hlt HV ha hb ⊢
  clear hn
  have HA := Lib.hid ha; have HBB := Lib.hid hb; clear ha hb
  have HB : Hid (Below w.heap.size w (w.alloc (.cells #[.int .u8 m.op, .int .i64 m.x, .int .i64 m.y, .int .i64 m.a, .int .i64 m.b] 23))) := Below.alloc (Below.refl _ _) (Nat.le_refl _) _
  have HR := Lib.hid (Row.new w 23 #[.int .u8 m.op, .int .i64 m.x, .int .i64 m.y, .int .i64 m.a, .int .i64 m.b])
  cases ra
  all_goals
    go_enter Tryd.func56, Tryd.ntmps56
    go_wp2_with (first
      | (go_at_call 60; go_must ((with_reducible refine (HC.out _).mono ?_); rintro e w2 ⟨rfl, rfl⟩))
      | (go_at_call 56; (with_reducible refine (HA.out _ (HV.out.below HB.out (Nat.le_refl _))).mono ?_); rintro e w2 ⟨rfl, hb2⟩; replace HR := Lib.hid (HR.out.below hb2 HR.out.lt); have rc := HR.out.cell; replace HB := Lib.hid (HB.out.trans (hb2.mono HB.out.size)); clear hb2)
      | (go_at_call 56; (with_reducible refine (HBB.out _ (HV.out.below HB.out (Nat.le_refl _))).mono ?_); rintro e w3 ⟨rfl, hb2⟩; replace HB := Lib.hid (HB.out.trans (hb2.mono HB.out.size)); clear hb2))
    go_returns
    exact ⟨rfl, HB.out⟩
theorem ok_op {t : Tr} : t.ok → ∀ p, ∀ m ∈ t.enc p, 1 ≤ m.op ∧ m.op ≤ 15 := fun ok p m hm => nm_range (t.enc_node ok p m hm).1
theorem nc0_op {op : Int} (h : nm op ≠ []) (hc : nc op = 0) : op ≤ 11 := by
  have := nm_range h
  unfold nc at hc
  split at hc
  · omega
  · split at hc <;> omega
theorem nc2_op {op : Int} (hc : nc op = 2) : op ≤ 11 := by
  unfold nc at hc
  split at hc
  · omega
  · split at hc <;> omega
theorem Rfree_any (f : List Mk) (v : Value) (x : Int) (t : Tr) : t.ok → ∀ p, Lies f p t → FreeOf f v ((p + t.size - 1 : Nat) : Int) x (frT x t) := by
  induction t with
  | leaf op u z =>
    intro ok p hl
    have := free_leaf f v p _ x (nv op) hl.leaf rfl ok.2.1 (nc0_op ok.1 ok.2.1)
    simpa [Tr.size, frT] using this
  | un op z a ih =>
    intro ok p hl
    obtain ⟨h1, h2⟩ := hl.un
    have iha := ih ok.2 p h1
    simp only [Tr.size, frT]
    rw [show p + (a.size + 1) - 1 = p + a.size by omega]
    by_cases h12 : 12 ≤ op
    · rw [if_pos h12]
      exact free_q f v (p + a.size) _ x _ h2 h12 iha
    · rw [if_neg h12]
      exact free_not f v (p + a.size) _ x _ h2 (by simp only; omega) ok.1.2.1 iha
  | bin op a b iha ihb =>
    intro ok p hl
    obtain ⟨h1, h2, h3⟩ := hl.bin
    simp only [Tr.size, frT]
    rw [show p + (a.size + b.size + 1) - 1 = p + a.size + b.size by omega]
    exact free_bin f v (p + a.size + b.size) _ x _ _ h3 (nc2_op ok.1) ok.1 (iha ok.2.1 p h1) (ihb ok.2.2 _ h2)
set_option maxRecDepth 100000 in
set_option maxHeartbeats 4000000 in
theorem cap_leaf (f : List Mk) (v : Value) (i : Nat) (m : Mk) (x y : Int) (hm : f[i]? = some m) (hc : nc m.op = 0) (hop : m.op ≤ 11) : CapOf f v i x y false := by
  intro w hms
  have HV := Lib.hid hms
  obtain ⟨ho, A, c, rfl, hcc, hc2, hcell⟩ := hms
  have hlt : i < f.length := (List.getElem?_eq_some_iff.1 hm).1
  obtain ⟨b, o, rfl⟩ := HV.out.addr (by omega)
  obtain ⟨c0, c1, c2', c3, c4⟩ := HV.out.at5 hm
  have hbl : b < w.heap.size := World.block_lt_of_cell? _ _ c0
  obtain ⟨m1, m2⟩ := ho m (List.mem_of_getElem? hm)
  have hC := fun W => RChildren_any m.op W m1 m2
  rw [hc] at hC
  have HC := Lib.hid hC; clear hC
  have hq : decide ((12 : Int) ≤ m.op) = false := by simp; omega
  clear hcell ho hm hop hc
  obtain ⟨n, hn⟩ : ∃ n, n = f.length := ⟨_, rfl⟩
  rw [← hn] at hcc hlt HV ⊢
  clear hn
  clear HV
  go_enter Tryd.func54, Tryd.ntmps54
  go_wp2_with (first
    | (go_at_call 60; go_must ((with_reducible refine (HC.out _).mono ?_); rintro e w2 ⟨rfl, rfl⟩)))
  go_returns
  exact ⟨rfl, by go_grown⟩
set_option maxRecDepth 100000 in
set_option maxHeartbeats 4000000 in
theorem cap_q (f : List Mk) (v : Value) (i : Nat) (m : Mk) (x y : Int) (fa ca : Bool) (hm : f[i]? = some m) (hop : 12 ≤ m.op) (ha : FreeOf f v m.a x fa) (hb : CapOf f v m.a x y ca) : CapOf f v i x y (if m.x = x then false else ((m.x == y) && fa) || ca) := by
  intro w hms
  have HV := Lib.hid hms
  obtain ⟨ho, A, c, rfl, hcc, hc2, hcell⟩ := hms
  have hlt : i < f.length := (List.getElem?_eq_some_iff.1 hm).1
  obtain ⟨b, o, rfl⟩ := HV.out.addr (by omega)
  obtain ⟨c0, c1, c2', c3, c4⟩ := HV.out.at5 hm
  have hbl : b < w.heap.size := World.block_lt_of_cell? _ _ c0
  obtain ⟨m1, m2⟩ := ho m (List.mem_of_getElem? hm)
  have hq : decide ((12 : Int) ≤ m.op) = true := by simp; omega
  obtain ⟨t1, ht1⟩ : ∃ t, (m.x == x) = t := ⟨_, rfl⟩
  obtain ⟨t2, ht2⟩ : ∃ t, (m.x == y) = t := ⟨_, rfl⟩
  have hr : (if m.x = x then false else ((m.x == y) && fa) || ca) = (if t1 = true then false else (t2 && fa) || ca) := by
    rw [ht2, ← ht1]
    simp only [beq_iff_eq]
  rw [hr]
  clear hcell ho hm hop hr
  obtain ⟨n, hn⟩ : ∃ n, n = f.length := ⟨_, rfl⟩
  rw [← hn] at hcc hlt HV ha hb ⊢
  clear hn
  have HA := Lib.hid ha; have HBB := Lib.hid hb; clear ha hb
  have HB : Hid (Below w.heap.size w (w.alloc (.cells #[.int .u8 m.op, .int .i64 m.x, .int .i64 m.y, .int .i64 m.a, .int .i64 m.b] 23))) := Below.alloc (Below.refl _ _) (Nat.le_refl _) _
  have HR := Lib.hid (Row.new w 23 #[.int .u8 m.op, .int .i64 m.x, .int .i64 m.y, .int .i64 m.a, .int .i64 m.b])
  cases t1 <;> cases t2 <;> cases fa
  all_goals
    go_enter Tryd.func54, Tryd.ntmps54
    go_wp2_with (first
      | (go_at_call 56; (with_reducible refine (HA.out _ (HV.out.below HB.out (Nat.le_refl _))).mono ?_); rintro e w2 ⟨rfl, hb2⟩; replace HR := Lib.hid (HR.out.below hb2 HR.out.lt); have rc := HR.out.cell; replace HB := Lib.hid (HB.out.trans (hb2.mono HB.out.size)); clear hb2)
      | (go_at_call 54; (with_reducible refine (HBB.out _ (HV.out.below HB.out (Nat.le_refl _))).mono ?_); rintro e w2 ⟨rfl, hb2⟩; replace HR := Lib.hid (HR.out.below hb2 HR.out.lt); have rc := HR.out.cell; replace HB := Lib.hid (HB.out.trans (hb2.mono HB.out.size)); clear hb2))
    go_returns
    exact ⟨rfl, HB.out⟩
set_option maxRecDepth 100000 in
set_option maxHeartbeats 4000000 in
theorem cap_not (f : List Mk) (v : Value) (i : Nat) (m : Mk) (x y : Int) (ca : Bool) (hm : f[i]? = some m) (hop : m.op ≤ 11) (hc : nc m.op = 1) (ha : CapOf f v m.a x y ca) : CapOf f v i x y ca := by
  intro w hms
  have HV := Lib.hid hms
  obtain ⟨ho, A, c, rfl, hcc, hc2, hcell⟩ := hms
  have hlt : i < f.length := (List.getElem?_eq_some_iff.1 hm).1
  obtain ⟨b, o, rfl⟩ := HV.out.addr (by omega)
  obtain ⟨c0, c1, c2', c3, c4⟩ := HV.out.at5 hm
  have hbl : b < w.heap.size := World.block_lt_of_cell? _ _ c0
  obtain ⟨m1, m2⟩ := ho m (List.mem_of_getElem? hm)
  have hC := fun W => RChildren_any m.op W m1 m2
  rw [hc] at hC
  have HC := Lib.hid hC; clear hC
  have hq : decide ((12 : Int) ≤ m.op) = false := by simp; omega
  clear hcell ho hm hop hc
  obtain ⟨n, hn⟩ : ∃ n, n = f.length := ⟨_, rfl⟩
  rw [← hn] at hcc hlt HV ha ⊢
  clear hn
  have HA := Lib.hid ha; clear ha
  have HB : Hid (Below w.heap.size w (w.alloc (.cells #[.int .u8 m.op, .int .i64 m.x, .int .i64 m.y, .int .i64 m.a, .int .i64 m.b] 23))) := Below.alloc (Below.refl _ _) (Nat.le_refl _) _
  have HR := Lib.hid (Row.new w 23 #[.int .u8 m.op, .int .i64 m.x, .int .i64 m.y, .int .i64 m.a, .int .i64 m.b])
  go_enter Tryd.func54, Tryd.ntmps54
  go_wp2_with (first
    | (go_at_call 60; go_must ((with_reducible refine (HC.out _).mono ?_); rintro e w2 ⟨rfl, rfl⟩))
    | (go_at_call 54; (with_reducible refine (HA.out _ (HV.out.below HB.out (Nat.le_refl _))).mono ?_); rintro e w2 ⟨rfl, hb2⟩; replace HR := Lib.hid (HR.out.below hb2 HR.out.lt); have rc := HR.out.cell; replace HB := Lib.hid (HB.out.trans (hb2.mono HB.out.size)); clear hb2))
  go_returns
  exact ⟨rfl, HB.out⟩
set_option maxRecDepth 100000 in
set_option maxHeartbeats 4000000 in
theorem cap_bin (f : List Mk) (v : Value) (i : Nat) (m : Mk) (x y : Int) (ra rb : Bool) (hm : f[i]? = some m) (hop : m.op ≤ 11) (hc : nc m.op = 2) (ha : CapOf f v m.a x y ra) (hb : CapOf f v m.b x y rb) : CapOf f v i x y (ra || rb) := by
  intro w hms
  have HV := Lib.hid hms
  obtain ⟨ho, A, c, rfl, hcc, hc2, hcell⟩ := hms
  have hlt : i < f.length := (List.getElem?_eq_some_iff.1 hm).1
  obtain ⟨b, o, rfl⟩ := HV.out.addr (by omega)
  obtain ⟨c0, c1, c2', c3, c4⟩ := HV.out.at5 hm
  have hbl : b < w.heap.size := World.block_lt_of_cell? _ _ c0
  obtain ⟨m1, m2⟩ := ho m (List.mem_of_getElem? hm)
  have hC := fun W => RChildren_any m.op W m1 m2
  rw [hc] at hC
  have HC := Lib.hid hC; clear hC
  have hq : decide ((12 : Int) ≤ m.op) = false := by simp; omega
  clear hcell ho hm hop hc
  obtain ⟨n, hn⟩ : ∃ n, n = f.length := ⟨_, rfl⟩
  rw [← hn] at hcc hlt HV ha hb ⊢
  clear hn
  have HA := Lib.hid ha; have HBB := Lib.hid hb; clear ha hb
  have HB : Hid (Below w.heap.size w (w.alloc (.cells #[.int .u8 m.op, .int .i64 m.x, .int .i64 m.y, .int .i64 m.a, .int .i64 m.b] 23))) := Below.alloc (Below.refl _ _) (Nat.le_refl _) _
  have HR := Lib.hid (Row.new w 23 #[.int .u8 m.op, .int .i64 m.x, .int .i64 m.y, .int .i64 m.a, .int .i64 m.b])
  cases ra
  all_goals
    go_enter Tryd.func54, Tryd.ntmps54
    go_wp2_with (first
      | (go_at_call 60; go_must ((with_reducible refine (HC.out _).mono ?_); rintro e w2 ⟨rfl, rfl⟩))
      | (go_at_call 54; (with_reducible refine (HA.out _ (HV.out.below HB.out (Nat.le_refl _))).mono ?_); rintro e w2 ⟨rfl, hb2⟩; replace HR := Lib.hid (HR.out.below hb2 HR.out.lt); have rc := HR.out.cell; replace HB := Lib.hid (HB.out.trans (hb2.mono HB.out.size)); clear hb2)
      | (go_at_call 54; (with_reducible refine (HBB.out _ (HV.out.below HB.out (Nat.le_refl _))).mono ?_); rintro e w2 ⟨rfl, hb2⟩; replace HR := Lib.hid (HR.out.below hb2 HR.out.lt); have rc := HR.out.cell; replace HB := Lib.hid (HB.out.trans (hb2.mono HB.out.size)); clear hb2))
    go_returns
    exact ⟨rfl, HB.out⟩
theorem Rcap_any (f : List Mk) (v : Value) (x y : Int) (t : Tr) : t.ok → ∀ p, Lies f p t → CapOf f v ((p + t.size - 1 : Nat) : Int) x y (capT x y t) := by
  induction t with
  | leaf op u z =>
    intro ok p hl
    have := cap_leaf f v p _ x y hl.leaf ok.2.1 (nc0_op ok.1 ok.2.1)
    simpa [Tr.size, capT] using this
  | un op z a ih =>
    intro ok p hl
    obtain ⟨h1, h2⟩ := hl.un
    have iha := ih ok.2 p h1
    have ihf := Rfree_any f v x a ok.2 p h1
    simp only [Tr.size, capT]
    rw [show p + (a.size + 1) - 1 = p + a.size by omega]
    by_cases h12 : 12 ≤ op
    · rw [if_pos h12]
      exact cap_q f v (p + a.size) _ x y _ _ h2 h12 ihf iha
    · rw [if_neg h12]
      exact cap_not f v (p + a.size) _ x y _ h2 (by simp only; omega) ok.1.2.1 iha
  | bin op a b iha ihb =>
    intro ok p hl
    obtain ⟨h1, h2, h3⟩ := hl.bin
    simp only [Tr.size, capT]
    rw [show p + (a.size + b.size + 1) - 1 = p + a.size + b.size by omega]
    exact cap_bin f v (p + a.size + b.size) _ x y _ _ h3 (nc2_op ok.1) ok.1 (iha ok.2.1 p h1) (ihb ok.2.2 _ h2)
end Go.Proofs.YtcjblbhmajdmjaaDoor

namespace Go.Proofs.YtcjblbhmajdmjaaDoor

def repT (x y : Int) : Tr → Tr
  | .leaf op u v => .leaf op (if 0 < nv op ∧ u = x then y else u) (if 1 < nv op ∧ v = x then y else v)
  | .un op z a => if 12 ≤ op ∧ z = x then .un op z a else .un op z (repT x y a)
  | .bin op a b => .bin op (repT x y a) (repT x y b)
theorem repT_size (x y : Int) (t : Tr) : (repT x y t).size = t.size := by
  induction t with
  | leaf => rfl
  | un op z a ih => unfold repT; split <;> simp [Tr.size, ih]
  | bin op a b iha ihb => simp [repT, Tr.size, iha, ihb]

theorem Lies.mk_leaf {f : List Mk} {p : Nat} {op x y : Int} (h : f[p]? = some ⟨op, x, y, 0, 0⟩) : Lies f p (.leaf op x y) := by
  intro j m hj
  simp only [Tr.enc] at hj
  cases j with
  | zero => simp at hj; subst hj; exact h
  | succ j => simp at hj
theorem Lies.mk_un {f : List Mk} {p : Nat} {op x : Int} {a : Tr} (h1 : Lies f p a) (h2 : f[p + a.size]? = some ⟨op, x, 0, ((p + a.size - 1 : Nat) : Int), 0⟩) : Lies f p (.un op x a) := by
  intro j m hj
  simp only [Tr.enc] at hj
  by_cases hl : j < a.size
  · rw [List.getElem?_append_left (by rw [Tr.enc_len]; exact hl)] at hj; exact h1 j m hj
  · rw [List.getElem?_append_right (by rw [Tr.enc_len]; omega), Tr.enc_len] at hj
    have : j = a.size := by
      have := (List.getElem?_eq_some_iff.1 hj).1
      simp at this; omega
    subst this
    simp at hj
    subst hj; exact h2
theorem Lies.mk_bin {f : List Mk} {p : Nat} {op : Int} {a b : Tr} (h1 : Lies f p a) (h2 : Lies f (p + a.size) b) (h3 : f[p + a.size + b.size]? = some ⟨op, 0, 0, ((p + a.size - 1 : Nat) : Int), ((p + a.size + b.size - 1 : Nat) : Int)⟩) : Lies f p (.bin op a b) := by
  intro j m hj
  simp only [Tr.enc] at hj
  by_cases hl : j < a.size
  · rw [List.getElem?_append_left (by rw [Tr.enc_len]; exact hl)] at hj; exact h1 j m hj
  · rw [List.getElem?_append_right (by rw [Tr.enc_len]; omega), Tr.enc_len] at hj
    by_cases hl2 : j - a.size < b.size
    · rw [List.getElem?_append_left (by rw [Tr.enc_len]; exact hl2)] at hj
      have := h2 _ m hj
      rwa [show p + a.size + (j - a.size) = p + j by omega] at this
    · rw [List.getElem?_append_right (by rw [Tr.enc_len]; omega), Tr.enc_len] at hj
      have : j = a.size + b.size := by
        have := (List.getElem?_eq_some_iff.1 hj).1
        simp at this; omega
      subst this
      simp at hj
      subst hj
      rw [show p + (a.size + b.size) = p + a.size + b.size by omega, h3]
theorem Lies.of_same {f g : List Mk} {p : Nat} {t : Tr} (h : Lies f p t) (hs : ∀ j, p ≤ j → j < p + t.size → g[j]? = f[j]?) : Lies g p t := by
  intro j m hj
  have hl : j < t.size := by rw [← t.enc_len p]; exact (List.getElem?_eq_some_iff.1 hj).1
  rw [hs _ (by omega) (by omega)]
  exact h j m hj
theorem Lies.whole {f : List Mk} {t : Tr} (h : Lies f 0 t) (hl : f.length = t.size) : f = t.enc 0 := by
  apply List.ext_getElem?
  intro j
  by_cases hj : j < t.size
  · obtain ⟨m, hm⟩ : ∃ m, (t.enc 0)[j]? = some m := ⟨(t.enc 0)[j]'(by rw [Tr.enc_len]; exact hj), List.getElem?_eq_getElem _⟩
    have := h j m hm
    rw [Nat.zero_add] at this
    rw [this, hm]
  · rw [List.getElem?_eq_none (by omega), List.getElem?_eq_none (by rw [Tr.enc_len]; omega)]

/-- g' is g with the tree t' in the place of the block from p on. -/
def RepRel (g g' : List Mk) (p : Nat) (t' : Tr) : Prop := g'.length = g.length ∧ Lies g' p t' ∧ ∀ j, j < p ∨ p + t'.size ≤ j → g'[j]? = g[j]?
theorem RepRel.refl {g : List Mk} {p : Nat} {t : Tr} (h : Lies g p t) : RepRel g g p t := ⟨rfl, h, fun _ _ => rfl⟩
theorem RepRel.un {g g' : List Mk} {p : Nat} {op z : Int} {a a' : Tr} (hs : a'.size = a.size) (h : RepRel g g' p a') (hm : g[p + a.size]? = some ⟨op, z, 0, ((p + a.size - 1 : Nat) : Int), 0⟩) : RepRel g g' p (.un op z a') := by
  refine ⟨h.1, Lies.mk_un h.2.1 ?_, fun j hj => h.2.2 j (by simp only [Tr.size] at hj; omega)⟩
  rw [h.2.2 _ (.inr (Nat.le_refl _)), hs]; exact hm
theorem RepRel.bin {g g1 g2 : List Mk} {p : Nat} {op : Int} {a b a' b' : Tr} (ha : a'.size = a.size) (hb : b'.size = b.size) (h1 : RepRel g g1 p a') (h2 : RepRel g1 g2 (p + a.size) b') (hm : g[p + a.size + b.size]? = some ⟨op, 0, 0, ((p + a.size - 1 : Nat) : Int), ((p + a.size + b.size - 1 : Nat) : Int)⟩) : RepRel g g2 p (.bin op a' b') := by
  refine ⟨h2.1.trans h1.1, Lies.mk_bin (h1.2.1.of_same fun j _ hj => h2.2.2 j (.inl (by omega))) (by rw [ha]; exact h2.2.1) ?_, fun j hj => ?_⟩
  · rw [ha, hb, h2.2.2 _ (.inr (by omega)), h1.2.2 _ (.inr (by omega))]; exact hm
  · simp only [Tr.size] at hj
    rw [h2.2.2 _ (by omega), h1.2.2 _ (by omega)]
theorem RepRel.leaf {g : List Mk} {p : Nat} {op u v x y : Int} (hm : g[p]? = some ⟨op, u, v, 0, 0⟩) : RepRel g (g.set p (sub2 ⟨op, u, v, 0, 0⟩ ⟨op, u, v, 0, 0⟩ x y)) p (repT x y (.leaf op u v)) := by
  have hl := (List.getElem?_eq_some_iff.1 hm).1
  refine ⟨by simp, Lies.mk_leaf ?_, fun j hj => ?_⟩
  · rw [List.getElem?_set_self hl]; rfl
  · simp only [repT, Tr.size] at hj
    rw [List.getElem?_set_ne (by omega)]

theorem bit_orv (ab : List Int) (s : Nat) (u v : Int) (hu : 0 ≤ u) (hv : 0 ≤ v) : (orv ab s u).testBit v.toNat = (s.testBit v.toNat || ((u == v) && !ab.contains v)) := by
  unfold orv
  by_cases h : ab.contains u = true
  · rw [if_pos h]
    by_cases e : u = v
    · subst e; rw [h]; simp
    · simp [e]
  · rw [if_neg h, Nat.testBit_or, Nat.one_shiftLeft, Nat.testBit_two_pow]
    by_cases e : u = v
    · subst e
      have h' : ab.contains u = false := by simpa using h
      rw [h']; simp
    · have : ¬ u.toNat = v.toNat := by omega
      simp [e, this]
theorem isQ_of {op : Int} (h : nm op ≠ []) : isQ op = decide (12 ≤ op) := by
  have := nm_range h
  unfold isQ
  rw [Bool.eq_iff_iff]; simp; omega
theorem contains_snoc (ab : List Int) (z v : Int) : (ab ++ [z]).contains v = (ab.contains v || (z == v)) := by
  rw [Bool.eq_iff_iff, Bool.or_eq_true, List.contains_iff_mem, List.contains_iff_mem, List.mem_append, List.mem_singleton, beq_iff_eq]
  exact ⟨fun h => h.elim .inl fun e => .inr e.symm, fun h => h.elim .inl fun e => .inr e.symm⟩
theorem has1 (u x : Int) : [u].contains x = (u == x) := by
  rw [Bool.eq_iff_iff, List.contains_iff_mem, List.mem_singleton, beq_iff_eq]
  exact eq_comm
theorem has2 (u v x : Int) : [u, v].contains x = ((u == x) || (v == x)) := by
  rw [Bool.eq_iff_iff, Bool.or_eq_true, List.contains_iff_mem, List.mem_cons, List.mem_singleton, beq_iff_eq, beq_iff_eq]
  exact ⟨fun h => h.elim (fun e => .inl e.symm) fun e => .inr e.symm, fun h => h.elim (fun e => .inl e.symm) fun e => .inr e.symm⟩
theorem bl1 : ∀ c b1 b2 b3 b4 : Bool, (c || b1 && (b2 || b3) || b4) = (c || true && b1 && b2 || (b3 && b1 || b4)) := by decide
theorem bl2 : ∀ c b1 b2 b3 b4 b5 : Bool, (c || b1 && b3 || b4 || b2 && b3 || b5) = (c || (b1 || b2) && b3 || (b4 || b5)) := by decide
theorem trav_free (f : List Mk) (v : Int) (hv : 0 ≤ v) (t : Tr) : t.ok → ∀ p ab s, Lies f p t → (trav (stepF f) p ab t s).testBit v.toNat = (s.testBit v.toNat || (frT v t && !ab.contains v)) := by
  induction t with
  | leaf op x y =>
    intro ok p ab s hl
    have hm := hl.leaf
    have hw := ok.2.2.1
    simp only [within, Bool.and_eq_true, Bool.or_eq_true, decide_eq_true_eq] at hw
    simp only [trav, stepF, hm, frT]
    rcases nv_cases op with h | h | h
    · rw [occ0 (by exact h), h]; simp
    · rw [occ1 (by exact h), h]
      simp only [List.foldl_cons, List.foldl_nil]
      rw [bit_orv _ _ _ _ (by omega) hv]
      simp
    · rw [occ2 (by exact h), h]
      simp only [List.foldl_cons, List.foldl_nil]
      rw [bit_orv _ _ _ _ (by omega) hv, bit_orv _ _ _ _ (by omega) hv]
      generalize s.testBit v.toNat = b1
      generalize (x == v) = b2
      generalize (y == v) = b3
      generalize ab.contains v = b4
      simp only [show decide ((0 : Int) < 2) = true from rfl, show decide ((1 : Int) < 2) = true from rfl]
      revert b1 b2 b3 b4; decide
  | un op x a ih =>
    intro ok p ab s hl
    obtain ⟨h1, h2⟩ := hl.un
    simp only [trav, frT]
    rw [ih ok.2 p _ s h1, isQ_of ok.1.1]
    by_cases h12 : 12 ≤ op
    · rw [if_pos (by simpa using h12), if_pos h12, contains_snoc]
      simp only [bne]
      generalize s.testBit v.toNat = b1
      generalize (x == v) = b2
      generalize frT v a = b3
      generalize ab.contains v = b4
      revert b1 b2 b3 b4; decide
    · rw [if_neg (by simpa using h12), if_neg h12]
  | bin op a b iha ihb =>
    intro ok p ab s hl
    obtain ⟨h1, h2, _⟩ := hl.bin
    simp only [trav, frT]
    rw [ihb ok.2.2 _ _ _ h2, iha ok.2.1 _ _ _ h1]
    generalize s.testBit v.toNat = b1
    generalize frT v a = b2
    generalize frT v b = b3
    generalize ab.contains v = b4
    revert b1 b2 b3 b4; decide

/-- The word of the reference's Free. -/
def wordT (t : Tr) : Nat → Nat
  | 0 => 0
  | k + 1 => wordT t k + if frT (k : Int) t = true then 2 ^ k else 0
theorem word_bits : ∀ n : Fin 64, (n : Nat) = (if n.1.testBit 0 then 2 ^ 0 else 0) + (if n.1.testBit 1 then 2 ^ 1 else 0) + (if n.1.testBit 2 then 2 ^ 2 else 0) + (if n.1.testBit 3 then 2 ^ 3 else 0) + (if n.1.testBit 4 then 2 ^ 4 else 0) + (if n.1.testBit 5 then 2 ^ 5 else 0) := by decide
theorem trav_lt (f : List Mk) (t : Tr) : t.ok → ∀ p ab s, Lies f p t → s < 64 → trav (stepF f) p ab t s < 64 := by
  induction t with
  | leaf op x y =>
    intro ok p ab s hl hs
    have hb := occ_bound ⟨op, x, y, 0, 0⟩ ok.2.2.1
    simp only [trav, stepF, hl.leaf]
    generalize occ ⟨op, x, y, 0, 0⟩ = l at hb
    induction l generalizing s with
    | nil => exact hs
    | cons u l ih => exact ih _ (orv_lt ab s u hs (hb u (by simp)).1 (hb u (by simp)).2) fun z hz => hb z (by simp [hz])
  | un op x a ih => intro ok p ab s hl hs; exact ih ok.2 p _ s hl.un.1 hs
  | bin op a b iha ihb => intro ok p ab s hl hs; exact ihb ok.2.2 _ _ _ hl.bin.2.1 (iha ok.2.1 _ _ _ hl.bin.1 hs)
theorem freeS_word (t : Tr) (ok : t.ok) : freeS (t.enc 0) t = wordT t 6 := by
  have hl := trav_lt (t.enc 0) t ok 0 [] 0 (Lies.self t) (by omega)
  have hb := fun (v : Nat) => trav_free (t.enc 0) v (by omega) t ok 0 [] 0 (Lies.self t)
  unfold freeS
  generalize trav (stepF (t.enc 0)) 0 [] t 0 = n at *
  have hw := word_bits ⟨n, hl⟩
  simp only at hw
  have e : ∀ v : Nat, n.testBit v = frT (v : Int) t := fun v => by
    have := hb v
    simpa using this
  simp only [e] at hw
  rw [hw]
  simp [wordT]

/-- What the traversal of Substitute does to a block that it has not come to yet. -/
theorem trav_sub (f : List Mk) (x y : Int) (t : Tr) : t.ok → ∀ p ab (g : List Mk) (c : Bool), Lies f p t → Lies g p t → f.length = g.length →
    (ab.contains x = true → trav (stepS f x y) p ab t (g, c) = (g, c)) ∧
    (ab.contains x = false → RepRel g (trav (stepS f x y) p ab t (g, c)).1 p (repT x y t) ∧ (trav (stepS f x y) p ab t (g, c)).2 = (c || (frT x t && ab.contains y) || capT x y t)) := by
  induction t with
  | leaf op u v =>
    intro ok p ab g c hf hg hlen
    have hm := hf.leaf
    have hm2 := hg.leaf
    simp only [trav, stepS, hm, hm2]
    constructor
    · intro h
      rw [if_neg (by rw [h]; simp)]
    · intro h
      have hfr : (occ ⟨op, u, v, 0, 0⟩).contains x = frT x (.leaf op u v) := by
        simp only [frT]
        rcases nv_cases op with k | k | k
        · rw [occ0 (by exact k), k]; rfl
        · rw [occ1 (by exact k), k, has1]; simp
        · rw [occ2 (by exact k), k, has2]; simp
      rw [hfr]
      cases hfx : frT x (.leaf op u v) with
      | true =>
        rw [if_pos (by rw [h]; rfl)]
        exact ⟨RepRel.leaf hm2, by simp [capT]⟩
      | false =>
        rw [if_neg (by simp)]
        refine ⟨?_, by simp [capT]⟩
        have e : repT x y (.leaf op u v) = .leaf op u v := by
          simp only [frT, Bool.or_eq_false_iff, Bool.and_eq_false_iff, decide_eq_false_iff_not, beq_eq_false_iff_ne] at hfx
          simp only [repT]
          rw [if_neg (by rintro ⟨a, b⟩; rcases hfx.1 with h | h <;> contradiction), if_neg (by rintro ⟨a, b⟩; rcases hfx.2 with h | h <;> contradiction)]
        rw [e]
        exact RepRel.refl hg
  | un op z a ih =>
    intro ok p ab g c hf hg hlen
    obtain ⟨f1, f2⟩ := hf.un
    obtain ⟨g1, g2⟩ := hg.un
    simp only [trav]
    rw [isQ_of ok.1.1]
    obtain ⟨i1, i2⟩ := ih ok.2 p (if decide (12 ≤ op) = true then ab ++ [z] else ab) g c f1 g1 hlen
    by_cases h12 : 12 ≤ op
    · simp only [h12, decide_true, if_true] at i1 i2 ⊢
      rw [contains_snoc] at i1 i2
      constructor
      · intro h
        exact i1 (by rw [h]; rfl)
      · intro h
        by_cases hz : z = x
        · subst hz
          rw [i1 (by simp)]
          simp only [repT, h12, true_and, if_true, frT, capT, bne_self_eq_false, Bool.false_and, Bool.or_false]
          exact ⟨RepRel.refl hg, trivial⟩
        · have hzx : (z == x) = false := by simp [hz]
          obtain ⟨j1, j2⟩ := i2 (by rw [h, hzx]; rfl)
          simp only [repT, h12, true_and, if_neg hz, frT, capT, if_true]
          refine ⟨RepRel.un (repT_size x y a) j1 g2, ?_⟩
          rw [j2, contains_snoc]
          have hnx : (z != x) = true := by simp [hz]
          rw [hnx]
          exact bl1 _ _ _ _ _
    · simp only [h12, decide_false, Bool.false_eq_true, if_false] at i1 i2 ⊢
      refine ⟨i1, fun h => ?_⟩
      obtain ⟨j1, j2⟩ := i2 h
      simp only [repT, h12, false_and, if_false, frT, capT]
      exact ⟨RepRel.un (repT_size x y a) j1 g2, j2⟩
  | bin op a b iha ihb =>
    intro ok p ab g c hf hg hlen
    obtain ⟨f1, f2, _⟩ := hf.bin
    obtain ⟨g1, g2, g3⟩ := hg.bin
    simp only [trav]
    obtain ⟨i1, i2⟩ := iha ok.2.1 p ab g c f1 g1 hlen
    constructor
    · intro h
      rw [i1 h]
      exact (ihb ok.2.2 (p + a.size) ab g c f2 g2 hlen).1 h
    · intro h
      obtain ⟨j1, j2⟩ := i2 h
      generalize trav (stepS f x y) p ab a (g, c) = r at *
      obtain ⟨r1, r2⟩ := r
      simp only at j1 j2
      have hr : Lies r1 (p + a.size) b := g2.of_same fun j h1 h2 => j1.2.2 j (.inr (by rw [repT_size]; omega))
      obtain ⟨k1, k2⟩ := (ihb ok.2.2 (p + a.size) ab r1 r2 f2 hr (hlen.trans j1.1.symm)).2 h
      simp only [repT, frT, capT]
      refine ⟨RepRel.bin (repT_size x y a) (repT_size x y b) j1 k1 g3, ?_⟩
      rw [k2, j2]
      exact bl2 _ _ _ _ _ _
theorem substR_tree (t : Tr) (ok : t.ok) (x y : Int) : substR (t.enc 0) t x y = if capT x y t = true ∧ x ≠ y then ([], 16) else ((repT x y t).enc 0, 0) := by
  obtain ⟨h1, h2⟩ := (trav_sub (t.enc 0) x y t ok 0 [] (t.enc 0) false (Lies.self t) (Lies.self t) rfl).2 rfl
  unfold substR substT
  generalize trav (stepS (t.enc 0) x y) 0 [] t (t.enc 0, false) = r at *
  have e2 : r.2 = capT x y t := by rw [h2]; simp
  have e1 : r.1 = (repT x y t).enc 0 := Lies.whole h1.2.1 (by rw [h1.1, Tr.enc_len, repT_size])
  rw [e2, e1]
end Go.Proofs.YtcjblbhmajdmjaaDoor

namespace Go.Proofs.YtcjblbhmajdmjaaDoor
open Go.RowKit

abbrev RepOf (gr n cap B : Nat) (i x y : Int) (g : List Mk) (R : List Mk → Prop) : Prop := ∀ W, MO W B (.slice (some ⟨gr, 0, none⟩) n cap) g →
  Calls Tryd.prog 55 #[.slice (some ⟨gr, 0, none⟩) n cap, .int .i64 i, .int .i64 x, .int .i64 y] W fun e w' => e = .returned (.tuple #[]) ∧ Keep (· = gr) W w' ∧ ∃ g', R g' ∧ MO w' B (.slice (some ⟨gr, 0, none⟩) n cap) g'
set_option maxRecDepth 100000 in
set_option maxHeartbeats 4000000 in
theorem rep_leaf (gr n cap B : Nat) (g : List Mk) (i : Nat) (m : Mk) (x y k : Int) (hm : g[i]? = some m) (hn : g.length = n) (hv : nv m.op = k) (hc : nc m.op = 0) (hop : m.op ≤ 11) : RepOf gr n cap B i x y g (fun g' => g' = g.set i (sub2 m m x y)) := by
  intro w how
  have HO := Lib.hid how
  have hlt : i < n := by rw [← hn]; exact (List.getElem?_eq_some_iff.1 hm).1
  have hms := how.ms
  obtain ⟨c0, c1, c2', c3, c4⟩ := hms.at5 hm
  simp only [Nat.zero_add] at c0 c1 c2' c3 c4
  have hfr := own_free how
  have hbl : gr < w.heap.size := how.lt_own (by omega)
  obtain ⟨m1, m2⟩ := hms.1 m (List.mem_of_getElem? hm)
  have hni : n ≤ cap ∧ cap ≤ 9223372036854775807 := by
    obtain ⟨_, A, c, e, h1, h2, _⟩ := hms
    injection e with e1 e2 e3
    omega
  obtain ⟨hn1, hn2⟩ := hni
  have hC := fun W => RChildren_any m.op W m1 m2
  rw [hc] at hC
  have HC := Lib.hid hC; clear hC
  have hX := fun W => RUsesX_any m.op W m1 m2
  have hY := fun W => RUsesY_any m.op W m1 m2
  rw [hv] at hX hY
  have HX := Lib.hid hX; have HY := Lib.hid hY; clear hX hY
  have hk : k = 0 ∨ k = 1 ∨ k = 2 := by rw [← hv]; exact nv_cases _
  have hq : decide ((12 : Int) ≤ m.op) = false := by simp; omega
  obtain ⟨t1, ht1⟩ : ∃ t, (m.x == x) = t := ⟨_, rfl⟩
  obtain ⟨t2, ht2⟩ : ∃ t, (m.y == x) = t := ⟨_, rfl⟩
  have hsub : sub2 m m x y = { m with x := if 0 < k ∧ t1 = true then y else m.x, y := if 1 < k ∧ t2 = true then y else m.y } := by
    unfold sub2
    rw [hv, ← ht1, ← ht2]
    simp only [beq_iff_eq]
  have hBw : ∀ b, (Value.slice (some ⟨gr, 0, none⟩) n cap).ownBlock = some b → b = gr := fun b h => by simp only [Value.ownBlock, Option.some.injEq] at h; exact h.symm
  have s1 := set_mark (m' := { m with x := y }) how hn hm 1 (.int .i64 y) ⟨m1, m2⟩ rfl (by omega)
  have s2 := set_mark (m' := { m with y := y }) how hn hm 2 (.int .i64 y) ⟨m1, m2⟩ rfl (by omega)
  have s3 := set_mark (m := { m with x := y }) (m' := { m with x := y, y := y }) s1 (by simp [hn]) (List.getElem?_set_self (by omega)) 2 (.int .i64 y) ⟨m1, m2⟩ rfl (by omega)
  rw [List.set_set] at s3
  have HS := Lib.hid hsub; have HS1 := Lib.hid s1; have HS2 := Lib.hid s2; have HS3 := Lib.hid s3
  have HSM : Hid (g.set i m = g) := set_same hm
  clear hsub s1 s2 s3 hms hv hc hop hm how hn hBw
  rcases hk with rfl | rfl | rfl <;> cases t1 <;> cases t2
  all_goals
    go_enter Tryd.func55, Tryd.ntmps55
    go_wp2_with (first
      | (go_at_call 60; go_must ((with_reducible refine (HC.out _).mono ?_); rintro e w2 ⟨rfl, rfl⟩))
      | (go_at_call 40; go_must ((with_reducible refine (HX.out _).mono ?_); rintro e w2 ⟨rfl, rfl⟩))
      | (go_at_call 41; go_must ((with_reducible refine (HY.out _).mono ?_); rintro e w2 ⟨rfl, rfl⟩)))
    first | go_returns | refine bodyPost_end (results_none rfl _ _ _) rfl ?_
    first
    | (have e : sub2 m m x y = m := (by rw [HS.out]; simp)
       exact ⟨rfl, Keep.alloc (Keep.refl _ _) _, _, rfl, by rw [e, HSM.out]; exact HO.out.below (B' := w.heap.size) (Below.alloc (Below.refl _ _) (Nat.le_refl _) _) (Nat.le_refl _)⟩)
    | (have e : sub2 m m x y = { m with x := y } := (by rw [HS.out]; simp)
       exact ⟨rfl, Keep.alloc (Keep.set (S := (· = gr)) (Keep.refl _ _) (p := ⟨gr, _, none⟩) (.inl rfl) _) _, _, rfl, by rw [e]; exact HS1.out.below (B' := (w.setCell _ _).heap.size) (Below.alloc (Below.refl _ _) (Nat.le_refl _) _) (Nat.le_refl _)⟩)
    | (have e : sub2 m m x y = { m with y := y } := (by rw [HS.out]; simp)
       exact ⟨rfl, Keep.alloc (Keep.set (S := (· = gr)) (Keep.refl _ _) (p := ⟨gr, _, none⟩) (.inl rfl) _) _, _, rfl, by rw [e]; exact HS2.out.below (B' := (w.setCell _ _).heap.size) (Below.alloc (Below.refl _ _) (Nat.le_refl _) _) (Nat.le_refl _)⟩)
    | (have e : sub2 m m x y = { m with x := y, y := y } := (by rw [HS.out]; simp)
       exact ⟨rfl, Keep.alloc (Keep.set (S := (· = gr)) (Keep.set (S := (· = gr)) (Keep.refl _ _) (p := ⟨gr, _, none⟩) (.inl rfl) _) (p := ⟨gr, _, none⟩) (.inl rfl) _) _, _, rfl, by rw [e]; exact HS3.out.below (B' := ((w.setCell _ _).setCell _ _).heap.size) (Below.alloc (Below.refl _ _) (Nat.le_refl _) _) (Nat.le_refl _)⟩)
set_option maxRecDepth 100000 in
set_option maxHeartbeats 4000000 in
theorem rep_q (gr n cap B : Nat) (g : List Mk) (i : Nat) (m : Mk) (x y : Int) (R : List Mk → Prop) (hm : g[i]? = some m) (hn : g.length = n) (hop : 12 ≤ m.op) (ha : m.x ≠ x → RepOf gr n cap B m.a x y g R) (h0 : m.x = x → R g) : RepOf gr n cap B i x y g R := by
  intro w how
  have HO := Lib.hid how
  have hlt : i < n := by rw [← hn]; exact (List.getElem?_eq_some_iff.1 hm).1
  have hms := how.ms
  obtain ⟨c0, c1, c2', c3, c4⟩ := hms.at5 hm
  simp only [Nat.zero_add] at c0 c1 c2' c3 c4
  have hfr := own_free how
  have hbl : gr < w.heap.size := how.lt_own (by omega)
  obtain ⟨m1, m2⟩ := hms.1 m (List.mem_of_getElem? hm)
  have hni : n ≤ cap ∧ cap ≤ 9223372036854775807 := by
    obtain ⟨_, A, c, e, h1, h2, _⟩ := hms
    injection e with e1 e2 e3
    omega
  obtain ⟨hn1, hn2⟩ := hni
  have hq : decide ((12 : Int) ≤ m.op) = true := by simp; omega
  have HK : Hid (Keep (· = gr) w (w.alloc (.cells #[.int .u8 m.op, .int .i64 m.x, .int .i64 m.y, .int .i64 m.a, .int .i64 m.b] 23))) := Keep.alloc (Keep.refl _ _) _
  replace HO := Lib.hid (HO.out.below (B' := w.heap.size) (w' := w.alloc (.cells #[.int .u8 m.op, .int .i64 m.x, .int .i64 m.y, .int .i64 m.a, .int .i64 m.b] 23)) (Below.alloc (Below.refl _ _) (Nat.le_refl _) _) (Nat.le_refl _))
  have HR := Lib.hid (Row.new w 23 #[.int .u8 m.op, .int .i64 m.x, .int .i64 m.y, .int .i64 m.a, .int .i64 m.b])
  have hne : w.heap.size ≠ gr := by omega
  clear hms how
  clear hm hn hop
  by_cases hx : m.x = x
  · have hx2 : (m.x != x) = false := by simp [hx]
    have HR0 := Lib.hid (h0 hx)
    clear ha h0 hx
    go_enter Tryd.func55, Tryd.ntmps55
    go_wp2
    first | go_returns | refine bodyPost_end (results_none rfl _ _ _) rfl ?_
    exact ⟨rfl, HK.out, _, HR0.out, HO.out⟩
  · have hx2 : (m.x != x) = true := by simp [hx]
    have HA := Lib.hid (ha hx)
    clear ha h0 hx
    go_enter Tryd.func55, Tryd.ntmps55
    go_wp2_with (go_at_call 55; (with_reducible refine (HA.out _ HO.out).mono ?_); rintro e w2 ⟨rfl, hk2, g1, hg1, ho2⟩; replace HR := Lib.hid (hk2.row HR.out hne); have rc := HR.out.cell; replace HK := Lib.hid (HK.out.trans hk2); replace HO := Lib.hid ho2; clear hk2 ho2)
    first | go_returns | refine bodyPost_end (results_none rfl _ _ _) rfl ?_
    exact ⟨rfl, HK.out, _, hg1, HO.out⟩
set_option maxRecDepth 100000 in
set_option maxHeartbeats 4000000 in
theorem rep_not (gr n cap B : Nat) (g : List Mk) (i : Nat) (m : Mk) (x y : Int) (R : List Mk → Prop) (hm : g[i]? = some m) (hn : g.length = n) (hop : m.op ≤ 11) (hc : nc m.op = 1) (ha : RepOf gr n cap B m.a x y g R) : RepOf gr n cap B i x y g R := by
  intro w how
  have HO := Lib.hid how
  have hlt : i < n := by rw [← hn]; exact (List.getElem?_eq_some_iff.1 hm).1
  have hms := how.ms
  obtain ⟨c0, c1, c2', c3, c4⟩ := hms.at5 hm
  simp only [Nat.zero_add] at c0 c1 c2' c3 c4
  have hfr := own_free how
  have hbl : gr < w.heap.size := how.lt_own (by omega)
  obtain ⟨m1, m2⟩ := hms.1 m (List.mem_of_getElem? hm)
  have hni : n ≤ cap ∧ cap ≤ 9223372036854775807 := by
    obtain ⟨_, A, c, e, h1, h2, _⟩ := hms
    injection e with e1 e2 e3
    omega
  obtain ⟨hn1, hn2⟩ := hni
  have hC := fun W => RChildren_any m.op W m1 m2
  rw [hc] at hC
  have HC := Lib.hid hC; clear hC
  have hq : decide ((12 : Int) ≤ m.op) = false := by simp; omega
  have HK : Hid (Keep (· = gr) w (w.alloc (.cells #[.int .u8 m.op, .int .i64 m.x, .int .i64 m.y, .int .i64 m.a, .int .i64 m.b] 23))) := Keep.alloc (Keep.refl _ _) _
  replace HO := Lib.hid (HO.out.below (B' := w.heap.size) (w' := w.alloc (.cells #[.int .u8 m.op, .int .i64 m.x, .int .i64 m.y, .int .i64 m.a, .int .i64 m.b] 23)) (Below.alloc (Below.refl _ _) (Nat.le_refl _) _) (Nat.le_refl _))
  have HR := Lib.hid (Row.new w 23 #[.int .u8 m.op, .int .i64 m.x, .int .i64 m.y, .int .i64 m.a, .int .i64 m.b])
  have hne : w.heap.size ≠ gr := by omega
  clear hms how
  have HA := Lib.hid ha
  clear ha hm hn hop hc
  go_enter Tryd.func55, Tryd.ntmps55
  go_wp2_with (first
    | (go_at_call 60; go_must ((with_reducible refine (HC.out _).mono ?_); rintro e w2 ⟨rfl, rfl⟩))
    | (go_at_call 55; (with_reducible refine (HA.out _ HO.out).mono ?_); rintro e w2 ⟨rfl, hk2, g1, hg1, ho2⟩; replace HR := Lib.hid (hk2.row HR.out hne); have rc := HR.out.cell; replace HK := Lib.hid (HK.out.trans hk2); replace HO := Lib.hid ho2; clear hk2 ho2))
  first | go_returns | refine bodyPost_end (results_none rfl _ _ _) rfl ?_
  exact ⟨rfl, HK.out, _, hg1, HO.out⟩
set_option maxRecDepth 100000 in
set_option maxHeartbeats 4000000 in
theorem rep_bin (gr n cap B : Nat) (g : List Mk) (i : Nat) (m : Mk) (x y : Int) (R1 R : List Mk → Prop) (hm : g[i]? = some m) (hn : g.length = n) (hop : m.op ≤ 11) (hc : nc m.op = 2) (ha : RepOf gr n cap B m.a x y g R1) (hb : ∀ g1, R1 g1 → RepOf gr n cap B m.b x y g1 R) : RepOf gr n cap B i x y g R := by
  intro w how
  have HO := Lib.hid how
  have hlt : i < n := by rw [← hn]; exact (List.getElem?_eq_some_iff.1 hm).1
  have hms := how.ms
  obtain ⟨c0, c1, c2', c3, c4⟩ := hms.at5 hm
  simp only [Nat.zero_add] at c0 c1 c2' c3 c4
  have hfr := own_free how
  have hbl : gr < w.heap.size := how.lt_own (by omega)
  obtain ⟨m1, m2⟩ := hms.1 m (List.mem_of_getElem? hm)
  have hni : n ≤ cap ∧ cap ≤ 9223372036854775807 := by
    obtain ⟨_, A, c, e, h1, h2, _⟩ := hms
    injection e with e1 e2 e3
    omega
  obtain ⟨hn1, hn2⟩ := hni
  have hC := fun W => RChildren_any m.op W m1 m2
  rw [hc] at hC
  have HC := Lib.hid hC; clear hC
  have hq : decide ((12 : Int) ≤ m.op) = false := by simp; omega
  have HK : Hid (Keep (· = gr) w (w.alloc (.cells #[.int .u8 m.op, .int .i64 m.x, .int .i64 m.y, .int .i64 m.a, .int .i64 m.b] 23))) := Keep.alloc (Keep.refl _ _) _
  replace HO := Lib.hid (HO.out.below (B' := w.heap.size) (w' := w.alloc (.cells #[.int .u8 m.op, .int .i64 m.x, .int .i64 m.y, .int .i64 m.a, .int .i64 m.b] 23)) (Below.alloc (Below.refl _ _) (Nat.le_refl _) _) (Nat.le_refl _))
  have HR := Lib.hid (Row.new w 23 #[.int .u8 m.op, .int .i64 m.x, .int .i64 m.y, .int .i64 m.a, .int .i64 m.b])
  have hne : w.heap.size ≠ gr := by omega
  clear hms how
  have HA := Lib.hid ha; have HBB := Lib.hid hb
  clear ha hb hm hn hop hc
  go_enter Tryd.func55, Tryd.ntmps55
  go_wp2_with (first
    | (go_at_call 60; go_must ((with_reducible refine (HC.out _).mono ?_); rintro e w2 ⟨rfl, rfl⟩))
    | (go_at_call 55; (with_reducible refine (HA.out _ HO.out).mono ?_); rintro e w2 ⟨rfl, hk2, g1, hg1, ho2⟩; replace HR := Lib.hid (hk2.row HR.out hne); have rc := HR.out.cell; replace HK := Lib.hid (HK.out.trans hk2); replace HO := Lib.hid ho2; clear hk2 ho2)
    | (go_at_call 55; (with_reducible refine (HBB.out g1 hg1 _ HO.out).mono ?_); rintro e w2 ⟨rfl, hk2, g2, hg2, ho2⟩; replace HR := Lib.hid (hk2.row HR.out hne); have rc := HR.out.cell; replace HK := Lib.hid (HK.out.trans hk2); replace HO := Lib.hid ho2; clear hk2 ho2))
  first | go_returns | refine bodyPost_end (results_none rfl _ _ _) rfl ?_
  exact ⟨rfl, HK.out, _, hg2, HO.out⟩
theorem Rrep_any (gr n cap B : Nat) (x y : Int) (t : Tr) : t.ok → ∀ p (g : List Mk), g.length = n → Lies g p t → RepOf gr n cap B ((p + t.size - 1 : Nat) : Int) x y g (fun g' => RepRel g g' p (repT x y t)) := by
  induction t with
  | leaf op u v =>
    intro ok p g hn hl W hW
    have := rep_leaf gr n cap B g p _ x y (nv op) hl.leaf hn rfl ok.2.1 (nc0_op ok.1 ok.2.1) W hW
    simp only [Tr.size, Nat.add_sub_cancel]
    refine this.mono fun e w' ⟨h1, h2, g', h3, h4⟩ => ⟨h1, h2, g', ?_, h4⟩
    rw [h3]
    exact RepRel.leaf hl.leaf
  | un op z a ih =>
    intro ok p g hn hl W hW
    obtain ⟨h1, h2⟩ := hl.un
    have iha := ih ok.2 p g hn h1
    simp only [Tr.size]
    rw [show p + (a.size + 1) - 1 = p + a.size by omega]
    have key : RepOf gr n cap B ((p + a.size : Nat) : Int) x y g (fun g' => RepRel g g' p (repT x y (.un op z a))) := by
      by_cases h12 : 12 ≤ op
      · refine rep_q gr n cap B g (p + a.size) _ x y _ h2 hn h12 (fun hx W hW => (iha W hW).mono fun e w' ⟨q1, q2, g', q3, q4⟩ => ⟨q1, q2, g', ?_, q4⟩) (fun hx => ?_)
        · simp only at hx
          rw [repT, if_neg (by rintro ⟨_, h⟩; exact hx h)]
          exact RepRel.un (repT_size x y a) q3 h2
        · simp only at hx
          rw [repT, if_pos ⟨h12, hx⟩]
          exact RepRel.refl hl
      · refine rep_not gr n cap B g (p + a.size) _ x y _ h2 hn (by simp only; omega) ok.1.2.1 (fun W hW => (iha W hW).mono fun e w' ⟨q1, q2, g', q3, q4⟩ => ⟨q1, q2, g', ?_, q4⟩)
        rw [repT, if_neg (by rintro ⟨h, _⟩; exact h12 h)]
        exact RepRel.un (repT_size x y a) q3 h2
    exact key W hW
  | bin op a b iha ihb =>
    intro ok p g hn hl W hW
    obtain ⟨h1, h2, h3⟩ := hl.bin
    simp only [Tr.size]
    rw [show p + (a.size + b.size + 1) - 1 = p + a.size + b.size by omega]
    refine rep_bin gr n cap B g (p + a.size + b.size) _ x y (fun g' => RepRel g g' p (repT x y a)) _ h3 hn (nc2_op ok.1) ok.1 (iha ok.2.1 p g hn h1) (fun g1 hg1 W hW => ?_) W hW
    have hb1 : Lies g1 (p + a.size) b := h2.of_same fun j q1 q2 => hg1.2.2 j (.inr (by rw [repT_size]; omega))
    refine (ihb ok.2.2 (p + a.size) g1 (hg1.1.trans hn) hb1 W hW).mono fun e w' ⟨q1, q2, g', q3, q4⟩ => ⟨q1, q2, g', ?_, q4⟩
    rw [repT]
    exact RepRel.bin (repT_size x y a) (repT_size x y b) hg1 q3 h3
end Go.Proofs.YtcjblbhmajdmjaaDoor

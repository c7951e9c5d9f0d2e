/- Contracts of the reference: free, captures. -/
import Derived.Test.YtbggpiednddheaaDoorRefE
set_option linter.unusedSimpArgs false
set_option linter.unusedVariables false
namespace Go.Proofs.YtbggpiednddheaaDoor
open Go.RowKit

/-- Whether a variable is free in a tree; whether a free occurrence of x lies below a quantifier of y. -/
def frT (v : Int) : Tr → Bool
  | .leaf op x y => (decide (0 < nv op) && (x == v)) || (decide (1 < nv op) && (y == v))
  | .un op x a => if 12 ≤ op then (x != v) && frT v a else frT v a
  | .bin _ a b => frT v a || frT v b
def capT (x y : Int) : Tr → Bool
  | .leaf _ _ _ => false
  | .un op z a => if 12 ≤ op then (if z = x then false else ((z == y) && frT x a) || capT x y a) else capT x y a
  | .bin _ a b => capT x y a || capT x y b

abbrev FreeOf (f : List Mk) (v : Value) (i x : Int) (r : Bool) : Prop :=
  ∀ W, MS W v f → Calls Tryd.prog 65 #[v, .int .i64 i, .int .i64 x] W fun e w' => e = .returned (.bool r) ∧ Below W.heap.size W w'
abbrev CapOf (f : List Mk) (v : Value) (i x y : Int) (r : Bool) : Prop :=
  ∀ W, MS W v f → Calls Tryd.prog 63 #[v, .int .i64 i, .int .i64 x, .int .i64 y] W fun e w' => e = .returned (.bool r) ∧ Below W.heap.size W w'

set_option maxRecDepth 100000 in
set_option maxHeartbeats 4000000 in
theorem free_leaf (f : List Mk) (v : Value) (i : Nat) (m : Mk) (x k : Int) (hm : f[i]? = some m) (hv : nv m.op = k) (hc : nc m.op = 0) (hop : m.op ≤ 11) : FreeOf f v i x ((decide (0 < k) && (m.x == x)) || (decide (1 < k) && (m.y == x))) := by
  intro w hms
  have HV := Lib.hid hms
  obtain ⟨ho, A, c, rfl, hcc, hc2, hcell⟩ := hms
  have hlt : i < f.length := (List.getElem?_eq_some_iff.1 hm).1
  obtain ⟨b, o, rfl⟩ := HV.out.addr (by omega)
  obtain ⟨c0, c1, c2', c3, c4⟩ := HV.out.at5 hm
  have hbl : b < w.heap.size := World.block_lt_of_cell? _ _ c0
  obtain ⟨m1, m2⟩ := ho m (List.mem_of_getElem? hm)
  have hX := fun W => RUsesX_any m.op W m1 m2
  have hY := fun W => RUsesY_any m.op W m1 m2
  have hC := fun W => RChildren_any m.op W m1 m2
  rw [hv] at hX hY
  rw [hc] at hC
  have hk : k = 0 ∨ k = 1 ∨ k = 2 := by rw [← hv]; exact nv_cases _
  have hq : decide ((12 : Int) ≤ m.op) = false := by simp; omega
  obtain ⟨bx, hbx⟩ : ∃ t, (m.x == x) = t := ⟨_, rfl⟩
  obtain ⟨b2, hby⟩ : ∃ t, (m.y == x) = t := ⟨_, rfl⟩
  rw [hbx, hby]
  clear hcell ho hm hv hc
  obtain ⟨n, hn⟩ : ∃ n, n = f.length := ⟨_, rfl⟩
  rw [← hn] at hcc hlt HV ⊢
  clear hn HV
  have HX := Lib.hid hX; have HY := Lib.hid hY; have HC := Lib.hid hC
  clear hX hY hC
  rcases hk with rfl | rfl | rfl <;> cases bx <;> cases b2
  all_goals
    go_enter Tryd.func65, Tryd.ntmps65
    go_wp2_with (first
      | (go_at_call 49; go_must ((with_reducible refine (HX.out _).mono ?_); rintro e w2 ⟨rfl, rfl⟩))
      | (go_at_call 50; go_must ((with_reducible refine (HY.out _).mono ?_); rintro e w2 ⟨rfl, rfl⟩))
      | (go_at_call 69; go_must ((with_reducible refine (HC.out _).mono ?_); rintro e w2 ⟨rfl, rfl⟩)))
    go_returns
    exact ⟨rfl, by go_grown⟩
set_option maxRecDepth 100000 in
set_option maxHeartbeats 4000000 in
theorem free_q (f : List Mk) (v : Value) (i : Nat) (m : Mk) (x : Int) (ra : Bool) (hm : f[i]? = some m) (hop : 12 ≤ m.op) (ha : FreeOf f v m.a x ra) : FreeOf f v i x ((m.x != x) && ra) := by
  intro w hms
  have HV := Lib.hid hms
  obtain ⟨ho, A, c, rfl, hcc, hc2, hcell⟩ := hms
  have hlt : i < f.length := (List.getElem?_eq_some_iff.1 hm).1
  obtain ⟨b, o, rfl⟩ := HV.out.addr (by omega)
  obtain ⟨c0, c1, c2', c3, c4⟩ := HV.out.at5 hm
  have hbl : b < w.heap.size := World.block_lt_of_cell? _ _ c0
  have hq : decide ((12 : Int) ≤ m.op) = true := by simp; omega
  obtain ⟨bx, hbx⟩ : ∃ t, (m.x != x) = t := ⟨_, rfl⟩
  rw [hbx]
  clear hcell ho hm hop
  obtain ⟨n, hn⟩ : ∃ n, n = f.length := ⟨_, rfl⟩
  rw [← hn] at hcc hlt HV ha ⊢
  clear hn
  have HA := Lib.hid ha; clear ha
  have HB : Hid (Below w.heap.size w (w.alloc (.cells #[.int .u8 m.op, .int .i64 m.x, .int .i64 m.y, .int .i64 m.a, .int .i64 m.b] 49))) := Below.alloc (Below.refl _ _) (Nat.le_refl _) _
  cases bx
  all_goals
    go_enter Tryd.func65, Tryd.ntmps65
    go_wp2_with (go_at_call 65; go_must ((with_reducible refine (HA.out _ (HV.out.below HB.out (Nat.le_refl _))).mono ?_); rintro e w2 ⟨rfl, hb2⟩; replace HB := Lib.hid (HB.out.trans (hb2.mono HB.out.size)); clear hb2))
    go_returns
    exact ⟨rfl, HB.out⟩
set_option maxRecDepth 100000 in
set_option maxHeartbeats 4000000 in
theorem free_not (f : List Mk) (v : Value) (i : Nat) (m : Mk) (x : Int) (ra : Bool) (hm : f[i]? = some m) (hop : m.op ≤ 11) (hc : nc m.op = 1) (ha : FreeOf f v m.a x ra) : FreeOf f v i x ra := by
  intro w hms
  have HV := Lib.hid hms
  obtain ⟨ho, A, c, rfl, hcc, hc2, hcell⟩ := hms
  have hlt : i < f.length := (List.getElem?_eq_some_iff.1 hm).1
  obtain ⟨b, o, rfl⟩ := HV.out.addr (by omega)
  obtain ⟨c0, c1, c2', c3, c4⟩ := HV.out.at5 hm
  have hbl : b < w.heap.size := World.block_lt_of_cell? _ _ c0
  obtain ⟨m1, m2⟩ := ho m (List.mem_of_getElem? hm)
  have hC := fun W => RChildren_any m.op W m1 m2
  rw [hc] at hC
  have HC := Lib.hid hC; clear hC
  have hq : decide ((12 : Int) ≤ m.op) = false := by simp; omega
  clear hcell ho hm hop hc
  obtain ⟨n, hn⟩ : ∃ n, n = f.length := ⟨_, rfl⟩
  rw [← hn] at hcc hlt HV ha ⊢
  clear hn
  have HA := Lib.hid ha; clear ha
  have HB : Hid (Below w.heap.size w (w.alloc (.cells #[.int .u8 m.op, .int .i64 m.x, .int .i64 m.y, .int .i64 m.a, .int .i64 m.b] 49))) := Below.alloc (Below.refl _ _) (Nat.le_refl _) _
  go_enter Tryd.func65, Tryd.ntmps65
  go_wp2_with (first
    | (go_at_call 69; go_must ((with_reducible refine (HC.out _).mono ?_); rintro e w2 ⟨rfl, rfl⟩))
    | (go_at_call 65; go_must ((with_reducible refine (HA.out _ (HV.out.below HB.out (Nat.le_refl _))).mono ?_); rintro e w2 ⟨rfl, hb2⟩; replace HB := Lib.hid (HB.out.trans (hb2.mono HB.out.size)); clear hb2)))
  go_returns
  exact ⟨rfl, HB.out⟩
set_option maxRecDepth 100000 in
set_option maxHeartbeats 4000000 in
theorem free_bin (f : List Mk) (v : Value) (i : Nat) (m : Mk) (x : Int) (ra rb : Bool) (hm : f[i]? = some m) (hop : m.op ≤ 11) (hc : nc m.op = 2) (ha : FreeOf f v m.a x ra) (hb : FreeOf f v m.b x rb) : FreeOf f v i x (ra || rb) := by
  intro w hms
  have HV := Lib.hid hms
  obtain ⟨ho, A, c, rfl, hcc, hc2, hcell⟩ := hms
  have hlt : i < f.length := (List.getElem?_eq_some_iff.1 hm).1
  obtain ⟨b, o, rfl⟩ := HV.out.addr (by omega)
  obtain ⟨c0, c1, c2', c3, c4⟩ := HV.out.at5 hm
  have hbl : b < w.heap.size := World.block_lt_of_cell? _ _ c0
  obtain ⟨m1, m2⟩ := ho m (List.mem_of_getElem? hm)
  have hC := fun W => RChildren_any m.op W m1 m2
  rw [hc] at hC
  have HC := Lib.hid hC; clear hC
  have hq : decide ((12 : Int) ≤ m.op) = false := by simp; omega
  clear hcell ho hm hop hc
  obtain ⟨n, hn⟩ : ∃ n, n = f.length := ⟨_, rfl⟩
  rw [← hn] at hcc hlt HV ha hb ⊢
  clear hn
  have HA := Lib.hid ha; have HBB := Lib.hid hb; clear ha hb
  have HB : Hid (Below w.heap.size w (w.alloc (.cells #[.int .u8 m.op, .int .i64 m.x, .int .i64 m.y, .int .i64 m.a, .int .i64 m.b] 49))) := Below.alloc (Below.refl _ _) (Nat.le_refl _) _
  have HR := Lib.hid (Row.new w 49 #[.int .u8 m.op, .int .i64 m.x, .int .i64 m.y, .int .i64 m.a, .int .i64 m.b])
  cases ra
  all_goals
    go_enter Tryd.func65, Tryd.ntmps65
    go_wp2_with (first
      | (go_at_call 69; go_must ((with_reducible refine (HC.out _).mono ?_); rintro e w2 ⟨rfl, rfl⟩))
      | (go_at_call 65; (with_reducible refine (HA.out _ (HV.out.below HB.out (Nat.le_refl _))).mono ?_); rintro e w2 ⟨rfl, hb2⟩; replace HR := Lib.hid (HR.out.below hb2 HR.out.lt); have rc := HR.out.cell; replace HB := Lib.hid (HB.out.trans (hb2.mono HB.out.size)); clear hb2)
      | (go_at_call 65; (with_reducible refine (HBB.out _ (HV.out.below HB.out (Nat.le_refl _))).mono ?_); rintro e w3 ⟨rfl, hb2⟩; replace HB := Lib.hid (HB.out.trans (hb2.mono HB.out.size)); clear hb2))
    go_returns
    exact ⟨rfl, HB.out⟩
theorem ok_op {t : Tr} : t.ok → ∀ p, ∀ m ∈ t.enc p, 1 ≤ m.op ∧ m.op ≤ 15 := fun ok p m hm => nm_range (t.enc_node ok p m hm).1
theorem nc0_op {op : Int} (h : nm op ≠ []) (hc : nc op = 0) : op ≤ 11 := by
  have := nm_range h
  unfold nc at hc
  split at hc
  · omega
  · split at hc <;> omega
theorem nc2_op {op : Int} (hc : nc op = 2) : op ≤ 11 := by
  unfold nc at hc
  split at hc
  · omega
  · split at hc <;> omega
theorem Rfree_any (f : List Mk) (v : Value) (x : Int) (t : Tr) : t.ok → ∀ p, Lies f p t → FreeOf f v ((p + t.size - 1 : Nat) : Int) x (frT x t) := by
  induction t with
  | leaf op u z =>
    intro ok p hl
    have := free_leaf f v p _ x (nv op) hl.leaf rfl ok.2.1 (nc0_op ok.1 ok.2.1)
    simpa [Tr.size, frT] using this
  | un op z a ih =>
    intro ok p hl
    obtain ⟨h1, h2⟩ := hl.un
    have iha := ih ok.2 p h1
    simp only [Tr.size, frT]
    rw [show p + (a.size + 1) - 1 = p + a.size by omega]
    by_cases h12 : 12 ≤ op
    · rw [if_pos h12]
      exact free_q f v (p + a.size) _ x _ h2 h12 iha
    · rw [if_neg h12]
      exact free_not f v (p + a.size) _ x _ h2 (by simp only; omega) ok.1.2.1 iha
  | bin op a b iha ihb =>
    intro ok p hl
    obtain ⟨h1, h2, h3⟩ := hl.bin
    simp only [Tr.size, frT]
    rw [show p + (a.size + b.size + 1) - 1 = p + a.size + b.size by omega]
    exact free_bin f v (p + a.size + b.size) _ x _ _ h3 (nc2_op ok.1) ok.1 (iha ok.2.1 p h1) (ihb ok.2.2 _ h2)
set_option maxRecDepth 100000 in
set_option maxHeartbeats 4000000 in
theorem cap_leaf (f : List Mk) (v : Value) (i : Nat) (m : Mk) (x y : Int) (hm : f[i]? = some m) (hc : nc m.op = 0) (hop : m.op ≤ 11) : CapOf f v i x y false := by
  intro w hms
  have HV := Lib.hid hms
  obtain ⟨ho, A, c, rfl, hcc, hc2, hcell⟩ := hms
  have hlt : i < f.length := (List.getElem?_eq_some_iff.1 hm).1
  obtain ⟨b, o, rfl⟩ := HV.out.addr (by omega)
  obtain ⟨c0, c1, c2', c3, c4⟩ := HV.out.at5 hm
  have hbl : b < w.heap.size := World.block_lt_of_cell? _ _ c0
  obtain ⟨m1, m2⟩ := ho m (List.mem_of_getElem? hm)
  have hC := fun W => RChildren_any m.op W m1 m2
  rw [hc] at hC
  have HC := Lib.hid hC; clear hC
  have hq : decide ((12 : Int) ≤ m.op) = false := by simp; omega
  clear hcell ho hm hop hc
  obtain ⟨n, hn⟩ : ∃ n, n = f.length := ⟨_, rfl⟩
  rw [← hn] at hcc hlt HV ⊢
  clear hn
  clear HV
  go_enter Tryd.func63, Tryd.ntmps63
  go_wp2_with (first
    | (go_at_call 69; go_must ((with_reducible refine (HC.out _).mono ?_); rintro e w2 ⟨rfl, rfl⟩)))
  go_returns
  exact ⟨rfl, by go_grown⟩
set_option maxRecDepth 100000 in
set_option maxHeartbeats 4000000 in
theorem cap_q (f : List Mk) (v : Value) (i : Nat) (m : Mk) (x y : Int) (fa ca : Bool) (hm : f[i]? = some m) (hop : 12 ≤ m.op) (ha : FreeOf f v m.a x fa) (hb : CapOf f v m.a x y ca) : CapOf f v i x y (if m.x = x then false else ((m.x == y) && fa) || ca) := by
  intro w hms
  have HV := Lib.hid hms
  obtain ⟨ho, A, c, rfl, hcc, hc2, hcell⟩ := hms
  have hlt : i < f.length := (List.getElem?_eq_some_iff.1 hm).1
  obtain ⟨b, o, rfl⟩ := HV.out.addr (by omega)
  obtain ⟨c0, c1, c2', c3, c4⟩ := HV.out.at5 hm
  have hbl : b < w.heap.size := World.block_lt_of_cell? _ _ c0
  obtain ⟨m1, m2⟩ := ho m (List.mem_of_getElem? hm)
  have hq : decide ((12 : Int) ≤ m.op) = true := by simp; omega
  obtain ⟨t1, ht1⟩ : ∃ t, (m.x == x) = t := ⟨_, rfl⟩
  obtain ⟨t2, ht2⟩ : ∃ t, (m.x == y) = t := ⟨_, rfl⟩
  have hr : (if m.x = x then false else ((m.x == y) && fa) || ca) = (if t1 = true then false else (t2 && fa) || ca) := by
    rw [ht2, ← ht1]
    simp only [beq_iff_eq]
  rw [hr]
  clear hcell ho hm hop hr
  obtain ⟨n, hn⟩ : ∃ n, n = f.length := ⟨_, rfl⟩
  rw [← hn] at hcc hlt HV ha hb ⊢
  clear hn
  have HA := Lib.hid ha; have HBB := Lib.hid hb; clear ha hb
  have HB : Hid (Below w.heap.size w (w.alloc (.cells #[.int .u8 m.op, .int .i64 m.x, .int .i64 m.y, .int .i64 m.a, .int .i64 m.b] 49))) := Below.alloc (Below.refl _ _) (Nat.le_refl _) _
  have HR := Lib.hid (Row.new w 49 #[.int .u8 m.op, .int .i64 m.x, .int .i64 m.y, .int .i64 m.a, .int .i64 m.b])
  cases t1 <;> cases t2 <;> cases fa
  all_goals
    go_enter Tryd.func63, Tryd.ntmps63
    go_wp2_with (first
      | (go_at_call 65; (with_reducible refine (HA.out _ (HV.out.below HB.out (Nat.le_refl _))).mono ?_); rintro e w2 ⟨rfl, hb2⟩; replace HR := Lib.hid (HR.out.below hb2 HR.out.lt); have rc := HR.out.cell; replace HB := Lib.hid (HB.out.trans (hb2.mono HB.out.size)); clear hb2)
      | (go_at_call 63; (with_reducible refine (HBB.out _ (HV.out.below HB.out (Nat.le_refl _))).mono ?_); rintro e w2 ⟨rfl, hb2⟩; replace HR := Lib.hid (HR.out.below hb2 HR.out.lt); have rc := HR.out.cell; replace HB := Lib.hid (HB.out.trans (hb2.mono HB.out.size)); clear hb2))
    go_returns
    exact ⟨rfl, HB.out⟩
set_option maxRecDepth 100000 in
set_option maxHeartbeats 4000000 in
theorem cap_not (f : List Mk) (v : Value) (i : Nat) (m : Mk) (x y : Int) (ca : Bool) (hm : f[i]? = some m) (hop : m.op ≤ 11) (hc : nc m.op = 1) (ha : CapOf f v m.a x y ca) : CapOf f v i x y ca := by
  intro w hms
  have HV := Lib.hid hms
  obtain ⟨ho, A, c, rfl, hcc, hc2, hcell⟩ := hms
  have hlt : i < f.length := (List.getElem?_eq_some_iff.1 hm).1
  obtain ⟨b, o, rfl⟩ := HV.out.addr (by omega)
  obtain ⟨c0, c1, c2', c3, c4⟩ := HV.out.at5 hm
  have hbl : b < w.heap.size := World.block_lt_of_cell? _ _ c0
  obtain ⟨m1, m2⟩ := ho m (List.mem_of_getElem? hm)
  have hC := fun W => RChildren_any m.op W m1 m2
  rw [hc] at hC
  have HC := Lib.hid hC; clear hC
  have hq : decide ((12 : Int) ≤ m.op) = false := by simp; omega
  clear hcell ho hm hop hc
  obtain ⟨n, hn⟩ : ∃ n, n = f.length := ⟨_, rfl⟩
  rw [← hn] at hcc hlt HV ha ⊢
  clear hn
  have HA := Lib.hid ha; clear ha
  have HB : Hid (Below w.heap.size w (w.alloc (.cells #[.int .u8 m.op, .int .i64 m.x, .int .i64 m.y, .int .i64 m.a, .int .i64 m.b] 49))) := Below.alloc (Below.refl _ _) (Nat.le_refl _) _
  have HR := Lib.hid (Row.new w 49 #[.int .u8 m.op, .int .i64 m.x, .int .i64 m.y, .int .i64 m.a, .int .i64 m.b])
  go_enter Tryd.func63, Tryd.ntmps63
  go_wp2_with (first
    | (go_at_call 69; go_must ((with_reducible refine (HC.out _).mono ?_); rintro e w2 ⟨rfl, rfl⟩))
    | (go_at_call 63; (with_reducible refine (HA.out _ (HV.out.below HB.out (Nat.le_refl _))).mono ?_); rintro e w2 ⟨rfl, hb2⟩; replace HR := Lib.hid (HR.out.below hb2 HR.out.lt); have rc := HR.out.cell; replace HB := Lib.hid (HB.out.trans (hb2.mono HB.out.size)); clear hb2))
  go_returns
  exact ⟨rfl, HB.out⟩
set_option maxRecDepth 100000 in
set_option maxHeartbeats 4000000 in
theorem cap_bin (f : List Mk) (v : Value) (i : Nat) (m : Mk) (x y : Int) (ra rb : Bool) (hm : f[i]? = some m) (hop : m.op ≤ 11) (hc : nc m.op = 2) (ha : CapOf f v m.a x y ra) (hb : CapOf f v m.b x y rb) : CapOf f v i x y (ra || rb) := by
  intro w hms
  have HV := Lib.hid hms
  obtain ⟨ho, A, c, rfl, hcc, hc2, hcell⟩ := hms
  have hlt : i < f.length := (List.getElem?_eq_some_iff.1 hm).1
  obtain ⟨b, o, rfl⟩ := HV.out.addr (by omega)
  obtain ⟨c0, c1, c2', c3, c4⟩ := HV.out.at5 hm
  have hbl : b < w.heap.size := World.block_lt_of_cell? _ _ c0
  obtain ⟨m1, m2⟩ := ho m (List.mem_of_getElem? hm)
  have hC := fun W => RChildren_any m.op W m1 m2
  rw [hc] at hC
  have HC := Lib.hid hC; clear hC
  have hq : decide ((12 : Int) ≤ m.op) = false := by simp; omega
  clear hcell ho hm hop hc
  obtain ⟨n, hn⟩ : ∃ n, n = f.length := ⟨_, rfl⟩
  rw [← hn] at hcc hlt HV ha hb ⊢
  clear hn
  have HA := Lib.hid ha; have HBB := Lib.hid hb; clear ha hb
  have HB : Hid (Below w.heap.size w (w.alloc (.cells #[.int .u8 m.op, .int .i64 m.x, .int .i64 m.y, .int .i64 m.a, .int .i64 m.b] 49))) := Below.alloc (Below.refl _ _) (Nat.le_refl _) _
  have HR := Lib.hid (Row.new w 49 #[.int .u8 m.op, .int .i64 m.x, .int .i64 m.y, .int .i64 m.a, .int .i64 m.b])
  cases ra
  all_goals
    go_enter Tryd.func63, Tryd.ntmps63
    go_wp2_with (first
      | (go_at_call 69; go_must ((with_reducible refine (HC.out _).mono ?_); rintro e w2 ⟨rfl, rfl⟩))
      | (go_at_call 63; (with_reducible refine (HA.out _ (HV.out.below HB.out (Nat.le_refl _))).mono ?_); rintro e w2 ⟨rfl, hb2⟩; replace HR := Lib.hid (HR.out.below hb2 HR.out.lt); have rc := HR.out.cell; replace HB := Lib.hid (HB.out.trans (hb2.mono HB.out.size)); clear hb2)
      | (go_at_call 63; (with_reducible refine (HBB.out _ (HV.out.below HB.out (Nat.le_refl _))).mono ?_); rintro e w2 ⟨rfl, hb2⟩; replace HR := Lib.hid (HR.out.below hb2 HR.out.lt); have rc := HR.out.cell; replace HB := Lib.hid (HB.out.trans (hb2.mono HB.out.size)); clear hb2))
    go_returns
    exact ⟨rfl, HB.out⟩
theorem Rcap_any (f : List Mk) (v : Value) (x y : Int) (t : Tr) : t.ok → ∀ p, Lies f p t → CapOf f v ((p + t.size - 1 : Nat) : Int) x y (capT x y t) := by
  induction t with
  | leaf op u z =>
    intro ok p hl
    have := cap_leaf f v p _ x y hl.leaf ok.2.1 (nc0_op ok.1 ok.2.1)
    simpa [Tr.size, capT] using this
  | un op z a ih =>
    intro ok p hl
    obtain ⟨h1, h2⟩ := hl.un
    have iha := ih ok.2 p h1
    have ihf := Rfree_any f v x a ok.2 p h1
    simp only [Tr.size, capT]
    rw [show p + (a.size + 1) - 1 = p + a.size by omega]
    by_cases h12 : 12 ≤ op
    · rw [if_pos h12]
      exact cap_q f v (p + a.size) _ x y _ _ h2 h12 ihf iha
    · rw [if_neg h12]
      exact cap_not f v (p + a.size) _ x y _ h2 (by simp only; omega) ok.1.2.1 iha
  | bin op a b iha ihb =>
    intro ok p hl
    obtain ⟨h1, h2, h3⟩ := hl.bin
    simp only [Tr.size, capT]
    rw [show p + (a.size + b.size + 1) - 1 = p + a.size + b.size by omega]
    exact cap_bin f v (p + a.size + b.size) _ x y _ _ h3 (nc2_op ok.1) ok.1 (iha ok.2.1 p h1) (ihb ok.2.2 _ h2)
end Go.Proofs.YtbggpiednddheaaDoor

/- Contracts of the reference: replace, Substitute, Not, Bind. -/
import Derived.Test.YtbggpiednddheaaDoorFsub
import Derived.Test.YtbggpiednddheaaDoorRefC
set_option linter.unusedSimpArgs false
set_option linter.unusedVariables false
namespace Go.Proofs.YtbggpiednddheaaDoor
open Go.RowKit

abbrev RepOf (gr n cap B : Nat) (i x y : Int) (g : List Mk) (R : List Mk → Prop) : Prop := ∀ W, MO W B (.slice (some ⟨gr, 0, none⟩) n cap) g →
  Calls Tryd.prog 64 #[.slice (some ⟨gr, 0, none⟩) n cap, .int .i64 i, .int .i64 x, .int .i64 y] W fun e w' => e = .returned (.tuple #[]) ∧ Keep (· = gr) W w' ∧ ∃ g', R g' ∧ MO w' B (.slice (some ⟨gr, 0, none⟩) n cap) g'
set_option maxRecDepth 100000 in
set_option maxHeartbeats 4000000 in
theorem rep_leaf (gr n cap B : Nat) (g : List Mk) (i : Nat) (m : Mk) (x y k : Int) (hm : g[i]? = some m) (hn : g.length = n) (hv : nv m.op = k) (hc : nc m.op = 0) (hop : m.op ≤ 11) : RepOf gr n cap B i x y g (fun g' => g' = g.set i (sub2 m m x y)) := by
  intro w how
  have HO := Lib.hid how
  have hlt : i < n := by rw [← hn]; exact (List.getElem?_eq_some_iff.1 hm).1
  have hms := how.ms
  obtain ⟨c0, c1, c2', c3, c4⟩ := hms.at5 hm
  simp only [Nat.zero_add] at c0 c1 c2' c3 c4
  have hfr := own_free how
  have hbl : gr < w.heap.size := how.lt_own (by omega)
  obtain ⟨m1, m2⟩ := hms.1 m (List.mem_of_getElem? hm)
  have hni : n ≤ cap ∧ cap ≤ 9223372036854775807 := by
    obtain ⟨_, A, c, e, h1, h2, _⟩ := hms
    injection e with e1 e2 e3
    omega
  obtain ⟨hn1, hn2⟩ := hni
  have hC := fun W => RChildren_any m.op W m1 m2
  rw [hc] at hC
  have HC := Lib.hid hC; clear hC
  have hX := fun W => RUsesX_any m.op W m1 m2
  have hY := fun W => RUsesY_any m.op W m1 m2
  rw [hv] at hX hY
  have HX := Lib.hid hX; have HY := Lib.hid hY; clear hX hY
  have hk : k = 0 ∨ k = 1 ∨ k = 2 := by rw [← hv]; exact nv_cases _
  have hq : decide ((12 : Int) ≤ m.op) = false := by simp; omega
  obtain ⟨t1, ht1⟩ : ∃ t, (m.x == x) = t := ⟨_, rfl⟩
  obtain ⟨t2, ht2⟩ : ∃ t, (m.y == x) = t := ⟨_, rfl⟩
  have hsub : sub2 m m x y = { m with x := if 0 < k ∧ t1 = true then y else m.x, y := if 1 < k ∧ t2 = true then y else m.y } := by
    unfold sub2
    rw [hv, ← ht1, ← ht2]
    simp only [beq_iff_eq]
  have hBw : ∀ b, (Value.slice (some ⟨gr, 0, none⟩) n cap).ownBlock = some b → b = gr := fun b h => by simp only [Value.ownBlock, Option.some.injEq] at h; exact h.symm
  have s1 := set_mark (m' := { m with x := y }) how hn hm 1 (.int .i64 y) ⟨m1, m2⟩ rfl (by omega)
  have s2 := set_mark (m' := { m with y := y }) how hn hm 2 (.int .i64 y) ⟨m1, m2⟩ rfl (by omega)
  have s3 := set_mark (m := { m with x := y }) (m' := { m with x := y, y := y }) s1 (by simp [hn]) (List.getElem?_set_self (by omega)) 2 (.int .i64 y) ⟨m1, m2⟩ rfl (by omega)
  rw [List.set_set] at s3
  have HS := Lib.hid hsub; have HS1 := Lib.hid s1; have HS2 := Lib.hid s2; have HS3 := Lib.hid s3
  have HSM : Hid (g.set i m = g) := set_same hm
  clear hsub s1 s2 s3 hms hv hc hop hm how hn hBw
  rcases hk with rfl | rfl | rfl <;> cases t1 <;> cases t2
  all_goals
    go_enter Tryd.func64, Tryd.ntmps64
    go_wp2_with (first
      | (go_at_call 69; go_must ((with_reducible refine (HC.out _).mono ?_); rintro e w2 ⟨rfl, rfl⟩))
      | (go_at_call 49; go_must ((with_reducible refine (HX.out _).mono ?_); rintro e w2 ⟨rfl, rfl⟩))
      | (go_at_call 50; go_must ((with_reducible refine (HY.out _).mono ?_); rintro e w2 ⟨rfl, rfl⟩)))
    first | go_returns | refine bodyPost_end (results_none rfl _ _ _) rfl ?_
    first
    | (have e : sub2 m m x y = m := (by rw [HS.out]; simp)
       exact ⟨rfl, Keep.alloc (Keep.refl _ _) _, _, rfl, by rw [e, HSM.out]; exact HO.out.below (B' := w.heap.size) (Below.alloc (Below.refl _ _) (Nat.le_refl _) _) (Nat.le_refl _)⟩)
    | (have e : sub2 m m x y = { m with x := y } := (by rw [HS.out]; simp)
       exact ⟨rfl, Keep.alloc (Keep.set (S := (· = gr)) (Keep.refl _ _) (p := ⟨gr, _, none⟩) (.inl rfl) _) _, _, rfl, by rw [e]; exact HS1.out.below (B' := (w.setCell _ _).heap.size) (Below.alloc (Below.refl _ _) (Nat.le_refl _) _) (Nat.le_refl _)⟩)
    | (have e : sub2 m m x y = { m with y := y } := (by rw [HS.out]; simp)
       exact ⟨rfl, Keep.alloc (Keep.set (S := (· = gr)) (Keep.refl _ _) (p := ⟨gr, _, none⟩) (.inl rfl) _) _, _, rfl, by rw [e]; exact HS2.out.below (B' := (w.setCell _ _).heap.size) (Below.alloc (Below.refl _ _) (Nat.le_refl _) _) (Nat.le_refl _)⟩)
    | (have e : sub2 m m x y = { m with x := y, y := y } := (by rw [HS.out]; simp)
       exact ⟨rfl, Keep.alloc (Keep.set (S := (· = gr)) (Keep.set (S := (· = gr)) (Keep.refl _ _) (p := ⟨gr, _, none⟩) (.inl rfl) _) (p := ⟨gr, _, none⟩) (.inl rfl) _) _, _, rfl, by rw [e]; exact HS3.out.below (B' := ((w.setCell _ _).setCell _ _).heap.size) (Below.alloc (Below.refl _ _) (Nat.le_refl _) _) (Nat.le_refl _)⟩)
set_option maxRecDepth 100000 in
set_option maxHeartbeats 4000000 in
theorem rep_q (gr n cap B : Nat) (g : List Mk) (i : Nat) (m : Mk) (x y : Int) (R : List Mk → Prop) (hm : g[i]? = some m) (hn : g.length = n) (hop : 12 ≤ m.op) (ha : m.x ≠ x → RepOf gr n cap B m.a x y g R) (h0 : m.x = x → R g) : RepOf gr n cap B i x y g R := by
  intro w how
  have HO := Lib.hid how
  have hlt : i < n := by rw [← hn]; exact (List.getElem?_eq_some_iff.1 hm).1
  have hms := how.ms
  obtain ⟨c0, c1, c2', c3, c4⟩ := hms.at5 hm
  simp only [Nat.zero_add] at c0 c1 c2' c3 c4
  have hfr := own_free how
  have hbl : gr < w.heap.size := how.lt_own (by omega)
  obtain ⟨m1, m2⟩ := hms.1 m (List.mem_of_getElem? hm)
  have hni : n ≤ cap ∧ cap ≤ 9223372036854775807 := by
    obtain ⟨_, A, c, e, h1, h2, _⟩ := hms
    injection e with e1 e2 e3
    omega
  obtain ⟨hn1, hn2⟩ := hni
  have hq : decide ((12 : Int) ≤ m.op) = true := by simp; omega
  have HK : Hid (Keep (· = gr) w (w.alloc (.cells #[.int .u8 m.op, .int .i64 m.x, .int .i64 m.y, .int .i64 m.a, .int .i64 m.b] 49))) := Keep.alloc (Keep.refl _ _) _
  replace HO := Lib.hid (HO.out.below (B' := w.heap.size) (w' := w.alloc (.cells #[.int .u8 m.op, .int .i64 m.x, .int .i64 m.y, .int .i64 m.a, .int .i64 m.b] 49)) (Below.alloc (Below.refl _ _) (Nat.le_refl _) _) (Nat.le_refl _))
  have HR := Lib.hid (Row.new w 49 #[.int .u8 m.op, .int .i64 m.x, .int .i64 m.y, .int .i64 m.a, .int .i64 m.b])
  have hne : w.heap.size ≠ gr := by omega
  clear hms how
  clear hm hn hop
  by_cases hx : m.x = x
  · have hx2 : (m.x != x) = false := by simp [hx]
    have HR0 := Lib.hid (h0 hx)
    clear ha h0 hx
    go_enter Tryd.func64, Tryd.ntmps64
    go_wp2
    first | go_returns | refine bodyPost_end (results_none rfl _ _ _) rfl ?_
    exact ⟨rfl, HK.out, _, HR0.out, HO.out⟩
  · have hx2 : (m.x != x) = true := by simp [hx]
    have HA := Lib.hid (ha hx)
    clear ha h0 hx
    go_enter Tryd.func64, Tryd.ntmps64
    go_wp2_with (go_at_call 64; (with_reducible refine (HA.out _ HO.out).mono ?_); rintro e w2 ⟨rfl, hk2, g1, hg1, ho2⟩; replace HR := Lib.hid (hk2.row HR.out hne); have rc := HR.out.cell; replace HK := Lib.hid (HK.out.trans hk2); replace HO := Lib.hid ho2; clear hk2 ho2)
    first | go_returns | refine bodyPost_end (results_none rfl _ _ _) rfl ?_
    exact ⟨rfl, HK.out, _, hg1, HO.out⟩
set_option maxRecDepth 100000 in
set_option maxHeartbeats 4000000 in
theorem rep_not (gr n cap B : Nat) (g : List Mk) (i : Nat) (m : Mk) (x y : Int) (R : List Mk → Prop) (hm : g[i]? = some m) (hn : g.length = n) (hop : m.op ≤ 11) (hc : nc m.op = 1) (ha : RepOf gr n cap B m.a x y g R) : RepOf gr n cap B i x y g R := by
  intro w how
  have HO := Lib.hid how
  have hlt : i < n := by rw [← hn]; exact (List.getElem?_eq_some_iff.1 hm).1
  have hms := how.ms
  obtain ⟨c0, c1, c2', c3, c4⟩ := hms.at5 hm
  simp only [Nat.zero_add] at c0 c1 c2' c3 c4
  have hfr := own_free how
  have hbl : gr < w.heap.size := how.lt_own (by omega)
  obtain ⟨m1, m2⟩ := hms.1 m (List.mem_of_getElem? hm)
  have hni : n ≤ cap ∧ cap ≤ 9223372036854775807 := by
    obtain ⟨_, A, c, e, h1, h2, _⟩ := hms
    injection e with e1 e2 e3
    omega
  obtain ⟨hn1, hn2⟩ := hni
  have hC := fun W => RChildren_any m.op W m1 m2
  rw [hc] at hC
  have HC := Lib.hid hC; clear hC
  have hq : decide ((12 : Int) ≤ m.op) = false := by simp; omega
  have HK : Hid (Keep (· = gr) w (w.alloc (.cells #[.int .u8 m.op, .int .i64 m.x, .int .i64 m.y, .int .i64 m.a, .int .i64 m.b] 49))) := Keep.alloc (Keep.refl _ _) _
  replace HO := Lib.hid (HO.out.below (B' := w.heap.size) (w' := w.alloc (.cells #[.int .u8 m.op, .int .i64 m.x, .int .i64 m.y, .int .i64 m.a, .int .i64 m.b] 49)) (Below.alloc (Below.refl _ _) (Nat.le_refl _) _) (Nat.le_refl _))
  have HR := Lib.hid (Row.new w 49 #[.int .u8 m.op, .int .i64 m.x, .int .i64 m.y, .int .i64 m.a, .int .i64 m.b])
  have hne : w.heap.size ≠ gr := by omega
  clear hms how
  have HA := Lib.hid ha
  clear ha hm hn hop hc
  go_enter Tryd.func64, Tryd.ntmps64
  go_wp2_with (first
    | (go_at_call 69; go_must ((with_reducible refine (HC.out _).mono ?_); rintro e w2 ⟨rfl, rfl⟩))
    | (go_at_call 64; (with_reducible refine (HA.out _ HO.out).mono ?_); rintro e w2 ⟨rfl, hk2, g1, hg1, ho2⟩; replace HR := Lib.hid (hk2.row HR.out hne); have rc := HR.out.cell; replace HK := Lib.hid (HK.out.trans hk2); replace HO := Lib.hid ho2; clear hk2 ho2))
  first | go_returns | refine bodyPost_end (results_none rfl _ _ _) rfl ?_
  exact ⟨rfl, HK.out, _, hg1, HO.out⟩
set_option maxRecDepth 100000 in
set_option maxHeartbeats 4000000 in
theorem rep_bin (gr n cap B : Nat) (g : List Mk) (i : Nat) (m : Mk) (x y : Int) (R1 R : List Mk → Prop) (hm : g[i]? = some m) (hn : g.length = n) (hop : m.op ≤ 11) (hc : nc m.op = 2) (ha : RepOf gr n cap B m.a x y g R1) (hb : ∀ g1, R1 g1 → RepOf gr n cap B m.b x y g1 R) : RepOf gr n cap B i x y g R := by
  intro w how
  have HO := Lib.hid how
  have hlt : i < n := by rw [← hn]; exact (List.getElem?_eq_some_iff.1 hm).1
  have hms := how.ms
  obtain ⟨c0, c1, c2', c3, c4⟩ := hms.at5 hm
  simp only [Nat.zero_add] at c0 c1 c2' c3 c4
  have hfr := own_free how
  have hbl : gr < w.heap.size := how.lt_own (by omega)
  obtain ⟨m1, m2⟩ := hms.1 m (List.mem_of_getElem? hm)
  have hni : n ≤ cap ∧ cap ≤ 9223372036854775807 := by
    obtain ⟨_, A, c, e, h1, h2, _⟩ := hms
    injection e with e1 e2 e3
    omega
  obtain ⟨hn1, hn2⟩ := hni
  have hC := fun W => RChildren_any m.op W m1 m2
  rw [hc] at hC
  have HC := Lib.hid hC; clear hC
  have hq : decide ((12 : Int) ≤ m.op) = false := by simp; omega
  have HK : Hid (Keep (· = gr) w (w.alloc (.cells #[.int .u8 m.op, .int .i64 m.x, .int .i64 m.y, .int .i64 m.a, .int .i64 m.b] 49))) := Keep.alloc (Keep.refl _ _) _
  replace HO := Lib.hid (HO.out.below (B' := w.heap.size) (w' := w.alloc (.cells #[.int .u8 m.op, .int .i64 m.x, .int .i64 m.y, .int .i64 m.a, .int .i64 m.b] 49)) (Below.alloc (Below.refl _ _) (Nat.le_refl _) _) (Nat.le_refl _))
  have HR := Lib.hid (Row.new w 49 #[.int .u8 m.op, .int .i64 m.x, .int .i64 m.y, .int .i64 m.a, .int .i64 m.b])
  have hne : w.heap.size ≠ gr := by omega
  clear hms how
  have HA := Lib.hid ha; have HBB := Lib.hid hb
  clear ha hb hm hn hop hc
  go_enter Tryd.func64, Tryd.ntmps64
  go_wp2_with (first
    | (go_at_call 69; go_must ((with_reducible refine (HC.out _).mono ?_); rintro e w2 ⟨rfl, rfl⟩))
    | (go_at_call 64; (with_reducible refine (HA.out _ HO.out).mono ?_); rintro e w2 ⟨rfl, hk2, g1, hg1, ho2⟩; replace HR := Lib.hid (hk2.row HR.out hne); have rc := HR.out.cell; replace HK := Lib.hid (HK.out.trans hk2); replace HO := Lib.hid ho2; clear hk2 ho2)
    | (go_at_call 64; (with_reducible refine (HBB.out g1 hg1 _ HO.out).mono ?_); rintro e w2 ⟨rfl, hk2, g2, hg2, ho2⟩; replace HR := Lib.hid (hk2.row HR.out hne); have rc := HR.out.cell; replace HK := Lib.hid (HK.out.trans hk2); replace HO := Lib.hid ho2; clear hk2 ho2))
  first | go_returns | refine bodyPost_end (results_none rfl _ _ _) rfl ?_
  exact ⟨rfl, HK.out, _, hg2, HO.out⟩
theorem Rrep_any (gr n cap B : Nat) (x y : Int) (t : Tr) : t.ok → ∀ p (g : List Mk), g.length = n → Lies g p t → RepOf gr n cap B ((p + t.size - 1 : Nat) : Int) x y g (fun g' => RepRel g g' p (repT x y t)) := by
  induction t with
  | leaf op u v =>
    intro ok p g hn hl W hW
    have := rep_leaf gr n cap B g p _ x y (nv op) hl.leaf hn rfl ok.2.1 (nc0_op ok.1 ok.2.1) W hW
    simp only [Tr.size, Nat.add_sub_cancel]
    refine this.mono fun e w' ⟨h1, h2, g', h3, h4⟩ => ⟨h1, h2, g', ?_, h4⟩
    rw [h3]
    exact RepRel.leaf hl.leaf
  | un op z a ih =>
    intro ok p g hn hl W hW
    obtain ⟨h1, h2⟩ := hl.un
    have iha := ih ok.2 p g hn h1
    simp only [Tr.size]
    rw [show p + (a.size + 1) - 1 = p + a.size by omega]
    have key : RepOf gr n cap B ((p + a.size : Nat) : Int) x y g (fun g' => RepRel g g' p (repT x y (.un op z a))) := by
      by_cases h12 : 12 ≤ op
      · refine rep_q gr n cap B g (p + a.size) _ x y _ h2 hn h12 (fun hx W hW => (iha W hW).mono fun e w' ⟨q1, q2, g', q3, q4⟩ => ⟨q1, q2, g', ?_, q4⟩) (fun hx => ?_)
        · simp only at hx
          rw [repT, if_neg (by rintro ⟨_, h⟩; exact hx h)]
          exact RepRel.un (repT_size x y a) q3 h2
        · simp only at hx
          rw [repT, if_pos ⟨h12, hx⟩]
          exact RepRel.refl hl
      · refine rep_not gr n cap B g (p + a.size) _ x y _ h2 hn (by simp only; omega) ok.1.2.1 (fun W hW => (iha W hW).mono fun e w' ⟨q1, q2, g', q3, q4⟩ => ⟨q1, q2, g', ?_, q4⟩)
        rw [repT, if_neg (by rintro ⟨h, _⟩; exact h12 h)]
        exact RepRel.un (repT_size x y a) q3 h2
    exact key W hW
  | bin op a b iha ihb =>
    intro ok p g hn hl W hW
    obtain ⟨h1, h2, h3⟩ := hl.bin
    simp only [Tr.size]
    rw [show p + (a.size + b.size + 1) - 1 = p + a.size + b.size by omega]
    refine rep_bin gr n cap B g (p + a.size + b.size) _ x y (fun g' => RepRel g g' p (repT x y a)) _ h3 hn (nc2_op ok.1) ok.1 (iha ok.2.1 p g hn h1) (fun g1 hg1 W hW => ?_) W hW
    have hb1 : Lies g1 (p + a.size) b := h2.of_same fun j q1 q2 => hg1.2.2 j (.inr (by rw [repT_size]; omega))
    refine (ihb ok.2.2 (p + a.size) g1 (hg1.1.trans hn) hb1 W hW).mono fun e w' ⟨q1, q2, g', q3, q4⟩ => ⟨q1, q2, g', ?_, q4⟩
    rw [repT]
    exact RepRel.bin (repT_size x y a) (repT_size x y b) hg1 q3 h3
end Go.Proofs.YtbggpiednddheaaDoor

/- Contracts of the package bitset: Union, Minus, Canonical, single, Equal, With, Without, Has (written by gen_bits.py). -/
import Derived.Test.YtbggpiednddheaaDoorBitA
set_option linter.unusedSimpArgs false
set_option linter.unusedVariables false
namespace Go.Proofs.YtbggpiednddheaaDoor
open Go.RowKit
theorem drewN_b (w : World) (n : Nat) : Below w.heap.size w (w.drewN n) := ⟨rfl, rfl, rfl, Nat.le_refl _, fun _ _ => rfl⟩

set_option maxRecDepth 100000 in
set_option maxHeartbeats 1000000 in
theorem union_any (a b : List Nat) (v u : Value) (w : World) (ha : OneWord a) (hb : OneWord b) (hv : US w v a) (hu : US w u b) : Calls Tryd.prog 40 #[v, u] w (RetUS w (setOf (wordOf a ||| wordOf b))) := by
  have hc := fun W h1 h2 => union_comb a b v u W ha hb h1 h2
  generalize (wordOf a ||| wordOf b) = z at *
  have HC := Lib.hid hc; have HV := Lib.hid hv; have HU := Lib.hid hu; clear hc hv hu
  go_enter Tryd.func40, Tryd.ntmps40
  go_wp2_with (go_at_call 77; refine (HC.out _ HV.out HU.out).mono ?_; rintro e w2 ⟨v2, rfl, hb2, hu2⟩)
  go_returns
  exact ⟨_, rfl, hb2, hu2⟩

set_option maxRecDepth 100000 in
set_option maxHeartbeats 1000000 in
theorem minus_any (a b : List Nat) (v u : Value) (w : World) (ha : OneWord a) (hb : OneWord b) (hv : US w v a) (hu : US w u b) : Calls Tryd.prog 79 #[v, u] w (RetUS w (setOf (andn (wordOf a) (wordOf b)))) := by
  have hc := fun W h1 h2 => minus_comb a b v u W ha hb h1 h2
  generalize (andn (wordOf a) (wordOf b)) = z at *
  have HC := Lib.hid hc; have HV := Lib.hid hv; have HU := Lib.hid hu; clear hc hv hu
  go_enter Tryd.func79, Tryd.ntmps79
  go_wp2_with (go_at_call 77; refine (HC.out _ HV.out HU.out).mono ?_; rintro e w2 ⟨v2, rfl, hb2, hu2⟩)
  go_returns
  exact ⟨_, rfl, hb2, hu2⟩

set_option maxRecDepth 100000 in
set_option maxHeartbeats 1000000 in
theorem intersect_any (a b : List Nat) (v u : Value) (w : World) (ha : OneWord a) (hb : OneWord b) (hv : US w v a) (hu : US w u b) : Calls Tryd.prog 107 #[v, u] w (RetUS w (setOf (wordOf a &&& wordOf b))) := by
  have hc := fun W h1 h2 => intersect_comb a b v u W ha hb h1 h2
  generalize (wordOf a &&& wordOf b) = z at *
  have HC := Lib.hid hc; have HV := Lib.hid hv; have HU := Lib.hid hu; clear hc hv hu
  go_enter Tryd.func107, Tryd.ntmps107
  go_wp2_with (go_at_call 77; refine (HC.out _ HV.out HU.out).mono ?_; rintro e w2 ⟨v2, rfl, hb2, hu2⟩)
  go_returns
  exact ⟨_, rfl, hb2, hu2⟩

theorem oneword_or {a b : List Nat} (ha : OneWord a) (hb : OneWord b) : OneWord (setOf (wordOf a ||| wordOf b)) := oneword_set (or_lt64 ha.lt hb.lt)
theorem oneword_minus {a b : List Nat} (ha : OneWord a) : OneWord (setOf (andn (wordOf a) (wordOf b))) := oneword_set (and_lt64 ha.lt)
theorem oneword_and {a b : List Nat} (ha : OneWord a) : OneWord (setOf (wordOf a &&& wordOf b)) := oneword_set (and_lt64 ha.lt)
set_option maxRecDepth 100000 in
set_option maxHeartbeats 1000000 in
theorem canon_any (a : List Nat) (v : Value) (w : World) (ha : OneWord a) (hv : US w v a) : Calls Tryd.prog 76 #[v] w (RetUS w a) := by
  have hc := fun W h1 => union_any a [] v (.slice none 0 0) W ha oneword_nil h1 (US.nil _)
  have e : setOf (wordOf a ||| wordOf []) = a := by
    rw [show wordOf [] = 0 from rfl, Nat.or_zero]; exact ha.eq.symm
  rw [e] at hc
  have HC := Lib.hid hc; have HV := Lib.hid hv; clear hc hv e
  go_enter Tryd.func76, Tryd.ntmps76
  go_wp2_with (go_at_call 40; refine (HC.out _ HV.out).mono ?_; rintro e w2 ⟨v2, rfl, hb2, hu2⟩)
  go_returns
  exact ⟨_, rfl, hb2, hu2⟩
theorem run_make_words (w : World) : (Instr.makeSlice 29 (.int .i64 1) (.int .i64 1)).run Tryd.prog w = .ok (.slice (some ⟨w.heap.size, 0, none⟩) 1 1) (w.alloc (.cells #[.int .u64 0] 70)) := by
  obtain ⟨i, hi, hz, h1, h2⟩ := info_parts info_u64
  have := run_make_rowN (P := Tryd.prog) 29 70 i (.int .u64 0) Tryd.underlying29 hi hz .i64 .i64 1 1 (Nat.le_refl _) (by rw [h2]; omega) (by omega) w
  rw [h1] at this
  have e : madeCells (Value.int .u64 0).cells (1 * 1) = #[.int .u64 0] := by first | (simp [madeCells, Value.cells]; done) | decide | kernel_rfl
  rw [e] at this
  exact this
set_option maxRecDepth 100000 in
set_option maxHeartbeats 1000000 in
theorem single_any (k : Nat) (w : World) (hk : k < 6) : Calls Tryd.prog 80 #[.int .i64 k] w (RetUS w (setOf (2 ^ k))) := by
  have hmk := run_make_words
  have hkc : k = 0 ∨ k = 1 ∨ k = 2 ∨ k = 3 ∨ k = 4 ∨ k = 5 := by omega
  have fin : ∀ s : Nat, RetUS w [s] (.returned (.slice (some ⟨w.heap.size, 0, none⟩) 1 1)) (w.alloc (.cells #[.int .u64 s] 70)) := fun s =>
    ⟨_, rfl, Below.alloc (Below.refl _ _) (Nat.le_refl _) _, US.lit 1 1 _ (Row.new w _ _) rfl (by omega) (by omega) (one_w _)⟩
  have FIN := Lib.hid fin; clear fin
  rcases hkc with rfl | rfl | rfl | rfl | rfl | rfl
  all_goals
    go_enter Tryd.func80, Tryd.ntmps80
    go_wp2
    go_returns
    exact FIN.out _
set_option maxRecDepth 100000 in
set_option maxHeartbeats 1000000 in
theorem eqw_any (a b : List Nat) (v u : Value) (w : World) (ha : a.length ≤ 1) (hb : b.length ≤ 1) (hv : US w v a) (hu : US w u b) : Calls Tryd.prog 75 #[v, u] w fun e w' => e = .returned (.bool (decide (a = b))) ∧ Below w.heap.size w w' := by
  obtain ⟨A, c, rfl, h1, h2, h3⟩ := hv
  obtain ⟨A2, c2, rfl, h4, h5, h6⟩ := hu
  match a, b, ha, hb with
  | [], [], _, _ =>
    clear h3 h6
    simp only [List.length_nil] at h1 h4 ⊢
    go_enter Tryd.func75, Tryd.ntmps75
    go_wp2
    go_loopg [5, 13] 0 (fun gk s5 s13 wr => gk = 0 ∧ s13 = .int .i64 (0 : Nat) ∧ wr = w)
    case atStart => exact ⟨rfl, rfl, rfl⟩
    case round =>
      obtain ⟨rfl, rfl, rfl⟩ := hrel
      go_wp2
      go_returns
      exact ⟨rfl, Below.refl _ _⟩
  | [], [y], _, _ =>
    clear h3 h6
    simp only [List.length_nil, List.length_singleton] at h1 h4 ⊢
    go_enter Tryd.func75, Tryd.ntmps75
    go_wp2
    go_returns
    exact ⟨rfl, Below.refl _ _⟩
  | [x], [], _, _ =>
    clear h3 h6
    simp only [List.length_nil, List.length_singleton] at h1 h4 ⊢
    go_enter Tryd.func75, Tryd.ntmps75
    go_wp2
    go_returns
    exact ⟨rfl, Below.refl _ _⟩
  | [x], [y], _, _ =>
    obtain ⟨b1, o1, rfl, hb1, hc1⟩ := h3 (by simp)
    obtain ⟨b2, o2, rfl, hb2, hc2⟩ := h6 (by simp)
    have c0 := hc1 0 x rfl
    have c1 := hc2 0 y rfl
    simp only [Nat.add_zero] at c0 c1
    clear h3 h6 hc1 hc2
    simp only [List.length_singleton] at h1 h4 ⊢
    obtain ⟨t, ht⟩ : ∃ t, ((x : Int) != (y : Int)) = t := ⟨_, rfl⟩
    have hd : decide ([x] = [y]) = !t := by
      rw [← ht]
      by_cases h : x = y
      · simp [h]
      · simp [h]; omega
    rw [hd]
    clear hd
    go_enter Tryd.func75, Tryd.ntmps75
    go_wp2
    go_loopg [5, 13] 1 (fun gk s5 s13 wr => (gk = 1 ∧ s13 = .int .i64 (0 : Nat) ∧ wr = w) ∨ (gk = 0 ∧ s13 = .int .i64 (1 : Nat) ∧ t = false ∧ ∃ n, wr = w.drewN n))
    case atStart => exact .inl ⟨rfl, rfl, rfl⟩
    case round =>
      rcases hrel with ⟨rfl, rfl, rfl⟩ | ⟨rfl, rfl, rfl, n, rfl⟩
      · cases t
        · go_wp2_with fail
          go_quiet (fail)
          go_wp2_with fail
          go_roundg 0
          case rel => exact .inr ⟨rfl, by go_num, by simp, _, rfl⟩
          case measure => omega
        · go_wp2_with fail
          go_quiet (fail)
          go_wp2_with fail
          go_returns
          exact ⟨rfl, drewN_b _ _⟩
      · go_wp2
        go_returns
        exact ⟨rfl, drewN_b _ _⟩
set_option maxRecDepth 100000 in
set_option maxHeartbeats 1000000 in
theorem bequal_any (a b : List Nat) (v u : Value) (w : World) (ha : OneWord a) (hb : OneWord b) (hv : US w v a) (hu : US w u b) : Calls Tryd.prog 39 #[v, u] w fun e w' => e = .returned (.bool (decide (a = b))) ∧ Below w.heap.size w w' := by
  have hla : a.length ≤ 1 := by obtain ⟨s, _, rfl⟩ := ha; unfold setOf; split <;> simp
  have hlb : b.length ≤ 1 := by obtain ⟨s, _, rfl⟩ := hb; unfold setOf; split <;> simp
  have h1 := fun W h => canon_any a v W ha h
  have h2 := fun W h => canon_any b u W hb h
  have h3 := fun v u W h1 h2 => eqw_any a b v u W hla hlb h1 h2
  generalize decide (a = b) = t at *
  have H1 := Lib.hid h1; have H2 := Lib.hid h2; have H3 := Lib.hid h3; have HV := Lib.hid hv; have HU := Lib.hid hu
  clear h1 h2 h3 hv hu hla hlb ha hb
  go_enter Tryd.func39, Tryd.ntmps39
  go_wp2_with (first
    | (go_at_call 76; (with_reducible refine (H2.out _ (HU.out.below HB.out (Nat.le_refl _))).mono ?_); rintro e w3 ⟨v3, rfl, hb, h⟩; have HY := Lib.hid h; replace HX := Lib.hid (HX.out.below hb (Nat.le_refl _)); replace HB := Lib.hid (HB.out.trans (hb.mono HB.out.size)); clear hb h)
    | (go_at_call 76; (with_reducible refine (H1.out _ HV.out).mono ?_); rintro e w2 ⟨v2, rfl, hb, h⟩; have HX := Lib.hid h; have HB := Lib.hid hb; clear hb h)
    | (go_at_call 75; (with_reducible refine (H3.out _ _ _ HX.out HY.out).mono ?_); rintro e w4 ⟨rfl, hb⟩; replace HB := Lib.hid (HB.out.trans (hb.mono HB.out.size)); clear hb))
  go_returns
  exact ⟨rfl, HB.out⟩
theorem pow_lt64 {k : Nat} (hk : k < 6) : 2 ^ k < 64 := by
  have : k = 0 ∨ k = 1 ∨ k = 2 ∨ k = 3 ∨ k = 4 ∨ k = 5 := by omega
  rcases this with rfl | rfl | rfl | rfl | rfl | rfl <;> decide
set_option maxRecDepth 100000 in
set_option maxHeartbeats 1000000 in
theorem without_any (a : List Nat) (k : Nat) (v : Value) (w : World) (ha : OneWord a) (hk : k < 6) (hv : US w v a) : Calls Tryd.prog 41 #[v, .int .i64 k] w (RetUS w (setOf (andn (wordOf a) (2 ^ k)))) := by
  have h1 := fun W => single_any k W hk
  have h2 := fun u W h1 h2 => minus_any a (setOf (2 ^ k)) v u W ha (oneword_set (pow_lt64 hk)) h1 h2
  rw [wordOf_set] at h2
  generalize setOf (andn (wordOf a) (2 ^ k)) = z at *
  generalize setOf (2 ^ k) = p at *
  have H1 := Lib.hid h1; have H2 := Lib.hid h2; have HV := Lib.hid hv
  clear h1 h2 hv ha
  go_enter Tryd.func41, Tryd.ntmps41
  go_wp2_with (first
    | (go_at_call 80; (with_reducible refine (H1.out _).mono ?_); rintro e w2 ⟨v2, rfl, hb, h⟩; have HX := Lib.hid h; have HB := Lib.hid hb; clear hb h)
    | (go_at_call 79; (with_reducible refine (H2.out _ _ (HV.out.below HB.out (Nat.le_refl _)) HX.out).mono ?_); rintro e w3 ⟨v3, rfl, hb, h⟩; have HY := Lib.hid h; replace HB := Lib.hid (HB.out.trans (hb.mono HB.out.size)); clear hb h))
  go_returns
  exact ⟨_, rfl, HB.out, HY.out⟩
set_option maxRecDepth 100000 in
set_option maxHeartbeats 1000000 in
theorem with_any (a : List Nat) (k : Nat) (v : Value) (w : World) (ha : OneWord a) (hk : k < 6) (hv : US w v a) : Calls Tryd.prog 44 #[v, .int .i64 k] w (RetUS w (setOf (wordOf a ||| 2 ^ k))) := by
  have h1 := fun W => single_any k W hk
  have h2 := fun u W h1 h2 => union_any a (setOf (2 ^ k)) v u W ha (oneword_set (pow_lt64 hk)) h1 h2
  rw [wordOf_set] at h2
  generalize setOf (wordOf a ||| 2 ^ k) = z at *
  generalize setOf (2 ^ k) = p at *
  have H1 := Lib.hid h1; have H2 := Lib.hid h2; have HV := Lib.hid hv
  clear h1 h2 hv ha
  go_enter Tryd.func44, Tryd.ntmps44
  go_wp2_with (first
    | (go_at_call 80; (with_reducible refine (H1.out _).mono ?_); rintro e w2 ⟨v2, rfl, hb, h⟩; have HX := Lib.hid h; have HB := Lib.hid hb; clear hb h)
    | (go_at_call 40; (with_reducible refine (H2.out _ _ (HV.out.below HB.out (Nat.le_refl _)) HX.out).mono ?_); rintro e w3 ⟨v3, rfl, hb, h⟩; have HY := Lib.hid h; replace HB := Lib.hid (HB.out.trans (hb.mono HB.out.size)); clear hb h))
  go_returns
  exact ⟨_, rfl, HB.out, HY.out⟩
theorem and_pow {x k : Nat} (hx : x < 64) (hk : k < 6) : (x &&& 2 ^ k = 0 ↔ x.testBit k = false) := by
  have h : ∀ (x : Fin 64) (k : Fin 6), (x.1 &&& 2 ^ k.1 = 0 ↔ x.1.testBit k.1 = false) := by decide +kernel
  exact h ⟨x, hx⟩ ⟨k, hk⟩
set_option maxRecDepth 100000 in
set_option maxHeartbeats 1000000 in
theorem has_any (a : List Nat) (k : Nat) (v : Value) (w : World) (ha : OneWord a) (hk : k < 6) (hv : US w v a) : Calls Tryd.prog 43 #[v, .int .i64 k] w fun e w' => e = .returned (.bool ((wordOf a).testBit k)) ∧ Below w.heap.size w w' := by
  have h1 := fun W => single_any k W hk
  have h2 := fun u W h1 h2 => intersect_any a (setOf (2 ^ k)) v u W ha (oneword_set (pow_lt64 hk)) h1 h2
  rw [wordOf_set] at h2
  have h3 := and_pow ha.lt hk
  obtain ⟨t, ht⟩ : ∃ t, t = (wordOf a).testBit k := ⟨_, rfl⟩
  rw [← ht] at h3 ⊢
  obtain ⟨l, hl⟩ : ∃ l, l = setOf (wordOf a &&& 2 ^ k) := ⟨_, rfl⟩
  have hlt : decide (0 < l.length) = t := by
    rw [hl]
    unfold setOf
    by_cases h : wordOf a &&& 2 ^ k = 0
    · rw [if_pos h, h3.1 h]; rfl
    · rw [if_neg h]
      cases t
      · exact absurd (h3.2 rfl) h
      · rfl
  rw [← hl] at h2
  have hI : ∀ u W, US W v a → US W u (setOf (2 ^ k)) → Calls Tryd.prog 82 #[v, u] W fun e w' => e = .returned (.bool t) ∧ Below W.heap.size W w' := by
    intro u W q1 q2
    generalize setOf (2 ^ k) = p at *
    have H2 := Lib.hid h2; have Q1 := Lib.hid q1; have Q2 := Lib.hid q2; have HL := Lib.hid hlt
    clear h1 h2 h3 hv ha q1 q2 ht hl hlt
    go_enter Tryd.func82, Tryd.ntmps82
    go_wp2_with (go_at_call 107; (refine (H2.out _ _ Q1.out Q2.out).mono ?_); rintro e w3 ⟨v3, rfl, hb, h⟩; obtain ⟨A3, c3, rfl, _⟩ := h; have HB := Lib.hid hb; clear hb)
    go_returns
    exact ⟨by rw [← HL.out]; rfl, HB.out⟩
  generalize setOf (2 ^ k) = p at *
  have H1 := Lib.hid h1; have H2 := Lib.hid hI; have HV := Lib.hid hv
  clear h1 h2 h3 hI hv ha hl hlt ht
  go_enter Tryd.func43, Tryd.ntmps43
  go_wp2_with (first
    | (go_at_call 80; (with_reducible refine (H1.out _).mono ?_); rintro e w2 ⟨v2, rfl, hb, h⟩; have HX := Lib.hid h; have HB := Lib.hid hb; clear hb h)
    | (go_at_call 82; (with_reducible refine (H2.out _ _ (HV.out.below HB.out (Nat.le_refl _)) HX.out).mono ?_); rintro e w3 ⟨rfl, hb⟩; replace HB := Lib.hid (HB.out.trans (hb.mono HB.out.size)); clear hb))
  go_returns
  exact ⟨rfl, HB.out⟩
end Go.Proofs.YtbggpiednddheaaDoor

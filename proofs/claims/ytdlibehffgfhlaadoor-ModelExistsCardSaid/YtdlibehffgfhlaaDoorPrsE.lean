/- Contract of the parser's function formula. -/
import Derived.Test.YtdlibehffgfhlaaDoorPrsD
set_option linter.unusedSimpArgs false
set_option linter.unusedVariables false
namespace Go.Proofs.YtdlibehffgfhlaaDoor
open Go.RowKit

set_option maxRecDepth 100000 in
set_option maxHeartbeats 1000000 in
theorem formula_e1 (S : ByteArray) (B g n p many q : Nat) (k : Int) (l : List Mk) (lv : Value) (w : World) (hr : Row w g 89 #[.string S, .int .i64 p, lv, .int .i64 many]) (hB : B ≤ g)
    (hp : p ≤ S.size) (hS : S.size ≤ 1000000) (hc : needP (bts S) (40 :: bts smallB) 2 p = .err q k) :
    Calls Tryd.prog 57 #[.pointer (some ⟨g, 0, none⟩)] w (FormPost S B g lv l (form (bts S) (n + 1) p many) w) := by
  obtain ⟨x, hx⟩ : ∃ x, x = form (bts S) (n + 1) p many := ⟨_, rfl⟩
  rw [← hx]
  have hx2 : x = .err q k := by rw [hx, form_need, hc, PR.bind_err]
  clear hx
  have hneed := fun W h => need_any S { data := #[40, 97, 98, 99, 100, 101, 102, 103, 104, 105, 106, 107, 108, 109, 110, 111, 112, 113, 114, 115, 116, 117, 118, 119, 120, 121, 122] } g p lv (.int .i64 many) 2 W h hp hS
  have e0 : bts { data := #[40, 97, 98, 99, 100, 101, 102, 103, 104, 105, 106, 107, 108, 109, 110, 111, 112, 113, 114, 115, 116, 117, 118, 119, 120, 121, 122] } = 40 :: bts smallB := rfl
  rw [e0, hc] at hneed
  clear e0 hc
  have hBw : B ≤ w.heap.size := by have := hr.lt; omega
  have HN := Lib.hid hneed; have HX := Lib.hid hx2; have HR := Lib.hid hr
  clear hneed hx2 hr
  go_enter Tryd.func57, Tryd.ntmps57
  go_wp2_with (go_at_call 103; refine (HN.out _ HR.out).mono ?_; rintro e w1 ⟨hb1, rfl⟩)
  exact ⟨rfl, FormPost.err HX.out (hb1.mono hBw)⟩

set_option maxRecDepth 100000 in
set_option maxHeartbeats 1000000 in
theorem formula_e2 (S : ByteArray) (B g n p : Nat) (l : List Mk) (lv : Value) (c : UInt8) (w : World) (hr : Row w g 89 #[.string S, .int .i64 p, lv, .int .i64 (64 : Nat)]) (hB : B ≤ g)
    (hp : p ≤ S.size) (hS : S.size ≤ 1000000) (hc : needP (bts S) (40 :: bts smallB) 2 p = .ok p c) :
    Calls Tryd.prog 57 #[.pointer (some ⟨g, 0, none⟩)] w (FormPost S B g lv l (form (bts S) (n + 1) p 64) w) := by
  obtain ⟨x, hx⟩ : ∃ x, x = form (bts S) (n + 1) p 64 := ⟨_, rfl⟩
  rw [← hx]
  have hx2 : x = .err p 4 := by rw [hx, form_need, hc, PR.bind_ok, if_pos rfl]
  clear hx
  have hneed := fun W h => need_any S { data := #[40, 97, 98, 99, 100, 101, 102, 103, 104, 105, 106, 107, 108, 109, 110, 111, 112, 113, 114, 115, 116, 117, 118, 119, 120, 121, 122] } g p lv (.int .i64 (64 : Nat)) 2 W h hp hS
  have e0 : bts { data := #[40, 97, 98, 99, 100, 101, 102, 103, 104, 105, 106, 107, 108, 109, 110, 111, 112, 113, 114, 115, 116, 117, 118, 119, 120, 121, 122] } = 40 :: bts smallB := rfl
  rw [e0, hc] at hneed
  clear e0 hc
  have hBw : B ≤ w.heap.size := by have := hr.lt; omega
  have HN := Lib.hid hneed; have HX := Lib.hid hx2; have HR := Lib.hid hr
  clear hneed hx2 hr
  go_enter Tryd.func57, Tryd.ntmps57
  go_wp2_with (go_at_call 103; refine (HN.out _ HR.out).mono ?_; rintro e w1 ⟨hb1, rfl⟩; have HR1 := Lib.hid (HR.out.below hb1 HR.out.lt); have rc := HR1.out.cell; have rf := HR1.out.free; have rl := HR1.out.lt)
  exact ⟨rfl, FormPost.err HX.out (hb1.mono hBw)⟩

set_option maxRecDepth 100000 in
set_option maxHeartbeats 1000000 in
theorem formula_e3 (S : ByteArray) (B g n p many q : Nat) (k : Int) (l : List Mk) (lv : Value) (c : UInt8) (w : World) (hr : Row w g 89 #[.string S, .int .i64 p, lv, .int .i64 many]) (hB : B ≤ g)
    (hp : p ≤ S.size) (hS : S.size ≤ 1000000) (hm : many < 64) (hc : needP (bts S) (40 :: bts smallB) 2 p = .ok p c) (h40 : c = 40) (hname : nameP (bts S) true (p + 1) = .err q k) :
    Calls Tryd.prog 57 #[.pointer (some ⟨g, 0, none⟩)] w (FormPost S B g lv l (form (bts S) (n + 1) p many) w) := by
  obtain ⟨x, hx⟩ : ∃ x, x = form (bts S) (n + 1) p many := ⟨_, rfl⟩
  rw [← hx]
  have hx2 : x = .err q k := by
    rw [hx, form_need, hc, PR.bind_ok, if_neg (by omega)]
    subst h40
    simp only [decide_true, if_true]
    rw [hname, PR.bind_err]
  clear hx
  have hneed := fun W h => need_any S { data := #[40, 97, 98, 99, 100, 101, 102, 103, 104, 105, 106, 107, 108, 109, 110, 111, 112, 113, 114, 115, 116, 117, 118, 119, 120, 121, 122] } g p lv (.int .i64 many) 2 W h hp hS
  have e0 : bts { data := #[40, 97, 98, 99, 100, 101, 102, 103, 104, 105, 106, 107, 108, 109, 110, 111, 112, 113, 114, 115, 116, 117, 118, 119, 120, 121, 122] } = 40 :: bts smallB := rfl
  rw [e0, hc] at hneed
  clear e0
  have hnm := fun W h => name_any S true g (p + 1) lv (.int .i64 ((many + 1 : Nat) : Int)) W h (by
    have := (needP_pos hc).2.1
    have := (List.getElem?_eq_some_iff.1 this).1
    rw [bts_len] at this
    omega) hS
  rw [hname] at hnm
  have hin : ((c.toNat : Int) == 40) = true := by subst h40; rfl
  have hm64 : ((many : Int) == 64) = false := by simp; omega
  have hBw : B ≤ w.heap.size := by have := hr.lt; omega
  have HN := Lib.hid hneed; have HM := Lib.hid hnm; have HX := Lib.hid hx2; have HR := Lib.hid hr
  clear hneed hnm hx2 hr hc hname h40
  go_enter Tryd.func57, Tryd.ntmps57
  go_wp2_with (first
    | (go_at_call 103; refine (HN.out _ HR.out).mono ?_; rintro e w1 ⟨hb1, rfl⟩; have HB1 := Lib.hid hb1; clear hb1; have HR1 := Lib.hid (HR.out.below HB1.out HR.out.lt); have rc := HR1.out.cell; have rf := HR1.out.free; have rl := HR1.out.lt)
    | (go_at_call 104; refine (HM.out _ ((HR1.out.set 3 (.int .i64 ((many : Int) + 1))).set 1 (.int .i64 ((p : Int) + 1)))).mono ?_; rintro e w2 ⟨hk2, rfl⟩; have HK2 : Hid (Keep (· = g) w w2) := (Keep.set (S := (· = g)) (Keep.set (S := (· = g)) (Keep.of_below HB1.out (Nat.le_refl _)) (p := ⟨g, 3, none⟩) (.inl rfl) _) (p := ⟨g, 1, none⟩) (.inl rfl) _).trans hk2))
  exact ⟨rfl, FormPost.err HX.out (HK2.out.below_le hBw fun k hk => by subst hk; exact hB)⟩

set_option maxRecDepth 100000 in
set_option maxHeartbeats 1000000 in
theorem formula_e4 (S : ByteArray) (B g n p many q : Nat) (k : Int) (l : List Mk) (lv : Value) (c : UInt8) (w : World) (hr : Row w g 89 #[.string S, .int .i64 p, lv, .int .i64 many]) (hB : B ≤ g)
    (hp : p ≤ S.size) (hS : S.size ≤ 1000000) (hm : many < 64) (hc : needP (bts S) (40 :: bts smallB) 2 p = .ok p c) (h40 : c ≠ 40) (hname : nameP (bts S) false p = .err q k) :
    Calls Tryd.prog 57 #[.pointer (some ⟨g, 0, none⟩)] w (FormPost S B g lv l (form (bts S) (n + 1) p many) w) := by
  obtain ⟨x, hx⟩ : ∃ x, x = form (bts S) (n + 1) p many := ⟨_, rfl⟩
  rw [← hx]
  have hx2 : x = .err q k := by
    rw [hx, form_need, hc, PR.bind_ok, if_neg (by omega)]
    simp only [h40, decide_false, if_false]
    rw [hname, PR.bind_err]
  clear hx
  have hneed := fun W h => need_any S { data := #[40, 97, 98, 99, 100, 101, 102, 103, 104, 105, 106, 107, 108, 109, 110, 111, 112, 113, 114, 115, 116, 117, 118, 119, 120, 121, 122] } g p lv (.int .i64 many) 2 W h hp hS
  have e0 : bts { data := #[40, 97, 98, 99, 100, 101, 102, 103, 104, 105, 106, 107, 108, 109, 110, 111, 112, 113, 114, 115, 116, 117, 118, 119, 120, 121, 122] } = 40 :: bts smallB := rfl
  rw [e0, hc] at hneed
  clear e0
  have hnm := fun W h => name_any S false g p lv (.int .i64 ((many + 1 : Nat) : Int)) W h hp hS
  rw [hname] at hnm
  have hin : ((c.toNat : Int) == 40) = false := by
    rw [beq_eq_false_iff_ne]
    intro h
    apply h40
    have : c.toNat = 40 := by omega
    exact UInt8.toNat_inj.1 this
  have hm64 : ((many : Int) == 64) = false := by simp; omega
  have hBw : B ≤ w.heap.size := by have := hr.lt; omega
  have HN := Lib.hid hneed; have HM := Lib.hid hnm; have HX := Lib.hid hx2; have HR := Lib.hid hr
  clear hneed hnm hx2 hr hc hname h40
  go_enter Tryd.func57, Tryd.ntmps57
  go_wp2_with (first
    | (go_at_call 103; refine (HN.out _ HR.out).mono ?_; rintro e w1 ⟨hb1, rfl⟩; have HB1 := Lib.hid hb1; clear hb1; have HR1 := Lib.hid (HR.out.below HB1.out HR.out.lt); have rc := HR1.out.cell; have rf := HR1.out.free; have rl := HR1.out.lt)
    | (go_at_call 104; refine (HM.out _ (HR1.out.set 3 (.int .i64 ((many : Int) + 1)))).mono ?_; rintro e w2 ⟨hk2, rfl⟩; have HK2 : Hid (Keep (· = g) w w2) := (Keep.set (S := (· = g)) (Keep.of_below HB1.out (Nat.le_refl _)) (p := ⟨g, 3, none⟩) (.inl rfl) _).trans hk2))
  exact ⟨rfl, FormPost.err HX.out (HK2.out.below_le hBw fun k hk => by subst hk; exact hB)⟩

theorem nvnc {op : Int} (h : nm op ≠ []) (h1 : op ≠ 1) : (nv op = 1 ∧ nc op = 0) ∨ (nv op = 2 ∧ nc op = 0) ∨ (nv op = 0 ∧ nc op = 1) ∨ (nv op = 1 ∧ nc op = 1) ∨ (nv op = 0 ∧ nc op = 2) := by
  have hr := nm_range h
  have hc : op = 2 ∨ op = 3 ∨ op = 4 ∨ op = 5 ∨ op = 6 ∨ op = 7 ∨ op = 8 ∨ op = 9 ∨ op = 10 ∨ op = 11 ∨ op = 12 ∨ op = 13 ∨ op = 14 ∨ op = 15 := by omega
  rcases hc with rfl | rfl | rfl | rfl | rfl | rfl | rfl | rfl | rfl | rfl | rfl | rfl | rfl | rfl <;> decide

theorem formula_any (S : ByteArray) (B g : Nat) (hB : B ≤ g) (hS : S.size ≤ 1000000) : ∀ n, FormHyp S B g n := by
  intro n
  induction n with
  | zero => intro p many l lv W _ _ _ h1 h2 _; omega
  | succ n ih =>
    intro p many l lv W hr ho hp hm hn hl
    cases hc : needP (bts S) (40 :: bts smallB) 2 p with
    | err q k => exact formula_e1 S B g n p many q k l lv W hr hB hp hS hc
    | ok q c =>
      have hq := (needP_pos hc).1
      subst hq
      by_cases h64 : many = 64
      · subst h64; exact formula_e2 S B g n q l lv c W hr hB hp hS hc
      by_cases h40 : c = 40
      · cases hname : nameP (bts S) true (q + 1) with
        | err q2 k => exact formula_e3 S B g n q many q2 k l lv c W hr hB hp hS (by omega) hc h40 hname
        | ok p1 op =>
          have hg := nameP_good (s := bts S) (p := q + 1) true (by
            have := (List.getElem?_eq_some_iff.1 (needP_pos hc).2.1).1
            omega)
          rw [hname] at hg
          obtain ⟨_, g1, g2, g3, _⟩ := hg
          rw [bts_len] at g1
          have hr1 := nm_range g2
          rcases nvnc g2 (by simpa using g3) with ⟨h1, h2⟩ | ⟨h1, h2⟩ | ⟨h1, h2⟩ | ⟨h1, h2⟩ | ⟨h1, h2⟩
          · exact formula_10 S B g n q many p1 l lv op c W ih hr ho hB hp hS (by omega) (by omega) hl hc h40 hname g1 (by omega) (by omega) h1 h2
          · exact formula_20 S B g n q many p1 l lv op c W ih hr ho hB hp hS (by omega) (by omega) hl hc h40 hname g1 (by omega) (by omega) h1 h2
          · exact formula_01 S B g n q many p1 l lv op c W ih hr ho hB hp hS (by omega) (by omega) hl hc h40 hname g1 (by omega) (by omega) h1 h2
          · exact formula_11 S B g n q many p1 l lv op c W ih hr ho hB hp hS (by omega) (by omega) hl hc h40 hname g1 (by omega) (by omega) h1 h2
          · exact formula_02 S B g n q many p1 l lv op c W ih hr ho hB hp hS (by omega) (by omega) hl hc h40 hname g1 (by omega) (by omega) h1 h2
      · cases hname : nameP (bts S) false q with
        | err q2 k => exact formula_e4 S B g n q many q2 k l lv c W hr hB hp hS (by omega) hc h40 hname
        | ok p1 op =>
          have hg := nameP_good (s := bts S) (p := q) false (by rw [bts_len]; exact hp)
          rw [hname] at hg
          obtain ⟨_, g1, g2, g3, _⟩ := hg
          rw [bts_len] at g1
          have hop : op = 1 := by simpa using g3
          subst hop
          exact formula_00 S B g n q many p1 l lv 1 c W ih hr ho hB hp hS (by omega) (by omega) hl hc h40 hname g1 (by omega) (by omega) rfl rfl
end Go.Proofs.YtdlibehffgfhlaaDoor

/- Contract of the reference of chapter 16: atom. -/
/- Contract of the reference of chapter 16: holds. -/
/- Contracts of the reference of chapter 16: Cost, Word. -/
/- Contract of the reference of chapter 16: Tree. (Printed by gen_rfg.py.) -/
import Derived.Test.YtgeklibilgfjbaaDoorRfP
import Derived.Test.YtgeklibilgfjbaaDoorModP
import Derived.Deep.QuietTactic
import Derived.BigQuiet
import Derived.Test.YtgeklibilgfjbaaDoorRfB
import Derived.Test.YtgeklibilgfjbaaDoorMdlC
import Derived.Test.YtgeklibilgfjbaaDoorParse
import Derived.Test.YtgeklibilgfjbaaDoorRefB
import Derived.Test.YtgeklibilgfjbaaDoorRefL
import Derived.Test.YtgeklibilgfjbaaDoorMdlE
import Derived.Test.YtgeklibilgfjbaaDoorTrB
import Derived.Test.YtgeklibilgfjbaaDoorChk
import Derived.Test.YtgeklibilgfjbaaDoorMBoP
import Derived.Test.YtgeklibilgfjbaaDoorMdlF
set_option linter.unusedSimpArgs false
set_option linter.unusedVariables false
namespace Go.Proofs.YtgeklibilgfjbaaDoor
open Go.RowKit

/-- A list of numbers that tells for each element the one to which it is related. -/
def ToOne (w : World) (v : Value) (n : Nat) (r : Nat → Nat → Bool) : Prop := ∃ L : List Int, L.length = n ∧ VS w v (L.map (Value.int .i64)) ∧ ∀ p q x, L[p]? = some x → q < n → (x == (q : Int)) = r p q
/-- Rows of truth values that tell which elements are related. -/
def ToRows (w : World) (v : Value) (n : Nat) (r : Nat → Nat → Bool) : Prop := ∃ rows ls, VS w v rows ∧ RowsB w rows ls ∧ ls.length = n ∧ ∀ p q, p < n → q < n → ∃ row, ls[p]? = some row ∧ row[q]? = some (r p q)
theorem ToOne.below {w w' : World} {v : Value} {n : Nat} {r : Nat → Nat → Bool} {B : Nat} (h : ToOne w v n r) (hb : Below B w w') (hB : w.heap.size ≤ B) : ToOne w' v n r := by
  obtain ⟨L, h1, h2, h3⟩ := h
  exact ⟨L, h1, h2.below hb hB, h3⟩
theorem ToRows.below {w w' : World} {v : Value} {n : Nat} {r : Nat → Nat → Bool} {B : Nat} (h : ToRows w v n r) (hb : Below B w w') (hB : w.heap.size ≤ B) : ToRows w' v n r := by
  obtain ⟨rows, ls, h1, h2, h3, h4⟩ := h
  exact ⟨rows, ls, h1.below hb hB, h2.below hb hB, h3, h4⟩
/-- The four slices of a structure of the reference, as far as the operators ok ask for them. -/
structure StrOk (w : World) (S : Stc) (ok : Int → Bool) (vN vL vR vS : Value) : Prop where
  next : ok 5 = true → ToOne w vN S.n (S.rel 5)
  left : ok 7 = true → ToOne w vL S.n (S.rel 7)
  right : ok 8 = true → ToOne w vR S.n (S.rel 8)
  less : ok 6 = true → ToRows w vS S.n (S.rel 6)
theorem StrOk.below {w w' : World} {S : Stc} {ok : Int → Bool} {vN vL vR vS : Value} {B : Nat} (h : StrOk w S ok vN vL vR vS) (hb : Below B w w') (hB : w.heap.size ≤ B) : StrOk w' S ok vN vL vR vS :=
  ⟨fun h5 => (h.next h5).below hb hB, fun h5 => (h.left h5).below hb hB, fun h5 => (h.right h5).below hb hB, fun h5 => (h.less h5).below hb hB⟩
theorem ToOne.at {w : World} {A : Option Addr} {m c n : Nat} {r : Nat → Nat → Bool} (h : ToOne w (.slice A m c) n r) {p : Nat} (hp : p < n) : m = n ∧ ∃ b o x, A = some ⟨b, o, none⟩ ∧ w.cell? ⟨b, o + p, none⟩ = some (.int .i64 x) ∧ ∀ q, q < n → (x == (q : Int)) = r p q := by
  obtain ⟨L, h1, h2, h3⟩ := h
  have hl := h2.len
  rw [List.length_map, h1] at hl
  obtain ⟨b, o, rfl, hb⟩ := h2.addr (by simpa [h1] using (by omega : 0 < n))
  obtain ⟨x, hx⟩ : ∃ x, L[p]? = some x := ⟨L[p], List.getElem?_eq_getElem (by omega)⟩
  exact ⟨hl.1, b, o, x, rfl, h2.at (by simp [hx]), fun q hq => h3 p q x hx hq⟩
theorem ToRows.at {w : World} {A : Option Addr} {m c n : Nat} {r : Nat → Nat → Bool} (h : ToRows w (.slice A m c) n r) {p q : Nat} (hp : p < n) (hq : q < n) : m = n ∧ ∃ b o b2 o2 m2 c2, A = some ⟨b, o, none⟩ ∧ w.cell? ⟨b, o + p, none⟩ = some (.slice (some ⟨b2, o2, none⟩) m2 c2) ∧ q < m2 ∧ m2 ≤ 9223372036854775807 ∧ w.cell? ⟨b2, o2 + q, none⟩ = some (.bool (r p q)) := by
  obtain ⟨rows, ls, h1, h2, h3, h4⟩ := h
  have hl := h1.len
  rw [h2.1, h3] at hl
  obtain ⟨b, o, rfl, hb⟩ := h1.addr (by rw [h2.1, h3]; omega)
  obtain ⟨row, hr1, hr2⟩ := h4 p q hp hq
  obtain ⟨rv, hrv⟩ : ∃ x, rows[p]? = some x := ⟨rows[p]'(by rw [h2.1, h3]; exact hp), List.getElem?_eq_getElem _⟩
  have hrow := h2.2 p rv row hrv hr1
  have hql : q < row.length := (List.getElem?_eq_some_iff.1 hr2).1
  obtain ⟨A2, c2, rfl⟩ := VS.form hrow
  obtain ⟨b2, o2, rfl, hb2⟩ := VS.addr hrow (by rw [List.length_map]; omega)
  have hl2 := VS.len hrow
  exact ⟨hl.1, b, o, b2, o2, _, c2, rfl, h1.at hrv, by rw [List.length_map]; exact hql, by omega, VS.at hrow (by simp [hr2])⟩

/-- The operators of a formula's atoms are among those. -/
def Uses (ok : Int → Bool) : Tr → Prop
  | .leaf op _ _ => op ≤ 4 ∨ ok op = true
  | .un _ _ a => Uses ok a
  | .bin _ a b => Uses ok a ∧ Uses ok b

theorem row_at {w : World} {rows : List Value} {a : List Nat} {n x : Nat} (h : RowsB w rows (a.map (bitsL n))) (hx : x < a.length) : ∃ A c, rows[x]? = some (.slice A n c) ∧ BLs w (.slice A n c) (bitsL n (a.getD x 0)) := by
  obtain ⟨r, hr⟩ : ∃ r, rows[x]? = some r := ⟨rows[x]'(by rw [h.1, List.length_map]; exact hx), List.getElem?_eq_getElem _⟩
  have hl := h.2 x r (bitsL n (a.getD x 0)) hr (by rw [List.getElem?_map, List.getD_eq_getElem?_getD, List.getElem?_eq_getElem hx]; rfl)
  obtain ⟨A, c, rfl⟩ := VS.form hl
  rw [List.length_map, bitsL_len] at hl
  rw [List.length_map, bitsL_len] at hr
  exact ⟨A, c, hr, hl⟩
theorem ret_bo {R b : Bool} (h : R = b) : Ending.returned (.bool b) = .returned (.bool R) := by rw [h]
theorem below_dn {B : Nat} {w w' : World} (h : Below B w w') (n : Nat) : Below B w (w'.drewN n) := ⟨h.os, h.tape, h.output, h.size, h.block⟩
theorem log_lt2 {x n : Nat} (h : isOne x = true) (hx : x < 2 ^ n) : Nat.log2 x < n := by
  have e : x = 2 ^ Nat.log2 x := by simpa [isOne] using h
  rw [e] at hx
  exact (Nat.pow_lt_pow_iff_right (by omega)).1 hx
theorem all_false {n : Nat} {g : Nat → Bool} {k : Nat} (hk : k < n) (h : g k = false) : (List.range n).all g = false := by
  rw [List.all_eq_false]; exact ⟨k, List.mem_range.2 hk, by simp [h]⟩
theorem all_true {n : Nat} {g : Nat → Bool} (h : ∀ j, j < n → g j = true) : (List.range n).all g = true := List.all_eq_true.2 fun j hj => h j (List.mem_range.1 hj)
theorem lb_cell {w : World} {A : Option Addr} {n c s k : Nat} (h : BLs w (.slice A n c) (bitsL n s)) (hk : k < n) : ∃ b o, A = some ⟨b, o, none⟩ ∧ w.cell? ⟨b, o + k, none⟩ = some (.bool (s.testBit k)) := by
  obtain ⟨b, o, rfl, _⟩ := VS.addr h (by rw [List.length_map, bitsL_len]; omega)
  exact ⟨b, o, rfl, VS.at h (by rw [List.getElem?_map, bitsL_get n s k hk]; rfl)⟩

set_option maxRecDepth 100000 in
set_option maxHeartbeats 2000000 in
theorem ratom_1 (S : Stc) (n : Nat) (hn64 : n ≤ 64) (ok : Int → Bool) (X Y P Q : Nat) (hX : X < 6) (hY : Y < 6) (hP : P < 2 ^ n) (hQ : Q < 2 ^ n) (hSn : S.n = n)
    (A1 A2 A3 A4 AX AY : Option Addr) (n1 c1 n2 c2 n3 c3 n4 c4 b o c cX cY : Nat) (hc6 : 6 ≤ c) (hc63 : c ≤ 9223372036854775807) (w : World) (hs : StrOk w S ok (.slice A1 n1 c1) (.slice A2 n2 c2) (.slice A3 n3 c3) (.slice A4 n4 c4))
    (hb0 : b < w.heap.size) (hx : w.cell? ⟨b, o + X, none⟩ = some (.slice AX n cX)) (hy : w.cell? ⟨b, o + Y, none⟩ = some (.slice AY n cY)) (lx : BLs w (.slice AX n cX) (bitsL n P)) (ly : BLs w (.slice AY n cY) (bitsL n Q)) :
    Calls Tryd.prog 192 #[.agg #[.int .i64 n, .slice A1 n1 c1, .slice A2 n2 c2, .slice A3 n3 c3, .slice A4 n4 c4], .agg #[.int .u8 1, .int .i64 X, .int .i64 Y, .int .i64 0, .int .i64 0], .slice (some ⟨b, o, none⟩) 6 c] w
      fun e w' => e = .returned (.bool (true)) ∧ Below w.heap.size w w' := by
  have HS := Lib.hid hs; have LX := Lib.hid lx; have LY := Lib.hid ly; have HP := Lib.hid hP; have HQ := Lib.hid hQ; have HSN := Lib.hid hSn
  have lxc := lx.len; have lyc := ly.len
  have hcX : n ≤ cX ∧ cX ≤ 9223372036854775807 := lxc.2
  have hcY : n ≤ cY ∧ cY ≤ 9223372036854775807 := lyc.2
  have hxI : (0 : Int) ≤ X := by omega
  have hxJ : (X : Int) < 6 := by omega
  have hyI : (0 : Int) ≤ Y := by omega
  have hyJ : (Y : Int) < 6 := by omega
  clear hs lx ly hP hQ hSn lxc lyc
  obtain ⟨R, hR⟩ : ∃ R : Bool, R = (true) := ⟨_, rfl⟩
  rw [← hR]
  have HR := Lib.hid hR; clear hR
  go_enter Tryd.func192, Tryd.ntmps192
  go_upto_region 1 with (fail)
  refine wp_abs (fun W => Row W w.heap.size 179 #[Value.int .i64 n, .slice A1 n1 c1, .slice A2 n2 c2, .slice A3 n3 c3, .slice A4 n4 c4] ∧ Row W (w.heap.size + 1) 23 #[Value.int .u8 1, .int .i64 X, .int .i64 Y, .int .i64 0, .int .i64 0] ∧ Below w.heap.size w W) ⟨(Row.new w _ _).alloc _, Row.lit (by simp only [World.size_alloc]), by go_grown⟩ ?_
  rintro W0 ⟨rs, rx, hb⟩
  have RS := Lib.hid rs; have RX := Lib.hid rx; have HB := Lib.hid hb
  have z1 := (hb.cell (p := ⟨b, o + X, none⟩) hb0).trans hx
  have z2 := (hb.cell (p := ⟨b, o + Y, none⟩) hb0).trans hy
  have x1 := rx.cell 1; have x2 := rx.cell 2
  simp only [List.getElem?_toArray, List.getElem?_cons_zero, List.getElem?_cons_succ] at x1 x2
  have hlt := rx.lt
  clear hb hx hy rs rx
  first | go_quiet (fail) | fail
  clear x1 x2 z1 z2 hlt
  go_upto_region 2 with (fail)
  refine wp_abs (fun W => Row W w.heap.size 179 #[Value.int .i64 n, .slice A1 n1 c1, .slice A2 n2 c2, .slice A3 n3 c3, .slice A4 n4 c4] ∧ Row W (w.heap.size + 1) 23 #[Value.int .u8 1, .int .i64 X, .int .i64 Y, .int .i64 0, .int .i64 0] ∧ Below w.heap.size w W) ⟨RS.out, RX.out, below_dn HB.out _⟩ ?_
  clear RS RX HB
  rintro W1 ⟨rs, rx, hb⟩
  have HB := Lib.hid hb
  have s0 := rs.cell 0; have s1 := rs.cell 1; have s2 := rs.cell 2; have s3 := rs.cell 3; have s4 := rs.cell 4; have x0 := rx.cell 0
  simp only [List.getElem?_toArray, List.getElem?_cons_zero, List.getElem?_cons_succ] at s0 s1 s2 s3 s4 x0
  have hlt := rx.lt; have hls := rs.lt
  have LX1 := Lib.hid (LX.out.below hb (Nat.le_refl _)); have LY1 := Lib.hid (LY.out.below hb (Nat.le_refl _)); have HS1 := Lib.hid (HS.out.below hb (Nat.le_refl _))
  have HSX := Lib.hid (single_any _ _ _ LX1.out); have HSY := Lib.hid (single_any _ _ _ LY1.out)
  rw [single_bits n P HP.out] at HSX
  rw [single_bits n Q HQ.out] at HSY
  clear rs rx hb LX LY HS
  go_wp2
  go_returns
  exact ⟨ret_bo HR.out, HB.out⟩

set_option maxRecDepth 100000 in
set_option maxHeartbeats 2000000 in
theorem ratom_2 (S : Stc) (n : Nat) (hn64 : n ≤ 64) (ok : Int → Bool) (X Y P Q : Nat) (hX : X < 6) (hY : Y < 6) (hP : P < 2 ^ n) (hQ : Q < 2 ^ n) (hSn : S.n = n)
    (A1 A2 A3 A4 AX AY : Option Addr) (n1 c1 n2 c2 n3 c3 n4 c4 b o c cX cY : Nat) (hc6 : 6 ≤ c) (hc63 : c ≤ 9223372036854775807) (w : World) (hs : StrOk w S ok (.slice A1 n1 c1) (.slice A2 n2 c2) (.slice A3 n3 c3) (.slice A4 n4 c4))
    (hb0 : b < w.heap.size) (hx : w.cell? ⟨b, o + X, none⟩ = some (.slice AX n cX)) (hy : w.cell? ⟨b, o + Y, none⟩ = some (.slice AY n cY)) (lx : BLs w (.slice AX n cX) (bitsL n P)) (ly : BLs w (.slice AY n cY) (bitsL n Q)) :
    Calls Tryd.prog 192 #[.agg #[.int .i64 n, .slice A1 n1 c1, .slice A2 n2 c2, .slice A3 n3 c3, .slice A4 n4 c4], .agg #[.int .u8 2, .int .i64 X, .int .i64 Y, .int .i64 0, .int .i64 0], .slice (some ⟨b, o, none⟩) 6 c] w
      fun e w' => e = .returned (.bool (decide (P &&& Q = P))) ∧ Below w.heap.size w w' := by
  have HS := Lib.hid hs; have LX := Lib.hid lx; have LY := Lib.hid ly; have HP := Lib.hid hP; have HQ := Lib.hid hQ; have HSN := Lib.hid hSn
  have lxc := lx.len; have lyc := ly.len
  have hcX : n ≤ cX ∧ cX ≤ 9223372036854775807 := lxc.2
  have hcY : n ≤ cY ∧ cY ≤ 9223372036854775807 := lyc.2
  have hxI : (0 : Int) ≤ X := by omega
  have hxJ : (X : Int) < 6 := by omega
  have hyI : (0 : Int) ≤ Y := by omega
  have hyJ : (Y : Int) < 6 := by omega
  clear hs lx ly hP hQ hSn lxc lyc
  obtain ⟨R, hR⟩ : ∃ R : Bool, R = (decide (P &&& Q = P)) := ⟨_, rfl⟩
  rw [← hR]
  have HR := Lib.hid hR; clear hR
  go_enter Tryd.func192, Tryd.ntmps192
  go_upto_region 1 with (fail)
  refine wp_abs (fun W => Row W w.heap.size 179 #[Value.int .i64 n, .slice A1 n1 c1, .slice A2 n2 c2, .slice A3 n3 c3, .slice A4 n4 c4] ∧ Row W (w.heap.size + 1) 23 #[Value.int .u8 2, .int .i64 X, .int .i64 Y, .int .i64 0, .int .i64 0] ∧ Below w.heap.size w W) ⟨(Row.new w _ _).alloc _, Row.lit (by simp only [World.size_alloc]), by go_grown⟩ ?_
  rintro W0 ⟨rs, rx, hb⟩
  have RS := Lib.hid rs; have RX := Lib.hid rx; have HB := Lib.hid hb
  have z1 := (hb.cell (p := ⟨b, o + X, none⟩) hb0).trans hx
  have z2 := (hb.cell (p := ⟨b, o + Y, none⟩) hb0).trans hy
  have x1 := rx.cell 1; have x2 := rx.cell 2
  simp only [List.getElem?_toArray, List.getElem?_cons_zero, List.getElem?_cons_succ] at x1 x2
  have hlt := rx.lt
  clear hb hx hy rs rx
  first | go_quiet (fail) | fail
  clear x1 x2 z1 z2 hlt
  go_upto_region 2 with (fail)
  refine wp_abs (fun W => Row W w.heap.size 179 #[Value.int .i64 n, .slice A1 n1 c1, .slice A2 n2 c2, .slice A3 n3 c3, .slice A4 n4 c4] ∧ Row W (w.heap.size + 1) 23 #[Value.int .u8 2, .int .i64 X, .int .i64 Y, .int .i64 0, .int .i64 0] ∧ Below w.heap.size w W) ⟨RS.out, RX.out, below_dn HB.out _⟩ ?_
  clear RS RX HB
  rintro W1 ⟨rs, rx, hb⟩
  have HB := Lib.hid hb
  have s0 := rs.cell 0; have s1 := rs.cell 1; have s2 := rs.cell 2; have s3 := rs.cell 3; have s4 := rs.cell 4; have x0 := rx.cell 0
  simp only [List.getElem?_toArray, List.getElem?_cons_zero, List.getElem?_cons_succ] at s0 s1 s2 s3 s4 x0
  have hlt := rx.lt; have hls := rs.lt
  have LX1 := Lib.hid (LX.out.below hb (Nat.le_refl _)); have LY1 := Lib.hid (LY.out.below hb (Nat.le_refl _)); have HS1 := Lib.hid (HS.out.below hb (Nat.le_refl _))
  have HSX := Lib.hid (single_any _ _ _ LX1.out); have HSY := Lib.hid (single_any _ _ _ LY1.out)
  rw [single_bits n P HP.out] at HSX
  rw [single_bits n Q HQ.out] at HSY
  clear rs rx hb LX LY HS
  go_wp2
  go_loopg [9] n (fun gk q wr => ∃ k : Nat, k ≤ n ∧ gk = n - k ∧ q = .int .i64 k ∧ W1 = wr ∧ ∀ j, j < k → (!(P.testBit j) || Q.testBit j) = true)
  case atStart => exact ⟨0, Nat.zero_le _, rfl, rfl, rfl, fun j hj => by omega⟩
  case round =>
    obtain ⟨k, hk, rfl, rfl, rfl, hall⟩ := hrel
    have HA := Lib.hid hall; clear hall
    by_cases hlt2 : k < n
    · obtain ⟨g1, o1, rfl, d1⟩ := lb_cell LX1.out hlt2
      obtain ⟨g2, o2, rfl, d2⟩ := lb_cell LY1.out hlt2
      obtain ⟨p, hp⟩ : ∃ p, p = P.testBit k := ⟨_, rfl⟩
      obtain ⟨q, hq⟩ : ∃ q, q = Q.testBit k := ⟨_, rfl⟩
      rw [← hp] at d1; rw [← hq] at d2
      have HPQ : Hid ((!(P.testBit k) || Q.testBit k) = (!p || q)) := by rw [Hid, hp, hq]
      clear hp hq
      have hstep : Hid ((!p || q) = true → ∀ j, j < k + 1 → (!(P.testBit j) || Q.testBit j) = true) := fun h j hj => by
        by_cases e : j < k
        · exact HA.out j e
        · have : j = k := by omega
          subst this; rw [HPQ.out]; exact h
      cases p <;> cases q
      rotate_left 2
      · have hr : R = false := by rw [HR.out, sub_bits n P Q HP.out]; exact all_false hlt2 (by rw [HPQ.out]; rfl)
        have HRR := Lib.hid hr; clear hr
        go_wp2
        go_returns
        exact ⟨ret_bo HRR.out, HB.out⟩
      all_goals
        have HST := Lib.hid (hstep.out rfl)
        go_wp2
        go_roundg (n - (k + 1))
        case rel => exact ⟨k + 1, by omega, rfl, by go_num, rfl, HST.out⟩
        case measure => omega
    · have hkn : k = n := by omega
      have hr : R = true := by rw [HR.out, sub_bits n P Q HP.out]; exact all_true fun j hj => HA.out j (by omega)
      have HRR := Lib.hid hr; clear hr hkn
      go_wp2
      go_returns
      exact ⟨ret_bo HRR.out, HB.out⟩

set_option maxRecDepth 100000 in
set_option maxHeartbeats 2000000 in
theorem ratom_3 (S : Stc) (n : Nat) (hn64 : n ≤ 64) (ok : Int → Bool) (X Y P Q : Nat) (hX : X < 6) (hY : Y < 6) (hP : P < 2 ^ n) (hQ : Q < 2 ^ n) (hSn : S.n = n)
    (A1 A2 A3 A4 AX AY : Option Addr) (n1 c1 n2 c2 n3 c3 n4 c4 b o c cX cY : Nat) (hc6 : 6 ≤ c) (hc63 : c ≤ 9223372036854775807) (w : World) (hs : StrOk w S ok (.slice A1 n1 c1) (.slice A2 n2 c2) (.slice A3 n3 c3) (.slice A4 n4 c4))
    (hb0 : b < w.heap.size) (hx : w.cell? ⟨b, o + X, none⟩ = some (.slice AX n cX)) (hy : w.cell? ⟨b, o + Y, none⟩ = some (.slice AY n cY)) (lx : BLs w (.slice AX n cX) (bitsL n P)) (ly : BLs w (.slice AY n cY) (bitsL n Q)) :
    Calls Tryd.prog 192 #[.agg #[.int .i64 n, .slice A1 n1 c1, .slice A2 n2 c2, .slice A3 n3 c3, .slice A4 n4 c4], .agg #[.int .u8 3, .int .i64 X, .int .i64 Y, .int .i64 0, .int .i64 0], .slice (some ⟨b, o, none⟩) 6 c] w
      fun e w' => e = .returned (.bool (decide (P = 0))) ∧ Below w.heap.size w w' := by
  have HS := Lib.hid hs; have LX := Lib.hid lx; have LY := Lib.hid ly; have HP := Lib.hid hP; have HQ := Lib.hid hQ; have HSN := Lib.hid hSn
  have lxc := lx.len; have lyc := ly.len
  have hcX : n ≤ cX ∧ cX ≤ 9223372036854775807 := lxc.2
  have hcY : n ≤ cY ∧ cY ≤ 9223372036854775807 := lyc.2
  have hxI : (0 : Int) ≤ X := by omega
  have hxJ : (X : Int) < 6 := by omega
  have hyI : (0 : Int) ≤ Y := by omega
  have hyJ : (Y : Int) < 6 := by omega
  clear hs lx ly hP hQ hSn lxc lyc
  obtain ⟨R, hR⟩ : ∃ R : Bool, R = (decide (P = 0)) := ⟨_, rfl⟩
  rw [← hR]
  have HR := Lib.hid hR; clear hR
  go_enter Tryd.func192, Tryd.ntmps192
  go_upto_region 1 with (fail)
  refine wp_abs (fun W => Row W w.heap.size 179 #[Value.int .i64 n, .slice A1 n1 c1, .slice A2 n2 c2, .slice A3 n3 c3, .slice A4 n4 c4] ∧ Row W (w.heap.size + 1) 23 #[Value.int .u8 3, .int .i64 X, .int .i64 Y, .int .i64 0, .int .i64 0] ∧ Below w.heap.size w W) ⟨(Row.new w _ _).alloc _, Row.lit (by simp only [World.size_alloc]), by go_grown⟩ ?_
  rintro W0 ⟨rs, rx, hb⟩
  have RS := Lib.hid rs; have RX := Lib.hid rx; have HB := Lib.hid hb
  have z1 := (hb.cell (p := ⟨b, o + X, none⟩) hb0).trans hx
  have z2 := (hb.cell (p := ⟨b, o + Y, none⟩) hb0).trans hy
  have x1 := rx.cell 1; have x2 := rx.cell 2
  simp only [List.getElem?_toArray, List.getElem?_cons_zero, List.getElem?_cons_succ] at x1 x2
  have hlt := rx.lt
  clear hb hx hy rs rx
  first | go_quiet (fail) | fail
  clear x1 x2 z1 z2 hlt
  go_upto_region 2 with (fail)
  refine wp_abs (fun W => Row W w.heap.size 179 #[Value.int .i64 n, .slice A1 n1 c1, .slice A2 n2 c2, .slice A3 n3 c3, .slice A4 n4 c4] ∧ Row W (w.heap.size + 1) 23 #[Value.int .u8 3, .int .i64 X, .int .i64 Y, .int .i64 0, .int .i64 0] ∧ Below w.heap.size w W) ⟨RS.out, RX.out, below_dn HB.out _⟩ ?_
  clear RS RX HB
  rintro W1 ⟨rs, rx, hb⟩
  have HB := Lib.hid hb
  have s0 := rs.cell 0; have s1 := rs.cell 1; have s2 := rs.cell 2; have s3 := rs.cell 3; have s4 := rs.cell 4; have x0 := rx.cell 0
  simp only [List.getElem?_toArray, List.getElem?_cons_zero, List.getElem?_cons_succ] at s0 s1 s2 s3 s4 x0
  have hlt := rx.lt; have hls := rs.lt
  have LX1 := Lib.hid (LX.out.below hb (Nat.le_refl _)); have LY1 := Lib.hid (LY.out.below hb (Nat.le_refl _)); have HS1 := Lib.hid (HS.out.below hb (Nat.le_refl _))
  have HSX := Lib.hid (single_any _ _ _ LX1.out); have HSY := Lib.hid (single_any _ _ _ LY1.out)
  rw [single_bits n P HP.out] at HSX
  rw [single_bits n Q HQ.out] at HSY
  clear rs rx hb LX LY HS
  go_wp2
  go_loopg [10] n (fun gk q wr => ∃ k : Nat, k ≤ n ∧ gk = n - k ∧ q = .int .i64 k ∧ W1 = wr ∧ ∀ j, j < k → (!(P.testBit j)) = true)
  case atStart => exact ⟨0, Nat.zero_le _, rfl, rfl, rfl, fun j hj => by omega⟩
  case round =>
    obtain ⟨k, hk, rfl, rfl, rfl, hall⟩ := hrel
    have HA := Lib.hid hall; clear hall
    by_cases hlt2 : k < n
    · obtain ⟨g1, o1, rfl, d1⟩ := lb_cell LX1.out hlt2
      obtain ⟨p, hp⟩ : ∃ p, p = P.testBit k := ⟨_, rfl⟩
      rw [← hp] at d1
      have HPQ : Hid ((!(P.testBit k)) = (!p)) := by rw [Hid, hp]
      clear hp
      have hstep : Hid ((!p) = true → ∀ j, j < k + 1 → (!(P.testBit j)) = true) := fun h j hj => by
        by_cases e : j < k
        · exact HA.out j e
        · have : j = k := by omega
          subst this; rw [HPQ.out]; exact h
      cases p
      · have HST := Lib.hid (hstep.out rfl)
        go_wp2
        go_roundg (n - (k + 1))
        case rel => exact ⟨k + 1, by omega, rfl, by go_num, rfl, HST.out⟩
        case measure => omega
      · have hr : R = false := by rw [HR.out, zero_bits n P HP.out]; exact all_false hlt2 (by rw [HPQ.out]; rfl)
        have HRR := Lib.hid hr; clear hr
        go_wp2
        go_returns
        exact ⟨ret_bo HRR.out, HB.out⟩
    · have hkn : k = n := by omega
      have hr : R = true := by rw [HR.out, zero_bits n P HP.out]; exact all_true fun j hj => HA.out j (by omega)
      have HRR := Lib.hid hr; clear hr hkn
      go_wp2
      go_returns
      exact ⟨ret_bo HRR.out, HB.out⟩

set_option maxRecDepth 100000 in
set_option maxHeartbeats 2000000 in
theorem ratom_4 (S : Stc) (n : Nat) (hn64 : n ≤ 64) (ok : Int → Bool) (X Y P Q : Nat) (hX : X < 6) (hY : Y < 6) (hP : P < 2 ^ n) (hQ : Q < 2 ^ n) (hSn : S.n = n)
    (A1 A2 A3 A4 AX AY : Option Addr) (n1 c1 n2 c2 n3 c3 n4 c4 b o c cX cY : Nat) (hc6 : 6 ≤ c) (hc63 : c ≤ 9223372036854775807) (w : World) (hs : StrOk w S ok (.slice A1 n1 c1) (.slice A2 n2 c2) (.slice A3 n3 c3) (.slice A4 n4 c4))
    (hb0 : b < w.heap.size) (hx : w.cell? ⟨b, o + X, none⟩ = some (.slice AX n cX)) (hy : w.cell? ⟨b, o + Y, none⟩ = some (.slice AY n cY)) (lx : BLs w (.slice AX n cX) (bitsL n P)) (ly : BLs w (.slice AY n cY) (bitsL n Q)) :
    Calls Tryd.prog 192 #[.agg #[.int .i64 n, .slice A1 n1 c1, .slice A2 n2 c2, .slice A3 n3 c3, .slice A4 n4 c4], .agg #[.int .u8 4, .int .i64 X, .int .i64 Y, .int .i64 0, .int .i64 0], .slice (some ⟨b, o, none⟩) 6 c] w
      fun e w' => e = .returned (.bool (isOne P)) ∧ Below w.heap.size w w' := by
  have HS := Lib.hid hs; have LX := Lib.hid lx; have LY := Lib.hid ly; have HP := Lib.hid hP; have HQ := Lib.hid hQ; have HSN := Lib.hid hSn
  have lxc := lx.len; have lyc := ly.len
  have hcX : n ≤ cX ∧ cX ≤ 9223372036854775807 := lxc.2
  have hcY : n ≤ cY ∧ cY ≤ 9223372036854775807 := lyc.2
  have hxI : (0 : Int) ≤ X := by omega
  have hxJ : (X : Int) < 6 := by omega
  have hyI : (0 : Int) ≤ Y := by omega
  have hyJ : (Y : Int) < 6 := by omega
  clear hs lx ly hP hQ hSn lxc lyc
  obtain ⟨R, hR⟩ : ∃ R : Bool, R = (isOne P) := ⟨_, rfl⟩
  rw [← hR]
  have HR := Lib.hid hR; clear hR
  go_enter Tryd.func192, Tryd.ntmps192
  go_upto_region 1 with (fail)
  refine wp_abs (fun W => Row W w.heap.size 179 #[Value.int .i64 n, .slice A1 n1 c1, .slice A2 n2 c2, .slice A3 n3 c3, .slice A4 n4 c4] ∧ Row W (w.heap.size + 1) 23 #[Value.int .u8 4, .int .i64 X, .int .i64 Y, .int .i64 0, .int .i64 0] ∧ Below w.heap.size w W) ⟨(Row.new w _ _).alloc _, Row.lit (by simp only [World.size_alloc]), by go_grown⟩ ?_
  rintro W0 ⟨rs, rx, hb⟩
  have RS := Lib.hid rs; have RX := Lib.hid rx; have HB := Lib.hid hb
  have z1 := (hb.cell (p := ⟨b, o + X, none⟩) hb0).trans hx
  have z2 := (hb.cell (p := ⟨b, o + Y, none⟩) hb0).trans hy
  have x1 := rx.cell 1; have x2 := rx.cell 2
  simp only [List.getElem?_toArray, List.getElem?_cons_zero, List.getElem?_cons_succ] at x1 x2
  have hlt := rx.lt
  clear hb hx hy rs rx
  first | go_quiet (fail) | fail
  clear x1 x2 z1 z2 hlt
  go_upto_region 2 with (fail)
  refine wp_abs (fun W => Row W w.heap.size 179 #[Value.int .i64 n, .slice A1 n1 c1, .slice A2 n2 c2, .slice A3 n3 c3, .slice A4 n4 c4] ∧ Row W (w.heap.size + 1) 23 #[Value.int .u8 4, .int .i64 X, .int .i64 Y, .int .i64 0, .int .i64 0] ∧ Below w.heap.size w W) ⟨RS.out, RX.out, below_dn HB.out _⟩ ?_
  clear RS RX HB
  rintro W1 ⟨rs, rx, hb⟩
  have HB := Lib.hid hb
  have s0 := rs.cell 0; have s1 := rs.cell 1; have s2 := rs.cell 2; have s3 := rs.cell 3; have s4 := rs.cell 4; have x0 := rx.cell 0
  simp only [List.getElem?_toArray, List.getElem?_cons_zero, List.getElem?_cons_succ] at s0 s1 s2 s3 s4 x0
  have hlt := rx.lt; have hls := rs.lt
  have LX1 := Lib.hid (LX.out.below hb (Nat.le_refl _)); have LY1 := Lib.hid (LY.out.below hb (Nat.le_refl _)); have HS1 := Lib.hid (HS.out.below hb (Nat.le_refl _))
  have HSX := Lib.hid (single_any _ _ _ LX1.out); have HSY := Lib.hid (single_any _ _ _ LY1.out)
  rw [single_bits n P HP.out] at HSX
  rw [single_bits n Q HQ.out] at HSY
  clear rs rx hb LX LY HS
  cases hp : isOne P
  all_goals
    rw [hp] at HSX
    simp only [Bool.false_eq_true, if_false, if_true] at HSX
    have HRR := Lib.hid (HR.out.trans hp); clear hp
    go_wp2_with (go_at_call 207; go_must (refine HSX.out.mono ?_; rintro e w1 ⟨rfl, rfl⟩))
    go_returns
    exact ⟨ret_bo HRR.out, HB.out⟩

set_option maxRecDepth 100000 in
set_option maxHeartbeats 2000000 in
theorem ratom_5 (S : Stc) (n : Nat) (hn64 : n ≤ 64) (ok : Int → Bool) (X Y P Q : Nat) (hX : X < 6) (hY : Y < 6) (hP : P < 2 ^ n) (hQ : Q < 2 ^ n) (hSn : S.n = n) (hok : ok 5 = true)
    (A1 A2 A3 A4 AX AY : Option Addr) (n1 c1 n2 c2 n3 c3 n4 c4 b o c cX cY : Nat) (hc6 : 6 ≤ c) (hc63 : c ≤ 9223372036854775807) (w : World) (hs : StrOk w S ok (.slice A1 n1 c1) (.slice A2 n2 c2) (.slice A3 n3 c3) (.slice A4 n4 c4))
    (hb0 : b < w.heap.size) (hx : w.cell? ⟨b, o + X, none⟩ = some (.slice AX n cX)) (hy : w.cell? ⟨b, o + Y, none⟩ = some (.slice AY n cY)) (lx : BLs w (.slice AX n cX) (bitsL n P)) (ly : BLs w (.slice AY n cY) (bitsL n Q)) :
    Calls Tryd.prog 192 #[.agg #[.int .i64 n, .slice A1 n1 c1, .slice A2 n2 c2, .slice A3 n3 c3, .slice A4 n4 c4], .agg #[.int .u8 5, .int .i64 X, .int .i64 Y, .int .i64 0, .int .i64 0], .slice (some ⟨b, o, none⟩) 6 c] w
      fun e w' => e = .returned (.bool (isOne P && isOne Q && S.rel 5 (Nat.log2 P) (Nat.log2 Q))) ∧ Below w.heap.size w w' := by
  have HS := Lib.hid hs; have LX := Lib.hid lx; have LY := Lib.hid ly; have HP := Lib.hid hP; have HQ := Lib.hid hQ; have HSN := Lib.hid hSn
  have lxc := lx.len; have lyc := ly.len
  have hcX : n ≤ cX ∧ cX ≤ 9223372036854775807 := lxc.2
  have hcY : n ≤ cY ∧ cY ≤ 9223372036854775807 := lyc.2
  have hxI : (0 : Int) ≤ X := by omega
  have hxJ : (X : Int) < 6 := by omega
  have hyI : (0 : Int) ≤ Y := by omega
  have hyJ : (Y : Int) < 6 := by omega
  clear hs lx ly hP hQ hSn lxc lyc
  obtain ⟨R, hR⟩ : ∃ R : Bool, R = (isOne P && isOne Q && S.rel 5 (Nat.log2 P) (Nat.log2 Q)) := ⟨_, rfl⟩
  rw [← hR]
  have HR := Lib.hid hR; clear hR
  go_enter Tryd.func192, Tryd.ntmps192
  go_upto_region 1 with (fail)
  refine wp_abs (fun W => Row W w.heap.size 179 #[Value.int .i64 n, .slice A1 n1 c1, .slice A2 n2 c2, .slice A3 n3 c3, .slice A4 n4 c4] ∧ Row W (w.heap.size + 1) 23 #[Value.int .u8 5, .int .i64 X, .int .i64 Y, .int .i64 0, .int .i64 0] ∧ Below w.heap.size w W) ⟨(Row.new w _ _).alloc _, Row.lit (by simp only [World.size_alloc]), by go_grown⟩ ?_
  rintro W0 ⟨rs, rx, hb⟩
  have RS := Lib.hid rs; have RX := Lib.hid rx; have HB := Lib.hid hb
  have z1 := (hb.cell (p := ⟨b, o + X, none⟩) hb0).trans hx
  have z2 := (hb.cell (p := ⟨b, o + Y, none⟩) hb0).trans hy
  have x1 := rx.cell 1; have x2 := rx.cell 2
  simp only [List.getElem?_toArray, List.getElem?_cons_zero, List.getElem?_cons_succ] at x1 x2
  have hlt := rx.lt
  clear hb hx hy rs rx
  first | go_quiet (fail) | fail
  clear x1 x2 z1 z2 hlt
  go_upto_region 2 with (fail)
  refine wp_abs (fun W => Row W w.heap.size 179 #[Value.int .i64 n, .slice A1 n1 c1, .slice A2 n2 c2, .slice A3 n3 c3, .slice A4 n4 c4] ∧ Row W (w.heap.size + 1) 23 #[Value.int .u8 5, .int .i64 X, .int .i64 Y, .int .i64 0, .int .i64 0] ∧ Below w.heap.size w W) ⟨RS.out, RX.out, below_dn HB.out _⟩ ?_
  clear RS RX HB
  rintro W1 ⟨rs, rx, hb⟩
  have HB := Lib.hid hb
  have s0 := rs.cell 0; have s1 := rs.cell 1; have s2 := rs.cell 2; have s3 := rs.cell 3; have s4 := rs.cell 4; have x0 := rx.cell 0
  simp only [List.getElem?_toArray, List.getElem?_cons_zero, List.getElem?_cons_succ] at s0 s1 s2 s3 s4 x0
  have hlt := rx.lt; have hls := rs.lt
  have LX1 := Lib.hid (LX.out.below hb (Nat.le_refl _)); have LY1 := Lib.hid (LY.out.below hb (Nat.le_refl _)); have HS1 := Lib.hid (HS.out.below hb (Nat.le_refl _))
  have HSX := Lib.hid (single_any _ _ _ LX1.out); have HSY := Lib.hid (single_any _ _ _ LY1.out)
  rw [single_bits n P HP.out] at HSX
  rw [single_bits n Q HQ.out] at HSY
  clear rs rx hb LX LY HS
  have hsel := HS1.out.next hok
  have HSEL := Lib.hid hsel; clear hsel
  have hlp : isOne P = true → Nat.log2 P < n := fun h => log_lt2 h HP.out
  have hlq : isOne Q = true → Nat.log2 Q < n := fun h => log_lt2 h HQ.out
  have HLP := Lib.hid hlp; have HLQ := Lib.hid hlq
  clear hlp hlq
  cases hp : isOne P
  · rw [hp] at HSX
    simp only [Bool.false_eq_true, if_false] at HSX
    have HRR : Hid (R = false) := by rw [Hid, HR.out, hp]; rfl
    clear hp
    cases hq : isOne Q
    all_goals
      rw [hq] at HSY
      simp only [Bool.false_eq_true, if_false, if_true] at HSY
      clear hq
      go_wp2_with (first
        | (go_at_call 207; ((with_reducible refine HSX.out.mono ?_); rintro e w1 ⟨rfl, rfl⟩))
        | (go_at_call 207; ((with_reducible refine HSY.out.mono ?_); rintro e w1 ⟨rfl, rfl⟩)))
      go_returns
      exact ⟨ret_bo HRR.out, HB.out⟩
  · cases hq : isOne Q
    · rw [hp] at HSX; rw [hq] at HSY
      simp only [Bool.false_eq_true, if_false, if_true] at HSX HSY
      have HRR : Hid (R = false) := by rw [Hid, HR.out, hp, hq]; rfl
      clear hp hq
      go_wp2_with (first
        | (go_at_call 207; ((with_reducible refine HSX.out.mono ?_); rintro e w1 ⟨rfl, rfl⟩))
        | (go_at_call 207; ((with_reducible refine HSY.out.mono ?_); rintro e w1 ⟨rfl, rfl⟩)))
      go_returns
      exact ⟨ret_bo HRR.out, HB.out⟩
    · have l1 := HLP.out hp; have l2 := HLQ.out hq
      rw [hp] at HSX; rw [hq] at HSY
      simp only [if_true] at HSX HSY
      have HR2 := HR.out
      rw [hp, hq] at HR2
      simp only [Bool.true_and] at HR2
      clear hp hq HLP HLQ HR
      generalize Nat.log2 P = p at *
      generalize Nat.log2 Q = q at *
      obtain ⟨rfl, g1, o1, x, rfl, d1, hrel⟩ := ToOne.at (n := n) (by rw [← HSN.out]; exact HSEL.out) l1
      have hq := hrel q l2
      obtain ⟨r, hr⟩ : ∃ r, r = S.rel 5 p q := ⟨_, rfl⟩
      rw [← hr] at hq HR2
      have HRR := Lib.hid HR2; clear HR2
      clear hr hrel HSEL
      go_wp2_with (first
        | (go_at_call 207; ((with_reducible refine HSX.out.mono ?_); rintro e w1 ⟨rfl, rfl⟩))
        | (go_at_call 207; ((with_reducible refine HSY.out.mono ?_); rintro e w1 ⟨rfl, rfl⟩)))
      go_returns
      exact ⟨ret_bo HRR.out, HB.out⟩

set_option maxRecDepth 100000 in
set_option maxHeartbeats 2000000 in
theorem ratom_7 (S : Stc) (n : Nat) (hn64 : n ≤ 64) (ok : Int → Bool) (X Y P Q : Nat) (hX : X < 6) (hY : Y < 6) (hP : P < 2 ^ n) (hQ : Q < 2 ^ n) (hSn : S.n = n) (hok : ok 7 = true)
    (A1 A2 A3 A4 AX AY : Option Addr) (n1 c1 n2 c2 n3 c3 n4 c4 b o c cX cY : Nat) (hc6 : 6 ≤ c) (hc63 : c ≤ 9223372036854775807) (w : World) (hs : StrOk w S ok (.slice A1 n1 c1) (.slice A2 n2 c2) (.slice A3 n3 c3) (.slice A4 n4 c4))
    (hb0 : b < w.heap.size) (hx : w.cell? ⟨b, o + X, none⟩ = some (.slice AX n cX)) (hy : w.cell? ⟨b, o + Y, none⟩ = some (.slice AY n cY)) (lx : BLs w (.slice AX n cX) (bitsL n P)) (ly : BLs w (.slice AY n cY) (bitsL n Q)) :
    Calls Tryd.prog 192 #[.agg #[.int .i64 n, .slice A1 n1 c1, .slice A2 n2 c2, .slice A3 n3 c3, .slice A4 n4 c4], .agg #[.int .u8 7, .int .i64 X, .int .i64 Y, .int .i64 0, .int .i64 0], .slice (some ⟨b, o, none⟩) 6 c] w
      fun e w' => e = .returned (.bool (isOne P && isOne Q && S.rel 7 (Nat.log2 P) (Nat.log2 Q))) ∧ Below w.heap.size w w' := by
  have HS := Lib.hid hs; have LX := Lib.hid lx; have LY := Lib.hid ly; have HP := Lib.hid hP; have HQ := Lib.hid hQ; have HSN := Lib.hid hSn
  have lxc := lx.len; have lyc := ly.len
  have hcX : n ≤ cX ∧ cX ≤ 9223372036854775807 := lxc.2
  have hcY : n ≤ cY ∧ cY ≤ 9223372036854775807 := lyc.2
  have hxI : (0 : Int) ≤ X := by omega
  have hxJ : (X : Int) < 6 := by omega
  have hyI : (0 : Int) ≤ Y := by omega
  have hyJ : (Y : Int) < 6 := by omega
  clear hs lx ly hP hQ hSn lxc lyc
  obtain ⟨R, hR⟩ : ∃ R : Bool, R = (isOne P && isOne Q && S.rel 7 (Nat.log2 P) (Nat.log2 Q)) := ⟨_, rfl⟩
  rw [← hR]
  have HR := Lib.hid hR; clear hR
  go_enter Tryd.func192, Tryd.ntmps192
  go_upto_region 1 with (fail)
  refine wp_abs (fun W => Row W w.heap.size 179 #[Value.int .i64 n, .slice A1 n1 c1, .slice A2 n2 c2, .slice A3 n3 c3, .slice A4 n4 c4] ∧ Row W (w.heap.size + 1) 23 #[Value.int .u8 7, .int .i64 X, .int .i64 Y, .int .i64 0, .int .i64 0] ∧ Below w.heap.size w W) ⟨(Row.new w _ _).alloc _, Row.lit (by simp only [World.size_alloc]), by go_grown⟩ ?_
  rintro W0 ⟨rs, rx, hb⟩
  have RS := Lib.hid rs; have RX := Lib.hid rx; have HB := Lib.hid hb
  have z1 := (hb.cell (p := ⟨b, o + X, none⟩) hb0).trans hx
  have z2 := (hb.cell (p := ⟨b, o + Y, none⟩) hb0).trans hy
  have x1 := rx.cell 1; have x2 := rx.cell 2
  simp only [List.getElem?_toArray, List.getElem?_cons_zero, List.getElem?_cons_succ] at x1 x2
  have hlt := rx.lt
  clear hb hx hy rs rx
  first | go_quiet (fail) | fail
  clear x1 x2 z1 z2 hlt
  go_upto_region 2 with (fail)
  refine wp_abs (fun W => Row W w.heap.size 179 #[Value.int .i64 n, .slice A1 n1 c1, .slice A2 n2 c2, .slice A3 n3 c3, .slice A4 n4 c4] ∧ Row W (w.heap.size + 1) 23 #[Value.int .u8 7, .int .i64 X, .int .i64 Y, .int .i64 0, .int .i64 0] ∧ Below w.heap.size w W) ⟨RS.out, RX.out, below_dn HB.out _⟩ ?_
  clear RS RX HB
  rintro W1 ⟨rs, rx, hb⟩
  have HB := Lib.hid hb
  have s0 := rs.cell 0; have s1 := rs.cell 1; have s2 := rs.cell 2; have s3 := rs.cell 3; have s4 := rs.cell 4; have x0 := rx.cell 0
  simp only [List.getElem?_toArray, List.getElem?_cons_zero, List.getElem?_cons_succ] at s0 s1 s2 s3 s4 x0
  have hlt := rx.lt; have hls := rs.lt
  have LX1 := Lib.hid (LX.out.below hb (Nat.le_refl _)); have LY1 := Lib.hid (LY.out.below hb (Nat.le_refl _)); have HS1 := Lib.hid (HS.out.below hb (Nat.le_refl _))
  have HSX := Lib.hid (single_any _ _ _ LX1.out); have HSY := Lib.hid (single_any _ _ _ LY1.out)
  rw [single_bits n P HP.out] at HSX
  rw [single_bits n Q HQ.out] at HSY
  clear rs rx hb LX LY HS
  have hsel := HS1.out.left hok
  have HSEL := Lib.hid hsel; clear hsel
  have hlp : isOne P = true → Nat.log2 P < n := fun h => log_lt2 h HP.out
  have hlq : isOne Q = true → Nat.log2 Q < n := fun h => log_lt2 h HQ.out
  have HLP := Lib.hid hlp; have HLQ := Lib.hid hlq
  clear hlp hlq
  cases hp : isOne P
  · rw [hp] at HSX
    simp only [Bool.false_eq_true, if_false] at HSX
    have HRR : Hid (R = false) := by rw [Hid, HR.out, hp]; rfl
    clear hp
    cases hq : isOne Q
    all_goals
      rw [hq] at HSY
      simp only [Bool.false_eq_true, if_false, if_true] at HSY
      clear hq
      go_wp2_with (first
        | (go_at_call 207; ((with_reducible refine HSX.out.mono ?_); rintro e w1 ⟨rfl, rfl⟩))
        | (go_at_call 207; ((with_reducible refine HSY.out.mono ?_); rintro e w1 ⟨rfl, rfl⟩)))
      go_returns
      exact ⟨ret_bo HRR.out, HB.out⟩
  · cases hq : isOne Q
    · rw [hp] at HSX; rw [hq] at HSY
      simp only [Bool.false_eq_true, if_false, if_true] at HSX HSY
      have HRR : Hid (R = false) := by rw [Hid, HR.out, hp, hq]; rfl
      clear hp hq
      go_wp2_with (first
        | (go_at_call 207; ((with_reducible refine HSX.out.mono ?_); rintro e w1 ⟨rfl, rfl⟩))
        | (go_at_call 207; ((with_reducible refine HSY.out.mono ?_); rintro e w1 ⟨rfl, rfl⟩)))
      go_returns
      exact ⟨ret_bo HRR.out, HB.out⟩
    · have l1 := HLP.out hp; have l2 := HLQ.out hq
      rw [hp] at HSX; rw [hq] at HSY
      simp only [if_true] at HSX HSY
      have HR2 := HR.out
      rw [hp, hq] at HR2
      simp only [Bool.true_and] at HR2
      clear hp hq HLP HLQ HR
      generalize Nat.log2 P = p at *
      generalize Nat.log2 Q = q at *
      obtain ⟨rfl, g1, o1, x, rfl, d1, hrel⟩ := ToOne.at (n := n) (by rw [← HSN.out]; exact HSEL.out) l1
      have hq := hrel q l2
      obtain ⟨r, hr⟩ : ∃ r, r = S.rel 7 p q := ⟨_, rfl⟩
      rw [← hr] at hq HR2
      have HRR := Lib.hid HR2; clear HR2
      clear hr hrel HSEL
      go_wp2_with (first
        | (go_at_call 207; ((with_reducible refine HSX.out.mono ?_); rintro e w1 ⟨rfl, rfl⟩))
        | (go_at_call 207; ((with_reducible refine HSY.out.mono ?_); rintro e w1 ⟨rfl, rfl⟩)))
      go_returns
      exact ⟨ret_bo HRR.out, HB.out⟩

set_option maxRecDepth 100000 in
set_option maxHeartbeats 2000000 in
theorem ratom_8 (S : Stc) (n : Nat) (hn64 : n ≤ 64) (ok : Int → Bool) (X Y P Q : Nat) (hX : X < 6) (hY : Y < 6) (hP : P < 2 ^ n) (hQ : Q < 2 ^ n) (hSn : S.n = n) (hok : ok 8 = true)
    (A1 A2 A3 A4 AX AY : Option Addr) (n1 c1 n2 c2 n3 c3 n4 c4 b o c cX cY : Nat) (hc6 : 6 ≤ c) (hc63 : c ≤ 9223372036854775807) (w : World) (hs : StrOk w S ok (.slice A1 n1 c1) (.slice A2 n2 c2) (.slice A3 n3 c3) (.slice A4 n4 c4))
    (hb0 : b < w.heap.size) (hx : w.cell? ⟨b, o + X, none⟩ = some (.slice AX n cX)) (hy : w.cell? ⟨b, o + Y, none⟩ = some (.slice AY n cY)) (lx : BLs w (.slice AX n cX) (bitsL n P)) (ly : BLs w (.slice AY n cY) (bitsL n Q)) :
    Calls Tryd.prog 192 #[.agg #[.int .i64 n, .slice A1 n1 c1, .slice A2 n2 c2, .slice A3 n3 c3, .slice A4 n4 c4], .agg #[.int .u8 8, .int .i64 X, .int .i64 Y, .int .i64 0, .int .i64 0], .slice (some ⟨b, o, none⟩) 6 c] w
      fun e w' => e = .returned (.bool (isOne P && isOne Q && S.rel 8 (Nat.log2 P) (Nat.log2 Q))) ∧ Below w.heap.size w w' := by
  have HS := Lib.hid hs; have LX := Lib.hid lx; have LY := Lib.hid ly; have HP := Lib.hid hP; have HQ := Lib.hid hQ; have HSN := Lib.hid hSn
  have lxc := lx.len; have lyc := ly.len
  have hcX : n ≤ cX ∧ cX ≤ 9223372036854775807 := lxc.2
  have hcY : n ≤ cY ∧ cY ≤ 9223372036854775807 := lyc.2
  have hxI : (0 : Int) ≤ X := by omega
  have hxJ : (X : Int) < 6 := by omega
  have hyI : (0 : Int) ≤ Y := by omega
  have hyJ : (Y : Int) < 6 := by omega
  clear hs lx ly hP hQ hSn lxc lyc
  obtain ⟨R, hR⟩ : ∃ R : Bool, R = (isOne P && isOne Q && S.rel 8 (Nat.log2 P) (Nat.log2 Q)) := ⟨_, rfl⟩
  rw [← hR]
  have HR := Lib.hid hR; clear hR
  go_enter Tryd.func192, Tryd.ntmps192
  go_upto_region 1 with (fail)
  refine wp_abs (fun W => Row W w.heap.size 179 #[Value.int .i64 n, .slice A1 n1 c1, .slice A2 n2 c2, .slice A3 n3 c3, .slice A4 n4 c4] ∧ Row W (w.heap.size + 1) 23 #[Value.int .u8 8, .int .i64 X, .int .i64 Y, .int .i64 0, .int .i64 0] ∧ Below w.heap.size w W) ⟨(Row.new w _ _).alloc _, Row.lit (by simp only [World.size_alloc]), by go_grown⟩ ?_
  rintro W0 ⟨rs, rx, hb⟩
  have RS := Lib.hid rs; have RX := Lib.hid rx; have HB := Lib.hid hb
  have z1 := (hb.cell (p := ⟨b, o + X, none⟩) hb0).trans hx
  have z2 := (hb.cell (p := ⟨b, o + Y, none⟩) hb0).trans hy
  have x1 := rx.cell 1; have x2 := rx.cell 2
  simp only [List.getElem?_toArray, List.getElem?_cons_zero, List.getElem?_cons_succ] at x1 x2
  have hlt := rx.lt
  clear hb hx hy rs rx
  first | go_quiet (fail) | fail
  clear x1 x2 z1 z2 hlt
  go_upto_region 2 with (fail)
  refine wp_abs (fun W => Row W w.heap.size 179 #[Value.int .i64 n, .slice A1 n1 c1, .slice A2 n2 c2, .slice A3 n3 c3, .slice A4 n4 c4] ∧ Row W (w.heap.size + 1) 23 #[Value.int .u8 8, .int .i64 X, .int .i64 Y, .int .i64 0, .int .i64 0] ∧ Below w.heap.size w W) ⟨RS.out, RX.out, below_dn HB.out _⟩ ?_
  clear RS RX HB
  rintro W1 ⟨rs, rx, hb⟩
  have HB := Lib.hid hb
  have s0 := rs.cell 0; have s1 := rs.cell 1; have s2 := rs.cell 2; have s3 := rs.cell 3; have s4 := rs.cell 4; have x0 := rx.cell 0
  simp only [List.getElem?_toArray, List.getElem?_cons_zero, List.getElem?_cons_succ] at s0 s1 s2 s3 s4 x0
  have hlt := rx.lt; have hls := rs.lt
  have LX1 := Lib.hid (LX.out.below hb (Nat.le_refl _)); have LY1 := Lib.hid (LY.out.below hb (Nat.le_refl _)); have HS1 := Lib.hid (HS.out.below hb (Nat.le_refl _))
  have HSX := Lib.hid (single_any _ _ _ LX1.out); have HSY := Lib.hid (single_any _ _ _ LY1.out)
  rw [single_bits n P HP.out] at HSX
  rw [single_bits n Q HQ.out] at HSY
  clear rs rx hb LX LY HS
  have hsel := HS1.out.right hok
  have HSEL := Lib.hid hsel; clear hsel
  have hlp : isOne P = true → Nat.log2 P < n := fun h => log_lt2 h HP.out
  have hlq : isOne Q = true → Nat.log2 Q < n := fun h => log_lt2 h HQ.out
  have HLP := Lib.hid hlp; have HLQ := Lib.hid hlq
  clear hlp hlq
  cases hp : isOne P
  · rw [hp] at HSX
    simp only [Bool.false_eq_true, if_false] at HSX
    have HRR : Hid (R = false) := by rw [Hid, HR.out, hp]; rfl
    clear hp
    cases hq : isOne Q
    all_goals
      rw [hq] at HSY
      simp only [Bool.false_eq_true, if_false, if_true] at HSY
      clear hq
      go_wp2_with (first
        | (go_at_call 207; ((with_reducible refine HSX.out.mono ?_); rintro e w1 ⟨rfl, rfl⟩))
        | (go_at_call 207; ((with_reducible refine HSY.out.mono ?_); rintro e w1 ⟨rfl, rfl⟩)))
      go_returns
      exact ⟨ret_bo HRR.out, HB.out⟩
  · cases hq : isOne Q
    · rw [hp] at HSX; rw [hq] at HSY
      simp only [Bool.false_eq_true, if_false, if_true] at HSX HSY
      have HRR : Hid (R = false) := by rw [Hid, HR.out, hp, hq]; rfl
      clear hp hq
      go_wp2_with (first
        | (go_at_call 207; ((with_reducible refine HSX.out.mono ?_); rintro e w1 ⟨rfl, rfl⟩))
        | (go_at_call 207; ((with_reducible refine HSY.out.mono ?_); rintro e w1 ⟨rfl, rfl⟩)))
      go_returns
      exact ⟨ret_bo HRR.out, HB.out⟩
    · have l1 := HLP.out hp; have l2 := HLQ.out hq
      rw [hp] at HSX; rw [hq] at HSY
      simp only [if_true] at HSX HSY
      have HR2 := HR.out
      rw [hp, hq] at HR2
      simp only [Bool.true_and] at HR2
      clear hp hq HLP HLQ HR
      generalize Nat.log2 P = p at *
      generalize Nat.log2 Q = q at *
      obtain ⟨rfl, g1, o1, x, rfl, d1, hrel⟩ := ToOne.at (n := n) (by rw [← HSN.out]; exact HSEL.out) l1
      have hq := hrel q l2
      obtain ⟨r, hr⟩ : ∃ r, r = S.rel 8 p q := ⟨_, rfl⟩
      rw [← hr] at hq HR2
      have HRR := Lib.hid HR2; clear HR2
      clear hr hrel HSEL
      go_wp2_with (first
        | (go_at_call 207; ((with_reducible refine HSX.out.mono ?_); rintro e w1 ⟨rfl, rfl⟩))
        | (go_at_call 207; ((with_reducible refine HSY.out.mono ?_); rintro e w1 ⟨rfl, rfl⟩)))
      go_returns
      exact ⟨ret_bo HRR.out, HB.out⟩

set_option maxRecDepth 100000 in
set_option maxHeartbeats 2000000 in
theorem ratom_6 (S : Stc) (n : Nat) (hn64 : n ≤ 64) (ok : Int → Bool) (X Y P Q : Nat) (hX : X < 6) (hY : Y < 6) (hP : P < 2 ^ n) (hQ : Q < 2 ^ n) (hSn : S.n = n) (hok : ok 6 = true)
    (A1 A2 A3 A4 AX AY : Option Addr) (n1 c1 n2 c2 n3 c3 n4 c4 b o c cX cY : Nat) (hc6 : 6 ≤ c) (hc63 : c ≤ 9223372036854775807) (w : World) (hs : StrOk w S ok (.slice A1 n1 c1) (.slice A2 n2 c2) (.slice A3 n3 c3) (.slice A4 n4 c4))
    (hb0 : b < w.heap.size) (hx : w.cell? ⟨b, o + X, none⟩ = some (.slice AX n cX)) (hy : w.cell? ⟨b, o + Y, none⟩ = some (.slice AY n cY)) (lx : BLs w (.slice AX n cX) (bitsL n P)) (ly : BLs w (.slice AY n cY) (bitsL n Q)) :
    Calls Tryd.prog 192 #[.agg #[.int .i64 n, .slice A1 n1 c1, .slice A2 n2 c2, .slice A3 n3 c3, .slice A4 n4 c4], .agg #[.int .u8 6, .int .i64 X, .int .i64 Y, .int .i64 0, .int .i64 0], .slice (some ⟨b, o, none⟩) 6 c] w
      fun e w' => e = .returned (.bool (isOne P && isOne Q && S.rel 6 (Nat.log2 P) (Nat.log2 Q))) ∧ Below w.heap.size w w' := by
  have HS := Lib.hid hs; have LX := Lib.hid lx; have LY := Lib.hid ly; have HP := Lib.hid hP; have HQ := Lib.hid hQ; have HSN := Lib.hid hSn
  have lxc := lx.len; have lyc := ly.len
  have hcX : n ≤ cX ∧ cX ≤ 9223372036854775807 := lxc.2
  have hcY : n ≤ cY ∧ cY ≤ 9223372036854775807 := lyc.2
  have hxI : (0 : Int) ≤ X := by omega
  have hxJ : (X : Int) < 6 := by omega
  have hyI : (0 : Int) ≤ Y := by omega
  have hyJ : (Y : Int) < 6 := by omega
  clear hs lx ly hP hQ hSn lxc lyc
  obtain ⟨R, hR⟩ : ∃ R : Bool, R = (isOne P && isOne Q && S.rel 6 (Nat.log2 P) (Nat.log2 Q)) := ⟨_, rfl⟩
  rw [← hR]
  have HR := Lib.hid hR; clear hR
  go_enter Tryd.func192, Tryd.ntmps192
  go_upto_region 1 with (fail)
  refine wp_abs (fun W => Row W w.heap.size 179 #[Value.int .i64 n, .slice A1 n1 c1, .slice A2 n2 c2, .slice A3 n3 c3, .slice A4 n4 c4] ∧ Row W (w.heap.size + 1) 23 #[Value.int .u8 6, .int .i64 X, .int .i64 Y, .int .i64 0, .int .i64 0] ∧ Below w.heap.size w W) ⟨(Row.new w _ _).alloc _, Row.lit (by simp only [World.size_alloc]), by go_grown⟩ ?_
  rintro W0 ⟨rs, rx, hb⟩
  have RS := Lib.hid rs; have RX := Lib.hid rx; have HB := Lib.hid hb
  have z1 := (hb.cell (p := ⟨b, o + X, none⟩) hb0).trans hx
  have z2 := (hb.cell (p := ⟨b, o + Y, none⟩) hb0).trans hy
  have x1 := rx.cell 1; have x2 := rx.cell 2
  simp only [List.getElem?_toArray, List.getElem?_cons_zero, List.getElem?_cons_succ] at x1 x2
  have hlt := rx.lt
  clear hb hx hy rs rx
  first | go_quiet (fail) | fail
  clear x1 x2 z1 z2 hlt
  go_upto_region 2 with (fail)
  refine wp_abs (fun W => Row W w.heap.size 179 #[Value.int .i64 n, .slice A1 n1 c1, .slice A2 n2 c2, .slice A3 n3 c3, .slice A4 n4 c4] ∧ Row W (w.heap.size + 1) 23 #[Value.int .u8 6, .int .i64 X, .int .i64 Y, .int .i64 0, .int .i64 0] ∧ Below w.heap.size w W) ⟨RS.out, RX.out, below_dn HB.out _⟩ ?_
  clear RS RX HB
  rintro W1 ⟨rs, rx, hb⟩
  have HB := Lib.hid hb
  have s0 := rs.cell 0; have s1 := rs.cell 1; have s2 := rs.cell 2; have s3 := rs.cell 3; have s4 := rs.cell 4; have x0 := rx.cell 0
  simp only [List.getElem?_toArray, List.getElem?_cons_zero, List.getElem?_cons_succ] at s0 s1 s2 s3 s4 x0
  have hlt := rx.lt; have hls := rs.lt
  have LX1 := Lib.hid (LX.out.below hb (Nat.le_refl _)); have LY1 := Lib.hid (LY.out.below hb (Nat.le_refl _)); have HS1 := Lib.hid (HS.out.below hb (Nat.le_refl _))
  have HSX := Lib.hid (single_any _ _ _ LX1.out); have HSY := Lib.hid (single_any _ _ _ LY1.out)
  rw [single_bits n P HP.out] at HSX
  rw [single_bits n Q HQ.out] at HSY
  clear rs rx hb LX LY HS
  have hsel := HS1.out.less hok
  have HSEL := Lib.hid hsel; clear hsel
  have hlp : isOne P = true → Nat.log2 P < n := fun h => log_lt2 h HP.out
  have hlq : isOne Q = true → Nat.log2 Q < n := fun h => log_lt2 h HQ.out
  have HLP := Lib.hid hlp; have HLQ := Lib.hid hlq
  clear hlp hlq
  cases hp : isOne P
  · rw [hp] at HSX
    simp only [Bool.false_eq_true, if_false] at HSX
    have HRR : Hid (R = false) := by rw [Hid, HR.out, hp]; rfl
    clear hp
    cases hq : isOne Q
    all_goals
      rw [hq] at HSY
      simp only [Bool.false_eq_true, if_false, if_true] at HSY
      clear hq
      go_wp2_with (first
        | (go_at_call 207; ((with_reducible refine HSX.out.mono ?_); rintro e w1 ⟨rfl, rfl⟩))
        | (go_at_call 207; ((with_reducible refine HSY.out.mono ?_); rintro e w1 ⟨rfl, rfl⟩)))
      go_returns
      exact ⟨ret_bo HRR.out, HB.out⟩
  · cases hq : isOne Q
    · rw [hp] at HSX; rw [hq] at HSY
      simp only [Bool.false_eq_true, if_false, if_true] at HSX HSY
      have HRR : Hid (R = false) := by rw [Hid, HR.out, hp, hq]; rfl
      clear hp hq
      go_wp2_with (first
        | (go_at_call 207; ((with_reducible refine HSX.out.mono ?_); rintro e w1 ⟨rfl, rfl⟩))
        | (go_at_call 207; ((with_reducible refine HSY.out.mono ?_); rintro e w1 ⟨rfl, rfl⟩)))
      go_returns
      exact ⟨ret_bo HRR.out, HB.out⟩
    · have l1 := HLP.out hp; have l2 := HLQ.out hq
      rw [hp] at HSX; rw [hq] at HSY
      simp only [if_true] at HSX HSY
      have HR2 := HR.out
      rw [hp, hq] at HR2
      simp only [Bool.true_and] at HR2
      clear hp hq HLP HLQ HR
      generalize Nat.log2 P = p at *
      generalize Nat.log2 Q = q at *
      obtain ⟨rfl, g1, o1, g2, o2, m2, d2, rfl, e1, h1, h2, e2⟩ := ToRows.at (n := n) (by rw [← HSN.out]; exact HSEL.out) l1 l2
      obtain ⟨r, hr⟩ : ∃ r, r = S.rel 6 p q := ⟨_, rfl⟩
      rw [← hr] at e2 HR2
      have HRR := Lib.hid HR2; clear HR2
      clear hr HSEL
      go_wp2_with (first
        | (go_at_call 207; ((with_reducible refine HSX.out.mono ?_); rintro e w1 ⟨rfl, rfl⟩))
        | (go_at_call 207; ((with_reducible refine HSY.out.mono ?_); rintro e w1 ⟨rfl, rfl⟩)))
      go_returns
      exact ⟨ret_bo HRR.out, HB.out⟩
end Go.Proofs.YtgeklibilgfjbaaDoor

namespace Go.Proofs.YtgeklibilgfjbaaDoor
open Go.RowKit

set_option maxRecDepth 100000 in
theorem ratom_any (S : Stc) (n : Nat) (hn64 : n ≤ 64) (ok : Int → Bool) (op : Int) (X Y P Q : Nat) (hX : X < 6) (hY : Y < 6) (hP : P < 2 ^ n) (hQ : Q < 2 ^ n) (hSn : S.n = n) (hop : 1 ≤ op ∧ op ≤ 8) (hok : op ≤ 4 ∨ ok op = true)
    (A1 A2 A3 A4 AX AY : Option Addr) (n1 c1 n2 c2 n3 c3 n4 c4 b o c cX cY : Nat) (hc6 : 6 ≤ c) (hc63 : c ≤ 9223372036854775807) (w : World) (hs : StrOk w S ok (.slice A1 n1 c1) (.slice A2 n2 c2) (.slice A3 n3 c3) (.slice A4 n4 c4))
    (hb0 : b < w.heap.size) (hx : w.cell? ⟨b, o + X, none⟩ = some (.slice AX n cX)) (hy : w.cell? ⟨b, o + Y, none⟩ = some (.slice AY n cY)) (lx : BLs w (.slice AX n cX) (bitsL n P)) (ly : BLs w (.slice AY n cY) (bitsL n Q)) :
    Calls Tryd.prog 192 #[.agg #[.int .i64 n, .slice A1 n1 c1, .slice A2 n2 c2, .slice A3 n3 c3, .slice A4 n4 c4], .agg #[.int .u8 op, .int .i64 X, .int .i64 Y, .int .i64 0, .int .i64 0], .slice (some ⟨b, o, none⟩) 6 c] w
      fun e w' => e = .returned (.bool (atomS S op P Q)) ∧ Below w.heap.size w w' := by
  have h8 : op = 1 ∨ op = 2 ∨ op = 3 ∨ op = 4 ∨ op = 5 ∨ op = 6 ∨ op = 7 ∨ op = 8 := by omega
  rcases h8 with rfl | rfl | rfl | rfl | rfl | rfl | rfl | rfl
  · rw [show atomS S 1 P Q = true from rfl]
    exact ratom_1 S n hn64 ok X Y P Q hX hY hP hQ hSn A1 A2 A3 A4 AX AY n1 c1 n2 c2 n3 c3 n4 c4 b o c cX cY hc6 hc63 w hs hb0 hx hy lx ly
  · rw [show atomS S 2 P Q = decide (P &&& Q = P) from rfl]
    exact ratom_2 S n hn64 ok X Y P Q hX hY hP hQ hSn A1 A2 A3 A4 AX AY n1 c1 n2 c2 n3 c3 n4 c4 b o c cX cY hc6 hc63 w hs hb0 hx hy lx ly
  · rw [show atomS S 3 P Q = decide (P = 0) from rfl]
    exact ratom_3 S n hn64 ok X Y P Q hX hY hP hQ hSn A1 A2 A3 A4 AX AY n1 c1 n2 c2 n3 c3 n4 c4 b o c cX cY hc6 hc63 w hs hb0 hx hy lx ly
  · rw [show atomS S 4 P Q = isOne P from rfl]
    exact ratom_4 S n hn64 ok X Y P Q hX hY hP hQ hSn A1 A2 A3 A4 AX AY n1 c1 n2 c2 n3 c3 n4 c4 b o c cX cY hc6 hc63 w hs hb0 hx hy lx ly
  · rw [show atomS S 5 P Q = (isOne P && isOne Q && S.rel 5 (Nat.log2 P) (Nat.log2 Q)) from rfl]
    exact ratom_5 S n hn64 ok X Y P Q hX hY hP hQ hSn (hok.resolve_left (by omega)) A1 A2 A3 A4 AX AY n1 c1 n2 c2 n3 c3 n4 c4 b o c cX cY hc6 hc63 w hs hb0 hx hy lx ly
  · rw [show atomS S 6 P Q = (isOne P && isOne Q && S.rel 6 (Nat.log2 P) (Nat.log2 Q)) from rfl]
    exact ratom_6 S n hn64 ok X Y P Q hX hY hP hQ hSn (hok.resolve_left (by omega)) A1 A2 A3 A4 AX AY n1 c1 n2 c2 n3 c3 n4 c4 b o c cX cY hc6 hc63 w hs hb0 hx hy lx ly
  · rw [show atomS S 7 P Q = (isOne P && isOne Q && S.rel 7 (Nat.log2 P) (Nat.log2 Q)) from rfl]
    exact ratom_7 S n hn64 ok X Y P Q hX hY hP hQ hSn (hok.resolve_left (by omega)) A1 A2 A3 A4 AX AY n1 c1 n2 c2 n3 c3 n4 c4 b o c cX cY hc6 hc63 w hs hb0 hx hy lx ly
  · rw [show atomS S 8 P Q = (isOne P && isOne Q && S.rel 8 (Nat.log2 P) (Nat.log2 Q)) from rfl]
    exact ratom_8 S n hn64 ok X Y P Q hX hY hP hQ hSn (hok.resolve_left (by omega)) A1 A2 A3 A4 AX AY n1 c1 n2 c2 n3 c3 n4 c4 b o c cX cY hc6 hc63 w hs hb0 hx hy lx ly
theorem bitsL_succ (j k : Nat) : bitsL (j + 1) k = bitsL j k ++ [decide (k / 2 ^ j % 2 = 1)] := by simp [bitsL, List.range_succ]
theorem bitsL_one (n p : Nat) (hp : p < n) : (List.replicate n (Value.bool false)).set p (.bool true) = (bitsL n (2 ^ p)).map Value.bool := by
  apply List.ext_getElem?
  intro i
  by_cases hi : i < n
  · rw [List.getElem?_map, bitsL_get n _ i hi, Nat.testBit_two_pow, List.getElem?_set]
    by_cases e : p = i
    · subst e; simp [hp]
    · simp [e, hi]
  · rw [List.getElem?_eq_none (by simp; omega), List.getElem?_eq_none (by simp [bitsL]; omega)]
theorem leaf_ops {op x y : Int} (h : okLeaf op x y) : 1 ≤ op ∧ op ≤ 8 := by
  have h1 := h.1; have h2 := h.2.1
  have h0 := nm_range h1
  unfold nc at h2
  by_cases c1 : op = 10 ∨ op = 11
  · rw [if_pos c1] at h2; omega
  · by_cases c2 : op = 9 ∨ (12 ≤ op ∧ op ≤ 15)
    · rw [if_neg c1, if_pos c2] at h2; omega
    · omega
theorem undrawn_h {w W : World} (h : Below w.drew.heap.size w.drew W) : Below w.heap.size w W := ⟨h.os, h.tape, h.output, h.size, h.block⟩
theorem cells8 {W : World} {g h : Nat} {t u : TypeId} {a b c d e x y z p q : Value} (h1 : Row W g t #[a, b, c, d, e]) (h2 : Row W h u #[x, y, z, p, q]) :
    W.cell? ⟨g, 0, none⟩ = some a ∧ W.cell? ⟨g, 1, none⟩ = some b ∧ W.cell? ⟨g, 2, none⟩ = some c ∧ W.cell? ⟨g, 3, none⟩ = some d ∧ W.cell? ⟨g, 4, none⟩ = some e ∧ W.cell? ⟨h, 0, none⟩ = some x ∧ W.cell? ⟨h, 1, none⟩ = some y ∧ W.cell? ⟨h, 3, none⟩ = some p :=
  ⟨h1.cell 0, h1.cell 1, h1.cell 2, h1.cell 3, h1.cell 4, h2.cell 0, h2.cell 1, h2.cell 3⟩
theorem setN_small (n : Nat) (h : n ≤ 16) : setN n = 2 ^ n := by
  unfold setN
  have := Nat.pow_le_pow_right (n := 2) (by omega) h
  exact Nat.mod_eq_of_lt (by omega)
theorem setV_bits (n : Nat) (a : List Nat) (X k : Nat) : (setV a (X : Int) k).map (bitsL n) = (a.map (bitsL n)).set X (bitsL n k) := by unfold setV; rw [Int.toNat_natCast, List.map_set]

set_option maxRecDepth 100000 in
set_option maxHeartbeats 4000000 in
theorem rholds_any (S : Stc) (n : Nat) (hSn : S.n = n) (hn64 : n ≤ 64) (ok : Int → Bool) (f : List Mk) (v : Value) (A1 A2 A3 A4 : Option Addr) (n1 c1 n2 c2 n3 c3 n4 c4 : Nat) :
    ∀ (tr : Tr) (p i : Nat) (a : List Nat) (vs : Value) (rows : List Value) (w : World), tr.ok → Uses ok tr → Few n tr → Sg f p tr → i + 1 = p + tr.size → MS w v f → a.length = 6 → (∀ u ∈ a, u < 2 ^ n) →
      StrOk w S ok (.slice A1 n1 c1) (.slice A2 n2 c2) (.slice A3 n3 c3) (.slice A4 n4 c4) → VS w vs rows → RowsB w rows (a.map (bitsL n)) →
    Calls Tryd.prog 158 #[.agg #[.int .i64 n, .slice A1 n1 c1, .slice A2 n2 c2, .slice A3 n3 c3, .slice A4 n4 c4], v, .int .i64 i, vs] w fun e w' => e = .returned (.bool (holdsT S tr a)) ∧ Below w.heap.size w w' := by
  intro tr
  induction tr with
  | leaf op x y =>
    intro p i a vs rows w hok huse hfew hsg hi hv ha hbd hstr hvs hrows
    have hip : i = p := by simp [Tr.size] at hi; omega
    subst hip
    obtain ⟨⟨X, rfl, hX⟩, ⟨Y, rfl, hY⟩⟩ := leaf_vars hok
    have hops := leaf_ops hok
    have hm := hsg.leaf
    have HV := Lib.hid hv
    obtain ⟨hop, A, cc, rfl, hc, hc2, hcell⟩ := hv
    have hil : i < f.length := (List.getElem?_eq_some_iff.1 hm).1
    obtain ⟨b, o, rfl, hb, hcell2⟩ := hcell (by omega)
    obtain ⟨c0, c1', c2', c3', c4'⟩ := hcell2 i _ hm
    simp only at c0 c1' c2' c3' c4'
    obtain ⟨q1, q2, q3, q4, q5, q6, q7⟩ := nc0_op hok.2.1
    have hrl : rows.length = 6 := by rw [hrows.1, List.length_map, ha]
    obtain ⟨A5, c5, hv5⟩ := hvs.form
    rw [hrl] at hv5
    subst hv5
    have hvl := hvs.len
    obtain ⟨b5, o5, rfl, hb5⟩ := hvs.addr (by rw [hrl]; omega)
    obtain ⟨AX, cX, hcX, lX⟩ := row_at hrows (x := X) (by omega)
    obtain ⟨AY, cY, hcY, lY⟩ := row_at hrows (x := Y) (by omega)
    have dX := hvs.at hcX; have dY := hvs.at hcY
    have hPX : a.getD X 0 < 2 ^ n := hbd _ (by rw [List.getD_eq_getElem?_getD, List.getElem?_eq_getElem (by omega)]; exact List.getElem_mem _)
    have hPY : a.getD Y 0 < 2 ^ n := hbd _ (by rw [List.getD_eq_getElem?_getD, List.getElem?_eq_getElem (by omega)]; exact List.getElem_mem _)
    have HAT := Lib.hid (fun W (hb : Below w.heap.size w W) => ratom_any S n hn64 ok op X Y _ _ hX hY hPX hPY hSn hops huse A1 A2 A3 A4 AX AY n1 c1 n2 c2 n3 c3 n4 c4 b5 o5 c5 cX cY (by omega) (by omega) W (hstr.below hb (Nat.le_refl _))
      (Nat.lt_of_lt_of_le hb5 hb.size) ((hb.cell (p := ⟨b5, _, none⟩) hb5).trans dX) ((hb.cell (p := ⟨b5, _, none⟩) hb5).trans dY) (lX.below hb (Nat.le_refl _)) (lY.below hb (Nat.le_refl _)))
    obtain ⟨R, hR⟩ : ∃ R, R = holdsT S (.leaf op X Y) a := ⟨_, rfl⟩
    have hRR : atomS S op (a.getD X 0) (a.getD Y 0) = R := by rw [hR]; rfl
    rw [← hR]
    rw [hRR] at HAT
    clear hR hRR hok hm hsg hi hcell hcell2 hop hfew huse hstr hvs hrows hrl hvl hcX hcY lX lY dX dY hPX hPY hbd ha hb5
    go_enter Tryd.func158, Tryd.ntmps158
    go_upto_region 2 with (fail)
    refine wp_abs (fun W => Row W w.heap.size 179 #[Value.int .i64 n, .slice A1 n1 c1, .slice A2 n2 c2, .slice A3 n3 c3, .slice A4 n4 c4] ∧ Row W (w.heap.size + 1) 23 #[Value.int .u8 op, .int .i64 X, .int .i64 Y, .int .i64 0, .int .i64 0] ∧ Below w.heap.size w W) ⟨(Row.new w _ _).alloc _, Row.lit (by simp only [World.size_alloc]), by go_grown⟩ ?_
    rintro W ⟨rs, rx, hb⟩
    have RS := Lib.hid rs; have RX := Lib.hid rx; have HB := Lib.hid hb
    have a0 := rs.cell; have x0 := rx.cell; have x1 := rx.lt; have a1 := rs.lt
    clear rs rx c0 c1' c2' c3' c4'
    clear hb
    go_wp2_with (go_at_call 192; go_must ((with_reducible refine (HAT.out _ HB.out).mono ?_); rintro e w1 ⟨rfl, hb1⟩; replace HB := Lib.hid (HB.out.trans (hb1.mono HB.out.size)); clear hb1))
    go_returns
    exact ⟨rfl, HB.out⟩
  | un op x t ih =>
    intro p i a vs rows w hok huse hfew hsg hi hv ha hbd hstr hvs hrows
    have hpos := t.size_pos
    have hip : i = p + t.size := by simp [Tr.size] at hi; omega
    obtain ⟨X, rfl, hX⟩ := un_var hok.1
    have hm : f[i]? = some ⟨op, X, 0, ((p + t.size - 1 : Nat) : Int), 0⟩ := by rw [hip]; exact hsg.un
    have hsa := hsg.un1
    have hops := nc1_op hok.1.2.1
    have hj1 : p + t.size - 1 + 1 = p + t.size := by omega
    have hrl : rows.length = 6 := by rw [hrows.1, List.length_map, ha]
    have HIH := Lib.hid (fun (k : Nat) (hk : k < 2 ^ n) A5 c5 W v1 (hb : Below w.heap.size w W) (hv1 : VS W v1 (rows.set X (.slice A5 n c5))) (hq : BLs W (.slice A5 n c5) (bitsL n k)) =>
      ih p (p + t.size - 1) (setV a X k) v1 (rows.set X (.slice A5 n c5)) W hok.2 huse hfew.2 hsa hj1 (hv.below hb (Nat.le_refl _)) (by simp [setV, ha]) (fun u hu => setV_mem hu hbd hk) (hstr.below hb (Nat.le_refl _)) hv1 (by rw [setV_bits]; exact (hrows.below hb (Nat.le_refl _)).set hq))
    have HI9 := Lib.hid (fun W (hb : Below w.heap.size w W) => ih p (p + t.size - 1) a vs rows W hok.2 huse hfew.2 hsa hj1 (hv.below hb (Nat.le_refl _)) ha hbd (hstr.below hb (Nat.le_refl _)) (hvs.below hb (Nat.le_refl _)) (hrows.below hb (Nat.le_refl _)))
    have HWI := Lib.hid (fun A5 c5 W (h : VS W vs rows) => with_any rows vs (.slice A5 n c5) X W h (by omega) (by omega) hrows.one ⟨_, _, _, rfl⟩)
    have HVS := Lib.hid hvs
    obtain ⟨hop, A, cc, rfl, hc, hc2, hcell⟩ := hv
    have hil : i < f.length := (List.getElem?_eq_some_iff.1 hm).1
    obtain ⟨b, o, rfl, hb, hcell2⟩ := hcell (by omega)
    obtain ⟨c0, c1', c2', c3', c4'⟩ := hcell2 i _ hm
    simp only at c0 c1' c2' c3' c4'
    generalize hJ : p + t.size - 1 = J at *
    obtain ⟨R, hR⟩ : ∃ R, R = holdsT S (.un op X t) a := ⟨_, rfl⟩
    rw [← hR]
    have HR := Lib.hid hR
    have HIHK := HIH
    clear HIH
    clear hR hcell hcell2 hop hm hJ hj1 hsa ih hsg hi hok hip hpos huse hstr hrows hbd ha hrl hvs
    rcases hops with rfl | rfl | rfl | rfl | rfl
    · have hr : R = !holdsT S t a := by rw [HR.out]; rfl
      have HRR := Lib.hid hr; clear hr hfew HR HIHK HWI
      obtain ⟨r, hr⟩ : ∃ r, r = holdsT S t a := ⟨_, rfl⟩
      rw [← hr] at HRR HI9
      clear hr
      go_enter Tryd.func158, Tryd.ntmps158
      go_upto_region 2 with (fail)
      refine wp_abs (fun W => Row W w.heap.size 179 #[Value.int .i64 n, .slice A1 n1 c1, .slice A2 n2 c2, .slice A3 n3 c3, .slice A4 n4 c4] ∧ Row W (w.heap.size + 1) 23 #[Value.int .u8 9, .int .i64 X, .int .i64 0, .int .i64 J, .int .i64 0] ∧ Below w.heap.size w W) ⟨(Row.new w _ _).alloc _, Row.lit (by simp only [World.size_alloc]), by go_grown⟩ ?_
      rintro W ⟨rs, rx, hb⟩
      have RS := Lib.hid rs; have RX := Lib.hid rx; have HB := Lib.hid hb
      have a0 := rs.cell; have x0 := rx.cell; have x1 := rx.lt; have a1 := rs.lt
      clear rs rx hb c0 c1' c2' c3' c4'
      go_wp2_with (go_at_call 158; go_must ((with_reducible refine (HI9.out _ HB.out).mono ?_); rintro e w1 ⟨rfl, hb1⟩; replace HB := Lib.hid (HB.out.trans (hb1.mono HB.out.size)); clear hb1))
      go_returns
      exact ⟨ret_bo HRR.out, HB.out⟩
    · have hr : R = (List.range (2 ^ n)).any (fun s => holdsT S t (setV a X s)) := by
        rw [HR.out]
        show (List.range (setN S.n)).any _ = _
        rw [hSn, setN_small n (hfew.1 (by omega))]
      have HRR := Lib.hid hr; clear hr HR
      have hn16 : n ≤ 16 := hfew.1 (by omega)
      obtain ⟨N, hN⟩ : ∃ N, N = 2 ^ n := ⟨_, rfl⟩
      have hN16 : N ≤ 65536 := by rw [hN]; exact Nat.pow_le_pow_right (by omega) hn16
      rw [← hN] at HRR HIHK
      have hsh : wrap64 (2 ^ n) = (N : Int) := by
        have h2 : ((2 : Int) ^ n) = (N : Int) := by rw [hN]; push_cast; rfl
        rw [h2]; exact IntWalk.wrap64_in _ ⟨by omega, by omega⟩
      clear hN hn16
      clear hfew
      go_enter Tryd.func158, Tryd.ntmps158
      go_upto_region 2 with (fail)
      refine wp_abs (fun W => Row W w.heap.size 179 #[Value.int .i64 n, .slice A1 n1 c1, .slice A2 n2 c2, .slice A3 n3 c3, .slice A4 n4 c4] ∧ Row W (w.heap.size + 1) 23 #[Value.int .u8 12, .int .i64 X, .int .i64 0, .int .i64 J, .int .i64 0] ∧ Below w.heap.size w W) ⟨(Row.new w _ _).alloc _, Row.lit (by simp only [World.size_alloc]), by go_grown⟩ ?_
      rintro W ⟨rs, rx, hb⟩
      have RS := Lib.hid rs; have RX := Lib.hid rx; have HB := Lib.hid hb
      have a0 := rs.cell; have x0 := rx.cell; have x1 := rx.lt; have a1 := rs.lt
      clear rs rx hb c0 c1' c2' c3' c4'
      go_upto_region 12 with (fail)
      go_loopg [10] N (fun gk q wr => ∃ k : Nat, k ≤ N ∧ gk = N - k ∧ q = .int .i64 k ∧ Row wr w.heap.size 179 #[Value.int .i64 n, .slice A1 n1 c1, .slice A2 n2 c2, .slice A3 n3 c3, .slice A4 n4 c4] ∧ Row wr (w.heap.size + 1) 23 #[Value.int .u8 12, .int .i64 X, .int .i64 0, .int .i64 J, .int .i64 0] ∧ Below w.heap.size w wr ∧ (List.range k).any (fun s => holdsT S t (setV a X s)) = false)
      case atStart => exact ⟨0, Nat.zero_le _, rfl, rfl, RS.out, RX.out, HB.out, rfl⟩
      case round =>
        obtain ⟨k, hk, rfl, rfl, rs, rx, hb, hacc⟩ := hrel
        clear RS RX HB a0 a1 x0 x1
        have RS := Lib.hid rs; have RX := Lib.hid rx; have HB := Lib.hid hb; have HC := Lib.hid hacc
        clear rs rx hb hacc
        have s0 := RS.out.cell 0; have x0 := RX.out.cell 0
        have l1 := RX.out.lt; have l2 := RS.out.lt
        simp only [List.getElem?_toArray, List.getElem?_cons_zero, List.getElem?_cons_succ] at s0 x0
        obtain ⟨wo, rfl⟩ : ∃ wo : World, wo = wr := ⟨_, rfl⟩
        by_cases hlt : k < N
        · have hltI : (k : Int) < N := by omega
          obtain ⟨r, hr⟩ : ∃ r : Bool, r = (fun s => holdsT S t (setV a X s)) k := ⟨_, rfl⟩
          have HIK : Hid (∀ A5 c5 W v1, Below w.heap.size w W → VS W v1 (rows.set X (.slice A5 n c5)) → BLs W (.slice A5 n c5) (bitsL n k) → Calls Tryd.prog 158 #[.agg #[.int .i64 n, .slice A1 n1 c1, .slice A2 n2 c2, .slice A3 n3 c3, .slice A4 n4 c4], .slice (some ⟨b, o, none⟩) f.length cc, .int .i64 J, v1] W fun e w' => e = .returned (.bool r) ∧ Below W.heap.size W w') := fun A5 c5 W v1 h1 h2 h3 => by rw [hr]; exact HIHK.out k hlt A5 c5 W v1 h1 h2 h3
          have HRk := Lib.hid hr; clear hr
          go_upto_region 16 with (fail)
          go_loopg [11, 12] n (fun gk q5 q6 wx => ∃ j : Nat, j ≤ n ∧ gk = n - j ∧ q6 = .int .i64 j ∧ Below wo.heap.size wo wx ∧ VO 4 wx wo.heap.size q5 ((bitsL j k).map Value.bool))
          case atStart => exact ⟨0, Nat.zero_le _, rfl, rfl, Below.refl _ _, VO.nil _ _ _⟩
          case round =>
            obtain ⟨j, hj, rfl, rfl, hbx, hox⟩ := hrel
            have HBX := Lib.hid hbx; have HOX := Lib.hid hox
            replace s0 := (hbx.cell (p := ⟨w.heap.size, 0, none⟩) l2).trans s0
            have hzs := hbx.size
            clear hbx hox
            by_cases hlt2 : j < n
            · obtain ⟨bt, hbt⟩ : ∃ bt, bt = k / 2 ^ j % 2 := ⟨_, rfl⟩
              have hb2 : bt < 2 := by omega
              have e1 : ((k : Int) / 2 ^ j).tmod 2 = (bt : Int) := by
                rw [Int.tmod_eq_emod_of_nonneg (Int.ediv_nonneg (by omega) (by exact_mod_cast Nat.zero_le (2 ^ j))), hbt]
                norm_cast
              obtain ⟨q, hq⟩ : ∃ q : Bool, q = decide (k / 2 ^ j % 2 = 1) := ⟨_, rfl⟩
              have e2 : ((bt : Int) == 1) = q := by rw [hq, ← hbt, Bool.eq_iff_iff]; simp; omega
              have HT : Hid (bitsL (j + 1) k = bitsL j k ++ [q]) := by rw [Hid, hq]; exact bitsL_succ j k
              have hll : ((bitsL j k).map Value.bool).length ≤ 64 := by simp [bitsL]; omega
              clear hbt hq
              go_wp2_with (at_builtin; go_must (refine wpList_append_vs elt_bool rfl (.tmp 78) (.tmp 84) rfl wo.heap.size u11 ((bitsL j k).map Value.bool) rfl (HOX.out.below (B' := wr.heap.size) (by go_grown) (Nat.le_refl _)) _ [Value.bool q] rfl (VS.lit (E := 4) (l := [Value.bool q]) (by first | exact Row.new _ _ _ | exact Row.lit (by simp only [World.size_alloc])) (by simp)) (by simp [Value.oneCell']) (by simp only [List.length_cons, List.length_nil]; omega) (by simp only [World.size_alloc]; omega) ?_; intro v3 w3 ho3 hg3 _))
              have HB3 := Lib.hid (own_below_v (w := wo) (by have h1 := HBX.out; go_grown) (HOX.out.below (B' := wr.heap.size) (by go_grown) (Nat.le_refl _)) hg3 (by simp only [World.size_alloc]; omega))
              have HO3 : Hid (VO 4 w3 wo.heap.size v3 ((bitsL (j + 1) k).map Value.bool)) := by rw [Hid, HT.out, List.map_append]; exact ho3
              clear ho3 hg3 e1 e2
              go_wp2
              go_roundg (n - (j + 1))
              case rel => exact ⟨j + 1, by omega, rfl, by go_num, HB3.out, HO3.out⟩
              case measure => omega
            · have hjn : j = n := by omega
              have hox := HOX.out
              rw [hjn] at hox
              obtain ⟨A5, c5, h5⟩ := hox.form
              have hm5 : ((bitsL n k).map Value.bool).length = n := by simp [bitsL]
              rw [hm5] at h5
              subst h5
              have HQ : Hid (BLs wr (.slice A5 n c5) (bitsL n k)) := hox.vs
              replace RS := Lib.hid (RS.out.below HBX.out RS.out.lt)
              replace RX := Lib.hid (RX.out.below HBX.out RX.out.lt)
              replace HB := Lib.hid (HB.out.trans (HBX.out.mono HB.out.size))
              clear hox hjn hm5 HBX HOX
              go_upto_region 19 with (fail)
              clear s0 x0 l1 l2
              have s0 := RS.out.cell 0; have s1 := RS.out.cell 1; have s2 := RS.out.cell 2; have s3 := RS.out.cell 3; have s4 := RS.out.cell 4; have x0 := RX.out.cell 0; have x1 := RX.out.cell 1; have x3 := RX.out.cell 3; have x4 := RX.out.cell 4
              have l1 := RX.out.lt; have l2 := RS.out.lt
              simp only [List.getElem?_toArray, List.getElem?_cons_zero, List.getElem?_cons_succ] at s0 s1 s2 s3 s4 x0 x1 x3 x4
              first
              | go_region_held3 (fun W => W.cell? ⟨w.heap.size, 0, none⟩ = some (.int .i64 n) ∧ W.cell? ⟨w.heap.size, 1, none⟩ = some (.slice A1 n1 c1) ∧ W.cell? ⟨w.heap.size, 2, none⟩ = some (.slice A2 n2 c2) ∧ W.cell? ⟨w.heap.size, 3, none⟩ = some (.slice A3 n3 c3) ∧ W.cell? ⟨w.heap.size, 4, none⟩ = some (.slice A4 n4 c4) ∧ W.cell? ⟨w.heap.size + 1, 0, none⟩ = some (.int .u8 12) ∧ W.cell? ⟨w.heap.size + 1, 1, none⟩ = some (.int .i64 X) ∧ W.cell? ⟨w.heap.size + 1, 3, none⟩ = some (.int .i64 J)) (first | exact cells8 RS.out RX.out | exact cells8 RS.out.drew RX.out.drew) (first
                | (go_at_call 191; (with_reducible refine (HWI.out A5 c5 _ (HVS.out.below HB.out.drew (Nat.le_refl _))).mono ?_); rintro e w1 ⟨v1, rfl, hb1, hv1⟩; have HV1 := Lib.hid hv1; replace RS := Lib.hid (RS.out.drew.below hb1 RS.out.lt); replace RX := Lib.hid (RX.out.drew.below hb1 RX.out.lt); replace HQ := Lib.hid (HQ.out.below (undrawn_h hb1) (Nat.le_refl _)); replace HB := Lib.hid (HB.out.drew.trans (hb1.mono HB.out.drew.size)); clear hb1 hv1)
                | (go_at_call 158; (with_reducible refine (HIK.out A5 c5 _ _ HB.out HV1.out HQ.out).mono ?_); rintro e w2 ⟨rfl, hb2⟩; replace RS := Lib.hid (RS.out.below hb2 RS.out.lt); replace RX := Lib.hid (RX.out.below hb2 RX.out.lt); replace HB := Lib.hid (HB.out.trans (hb2.mono HB.out.size)); clear hb2))
              | fail
              clear s0 s1 s2 s3 s4 x0 x1 x3 x4 l1 l2
              have s0 := RS.out.cell 0; have x0 := RX.out.cell 0
              have l1 := RX.out.lt; have l2 := RS.out.lt
              simp only [List.getElem?_toArray, List.getElem?_cons_zero, List.getElem?_cons_succ] at s0 x0
              cases r
              · go_wp2
                go_roundg (N - (k + 1))
                case rel => exact ⟨k + 1, by omega, rfl, by go_num, RS.out, RX.out, HB.out, by rw [any_snoc, HC.out, ← HRk.out]; rfl⟩
                case measure => omega
              · have hR : R = true := by rw [HRR.out]; exact any_hit hlt HRk.out.symm
                have HR0 := Lib.hid hR; clear hR
                go_wp2
                go_returns
                exact ⟨ret_bo HR0.out, HB.out⟩
        · have hkN : k = N := by omega
          have hR : R = false := by rw [HRR.out]; have hh := HC.out; rw [hkN] at hh; exact hh
          have HR0 := Lib.hid hR; clear hR
          subst hkN
          go_wp2
          go_returns
          exact ⟨ret_bo HR0.out, HB.out⟩
    · have hr : R = (List.range (2 ^ n)).all (fun s => holdsT S t (setV a X s)) := by
        rw [HR.out]
        show (List.range (setN S.n)).all _ = _
        rw [hSn, setN_small n (hfew.1 (by omega))]
      have HRR := Lib.hid hr; clear hr HR
      have hn16 : n ≤ 16 := hfew.1 (by omega)
      obtain ⟨N, hN⟩ : ∃ N, N = 2 ^ n := ⟨_, rfl⟩
      have hN16 : N ≤ 65536 := by rw [hN]; exact Nat.pow_le_pow_right (by omega) hn16
      rw [← hN] at HRR HIHK
      have hsh : wrap64 (2 ^ n) = (N : Int) := by
        have h2 : ((2 : Int) ^ n) = (N : Int) := by rw [hN]; push_cast; rfl
        rw [h2]; exact IntWalk.wrap64_in _ ⟨by omega, by omega⟩
      clear hN hn16
      clear hfew
      go_enter Tryd.func158, Tryd.ntmps158
      go_upto_region 2 with (fail)
      refine wp_abs (fun W => Row W w.heap.size 179 #[Value.int .i64 n, .slice A1 n1 c1, .slice A2 n2 c2, .slice A3 n3 c3, .slice A4 n4 c4] ∧ Row W (w.heap.size + 1) 23 #[Value.int .u8 13, .int .i64 X, .int .i64 0, .int .i64 J, .int .i64 0] ∧ Below w.heap.size w W) ⟨(Row.new w _ _).alloc _, Row.lit (by simp only [World.size_alloc]), by go_grown⟩ ?_
      rintro W ⟨rs, rx, hb⟩
      have RS := Lib.hid rs; have RX := Lib.hid rx; have HB := Lib.hid hb
      have a0 := rs.cell; have x0 := rx.cell; have x1 := rx.lt; have a1 := rs.lt
      clear rs rx hb c0 c1' c2' c3' c4'
      go_upto_region 12 with (fail)
      go_loopg [10] N (fun gk q wr => ∃ k : Nat, k ≤ N ∧ gk = N - k ∧ q = .int .i64 k ∧ Row wr w.heap.size 179 #[Value.int .i64 n, .slice A1 n1 c1, .slice A2 n2 c2, .slice A3 n3 c3, .slice A4 n4 c4] ∧ Row wr (w.heap.size + 1) 23 #[Value.int .u8 13, .int .i64 X, .int .i64 0, .int .i64 J, .int .i64 0] ∧ Below w.heap.size w wr ∧ (List.range k).all (fun s => holdsT S t (setV a X s)) = true)
      case atStart => exact ⟨0, Nat.zero_le _, rfl, rfl, RS.out, RX.out, HB.out, rfl⟩
      case round =>
        obtain ⟨k, hk, rfl, rfl, rs, rx, hb, hacc⟩ := hrel
        clear RS RX HB a0 a1 x0 x1
        have RS := Lib.hid rs; have RX := Lib.hid rx; have HB := Lib.hid hb; have HC := Lib.hid hacc
        clear rs rx hb hacc
        have s0 := RS.out.cell 0; have x0 := RX.out.cell 0
        have l1 := RX.out.lt; have l2 := RS.out.lt
        simp only [List.getElem?_toArray, List.getElem?_cons_zero, List.getElem?_cons_succ] at s0 x0
        obtain ⟨wo, rfl⟩ : ∃ wo : World, wo = wr := ⟨_, rfl⟩
        by_cases hlt : k < N
        · have hltI : (k : Int) < N := by omega
          obtain ⟨r, hr⟩ : ∃ r : Bool, r = (fun s => holdsT S t (setV a X s)) k := ⟨_, rfl⟩
          have HIK : Hid (∀ A5 c5 W v1, Below w.heap.size w W → VS W v1 (rows.set X (.slice A5 n c5)) → BLs W (.slice A5 n c5) (bitsL n k) → Calls Tryd.prog 158 #[.agg #[.int .i64 n, .slice A1 n1 c1, .slice A2 n2 c2, .slice A3 n3 c3, .slice A4 n4 c4], .slice (some ⟨b, o, none⟩) f.length cc, .int .i64 J, v1] W fun e w' => e = .returned (.bool r) ∧ Below W.heap.size W w') := fun A5 c5 W v1 h1 h2 h3 => by rw [hr]; exact HIHK.out k hlt A5 c5 W v1 h1 h2 h3
          have HRk := Lib.hid hr; clear hr
          go_upto_region 16 with (fail)
          go_loopg [11, 12] n (fun gk q5 q6 wx => ∃ j : Nat, j ≤ n ∧ gk = n - j ∧ q6 = .int .i64 j ∧ Below wo.heap.size wo wx ∧ VO 4 wx wo.heap.size q5 ((bitsL j k).map Value.bool))
          case atStart => exact ⟨0, Nat.zero_le _, rfl, rfl, Below.refl _ _, VO.nil _ _ _⟩
          case round =>
            obtain ⟨j, hj, rfl, rfl, hbx, hox⟩ := hrel
            have HBX := Lib.hid hbx; have HOX := Lib.hid hox
            replace s0 := (hbx.cell (p := ⟨w.heap.size, 0, none⟩) l2).trans s0
            have hzs := hbx.size
            clear hbx hox
            by_cases hlt2 : j < n
            · obtain ⟨bt, hbt⟩ : ∃ bt, bt = k / 2 ^ j % 2 := ⟨_, rfl⟩
              have hb2 : bt < 2 := by omega
              have e1 : ((k : Int) / 2 ^ j).tmod 2 = (bt : Int) := by
                rw [Int.tmod_eq_emod_of_nonneg (Int.ediv_nonneg (by omega) (by exact_mod_cast Nat.zero_le (2 ^ j))), hbt]
                norm_cast
              obtain ⟨q, hq⟩ : ∃ q : Bool, q = decide (k / 2 ^ j % 2 = 1) := ⟨_, rfl⟩
              have e2 : ((bt : Int) == 1) = q := by rw [hq, ← hbt, Bool.eq_iff_iff]; simp; omega
              have HT : Hid (bitsL (j + 1) k = bitsL j k ++ [q]) := by rw [Hid, hq]; exact bitsL_succ j k
              have hll : ((bitsL j k).map Value.bool).length ≤ 64 := by simp [bitsL]; omega
              clear hbt hq
              go_wp2_with (at_builtin; go_must (refine wpList_append_vs elt_bool rfl (.tmp 78) (.tmp 84) rfl wo.heap.size u11 ((bitsL j k).map Value.bool) rfl (HOX.out.below (B' := wr.heap.size) (by go_grown) (Nat.le_refl _)) _ [Value.bool q] rfl (VS.lit (E := 4) (l := [Value.bool q]) (by first | exact Row.new _ _ _ | exact Row.lit (by simp only [World.size_alloc])) (by simp)) (by simp [Value.oneCell']) (by simp only [List.length_cons, List.length_nil]; omega) (by simp only [World.size_alloc]; omega) ?_; intro v3 w3 ho3 hg3 _))
              have HB3 := Lib.hid (own_below_v (w := wo) (by have h1 := HBX.out; go_grown) (HOX.out.below (B' := wr.heap.size) (by go_grown) (Nat.le_refl _)) hg3 (by simp only [World.size_alloc]; omega))
              have HO3 : Hid (VO 4 w3 wo.heap.size v3 ((bitsL (j + 1) k).map Value.bool)) := by rw [Hid, HT.out, List.map_append]; exact ho3
              clear ho3 hg3 e1 e2
              go_wp2
              go_roundg (n - (j + 1))
              case rel => exact ⟨j + 1, by omega, rfl, by go_num, HB3.out, HO3.out⟩
              case measure => omega
            · have hjn : j = n := by omega
              have hox := HOX.out
              rw [hjn] at hox
              obtain ⟨A5, c5, h5⟩ := hox.form
              have hm5 : ((bitsL n k).map Value.bool).length = n := by simp [bitsL]
              rw [hm5] at h5
              subst h5
              have HQ : Hid (BLs wr (.slice A5 n c5) (bitsL n k)) := hox.vs
              replace RS := Lib.hid (RS.out.below HBX.out RS.out.lt)
              replace RX := Lib.hid (RX.out.below HBX.out RX.out.lt)
              replace HB := Lib.hid (HB.out.trans (HBX.out.mono HB.out.size))
              clear hox hjn hm5 HBX HOX
              go_upto_region 19 with (fail)
              clear s0 x0 l1 l2
              have s0 := RS.out.cell 0; have s1 := RS.out.cell 1; have s2 := RS.out.cell 2; have s3 := RS.out.cell 3; have s4 := RS.out.cell 4; have x0 := RX.out.cell 0; have x1 := RX.out.cell 1; have x3 := RX.out.cell 3; have x4 := RX.out.cell 4
              have l1 := RX.out.lt; have l2 := RS.out.lt
              simp only [List.getElem?_toArray, List.getElem?_cons_zero, List.getElem?_cons_succ] at s0 s1 s2 s3 s4 x0 x1 x3 x4
              first
              | go_region_held3 (fun W => W.cell? ⟨w.heap.size, 0, none⟩ = some (.int .i64 n) ∧ W.cell? ⟨w.heap.size, 1, none⟩ = some (.slice A1 n1 c1) ∧ W.cell? ⟨w.heap.size, 2, none⟩ = some (.slice A2 n2 c2) ∧ W.cell? ⟨w.heap.size, 3, none⟩ = some (.slice A3 n3 c3) ∧ W.cell? ⟨w.heap.size, 4, none⟩ = some (.slice A4 n4 c4) ∧ W.cell? ⟨w.heap.size + 1, 0, none⟩ = some (.int .u8 13) ∧ W.cell? ⟨w.heap.size + 1, 1, none⟩ = some (.int .i64 X) ∧ W.cell? ⟨w.heap.size + 1, 3, none⟩ = some (.int .i64 J)) (first | exact cells8 RS.out RX.out | exact cells8 RS.out.drew RX.out.drew) (first
                | (go_at_call 191; (with_reducible refine (HWI.out A5 c5 _ (HVS.out.below HB.out.drew (Nat.le_refl _))).mono ?_); rintro e w1 ⟨v1, rfl, hb1, hv1⟩; have HV1 := Lib.hid hv1; replace RS := Lib.hid (RS.out.drew.below hb1 RS.out.lt); replace RX := Lib.hid (RX.out.drew.below hb1 RX.out.lt); replace HQ := Lib.hid (HQ.out.below (undrawn_h hb1) (Nat.le_refl _)); replace HB := Lib.hid (HB.out.drew.trans (hb1.mono HB.out.drew.size)); clear hb1 hv1)
                | (go_at_call 158; (with_reducible refine (HIK.out A5 c5 _ _ HB.out HV1.out HQ.out).mono ?_); rintro e w2 ⟨rfl, hb2⟩; replace RS := Lib.hid (RS.out.below hb2 RS.out.lt); replace RX := Lib.hid (RX.out.below hb2 RX.out.lt); replace HB := Lib.hid (HB.out.trans (hb2.mono HB.out.size)); clear hb2))
              | fail
              clear s0 s1 s2 s3 s4 x0 x1 x3 x4 l1 l2
              have s0 := RS.out.cell 0; have x0 := RX.out.cell 0
              have l1 := RX.out.lt; have l2 := RS.out.lt
              simp only [List.getElem?_toArray, List.getElem?_cons_zero, List.getElem?_cons_succ] at s0 x0
              cases r
              · have hR : R = false := by rw [HRR.out]; exact all_miss hlt HRk.out.symm
                have HR0 := Lib.hid hR; clear hR
                go_wp2
                go_returns
                exact ⟨ret_bo HR0.out, HB.out⟩
              · go_wp2
                go_roundg (N - (k + 1))
                case rel => exact ⟨k + 1, by omega, rfl, by go_num, RS.out, RX.out, HB.out, by rw [all_snoc, HC.out, ← HRk.out]; rfl⟩
                case measure => omega
        · have hkN : k = N := by omega
          have hR : R = true := by rw [HRR.out]; have hh := HC.out; rw [hkN] at hh; exact hh
          have HR0 := Lib.hid hR; clear hR
          subst hkN
          go_wp2
          go_returns
          exact ⟨ret_bo HR0.out, HB.out⟩
    · have hr : R = (List.range n).any (fun p => holdsT S t (setV a X (2 ^ p))) := by
        rw [HR.out]
        show (List.range S.n).any _ = _
        rw [hSn]
      have HRR := Lib.hid hr; clear hr HR
      have hmk := run_make_vs elt_bool n (by omega)
      clear hfew
      go_enter Tryd.func158, Tryd.ntmps158
      go_upto_region 2 with (fail)
      refine wp_abs (fun W => Row W w.heap.size 179 #[Value.int .i64 n, .slice A1 n1 c1, .slice A2 n2 c2, .slice A3 n3 c3, .slice A4 n4 c4] ∧ Row W (w.heap.size + 1) 23 #[Value.int .u8 14, .int .i64 X, .int .i64 0, .int .i64 J, .int .i64 0] ∧ Below w.heap.size w W) ⟨(Row.new w _ _).alloc _, Row.lit (by simp only [World.size_alloc]), by go_grown⟩ ?_
      rintro W ⟨rs, rx, hb⟩
      have RS := Lib.hid rs; have RX := Lib.hid rx; have HB := Lib.hid hb
      have a0 := rs.cell; have x0 := rx.cell; have x1 := rx.lt; have a1 := rs.lt
      clear rs rx hb c0 c1' c2' c3' c4'
      go_upto_region 25 with (fail)
      go_loopg [13] n (fun gk q wr => ∃ k : Nat, k ≤ n ∧ gk = n - k ∧ q = .int .i64 k ∧ Row wr w.heap.size 179 #[Value.int .i64 n, .slice A1 n1 c1, .slice A2 n2 c2, .slice A3 n3 c3, .slice A4 n4 c4] ∧ Row wr (w.heap.size + 1) 23 #[Value.int .u8 14, .int .i64 X, .int .i64 0, .int .i64 J, .int .i64 0] ∧ Below w.heap.size w wr ∧ (List.range k).any (fun p => holdsT S t (setV a X (2 ^ p))) = false)
      case atStart => exact ⟨0, Nat.zero_le _, rfl, rfl, RS.out, RX.out, HB.out, rfl⟩
      case round =>
        obtain ⟨k, hk, rfl, rfl, rs, rx, hb, hacc⟩ := hrel
        clear RS RX HB a0 a1 x0 x1
        have RS := Lib.hid rs; have RX := Lib.hid rx; have HB := Lib.hid hb; have HC := Lib.hid hacc
        clear rs rx hb hacc
        have s0 := RS.out.cell 0; have x0 := RX.out.cell 0
        have l1 := RX.out.lt; have l2 := RS.out.lt
        simp only [List.getElem?_toArray, List.getElem?_cons_zero, List.getElem?_cons_succ] at s0 x0
        obtain ⟨wo, rfl⟩ : ∃ wo : World, wo = wr := ⟨_, rfl⟩
        by_cases hlt : k < n
        · have HLT := Lib.hid l1
          obtain ⟨r, hr⟩ : ∃ r : Bool, r = (fun p => holdsT S t (setV a X (2 ^ p))) k := ⟨_, rfl⟩
          have h2k : 2 ^ k < 2 ^ n := Nat.pow_lt_pow_right (by omega) hlt
          have HIK : Hid (∀ A5 c5 W v1, Below w.heap.size w W → VS W v1 (rows.set X (.slice A5 n c5)) → BLs W (.slice A5 n c5) (bitsL n (2 ^ k)) → Calls Tryd.prog 158 #[.agg #[.int .i64 n, .slice A1 n1 c1, .slice A2 n2 c2, .slice A3 n3 c3, .slice A4 n4 c4], .slice (some ⟨b, o, none⟩) f.length cc, .int .i64 J, v1] W fun e w' => e = .returned (.bool r) ∧ Below W.heap.size W w') := fun A5 c5 W v1 h1 h2 h3 => by rw [hr]; exact HIHK.out (2 ^ k) h2k A5 c5 W v1 h1 h2 h3
          have HRk := Lib.hid hr; clear hr h2k
          go_upto_region 28 with (fail)
          refine wp_abs (fun W => Row W w.heap.size 179 #[Value.int .i64 n, .slice A1 n1 c1, .slice A2 n2 c2, .slice A3 n3 c3, .slice A4 n4 c4] ∧ Row W (w.heap.size + 1) 23 #[Value.int .u8 14, .int .i64 X, .int .i64 0, .int .i64 J, .int .i64 0] ∧ Below w.heap.size w W ∧ VO 4 W wo.heap.size (.slice (some ⟨wo.heap.size, 0, none⟩) n n) (List.replicate n (.bool false))) ⟨RS.out.alloc _, RX.out.alloc _, HB.out.alloc HB.out.size _, VO.lit _ (by simp) (by omega) (fun u hu => by rw [List.eq_of_mem_replicate hu]; rfl)⟩ ?_
          rintro Wm ⟨rs, rx, hb, hvo⟩
          clear RS RX HB s0 x0 l1 l2
          have RS := Lib.hid rs; have RX := Lib.hid rx; have HB := Lib.hid hb; have HVO := Lib.hid hvo
          have hvc := hvo.vs.at (i := k) (m := .bool false) (by simp [hlt])
          rw [Nat.zero_add] at hvc
          obtain ⟨g0, cap0, cs0, hg0, -, hr0, -⟩ := hvo.row (by simp; omega)
          simp only [Value.slice.injEq, Option.some.injEq, Addr.mk.injEq] at hg0
          obtain ⟨⟨rfl, -, -⟩, -, -⟩ := hg0
          have hvf := hr0.free k
          have hbl : w.heap.size + 1 < wo.heap.size := HLT.out
          clear rs rx hb hvo hr0
          go_upto_region 29 with (fail)
          refine wp_abs (fun W => Row W w.heap.size 179 #[Value.int .i64 n, .slice A1 n1 c1, .slice A2 n2 c2, .slice A3 n3 c3, .slice A4 n4 c4] ∧ Row W (w.heap.size + 1) 23 #[Value.int .u8 14, .int .i64 X, .int .i64 0, .int .i64 J, .int .i64 0] ∧ Below w.heap.size w W ∧ BLs W (.slice (some ⟨wo.heap.size, 0, none⟩) n n) (bitsL n (2 ^ k))) ⟨RS.out.far (by simp; omega) _, RX.out.far (by simp; omega) _, HB.out.setCell (p := ⟨wo.heap.size, k, none⟩) (by simp; omega) _, by have := (set_val HVO.out (by simp) k (.bool true) rfl).vs; rw [bitsL_one n k hlt] at this; exact this⟩ ?_
          clear RS RX HB HVO hvc hvf
          rintro W5 ⟨rs, rx, hb, hlb⟩
          have RS := Lib.hid rs; have RX := Lib.hid rx; have HB := Lib.hid hb; have HQ := Lib.hid hlb
          clear rs rx hb hlb
          have s0 := RS.out.cell 0; have s1 := RS.out.cell 1; have s2 := RS.out.cell 2; have s3 := RS.out.cell 3; have s4 := RS.out.cell 4; have x0 := RX.out.cell 0; have x1 := RX.out.cell 1; have x3 := RX.out.cell 3; have x4 := RX.out.cell 4
          have l1 := RX.out.lt; have l2 := RS.out.lt
          simp only [List.getElem?_toArray, List.getElem?_cons_zero, List.getElem?_cons_succ] at s0 s1 s2 s3 s4 x0 x1 x3 x4
          first
          | go_region_held3 (fun W => W.cell? ⟨w.heap.size, 0, none⟩ = some (.int .i64 n) ∧ W.cell? ⟨w.heap.size, 1, none⟩ = some (.slice A1 n1 c1) ∧ W.cell? ⟨w.heap.size, 2, none⟩ = some (.slice A2 n2 c2) ∧ W.cell? ⟨w.heap.size, 3, none⟩ = some (.slice A3 n3 c3) ∧ W.cell? ⟨w.heap.size, 4, none⟩ = some (.slice A4 n4 c4) ∧ W.cell? ⟨w.heap.size + 1, 0, none⟩ = some (.int .u8 14) ∧ W.cell? ⟨w.heap.size + 1, 1, none⟩ = some (.int .i64 X) ∧ W.cell? ⟨w.heap.size + 1, 3, none⟩ = some (.int .i64 J)) (first | exact cells8 RS.out RX.out | exact cells8 RS.out.drew RX.out.drew) (first
            | (go_at_call 191; (with_reducible refine (HWI.out (some ⟨wo.heap.size, 0, none⟩) n _ (HVS.out.below HB.out.drew (Nat.le_refl _))).mono ?_); rintro e w1 ⟨v1, rfl, hb1, hv1⟩; have HV1 := Lib.hid hv1; replace RS := Lib.hid (RS.out.drew.below hb1 RS.out.lt); replace RX := Lib.hid (RX.out.drew.below hb1 RX.out.lt); replace HQ := Lib.hid (HQ.out.below (undrawn_h hb1) (Nat.le_refl _)); replace HB := Lib.hid (HB.out.drew.trans (hb1.mono HB.out.drew.size)); clear hb1 hv1)
            | (go_at_call 158; (with_reducible refine (HIK.out (some ⟨wo.heap.size, 0, none⟩) n _ _ HB.out HV1.out HQ.out).mono ?_); rintro e w2 ⟨rfl, hb2⟩; replace RS := Lib.hid (RS.out.below hb2 RS.out.lt); replace RX := Lib.hid (RX.out.below hb2 RX.out.lt); replace HB := Lib.hid (HB.out.trans (hb2.mono HB.out.size)); clear hb2))
          | fail
          clear s0 s1 s2 s3 s4 x0 x1 x3 x4 l1 l2
          have s0 := RS.out.cell 0; have x0 := RX.out.cell 0
          have l1 := RX.out.lt; have l2 := RS.out.lt
          simp only [List.getElem?_toArray, List.getElem?_cons_zero, List.getElem?_cons_succ] at s0 x0
          cases r
          · go_wp2
            go_roundg (n - (k + 1))
            case rel => exact ⟨k + 1, by omega, rfl, by go_num, RS.out, RX.out, HB.out, by rw [any_snoc, HC.out, ← HRk.out]; rfl⟩
            case measure => omega
          · have hR : R = true := by rw [HRR.out]; exact any_hit hlt HRk.out.symm
            have HR0 := Lib.hid hR; clear hR
            go_wp2
            go_returns
            exact ⟨ret_bo HR0.out, HB.out⟩
        · have hkN : k = n := by omega
          have hR : R = false := by rw [HRR.out]; have hh := HC.out; rw [hkN] at hh; exact hh
          have HR0 := Lib.hid hR; clear hR
          subst hkN
          go_wp2
          go_returns
          exact ⟨ret_bo HR0.out, HB.out⟩
    · have hr : R = (List.range n).all (fun p => holdsT S t (setV a X (2 ^ p))) := by
        rw [HR.out]
        show (List.range S.n).all _ = _
        rw [hSn]
      have HRR := Lib.hid hr; clear hr HR
      have hmk := run_make_vs elt_bool n (by omega)
      clear hfew
      go_enter Tryd.func158, Tryd.ntmps158
      go_upto_region 2 with (fail)
      refine wp_abs (fun W => Row W w.heap.size 179 #[Value.int .i64 n, .slice A1 n1 c1, .slice A2 n2 c2, .slice A3 n3 c3, .slice A4 n4 c4] ∧ Row W (w.heap.size + 1) 23 #[Value.int .u8 15, .int .i64 X, .int .i64 0, .int .i64 J, .int .i64 0] ∧ Below w.heap.size w W) ⟨(Row.new w _ _).alloc _, Row.lit (by simp only [World.size_alloc]), by go_grown⟩ ?_
      rintro W ⟨rs, rx, hb⟩
      have RS := Lib.hid rs; have RX := Lib.hid rx; have HB := Lib.hid hb
      have a0 := rs.cell; have x0 := rx.cell; have x1 := rx.lt; have a1 := rs.lt
      clear rs rx hb c0 c1' c2' c3' c4'
      go_upto_region 25 with (fail)
      go_loopg [13] n (fun gk q wr => ∃ k : Nat, k ≤ n ∧ gk = n - k ∧ q = .int .i64 k ∧ Row wr w.heap.size 179 #[Value.int .i64 n, .slice A1 n1 c1, .slice A2 n2 c2, .slice A3 n3 c3, .slice A4 n4 c4] ∧ Row wr (w.heap.size + 1) 23 #[Value.int .u8 15, .int .i64 X, .int .i64 0, .int .i64 J, .int .i64 0] ∧ Below w.heap.size w wr ∧ (List.range k).all (fun p => holdsT S t (setV a X (2 ^ p))) = true)
      case atStart => exact ⟨0, Nat.zero_le _, rfl, rfl, RS.out, RX.out, HB.out, rfl⟩
      case round =>
        obtain ⟨k, hk, rfl, rfl, rs, rx, hb, hacc⟩ := hrel
        clear RS RX HB a0 a1 x0 x1
        have RS := Lib.hid rs; have RX := Lib.hid rx; have HB := Lib.hid hb; have HC := Lib.hid hacc
        clear rs rx hb hacc
        have s0 := RS.out.cell 0; have x0 := RX.out.cell 0
        have l1 := RX.out.lt; have l2 := RS.out.lt
        simp only [List.getElem?_toArray, List.getElem?_cons_zero, List.getElem?_cons_succ] at s0 x0
        obtain ⟨wo, rfl⟩ : ∃ wo : World, wo = wr := ⟨_, rfl⟩
        by_cases hlt : k < n
        · have HLT := Lib.hid l1
          obtain ⟨r, hr⟩ : ∃ r : Bool, r = (fun p => holdsT S t (setV a X (2 ^ p))) k := ⟨_, rfl⟩
          have h2k : 2 ^ k < 2 ^ n := Nat.pow_lt_pow_right (by omega) hlt
          have HIK : Hid (∀ A5 c5 W v1, Below w.heap.size w W → VS W v1 (rows.set X (.slice A5 n c5)) → BLs W (.slice A5 n c5) (bitsL n (2 ^ k)) → Calls Tryd.prog 158 #[.agg #[.int .i64 n, .slice A1 n1 c1, .slice A2 n2 c2, .slice A3 n3 c3, .slice A4 n4 c4], .slice (some ⟨b, o, none⟩) f.length cc, .int .i64 J, v1] W fun e w' => e = .returned (.bool r) ∧ Below W.heap.size W w') := fun A5 c5 W v1 h1 h2 h3 => by rw [hr]; exact HIHK.out (2 ^ k) h2k A5 c5 W v1 h1 h2 h3
          have HRk := Lib.hid hr; clear hr h2k
          go_upto_region 28 with (fail)
          refine wp_abs (fun W => Row W w.heap.size 179 #[Value.int .i64 n, .slice A1 n1 c1, .slice A2 n2 c2, .slice A3 n3 c3, .slice A4 n4 c4] ∧ Row W (w.heap.size + 1) 23 #[Value.int .u8 15, .int .i64 X, .int .i64 0, .int .i64 J, .int .i64 0] ∧ Below w.heap.size w W ∧ VO 4 W wo.heap.size (.slice (some ⟨wo.heap.size, 0, none⟩) n n) (List.replicate n (.bool false))) ⟨RS.out.alloc _, RX.out.alloc _, HB.out.alloc HB.out.size _, VO.lit _ (by simp) (by omega) (fun u hu => by rw [List.eq_of_mem_replicate hu]; rfl)⟩ ?_
          rintro Wm ⟨rs, rx, hb, hvo⟩
          clear RS RX HB s0 x0 l1 l2
          have RS := Lib.hid rs; have RX := Lib.hid rx; have HB := Lib.hid hb; have HVO := Lib.hid hvo
          have hvc := hvo.vs.at (i := k) (m := .bool false) (by simp [hlt])
          rw [Nat.zero_add] at hvc
          obtain ⟨g0, cap0, cs0, hg0, -, hr0, -⟩ := hvo.row (by simp; omega)
          simp only [Value.slice.injEq, Option.some.injEq, Addr.mk.injEq] at hg0
          obtain ⟨⟨rfl, -, -⟩, -, -⟩ := hg0
          have hvf := hr0.free k
          have hbl : w.heap.size + 1 < wo.heap.size := HLT.out
          clear rs rx hb hvo hr0
          go_upto_region 29 with (fail)
          refine wp_abs (fun W => Row W w.heap.size 179 #[Value.int .i64 n, .slice A1 n1 c1, .slice A2 n2 c2, .slice A3 n3 c3, .slice A4 n4 c4] ∧ Row W (w.heap.size + 1) 23 #[Value.int .u8 15, .int .i64 X, .int .i64 0, .int .i64 J, .int .i64 0] ∧ Below w.heap.size w W ∧ BLs W (.slice (some ⟨wo.heap.size, 0, none⟩) n n) (bitsL n (2 ^ k))) ⟨RS.out.far (by simp; omega) _, RX.out.far (by simp; omega) _, HB.out.setCell (p := ⟨wo.heap.size, k, none⟩) (by simp; omega) _, by have := (set_val HVO.out (by simp) k (.bool true) rfl).vs; rw [bitsL_one n k hlt] at this; exact this⟩ ?_
          clear RS RX HB HVO hvc hvf
          rintro W5 ⟨rs, rx, hb, hlb⟩
          have RS := Lib.hid rs; have RX := Lib.hid rx; have HB := Lib.hid hb; have HQ := Lib.hid hlb
          clear rs rx hb hlb
          have s0 := RS.out.cell 0; have s1 := RS.out.cell 1; have s2 := RS.out.cell 2; have s3 := RS.out.cell 3; have s4 := RS.out.cell 4; have x0 := RX.out.cell 0; have x1 := RX.out.cell 1; have x3 := RX.out.cell 3; have x4 := RX.out.cell 4
          have l1 := RX.out.lt; have l2 := RS.out.lt
          simp only [List.getElem?_toArray, List.getElem?_cons_zero, List.getElem?_cons_succ] at s0 s1 s2 s3 s4 x0 x1 x3 x4
          first
          | go_region_held3 (fun W => W.cell? ⟨w.heap.size, 0, none⟩ = some (.int .i64 n) ∧ W.cell? ⟨w.heap.size, 1, none⟩ = some (.slice A1 n1 c1) ∧ W.cell? ⟨w.heap.size, 2, none⟩ = some (.slice A2 n2 c2) ∧ W.cell? ⟨w.heap.size, 3, none⟩ = some (.slice A3 n3 c3) ∧ W.cell? ⟨w.heap.size, 4, none⟩ = some (.slice A4 n4 c4) ∧ W.cell? ⟨w.heap.size + 1, 0, none⟩ = some (.int .u8 15) ∧ W.cell? ⟨w.heap.size + 1, 1, none⟩ = some (.int .i64 X) ∧ W.cell? ⟨w.heap.size + 1, 3, none⟩ = some (.int .i64 J)) (first | exact cells8 RS.out RX.out | exact cells8 RS.out.drew RX.out.drew) (first
            | (go_at_call 191; (with_reducible refine (HWI.out (some ⟨wo.heap.size, 0, none⟩) n _ (HVS.out.below HB.out.drew (Nat.le_refl _))).mono ?_); rintro e w1 ⟨v1, rfl, hb1, hv1⟩; have HV1 := Lib.hid hv1; replace RS := Lib.hid (RS.out.drew.below hb1 RS.out.lt); replace RX := Lib.hid (RX.out.drew.below hb1 RX.out.lt); replace HQ := Lib.hid (HQ.out.below (undrawn_h hb1) (Nat.le_refl _)); replace HB := Lib.hid (HB.out.drew.trans (hb1.mono HB.out.drew.size)); clear hb1 hv1)
            | (go_at_call 158; (with_reducible refine (HIK.out (some ⟨wo.heap.size, 0, none⟩) n _ _ HB.out HV1.out HQ.out).mono ?_); rintro e w2 ⟨rfl, hb2⟩; replace RS := Lib.hid (RS.out.below hb2 RS.out.lt); replace RX := Lib.hid (RX.out.below hb2 RX.out.lt); replace HB := Lib.hid (HB.out.trans (hb2.mono HB.out.size)); clear hb2))
          | fail
          clear s0 s1 s2 s3 s4 x0 x1 x3 x4 l1 l2
          have s0 := RS.out.cell 0; have x0 := RX.out.cell 0
          have l1 := RX.out.lt; have l2 := RS.out.lt
          simp only [List.getElem?_toArray, List.getElem?_cons_zero, List.getElem?_cons_succ] at s0 x0
          cases r
          · have hR : R = false := by rw [HRR.out]; exact all_miss hlt HRk.out.symm
            have HR0 := Lib.hid hR; clear hR
            go_wp2
            go_returns
            exact ⟨ret_bo HR0.out, HB.out⟩
          · go_wp2
            go_roundg (n - (k + 1))
            case rel => exact ⟨k + 1, by omega, rfl, by go_num, RS.out, RX.out, HB.out, by rw [all_snoc, HC.out, ← HRk.out]; rfl⟩
            case measure => omega
        · have hkN : k = n := by omega
          have hR : R = true := by rw [HRR.out]; have hh := HC.out; rw [hkN] at hh; exact hh
          have HR0 := Lib.hid hR; clear hR
          subst hkN
          go_wp2
          go_returns
          exact ⟨ret_bo HR0.out, HB.out⟩
  | bin op t u iht ihu =>
    intro p i a vs rows w hok huse hfew hsg hi hv ha hbd hstr hvs hrows
    have hpa := t.size_pos; have hpb := u.size_pos
    have hip : i = p + t.size + u.size := by simp [Tr.size] at hi; omega
    have hm : f[i]? = some ⟨op, 0, 0, ((p + t.size - 1 : Nat) : Int), ((p + t.size + u.size - 1 : Nat) : Int)⟩ := by rw [hip]; exact hsg.bin
    have hops := nc2_op hok.1
    have hj1 : p + t.size - 1 + 1 = p + t.size := by omega
    have hj2 : p + t.size + u.size - 1 + 1 = p + t.size + u.size := by omega
    have HIA := Lib.hid (fun W (hb : Below w.heap.size w W) => iht p (p + t.size - 1) a vs rows W hok.2.1 huse.1 hfew.1 hsg.bin1 hj1 (hv.below hb (Nat.le_refl _)) ha hbd (hstr.below hb (Nat.le_refl _)) (hvs.below hb (Nat.le_refl _)) (hrows.below hb (Nat.le_refl _)))
    have HIB := Lib.hid (fun W (hb : Below w.heap.size w W) => ihu (p + t.size) (p + t.size + u.size - 1) a vs rows W hok.2.2 huse.2 hfew.2 hsg.bin2 hj2 (hv.below hb (Nat.le_refl _)) ha hbd (hstr.below hb (Nat.le_refl _)) (hvs.below hb (Nat.le_refl _)) (hrows.below hb (Nat.le_refl _)))
    obtain ⟨hop, A, cc, rfl, hc, hc2, hcell⟩ := hv
    have hil : i < f.length := (List.getElem?_eq_some_iff.1 hm).1
    obtain ⟨b, o, rfl, hb, hcell2⟩ := hcell (by omega)
    obtain ⟨c0, c1', c2', c3', c4'⟩ := hcell2 i _ hm
    simp only at c0 c1' c2' c3' c4'
    generalize hJ1 : p + t.size - 1 = J1 at *
    generalize hJ2 : p + t.size + u.size - 1 = J2 at *
    obtain ⟨R, hR⟩ : ∃ R, R = holdsT S (.bin op t u) a := ⟨_, rfl⟩
    rw [← hR]
    have HR := Lib.hid hR
    clear hR hcell hcell2 hop hm hJ1 hJ2 hj1 hj2 iht ihu hsg hi hok hip hpa hpb huse hstr hrows hbd ha hvs hfew
    obtain ⟨r, hr⟩ : ∃ r, r = holdsT S t a := ⟨_, rfl⟩
    obtain ⟨s, hs⟩ : ∃ s, s = holdsT S u a := ⟨_, rfl⟩
    rw [← hr] at HIA
    rw [← hs] at HIB
    have h10 : Hid (op = 10 → R = (r && s)) := fun h => by rw [HR.out, h, hr, hs]; rfl
    have h11 : Hid (op = 11 → R = (r || s)) := fun h => by rw [HR.out, h, hr, hs]; rfl
    clear hr hs HR
    rcases hops with rfl | rfl
    · have hr := h10.out rfl
      have HRR := Lib.hid hr; clear hr h10 h11
      cases r
      all_goals
        go_enter Tryd.func158, Tryd.ntmps158
        go_upto_region 2 with (fail)
        refine wp_abs (fun W => Row W w.heap.size 179 #[Value.int .i64 n, .slice A1 n1 c1, .slice A2 n2 c2, .slice A3 n3 c3, .slice A4 n4 c4] ∧ Row W (w.heap.size + 1) 23 #[Value.int .u8 10, .int .i64 0, .int .i64 0, .int .i64 J1, .int .i64 J2] ∧ Below w.heap.size w W) ⟨(Row.new w _ _).alloc _, Row.lit (by simp only [World.size_alloc]), by go_grown⟩ ?_
        rintro W ⟨rs, rx, hb⟩
        have RS := Lib.hid rs; have RX := Lib.hid rx; have HB := Lib.hid hb
        have a0 := rs.cell; have x0 := rx.cell; have x1 := rx.lt; have a1 := rs.lt
        clear rs rx hb c0 c1' c2' c3' c4'
        go_wp2_with (first
          | (go_at_call 158; ((with_reducible refine (HIA.out _ HB.out).mono ?_); rintro e w1 ⟨rfl, hb1⟩; replace RX := Lib.hid (RX.out.below hb1 RX.out.lt); replace RS := Lib.hid (RS.out.below hb1 RS.out.lt); replace x0 := RX.out.cell; replace a0 := RS.out.cell; replace x1 := RX.out.lt; replace a1 := RS.out.lt; replace HB := Lib.hid (HB.out.trans (hb1.mono HB.out.size)); clear hb1))
          | (go_at_call 158; ((with_reducible refine (HIB.out _ HB.out).mono ?_); rintro e w1 ⟨rfl, hb1⟩; replace RX := Lib.hid (RX.out.below hb1 RX.out.lt); replace RS := Lib.hid (RS.out.below hb1 RS.out.lt); replace x0 := RX.out.cell; replace a0 := RS.out.cell; replace x1 := RX.out.lt; replace a1 := RS.out.lt; replace HB := Lib.hid (HB.out.trans (hb1.mono HB.out.size)); clear hb1)))
        go_returns
        exact ⟨ret_bo (by rw [HRR.out]; first | rfl | simp), HB.out⟩
    · have hr := h11.out rfl
      have HRR := Lib.hid hr; clear hr h10 h11
      cases r
      all_goals
        go_enter Tryd.func158, Tryd.ntmps158
        go_upto_region 2 with (fail)
        refine wp_abs (fun W => Row W w.heap.size 179 #[Value.int .i64 n, .slice A1 n1 c1, .slice A2 n2 c2, .slice A3 n3 c3, .slice A4 n4 c4] ∧ Row W (w.heap.size + 1) 23 #[Value.int .u8 11, .int .i64 0, .int .i64 0, .int .i64 J1, .int .i64 J2] ∧ Below w.heap.size w W) ⟨(Row.new w _ _).alloc _, Row.lit (by simp only [World.size_alloc]), by go_grown⟩ ?_
        rintro W ⟨rs, rx, hb⟩
        have RS := Lib.hid rs; have RX := Lib.hid rx; have HB := Lib.hid hb
        have a0 := rs.cell; have x0 := rx.cell; have x1 := rx.lt; have a1 := rs.lt
        clear rs rx hb c0 c1' c2' c3' c4'
        go_wp2_with (first
          | (go_at_call 158; ((with_reducible refine (HIA.out _ HB.out).mono ?_); rintro e w1 ⟨rfl, hb1⟩; replace RX := Lib.hid (RX.out.below hb1 RX.out.lt); replace RS := Lib.hid (RS.out.below hb1 RS.out.lt); replace x0 := RX.out.cell; replace a0 := RS.out.cell; replace x1 := RX.out.lt; replace a1 := RS.out.lt; replace HB := Lib.hid (HB.out.trans (hb1.mono HB.out.size)); clear hb1))
          | (go_at_call 158; ((with_reducible refine (HIB.out _ HB.out).mono ?_); rintro e w1 ⟨rfl, hb1⟩; replace RX := Lib.hid (RX.out.below hb1 RX.out.lt); replace RS := Lib.hid (RS.out.below hb1 RS.out.lt); replace x0 := RX.out.cell; replace a0 := RS.out.cell; replace x1 := RX.out.lt; replace a1 := RS.out.lt; replace HB := Lib.hid (HB.out.trans (hb1.mono HB.out.size)); clear hb1)))
        go_returns
        exact ⟨ret_bo (by rw [HRR.out]; first | rfl | simp), HB.out⟩
end Go.Proofs.YtgeklibilgfjbaaDoor

namespace Go.Proofs.YtgeklibilgfjbaaDoor
open Go.RowKit

theorem uses_enc (ok : Int → Bool) : ∀ (t : Tr) (p : Nat), (∀ m ∈ t.enc p, m.op ≤ 4 ∨ 9 ≤ m.op ∨ ok m.op = true) → t.ok → Uses ok t := by
  intro t
  induction t with
  | leaf op x y =>
    intro p h hok
    have h1 := leaf_ops hok
    have h2 := h ⟨op, x, y, 0, 0⟩ (by simp [Tr.enc])
    simp only at h2
    rcases h2 with h2 | h2 | h2
    · exact .inl h2
    · omega
    · exact .inr h2
  | un op x a ih => intro p h hok; exact ih p (fun m hm => h m (by simp only [Tr.enc, List.mem_append]; exact .inl hm)) hok.2
  | bin op a b iha ihb =>
    intro p h hok
    exact ⟨iha p (fun m hm => h m (by simp only [Tr.enc, List.mem_append]; exact .inl hm)) hok.2.1, ihb (p + a.size) (fun m hm => h m (by simp only [Tr.enc, List.mem_append]; exact .inr (.inl hm))) hok.2.2⟩
def okW (op : Int) : Bool := decide (op = 5) || decide (op = 6)
def okT (op : Int) : Bool := decide (op = 6) || decide (op = 7) || decide (op = 8)
theorem uses_word {f : List Mk} {vars : Int} (h : checkS f vars false = 0) : Uses okW (treeOf f) := by
  obtain ⟨_, hf, hn⟩ := (check_iff f vars false).1 h
  obtain ⟨_, ok, _, he⟩ := treeOf_ok hf
  refine uses_enc okW _ 0 (fun m hm => ?_) ok
  rw [← he] at hm
  have := (hn m hm).1
  simp only [knows, Bool.false_eq_true, if_false, Bool.and_eq_true, decide_eq_true_eq] at this
  simp only [okW, Bool.or_eq_true, decide_eq_true_eq]
  omega
theorem uses_tree {f : List Mk} {vars : Int} (h : checkS f vars true = 0) : Uses okT (treeOf f) := by
  obtain ⟨_, hf, hn⟩ := (check_iff f vars true).1 h
  obtain ⟨_, ok, _, he⟩ := treeOf_ok hf
  refine uses_enc okT _ 0 (fun m hm => ?_) ok
  rw [← he] at hm
  have := (hn m hm).1
  simp only [knows, if_true, decide_eq_true_eq] at this
  simp only [okT, Bool.or_eq_true, decide_eq_true_eq]
  omega
theorem sg_tree {f : List Mk} (h : formedS f = true) : Sg f 0 (treeOf f) ∧ (f.length - 1) + 1 = 0 + (treeOf f).size := by
  obtain ⟨_, ok, hs, he⟩ := treeOf_ok h
  have hp := (treeOf f).size_pos
  exact ⟨fun j hj => by rw [Nat.zero_add, ← he], by omega⟩
theorem rcost_formed {f : List Mk} (hf : formedS f = true) (n : Nat) (hn : n ≤ 64) (v : Value) (w : World) (hv : MS w v f) :
    Calls Tryd.prog 157 #[v, .int .i64 ((f.length - 1 : Nat) : Int), .int .i64 n] w fun e w' => e = .returned (.int .i64 (costT n (treeOf f) : Nat)) ∧ Below w.heap.size w w' :=
  rcost_any n hn f v (treeOf f) 0 (f.length - 1) w (treeOf_ok hf).2.1 (sg_tree hf).1 (sg_tree hf).2 hv

theorem ret_cost2 {R : Int × Int} {b k : Int} (h : R = (b, k)) : Ending.returned (.tuple #[.int .i64 b, .int .i64 k]) = Ending.returned (.tuple #[.int .i64 R.1, .int .i64 R.2]) := by rw [h]
theorem ret_fst2 {R : Bool × Int} {b : Bool} {k : Int} (h : R = (b, k)) : Ending.returned (.tuple #[.bool b, .int .i64 k]) = Ending.returned (.tuple #[.bool R.1, .int .i64 R.2]) := by rw [h]
set_option maxRecDepth 100000 in
set_option maxHeartbeats 2000000 in
theorem RCost_any (f : List Mk) (v : Value) (n : Int) (w : World) (hv : MS w v f) :
    Calls Tryd.prog 82 #[v, .int .i64 n] w fun e w' => e = .returned (.tuple #[.int .i64 (modelCostS f n).1, .int .i64 (modelCostS f n).2]) ∧ Below w.heap.size w w' := by
  have HV := Lib.hid hv
  obtain ⟨_, Af, cf, rfl, hcf, hcf2, _⟩ := hv
  obtain ⟨R, hR⟩ : ∃ R, R = modelCostS f n := ⟨_, rfl⟩
  rw [← hR]
  unfold modelCostS at hR
  by_cases hn1 : n < 0
  · have HRR : Hid (R = (0, 1)) := by rw [Hid, hR, if_pos (.inl hn1)]
    clear hR
    go_enter Tryd.func82, Tryd.ntmps82
    go_wp2
    go_returns
    exact ⟨ret_cost2 HRR.out, Below.refl _ _⟩
  by_cases hn2 : 64 < n
  · have HRR : Hid (R = (0, 1)) := by rw [Hid, hR, if_pos (.inr hn2)]
    clear hR
    go_enter Tryd.func82, Tryd.ntmps82
    go_wp2
    go_returns
    exact ⟨ret_cost2 HRR.out, Below.refl _ _⟩
  rw [if_neg (by omega)] at hR
  obtain ⟨M, rfl⟩ : ∃ M : Nat, n = M := ⟨n.toNat, by omega⟩
  have hFM := fun W (hW : MS W (.slice Af f.length cf) f) => RFormed_any f _ W hW
  cases hf : formedS f
  · have HRR : Hid (R = (0, 2)) := by rw [Hid, hR, hf]; rfl
    rw [hf] at hFM
    have HFM := Lib.hid hFM
    clear hR hFM hf
    go_enter Tryd.func82, Tryd.ntmps82
    go_wp2_with (go_at_call 134; go_must ((with_reducible refine (HFM.out _ HV.out).mono ?_); rintro e w1 ⟨rfl, hb1⟩; have HB := Lib.hid hb1; clear hb1))
    go_returns
    exact ⟨ret_cost2 HRR.out, HB.out⟩
  · rw [hf] at hR hFM
    have HFM := Lib.hid hFM
    have hl := formed_len f hf
    obtain ⟨C, hC⟩ : ∃ C, C = costT M (treeOf f) := ⟨_, rfl⟩
    rw [Int.toNat_natCast, ← hC] at hR
    have HRR : Hid (R = ((C : Int), 0)) := by rw [Hid, hR]; rfl
    have hCO := fun W (hW : MS W (.slice Af f.length cf) f) => rcost_formed hf M (by omega) _ W hW
    rw [← hC] at hCO
    obtain ⟨N, hN⟩ : ∃ N, N = f.length := ⟨_, rfl⟩
    rw [← hN] at HV hcf hCO hl HFM ⊢
    obtain ⟨N', hN'⟩ : ∃ N', N' = N - 1 := ⟨_, rfl⟩
    rw [← hN'] at hCO
    have hlast : (N : Int) - 1 = (N' : Int) := by omega
    have HCO := Lib.hid hCO
    clear hR hFM hf hC hN hN' hCO
    go_enter Tryd.func82, Tryd.ntmps82
    go_wp2_with (first
      | (go_at_call 134; go_must ((with_reducible refine (HFM.out _ HV.out).mono ?_); rintro e w1 ⟨rfl, hb1⟩; have HB := Lib.hid hb1; clear hb1))
      | (go_at_call 157; go_must ((with_reducible refine (HCO.out _ (HV.out.below HB.out (Nat.le_refl _))).mono ?_); rintro e w2 ⟨rfl, hb2⟩; replace HB := Lib.hid (HB.out.trans (hb2.mono HB.out.size)); clear hb2)))
    go_returns
    exact ⟨ret_cost2 HRR.out, HB.out⟩

theorem badL_le (V x : Nat) : badL (V : Int) x = decide (2 ^ V ≤ x) := by
  rw [Bool.eq_iff_iff]
  simp only [badL, Int.toNat_natCast, decide_eq_true_eq]
  have hp : 0 < 2 ^ V := Nat.pos_of_ne_zero (by simp)
  have : ((x : Int) / 2 ^ V) = ((x / 2 ^ V : Nat) : Int) := by norm_cast
  rw [this]
  constructor
  · intro h
    have : x / 2 ^ V ≠ 0 := by omega
    exact Nat.not_lt.1 fun hlt => this (Nat.div_eq_of_lt hlt)
  · intro h
    have : 0 < x / 2 ^ V := Nat.div_pos h hp
    omega
/-- The structure of a word. -/
theorem word_ok {w : World} {n : Nat} {A1 A4 : Option Addr} {c1 c4 : Nat} {rows : List Value} (h1 : VS w (.slice A1 n c1) (nexts n)) (h2 : VS w (.slice A4 n c4) rows) (h3 : RowsB w rows ((List.range n).map (lessRow n))) :
    StrOk w (stcWord n) okW (.slice A1 n c1) (.slice none 0 0) (.slice none 0 0) (.slice A4 n c4) := by
  refine ⟨fun _ => ⟨(List.range n).map fun p : Nat => (p : Int) + 1, by simp; rfl, by have := h1; unfold nexts at this; simpa [Function.comp_def] using this, fun p q x hx hq => ?_⟩, fun h => by simp [okW] at h, fun h => by simp [okW] at h, fun _ => ⟨rows, _, h2, h3, by simp; rfl, fun p q hp hq => ?_⟩⟩
  · rw [List.getElem?_map] at hx
    obtain ⟨y, hy, rfl⟩ := Option.map_eq_some_iff.1 hx
    obtain ⟨hyl, rfl⟩ := List.getElem?_eq_some_iff.1 hy
    simp only [List.getElem_range]
    show _ = decide (q = p + 1)
    rw [Bool.eq_iff_iff]; simp; omega
  · have hq' : q < n := hq
    have hp' : p < n := hp
    refine ⟨lessRow n p, by rw [List.getElem?_map, List.getElem?_range hp']; rfl, ?_⟩
    unfold lessRow
    rw [List.getElem?_map, List.getElem?_range hq']
    rfl
theorem givenV_bit (l : List Nat) (v k : Nat) (hk : k < l.length) : givenV l v / 2 ^ k % 2 = l[k] / 2 ^ v % 2 := by
  have key : ∀ j, j ≤ l.length → k < j → givenV (l.take j) v / 2 ^ k % 2 = l[k] / 2 ^ v % 2 := by
    intro j
    induction j with
    | zero => intro _ h; omega
    | succ j ih =>
      intro hj hkj
      have hjl : j < l.length := by omega
      have e : l.take (j + 1) = l.take j ++ [l[j]] := by rw [List.take_add_one, List.getElem?_eq_getElem hjl]; rfl
      have hlen : (l.take j).length = j := by rw [List.length_take]; omega
      rw [e, givenV_snoc, hlen]
      have hx := givenV_lt (l.take j) v
      rw [hlen] at hx
      have hp : 0 < 2 ^ k := Nat.pos_of_ne_zero (by simp)
      by_cases h : k < j
      · have e2 : l[j] / 2 ^ v % 2 * 2 ^ j = (l[j] / 2 ^ v % 2 * 2 ^ (j - k - 1) * 2) * 2 ^ k := by
          rw [Nat.mul_assoc, Nat.mul_assoc, ← Nat.pow_succ', ← Nat.pow_add]
          congr 2
          omega
        rw [e2, Nat.add_mul_div_right _ _ hp, Nat.add_mul_mod_self_right]
        exact ih (by omega) h
      · have hkj2 : k = j := by omega
        subst hkj2
        rw [Nat.add_mul_div_right _ _ hp, Nat.div_eq_of_lt hx, Nat.zero_add]
        exact Nat.mod_mod _ _
  have := key l.length (Nat.le_refl _) hk
  rwa [List.take_length] at this
theorem given_rows (l : List Nat) : bitRows l 6 = (givenS l).map (bitsL l.length) := by
  unfold bitRows givenS
  rw [List.map_map]
  apply List.map_congr_left
  intro v hv
  simp only [Function.comp]
  apply List.ext_getElem?
  intro k
  by_cases hk : k < l.length
  · rw [bitsL_get _ _ k hk]
    unfold bitRow
    rw [List.getElem?_map, List.getElem?_eq_getElem hk]
    simp only [Option.map_some, Option.some.injEq]
    rw [← bit_test, givenV_bit l v k hk]

  · rw [List.getElem?_eq_none (by simp [bitRow]; omega), List.getElem?_eq_none (by simp [bitsL]; omega)]
set_option maxRecDepth 100000 in
set_option maxHeartbeats 4000000 in
theorem RWord_any (f : List Mk) (v u : Value) (vars : Int) (l : List Nat) (w : World) (hv : MS w v f) (hu : YS w u l) (h256 : ∀ x ∈ l, x < 256) :
    Calls Tryd.prog 80 #[v, .int .i64 vars, u] w fun e w' => e = .returned (.tuple #[.bool (wordS f vars l).1, .int .i64 (wordS f vars l).2]) ∧ Below w.heap.size w w' := by
  have HV := Lib.hid hv; have HU := Lib.hid hu; have H256 := Lib.hid h256
  obtain ⟨_, Af, cf, rfl, hcf, hcf2, _⟩ := hv
  obtain ⟨Au, cu, rfl, hcu, hcu2, hcell⟩ := hu
  obtain ⟨R, hR⟩ : ∃ R, R = wordS f vars l := ⟨_, rfl⟩
  rw [← hR]
  obtain ⟨K, hK⟩ : ∃ K, K = checkS f vars false := ⟨_, rfl⟩
  have hCK := fun W (hW : MS W (.slice Af f.length cf) f) => RCheck_any f _ vars false W hW
  rw [← hK] at hCK
  obtain ⟨n, hn⟩ : ∃ n, n = l.length := ⟨_, rfl⟩
  rw [← hn] at hcu hcell HU ⊢
  have HCK := Lib.hid hCK; have HN := Lib.hid hn; have HC2 := Lib.hid hcell
  have HR := Lib.hid hR; have HK := Lib.hid hK
  clear hR hCK hn hcell h256
  by_cases hk0 : K = 0
  · have hc0 : checkS f vars false = 0 := by rw [← HK.out, hk0]
    subst hk0
    have hf := check_formed_of hc0
    have hv6 := (check_iff f vars false).1 hc0 |>.1
    simp only [Bool.false_eq_true, if_false] at hv6
    obtain ⟨V, rfl⟩ : ∃ V : Nat, vars = V := ⟨vars.toNat, by omega⟩
    have HC0 := Lib.hid hc0; have HF := Lib.hid hf
    clear hc0 hf hK
    by_cases h64 : 64 < n
    · have HRR : Hid (R = (false, 4)) := by rw [Hid, HR.out]; unfold wordS; rw [if_neg (by rw [HC0.out]; simp), if_pos (by rw [← HN.out]; exact h64)]
      go_enter Tryd.func80, Tryd.ntmps80
      go_wp2_with (go_at_call 55; go_must ((with_reducible refine (HCK.out _ HV.out).mono ?_); rintro e w1 ⟨rfl, hb1⟩; have HB := Lib.hid hb1; clear hb1))
      go_returns
      exact ⟨ret_fst2 HRR.out, HB.out⟩
    have HR2 : Hid (R = if l.any (badL V) then (false, 1) else evalS (stcWord n) f l) := by
      rw [Hid, HR.out]; unfold wordS; rw [if_neg (by rw [HC0.out]; simp), if_neg (by rw [← HN.out]; exact h64), ← HN.out]
    obtain ⟨M, hM⟩ : ∃ M, M = 2 ^ V := ⟨_, rfl⟩
    have hM64 : M ≤ 64 := by rw [hM]; exact Nat.pow_le_pow_right (by omega) (by omega : V ≤ 6)
    have hMi : (2 : Int) ^ V = (M : Int) := by rw [hM]; push_cast; rfl
    have hs1 : wrap64 (2 ^ V) = (M : Int) := by rw [hMi]; exact IntWalk.wrap64_in _ ⟨by omega, by omega⟩
    have hs2 : IntKind.i64.wrap (2 ^ V) = (M : Int) := by rw [hMi]; exact IntWalk.i64_in _ ⟨by omega, by omega⟩
    have HM := Lib.hid hM
    clear hM hMi HR
    go_enter Tryd.func80, Tryd.ntmps80
    go_wp2_with (go_at_call 55; go_must ((with_reducible refine (HCK.out _ HV.out).mono ?_); rintro e w1 ⟨rfl, hb1⟩; have HB := Lib.hid hb1; clear hb1))
    go_loopg [9] n (fun gk v wr => ∃ k : Nat, k ≤ n ∧ gk = n - k ∧ v = .int .i64 k ∧ Below w.heap.size w wr ∧ (l.take k).any (badL V) = false)
    case atStart => exact ⟨0, Nat.zero_le _, rfl, rfl, HB.out, by simp⟩
    case round =>
      obtain ⟨k, hk, rfl, rfl, hbe, hacc⟩ := hrel
      replace HB := Lib.hid hbe; have HA := Lib.hid hacc; clear hbe hacc
      by_cases hlt : k < n
      · obtain ⟨x, hx⟩ : ∃ x, l[k]? = some x := ⟨l[k]'(by rw [← HN.out]; exact hlt), List.getElem?_eq_getElem _⟩
        have hx256 := bytes_at H256.out hx
        obtain ⟨b, o, rfl, hb, hcell⟩ := HC2.out (by omega)
        have c0 : wr.cell? ⟨b, o + k, none⟩ = some (.int .u8 x) := (HB.out.cell (p := ⟨b, _, none⟩) hb).trans (hcell k x hx)
        have hbl := badL_le V x
        rw [← HM.out] at hbl
        have hsn := any_take_snoc (badL V) hx
        have hat := any_of_at (badL V) hx
        rw [hbl] at hsn hat
        have HS := Lib.hid hsn; have HAT := Lib.hid hat
        have k0 : (0 : Int) ≤ k := by omega
        have k1 : (k : Int) < n := by omega
        clear hcell hx hbl hsn hat
        by_cases hbb : M ≤ x
        · have HRR : Hid (R = (false, 1)) := by rw [Hid, HR2.out, if_pos (HAT.out (by simpa using hbb))]
          have g1 : decide ((M : Int) ≤ (x : Int)) = true := by simp; omega
          have g2 : (M : Int) ≤ (x : Int) := by omega
          go_upto_region 9 with (fail)
          first | go_quiet (fail) | fail
          go_wp2
          go_returns
          exact ⟨ret_fst2 HRR.out, below_dn HB.out _⟩
        · have HBB : Hid (decide (M ≤ x) = false) := by simp [Hid]; omega
          have g1 : decide ((M : Int) ≤ (x : Int)) = false := by simp; omega
          have g2 : ¬ (M : Int) ≤ (x : Int) := by omega
          go_upto_region 9 with (fail)
          first | go_quiet (fail) | fail
          go_wp2
          go_roundg (n - (k + 1))
          case rel => exact ⟨k + 1, by omega, rfl, by go_num, below_dn HB.out _, by rw [HS.out, HA.out, HBB.out]; rfl⟩
          case measure => omega
      · have hkn : k = n := by omega
        have hall : l.any (badL V) = false := by
          have := HA.out
          rw [hkn, List.take_of_length_le (by rw [← HN.out]; exact Nat.le_refl _)] at this
          exact this
        have hn64 : n ≤ 64 := by omega
        have HRR : Hid (R = evalS (stcWord n) f l) := by rw [Hid, HR2.out, hall]; rfl
        have htr := treeOf_ok HF.out
        have hlf : 1 ≤ f.length := by have := (formed_len f HF.out).1; omega
        obtain ⟨C, hC⟩ : ∃ C, C = costT n (treeOf f) := ⟨_, rfl⟩
        have hCb := costT_bd n (treeOf f)
        rw [← hC] at hCb
        have hCO := fun W (hW : MS W (.slice Af f.length cf) f) => rcost_formed HF.out n hn64 _ W hW
        rw [← hC] at hCO
        have HCO := Lib.hid hCO
        have hHO := fun (hc : C ≤ 65536) A1 c1 A4 c4 rows vs rws W (hW : MS W (.slice Af f.length cf) f) (h1 : VS W (.slice A1 n c1) (nexts n)) (h2 : VS W (.slice A4 n c4) rows) (h3 : RowsB W rows ((List.range n).map (lessRow n))) (h4 : VS W vs rws) (h5 : RowsB W rws (bitRows l 6)) =>
          rholds_any (stcWord n) n rfl hn64 okW f (.slice Af f.length cf) A1 none none A4 n c1 0 0 0 0 n c4 (treeOf f) 0 (f.length - 1) (givenS l) vs rws W htr.2.1 (uses_word HC0.out) (few_cost n _ htr.2.1 (by rw [← hC]; exact hc)) (sg_tree HF.out).1 (sg_tree HF.out).2 hW rfl
            (fun u hu => by simp only [givenS, List.mem_map] at hu; obtain ⟨q, _, rfl⟩ := hu; have := givenV_lt l q; rwa [← HN.out] at this) (word_ok h1 h2 h3) h4 (by rw [given_rows, ← HN.out] at h5; exact h5)
        have hRt : C ≤ 65536 → R = (holdsT (stcWord n) (treeOf f) (givenS l), 0) := fun hc => by rw [HRR.out]; unfold evalS; rw [if_neg (by show ¬ 65536 < costT n (treeOf f); rw [← hC]; omega)]
        have hRf : 65536 < C → R = (false, 10) := fun hc => by rw [HRR.out]; unfold evalS; rw [if_pos (by show 65536 < costT n (treeOf f); rw [← hC]; omega)]
        have hOW := fun W => ofWord_any n hn64 W
        have hGV := fun W (hW : YS W (.slice Au n cu) l) => given_any l _ W hW H256.out (by rw [← HN.out]; exact hn64)
        obtain ⟨T, hT⟩ : ∃ T, T = holdsT (stcWord n) (treeOf f) (givenS l) := ⟨_, rfl⟩
        rw [← hT] at hRt hHO
        have HHO := Lib.hid hHO; have HRT := Lib.hid hRt; have HRF := Lib.hid hRf; have HOW := Lib.hid hOW; have HGV := Lib.hid hGV
        obtain ⟨N', hN'⟩ : ∃ N', N' = f.length - 1 := ⟨_, rfl⟩
        rw [← hN'] at HCO HHO
        obtain ⟨NF, hNF⟩ : ∃ NF, NF = f.length := ⟨_, rfl⟩
        rw [← hNF] at HV HCO HHO hcf hlf hN' ⊢
        have hlast : (NF : Int) - 1 = (N' : Int) := by omega
        clear hkn hall htr hC hCO hHO hRt hRf hOW hGV hT hN' hNF HCK HC2 HR2 HRR hs1 hs2
        by_cases hcc : C ≤ 65536
        · have HRR := Lib.hid (HRT.out hcc); have HHC := Lib.hid (HHO.out hcc)
          have hcI : ¬ (65536 : Int) < (C : Int) := by omega
          clear HHO HRT HRF hcc hCb
          go_wp2_with (first
            | (go_at_call 157; go_must ((with_reducible refine (HCO.out _ (HV.out.below HB.out (Nat.le_refl _))).mono ?_); rintro e w2 ⟨rfl, hb2⟩; replace HB := Lib.hid (HB.out.trans (hb2.mono HB.out.size)); clear hb2))
            | (go_at_call 159; go_must ((with_reducible refine (HOW.out _).mono ?_); rintro e w3 ⟨A1, c1, A4, c4, rfl, hb2, h1, rws, h2, h3⟩; have H1 := Lib.hid h1; have H2 := Lib.hid h2; have H3 := Lib.hid h3; replace HB := Lib.hid (HB.out.trans (hb2.mono HB.out.size)); clear hb2 h1 h2 h3))
            | (go_at_call 160; go_must ((with_reducible refine (HGV.out _ (HU.out.below HB.out (Nat.le_refl _))).mono ?_); rintro e w4 ⟨vs, rvs, rfl, hb2, h1, h2⟩; have H4 := Lib.hid h1; have H5 := Lib.hid h2; replace H1 := Lib.hid (H1.out.below hb2 (Nat.le_refl _)); replace H2 := Lib.hid (H2.out.below hb2 (Nat.le_refl _)); replace H3 := Lib.hid (H3.out.below hb2 (Nat.le_refl _)); replace HB := Lib.hid (HB.out.trans (hb2.mono HB.out.size)); clear hb2 h1 h2))
            | (go_at_call 158; go_must ((with_reducible refine (HHC.out _ _ _ _ _ _ _ _ (HV.out.below HB.out (Nat.le_refl _)) H1.out H2.out H3.out H4.out H5.out).mono ?_); rintro e w5 ⟨rfl, hb2⟩; replace HB := Lib.hid (HB.out.trans (hb2.mono HB.out.size)); clear hb2)))
          go_returns
          exact ⟨ret_fst2 HRR.out, HB.out⟩
        · have HRR := Lib.hid (HRF.out (by omega))
          have hcI : (65536 : Int) < (C : Int) := by omega
          clear HHO HRT HRF hcc
          go_wp2_with (go_at_call 157; go_must ((with_reducible refine (HCO.out _ (HV.out.below HB.out (Nat.le_refl _))).mono ?_); rintro e w2 ⟨rfl, hb2⟩; replace HB := Lib.hid (HB.out.trans (hb2.mono HB.out.size)); clear hb2))
          go_returns
          exact ⟨ret_fst2 HRR.out, HB.out⟩
  · have HRR : Hid (R = (false, K)) := by rw [Hid, HR.out]; unfold wordS; rw [← HK.out, if_pos hk0]
    have hk0' : (K != 0) = true := by simp [hk0]
    clear hK
    go_enter Tryd.func80, Tryd.ntmps80
    go_wp2_with (go_at_call 55; go_must ((with_reducible refine (HCK.out _ HV.out).mono ?_); rintro e w1 ⟨rfl, hb1⟩; have HB := Lib.hid hb1; clear hb1))
    go_returns
    exact ⟨ret_fst2 HRR.out, HB.out⟩
end Go.Proofs.YtgeklibilgfjbaaDoor

namespace Go.Proofs.YtgeklibilgfjbaaDoor
open Go.RowKit

theorem toOne_ints {w : World} {v : Value} {n : Nat} {r : Nat → Nat → Bool} (L : List Int) (hL : L.length = n) (h : VS w v (L.map (Value.int .i64))) (hr : ∀ p q x, L[p]? = some x → q < n → decide (x = (q : Int)) = r p q) : ToOne w v n r :=
  ⟨L, hL, h, fun p q x hx hq => by rw [← hr p q x hx hq, Bool.eq_iff_iff]; simp⟩
/-- The structure of a tree. -/
theorem tree_ok {w : World} {t : List Lf} {n : Nat} (hn : n = t.length) {A2 A3 A4 : Option Addr} {c2 c3 c4 : Nat} {rows : List Value} (h1 : VS w (.slice A2 n c2) (lefts t)) (h2 : VS w (.slice A3 n c3) (rights t)) (h3 : VS w (.slice A4 n c4) rows) (h4 : RowsB w rows ((List.range n).map fun i => (List.range n).map (ancS t i))) :
    StrOk w (stcTree t) okT (.slice none 0 0) (.slice A2 n c2) (.slice A3 n c3) (.slice A4 n c4) := by
  subst hn
  refine ⟨fun h => by simp [okT] at h, fun _ => toOne_ints (t.map fun x => x.left) (by simp; rfl) (by have := h1; unfold lefts at this; simpa [Function.comp_def] using this) (fun p q x hx hq => ?_), fun _ => toOne_ints (t.map fun x => x.right) (by simp; rfl) (by have := h2; unfold rights at this; simpa [Function.comp_def] using this) (fun p q x hx hq => ?_), fun _ => ⟨rows, _, h3, h4, by simp; rfl, fun p q hp hq => ?_⟩⟩
  · rw [List.getElem?_map] at hx
    obtain ⟨y, hy, rfl⟩ := Option.map_eq_some_iff.1 hx
    show decide (y.left = (q : Int)) = decide (leftS t p = q)
    unfold leftS
    rw [hy]
  · rw [List.getElem?_map] at hx
    obtain ⟨y, hy, rfl⟩ := Option.map_eq_some_iff.1 hx
    show decide (y.right = (q : Int)) = decide (rightS t p = q)
    unfold rightS
    rw [hy]
  · have hp' : p < t.length := hp
    have hq' : q < t.length := hq
    refine ⟨(List.range t.length).map (ancS t p), by rw [List.getElem?_map, List.getElem?_range hp']; rfl, ?_⟩
    rw [List.getElem?_map, List.getElem?_range hq']
    rfl

set_option maxRecDepth 100000 in
set_option maxHeartbeats 4000000 in
theorem RTree_any (f : List Mk) (v u : Value) (vars : Int) (t : List Lf) (w : World) (hv : MS w v f) (hu : TS w u t) :
    Calls Tryd.prog 86 #[v, .int .i64 vars, u] w fun e w' => e = .returned (.tuple #[.bool (modelTreeS f vars t).1, .int .i64 (modelTreeS f vars t).2]) ∧ Below w.heap.size w w' := by
  have HV := Lib.hid hv; have HU := Lib.hid hu
  obtain ⟨_, Af, cf, rfl, hcf, hcf2, -⟩ := hv
  obtain ⟨hop, Au, cu, rfl, hcu, hcu2, hcell⟩ := hu
  obtain ⟨R, hR⟩ : ∃ R, R = modelTreeS f vars t := ⟨_, rfl⟩
  rw [← hR]
  unfold modelTreeS at hR
  obtain ⟨K, hK⟩ : ∃ K, K = checkS f vars true := ⟨_, rfl⟩
  obtain ⟨J, hJ⟩ : ∃ J, J = checkT t vars := ⟨_, rfl⟩
  have hCK := fun W (hW : MS W (.slice Af f.length cf) f) => RCheck_any f _ vars true W hW
  have hCT := fun W (hW : TS W (.slice Au t.length cu) t) => RCheckT_any t _ vars W hW
  rw [← hK] at hCK hR
  rw [← hJ] at hCT hR
  have hform : K = 0 → checkS f vars true = 0 ∧ formedS f = true := fun h => by rw [hK] at h; exact ⟨h, check_formed_of h⟩
  have htree : J = 0 → t.length ≤ 31 ∧ KidsOk t := fun h => by
    rw [hJ] at h
    unfold checkT at h
    by_cases a1 : vars < 0 ∨ 3 < vars
    · rw [if_pos a1] at h; omega
    · by_cases a2 : 31 < t.length
      · rw [if_neg a1, if_pos a2] at h; omega
      · by_cases a3 : t.any (badLabel vars) = true
        · rw [if_neg a1, if_neg a2, if_pos a3] at h; omega
        · by_cases a4 : formedT t = true
          · exact ⟨by omega, kids_ok a4⟩
          · rw [if_neg a1, if_neg a2, if_neg a3, if_neg a4] at h; omega
  obtain ⟨n, hn⟩ : ∃ n, n = t.length := ⟨_, rfl⟩
  rw [← hn] at hcu hcell HU htree hCT ⊢
  have HCK := Lib.hid hCK; have HCT := Lib.hid hCT; have HF := Lib.hid hform; have HTR := Lib.hid htree; have HN := Lib.hid hn; have HR := Lib.hid hR; have HC2 := Lib.hid hcell; have HOP := Lib.hid hop
  clear hR hK hJ hCK hCT hform htree hn hcell hop
  by_cases hk0 : K = 0
  · subst hk0
    obtain ⟨hc0, hfo⟩ := HF.out rfl
    have HC0 := Lib.hid hc0; have HFO := Lib.hid hfo
    clear hc0 hfo
    by_cases hj0 : J = 0
    · subst hj0
      obtain ⟨h31, hkids⟩ := HTR.out rfl
      have HRR0 : Hid (R = evalS (stcTree t) f (labelsS t)) := by rw [Hid, HR.out]; rfl
      have HK := Lib.hid hkids; clear hkids
      have hn64 : n ≤ 64 := by omega
      have htr := treeOf_ok HFO.out
      have hlf : 1 ≤ f.length := by have := (formed_len f HFO.out).1; omega
      obtain ⟨C, hC⟩ : ∃ C, C = costT n (treeOf f) := ⟨_, rfl⟩
      have hCb := costT_bd n (treeOf f)
      rw [← hC] at hCb
      have hCO := fun W (hW : MS W (.slice Af f.length cf) f) => rcost_formed HFO.out n hn64 _ W hW
      rw [← hC] at hCO
      have HCO := Lib.hid hCO
      have hLL : (labelsS t).length = n := by rw [labelsS, List.length_map, HN.out]
      have hL256 : ∀ x ∈ labelsS t, x < 256 := fun x hx => by
        simp only [labelsS, List.mem_map] at hx
        obtain ⟨y, hy, rfl⟩ := hx
        have := HOP.out y hy
        omega
      have hHO := fun (hc : C ≤ 65536) A2 c2 A3 c3 A4 c4 rows vs rws W (hW : MS W (.slice Af f.length cf) f) (h1 : VS W (.slice A2 n c2) (lefts t)) (h2 : VS W (.slice A3 n c3) (rights t)) (h3 : VS W (.slice A4 n c4) rows) (h4 : RowsB W rows ((List.range n).map fun i => (List.range n).map (ancS t i))) (h5 : VS W vs rws) (h6 : RowsB W rws (bitRows (labelsS t) 6)) =>
        rholds_any (stcTree t) n HN.out.symm hn64 okT f (.slice Af f.length cf) none A2 A3 A4 0 0 n c2 n c3 n c4 (treeOf f) 0 (f.length - 1) (givenS (labelsS t)) vs rws W htr.2.1 (uses_tree HC0.out) (few_cost n _ htr.2.1 (by rw [← hC]; exact hc)) (sg_tree HFO.out).1 (sg_tree HFO.out).2 hW rfl
          (fun u hu => by simp only [givenS, List.mem_map] at hu; obtain ⟨q, _, rfl⟩ := hu; have := givenV_lt (labelsS t) q; rwa [hLL] at this) (tree_ok HN.out h1 h2 h3 h4) h5 (by rw [given_rows, hLL] at h6; exact h6)
      have hRt : C ≤ 65536 → R = (holdsT (stcTree t) (treeOf f) (givenS (labelsS t)), 0) := fun hc => by rw [HRR0.out]; unfold evalS; rw [if_neg (by show ¬ 65536 < costT t.length (treeOf f); rw [← HN.out, ← hC]; omega)]
      have hRf : 65536 < C → R = (false, 10) := fun hc => by rw [HRR0.out]; unfold evalS; rw [if_pos (by show 65536 < costT t.length (treeOf f); rw [← HN.out, ← hC]; omega)]
      have hOW := fun W (hW : TS W (.slice Au n cu) t) => ofTree_any t _ W hW HK.out (by rw [← HN.out]; exact h31)
      rw [← HN.out] at hOW
      have hGV := fun W q (hW : YS W q (labelsS t)) => given_any (labelsS t) q W hW hL256 (by rw [hLL]; exact hn64)
      obtain ⟨Tv, hT⟩ : ∃ T, T = holdsT (stcTree t) (treeOf f) (givenS (labelsS t)) := ⟨_, rfl⟩
      rw [← hT] at hRt hHO
      have HHO := Lib.hid hHO; have HRT := Lib.hid hRt; have HRF := Lib.hid hRf; have HOW := Lib.hid hOW; have HGV := Lib.hid hGV
      obtain ⟨N', hN'⟩ : ∃ N', N' = f.length - 1 := ⟨_, rfl⟩
      rw [← hN'] at HCO HHO
      obtain ⟨NF, hNF⟩ : ∃ NF, NF = f.length := ⟨_, rfl⟩
      rw [← hNF] at HV HCK HCO HHO hcf hlf hN' ⊢
      have hlast : (NF : Int) - 1 = (N' : Int) := by omega
      clear htr hC hCO hHO hRt hRf hOW hGV hT hN' hNF HR HRR0 hL256 hLL
      by_cases hcc : C ≤ 65536
      · have HRR := Lib.hid (HRT.out hcc); have HHC := Lib.hid (HHO.out hcc)
        have hcI : ¬ (65536 : Int) < (C : Int) := by omega
        clear HHO HRT HRF hcc hCb
        go_enter Tryd.func86, Tryd.ntmps86
        go_wp2_with (first
          | (go_at_call 55; go_must ((with_reducible refine (HCK.out _ HV.out).mono ?_); rintro e w1 ⟨rfl, hb1⟩; have HB := Lib.hid hb1; clear hb1))
          | (go_at_call 28; go_must ((with_reducible refine (HCT.out _ (HU.out.below HB.out (Nat.le_refl _))).mono ?_); rintro e w1 ⟨rfl, hb1⟩; replace HB := Lib.hid (HB.out.trans (hb1.mono HB.out.size)); clear hb1))
          | (go_at_call 157; go_must ((with_reducible refine (HCO.out _ (HV.out.below HB.out (Nat.le_refl _))).mono ?_); rintro e w2 ⟨rfl, hb2⟩; replace HB := Lib.hid (HB.out.trans (hb2.mono HB.out.size)); clear hb2)))
        go_loopg [10, 11] n (fun gk q v wr => ∃ k : Nat, k ≤ n ∧ gk = n - k ∧ v = .int .i64 k ∧ Below w.heap.size w wr ∧ YO wr w.heap.size q (labelsS (t.take k)))
        case atStart => exact ⟨0, Nat.zero_le _, rfl, rfl, HB.out, YO.nil _ _⟩
        case round =>
          obtain ⟨k, hk, rfl, rfl, hbe, hown⟩ := hrel
          replace HB := Lib.hid hbe; have HO := Lib.hid hown; clear hbe hown
          by_cases hlt : k < n
          · obtain ⟨x, hx⟩ : ∃ x, t[k]? = some x := ⟨t[k]'(by rw [← HN.out]; exact hlt), List.getElem?_eq_getElem _⟩
            obtain ⟨b, o, rfl, hb, hcell⟩ := HC2.out (by omega)
            obtain ⟨c0, c1, c2⟩ := hcell k x hx
            rw [← HB.out.cell (p := ⟨b, _, none⟩) hb] at c0 c1 c2
            have hlx := HOP.out x (List.mem_of_getElem? hx)
            have hb' : b < wr.heap.size := by have := HB.out.size; omega
            have htk : Hid (labelsS (t.take (k + 1)) = labelsS (t.take k) ++ [x.label.toNat]) := by
              rw [Hid, List.take_add_one, hx]; simp [labelsS]
            obtain ⟨lb, l, r⟩ := x
            simp only at c0 c1 c2 htk hlx
            obtain ⟨m, rfl⟩ : ∃ m : Nat, lb = m := ⟨lb.toNat, by omega⟩
            simp only [Int.toNat_natCast] at htk
            have hll : (labelsS (t.take k)).length ≤ 100 := by simp [labelsS]; omega
            have hzs := HB.out.size
            clear hcell hx
            go_wp2_with (at_builtin; go_must (refine wpList_append_ys rfl (.tmp 38) (.tmp 44) rfl w.heap.size u10 (labelsS (t.take k)) rfl (HO.out.below (B' := wr.heap.size) (by go_grown) (Nat.le_refl _)) _ [m] rfl (YS.lit 1 1 #[.int .u8 m] (by first | exact Row.new _ _ _ | exact Row.lit (by simp only [World.size_alloc])) rfl (by omega) (by omega) (by intro i y hy; cases i with | zero => (simp at hy; subst hy; rfl) | succ i => simp at hy)) (by simp only [List.length_cons, List.length_nil]; omega) (by simp only [World.size_alloc]; omega) ?_; intro v3 w3 ho3 hg3 _))
            have HB3 := Lib.hid (own_below_y (w := w) (by have h1 := HB.out; go_grown) (HO.out.below (B' := wr.heap.size) (by go_grown) (Nat.le_refl _)) hg3 (by simp only [World.size_alloc]; omega))
            rw [← htk.out] at ho3
            have HO3 := Lib.hid ho3; clear ho3 hg3
            go_wp2
            go_roundg (n - (k + 1))
            case rel => exact ⟨k + 1, by omega, rfl, by go_num, HB3.out, HO3.out⟩
            case measure => omega
          · have hkn : k = n := by omega
            have hys := HO.out.ys
            rw [hkn, HN.out, List.take_length] at hys
            have HY := Lib.hid hys
            clear hys hkn HO
            go_wp2_with (first
              | (go_at_call 162; go_must ((with_reducible refine (HOW.out _ (HU.out.below HB.out (Nat.le_refl _))).mono ?_); rintro e w3 ⟨A2, c2, A3, c3, A4, c4, rfl, hb2, h1, h2, rws, h3, h4⟩; have H1 := Lib.hid h1; have H2 := Lib.hid h2; have H3 := Lib.hid h3; have H4 := Lib.hid h4; replace HY := Lib.hid (HY.out.below hb2 (Nat.le_refl _)); replace HB := Lib.hid (HB.out.trans (hb2.mono HB.out.size)); clear hb2 h1 h2 h3 h4))
              | (go_at_call 160; go_must ((with_reducible refine (HGV.out _ _ HY.out).mono ?_); rintro e w4 ⟨vs, rvs, rfl, hb2, h1, h2⟩; have H5 := Lib.hid h1; have H6 := Lib.hid h2; replace H1 := Lib.hid (H1.out.below hb2 (Nat.le_refl _)); replace H2 := Lib.hid (H2.out.below hb2 (Nat.le_refl _)); replace H3 := Lib.hid (H3.out.below hb2 (Nat.le_refl _)); replace H4 := Lib.hid (H4.out.below hb2 (Nat.le_refl _)); replace HB := Lib.hid (HB.out.trans (hb2.mono HB.out.size)); clear hb2 h1 h2))
              | (go_at_call 158; go_must ((with_reducible refine (HHC.out _ _ _ _ _ _ _ _ _ _ (HV.out.below HB.out (Nat.le_refl _)) H1.out H2.out H3.out H4.out H5.out H6.out).mono ?_); rintro e w5 ⟨rfl, hb2⟩; replace HB := Lib.hid (HB.out.trans (hb2.mono HB.out.size)); clear hb2)))
            go_returns
            exact ⟨ret_fst2 HRR.out, HB.out⟩
      · have HRR := Lib.hid (HRF.out (by omega))
        have hcI : (65536 : Int) < (C : Int) := by omega
        clear HHO HRT HRF hcc
        go_enter Tryd.func86, Tryd.ntmps86
        go_wp2_with (first
          | (go_at_call 55; go_must ((with_reducible refine (HCK.out _ HV.out).mono ?_); rintro e w1 ⟨rfl, hb1⟩; have HB := Lib.hid hb1; clear hb1))
          | (go_at_call 28; go_must ((with_reducible refine (HCT.out _ (HU.out.below HB.out (Nat.le_refl _))).mono ?_); rintro e w1 ⟨rfl, hb1⟩; replace HB := Lib.hid (HB.out.trans (hb1.mono HB.out.size)); clear hb1))
          | (go_at_call 157; go_must ((with_reducible refine (HCO.out _ (HV.out.below HB.out (Nat.le_refl _))).mono ?_); rintro e w2 ⟨rfl, hb2⟩; replace HB := Lib.hid (HB.out.trans (hb2.mono HB.out.size)); clear hb2)))
        go_returns
        exact ⟨ret_fst2 HRR.out, HB.out⟩
    · have HRR : Hid (R = (false, J)) := by rw [Hid, HR.out, if_neg (by simp), if_pos hj0]
      have hj0' : (J != 0) = true := by simp [hj0]
      clear hj0
      go_enter Tryd.func86, Tryd.ntmps86
      go_wp2_with (first
        | (go_at_call 55; go_must ((with_reducible refine (HCK.out _ HV.out).mono ?_); rintro e w1 ⟨rfl, hb1⟩; have HB := Lib.hid hb1; clear hb1))
        | (go_at_call 28; go_must ((with_reducible refine (HCT.out _ (HU.out.below HB.out (Nat.le_refl _))).mono ?_); rintro e w1 ⟨rfl, hb1⟩; replace HB := Lib.hid (HB.out.trans (hb1.mono HB.out.size)); clear hb1)))
      go_returns
      exact ⟨ret_fst2 HRR.out, HB.out⟩
  · have HRR : Hid (R = (false, K)) := by rw [Hid, HR.out, if_pos hk0]
    have hk0' : (K != 0) = true := by simp [hk0]
    clear hk0
    go_enter Tryd.func86, Tryd.ntmps86
    go_wp2_with (go_at_call 55; go_must ((with_reducible refine (HCK.out _ HV.out).mono ?_); rintro e w1 ⟨rfl, hb1⟩; have HB := Lib.hid hb1; clear hb1))
    go_returns
    exact ⟨ret_fst2 HRR.out, HB.out⟩
end Go.Proofs.YtgeklibilgfjbaaDoor

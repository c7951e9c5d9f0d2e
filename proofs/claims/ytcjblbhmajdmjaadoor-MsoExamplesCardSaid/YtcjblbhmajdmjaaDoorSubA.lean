/- Contract: the closure of Substitute of the package mso. -/
import Derived.Test.YtcjblbhmajdmjaaDoorFree
import Derived.Deep.DeepCutAuto
set_option linter.unusedSimpArgs false
set_option linter.unusedVariables false
namespace Go.Proofs.YtcjblbhmajdmjaaDoor
open Go.RowKit

def sub2 (m mm : Mk) (x y : Int) : Mk := { mm with x := if 0 < nv m.op ∧ m.x = x then y else mm.x, y := if 1 < nv m.op ∧ m.y = x then y else mm.y }
def stepS (f : List Mk) (x y : Int) (j : Nat) (ab : List Int) (s : List Mk × Bool) : List Mk × Bool := match f[j]?, s.1[j]? with
  | some m, some mm => if (occ m).contains x && !ab.contains x then (s.1.set j (sub2 m mm x y), s.2 || ab.contains y) else s
  | _, _ => s

structure SubInv (gf gx gy gc gob gr n cap B : Nat) (f : List Mk) (v : Value) (x y : Int) (s : List Mk × Bool) (W : World) : Prop where
  rf : Row W gf 25 #[v]
  rx : Row W gx 3 #[.int .i64 x]
  ry : Row W gy 3 #[.int .i64 y]
  rc : Row W gc 4 #[.bool s.2]
  ro : Row W gob 25 #[.slice (some ⟨gr, 0, none⟩) n cap]
  own : MO W B (.slice (some ⟨gr, 0, none⟩) n cap) s.1
  len : s.1.length = n

theorem set_mark {w : World} {B g n cap : Nat} {f : List Mk} {m m' : Mk} {j : Nat} (h : MO w B (.slice (some ⟨g, 0, none⟩) n cap) f) (hn : f.length = n) (hj : f[j]? = some m) (q : Nat) (u : Value)
    (hm : 0 ≤ m'.op ∧ m'.op ≤ 255) (hc : m'.cells = m.cells.set q u) (hq : q < 5) :
    MO (w.setCell ⟨g, j * 5 + q, none⟩ u) B (.slice (some ⟨g, 0, none⟩) n cap) (f.set j m') := by
  obtain ⟨h0, h1⟩ := h
  subst hn
  have hs := (h1.stored (j * 5 + q) u).1
  have hl : (f.set j m').length = f.length := by simp
  have hjl : j < f.length := (List.getElem?_eq_some_iff.1 hj).1
  refine ⟨fun a ha => ?_, ?_⟩
  · rcases List.mem_or_eq_of_mem_set ha with h | h
    · exact h0 a h
    · rw [h]; exact hm
  · rw [hl]
    have e : fcells (f.set j m') = (fcells f).set (j * 5 + q) u := by
      apply List.ext_getElem?
      intro i
      have hi : i = i / 5 * 5 + i % 5 := by omega
      by_cases hil : i < f.length * 5
      · have h5 : i / 5 < f.length := by omega
        by_cases hij : i / 5 = j
        · have e1 : (f.set j m')[i / 5]? = some m' := by rw [hij, List.getElem?_set_self hjl]
          have e2 := fcells_get (f.set j m') (i / 5) m' e1 (i % 5) (by omega)
          rw [← hi] at e2
          rw [e2, hc, List.getElem?_set, List.getElem?_set]
          have hml : m.cells.length = 5 := rfl
          have hfl := fcells_len f
          by_cases hqq : q = i % 5
          · rw [if_pos hqq, if_pos (by omega), if_pos (by omega), if_pos (by omega)]
          · rw [if_neg hqq, if_neg (by omega)]
            have e3 := fcells_get f (i / 5) m (by rw [hij]; exact hj) (i % 5) (by omega)
            rw [← hi] at e3
            exact e3.symm
        · obtain ⟨a, ha⟩ : ∃ a, f[i / 5]? = some a := ⟨f[i / 5], List.getElem?_eq_getElem h5⟩
          have e1 : (f.set j m')[i / 5]? = some a := by rw [List.getElem?_set_ne (by omega)]; exact ha
          have e2 := fcells_get (f.set j m') (i / 5) a e1 (i % 5) (by omega)
          have e3 := fcells_get f (i / 5) a ha (i % 5) (by omega)
          rw [← hi] at e2 e3
          rw [e2, List.getElem?_set_ne (by omega), e3]
      · rw [List.getElem?_eq_none (by rw [fcells_len, hl]; omega), List.getElem?_eq_none (by rw [List.length_set, fcells_len]; omega)]
    rw [e]; exact hs

theorem SubInv.below {gf gx gy gc gob gr n cap B : Nat} {f : List Mk} {v : Value} {x y : Int} {s : List Mk × Bool} {W W' : World} (h : SubInv gf gx gy gc gob gr n cap B f v x y s W) (hb : Below W.heap.size W W') : SubInv gf gx gy gc gob gr n cap B f v x y s W' :=
  ⟨h.rf.below hb h.rf.lt, h.rx.below hb h.rx.lt, h.ry.below hb h.ry.lt, h.rc.below hb h.rc.lt, h.ro.below hb h.ro.lt, h.own.below hb (Nat.le_refl _), h.len⟩
theorem SubInv.drew {gf gx gy gc gob gr n cap B : Nat} {f : List Mk} {v : Value} {x y : Int} {s : List Mk × Bool} {W : World} (h : SubInv gf gx gy gc gob gr n cap B f v x y s W) : SubInv gf gx gy gc gob gr n cap B f v x y s W.drew :=
  h.below ⟨rfl, rfl, rfl, Nat.le_refl _, fun _ _ => rfl⟩
theorem MO.far {w : World} {B : Nat} {v : Value} {f : List Mk} (h : MO w B v f) {p : Addr} (hp : v.ownBlock ≠ some p.block) (u : Value) : MO (w.setCell p u) B v f := ⟨h.1, ownsRow_setCell_other h.2 hp u⟩
theorem SubInv.clash {gf gx gy gc gob gr n cap B : Nat} {f : List Mk} {v : Value} {x y : Int} {s : List Mk × Bool} {W : World} (h : SubInv gf gx gy gc gob gr n cap B f v x y s W)
    (hd : gf ≠ gc ∧ gf ≠ gr ∧ gx ≠ gc ∧ gx ≠ gr ∧ gy ≠ gc ∧ gy ≠ gr ∧ gob ≠ gc ∧ gob ≠ gr ∧ gc ≠ gr) (b : Bool) : SubInv gf gx gy gc gob gr n cap B f v x y (s.1, b) (W.setCell ⟨gc, 0, none⟩ (.bool b)) :=
  ⟨h.rf.far hd.1 _, h.rx.far hd.2.2.1 _, h.ry.far hd.2.2.2.2.1 _, h.rc.set 0 (.bool b), h.ro.far hd.2.2.2.2.2.2.1 _, h.own.far (by simp only [Value.ownBlock]; intro he; injection he with he; exact hd.2.2.2.2.2.2.2.2 he.symm) _, h.len⟩
theorem SubInv.mark {gf gx gy gc gob gr n cap B : Nat} {f : List Mk} {v : Value} {x y : Int} {s : List Mk × Bool} {W : World} (h : SubInv gf gx gy gc gob gr n cap B f v x y s W)
    (hd : gf ≠ gc ∧ gf ≠ gr ∧ gx ≠ gc ∧ gx ≠ gr ∧ gy ≠ gc ∧ gy ≠ gr ∧ gob ≠ gc ∧ gob ≠ gr ∧ gc ≠ gr) {j : Nat} {m m' : Mk} (hj : s.1[j]? = some m) (q : Nat) (u : Value) (hm : 0 ≤ m'.op ∧ m'.op ≤ 255) (hc : m'.cells = m.cells.set q u) (hq : q < 5) :
    SubInv gf gx gy gc gob gr n cap B f v x y (s.1.set j m', s.2) (W.setCell ⟨gr, j * 5 + q, none⟩ u) :=
  ⟨h.rf.far hd.2.1 _, h.rx.far hd.2.2.2.1 _, h.ry.far hd.2.2.2.2.2.1 _, h.rc.far hd.2.2.2.2.2.2.2.2 _, h.ro.far hd.2.2.2.2.2.2.2.1 _, set_mark h.own h.len hj q u hm hc hq, by simp [h.len]⟩
theorem calls_abs {P : Program} {f : FuncId} {args : Array Value} {R : Ending → World → Prop} {w : World} (F : World → Prop) (hF : F w) (hk : ∀ W, F W → Calls P f args W R) : Calls P f args w R := hk w hF

theorem bool_cases (b : Bool) : b = true ∨ b = false := by cases b <;> simp

set_option maxRecDepth 100000 in
set_option maxHeartbeats 4000000 in
theorem subst1_a (gf gx gy gc gob gr n cap B : Nat) (f : List Mk) (v : Value) (x y : Int) (j : Nat) (m mm : Mk) (ab : List Int) (abv : Value) (s : List Mk × Bool) (w : World) (hm : f[j]? = some m) (hok : okLeaf m.op m.x m.y)
    (hv : MS w v f) (ha : Away (fun b => b = gc ∨ b = gr) v) (hab : IS w abv ab) (haw : Away (fun b => b = gc ∨ b = gr) abv) (hl : f.length ≤ 64) (hn : n = f.length) (hs : SubInv gf gx gy gc gob gr n cap B f v x y s w) (hsm : s.1[j]? = some mm)
    (hd : gf ≠ gc ∧ gf ≠ gr ∧ gx ≠ gc ∧ gx ≠ gr ∧ gy ≠ gc ∧ gy ≠ gr ∧ gob ≠ gc ∧ gob ≠ gr ∧ gc ≠ gr) (ht1 : false = (occ m).contains x) :
    Calls Tryd.prog 52 #[.int .i64 j, abv, .pointer (some ⟨gf, 0, none⟩), .pointer (some ⟨gx, 0, none⟩), .pointer (some ⟨gc, 0, none⟩), .pointer (some ⟨gy, 0, none⟩), .pointer (some ⟨gob, 0, none⟩)] w
      (Done (fun b => b = gc ∨ b = gr) w (SubInv gf gx gy gc gob gr n cap B f v x y (stepS f x y j ab s))) := by
  have hjl : j < f.length := (List.getElem?_eq_some_iff.1 hm).1
  have HV := Lib.hid hv
  obtain ⟨hop, A, c, rfl, hc, hc2, hcell⟩ := hv
  obtain ⟨b, o, rfl, hb, hcell⟩ := hcell (by omega)
  obtain ⟨c0, c1, c2, c3, c4⟩ := hcell j _ hm
  obtain ⟨m1, m2⟩ := hop _ (List.mem_of_getElem? hm)
  clear hcell hop
  have HM := Lib.hid hm; clear hm
  have HOK := Lib.hid hok; clear hok
  have HAB := Lib.hid hab; clear hab
  have HAW := Lib.hid haw; clear haw
  have HA := Lib.hid ha; clear ha
  have HN := Lib.hid hn; clear hn
  have HD := Lib.hid hd; clear hd
  have x0 := hs.rf.cell; have x1 := hs.rx.cell; have x2 := hs.ry.cell; have x3 := hs.rc.cell; have x4 := hs.ro.cell
  have HSM := Lib.hid hsm; clear hsm
  have HS := Lib.hid hs; clear hs
  have HT1 := Lib.hid ht1; clear ht1
  obtain ⟨t2, ht2⟩ : ∃ t2, t2 = ab.contains x := ⟨_, rfl⟩
  have HT2 := Lib.hid ht2; clear ht2
  have HE : Hid (stepS f x y j ab s = s) := by unfold Hid; rw [stepS, HM.out, HSM.out]; simp only [← HT1.out]; simp
  go_enter Tryd.func52, Tryd.ntmps52
  go_wp2
  go_cut [22] (fun v wx => v = .bool true ∧ Below w.heap.size w wx)
  case first =>
    first | go_region_law (first
      | (go_simp; go_at_call 46; refine (occurs_any m _ m1 m2).mono ?_; rintro e w2 ⟨v1, rfl, hb2, hfr2, hi2⟩; have HB2 : Hid (Below w.heap.size w w2) := (Below.trans (by go_grown) (hb2.mono (by simp))); have z1 : ∀ q, w2.cell? ⟨gx, q, none⟩ = #[Value.int .i64 x][q]? := (HS.out.rx.below HB2.out HS.out.rx.lt).cell; clear hb2 hfr2; try go_simp)
      | (go_simp; go_at_call 47; refine (contains_ints (occ m) _ x _ (hi2.below (B := w2.heap.size) (by first | exact Below.refl _ _ | go_grown) (Nat.le_refl _))).mono ?_; rintro e w3 ⟨rfl, rfl⟩; rw [← HT1.out]; try go_simp)
      | (go_simp; go_at_call 47; refine (contains_ints ab _ x _ ((HAB.out.below HB2.out (Nat.le_refl _)).below (B := w2.heap.size) (by first | exact Below.refl _ _ | go_grown) (Nat.le_refl _))).mono ?_; rintro e w4 ⟨rfl, rfl⟩; rw [← HT2.out]; try go_simp)) | fail
    all_goals
      go_wp2_with fail
      go_meet
      have hb := HB2.out
      exact ⟨rfl, by go_grown⟩
  case rest =>
    obtain ⟨rfl, hb⟩ := hcut
    go_wp2
    refine bodyPost_ret (results_none rfl _ _ _) rfl ?_
    exact ⟨rfl, Keep.of_below hb (Nat.le_refl _), by rw [HE.out]; exact HS.out.below hb⟩

set_option maxRecDepth 100000 in
set_option maxHeartbeats 4000000 in
theorem subst1_b (gf gx gy gc gob gr n cap B : Nat) (f : List Mk) (v : Value) (x y : Int) (j : Nat) (m mm : Mk) (ab : List Int) (abv : Value) (s : List Mk × Bool) (w : World) (hm : f[j]? = some m) (hok : okLeaf m.op m.x m.y)
    (hv : MS w v f) (ha : Away (fun b => b = gc ∨ b = gr) v) (hab : IS w abv ab) (haw : Away (fun b => b = gc ∨ b = gr) abv) (hl : f.length ≤ 64) (hn : n = f.length) (hs : SubInv gf gx gy gc gob gr n cap B f v x y s w) (hsm : s.1[j]? = some mm)
    (hd : gf ≠ gc ∧ gf ≠ gr ∧ gx ≠ gc ∧ gx ≠ gr ∧ gy ≠ gc ∧ gy ≠ gr ∧ gob ≠ gc ∧ gob ≠ gr ∧ gc ≠ gr) (ht1 : true = (occ m).contains x) (ht2 : true = ab.contains x) :
    Calls Tryd.prog 52 #[.int .i64 j, abv, .pointer (some ⟨gf, 0, none⟩), .pointer (some ⟨gx, 0, none⟩), .pointer (some ⟨gc, 0, none⟩), .pointer (some ⟨gy, 0, none⟩), .pointer (some ⟨gob, 0, none⟩)] w
      (Done (fun b => b = gc ∨ b = gr) w (SubInv gf gx gy gc gob gr n cap B f v x y (stepS f x y j ab s))) := by
  have hjl : j < f.length := (List.getElem?_eq_some_iff.1 hm).1
  have HV := Lib.hid hv
  obtain ⟨hop, A, c, rfl, hc, hc2, hcell⟩ := hv
  obtain ⟨b, o, rfl, hb, hcell⟩ := hcell (by omega)
  obtain ⟨c0, c1, c2, c3, c4⟩ := hcell j _ hm
  obtain ⟨m1, m2⟩ := hop _ (List.mem_of_getElem? hm)
  clear hcell hop
  have HM := Lib.hid hm; clear hm
  have HOK := Lib.hid hok; clear hok
  have HAB := Lib.hid hab; clear hab
  have HAW := Lib.hid haw; clear haw
  have HA := Lib.hid ha; clear ha
  have HN := Lib.hid hn; clear hn
  have HD := Lib.hid hd; clear hd
  have x0 := hs.rf.cell; have x1 := hs.rx.cell; have x2 := hs.ry.cell; have x3 := hs.rc.cell; have x4 := hs.ro.cell
  have HSM := Lib.hid hsm; clear hsm
  have HS := Lib.hid hs; clear hs
  have HT1 := Lib.hid ht1; clear ht1
  have HT2 := Lib.hid ht2; clear ht2
  have HE : Hid (stepS f x y j ab s = s) := by unfold Hid; rw [stepS, HM.out, HSM.out]; simp only [← HT1.out, ← HT2.out]; simp
  go_enter Tryd.func52, Tryd.ntmps52
  go_wp2
  go_cut [22] (fun v wx => v = .bool true ∧ Below w.heap.size w wx)
  case first =>
    first | go_region_law (first
      | (go_simp; go_at_call 46; refine (occurs_any m _ m1 m2).mono ?_; rintro e w2 ⟨v1, rfl, hb2, hfr2, hi2⟩; have HB2 : Hid (Below w.heap.size w w2) := (Below.trans (by go_grown) (hb2.mono (by simp))); have z1 : ∀ q, w2.cell? ⟨gx, q, none⟩ = #[Value.int .i64 x][q]? := (HS.out.rx.below HB2.out HS.out.rx.lt).cell; clear hb2 hfr2; try go_simp)
      | (go_simp; go_at_call 47; refine (contains_ints (occ m) _ x _ (hi2.below (B := w2.heap.size) (by first | exact Below.refl _ _ | go_grown) (Nat.le_refl _))).mono ?_; rintro e w3 ⟨rfl, rfl⟩; rw [← HT1.out]; try go_simp)
      | (go_simp; go_at_call 47; refine (contains_ints ab _ x _ ((HAB.out.below HB2.out (Nat.le_refl _)).below (B := w2.heap.size) (by first | exact Below.refl _ _ | go_grown) (Nat.le_refl _))).mono ?_; rintro e w4 ⟨rfl, rfl⟩; rw [← HT2.out]; try go_simp)) | fail
    all_goals
      go_wp2_with fail
      go_meet
      have hb := HB2.out
      exact ⟨rfl, by go_grown⟩
  case rest =>
    obtain ⟨rfl, hb⟩ := hcut
    go_wp2
    refine bodyPost_ret (results_none rfl _ _ _) rfl ?_
    exact ⟨rfl, Keep.of_below hb (Nat.le_refl _), by rw [HE.out]; exact HS.out.below hb⟩

end Go.Proofs.YtcjblbhmajdmjaaDoor

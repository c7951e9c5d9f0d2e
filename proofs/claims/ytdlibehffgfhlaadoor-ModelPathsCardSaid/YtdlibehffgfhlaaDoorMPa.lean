/- ModelPaths: for every formula and word the law returns true. (Printed by gen_paths.py.) -/
import Derived.Test.YtdlibehffgfhlaaDoorMdlG
import Derived.Test.YtdlibehffgfhlaaDoorMPaP
import Derived.Test.YtdlibehffgfhlaaDoorKit
set_option linter.unusedSimpArgs false
set_option linter.unusedVariables false
namespace Go.Proofs.YtdlibehffgfhlaaDoor
open Go.RowKit

theorem set_leaf {w : World} {B g n cap : Nat} {f : List Lf} {m m' : Lf} {j : Nat} (h : TO w B (.slice (some ⟨g, 0, none⟩) n cap) f) (hn : f.length = n) (hj : f[j]? = some m) (q : Nat) (u : Value)
    (hm : 0 ≤ m'.label ∧ m'.label ≤ 255) (hc : m'.cells = m.cells.set q u) (hq : q < 3) :
    TO (w.setCell ⟨g, j * 3 + q, none⟩ u) B (.slice (some ⟨g, 0, none⟩) n cap) (f.set j m') := by
  obtain ⟨h0, h1⟩ := h
  subst hn
  have hs := (h1.stored (j * 3 + q) u).1
  have hl : (f.set j m').length = f.length := by simp
  have hjl : j < f.length := (List.getElem?_eq_some_iff.1 hj).1
  refine ⟨fun a ha => ?_, ?_⟩
  · rcases List.mem_or_eq_of_mem_set ha with h | h
    · exact h0 a h
    · rw [h]; exact hm
  · rw [hl]
    have e : lcells (f.set j m') = (lcells f).set (j * 3 + q) u := by
      apply List.ext_getElem?
      intro i
      have hi : i = i / 3 * 3 + i % 3 := by omega
      by_cases hil : i < f.length * 3
      · have h5 : i / 3 < f.length := by omega
        by_cases hij : i / 3 = j
        · have e1 : (f.set j m')[i / 3]? = some m' := by rw [hij, List.getElem?_set_self hjl]
          have e2 := lcells_get (f.set j m') (i / 3) m' e1 (i % 3) (by omega)
          rw [← hi] at e2
          rw [e2, hc, List.getElem?_set, List.getElem?_set]
          have hml : m.cells.length = 3 := rfl
          have hfl := lcells_len f
          by_cases hqq : q = i % 3
          · rw [if_pos hqq, if_pos (by omega), if_pos (by omega), if_pos (by omega)]
          · rw [if_neg hqq, if_neg (by omega)]
            have e3 := lcells_get f (i / 3) m (by rw [hij]; exact hj) (i % 3) (by omega)
            rw [← hi] at e3
            exact e3.symm
        · obtain ⟨a, ha⟩ : ∃ a, f[i / 3]? = some a := ⟨f[i / 3], List.getElem?_eq_getElem h5⟩
          have e1 : (f.set j m')[i / 3]? = some a := by rw [List.getElem?_set_ne (by omega)]; exact ha
          have e2 := lcells_get (f.set j m') (i / 3) a e1 (i % 3) (by omega)
          have e3 := lcells_get f (i / 3) a ha (i % 3) (by omega)
          rw [← hi] at e2 e3
          rw [e2, List.getElem?_set_ne (by omega), e3]
      · rw [List.getElem?_eq_none (by rw [lcells_len, hl]; omega), List.getElem?_eq_none (by rw [List.length_set, lcells_len]; omega)]
    rw [e]; exact hs

def bk (a : List Mk) (k : Nat) : List Mk := (a.take k).map renM ++ a.drop k
theorem bk_len (a : List Mk) (k : Nat) : (bk a k).length = a.length := by simp [bk]; omega
theorem bk_at {a : List Mk} {k : Nat} {m : Mk} (h : a[k]? = some m) : (bk a k)[k]? = some m := by
  have hk := (List.getElem?_eq_some_iff.1 h).1
  unfold bk
  rw [List.getElem?_append_right (by simp; omega), List.length_map, List.length_take, Nat.min_eq_left (by omega), Nat.sub_self, List.getElem?_drop, Nat.add_zero, h]
theorem bk_step {a : List Mk} {k : Nat} {m : Mk} (h : a[k]? = some m) : (bk a k).set k (renM m) = bk a (k + 1) := by
  have hk := (List.getElem?_eq_some_iff.1 h).1
  have hm := (List.getElem?_eq_some_iff.1 h).2
  unfold bk
  rw [List.set_append_right _ _ (by simp; omega), List.length_map, List.length_take, Nat.min_eq_left (by omega), Nat.sub_self, List.drop_eq_getElem_cons hk, hm, List.set_cons_zero, List.take_add_one, h]
  simp
theorem bk_skip {a : List Mk} {k : Nat} {m : Mk} (h : a[k]? = some m) (h5 : m.op ≠ 5) : bk a (k + 1) = bk a k := by
  have e : renM m = m := by obtain ⟨op, x, y, p, q⟩ := m; simp only at h5; simp [renM, renO, h5]
  have h2 := bk_at h
  obtain ⟨h3, h4⟩ := List.getElem?_eq_some_iff.1 h2
  rw [← bk_step h, e]
  conv => lhs; rw [← h4]
  exact List.set_getElem_self h3
theorem bk_zero (a : List Mk) : bk a 0 = a := by simp [bk]
theorem bk_all (a : List Mk) : bk a a.length = a.map renM := by simp [bk]
def pp (l : List Nat) : List Lf := l.zipIdx.map fun p => ⟨p.1, -1, ((p.2 + 1 : Nat) : Int)⟩
theorem pp_snoc (l : List Nat) (x : Nat) : pp (l ++ [x]) = pp l ++ [⟨x, -1, ((l.length + 1 : Nat) : Int)⟩] := by
  unfold pp; rw [List.zipIdx_append]; simp
theorem pp_len (l : List Nat) : (pp l).length = l.length := by simp [pp]
theorem pp_get (l : List Nat) (j x : Nat) (h : l[j]? = some x) : (pp l)[j]? = some ⟨x, -1, ((j + 1 : Nat) : Int)⟩ := by
  unfold pp
  rw [List.getElem?_map, List.getElem?_zipIdx, h]
  simp
theorem pp_path (l : List Nat) (x : Nat) (h : l[l.length - 1]? = some x) : (pp l).set (l.length - 1) ⟨x, -1, -1⟩ = pathL l := by
  have hl := (List.getElem?_eq_some_iff.1 h).1
  apply List.ext_getElem?
  intro j
  by_cases hj : j < l.length
  · rw [path_get l j l[j] (List.getElem?_eq_getElem hj), List.getElem?_set]
    by_cases hjl : l.length - 1 = j
    · subst hjl
      have e := (List.getElem?_eq_some_iff.1 h).2
      rw [if_pos rfl, if_pos (by rw [pp_len]; omega), if_neg (by omega), e]
    · rw [if_neg hjl, pp_get l j l[j] (List.getElem?_eq_getElem hj), if_pos (by omega)]
  · rw [List.getElem?_eq_none (by rw [List.length_set, pp_len]; omega), List.getElem?_eq_none (by rw [path_len]; omega)]

set_option maxRecDepth 100000 in
set_option maxHeartbeats 4000000 in
theorem paths_walk (f : List Mk) (l : List Nat) (v u : Value) (w : World) (hv : MS w v f) (hu : YS w u l) (h256 : ∀ x ∈ l, x < 256) (hdb : DB w) :
    Calls Tryd.prog 8 #[v, u] w fun e w' => e = .returned (.bool true) ∧ Below w.heap.size w w' := by
  have HV := Lib.hid hv; have HU := Lib.hid hu; have HDB := Lib.hid hdb
  obtain ⟨_, A, c, rfl, hc1, hc2, _⟩ := hv
  obtain ⟨n, hn⟩ : ∃ n, n = f.length := ⟨_, rfl⟩
  rw [← hn] at hc1 HV ⊢
  have hcp := fun W (hW : MS W (.slice A n c) f) => copy_any (f.take (min (n : Int) 40).toNat) _ W (hW.cut (min (n : Int) 40).toNat (by omega) A (fun _ => rfl)) (by rw [List.length_take]; omega)
  rw [show (40 : Int) = ((40 : Nat) : Int) from rfl, take_min f n 40 hn] at hcp
  obtain ⟨a, ha⟩ : ∃ a, a = f.take 40 := ⟨_, rfl⟩
  have hal : a.length ≤ 40 := by rw [ha, List.length_take]; omega
  rw [← ha] at hcp
  have HCP := Lib.hid hcp
  have HCP2 := Lib.hid (fun W v (hW : MS W v a) => copy_any a v W hW (by omega))
  have HL1 := Lib.hid (fun W (hW : YS W u l) => letters_3 l u W hW h256)
  have hx8 : ∀ x ∈ lettersS l 3, x < 8 := fun x hx => by
    simp only [lettersS, List.mem_map] at hx
    obtain ⟨y, _, rfl⟩ := hx
    omega
  have hxl := letters_len l 3
  generalize lettersS l 3 = xs at *
  have hlaw := fun h => paths_law a xs h hxl hx8
  obtain ⟨R, hR⟩ : ∃ R, R = wordS a 3 xs := ⟨_, rfl⟩
  rw [← hR] at hlaw
  have HW1 := Lib.hid (fun v W z (h : MS W v a) (h2 : YS W z xs) (h3 : DB W) => (show Calls Tryd.prog 22 #[v, .int .i64 3, z] W fun e w' => e = .returned (.tuple #[.bool R.1, .int .i64 R.2]) ∧ Below W.heap.size W w' from by have q := Word_any a v z 3 xs W h h2 (fun x hx => by have := hx8 x hx; omega) h3; rw [← hR] at q; exact q))
  have HW2 := Lib.hid (fun (hh : ∀ m ∈ a, m.op ≠ 7 ∧ m.op ≠ 8) v W z (h : MS W v (a.map renM)) (h2 : TS W z (pathL xs)) (h3 : DB W) => (show Calls Tryd.prog 30 #[v, .int .i64 3, z] W fun e w' => e = .returned (.tuple #[.bool R.1, .int .i64 R.2]) ∧ Below W.heap.size W w' from by have q := MTree_any (a.map renM) v z 3 (pathL xs) W h h2 h3; rw [hlaw hh] at q; exact q))
  have HX8 := Lib.hid hx8
  have j1 : (0 : Int) ≤ min (n : Int) 40 := by omega
  have j2 : min (n : Int) 40 ≤ (c : Int) := by omega
  have HB : Hid (Below w.heap.size w w) := Below.refl _ _
  obtain ⟨r1, r2⟩ := R
  clear hcp hx8 hlaw hR ha hn h256 hdb
  go_enter Tryd.func8, Tryd.ntmps8
  go_upto_region 2 with (go_at_call 13; go_must (refine (HCP.out _ HV.out).mono ?_; rintro e wa ⟨va, rfl, hb, ho⟩; have HA := Lib.hid ho.ms; clear ho; replace HB := Lib.hid (HB.out.trans (hb.mono HB.out.size)); clear hb))
  go_wp2_with (go_at_call 13; go_must (refine (HCP2.out _ _ HA.out).mono ?_; rintro e wb ⟨vb, rfl, hb, ho⟩; have HO := Lib.hid ho; have HBA := Lib.hid hb; clear ho hb))
  have HA0 := Lib.hid HA.out
  obtain ⟨_, Aa, ca, rfl, k1, k2, k3⟩ := id HA.out
  obtain ⟨na, hna⟩ : ∃ na, na = a.length := ⟨_, rfl⟩
  have hvb : ∃ Ab cb, vb = .slice Ab na cb ∧ (0 < na → ∃ g, Ab = some ⟨g, 0, none⟩ ∧ wa.heap.size ≤ g) := by
    rcases HO.out.2.2 with ⟨hv, h0⟩ | ⟨g, cap, cur, hv, hB, hg, hnc, hcm, hcs, ht⟩
    · exact ⟨none, 0, by rw [hv, hna, h0], fun h => by omega⟩
    · exact ⟨_, cap, by rw [hv, hna], fun _ => ⟨g, rfl, hB⟩⟩
  obtain ⟨Ab, cb, rfl, hgb⟩ := hvb
  rw [← hna] at k1 hal HA
  have HNA := Lib.hid hna
  rw [← hna]
  clear hna k3
  go_loopg [7] na (fun gk v wr => ∃ k : Nat, k ≤ na ∧ gk = na - k ∧ v = .int .i64 k ∧ Below wa.heap.size wa wr ∧ MO wr wa.heap.size (.slice Ab na cb) (bk a k) ∧ ∀ m ∈ a.take k, m.op ≠ 7 ∧ m.op ≠ 8)
  case atStart => exact ⟨0, Nat.zero_le _, rfl, rfl, HBA.out, by rw [bk_zero]; exact HO.out, by simp⟩
  case round =>
    obtain ⟨k, hk, rfl, rfl, hbe, hown, hno⟩ := hrel
    have HBK := Lib.hid hbe; have HOK := Lib.hid hown; have HNO := Lib.hid hno
    clear hbe hown hno
    by_cases hlt : k < na
    · obtain ⟨m, hm⟩ : ∃ m, a[k]? = some m := ⟨a[k]'(by rw [← HNA.out]; exact hlt), List.getElem?_eq_getElem _⟩
      have hma := HA.out.below HBK.out (Nat.le_refl _)
      obtain ⟨b, o, rfl⟩ := hma.addr (by rw [← HNA.out]; omega)
      obtain ⟨x0, x1, x2, x3, x4⟩ := hma.at5 hm
      obtain ⟨g, rfl, hgg⟩ := hgb (by omega)
      obtain ⟨zc, hzc⟩ : ∃ zc, wr.cell? ⟨g, k * 5, none⟩ = some zc := by
        obtain ⟨g', cap', cs, hv', _, hr', hsz, _⟩ := own_row HOK.out.2 (by rw [bk_len, ← HNA.out]; omega)
        rw [bk_len, ← HNA.out] at hv' hsz
        cases hv'
        exact row_some hr' (by omega)
      have hzf : wr.frozen? ⟨g, k * 5, none⟩ = false := by
        obtain ⟨g', cap', cs, hv', _, hr', hsz, _⟩ := own_row HOK.out.2 (by rw [bk_len, ← HNA.out]; omega)
        rw [bk_len, ← HNA.out] at hv'
        cases hv'
        exact hr'.free _
      have hset := fun (h5 : m.op = 5) => set_mark (m' := renM m) HOK.out (by rw [bk_len]; exact HNA.out.symm) (bk_at hm) 0 (.int .u8 8) (by simp [renM, renO, h5]) (by simp [Mk.cells, renM, renO, h5]) (by omega)
      rw [bk_step hm] at hset
      have hskip := fun h5 => bk_skip hm h5
      have htk : ∀ q ∈ a.take (k + 1), q ∈ a.take k ∨ q = m := fun q hq => by
        rw [List.take_add_one, hm] at hq
        simpa using hq
      have HSET := Lib.hid hset; have HSK := Lib.hid hskip; have HTK := Lib.hid htk
      have hzs := HBK.out.size
      have HMM := Lib.hid hm
      clear hset hskip htk hma hm x1 x2 x3 x4
      obtain ⟨op, mx, my, ma, mb⟩ := m
      simp only at x0 HSET HSK
      by_cases h7 : op = 7
      · subst h7
        go_wp2_with (go_at_call 28; go_must (refine (awake16 _ (HDB.out.below (HB.out.trans (HBK.out.mono HB.out.size)) (Nat.le_refl _))).mono ?_; rintro e wl ⟨rfl, hb⟩; have HBW := Lib.hid ((HB.out.trans (HBK.out.mono HB.out.size)).trans (hb.mono (HB.out.trans (HBK.out.mono HB.out.size)).size)); clear hb))
        go_returns
        exact ⟨rfl, HBW.out⟩
      by_cases h8 : op = 8
      · subst h8
        go_wp2_with (go_at_call 28; go_must (refine (awake16 _ (HDB.out.below (HB.out.trans (HBK.out.mono HB.out.size)) (Nat.le_refl _))).mono ?_; rintro e wl ⟨rfl, hb⟩; have HBW := Lib.hid ((HB.out.trans (HBK.out.mono HB.out.size)).trans (hb.mono (HB.out.trans (HBK.out.mono HB.out.size)).size)); clear hb))
        go_returns
        exact ⟨rfl, HBW.out⟩
      have HN2 : Hid (∀ q ∈ a.take (k + 1), q.op ≠ 7 ∧ q.op ≠ 8) := fun q hq => by
        rcases HTK.out q hq with h | rfl
        · exact HNO.out q h
        · exact ⟨h7, h8⟩
      have q7 : (op == 7) = false := by simp [h7]
      have q8 : (op == 8) = false := by simp [h8]
      clear h7 h8
      by_cases h5 : op = 5
      · have HS5 := Lib.hid (HSET.out h5)
        subst h5
        go_wp2
        go_roundg (na - (k + 1))
        case rel => exact ⟨k + 1, by omega, rfl, by go_num, HBK.out.setCell hgg _, HS5.out, HN2.out⟩
        case measure => omega
      · have q5 : (op == 5) = false := by simp [h5]
        have HS5 := Lib.hid (HSK.out h5)
        clear h5
        go_wp2
        go_roundg (na - (k + 1))
        case rel => exact ⟨k + 1, by omega, rfl, by go_num, HBK.out, by rw [HS5.out]; exact HOK.out, HN2.out⟩
        case measure => omega
    · have hkn : k = na := by omega
      have hbm := HOK.out.ms
      rw [hkn, HNA.out, bk_all, ← HNA.out] at hbm
      have hno := HNO.out
      rw [hkn, List.take_of_length_le (by rw [← HNA.out]; exact Nat.le_refl _)] at hno
      have HBM := Lib.hid hbm; have HNN := Lib.hid hno
      clear hbm hno hkn
      obtain ⟨wo, rfl⟩ : ∃ wo : World, wo = wr := ⟨_, rfl⟩
      have HAW := Lib.hid (HA.out.below HBK.out (Nat.le_refl _))
      have HBW := Lib.hid (HB.out.trans (HBK.out.mono HB.out.size))
      go_wp2_with (go_at_call 34; go_must (refine (HL1.out _ (HU.out.below HBW.out (Nat.le_refl _))).mono ?_; rintro e wl ⟨vl, rfl, hb, ho⟩; have H1 := Lib.hid ho.ys; clear ho; replace HAW := Lib.hid (HAW.out.below hb (Nat.le_refl _)); replace HBM := Lib.hid (HBM.out.below hb (Nat.le_refl _)); replace HBW := Lib.hid (HBW.out.trans (hb.mono HBW.out.size)); clear hb))
      obtain ⟨Ax, cx, rfl, d1, d2, d3⟩ := id H1.out
      obtain ⟨nx, hnx⟩ : ∃ nx, nx = xs.length := ⟨_, rfl⟩
      rw [← hnx] at d1 d3 H1 hxl
      have HNX := Lib.hid hnx; have HD3 := Lib.hid d3
      rw [← hnx]
      clear hnx d3
      go_loopg [9, 10] nx (fun gk q v wr => ∃ k : Nat, k ≤ nx ∧ gk = nx - k ∧ v = .int .i64 k ∧ Below wl.heap.size wl wr ∧ TO wr wl.heap.size q (pp (xs.take k)))
      case atStart => exact ⟨0, Nat.zero_le _, rfl, rfl, Below.refl _ _, TO.nil _ _⟩
      case round =>
        obtain ⟨k, hk, rfl, rfl, hbe, hown⟩ := hrel
        have HBL := Lib.hid hbe; have HOL := Lib.hid hown
        clear hbe hown
        by_cases hlt2 : k < nx
        · obtain ⟨x, hx⟩ : ∃ x, xs[k]? = some x := ⟨xs[k]'(by rw [← HNX.out]; exact hlt2), List.getElem?_eq_getElem _⟩
          obtain ⟨b, o, rfl, hb, hcell⟩ := HD3.out (by omega)
          have c0 : wr.cell? ⟨b, o + k, none⟩ = some (.int .u8 x) := (HBL.out.cell (p := ⟨b, _, none⟩) hb).trans (hcell k x hx)
          have hx8 := HX8.out x (List.mem_of_getElem? hx)
          have hpp : Hid (pp (xs.take (k + 1)) = pp (xs.take k) ++ [⟨x, -1, (k : Int) + 1⟩]) := by
            rw [Hid, List.take_add_one, hx, Option.toList_some, pp_snoc, List.length_take, ← HNX.out, Nat.min_eq_left (by omega)]; simp
          have hll : (pp (xs.take k)).length ≤ 100 := by rw [pp_len, List.length_take]; omega
          have hzs := HBL.out.size
          clear hcell hx
          go_wp2_with (at_builtin; go_must (refine wpList_append_ts rfl (.tmp 62) (.tmp 70) rfl wl.heap.size u9 (pp (xs.take k)) rfl (HOL.out.below (B' := wr.heap.size) (by go_grown) (Nat.le_refl _)) _ [⟨x, -1, (k : Int) + 1⟩] rfl (TS.litL [⟨x, -1, (k : Int) + 1⟩] (by simp) (by simp [LbOk]; omega) (by first | exact Row.new _ _ _ | exact Row.lit (by simp only [World.size_alloc]))) (by simp only [List.length_cons, List.length_nil]; omega) (by simp only [World.size_alloc]; omega) ?_; intro v3 w3 ho3 hg3 _))
          have HB3 := Lib.hid (own_below_t (w := wl) (g := []) (v' := v3) (by have h1 := HBL.out; go_grown) (HOL.out.below (B' := wr.heap.size) (by go_grown) (Nat.le_refl _)) hg3 (by simp only [World.size_alloc]; omega))
          rw [← hpp.out] at ho3
          have HO3 := Lib.hid ho3; clear ho3 hg3
          go_wp2
          go_roundg (nx - (k + 1))
          case rel => exact ⟨k + 1, by omega, rfl, by go_num, HB3.out, HO3.out⟩
          case measure => omega
        · have hkn : k = nx := by omega
          have ho := HOL.out
          rw [hkn, List.take_of_length_le (by rw [← HNX.out]; exact Nat.le_refl _)] at ho
          have HOF := Lib.hid ho
          clear ho hkn
          by_cases hn0 : nx = 0
          · have hxe : xs = [] := List.eq_nil_of_length_eq_zero (by rw [← HNX.out]; exact hn0)
            have hsh := HOF.out.2
            rw [pp_len, ← HNX.out, hn0] at hsh
            obtain ⟨A9, c9, h9⟩ := over_nil_shape hsh
            have HPT : Hid (TS wr u9 (pathL xs)) := by
              have := HOF.out.ts
              rw [hxe] at this ⊢
              exact this
            have HSH := Lib.hid h9
            clear hsh hxe HOF
            subst h9
            subst hn0
            go_wp2_with (first
              | (go_at_call 22; (with_reducible refine (HW1.out _ _ _ (HAW.out.below HBL.out (Nat.le_refl _)) (H1.out.below HBL.out (Nat.le_refl _)) (HDB.out.below (HBW.out.trans (Below.mono HBL.out HBW.out.size)) (Nat.le_refl _))).mono ?_); rintro e wq ⟨rfl, hb⟩; have HBQ := Lib.hid ((HBW.out.trans (Below.mono HBL.out HBW.out.size)).trans (hb.mono (HBW.out.trans (Below.mono HBL.out HBW.out.size)).size)); have HB1 := Lib.hid ((HBM.out.below HBL.out (Nat.le_refl _)).below hb (Nat.le_refl _)); replace HPT := Lib.hid (HPT.out.below hb (Nat.le_refl _)); clear hb)
              | (go_at_call 30; (with_reducible refine (HW2.out HNN.out _ _ _ HB1.out HPT.out (HDB.out.below HBQ.out (Nat.le_refl _))).mono ?_); rintro e wq2 ⟨rfl, hb⟩; replace HBQ := Lib.hid (HBQ.out.trans (hb.mono HBQ.out.size)); clear hb)
              | (go_at_call 28; go_must (refine (awake16 _ (HDB.out.below HBQ.out (Nat.le_refl _))).mono ?_; rintro e wq2 ⟨rfl, hb⟩; replace HBQ := Lib.hid (HBQ.out.trans (hb.mono HBQ.out.size)); clear hb)))
            go_returns
            exact ⟨rfl, HBQ.out⟩
          · have hpos : 0 < nx := by omega
            obtain ⟨x, hx⟩ : ∃ x, xs[nx - 1]? = some x := ⟨xs[nx - 1]'(by rw [← HNX.out]; omega), List.getElem?_eq_getElem _⟩
            obtain ⟨g9, c9, cs9, h9, hB9, hr9, hs9, hm9⟩ := own_row HOF.out.2 (by rw [pp_len, ← HNX.out]; exact hpos)
            rw [pp_len, ← HNX.out] at h9 hs9 hm9
            subst h9
            have hset := set_leaf (m' := ⟨x, -1, -1⟩) HOF.out (by rw [pp_len]; exact HNX.out.symm) (pp_get xs (nx - 1) x hx) 2 (.int .i64 (-1)) (by have := HX8.out x (List.mem_of_getElem? hx); simp; omega) (by simp [Lf.cells]) (by omega)
            have hpl := pp_path xs x (by rw [← HNX.out]; exact hx)
            rw [← HNX.out] at hpl
            rw [hpl] at hset
            obtain ⟨z9, hz9⟩ := row_some hr9 (i := (nx - 1) * 3 + 2) (by omega)
            have hf9 := hr9.free ((nx - 1) * 3 + 2)
            have hbs := HBL.out.setCell (p := ⟨g9, (nx - 1) * 3 + 2, none⟩) hB9 (.int .i64 (-1))
            have HBS := Lib.hid hbs
            have HPT := Lib.hid hset.ts
            have nn1 : ((nx : Int) - 1).toNat = nx - 1 := by omega
            clear hset hpl hx hr9 hbs HOF hn0
            go_wp2_with (first
              | (go_at_call 22; (with_reducible refine (HW1.out _ _ _ (HAW.out.below HBS.out (Nat.le_refl _)) (H1.out.below HBS.out (Nat.le_refl _)) (HDB.out.below (HBW.out.trans (Below.mono HBS.out HBW.out.size)) (Nat.le_refl _))).mono ?_); rintro e wq ⟨rfl, hb⟩; have HBQ := Lib.hid ((HBW.out.trans (Below.mono HBS.out HBW.out.size)).trans (hb.mono (HBW.out.trans (Below.mono HBS.out HBW.out.size)).size)); have HB1 := Lib.hid ((HBM.out.below HBS.out (Nat.le_refl _)).below hb (Nat.le_refl _)); replace HPT := Lib.hid (HPT.out.below hb (Nat.le_refl _)); clear hb)
              | (go_at_call 30; (with_reducible refine (HW2.out HNN.out _ _ _ HB1.out HPT.out (HDB.out.below HBQ.out (Nat.le_refl _))).mono ?_); rintro e wq2 ⟨rfl, hb⟩; replace HBQ := Lib.hid (HBQ.out.trans (hb.mono HBQ.out.size)); clear hb)
              | (go_at_call 28; go_must (refine (awake16 _ (HDB.out.below HBQ.out (Nat.le_refl _))).mono ?_; rintro e wq2 ⟨rfl, hb⟩; replace HBQ := Lib.hid (HBQ.out.trans (hb.mono HBQ.out.size)); clear hb)))
            go_returns
            exact ⟨rfl, HBQ.out⟩
end Go.Proofs.YtdlibehffgfhlaaDoor

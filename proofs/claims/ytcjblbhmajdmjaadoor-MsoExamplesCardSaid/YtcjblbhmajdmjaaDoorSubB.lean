/- Contract: the closure of Substitute where it writes. -/
import Derived.Test.YtcjblbhmajdmjaaDoorSubA
set_option linter.unusedSimpArgs false
set_option linter.unusedVariables false
namespace Go.Proofs.YtcjblbhmajdmjaaDoor
open Go.RowKit

theorem MS.at5 {w : World} {b o n c : Nat} {f : List Mk} {j : Nat} {m : Mk} (h : MS w (.slice (some ⟨b, o, none⟩) n c) f) (hj : f[j]? = some m) : M5 w b (o + j * 5) m := by
  obtain ⟨_, A, c', hv, _, _, hc⟩ := h
  obtain ⟨b', o', hA, _, hm⟩ := hc (by have := (List.getElem?_eq_some_iff.1 hj).1; omega)
  rw [hA] at hv
  simp only [Value.slice.injEq, Option.some.injEq, Addr.mk.injEq, and_true] at hv
  obtain ⟨⟨rfl, rfl⟩, _, _⟩ := hv
  exact hm j m hj
theorem own_cells {w : World} {B g n cap : Nat} {f : List Mk} (h : MO w B (.slice (some ⟨g, 0, none⟩) n cap) f) (hn : f.length = n) : ∀ i, i < n * 5 → ∃ u, w.cell? ⟨g, i, none⟩ = some u := by
  intro i hi
  subst hn
  have hl : i < (fcells f).length := by rw [fcells_len]; exact hi
  exact ⟨(fcells f)[i], (h.2.cellAt i hi).trans (List.getElem?_eq_getElem hl)⟩
theorem own_free {w : World} {B g n cap : Nat} {f : List Mk} (h : MO w B (.slice (some ⟨g, 0, none⟩) n cap) f) : ∀ i, w.frozen? ⟨g, i, none⟩ = false := by
  intro i
  rcases h.2.2 with ⟨h', _⟩ | ⟨g', cap', cur, h', _, hg, _⟩
  · simp at h'
  · simp only [Value.slice.injEq, Option.some.injEq, Addr.mk.injEq, and_true, true_and] at h'
    obtain ⟨rfl, _, _⟩ := h'
    exact frozen_of_row w g i cur _ hg
theorem set_same {f : List Mk} {j : Nat} {m : Mk} (h : f[j]? = some m) : f.set j m = f := by
  apply List.ext_getElem?
  intro i
  by_cases hij : j = i
  · subst hij; rw [List.getElem?_set_self (List.getElem?_eq_some_iff.1 h).1, h]
  · rw [List.getElem?_set_ne hij]

set_option maxRecDepth 100000 in
set_option maxHeartbeats 4000000 in
theorem subst1_c (gf gx gy gc gob gr n cap B : Nat) (f : List Mk) (v : Value) (x y : Int) (j : Nat) (m mm : Mk) (ab : List Int) (abv : Value) (s : List Mk × Bool) (w : World) (hm : f[j]? = some m) (hok : okLeaf m.op m.x m.y)
    (hv : MS w v f) (ha : Away (fun b => b = gc ∨ b = gr) v) (hab : IS w abv ab) (haw : Away (fun b => b = gc ∨ b = gr) abv) (hl : f.length ≤ 64) (hn : n = f.length) (hs : SubInv gf gx gy gc gob gr n cap B f v x y s w) (hsm : s.1[j]? = some mm)
    (hd : gf ≠ gc ∧ gf ≠ gr ∧ gx ≠ gc ∧ gx ≠ gr ∧ gy ≠ gc ∧ gy ≠ gr ∧ gob ≠ gc ∧ gob ≠ gr ∧ gc ≠ gr) (ht1 : true = (occ m).contains x) (ht2 : false = ab.contains x) :
    Calls Tryd.prog 52 #[.int .i64 j, abv, .pointer (some ⟨gf, 0, none⟩), .pointer (some ⟨gx, 0, none⟩), .pointer (some ⟨gc, 0, none⟩), .pointer (some ⟨gy, 0, none⟩), .pointer (some ⟨gob, 0, none⟩)] w
      (Done (fun b => b = gc ∨ b = gr) w (SubInv gf gx gy gc gob gr n cap B f v x y (stepS f x y j ab s))) := by
  have hjl : j < f.length := (List.getElem?_eq_some_iff.1 hm).1
  have HV := Lib.hid hv
  obtain ⟨hop, A, c, rfl, hc, hc2, hcell⟩ := hv
  obtain ⟨b, o, rfl, hb, hcell⟩ := hcell (by omega)
  obtain ⟨c0, c1, c2, c3, c4⟩ := hcell j _ hm
  obtain ⟨m1, m2⟩ := hop _ (List.mem_of_getElem? hm)
  clear hcell hop
  have HM := Lib.hid hm; clear hm
  have HOK := Lib.hid hok; clear hok
  have HAB := Lib.hid hab; clear hab
  have HAW := Lib.hid haw; clear haw
  have HA := Lib.hid ha; clear ha
  have HN := Lib.hid hn; clear hn
  have HD := Lib.hid hd; clear hd
  have x0 := hs.rf.cell; have x1 := hs.rx.cell; have x2 := hs.ry.cell; have x3 := hs.rc.cell; have x4 := hs.ro.cell
  have HSM := Lib.hid hsm; clear hsm
  have HS := Lib.hid hs; clear hs
  have HT1 := Lib.hid ht1; clear ht1
  have HT2 := Lib.hid ht2; clear ht2
  have HE : Hid (stepS f x y j ab s = (s.1.set j (sub2 m mm x y), s.2 || ab.contains y)) := by unfold Hid; rw [stepS, HM.out, HSM.out]; simp only [← HT1.out, ← HT2.out]; simp
  go_enter Tryd.func52, Tryd.ntmps52
  go_wp2
  go_cut [22] (fun v wx => v = .bool false ∧ Below w.heap.size w wx)
  case first =>
    first | go_region_law (first
      | (go_simp; go_at_call 46; refine (occurs_any m _ m1 m2).mono ?_; rintro e w2 ⟨v1, rfl, hb2, hfr2, hi2⟩; have HB2 : Hid (Below w.heap.size w w2) := (Below.trans (by go_grown) (hb2.mono (by simp))); have z1 : ∀ q, w2.cell? ⟨gx, q, none⟩ = #[Value.int .i64 x][q]? := (HS.out.rx.below HB2.out HS.out.rx.lt).cell; clear hb2 hfr2; try go_simp)
      | (go_simp; go_at_call 47; refine (contains_ints (occ m) _ x _ (hi2.below (B := w2.heap.size) (by first | exact Below.refl _ _ | go_grown) (Nat.le_refl _))).mono ?_; rintro e w3 ⟨rfl, rfl⟩; rw [← HT1.out]; try go_simp)
      | (go_simp; go_at_call 47; refine (contains_ints ab _ x _ ((HAB.out.below HB2.out (Nat.le_refl _)).below (B := w2.heap.size) (by first | exact Below.refl _ _ | go_grown) (Nat.le_refl _))).mono ?_; rintro e w4 ⟨rfl, rfl⟩; rw [← HT2.out]; try go_simp)) | fail
    all_goals
      go_wp2_with fail
      go_meet
      have hb := HB2.out
      exact ⟨rfl, by go_grown⟩
  case rest =>
    obtain ⟨rfl, hb⟩ := hcut
    obtain ⟨w2, hw2⟩ : ∃ w2, w2 = wc := ⟨_, rfl⟩
    subst hw2
    obtain ⟨t3, ht3⟩ : ∃ t3, t3 = ab.contains y := ⟨_, rfl⟩
    rw [← ht3] at HE
    have HT3 := Lib.hid ht3; clear ht3
    have HB := Lib.hid hb; clear hb
    have HS2 := Lib.hid (HS.out.below HB.out)
    clear x0 x1 x2 x3 x4 c0 c1 c2 c3 c4
    have x3 := HS2.out.rc.cell
    have x5 := HS2.out.rc.free
    have x2 := HS2.out.ry.cell
    go_upto_region 1 with fail
    go_cut [] (fun wx => Keep (fun b => b = gc ∨ b = gr) w2 wx ∧ SubInv gf gx gy gc gob gr n cap B f (.slice (some ⟨b, o, none⟩) f.length c) x y (s.1, s.2 || t3) wx)
    case first =>
      rcases bool_cases s.2 with hs2 | hs2
      · have HS3 := Lib.hid hs2
        rw [hs2] at x3; clear hs2
        go_wp2
        go_meet
        exact ⟨(Keep.refl _ _).set (.inl (.inl rfl)) _, by rw [HS3.out]; exact HS2.out.clash HD.out true⟩
      · have HS3 := Lib.hid hs2
        rw [hs2] at x3; clear hs2
        go_wp2_with (go_at_call 47; go_must (refine (contains_ints ab _ y _ (HAB.out.below HB.out (Nat.le_refl _))).mono ?_; rintro e w3 ⟨rfl, rfl⟩; rw [← HT3.out]))
        go_meet
        exact ⟨(Keep.refl _ _).set (.inl (.inl rfl)) _, by rw [HS3.out]; exact HS2.out.clash HD.out (false || t3)⟩
    case rest =>
      obtain ⟨hk, hs3⟩ := hcut
      obtain ⟨w3, hw3⟩ : ∃ w3, w3 = wc := ⟨_, rfl⟩
      subst hw3
      clear x2 x3 x5
      have HK : Hid (Keep (fun b => b = gc ∨ b = gr) w w3) := (Keep.of_below HB.out (Nat.le_refl _)).trans hk
      clear hk
      generalize (s.2 || t3) = t4 at *
      have HS3 := Lib.hid hs3; clear hs3
      have HV3 := Lib.hid (HV.out.keep HA.out HK.out)
      obtain ⟨c0, c1, c2, c3, c4⟩ := HV3.out.at5 HM.out
      have x0 := HS3.out.rf.cell
      have hfd := fld_form1
      have hnv : nv m.op = 1 ∨ nv m.op = 2 := by
        rcases nv_cases m.op with h | h | h
        · have := HT1.out; simp [occ, h] at this
        · exact .inl h
        · exact .inr h
      obtain ⟨q1, q3⟩ := HS.out.own.1 mm (List.mem_of_getElem? HSM.out)
      have hjn : j < n := by rw [HN.out]; exact hjl
      have HNV := Lib.hid hnv; clear hnv
      go_upto_region 3 with (go_at_call 53; go_must (refine (forms_any _ _ m1 m2).mono ?_; rintro e w5 ⟨rfl, hb5⟩))
      have HK5 : Hid (Keep (fun b => b = gc ∨ b = gr) w w5) := HK.out.trans (Keep.of_below hb5 (Nat.le_refl _))
      have HS5 := Lib.hid (HS3.out.below hb5)
      have HV5 := Lib.hid (HV3.out.below hb5 (Nat.le_refl _))
      clear hb5 x0 c0 c1 c2 c3 c4
      obtain ⟨c0, c1, c2, c3, c4⟩ := HV5.out.at5 HM.out
      have x0 := HS5.out.rf.cell
      have x1 := HS5.out.rx.cell
      have x2 := HS5.out.ry.cell; have x6 := HS5.out.ro.cell; have g0 := own_cells HS5.out.own HS5.out.len; have g1 := own_free HS5.out.own
      obtain ⟨q2, g2⟩ := g0 (j * 5 + 1) (by rw [HN.out]; omega)
      have G0 := Lib.hid g0; clear g0
      by_cases e1 : m.x = x
      · have e1' : (m.x == x) = true := by simp [e1]
        have E1 := Lib.hid e1; clear e1
        rcases HNV.out with hnv | hnv
        · rw [hnv]
          have HNV := Lib.hid hnv; clear hnv
          first | go_region | fail
          go_upto_region 5 with fail
          have HS6 : Hid (SubInv gf gx gy gc gob gr n cap B f (.slice (some ⟨b, o, none⟩) f.length c) x y (s.1.set j { mm with x := y }, t4) (w5.setCell ⟨gr, j * 5 + 1, none⟩ (.int .i64 y))) := HS5.out.mark (s := (s.1, t4)) HD.out (m' := { mm with x := y }) HSM.out 1 (.int .i64 y) ⟨q1, q3⟩ rfl (by omega)
          refine wp_abs (fun W => Keep (fun b => b = gc ∨ b = gr) w W ∧ SubInv gf gx gy gc gob gr n cap B f (.slice (some ⟨b, o, none⟩) f.length c) x y (s.1.set j { mm with x := y }, t4) W) ⟨(HK5.out.drew).set (.inl (.inr rfl)) _, HS6.out.drew⟩ ?_
          rintro w7 ⟨hk7, hs7⟩
          have HK7 := Lib.hid hk7; have HS7 := Lib.hid hs7
          clear hk7 hs7 x0 x1 x2 x6 g1 g2 c0 c1 c2 c3 c4
          have HV7 := Lib.hid (HV.out.keep HA.out HK7.out)
          obtain ⟨c0, c1, c2, c3, c4⟩ := HV7.out.at5 HM.out
          have x0 := HS7.out.rf.cell; have x1 := HS7.out.rx.cell; have x2 := HS7.out.ry.cell; have x6 := HS7.out.ro.cell; have g0 := own_cells HS7.out.own HS7.out.len; have g1 := own_free HS7.out.own
          obtain ⟨q2, g2⟩ := g0 (j * 5 + 2) (by rw [HN.out]; omega)
          have G0 := Lib.hid g0; clear g0
          first | go_region | fail
          go_wp2
          refine bodyPost_ret (results_none rfl _ _ _) rfl ?_
          refine ⟨rfl, HK7.out.drew, ?_⟩
          have hfin := HS7.out.drew
          rw [HE.out]
          have e9 : s.1.set j { mm with x := y } = s.1.set j (sub2 m mm x y) := by simp [sub2, HNV.out, E1.out]
          rw [e9] at hfin; exact hfin
        · by_cases e2 : m.y = x
          · have e2' : (m.y == x) = true := by simp [e2]
            have E2 := Lib.hid e2; clear e2
            rw [hnv]
            have HNV := Lib.hid hnv; clear hnv
            first | go_region | fail
            go_upto_region 5 with fail
            have HS6 : Hid (SubInv gf gx gy gc gob gr n cap B f (.slice (some ⟨b, o, none⟩) f.length c) x y (s.1.set j { mm with x := y }, t4) (w5.setCell ⟨gr, j * 5 + 1, none⟩ (.int .i64 y))) := HS5.out.mark (s := (s.1, t4)) HD.out (m' := { mm with x := y }) HSM.out 1 (.int .i64 y) ⟨q1, q3⟩ rfl (by omega)
            refine wp_abs (fun W => Keep (fun b => b = gc ∨ b = gr) w W ∧ SubInv gf gx gy gc gob gr n cap B f (.slice (some ⟨b, o, none⟩) f.length c) x y (s.1.set j { mm with x := y }, t4) W) ⟨(HK5.out.drew).set (.inl (.inr rfl)) _, HS6.out.drew⟩ ?_
            rintro w7 ⟨hk7, hs7⟩
            have HK7 := Lib.hid hk7; have HS7 := Lib.hid hs7
            clear hk7 hs7 x0 x1 x2 x6 g1 g2 c0 c1 c2 c3 c4
            have HV7 := Lib.hid (HV.out.keep HA.out HK7.out)
            obtain ⟨c0, c1, c2, c3, c4⟩ := HV7.out.at5 HM.out
            have x0 := HS7.out.rf.cell; have x1 := HS7.out.rx.cell; have x2 := HS7.out.ry.cell; have x6 := HS7.out.ro.cell; have g0 := own_cells HS7.out.own HS7.out.len; have g1 := own_free HS7.out.own
            obtain ⟨q2, g2⟩ := g0 (j * 5 + 2) (by rw [HN.out]; omega)
            have G0 := Lib.hid g0; clear g0
            first | go_region | fail
            go_wp2
            refine bodyPost_ret (results_none rfl _ _ _) rfl ?_
            refine ⟨rfl, (HK7.out.drew).set (.inl (.inr rfl)) _, ?_⟩
            have hfin := HS7.out.mark (s := (s.1.set j { mm with x := y }, t4)) HD.out (m := { mm with x := y }) (m' := { { mm with x := y } with y := y }) (by rw [List.getElem?_set_self (by rw [HS.out.len, HN.out]; exact hjl)]) 2 (.int .i64 y) ⟨q1, q3⟩ rfl (by omega)
            rw [HE.out]
            have e9 : (s.1.set j { mm with x := y }).set j { { mm with x := y } with y := y } = s.1.set j (sub2 m mm x y) := by simp [sub2, HNV.out, E1.out, E2.out]
            rw [e9] at hfin; exact hfin.drew
          · have e2' : (m.y == x) = false := by simp [e2]
            have E2 := Lib.hid e2; clear e2
            rw [hnv]
            have HNV := Lib.hid hnv; clear hnv
            first | go_region | fail
            go_upto_region 5 with fail
            have HS6 : Hid (SubInv gf gx gy gc gob gr n cap B f (.slice (some ⟨b, o, none⟩) f.length c) x y (s.1.set j { mm with x := y }, t4) (w5.setCell ⟨gr, j * 5 + 1, none⟩ (.int .i64 y))) := HS5.out.mark (s := (s.1, t4)) HD.out (m' := { mm with x := y }) HSM.out 1 (.int .i64 y) ⟨q1, q3⟩ rfl (by omega)
            refine wp_abs (fun W => Keep (fun b => b = gc ∨ b = gr) w W ∧ SubInv gf gx gy gc gob gr n cap B f (.slice (some ⟨b, o, none⟩) f.length c) x y (s.1.set j { mm with x := y }, t4) W) ⟨(HK5.out.drew).set (.inl (.inr rfl)) _, HS6.out.drew⟩ ?_
            rintro w7 ⟨hk7, hs7⟩
            have HK7 := Lib.hid hk7; have HS7 := Lib.hid hs7
            clear hk7 hs7 x0 x1 x2 x6 g1 g2 c0 c1 c2 c3 c4
            have HV7 := Lib.hid (HV.out.keep HA.out HK7.out)
            obtain ⟨c0, c1, c2, c3, c4⟩ := HV7.out.at5 HM.out
            have x0 := HS7.out.rf.cell; have x1 := HS7.out.rx.cell; have x2 := HS7.out.ry.cell; have x6 := HS7.out.ro.cell; have g0 := own_cells HS7.out.own HS7.out.len; have g1 := own_free HS7.out.own
            obtain ⟨q2, g2⟩ := g0 (j * 5 + 2) (by rw [HN.out]; omega)
            have G0 := Lib.hid g0; clear g0
            first | go_region | fail
            go_wp2
            refine bodyPost_ret (results_none rfl _ _ _) rfl ?_
            refine ⟨rfl, HK7.out.drew, ?_⟩
            have hfin := HS7.out.drew
            rw [HE.out]
            have e9 : s.1.set j { mm with x := y } = s.1.set j (sub2 m mm x y) := by simp [sub2, HNV.out, E1.out, E2.out]
            rw [e9] at hfin; exact hfin
      · have e1' : (m.x == x) = false := by simp [e1]
        have E1 := Lib.hid e1; clear e1
        rcases HNV.out with hnv | hnv
        · rw [hnv]
          have HNV := Lib.hid hnv; clear hnv
          first | go_region | fail
          go_upto_region 5 with fail
          refine wp_abs (fun W => Keep (fun b => b = gc ∨ b = gr) w W ∧ SubInv gf gx gy gc gob gr n cap B f (.slice (some ⟨b, o, none⟩) f.length c) x y (s.1, t4) W) ⟨HK5.out.drew, HS5.out.drew⟩ ?_
          rintro w7 ⟨hk7, hs7⟩
          have HK7 := Lib.hid hk7; have HS7 := Lib.hid hs7
          clear hk7 hs7 x0 x1 x2 x6 g1 g2 c0 c1 c2 c3 c4
          have HV7 := Lib.hid (HV.out.keep HA.out HK7.out)
          obtain ⟨c0, c1, c2, c3, c4⟩ := HV7.out.at5 HM.out
          have x0 := HS7.out.rf.cell; have x1 := HS7.out.rx.cell; have x2 := HS7.out.ry.cell; have x6 := HS7.out.ro.cell; have g0 := own_cells HS7.out.own HS7.out.len; have g1 := own_free HS7.out.own
          obtain ⟨q2, g2⟩ := g0 (j * 5 + 2) (by rw [HN.out]; omega)
          have G0 := Lib.hid g0; clear g0
          first | go_region | fail
          go_wp2
          refine bodyPost_ret (results_none rfl _ _ _) rfl ?_
          refine ⟨rfl, HK7.out.drew, ?_⟩
          have hfin := HS7.out.drew
          rw [HE.out]
          have e9 : s.1 = s.1.set j (sub2 m mm x y) := by rw [show sub2 m mm x y = mm by simp [sub2, HNV.out, E1.out]]; exact (set_same HSM.out).symm
          rw [e9] at hfin; exact hfin
        · by_cases e2 : m.y = x
          · have e2' : (m.y == x) = true := by simp [e2]
            have E2 := Lib.hid e2; clear e2
            rw [hnv]
            have HNV := Lib.hid hnv; clear hnv
            first | go_region | fail
            go_upto_region 5 with fail
            refine wp_abs (fun W => Keep (fun b => b = gc ∨ b = gr) w W ∧ SubInv gf gx gy gc gob gr n cap B f (.slice (some ⟨b, o, none⟩) f.length c) x y (s.1, t4) W) ⟨HK5.out.drew, HS5.out.drew⟩ ?_
            rintro w7 ⟨hk7, hs7⟩
            have HK7 := Lib.hid hk7; have HS7 := Lib.hid hs7
            clear hk7 hs7 x0 x1 x2 x6 g1 g2 c0 c1 c2 c3 c4
            have HV7 := Lib.hid (HV.out.keep HA.out HK7.out)
            obtain ⟨c0, c1, c2, c3, c4⟩ := HV7.out.at5 HM.out
            have x0 := HS7.out.rf.cell; have x1 := HS7.out.rx.cell; have x2 := HS7.out.ry.cell; have x6 := HS7.out.ro.cell; have g0 := own_cells HS7.out.own HS7.out.len; have g1 := own_free HS7.out.own
            obtain ⟨q2, g2⟩ := g0 (j * 5 + 2) (by rw [HN.out]; omega)
            have G0 := Lib.hid g0; clear g0
            first | go_region | fail
            go_wp2
            refine bodyPost_ret (results_none rfl _ _ _) rfl ?_
            refine ⟨rfl, (HK7.out.drew).set (.inl (.inr rfl)) _, ?_⟩
            have hfin := HS7.out.mark (s := (s.1, t4)) HD.out (m' := { mm with y := y }) HSM.out 2 (.int .i64 y) ⟨q1, q3⟩ rfl (by omega)
            rw [HE.out]
            have e9 : (s.1).set j { mm with y := y } = s.1.set j (sub2 m mm x y) := by simp [sub2, HNV.out, E1.out, E2.out]
            rw [e9] at hfin; exact hfin.drew
          · have e2' : (m.y == x) = false := by simp [e2]
            have E2 := Lib.hid e2; clear e2
            rw [hnv]
            have HNV := Lib.hid hnv; clear hnv
            first | go_region | fail
            go_upto_region 5 with fail
            refine wp_abs (fun W => Keep (fun b => b = gc ∨ b = gr) w W ∧ SubInv gf gx gy gc gob gr n cap B f (.slice (some ⟨b, o, none⟩) f.length c) x y (s.1, t4) W) ⟨HK5.out.drew, HS5.out.drew⟩ ?_
            rintro w7 ⟨hk7, hs7⟩
            have HK7 := Lib.hid hk7; have HS7 := Lib.hid hs7
            clear hk7 hs7 x0 x1 x2 x6 g1 g2 c0 c1 c2 c3 c4
            have HV7 := Lib.hid (HV.out.keep HA.out HK7.out)
            obtain ⟨c0, c1, c2, c3, c4⟩ := HV7.out.at5 HM.out
            have x0 := HS7.out.rf.cell; have x1 := HS7.out.rx.cell; have x2 := HS7.out.ry.cell; have x6 := HS7.out.ro.cell; have g0 := own_cells HS7.out.own HS7.out.len; have g1 := own_free HS7.out.own
            obtain ⟨q2, g2⟩ := g0 (j * 5 + 2) (by rw [HN.out]; omega)
            have G0 := Lib.hid g0; clear g0
            first | go_region | fail
            go_wp2
            refine bodyPost_ret (results_none rfl _ _ _) rfl ?_
            refine ⟨rfl, HK7.out.drew, ?_⟩
            have hfin := HS7.out.drew
            rw [HE.out]
            have e9 : s.1 = s.1.set j (sub2 m mm x y) := by rw [show sub2 m mm x y = mm by simp [sub2, HNV.out, E1.out, E2.out]]; exact (set_same HSM.out).symm
            rw [e9] at hfin; exact hfin
end Go.Proofs.YtcjblbhmajdmjaaDoor

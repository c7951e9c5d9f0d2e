/- Contract: built of the package treedet, with the functions of Minimize. -/
import Derived.Test.YthkfjnmnoanhlaaGreatDoorDtG
set_option linter.unusedSimpArgs false
set_option linter.unusedVariables false
namespace Go.Proofs.YthkfjnmnoanhlaaGreatDoor
open Go.RowKit

abbrev Cb3M (n L : Nat) (nx : Nat → Nat → Nat → Nat) (k1 k2 k3 : Value) (w : World) : Prop := ∀ (l r x : Nat) (W : World), l < n → r < n → x < L → Below w.heap.size w W →
  Calls Tryz.prog 85 #[.int .i64 (l : Int), .int .i64 (r : Int), .int .i64 (x : Int), k1, k2, k3] W fun e W' => e = .returned (.int .i64 ((nx l r x : Nat) : Int)) ∧ Below W.heap.size W W'
abbrev Cb1M (n : Nat) (fin : Nat → Bool) (j1 j2 : Value) (w : World) : Prop := ∀ (l : Nat) (W : World), l < n → Below w.heap.size w W →
  Calls Tryz.prog 86 #[.int .i64 (l : Int), j1, j2] W fun e W' => e = .returned (.bool (fin l)) ∧ Below W.heap.size W W'
set_option maxRecDepth 100000 in
set_option maxHeartbeats 8000000 in
theorem built_M (V n L : Nat) (hV : V ≤ 3) (hL : L = 2 ^ V) (hn : n ≤ 64) (nx : Nat → Nat → Nat → Nat) (fin : Nat → Bool) (k1 k2 k3 j1 j2 : Value) (w : World) (hc1 : Cb3M n L nx k1 k2 k3 w) (hc2 : Cb1M n fin j1 j2 w) :
    Calls Tryz.prog 84 #[.int .i64 (V : Int), .int .i64 (n : Int), .func (.func 85) #[] #[k1, k2, k3], .func (.func 86) #[] #[j1, j2]] w
      fun e w' => ∃ v, e = .returned v ∧ Below w.heap.size w w' ∧ TDO w' w.heap.size v ⟨V, 0, nx3 n L nx, (List.range n).map fin⟩ := by
  have hsh := shl_i64 V hV
  rw [← hL] at hsh
  have hL8 : L ≤ 8 := by rw [hL]; exact Nat.pow_le_pow_right (by omega) hV
  have hV3' : (V : Int) ≤ 3 := by omega
  have hmk := run_make_vs eII n (by omega)
  have HC1 := Lib.hid hc1; have HC2 := Lib.hid hc2
  clear hc1 hc2 hL
  go_enter Tryz.func84, Tryz.ntmps84
  go_wp2
  refine wp_abs (fun W => Below w.heap.size w W ∧ Row W w.heap.size 25 #[.int .i64 0, .int .i64 0, .slice none 0 0, .slice none 0 0] ∧ Row W (w.heap.size + 1) 25 #[.int .i64 (V : Int), .int .i64 0, .slice none 0 0, .slice none 0 0]) ⟨by go_grown, (Row.new _ _ _).alloc _, Row.lit (by simp)⟩ ?_
  rintro w1 ⟨hb, hr0, hr1⟩
  have HB := Lib.hid hb; have R0 := Lib.hid hr0; have R1 := Lib.hid hr1
  clear hb hr0 hr1
  go_loopg [17] n (fun gk q wr => ∃ (l : Nat) (vn vf : Value), l ≤ n ∧ gk = n - l ∧ q = .int .i64 l ∧ Below w.heap.size w wr ∧ Row wr w.heap.size 25 #[.int .i64 0, .int .i64 0, .slice none 0 0, .slice none 0 0] ∧ Row wr (w.heap.size + 1) 25 #[.int .i64 (V : Int), .int .i64 0, vn, vf] ∧
    O3 wr w.heap.size vn (rows3 n L nx l) ∧ OB wr w.heap.size vf ((List.range l).map fin))
  case atStart => exact ⟨0, _, _, Nat.zero_le _, rfl, rfl, HB.out, R0.out, R1.out, ⟨[], VO.nil _ _ _, rfl, fun i u h => by simp at h⟩, VO.nil _ _ _⟩
  case round =>
    clear HB R0 R1
    obtain ⟨l, vn, vf, hl, rfl, rfl, hb, hr0, hr1, hon, hof⟩ := hrel
    obtain ⟨wl, hwl⟩ : ∃ x, x = wr := ⟨_, rfl⟩
    subst hwl
    have HB := Lib.hid hb; have R0 := Lib.hid hr0; have R1 := Lib.hid hr1; have ON := Lib.hid hon; have OF := Lib.hid hof
    clear hb hr0 hr1 hon hof
    by_cases hlt : l < n
    · go_wp2
      refine wp_abs (fun W => Below wl.heap.size wl W ∧ ∃ g, g = wl.heap.size ∧ Row W g 53 (List.replicate n (Value.slice none 0 0)).toArray ∧ VO 53 W wl.heap.size (.slice (some ⟨g, 0, none⟩) n n) (List.replicate n (Value.slice none 0 0))) ⟨by go_grown, _, rfl, Row.new _ _ _, VO.lit _ (by simp) (by omega) (by intro u hu; rw [List.eq_of_mem_replicate hu]; rfl)⟩ ?_
      rintro w2 ⟨hb, g, hg, hrow, hvo⟩
      rw [← hg]
      have HBL := Lib.hid hb; have HVO := Lib.hid hvo; have HG := Lib.hid hg
      clear hb hrow hvo hg
      go_loopg [24] n (fun gk q wr2 => ∃ (r : Nat) (vs : List Value), r ≤ n ∧ gk = n - r ∧ q = .int .i64 r ∧ Below wl.heap.size wl wr2 ∧ VO 53 wr2 wl.heap.size (.slice (some ⟨g, 0, none⟩) n n) vs ∧ RowsAt wr2 wl.heap.size n L l r nx vs)
      case atStart => exact ⟨0, _, Nat.zero_le _, rfl, rfl, HBL.out, HVO.out, RowsAt.start _ _ _ _ _ _⟩
      case round =>
        clear HBL HVO
        obtain ⟨r, vs, hr, rfl, rfl, hbl, hvo, hat⟩ := hrel
        obtain ⟨wx, hwx⟩ : ∃ x, x = wr := ⟨_, rfl⟩
        subst hwx
        have HBL := Lib.hid hbl; have HVO := Lib.hid hvo; have HAT := Lib.hid hat
        clear hbl hvo hat
        by_cases hrt : r < n
        · have hlen := HAT.out.len
          obtain ⟨u0, hu0⟩ : ∃ u, vs[r]? = some u := ⟨vs[r]'(by omega), List.getElem?_eq_getElem _⟩
          have hnil := HAT.out.todo r u0 hu0 (Nat.le_refl _)
          have HX0 : Hid (RowX wl wx g n l r 0 nx vs wx) := ⟨HBL.out.size, Turns.refl _ _, HBL.out, .slice none 0 0, by
            rw [hnil] at hu0
            rw [set_same hu0]; exact HVO.out, VO.nil _ _ _⟩
          have HLEN := Lib.hid hlen
          clear hu0 hnil hlen
          go_wp2
          go_loopg [29] L (fun gk q W0 => ∃ x : Nat, x ≤ L ∧ gk = L - x ∧ q = .int .i64 x ∧ RowX wl wx g n l r x nx vs W0)
          case atStart => exact ⟨0, Nat.zero_le _, rfl, rfl, HX0.out⟩
          case round =>
            clear HX0
            obtain ⟨x, hx, rfl, rfl, hxx⟩ := hrel
            obtain ⟨W, hW⟩ : ∃ x, x = wr := ⟨_, rfl⟩
            subst hW
            have HX := Lib.hid hxx; clear hxx
            by_cases hxt : x < L
            · obtain ⟨u, hu1, hu2⟩ := HX.out.row
              obtain ⟨Au, cu, rfl⟩ := VO.formN (n := x) hu2 (by rw [iL_len, rowL_len])
              have U1 := Lib.hid hu1; have U2 := Lib.hid hu2
              have c0 := VS.at hu1.vs (i := r) (m := .slice Au x cu) (by rw [List.getElem?_set, if_pos rfl, if_pos (by rw [HLEN.out]; exact hrt)])
              rw [Nat.zero_add] at c0
              obtain ⟨g3, cap3, cs3, he3, hg3, hrow3, _⟩ := VO.row hu1 (by rw [List.length_set, HLEN.out]; omega)
              simp only [Value.slice.injEq, Option.some.injEq, Addr.mk.injEq, and_true, true_and] at he3
              obtain ⟨rfl, -⟩ := he3
              have f0 := hrow3.free r
              have hgW := hrow3.lt
              have hcb := HC1.out l r x
              have HCB := Lib.hid (fun W' (h : Below W.heap.size W W') => hcb W' hlt hrt hxt ((HB.out.trans (HX.out.bl.mono HB.out.size)).trans (h.mono (by have := HB.out.size; have := HX.out.bl.size; omega))))
              have R3 := Lib.hid hrow3
              have HCS := Lib.hid ((hrow3.cell r).symm.trans c0)
              clear hu1 hu2 hg3 hrow3 hcb
              obtain ⟨s, hs⟩ : ∃ s, s = nx l r x := ⟨_, rfl⟩
              rw [← hs] at HCB
              have HS := Lib.hid hs; clear hs
              go_wp2
              first
              | go_region_law (first
                  | (go_simp; go_at_call 85; refine (HCB.out _ (by go_grown)).mono ?_; rintro e w3 ⟨rfl, hb3⟩; have HB3 : Hid (Below W.heap.size W w3) := (show Below W.heap.size W w3 from ⟨hb3.os, hb3.tape, hb3.output, hb3.size, hb3.block⟩); have c1 := (HB3.out.cell (p := ⟨g, r, none⟩) hgW).trans c0; have f1 := ((R3.out.below HB3.out hgW).free r); have hg31 : g < w3.heap.size := Nat.lt_of_lt_of_le hgW HB3.out.size; have hg32 : g ≠ w3.heap.size := Nat.ne_of_lt hg31; have c1a := fun X => (((R3.out.below HB3.out hgW).alloc X).cell r).trans HCS.out; clear hb3; try go_simp)
                  | (refine step_append_vs eI rfl (.tmp 37) (.tmp 43) rfl wx.heap.size _ _ rfl (VO.allocd (U2.out.below HB3.out (Nat.le_refl _)) _) _ [.int .i64 (s : Int)] rfl (VS.one (by first | exact Row.new _ _ _ | exact Row.lit rfl | exact Row.litd rfl)) (by intro u hu; simp at hu; subst hu; rfl) (by rw [iL_len, rowL_len]; simp only [List.length_cons, List.length_nil]; omega) (by simp only [World.size_alloc]; have := HB3.out.size; have := HX.out.tn.1; omega) ?_; intro v4 w4 ho4 hg4 _; obtain ⟨A4, c4, rfl⟩ := VO.formN (n := x + 1) ho4 (by rw [List.length_append, iL_len, rowL_len]; rfl); rw [HS.out] at ho4; have HX4 := Lib.hid (HX.out.step (by rw [HG.out]; exact Nat.le_refl _) HLEN.out hrt (U1.out.below HB3.out (Nat.le_refl _)) (U2.out.below HB3.out (Nat.le_refl _)) HB3.out ho4 hg4); have R4 := Lib.hid ((Row.alloc (R3.out.below HB3.out hgW) _).far_own (by decide) (VO.allocd (U2.out.below HB3.out (Nat.le_refl _)) _).2 hg4); have c4' := (R4.out.cell r).trans HCS.out; have f4' := R4.out.free r; clear ho4 hg4))
              | fail
              all_goals
                have HX2 := Lib.hid HX4.out
                clear HX U1 U2 c0 f0 hgW R3 HCB HS
                go_wp2
                go_roundg (L - (x + 1))
                case rel => exact ⟨x + 1, by omega, rfl, by go_num, HX2.out⟩
                case measure => omega
            · have hxe : x = L := by omega
              have hX := HX.out
              rw [hxe] at hX
              have HX2 := Lib.hid hX
              clear hX hxe
              obtain ⟨u, hu1, hu2⟩ := HX2.out.row
              obtain ⟨g3, cap3, cs3, he3, hg3, hrow3, _⟩ := VO.row HVO.out (by rw [HLEN.out]; omega)
              simp only [Value.slice.injEq, Option.some.injEq, Addr.mk.injEq, and_true, true_and] at he3
              obtain ⟨rfl, -⟩ := he3
              have HAT2 := Lib.hid (HAT.out.next HX2.out.tn (hrow3.notT (by decide)) hrt (hu2.mono HX2.out.le))
              have HU1 := Lib.hid hu1
              clear hu1 hu2 hrow3 hg3
              go_wp2
              go_roundg (n - (r + 1))
              case rel => exact ⟨r + 1, _, by omega, rfl, by go_num, HX2.out.bl, HU1.out, HAT2.out⟩
              case measure => omega
        · have hre : r = n := by omega
          have hA := HAT.out
          rw [hre] at hA
          have HO2 : Hid (O2 wx wl.heap.size (.slice (some ⟨g, 0, none⟩) n n) (rows2 L nx l n)) := ⟨vs, HVO.out, hA.full⟩
          have ON2 := Lib.hid (ON.out.below HBL.out (Nat.le_refl _)); have OF2 := Lib.hid (OF.out.below HBL.out (Nat.le_refl _))
          have R02 := Lib.hid (R0.out.below HBL.out R0.out.lt); have R12 := Lib.hid (R1.out.below HBL.out R1.out.lt)
          have HB2 := Lib.hid (HB.out.trans (HBL.out.mono HB.out.size))
          have hbs := HB.out.size
          clear hA hre HAT HVO HBL
          obtain ⟨vsn, hvn, hvn2⟩ := ON2.out
          obtain ⟨An, cn, rfl⟩ := VO.formN (n := l) hvn (by rw [hvn2.1, rows3_len])
          obtain ⟨Af, cf, rfl⟩ := VO.formN (n := l) OF2.out (by simp [bL])
          have VN := Lib.hid hvn; have VN2 := Lib.hid hvn2
          have z0 := R12.out.cell; have z1 := R12.out.free
          clear hvn hvn2
          go_wp2_with (at_builtin; refine wpList_append_vs eIII rfl (.tmp 49) (.tmp 51) rfl w.heap.size _ _ rfl (VO.allocd VN.out _) _ [.slice (some ⟨g, 0, none⟩) n n] rfl (VS.one (Row.new _ _ _)) (by intro u hu; simp at hu; subst hu; rfl) (by rw [VN2.out.1, rows3_len]; simp; omega) (by simp only [World.size_alloc]; have := HB2.out.size; omega) ?_; intro v4 w4 ho4 hg4 _; obtain ⟨A4, c4, rfl⟩ := VO.formN (n := l + 1) ho4 (by rw [List.length_append, VN2.out.1, rows3_len]; rfl); have HO4 := Lib.hid ho4; have V24 := Lib.hid (V2.far (V2.below VN2.out (B' := wx.heap.size) (by go_grown) (Nat.le_refl _)) (by decide) (by decide) (VO.allocd VN.out _) hg4); have O24 := Lib.hid (O2.far (O2.below HO2.out (B' := wx.heap.size) (by go_grown) (Nat.le_refl _)) (by decide) (by decide) (VO.allocd VN.out _) hg4); have F4 := Lib.hid (OB.far (OB.below OF2.out (B' := wx.heap.size) (by go_grown) (Nat.le_refl _)) (by decide) (VO.allocd VN.out _) hg4); have R04 := Lib.hid ((R02.out.alloc _).far_own (by decide) (VO.allocd VN.out _).2 hg4); have R14 := Lib.hid ((R12.out.alloc _).far_own (by decide) (VO.allocd VN.out _).2 hg4); have HB4 := Lib.hid (own_below_v (w := w) (by have h1 := HB2.out; have h2 := h1.size; go_grown) (VO.allocd VN.out _) hg4 (by simp only [World.size_alloc]; have := HB2.out.size; omega)); clear z0 z1 ho4 hg4; have z0 := R14.out.cell; have z1 := R14.out.free)
          have O34 : Hid (O3 w4 w.heap.size (.slice A4 (l + 1) c4) (rows3 n L nx (l + 1))) := by
            unfold Hid; rw [rows3_snoc]; exact ⟨_, HO4.out, V24.out.snoc (O24.out.mono hbs)⟩
          refine wp_abs (fun W => Below w.heap.size w W ∧ Row W w.heap.size 25 #[.int .i64 0, .int .i64 0, .slice none 0 0, .slice none 0 0] ∧ Row W (w.heap.size + 1) 25 #[.int .i64 (V : Int), .int .i64 0, .slice A4 (l + 1) c4, .slice Af l cf] ∧
            O3 W w.heap.size (.slice A4 (l + 1) c4) (rows3 n L nx (l + 1)) ∧ OB W w.heap.size (.slice Af l cf) ((List.range l).map fin))
            ⟨HB4.out.setCell (p := ⟨w.heap.size + 1, 2, none⟩) (by simp) _, R04.out.far (by simp) _, R14.out.set 2 _, O34.out.setRow R14.out (by decide) (by decide) (by decide) 2 _, F4.out.setRow R14.out (by decide) 2 _⟩ ?_
          clear HO4 V24 O24 F4 R04 R14 HB4 O34 z0 z1 R0 R1 R02 R12 HB2 HB ON OF ON2 OF2 VN VN2 HO2 HG hmk
          rintro W ⟨hb, hr0, hr1, hon, hof⟩
          have HB := Lib.hid hb; have R0 := Lib.hid hr0; have R1 := Lib.hid hr1; have ON := Lib.hid hon; have OF := Lib.hid hof
          have z0 := hr1.cell; have z1 := hr1.free
          have hz := hr1.lt
          have HCB := Lib.hid (fun W' (h : Below W.heap.size W W') => HC2.out l W' hlt (HB.out.trans (h.mono HB.out.size)))
          obtain ⟨s, hs⟩ : ∃ s, s = fin l := ⟨_, rfl⟩
          rw [← hs] at HCB
          have HS := Lib.hid hs
          clear hb hr0 hr1 hon hof hs
          first
          | go_region_law (first
            | (go_simp; go_at_call 86; refine (HCB.out _ (by go_grown)).mono ?_; rintro e w3 ⟨rfl, hb3⟩; have HB3 : Hid (Below W.heap.size W w3) := (show Below W.heap.size W w3 from ⟨hb3.os, hb3.tape, hb3.output, hb3.size, hb3.block⟩); have hz3 : w.heap.size + 1 < w3.heap.size := Nat.lt_of_lt_of_le hz HB3.out.size; have y0 := (R1.out.below HB3.out hz).cell; have y1 := fun X => ((R1.out.below HB3.out hz).alloc X).cell; clear hb3; try go_simp)
            | (refine step_append_vs eB rfl (.tmp 55) (.tmp 59) rfl w.heap.size _ _ rfl (VO.allocd (OF.out.below HB3.out (Nat.le_refl _)) _) _ [.bool s] rfl (VS.one (by first | exact Row.new _ _ _ | exact Row.lit rfl | exact Row.litd rfl)) (by intro u hu; simp at hu; subst hu; rfl) (by rw [bL_len]; simp; omega) (by simp only [World.size_alloc]; have := HB3.out.size; have := HB.out.size; omega) ?_; intro v4 w4 ho4 hg4 _; obtain ⟨A5, c5, rfl⟩ := VO.formN (n := l + 1) ho4 (by rw [List.length_append, bL_len]; simp); have HO4 := Lib.hid ho4; have R04 := Lib.hid ((Row.alloc (R0.out.below HB3.out R0.out.lt) _).far_own (by decide) (VO.allocd (OF.out.below HB3.out (Nat.le_refl _)) _).2 hg4); have R14 := Lib.hid ((Row.alloc (R1.out.below HB3.out hz) _).far_own (by decide) (VO.allocd (OF.out.below HB3.out (Nat.le_refl _)) _).2 hg4); have ON4 := Lib.hid (O3.far (O3.below (ON.out.below HB3.out (Nat.le_refl _)) (B' := w3.heap.size) (by go_grown) (Nat.le_refl _)) (by decide) (by decide) (by decide) (VO.allocd (OF.out.below HB3.out (Nat.le_refl _)) _) hg4); have HB4 := Lib.hid (own_below_v (w := w) (by have h1 := HB.out.trans (HB3.out.mono HB.out.size); have h2 := h1.size; go_grown) (VO.allocd (OF.out.below HB3.out (Nat.le_refl _)) _) hg4 (by simp only [World.size_alloc]; have := HB3.out.size; have := HB.out.size; omega)); have z04 := R14.out.cell; have z14 := R14.out.free; clear ho4 hg4))
          | fail
          all_goals
            have OF4 : Hid (OB w4 w.heap.size (.slice A5 (l + 1) c5) ((List.range (l + 1)).map fin)) := by
              have h := HO4.out
              unfold Hid OB
              rw [List.range_succ, List.map_append, List.map_cons, List.map_nil, ← HS.out]
              unfold bL at h ⊢
              rw [List.map_append]
              exact h
            go_wp2
            go_roundg (n - (l + 1))
            case rel => exact ⟨l + 1, _, _, by omega, rfl, by go_num, HB4.out.setCell (p := ⟨w.heap.size + 1, 3, none⟩) (by simp) _, R04.out.far (by simp) _, R14.out.set 3 _, ON4.out.setRow R14.out (by decide) (by decide) (by decide) 3 _, OF4.out.setRow R14.out (by decide) 3 _⟩
            case measure => omega
    · have hln : l = n := by omega
      have hT : Hid (TDO wl w.heap.size (.agg #[.int .i64 (V : Int), .int .i64 0, vn, vf]) ⟨V, 0, nx3 n L nx, (List.range n).map fin⟩) := by
        have h1 := ON.out; have h2 := OF.out
        rw [hln] at h1 h2
        exact ⟨vn, vf, rfl, h1, h2⟩
      obtain ⟨vsn, hvn, hvn2⟩ := ON.out
      obtain ⟨An, cn, rfl⟩ := VO.formN (n := l) hvn (by rw [hvn2.1, rows3_len])
      obtain ⟨Af, cf, rfl⟩ := VO.formN (n := l) OF.out (by simp [bL])
      clear hln ON OF hvn hvn2
      have a0 := R1.out.cell; have a3 := R1.out.lt
      have b0 := R0.out.cell; have b1 := R0.out.free; have b3 := R0.out.lt
      have q0 := b0 0; have q1 := b0 1; have q2 := b0 2; have q3 := b0 3
      have p0 := a0 0; have p1 := a0 1; have p2 := a0 2; have p3 := a0 3
      simp only [List.getElem?_toArray, List.getElem?_cons_zero, List.getElem?_cons_succ] at q0 q1 q2 q3 p0 p1 p2 p3
      clear a0 b0
      go_wp2
      refine post_abs2 (fun W => Row W w.heap.size 25 #[.int .i64 (V : Int), .int .i64 0, (.slice An l cn), (.slice Af l cf)] ∧ TDO W w.heap.size (.agg #[.int .i64 (V : Int), .int .i64 0, .slice An l cn, .slice Af l cf]) ⟨V, 0, nx3 n L nx, (List.range n).map fin⟩ ∧ Below w.heap.size w W) (store4 R0.out hT.out HB.out (Nat.le_refl _)) ?_
      clear q0 q1 q2 q3 p0 p1 p2 p3 a3 b1 b3 R0 R1 hT HB
      rintro W ⟨r0, hT, hb⟩
      have b0 := r0.cell
      have q0 := b0 0; have q1 := b0 1; have q2 := b0 2; have q3 := b0 3
      simp only [List.getElem?_toArray, List.getElem?_cons_zero, List.getElem?_cons_succ] at q0 q1 q2 q3
      have HT := Lib.hid hT; have HB := Lib.hid hb
      clear b0 r0 hT hb
      exact bodyPost_ret (v := .agg #[.int .i64 (V : Int), .int .i64 0, .slice An l cn, .slice Af l cf]) (by simp [results, Tryz.results84, go_sem, q0, q1, q2, q3]) rfl ⟨_, rfl, HB.out, HT.out⟩
end Go.Proofs.YthkfjnmnoanhlaaGreatDoor

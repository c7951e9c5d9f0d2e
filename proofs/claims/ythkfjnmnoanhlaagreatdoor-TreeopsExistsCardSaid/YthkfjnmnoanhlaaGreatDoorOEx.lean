/- Law: TreeopsExists. (Printed by gen_exists.py.) -/
import Derived.Test.YthkfjnmnoanhlaaGreatDoorExQ
import Derived.Test.YthkfjnmnoanhlaaGreatDoorLbl
import Derived.Test.YthkfjnmnoanhlaaGreatDoorAcc
import Derived.Test.YthkfjnmnoanhlaaGreatDoorSay
import Derived.BigRegion
set_option linter.unusedSimpArgs false
set_option linter.unusedVariables false
namespace Go.Proofs.YthkfjnmnoanhlaaGreatDoor
open Go.RowKit

theorem shl_six (n : Nat) (hn : n ≤ 6) : IntKind.i64.wrap (2 ^ n) = ((2 ^ n : Nat) : Int) := by
  have : n = 0 ∨ n = 1 ∨ n = 2 ∨ n = 3 ∨ n = 4 ∨ n = 5 ∨ n = 6 := by omega
  rcases this with rfl | rfl | rfl | rfl | rfl | rfl | rfl <;> decide
theorem chB_range {v : Nat} (hv : v < 2) {b : Bool} {x : Int} (h0 : 0 ≤ x) (h : x < 4) : 0 ≤ chB v b x ∧ chB v b x < 4 := by
  obtain ⟨k, rfl⟩ := Int.eq_ofNat_of_zero_le h0
  have hk : k = 0 ∨ k = 1 ∨ k = 2 ∨ k = 3 := by omega
  have hv : v = 0 ∨ v = 1 := by omega
  rcases hk with rfl | rfl | rfl | rfl <;> rcases hv with rfl | rfl <;> cases b <;> decide
theorem lab_nat : ∀ n, n < 64 → ∀ i, i < 6 → ∀ v, v < 2 → ∀ x, x < 4 → bits BinOp.or IntKind.u8 (bits BinOp.andNot IntKind.u8 ((x : Nat) : Int) (2 ^ v % 256)) (bits BinOp.and IntKind.i64 (((n : Nat) : Int) / 2 ^ i) 1 % 256 * 2 ^ v % 256) = chB v (n.testBit i) ((x : Nat) : Int) := by decide +kernel
theorem lab_bits (n : Nat) (hn : n < 64) (i : Nat) (hi : i < 6) (v : Nat) (hv : v < 2) (x : Int) (h0 : 0 ≤ x) (h4 : x < 4) : bits BinOp.or IntKind.u8 (bits BinOp.andNot IntKind.u8 x (2 ^ v % 256)) (bits BinOp.and IntKind.i64 ((n : Int) / 2 ^ i) 1 % 256 * 2 ^ v % 256) = chB v (n.testBit i) x := by
  obtain ⟨k, rfl⟩ := Int.eq_ofNat_of_zero_le h0
  exact lab_nat n hn i hi v hv k (by omega)
/-- The leaves of which the first i are changed. -/
def chK (v : Nat) (f : Nat → Bool) (l : List Lf) (i : Nat) : List Lf := (chL v f l).take i ++ l.drop i
theorem chK_zero (v : Nat) (f : Nat → Bool) (l : List Lf) : chK v f l 0 = l := by simp [chK]
theorem chK_full (v : Nat) (f : Nat → Bool) (l : List Lf) : chK v f l l.length = chL v f l := by
  unfold chK
  rw [List.drop_length, List.append_nil, List.take_of_length_le (by rw [chL_len]; exact Nat.le_refl _)]
theorem chK_len (v : Nat) (f : Nat → Bool) (l : List Lf) {i : Nat} (h : i ≤ l.length) : (chK v f l i).length = l.length := by
  unfold chK
  rw [List.length_append, List.length_take, chL_len, List.length_drop]; omega
theorem chK_at (v : Nat) (f : Nat → Bool) (l : List Lf) {i : Nat} {m : Lf} (h : l[i]? = some m) : (chK v f l i)[i]? = some m := by
  have hi := (List.getElem?_eq_some_iff.1 h).1
  unfold chK
  rw [List.getElem?_append_right (by rw [List.length_take]; omega), List.length_take, chL_len, List.getElem?_drop, show i + (i - min i l.length) = i from by omega]
  exact h
theorem chK_set (v : Nat) (f : Nat → Bool) (l : List Lf) {i : Nat} {m : Lf} (h : l[i]? = some m) : (chK v f l i).set i ⟨chB v (f i) m.label, m.left, m.right⟩ = chK v f l (i + 1) := by
  have hi := (List.getElem?_eq_some_iff.1 h).1
  have hc := chL_at v l f i m h
  unfold chK
  rw [List.set_append, if_neg (by rw [List.length_take, chL_len]; omega), List.length_take, chL_len, List.take_add_one, hc, show i - min i l.length = 0 from by omega]
  have hd : l.drop i = m :: l.drop (i + 1) := by
    obtain ⟨h1, h2⟩ := List.getElem?_eq_some_iff.1 h
    rw [← h2]; exact List.drop_eq_getElem_cons h1
  rw [hd]
  simp
set_option maxRecDepth 100000 in
set_option maxHeartbeats 16000000 in
theorem exists_law20 (hsub : CSub 5 2) (haw : CAwk) (rp : Raw) (vp vt : Value) (x0 : Int) (tr : List Lf) (w : World) (hvp : TD w vp rp) (hvt : TS w vt tr) :
    Calls Tryz.prog 8 #[vp, .int .i64 x0, vt] w fun e w' => e = .returned (.bool true) ∧ Below w.heap.size w w' := by
  obtain ⟨Ap, cp, Bp, dp, rfl⟩ := hvp.form
  have Hdp := Lib.hid hvp
  obtain ⟨np, q1⟩ : ∃ n, n = rp.next.length := ⟨_, rfl⟩
  obtain ⟨mp, q2⟩ : ∃ n, n = rp.fin.length := ⟨_, rfl⟩
  obtain ⟨ip, q3⟩ : ∃ n, n = rp.vars := ⟨_, rfl⟩
  obtain ⟨jp, q4⟩ : ∃ n, n = rp.empty := ⟨_, rfl⟩
  rw [← q1, ← q2, ← q3, ← q4] at Hdp ⊢
  clear hvp q1 q2 q3 q4
  obtain ⟨v, hv⟩ : ∃ v : Nat, (wrap64 (x0.tmod 2 + 2)).tmod 2 = (v : Int) := ⟨((wrap64 (x0.tmod 2 + 2)).tmod 2).toNat, by have a1 := Int.lt_tmod_of_pos x0 (b := 2) (by omega); have a2 := Int.tmod_lt_of_pos x0 (b := 2) (by omega); rw [IntWalk.wrap64_in _ ⟨by omega, by omega⟩, Int.tmod_eq_emod_of_nonneg (by omega)]; omega⟩
  have hv2 : v < 2 := by have a1 := Int.lt_tmod_of_pos x0 (b := 2) (by omega); have a2 := Int.tmod_lt_of_pos x0 (b := 2) (by omega); rw [IntWalk.wrap64_in _ ⟨by omega, by omega⟩, Int.tmod_eq_emod_of_nonneg (by omega)] at hv; omega
  have SU := Lib.hid fun W u (h : TD W u rp) => hsub rp u W h
  obtain ⟨At, ct, rfl⟩ := hvt.form
  obtain ⟨nt, hnt⟩ : ∃ n, n = tr.length := ⟨_, rfl⟩
  rw [← hnt] at hvt ⊢
  have hntc := hvt.2.choose_spec.choose_spec
  obtain ⟨tl, htl⟩ : ∃ l, l = modL 2 ((tr.take (min (nt : Int) 6).toNat).take 15) := ⟨_, rfl⟩
  have hct : nt ≤ ct := by obtain ⟨_, A', c', e, h1, _⟩ := hvt; simp only [Value.slice.injEq] at e; omega
  have ST := Lib.hid fun W (h : Below w.heap.size w W) => (show Calls Tryz.prog 42 #[.slice At (min (nt : Int) 6).toNat ct, .int .i64 2] W (RetTO W tl) from by rw [htl]; exact labelled_any 2 (by omega) (tr.take (min (nt : Int) 6).toNat) _ W ((hvt.below h (Nat.le_refl _)).cut (min (nt : Int) 6).toNat (by omega) At (fun _ => rfl)))
  have h6 : tl.length ≤ 6 := by rw [htl]; unfold modL; rw [List.length_map, List.length_take, List.length_take]; omega
  have h4 : ∀ m ∈ tl, m.label < 4 := by
    intro m hm
    rw [htl] at hm
    unfold modL at hm
    obtain ⟨k, _, rfl⟩ := List.mem_map.1 hm
    exact Int.tmod_lt_of_pos _ (by decide)
  have hm1 : (0 : Int) ≤ min (nt : Int) 6 := by omega
  have hm2 : min (nt : Int) 6 ≤ (ct : Int) := by omega
  have HTL := Lib.hid htl
  clear htl hvt hnt hntc hct
  have AWK := Lib.hid haw
  clear hsub haw
  go_enter Tryz.func8, Tryz.ntmps8
  go_upto_region 1 with fail
  refine wp_abs (fun X => Below w.heap.size w X ∧ ∃ g, g = w.heap.size ∧ Box X g ip jp np cp mp dp Ap Bp rp) ⟨by go_grown, _, rfl, Row.new _ _ _, Hdp.out.below (Below.alloc (Below.refl _ _) (Nat.le_refl _) _) (Nat.le_refl _)⟩ ?_
  rintro W0 ⟨hw, gp, hg, hp⟩
  rw [← hg]
  have HB := Lib.hid hw; have Hp := Lib.hid hp
  clear hw hg hp Hdp
  have yp := Hp.out.cell
  go_upto_region 3 with (go_at_call 28; (with_reducible refine (AWK.out _).mono ?_); rintro ee w7 ⟨rfl, hb⟩; replace HB := Lib.hid (HB.out.trans (hb.mono HB.out.size)); replace Hp := Lib.hid (Hp.out.to hb); clear yp; have yp := Hp.out.cell; clear hb)
  clear yp
  have yp := Hp.out.cell
  go_upto_region 4 with (go_at_call 29; refine (SU.out _ _ Hp.out.td).mono ?_; intro e wx hx; obtain ⟨D, hD, hDn, ib, jb, nb, cb, mb, db, Ab, Bb, rfl, hb, ht⟩ := RetSub.open hx; have HX := Lib.hid (show Below w7.heap.size w7 wx from hb); have HT := Lib.hid ht; clear hx hb ht)
  clear yp
  refine wp_abs (fun X => Below w.heap.size w X ∧ Box X gp ip jp np cp mp dp Ap Bp rp ∧ ∃ g, g = wx.heap.size ∧ Box X g ib jb nb cb mb db Ab Bb (D.raw 2)) ⟨HB.out.trans ((HX.out.alloc HX.out.size _).mono HB.out.size), Hp.out.to (HX.out.alloc HX.out.size _), _, rfl, Row.new _ _ _, HT.out.below (Below.alloc (Below.refl _ _) (Nat.le_refl _) _) (Nat.le_refl _)⟩ ?_
  clear HX HT
  rintro W1 ⟨hw, hp, gb, hg, hb⟩
  rw [← hg]
  replace HB := Lib.hid hw; replace Hp := Lib.hid hp; have Hb := Lib.hid hb
  clear hw hp hb hg
  clear Hp
  have hl : (setO D v).length ≤ 64 := Nat.le_trans (setO_small hD hv2 (Nat.pow_le_pow_right (by omega) hDn)) (by omega)
  have hEf := existsM_fit hD hv2 hl
  have e1 : exR D v 64 2 = ((existsM D v).raw 2, 0) := by unfold exR; rw [if_pos hl]
  have E1 := Lib.hid fun W u (h : TD W u (D.raw 2)) => (show Calls Tryz.prog 16 #[u, .int .i64 (v : Int), .int .i64 64] W (RetR W ((existsM D v).raw 2) 0) from by have q := exists_ok D 2 v 64 hD (by omega) (by omega) (by omega) u W h; rw [e1] at q; exact q)
  clear e1
  go_upto_region 5 with fail
  try rw [hv]
  clear hv
  have yb := Hb.out.cell
  go_upto_region 6 with (go_at_call 42; refine (ST.out _ HB.out).mono ?_; rintro ee w8 ⟨v8, rfl, hb, ht⟩; have ht8 : TS w8 v8 tl := ht.ts; obtain ⟨A8, c8, rfl⟩ := ht8.form; have HT8 := Lib.hid ht8; replace HB := Lib.hid (HB.out.trans (hb.mono HB.out.size)); replace Hb := Lib.hid (Hb.out.to hb); clear ht8 ht hb)
  clear yb
  have hlb : ∀ m ∈ tl, 0 ≤ m.label := fun m hm => (HT8.out.lb m hm).1
  obtain ⟨n8, hn8⟩ : ∃ n, n = tl.length := ⟨_, rfl⟩
  rw [← hn8] at h6
  try rw [← hn8] at HT8
  try rw [← hn8]
  have HN8 := Lib.hid hn8
  clear hn8 hm1 hm2 ST HTL
  have yb := Hb.out.cell
  go_upto_region 7 with (go_at_call 16; refine (E1.out _ _ Hb.out.td).mono ?_; intro e wx hx; obtain ⟨ic, jc, nc, cc, mc, dc, Ac, Bc, rfl, hb, ht⟩ := RetR.open (z := 0) rfl hx; have HX := Lib.hid (show Below w8.heap.size w8 wx from hb); have HT := Lib.hid ht; clear hx hb ht)
  clear yb
  refine wp_abs (fun X => Below w.heap.size w X ∧ Box X gb ib jb nb cb mb db Ab Bb (D.raw 2) ∧ TS X (.slice A8 n8 c8) tl ∧ ∃ g, g = wx.heap.size ∧ Box X g ic jc nc cc mc dc Ac Bc ((existsM D v).raw 2)) ⟨HB.out.trans ((HX.out.alloc HX.out.size _).mono HB.out.size), Hb.out.to (HX.out.alloc HX.out.size _), HT8.out.below (HX.out.alloc HX.out.size _) (Nat.le_refl _), _, rfl, Row.new _ _ _, HT.out.below (Below.alloc (Below.refl _ _) (Nat.le_refl _) _) (Nat.le_refl _)⟩ ?_
  clear HX HT
  rintro W2 ⟨hw, hb, ht8, gc, hg, hc⟩
  rw [← hg]
  replace HB := Lib.hid hw; replace Hb := Lib.hid hb; have Hc := Lib.hid hc; replace HT8 := Lib.hid ht8
  clear hw hb hc ht8 hg
  by_cases hc : checkT tl ((2 : Nat) : Int) = 0
  · obtain ⟨hcf, hany⟩ := exists_law hD hv2 hlb hc
    rw [← HN8.out] at hany
    obtain ⟨G, hG⟩ : ∃ G : Nat → Bool, G = fun n => D.fin (D.run (btOf (chL v n.testBit tl))) := ⟨_, rfl⟩
    rw [show (fun n : Nat => D.fin (D.run (btOf (chL v n.testBit tl)))) = G from hG.symm] at hany
    obtain ⟨Y, hY⟩ : ∃ Y, Y = (existsM D v).fin ((existsM D v).run (btOf tl)) := ⟨_, rfl⟩
    rw [← hY] at hany
    have A1 := Lib.hid fun W u s (h : TD W u ((existsM D v).raw 2)) (h2 : TS W s tl) => (show Calls Tryz.prog 43 #[u, s] W (fun e w' => e = .returned (.tuple #[.bool (Y), .int .i64 (0)]) ∧ Below W.heap.size W w') from by have q := accepts_ok (existsM D v) 2 hEf u s tl W h h2 hlb; unfold accR at q; rw [if_pos hc, ← hY] at q; exact q)
    have hlbc : ∀ (n : Nat), ∀ m ∈ chL v n.testBit tl, 0 ≤ m.label := by
      intro n m hm
      obtain ⟨i, hi⟩ := List.getElem?_of_mem hm
      have hil : i < tl.length := by have := (List.getElem?_eq_some_iff.1 hi).1; rwa [chL_len] at this
      rw [chL_at v tl n.testBit i _ (List.getElem?_eq_getElem hil)] at hi
      have := Option.some.inj hi
      rw [← this]; unfold chB; exact Int.natCast_nonneg _
    have A2 := Lib.hid fun (n : Nat) W u s (h : TD W u (D.raw 2)) (h2 : TS W s (chL v n.testBit tl)) => (show Calls Tryz.prog 43 #[u, s] W (fun e w' => e = .returned (.tuple #[.bool (G n), .int .i64 (0)]) ∧ Below W.heap.size W w') from by have q := accepts_ok D 2 hD u s (chL v n.testBit tl) W h h2 (hlbc n); unfold accR at q; rw [if_pos (hcf _), show D.fin (D.run (btOf (chL v n.testBit tl))) = G n from by rw [hG]] at q; exact q)
    have HANY : Hid _ := Lib.hid hany; have H4 := Lib.hid h4; have HLB := Lib.hid hlb
    obtain ⟨K, hK⟩ : ∃ K, K = 2 ^ n8 := ⟨_, rfl⟩
    have hsh := shl_six n8 h6
    have h64 : K ≤ 64 := by rw [hK]; exact Nat.le_trans (Nat.pow_le_pow_right (by omega) h6) (by decide)
    rw [← hK] at hsh HANY
    clear hK
    clear hY hG hc hcf hany hlbc hlb h4 hEf hl hD hDn SU E1
    have yb := Hb.out.cell
    have yc := Hc.out.cell
    go_upto_region 8 with (go_at_call 43; (with_reducible refine (A1.out _ _ _ Hc.out.td HT8.out).mono ?_); rintro ee w21 ⟨rfl, hb⟩; replace HB := Lib.hid (HB.out.trans (hb.mono HB.out.size)); replace Hb := Lib.hid (Hb.out.to hb); replace Hc := Lib.hid (Hc.out.to hb); replace HT8 := Lib.hid (HT8.out.below hb (Nat.le_refl _)); clear yb; have yb := Hb.out.cell; clear yc; have yc := Hc.out.cell; clear hb)
    clear yb yc
    clear Hc
    go_upto_region 14 with fail
    go_loopg [13, 14] K (fun gk s13 s14 W => ∃ n : Nat, n ≤ K ∧ gk = K - n ∧ s13 = .bool ((List.range n).any G) ∧ s14 = .int .i64 n ∧ Below w.heap.size w W ∧ Box W gb ib jb nb cb mb db Ab Bb (D.raw 2) ∧ TS W (.slice A8 n8 c8) tl)
    case atStart => exact ⟨0, Nat.zero_le _, rfl, rfl, rfl, HB.out, Hb.out, HT8.out⟩
    case round =>
      clear HB Hb HT8
      obtain ⟨n, hn, rfl, rfl, rfl, hb, hbb, ht8⟩ := hrel
      obtain ⟨wl, hwl⟩ : ∃ x, x = wr := ⟨_, rfl⟩
      subst hwl
      have HB := Lib.hid hb; have Hb := Lib.hid hbb; have HT8 := Lib.hid ht8
      clear hb hbb ht8
      by_cases hlt : n < K
      · have hlti : (n : Int) < (K : Int) := by omega
        obtain ⟨FB, hFB⟩ : ∃ f, f = (List.range n).any G := ⟨_, rfl⟩
        have HFB : Hid ((List.range (n + 1)).any G = (FB || G n)) := by unfold Hid; rw [List.range_succ, List.any_append, hFB]; simp
        rw [← hFB]
        clear hFB
        go_upto_region 18 with (go_at_call 45; refine (copy_tree tl _ _ HT8.out (by rw [← HN8.out]; omega)).mono ?_; rintro ee wc ⟨vc, rfl, hb, hto⟩; obtain ⟨Ac, cc, rfl⟩ := TS.form (show TS wc vc tl from hto.ts); have HTO := Lib.hid hto; have HBC := Lib.hid hb; clear hb hto)
        try rw [← HN8.out] at HTO
        try rw [← HN8.out]
        go_loopg [16] n8 (fun gk s W => ∃ i : Nat, i ≤ n8 ∧ gk = n8 - i ∧ s = .int .i64 i ∧ Below wl.heap.size wl W ∧ TO W wl.heap.size (.slice Ac n8 cc) (chK v n.testBit tl i))
        case atStart => exact ⟨0, Nat.zero_le _, rfl, rfl, HBC.out, by rw [chK_zero]; exact HTO.out⟩
        case round =>
          clear HBC HTO
          obtain ⟨i, hi, rfl, rfl, hb, hto⟩ := hrel
          obtain ⟨wi, hwi⟩ : ∃ x, x = wr := ⟨_, rfl⟩
          subst hwi
          have HBC := Lib.hid hb; have HTO := Lib.hid hto
          clear hb hto
          by_cases hil : i < n8
          · have hili : (i : Int) < (n8 : Int) := by omega
            obtain ⟨m, hm⟩ : ∃ m, tl[i]? = some m := ⟨_, List.getElem?_eq_getElem (by rw [← HN8.out]; exact hil)⟩
            have hmem := List.mem_of_getElem? hm
            have hm0 := HLB.out m hmem; have hm4 := H4.out m hmem
            have hkn : (chK v n.testBit tl i).length = n8 := by rw [chK_len v _ tl (by rw [← HN8.out]; exact hi), HN8.out]
            obtain ⟨gy, capy, hey, hgB, hgl⟩ := HTO.out.shape hkn.symm (by omega)
            simp only [Value.slice.injEq, true_and] at hey
            obtain ⟨rfl, rfl⟩ := hey
            have HST := fun x (hx : x = chB v (n.testBit i) m.label) => set_leaf HTO.out hkn (chK_at v n.testBit tl hm) 0 (m' := ⟨chB v (n.testBit i) m.label, m.left, m.right⟩) (.int .u8 x) (by have := chB_range hv2 (b := n.testBit i) hm0 hm4; show 0 ≤ chB v (n.testBit i) m.label ∧ chB v (n.testBit i) m.label ≤ 255; omega) (by rw [hx]; rfl) (by omega)
            rw [chK_set v n.testBit tl hm, Nat.add_zero] at HST
            have HS2 := Lib.hid HST
            have hl3 := (HTO.out.ts.at3 (chK_at v n.testBit tl hm)).1
            have hfr := own_free_t HTO.out
            simp only [Nat.zero_add] at hl3
            have hv0 : ¬ (v : Int) < 0 := by omega
            have hi0 : ¬ (i : Int) < 0 := by omega
            clear HST hm hmem hkn
            go_upto_region 20 with fail
            go_region
            have hlab := lab_bits n (by omega) i (by omega) v hv2 m.label hm0 hm4
            have HS3 := Lib.hid (HS2.out _ hlab)
            have HB3 := Lib.hid ((HBC.out.setCell (p := ⟨gy, i * 3, none⟩) hgB (.int .u8 (bits BinOp.or IntKind.u8 (bits BinOp.andNot IntKind.u8 m.label (2 ^ v % 256)) (bits BinOp.and IntKind.i64 ((n : Int) / 2 ^ i) 1 % 256 * 2 ^ v % 256)))).drew)
            clear hlab HS2 hl3 hfr HTO HBC
            go_wp2
            go_roundg (n8 - (i + 1))
            case rel => exact ⟨i + 1, by omega, rfl, by go_num, HB3.out, HS3.out⟩
            case measure => omega
          · have hili : ¬ (i : Int) < (n8 : Int) := by omega
            obtain rfl : i = n8 := by omega
            have HY := Lib.hid HTO.out.ts
            have hfull : chK v n.testBit tl i = chL v n.testBit tl := by rw [HN8.out, chK_full]
            rw [hfull] at HY
            clear hfull HTO hi
            replace HB := Lib.hid (HB.out.trans (HBC.out.mono HB.out.size)); replace Hb := Lib.hid (Hb.out.to HBC.out); replace HT8 := Lib.hid (HT8.out.below HBC.out (Nat.le_refl _))
            clear HBC
            have A2n := Lib.hid (A2.out n)
            obtain ⟨Gn, hGn⟩ : ∃ b, b = G n := ⟨_, rfl⟩
            rw [← hGn] at A2n HFB
            clear hGn A2
            have yb := Hb.out.cell
            cases FB
            all_goals
              go_wp2_with (go_at_call 43; (with_reducible refine (A2n.out _ _ _ Hb.out.td HY.out).mono ?_); rintro ee w31 ⟨rfl, hb⟩; replace HB := Lib.hid (HB.out.trans (hb.mono HB.out.size)); replace Hb := Lib.hid (Hb.out.to hb); replace HT8 := Lib.hid (HT8.out.below hb (Nat.le_refl _)); clear yb; have yb := Hb.out.cell; clear hb)
              go_roundg (K - (n + 1))
              case rel => exact ⟨n + 1, by omega, rfl, by rw [HFB.out]; simp, by go_num, HB.out, Hb.out, HT8.out⟩
              case measure => omega
      · have hlti : ¬ (n : Int) < (K : Int) := by omega
        obtain rfl : n = K := by omega
        have hY := HANY.out
        rw [← hY]
        clear hY HANY
        go_wp2_with fail
        go_returns
        exact ⟨by first | rfl | simp, HB.out⟩
  · obtain ⟨z, hz⟩ : ∃ z, z = checkT tl ((2 : Nat) : Int) := ⟨_, rfl⟩
    have A1 := Lib.hid fun W u s (h : TD W u ((existsM D v).raw 2)) (h2 : TS W s tl) => (show Calls Tryz.prog 43 #[u, s] W (fun e w' => e = .returned (.tuple #[.bool (false), .int .i64 (z)]) ∧ Below W.heap.size W w') from by have q := accepts_ok (existsM D v) 2 hEf u s tl W h h2 hlb; unfold accR at q; rw [if_neg hc, ← hz] at q; exact q)
    have CK := Lib.hid fun W s (h2 : TS W s tl) => (show Calls Tryz.prog 44 #[s, .int .i64 2] W (fun e w' => e = .returned (.int .i64 z) ∧ Below W.heap.size W w') from by have q := TreeCheck_any tl s ((2 : Nat) : Int) W h2; rw [← hz] at q; exact q)
    have hz0 : ¬ z = 0 := by rw [hz]; exact hc
    clear hz hc hlb h4 hEf hl hD hDn SU E1
    have yb := Hb.out.cell
    have yc := Hc.out.cell
    go_wp2_with (first
      | (go_at_call 43; (with_reducible refine (A1.out _ _ _ Hc.out.td HT8.out).mono ?_); rintro ee w21 ⟨rfl, hb⟩; replace HB := Lib.hid (HB.out.trans (hb.mono HB.out.size)); replace Hb := Lib.hid (Hb.out.to hb); replace Hc := Lib.hid (Hc.out.to hb); replace HT8 := Lib.hid (HT8.out.below hb (Nat.le_refl _)); clear yb; have yb := Hb.out.cell; clear yc; have yc := Hc.out.cell; clear hb)
      | (go_at_call 44; (with_reducible refine (CK.out _ _ HT8.out).mono ?_); rintro ee w22 ⟨rfl, hb⟩; replace HB := Lib.hid (HB.out.trans (hb.mono HB.out.size)); replace Hb := Lib.hid (Hb.out.to hb); replace Hc := Lib.hid (Hc.out.to hb); replace HT8 := Lib.hid (HT8.out.below hb (Nat.le_refl _)); clear yb; have yb := Hb.out.cell; clear yc; have yc := Hc.out.cell; clear hb))
    go_returns
    exact ⟨by first | rfl | simp, HB.out⟩
end Go.Proofs.YthkfjnmnoanhlaaGreatDoor

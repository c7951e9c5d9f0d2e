/- ModelExists: for every formula, number and word the law returns true. -/
import Derived.Test.YtdlibehffgfhlaaDoorMBd
import Derived.Test.YtdlibehffgfhlaaDoorMExP
set_option linter.unusedSimpArgs false
set_option linter.unusedVariables false
namespace Go.Proofs.YtdlibehffgfhlaaDoor
open Go.RowKit

theorem byte_set (x c b : Nat) (hx : x < 3) (hc : c < 8) (hb : b < 2) : bits BinOp.or IntKind.u8 (bits BinOp.andNot IntKind.u8 (c : Int) ((2 ^ x : Nat) : Int)) ((b * 2 ^ x : Nat) : Int) = ((chgL x c b : Nat) : Int) := by
  have h2 : 2 ^ x ≤ 4 := Nat.pow_le_pow_right (by omega) (by omega : x ≤ 2)
  have h3 : b * 2 ^ x ≤ 1 * 2 ^ x := Nat.mul_le_mul_right _ (by omega)
  rw [u8_andNot_nat c (2 ^ x) (by omega) (by omega)]
  have h1 : c &&& (255 - 2 ^ x) < 256 := Nat.lt_of_le_of_lt Nat.and_le_left (by omega)
  rw [u8_or_nat _ _ h1 (by omega), byte_chg x hx c hc b hb]

theorem tmod3 (z : Int) : -3 < z.tmod 3 ∧ z.tmod 3 < 3 := ⟨by have := Int.lt_tmod_of_pos z (show (0 : Int) < 3 by omega); omega, Int.tmod_lt_of_pos z (by omega)⟩
theorem want0 (a : List Mk) (l : List Nat) (x : Nat) : wantX a l x 0 = someX (truthX a l x) (2 ^ l.length) := by unfold wantX; rw [if_pos rfl]
theorem want1 (a : List Mk) (l : List Nat) (x : Nat) : wantX a l x 1 = everyX (truthX a l x) (2 ^ l.length) := by unfold wantX; rw [if_neg (by decide), if_pos rfl]
theorem want2 (a : List Mk) (l : List Nat) (x : Nat) : wantX a l x 2 = oneX (truthX a l x) l.length (2 ^ l.length) := by unfold wantX; rw [if_neg (by decide), if_neg (by decide), if_pos rfl]
theorem want3 (a : List Mk) (l : List Nat) (x : Nat) : wantX a l x 3 = eachX (truthX a l x) l.length (2 ^ l.length) := by unfold wantX; rw [if_neg (by decide), if_neg (by decide), if_neg (by decide)]
/-- What the law knows: the changed words are all judged, or none is. -/
def BothX (a : List Mk) (xs : List Nat) (x : Nat) : Prop := ∀ n, n < 2 ^ xs.length → wordS a 3 (chgW x n xs) = (truthX a xs x n, 0)

set_option maxRecDepth 100000 in
set_option maxHeartbeats 4000000 in
theorem exists_walk (f : List Mk) (z : Int) (l : List Nat) (v u : Value) (w : World) (hv : MS w v f) (hz0 : -9223372036854775808 ≤ z) (hz1 : z ≤ 9223372036854775807) (hu : YS w u l) (h256 : ∀ x ∈ l, x < 256) (hdb : DB w) :
    Calls Tryd.prog 9 #[v, .int .i64 z, u] w fun e w' => e = .returned (.bool true) ∧ Below w.heap.size w w' := by
  have HV := Lib.hid hv; have HU := Lib.hid hu; have HDB := Lib.hid hdb
  obtain ⟨_, A, c, rfl, hc1, hc2, _⟩ := hv
  obtain ⟨A2, d, rfl, hd1, hd2, _⟩ := hu
  obtain ⟨n, hn⟩ : ∃ n, n = f.length := ⟨_, rfl⟩
  obtain ⟨nl, hnl⟩ : ∃ nl, nl = l.length := ⟨_, rfl⟩
  rw [← hn] at hc1 HV ⊢
  rw [← hnl] at hd1 HU ⊢
  have hcp := fun W (hW : MS W (.slice A n c) f) => copy_any (f.take (min (n : Int) 30).toNat) _ W (hW.cut (min (n : Int) 30).toNat (by omega) A (fun _ => rfl)) (by rw [List.length_take]; omega)
  rw [show (30 : Int) = ((30 : Nat) : Int) from rfl, take_min f n 30 hn] at hcp
  have hlet := fun W (hW : YS W (.slice A2 nl d) l) => letters_3 (l.take (min (nl : Int) 4).toNat) _ W (hW.cut (min (nl : Int) 4).toNat (by omega) A2 (fun _ => rfl)) (fun x hx => h256 x (List.mem_of_mem_take hx))
  rw [show (4 : Int) = ((4 : Nat) : Int) from rfl, take_min l nl 4 hnl] at hlet
  obtain ⟨a, ha⟩ : ∃ a, a = f.take 30 := ⟨_, rfl⟩
  have hal : a.length ≤ 30 := by rw [ha, List.length_take]; omega
  rw [← ha] at hcp
  obtain ⟨xs, hxs⟩ : ∃ xs, xs = lettersS (l.take 4) 3 := ⟨_, rfl⟩
  have hxl : xs.length ≤ 4 := by rw [hxs]; simp [lettersS]; omega
  have hx8 : ∀ x ∈ xs, x < 8 := fun x hx => by
    rw [hxs] at hx
    simp only [lettersS, List.mem_map] at hx
    obtain ⟨y, _, rfl⟩ := hx
    omega
  rw [← hxs] at hlet
  have hz2 := tmod3 z
  obtain ⟨x, hx⟩ : ∃ x : Nat, (wrap64 (z.tmod 3 + 3)).tmod 3 = (x : Int) := ⟨((wrap64 (z.tmod 3 + 3)).tmod 3).toNat, by
    rw [IntWalk.wrap64_in _ ⟨by omega, by omega⟩, Int.tmod_eq_emod_of_nonneg (by omega)]; omega⟩
  have hx3 : x < 3 := by
    rw [IntWalk.wrap64_in _ ⟨by omega, by omega⟩, Int.tmod_eq_emod_of_nonneg (by omega)] at hx; omega
  clear hz2
  have hlaw := exists_law a xs x hx3 hal hxl hx8
  have hB : (∃ e : Int, e ≠ 0 ∧ ∀ n, wordS a 3 (chgW x n xs) = (false, e)) ∨ BothX a xs x := by
    rcases hlaw with h | h
    · exact .inl h
    · exact .inr h.1
  have hG : BothX a xs x → ∃ G : Nat → List Mk, ∀ k : Nat, k < 4 → bindS (12 + (k : Int)) x a = (G k, 0) ∧ (wordS (G k) 3 xs = (false, 10) ∨ wordS (G k) 3 xs = (wantX a xs x k, 0)) := fun hb => by
    rcases hlaw with ⟨e, he, h⟩ | h
    · have h0 := h 0
      rw [hb 0 (Nat.pos_of_ne_zero (by simp))] at h0
      simp at h0
      exact absurd h0.2.symm he
    · refine ⟨fun k => if hk : k < 4 then Classical.choose (h.2 k hk) else [], fun k hk => ?_⟩
      simp only [dif_pos hk]
      exact Classical.choose_spec (h.2 k hk)
  have HCP := Lib.hid hcp; have HLE := Lib.hid hlet; have HLB := Lib.hid hB; have HLG := Lib.hid hG; have HX8 := Lib.hid hx8
  have HWC := Lib.hid (fun k v W q (h : MS W v a) (h2 : YS W q (chgW x k xs)) (h3 : DB W) => Word_any a v q 3 (chgW x k xs) W h h2 (fun y hy => by have := chgW_lt x k hx3 xs hx8 y hy; omega) h3)
  have HWG := Lib.hid (fun g v W q (h : MS W v g) (h2 : YS W q xs) (h3 : DB W) => Word_any g v q 3 xs W h h2 (fun y hy => by have := hx8 y hy; omega) h3)
  have j1 : (0 : Int) ≤ min (n : Int) 30 := by omega
  have j2 : min (n : Int) 30 ≤ (c : Int) := by omega
  have j3 : (0 : Int) ≤ min (nl : Int) 4 := by omega
  have j4 : min (nl : Int) 4 ≤ (d : Int) := by omega
  have HB : Hid (Below w.heap.size w w) := Below.refl _ _
  have HX := Lib.hid hx
  clear hcp hlet hlaw hB hG hx8 ha hxs hn hnl h256 hdb hx
  go_enter Tryd.func9, Tryd.ntmps9
  go_upto_region 5 with (first
    | (go_at_call 28; go_must (refine (awake16 _ (HDB.out.below HB.out (Nat.le_refl _))).mono ?_; rintro e wl ⟨rfl, hb⟩; replace HB := Lib.hid (HB.out.trans (hb.mono HB.out.size)); clear hb))
    | (go_at_call 13; go_must (refine (HCP.out _ (HV.out.below HB.out (Nat.le_refl _))).mono ?_; rintro e wl ⟨va, rfl, hb, ho⟩; have HA := Lib.hid ho.ms; clear ho; replace HB := Lib.hid (HB.out.trans (hb.mono HB.out.size)); clear hb))
    | (go_at_call 34; go_must (refine (HLE.out _ (HU.out.below HB.out (Nat.le_refl _))).mono ?_; rintro e wl ⟨v1, rfl, hb, ho⟩; have H1 := Lib.hid ho.ys; clear ho; replace HA := Lib.hid (HA.out.below hb (Nat.le_refl _)); replace HB := Lib.hid (HB.out.trans (hb.mono HB.out.size)); clear hb)))
  refine wp_abs (fun W => MS W va a ∧ YS W v1 xs ∧ Below w.heap.size w W) ⟨HA.out, H1.out, HB.out⟩ ?_
  clear HA H1 HB
  rintro wc ⟨ha, h1, hb⟩
  have HA := Lib.hid ha; have H1 := Lib.hid h1; have HB := Lib.hid hb
  clear ha hb
  obtain ⟨A1, c1, rfl, d1, d2, d3⟩ := h1
  obtain ⟨nx, hnx⟩ : ∃ nx, nx = xs.length := ⟨_, rfl⟩
  rw [← hnx] at d1 d3 H1 hxl
  have HNX := Lib.hid hnx; have HD3 := Lib.hid d3
  rw [← hnx]
  clear d3 hnx
  go_upto_region 6 with (fail)
  rw [HX.out]
  have hN16 : 2 ^ nx ≤ 16 := pow_le16 hxl
  have hN1 : 1 ≤ 2 ^ nx := Nat.pos_of_ne_zero (by simp)
  obtain ⟨N, hN⟩ : ∃ N, N = 2 ^ nx := ⟨_, rfl⟩
  rw [← hN] at hN16 hN1
  have hsh : wrap64 (2 ^ nx) = (N : Int) := by
    rw [hN]
    have := pow_le16 hxl
    rw [IntWalk.wrap64_in _ ⟨by have : (0 : Int) ≤ 2 ^ nx := by exact_mod_cast Nat.zero_le (2 ^ nx)
                                omega, by have : ((2 ^ nx : Nat) : Int) ≤ 16 := by exact_mod_cast this
                                          push_cast at this; omega⟩]
    push_cast; rfl
  have HNN : Hid (N = 2 ^ xs.length) := by rw [Hid, ← HNX.out]; exact hN
  clear hN
  go_wp2
  go_loopg [9, 10, 11, 12, 13] N (fun gk q9 q10 q11 q12 q13 wr => ∃ k : Nat, k ≤ N ∧ gk = N - k ∧ q13 = .int .i64 k ∧ q9 = .bool (someX (truthX a xs x) k) ∧ q10 = .bool (oneX (truthX a xs x) nx k) ∧ q11 = .bool (everyX (truthX a xs x) k) ∧ q12 = .bool (eachX (truthX a xs x) nx k) ∧ Below wc.heap.size wc wr ∧ (0 < k → BothX a xs x))
  case atStart => exact ⟨0, Nat.zero_le _, rfl, rfl, rfl, rfl, rfl, rfl, Below.refl _ _, fun h => by omega⟩
  case round =>
    obtain ⟨k, hk, rfl, rfl, rfl, rfl, rfl, rfl, hbe, hboth⟩ := hrel
    have HBK := Lib.hid hbe; have HBO := Lib.hid hboth
    clear hbe hboth
    obtain ⟨wo, rfl⟩ : ∃ wo : World, wo = wr := ⟨_, rfl⟩
    by_cases hlt : k < N
    · go_wp2_with (go_at_call 21; go_must (refine (copy_bytes xs _ _ (H1.out.below HBK.out (Nat.le_refl _)) (by rw [← HNX.out]; omega)).mono ?_; rintro e wm ⟨vm, rfl, hb, ho⟩))
      have hvm : ∃ Am cm, vm = .slice Am nx cm ∧ nx ≤ cm ∧ cm ≤ 9223372036854775807 ∧ (0 < nx → ∃ g, Am = some ⟨g, 0, none⟩ ∧ wo.heap.size ≤ g ∧ g < wm.heap.size) := by
        rcases two_shape ho with ⟨hx0, Am, cm, hv⟩ | ⟨g, cap, hv, q1, q2, q3, q4⟩
        · rcases ho.2 with ⟨hv, hn⟩ | ⟨g, cap, cur, hv, hB, hg, hnc, hcm, _⟩
          · exact ⟨none, 0, by rw [hv, HNX.out, hn], by rw [HNX.out, hn]; omega, by omega, fun h => by rw [HNX.out, hn] at h; omega⟩
          · exact ⟨_, cap, by rw [hv, HNX.out], by rw [HNX.out]; omega, by simp only [maxLen] at hcm; omega, fun _ => ⟨g, rfl, hB, lt_of_block hg⟩⟩
        · exact ⟨_, cap, by rw [hv, HNX.out], by rw [HNX.out]; omega, q3, fun _ => ⟨g, rfl, q1, q4⟩⟩
      obtain ⟨Am, cm, rfl, qm1, qm2, hgm⟩ := hvm
      have HY := Lib.hid ho; have HCB := Lib.hid hb
      clear ho hb
      go_loopg [15, 16] nx (fun gk o q wx => ∃ j : Nat, j ≤ nx ∧ gk = nx - j ∧ q = .int .i64 j ∧ o = .int .i64 (onesK k j) ∧ Below wo.heap.size wo wx ∧ YO wx wo.heap.size (.slice Am nx cm) (chgP x k xs j))
      case atStart => exact ⟨0, Nat.zero_le _, rfl, rfl, rfl, HCB.out, by rw [chgP_zero]; exact HY.out⟩
      case round =>
        obtain ⟨j, hj, rfl, rfl, rfl, hbe, hown⟩ := hrel
        have HBJ := Lib.hid hbe; have HOJ := Lib.hid hown
        clear hbe hown
        have hoj := onesK_le k j
        by_cases hlt2 : j < nx
        · obtain ⟨c0, hc0⟩ : ∃ c0, xs[j]? = some c0 := ⟨xs[j]'(by rw [← HNX.out]; exact hlt2), List.getElem?_eq_getElem _⟩
          obtain ⟨g, rfl, hg1, hg2⟩ := hgm (by omega)
          have hc8 := HX8.out c0 (List.mem_of_getElem? hc0)
          have hat := chgP_at x k hc0
          have hstep := chgP_step x k hc0
          have hlenm : (chgP x k xs j).length = nx := by rw [chgP_len, ← HNX.out]
          obtain ⟨bt, hbt⟩ : ∃ bt, bt = k / 2 ^ j % 2 := ⟨_, rfl⟩
          have hb2 : bt < 2 := by omega
          have hst2 : onesK k (j + 1) = onesK k j + bt := by rw [onesK, hbt]
          rw [← hbt] at hstep
          have e1 : ((k : Int) / 2 ^ j).tmod 2 = (bt : Int) := by
            rw [Int.tmod_eq_emod_of_nonneg (Int.ediv_nonneg (by omega) (by exact_mod_cast Nat.zero_le (2 ^ j))), hbt]
            norm_cast
          have cx : wr.cell? ⟨g, j, none⟩ = some (.int .u8 c0) := by
            have := HOJ.out.ys
            obtain ⟨A9, c9, hv9, _, _, h9⟩ := this
            simp only [Value.slice.injEq] at hv9
            obtain ⟨b9, o9, hA9, _, hc9⟩ := h9 (by omega)
            rw [← hv9.1] at hA9
            simp only [Option.some.injEq, Addr.mk.injEq] at hA9
            have := hc9 j c0 hat
            rw [← hA9.1, ← hA9.2.1, Nat.zero_add] at this
            exact this
          have hzf : wr.frozen? ⟨g, j, none⟩ = false := by
            obtain ⟨g', cap', cs, hv', _, hr', hsz, _⟩ := own_row HOJ.out (by omega)
            cases hv'
            exact hr'.free j
          have hzs := HBJ.out.size
          have hset := set_byte HOJ.out hlenm j (chgL x c0 bt)
          rw [hstep] at hset
          have HSET := Lib.hid hset
          have em := byte_set x c0 bt hx3 hc8 hb2
          obtain ⟨P, hP⟩ : ∃ P, P = 2 ^ x := ⟨_, rfl⟩
          have hP4 : P ≤ 4 := by rw [hP]; exact Nat.pow_le_pow_right (by omega) (by omega : x ≤ 2)
          have hPi : (2 : Int) ^ x = (P : Int) := by rw [hP]; norm_cast
          rw [← hP] at em
          obtain ⟨Q, hQ⟩ : ∃ Q, Q = bt * P := ⟨_, rfl⟩
          have hQ4 : Q ≤ 4 := by
            have : bt * P ≤ 1 * P := Nat.mul_le_mul_right _ (by omega)
            omega
          have hQi : (bt : Int) * (P : Int) = (Q : Int) := by rw [hQ]; norm_cast
          rw [← hQ] at em
          have s1 : IntKind.u8.wrap (2 ^ x) = (P : Int) := by rw [hPi]; exact IntWalk.u8_in _ ⟨by omega, by omega⟩
          have s2 : IntKind.i64.wrap ((bt : Int) * 2 ^ x) = (Q : Int) := by rw [hPi, hQi]; exact IntWalk.i64_in _ ⟨by omega, by omega⟩
          have s3 : IntKind.u8.wrap (Q : Int) = (Q : Int) := IntWalk.u8_in _ ⟨by omega, by omega⟩
          have s4 : wrap64 ((bt : Int) * 2 ^ x) = (Q : Int) := by rw [hPi, hQi]; exact IntWalk.wrap64_in _ ⟨by omega, by omega⟩
          clear hP hQ hPi hQi hP4 hQ4
          have HST2 := Lib.hid hst2
          clear hat hstep hset hlenm hbt hc0 hst2
          go_wp2
          first | go_region | fail
          go_wp2
          go_roundg (nx - (j + 1))
          case rel => exact ⟨j + 1, by omega, rfl, by go_num, by rw [HST2.out]; go_num, by have h1 := HBJ.out; have h2 := h1.setCell (p := ⟨g, j, none⟩) hg1 (byV (chgL x c0 bt)); first | exact h2.drew | exact h2, by first | exact HSET.out | exact HSET.out.below (B' := wr.heap.size) (by go_grown) (by simp)⟩
          case measure => omega
        · have hjn : nx = j := by omega
          have hys := HOJ.out.ys
          rw [← hjn, HNX.out, chgP_all, ← HNX.out] at hys
          have HYS := Lib.hid hys
          have hlk : k < 2 ^ xs.length := by rw [← HNN.out]; exact hlt
          have hR : (∃ e, e ≠ 0 ∧ wordS a 3 (chgW x k xs) = (false, e)) ∨ (BothX a xs x ∧ wordS a 3 (chgW x k xs) = (truthX a xs x k, 0)) := by
            rcases HLB.out with ⟨e, he, h⟩ | h
            · exact .inl ⟨e, he, h k⟩
            · exact .inr ⟨h, h k hlk⟩
          have HBC := Lib.hid (HBK.out.trans (HBJ.out.mono HBK.out.size))
          have HBW := Lib.hid (HB.out.trans (HBC.out.mono HB.out.size))
          have HAW := Lib.hid (HA.out.below HBC.out (Nat.le_refl _))
          have hwk := HWC.out k va wr _ HAW.out HYS.out (HDB.out.below HBW.out (Nat.le_refl _))
          have e1 := someX_succ (truthX a xs x) k
          have e2 := oneX_succ (truthX a xs x) nx k
          have e3 := everyX_succ (truthX a xs x) k
          have e4 := eachX_succ (truthX a xs x) nx k
          subst hjn
          clear hys hlk HY
          rcases hR with ⟨e0, he0, hR⟩ | ⟨hbo, hR⟩
          · rw [hR] at hwk
            have HWK := Lib.hid hwk
            have he : (e0 != 0) = true := by simp [he0]
            clear hwk hR e1 e2 e3 e4 he0
            go_wp2_with (go_at_call 22; go_must (refine HWK.out.mono ?_; rintro e wl2 ⟨rfl, hb⟩; have HBF := Lib.hid (HBW.out.trans (hb.mono HBW.out.size)); clear hb))
            go_returns
            exact ⟨rfl, HBF.out⟩
          · rw [hR] at hwk
            have HWK := Lib.hid hwk
            obtain ⟨t, ht⟩ : ∃ t, t = truthX a xs x k := ⟨_, rfl⟩
            obtain ⟨S, hS⟩ : ∃ S, S = someX (truthX a xs x) k := ⟨_, rfl⟩
            obtain ⟨O, hO⟩ : ∃ O, O = oneX (truthX a xs x) nx k := ⟨_, rfl⟩
            obtain ⟨E, hE⟩ : ∃ E, E = everyX (truthX a xs x) k := ⟨_, rfl⟩
            obtain ⟨C, hC⟩ : ∃ C, C = eachX (truthX a xs x) nx k := ⟨_, rfl⟩
            rw [← hS, ← ht] at e1
            rw [← hO, ← ht] at e2
            rw [← hE, ← ht] at e3
            rw [← hC, ← ht] at e4
            rw [← ht] at hwk
            rw [← hS, ← hO, ← hE, ← hC]
            replace HWK := Lib.hid hwk
            have E1 := Lib.hid e1; have E2 := Lib.hid e2; have E3 := Lib.hid e3; have E4 := Lib.hid e4
            have HBB := Lib.hid hbo
            clear hwk hR e1 e2 e3 e4 ht hS hO hE hC hbo
            go_upto_region 19 with (go_at_call 22; go_must (refine HWK.out.mono ?_; rintro e wl2 ⟨rfl, hb⟩; have HBF := Lib.hid (HBC.out.trans (hb.mono HBC.out.size)); clear hb))
            clear hsh HWK HCB HBJ HOJ HYS HAW HBW HBC hgm qm1 qm2 HWC HLG HLB HCP HLE
            obtain ⟨on1, hon⟩ : ∃ z, z = onesK k nx := ⟨_, rfl⟩
            rw [← hon]
            have HON := Lib.hid hon; clear hon
            have D1 : Hid (decide (onesK k nx = 1) = decide (on1 = 1)) := by rw [Hid, HON.out]
            clear HON
            rcases bool_cases S with rfl | rfl
            all_goals rcases bool_cases E with rfl | rfl
            all_goals
              by_cases hone : on1 = 1
              · subst hone
                rcases bool_cases O with rfl | rfl
                all_goals rcases bool_cases C with rfl | rfl
                all_goals
                  go_wp2
                  go_roundg (N - (k + 1))
                  case rel => exact ⟨k + 1, by omega, rfl, by go_num, by rw [E1.out]; simp, by rw [E2.out, D1.out]; simp, by rw [E3.out]; simp, by rw [E4.out, D1.out]; simp, HBF.out, fun _ => HBB.out⟩
                  case measure => omega
              · have h1 : ((on1 : Int) == 1) = false := by rw [beq_eq_false_iff_ne]; omega
                have D2 : Hid (decide (on1 = 1) = false) := decide_eq_false hone
                clear hone
                go_wp2
                go_roundg (N - (k + 1))
                case rel => exact ⟨k + 1, by omega, rfl, by go_num, by rw [E1.out]; simp, by rw [E2.out, D1.out, D2.out]; simp, by rw [E3.out]; simp, by rw [E4.out, D1.out, D2.out]; simp, HBF.out, fun _ => HBB.out⟩
                case measure => omega
    · have HSH := Lib.hid hsh
      clear hsh
      have hkn : k = N := by omega
      have hb := HBO.out (by omega)
      obtain ⟨G, hG⟩ := HLG.out hb
      have HGG := Lib.hid hG
      rw [hkn]
      have w0 : wantX a xs x 0 = someX (truthX a xs x) N := by rw [HNN.out]; exact want0 a xs x
      have w1 : wantX a xs x 1 = everyX (truthX a xs x) N := by rw [HNN.out]; exact want1 a xs x
      have w2 : wantX a xs x 2 = oneX (truthX a xs x) nx N := by rw [HNN.out, HNX.out]; exact want2 a xs x
      have w3 : wantX a xs x 3 = eachX (truthX a xs x) nx N := by rw [HNN.out, HNX.out]; exact want3 a xs x
      obtain ⟨X0, hX0⟩ : ∃ b, b = someX (truthX a xs x) N := ⟨_, rfl⟩
      obtain ⟨X1, hX1⟩ : ∃ b, b = everyX (truthX a xs x) N := ⟨_, rfl⟩
      obtain ⟨X2, hX2⟩ : ∃ b, b = oneX (truthX a xs x) nx N := ⟨_, rfl⟩
      obtain ⟨X3, hX3⟩ : ∃ b, b = eachX (truthX a xs x) nx N := ⟨_, rfl⟩
      rw [← hX0, ← hX1, ← hX2, ← hX3]
      have HW4 : Hid (∀ i, i < 4 → (#[Value.bool X0, .bool X1, .bool X2, .bool X3] : Array Value)[i]? = some (.bool (wantX a xs x i))) := fun i hi => by
        have : i = 0 ∨ i = 1 ∨ i = 2 ∨ i = 3 := by omega
        rcases this with rfl | rfl | rfl | rfl
        · rw [w0, ← hX0]; rfl
        · rw [w1, ← hX1]; rfl
        · rw [w2, ← hX2]; rfl
        · rw [w3, ← hX3]; rfl
      have HBW := Lib.hid (HB.out.trans (HBK.out.mono HB.out.size))
      have HAW := Lib.hid (HA.out.below HBK.out (Nat.le_refl _))
      have H1W := Lib.hid (H1.out.below HBK.out (Nat.le_refl _))
      have HBD := Lib.hid (fun (i : Nat) (hi : i < 4) W (hW : MS W va a) => (show Calls Tryd.prog 36 #[.int .u8 (12 + (i : Int)), .int .i64 x, va] W (RetFE W (G i) 0) from by have q := Bind_any (12 + (i : Int)) x a va W hW (by omega) (by omega); rw [(HGG.out i hi).1] at q; exact q))
      clear hG hb w0 w1 w2 w3 hkn hk hlt hX0 hX1 hX2 hX3 HBO HLG HLB HWC HCP HLE HV HU HA H1
      have hsh := HSH.out
      go_upto_region 26 with (fail)
      try rw [hsh]
      clear hsh
      refine wp_abs (fun W => Row W wo.heap.size 4 #[Value.bool X0, .bool X1, .bool X2, .bool X3] ∧ Below wo.heap.size wo W) ⟨Row.lit rfl, by go_grown⟩ ?_
      rintro ws ⟨hrow, hbs⟩
      have HRW := Lib.hid hrow; have HBS := Lib.hid hbs
      clear hrow hbs
      go_loopg [21] 4 (fun gk q wr => ∃ i : Nat, i ≤ 4 ∧ gk = 4 - i ∧ q = .int .i64 i ∧ Row wr wo.heap.size 4 #[Value.bool X0, .bool X1, .bool X2, .bool X3] ∧ Below wo.heap.size wo wr)
      case atStart => exact ⟨0, by omega, rfl, rfl, HRW.out, HBS.out⟩
      case round =>
        obtain ⟨i, hi, rfl, rfl, hrow, hbs⟩ := hrel
        clear HRW HBS
        have HRW := Lib.hid hrow; have HBS := Lib.hid hbs
        clear hrow hbs
        by_cases hlt : i < 4
        · have HBI := Lib.hid (HBD.out i hlt)
          obtain ⟨_, hwo⟩ := HGG.out i hlt
          have hcell := HW4.out i hlt
          obtain ⟨T, hT⟩ : ∃ T, T = wantX a xs x i := ⟨_, rfl⟩
          rw [← hT] at hwo hcell
          have HCE := Lib.hid hcell
          rcases hwo with hwo | hwo
          all_goals
            have HWI := Lib.hid (fun v W q (h : MS W v (G i)) (h2 : YS W q xs) (h3 : DB W) => HWG.out (G i) v W q h h2 h3)
            rw [hwo] at HWI
            clear hwo hcell hT
            go_upto_region 30 with (first
              | (go_at_call 36; (with_reducible refine (HBI.out _ (HAW.out.below HBS.out (Nat.le_refl _))).mono ?_); rintro e wb ⟨vg, rfl, hb, ho⟩; have HG1 := Lib.hid ho.ms; have hsz := HBS.out.size; replace HRW := Lib.hid (HRW.out.below hb HRW.out.lt); replace HBS := Lib.hid (HBS.out.trans (hb.mono HBS.out.size)); clear hb ho)
              | (go_at_call 22; (with_reducible refine (HWI.out _ _ _ HG1.out (H1W.out.below HBS.out (Nat.le_refl _)) (HDB.out.below (HBW.out.trans (HBS.out.mono HBW.out.size)) (Nat.le_refl _))).mono ?_); rintro e wb2 ⟨rfl, hb⟩; replace HRW := Lib.hid (HRW.out.below hb HRW.out.lt); replace HBS := Lib.hid (HBS.out.trans (hb.mono HBS.out.size)); clear hb))
            have hce := (HRW.out.cell i).trans HCE.out
            have hcl := HRW.out.lt
            go_wp2
            go_roundg (4 - (i + 1))
            case rel => exact ⟨i + 1, by omega, rfl, by go_num, HRW.out, HBS.out⟩
            case measure => omega
        · have hi4 : i = 4 := by omega
          subst hi4
          go_wp2
          go_returns
          exact ⟨rfl, HBW.out.trans (HBS.out.mono HBW.out.size)⟩
end Go.Proofs.YtdlibehffgfhlaaDoor

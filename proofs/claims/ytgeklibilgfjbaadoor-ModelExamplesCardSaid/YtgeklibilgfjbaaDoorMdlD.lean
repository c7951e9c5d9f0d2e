/- Contract: costs of the package model. -/
import Derived.Test.YtgeklibilgfjbaaDoorMdlA
import Derived.Test.YtgeklibilgfjbaaDoorModP
import Derived.Test.YtgeklibilgfjbaaDoorMsoB
import Derived.Test.YtgeklibilgfjbaaDoorShelf
set_option linter.unusedSimpArgs false
set_option linter.unusedVariables false
set_option pp.deepTerms true
set_option pp.maxSteps 100000
namespace Go.Proofs.YtgeklibilgfjbaaDoor
open Go.RowKit

/-- Each child is an earlier node. -/
def Kids (f : List Mk) : Prop := ∀ (i : Nat) (m : Mk), f[i]? = some m → (nc m.op ≠ 0 → 0 ≤ m.a ∧ m.a < i) ∧ (nc m.op = 2 → 0 ≤ m.b ∧ m.b < i)
theorem kids_of {f : List Mk} (h : formedS f = true) : Kids f := by
  obtain ⟨_, t, ok, hs, he⟩ := formed_tree f h
  have key : ∀ (t : Tr) (p : Nat), t.ok → Sg f p t → ∀ j, j < t.size → ∀ m, f[p + j]? = some m → (nc m.op ≠ 0 → 0 ≤ m.a ∧ m.a < ((p + j : Nat) : Int)) ∧ (nc m.op = 2 → 0 ≤ m.b ∧ m.b < ((p + j : Nat) : Int)) := by
    intro t
    induction t with
    | leaf op x y =>
      intro p hok hsg j hj m hm
      simp only [Tr.size] at hj
      have hj0 : j = 0 := by omega
      subst hj0
      rw [Nat.add_zero, hsg.leaf] at hm
      cases hm
      have := hok.2.1
      simp [this]
    | un op x a ih =>
      intro p hok hsg j hj m hm
      simp only [Tr.size] at hj
      have hp := a.size_pos
      by_cases hja : j < a.size
      · exact ih p hok.2 hsg.un1 j hja m hm
      · have : j = a.size := by omega
        subst this
        rw [hsg.un] at hm
        cases hm
        have := hok.1.2.1
        simp only [this]
        omega
    | bin op a b iha ihb =>
      intro p hok hsg j hj m hm
      simp only [Tr.size] at hj
      have hp := a.size_pos
      have hq := b.size_pos
      by_cases hja : j < a.size
      · exact iha p hok.2.1 hsg.bin1 j hja m hm
      · by_cases hjb : j < a.size + b.size
        · have := ihb (p + a.size) hok.2.2 hsg.bin2 (j - a.size) (by omega) m (by rw [← hm]; congr 1; omega)
          omega
        · have : j = a.size + b.size := by omega
          subst this
          rw [← Nat.add_assoc, hsg.bin] at hm
          cases hm
          simp only
          omega
  intro i m hm
  have hi : i < f.length := (List.getElem?_eq_some_iff.1 hm).1
  have := key t 0 ok (fun j hj => by rw [Nat.zero_add, ← he]) i (by omega) m (by rw [Nat.zero_add]; exact hm)
  rw [Nat.zero_add] at this
  exact this

theorem len30 (w : World) : Calls Tryd.prog 193 #[.int .u64 1073741824] w fun e w' => e = .returned (.int .i64 31) ∧ w = w' :=
  (Tryd.bits_Len 1073741824 w (by omega) (by omega)).mono fun e w' ⟨he, hw⟩ => ⟨he.trans (by rw [show Lib.bitLen (1073741824 : Int).toNat = 31 by decide +kernel]; rfl), hw.symm⟩
theorem pow_le30 {n : Nat} (h : n < 31) : 1 ≤ 2 ^ n ∧ 2 ^ n ≤ 1073741824 := ⟨Nat.pos_of_ne_zero (by simp), Nat.pow_le_pow_right (n := 2) (by omega) (show n ≤ 30 by omega)⟩
/-- The least of a bounded product. -/
theorem cap_mul {P q a : Nat} (hP : 1 ≤ P) (hq : P * q = 1073741824) : min (1 + min a (q + 1) * P) 1073741824 = min (1 + P * a) 1073741824 := by
  by_cases h : a ≤ q + 1
  · rw [Nat.min_eq_left h, Nat.mul_comm]
  · rw [Nat.min_eq_right (by omega : q + 1 ≤ a)]
    have h1 : P * (q + 1) ≤ P * a := Nat.mul_le_mul_left P (by omega)
    have h2 : (q + 1) * P = P * q + P := by rw [Nat.mul_comm, Nat.mul_add, Nat.mul_one]
    have h3 : P * (q + 1) = P * q + P := by rw [Nat.mul_add, Nat.mul_one]
    omega
theorem pow_div30 {n : Nat} (h : n < 31) : 2 ^ n * (1073741824 / 2 ^ n) = 1073741824 := by
  have e : (1073741824 : Nat) = 2 ^ n * 2 ^ (30 - n) := by rw [← Nat.pow_add, show n + (30 - n) = 30 by omega]
  rw [e, Nat.mul_div_cancel_left _ (Nat.pos_of_ne_zero (by simp))]

theorem w64_nat (x : Nat) (h : x < 9223372036854775808) : wrap64 (x : Int) = (x : Int) := IntWalk.wrap64_in _ ⟨by omega, by omega⟩
/-- The bounded product of a set quantifier, as the code reckons it. -/
theorem set_cost (n av : Nat) (h : n < 31) (ha : av ≤ 1073741824) : wrap64 (1 + wrap64 (min (av : Int) (wrap64 (1073741824 / 2 ^ n + 1)) * 2 ^ n)) = ((1 + min av (1073741824 / 2 ^ n + 1) * 2 ^ n : Nat) : Int) ∧ 1 + min av (1073741824 / 2 ^ n + 1) * 2 ^ n ≤ 3000000000 := by
  obtain ⟨p1, p2⟩ := pow_le30 h
  have p3 := pow_div30 h
  have e1 : (1073741824 / 2 ^ n + 1 : Int) = ((1073741824 / 2 ^ n + 1 : Nat) : Int) := by simp [Int.natCast_ediv, Int.natCast_pow]
  have q1 : 1073741824 / 2 ^ n ≤ 1073741824 := Nat.div_le_self _ _
  rw [e1, w64_nat _ (by omega)]
  have e2 : min (av : Int) ((1073741824 / 2 ^ n + 1 : Nat) : Int) = ((min av (1073741824 / 2 ^ n + 1) : Nat) : Int) := by omega
  rw [e2]
  have b1 : min av (1073741824 / 2 ^ n + 1) * 2 ^ n ≤ 2147483648 := by
    have h1 : min av (1073741824 / 2 ^ n + 1) * 2 ^ n ≤ (1073741824 / 2 ^ n + 1) * 2 ^ n := Nat.mul_le_mul_right _ (Nat.min_le_right _ _)
    have h2 : (1073741824 / 2 ^ n + 1) * 2 ^ n = 2 ^ n * (1073741824 / 2 ^ n) + 2 ^ n := by rw [Nat.mul_comm, Nat.mul_add, Nat.mul_one]
    omega
  have e3 : ((min av (1073741824 / 2 ^ n + 1) : Nat) : Int) * 2 ^ n = ((min av (1073741824 / 2 ^ n + 1) * 2 ^ n : Nat) : Int) := by simp [Int.natCast_pow]
  rw [e3, w64_nat _ (by omega)]
  have e4 : (1 : Int) + ((min av (1073741824 / 2 ^ n + 1) * 2 ^ n : Nat) : Int) = ((1 + min av (1073741824 / 2 ^ n + 1) * 2 ^ n : Nat) : Int) := by omega
  rw [e4, w64_nat _ (by omega)]
  exact ⟨rfl, by omega⟩
set_option maxRecDepth 100000 in
set_option maxHeartbeats 4000000 in
theorem costs_any (f : List Mk) (v : Value) (n : Nat) (hn : n ≤ 64) (w : World) (hv : MS w v f) (hl : f.length ≤ 64) (hkids : Kids f) :
    Calls Tryd.prog 161 #[v, .int .i64 n] w fun e w' => e = .returned (.slice (some ⟨w.heap.size, 0, none⟩) f.length f.length) ∧ Below w.heap.size w w' ∧ Row w' w.heap.size 3 (outc f.length (csts n f)) := by
  have HV := Lib.hid hv
  obtain ⟨hop, A, c, rfl, hc, hc2, hcell⟩ := hv
  obtain ⟨N, hN⟩ : ∃ N, N = f.length := ⟨_, rfl⟩
  rw [← hN] at hl hc hcell HV ⊢
  have H1 := Lib.hid hN; clear hN
  have H2 := Lib.hid hcell; clear hcell
  have H3 := Lib.hid hop; clear hop
  have HK := Lib.hid hkids; clear hkids
  have hmk := fun W => run_make_ints N (by omega) W
  go_enter Tryd.func161, Tryd.ntmps161
  go_wp2
  go_loopg [14] N (fun gk v wr => ∃ k : Nat, k ≤ N ∧ gk = N - k ∧ v = .int .i64 k ∧ Below w.heap.size w wr ∧ Row wr w.heap.size 3 (outc N (csts n (f.take k))))
  case atStart =>
    exact ⟨0, Nat.zero_le _, rfl, rfl, by go_grown, by rw [outc_made]; exact Row.new w _ _⟩
  case round =>
    obtain ⟨k, hk, rfl, rfl, hbe, hout⟩ := hrel
    by_cases hlt : k < N
    · obtain ⟨m, hm⟩ : ∃ m, f[k]? = some m := ⟨f[k]'(by rw [← H1.out]; exact hlt), List.getElem?_eq_getElem _⟩
      obtain ⟨b, o, rfl, hb, hcell⟩ := H2.out (by omega)
      obtain ⟨c0, c1, c2, c3, c4⟩ := hcell k m hm
      clear hcell
      obtain ⟨m1, m2⟩ := H3.out m (List.mem_of_getElem? hm)
      rw [← hbe.cell (p := ⟨b, _, none⟩) hb] at c0 c1 c2 c3 c4
      have hz : w.heap.size < wr.heap.size := hout.lt
      have hb' : b < wr.heap.size := by omega
      have hsl : (csts n (f.take k)).length = k := by rw [csts_len, List.length_take, ← H1.out]; omega
      have hst := csts_take n f k m hm
      have hbd : ∀ j, j < k → 1 ≤ (csts n (f.take k)).getD j 0 ∧ (csts n (f.take k)).getD j 0 ≤ 1073741824 := fun j hj => csts_bd n (f.take k) j (by rw [List.length_take, ← H1.out]; omega)
      obtain ⟨ka, kb⟩ := HK.out k m hm
      have hcn : cstNode n (csts n (f.take k)) m = min (cstRaw n m.op ((csts n (f.take k)).getD m.a.toNat 0) ((csts n (f.take k)).getD m.b.toNat 0)) 1073741824 := rfl
      have o0 : ∀ j, j < N → wr.cell? ⟨w.heap.size, j, none⟩ = some (.int .i64 ((csts n (f.take k)).getD j 0 : Nat)) := fun j hj => (hout.cell j).trans (outc_get _ _ _ hj (by rw [hsl]; omega))
      have o1 := hout.free
      have DV : Hid (∀ (W : World) (u : Int), Row W w.heap.size 3 (outc N (csts n (f.take k))) → u = (cstNode n (csts n (f.take k)) m : Nat) → Row (W.setCell ⟨w.heap.size, k, none⟩ (.int .i64 u)) w.heap.size 3 (outc N (csts n (f.take (k + 1))))) := by
        rintro W V hr rfl
        have h := hr.set k (.int .i64 (cstNode n (csts n (f.take k)) m : Nat))
        have e := outc_set N (csts n (f.take k)) (cstNode n (csts n (f.take k)) m) (by rw [hsl]; exact hlt)
        rw [hsl] at e
        rw [e] at h
        rw [hst]; exact h
      generalize csts n (f.take k) = L at *
      have ok := o0 k hlt
      have HB := Lib.hid hbe; clear hbe
      have HO := Lib.hid hout; clear hout
      have HM := Lib.hid hm; clear hm hst hsl
      generalize cstNode n L m = V at *
      have HCN := Lib.hid hcn; clear hcn
      have HBD := Lib.hid hbd; clear hbd
      have HO0 := Lib.hid o0; clear o0
      obtain ⟨op, x, y, ma, mb⟩ := m
      simp only at c0 c1 c2 c3 c4 m1 m2 ka kb HCN
      have RND : Hid (∀ (W : World) (u : Int), Below w.heap.size w W → Row W w.heap.size 3 (outc N L) → u = (V : Nat) → (Below w.heap.size w (W.setCell ⟨w.heap.size, k, none⟩ (.int .i64 u)) ∧ Row (W.setCell ⟨w.heap.size, k, none⟩ (.int .i64 u)) w.heap.size 3 (outc N (csts n (f.take (k + 1)))))) := fun W u hb hr hu => ⟨hb.setCell (by simp) _, DV.out W u hr hu⟩
      by_cases h0 : nc op = 0
      · obtain ⟨q1, q2, q3, q4, q5, q6, q7⟩ := nc0_op h0
        have hV : (min 1 1073741824 : Int) = (V : Nat) := by
          rw [HCN.out]
          simp only [beq_eq_false_iff_ne] at q1 q2 q3 q4 q5 q6 q7
          rw [cstRaw, if_neg q1, if_neg (by omega), if_neg (by omega), if_neg (by omega)]; rfl
        have HU := Lib.hid hV; clear hV h0 ka kb
        go_wp2
        go_roundg (N - (k + 1))
        case rel =>
          have hh := HB.out
          obtain ⟨r1, r2⟩ := RND.out wr _ hh HO.out HU.out
          have rs := r1.size
          exact ⟨k + 1, by omega, rfl, by go_num, by go_grown, by first | exact r2.alloc _ | exact (r2.alloc _).drew⟩
        case measure => omega
      · obtain ⟨ka1, ka2⟩ := ka h0
        obtain ⟨a, rfl⟩ := Int.eq_ofNat_of_zero_le ka1
        have hak : a < k := by omega
        have oa := HO0.out a (by omega)
        obtain ⟨av1, av2⟩ := HBD.out a hak
        simp only [Int.toNat_natCast] at HCN
        generalize L.getD a 0 = av at *
        clear ka ka1 ka2
        by_cases h2 : op = 10 ∨ op = 11
        · obtain ⟨kb1, kb2⟩ := kb (by unfold nc; rw [if_pos h2])
          obtain ⟨b2, rfl⟩ := Int.eq_ofNat_of_zero_le kb1
          have hbk : b2 < k := by omega
          have ob := HO0.out b2 (by omega)
          obtain ⟨bv1, bv2⟩ := HBD.out b2 hbk
          simp only [Int.toNat_natCast] at HCN
          generalize L.getD b2 0 = bv at *
          clear kb kb1 kb2 h0
          have hV : min (1 + ((av : Int) + bv)) 1073741824 = ((V : Nat) : Int) := by
            rw [HCN.out, cstRaw, if_neg (by omega), if_pos h2]; omega
          have HU := Lib.hid hV; clear hV
          rcases h2 with rfl | rfl
          all_goals
            go_wp2
            first | go_region | fail
            go_wp2
            go_roundg (N - (k + 1))
            case rel =>
              have hh := HB.out
              obtain ⟨r1, r2⟩ := RND.out wr _ hh HO.out HU.out
              have rs := r1.size
              exact ⟨k + 1, by omega, rfl, by go_num, by go_grown, by first | exact r2.alloc _ | exact (r2.alloc _).drew⟩
            case measure => omega
        · have h1 : op = 9 ∨ op = 12 ∨ op = 13 ∨ op = 14 ∨ op = 15 := by
            have : nc op = 1 := by rcases nc_cases op with h | h | h; exact absurd h h0; exact h; exact absurd (nc2_op h) h2
            exact nc1_op this
          clear h0 h2 kb
          have h5 : op = 9 ∨ (op = 12 ∨ op = 13) ∨ (op = 14 ∨ op = 15) := by omega
          clear h1
          rcases h5 with rfl | h1 | h1
          · have hV : min (1 + (av : Int)) 1073741824 = ((V : Nat) : Int) := by
              rw [HCN.out, cstRaw, if_pos rfl]; omega
            have HU := Lib.hid hV; clear hV
            go_wp2
            go_roundg (N - (k + 1))
            case rel =>
              have hh := HB.out
              obtain ⟨r1, r2⟩ := RND.out wr _ hh HO.out HU.out
              have rs := r1.size
              exact ⟨k + 1, by omega, rfl, by go_num, by go_grown, by first | exact r2.alloc _ | exact (r2.alloc _).drew⟩
            case measure => omega
          · by_cases h31 : n < 31
            · obtain ⟨E1, E2⟩ := set_cost n av h31 av2
              have hV : min ((1 + min av (1073741824 / 2 ^ n + 1) * 2 ^ n : Nat) : Int) 1073741824 = ((V : Nat) : Int) := by
                have := cap_mul (a := av) (pow_le30 h31).1 (pow_div30 h31)
                rw [HCN.out, cstRaw, if_neg (by omega), if_neg (by omega), if_pos h1]; omega
              obtain ⟨S, hS⟩ : ∃ S, S = 1 + min av (1073741824 / 2 ^ n + 1) * 2 ^ n := ⟨_, rfl⟩
              rw [← hS] at E1 E2 hV
              have HE := Lib.hid E1; have HU := Lib.hid hV; clear hV E1 hS
              rcases h1 with rfl | rfl
              all_goals
                go_wp2_with (go_at_call 193; go_must (refine (len30 _).mono ?_; rintro e w' ⟨rfl, rfl⟩))
                first | go_region | fail
                rw [HE.out]
                go_wp2
                go_roundg (N - (k + 1))
                case rel =>
                  have hh := HB.out
                  obtain ⟨r1, r2⟩ := RND.out wr _ hh HO.out HU.out
                  have rs := r1.size
                  exact ⟨k + 1, by omega, rfl, by go_num, by go_grown, by first | exact r2.alloc _ | exact (r2.alloc _).drew⟩
                case measure => omega
            · have hV : (min 1073741824 1073741824 : Int) = ((V : Nat) : Int) := by
                have h3 : 2 ^ 31 ≤ 2 ^ n := Nat.pow_le_pow_right (by omega) (by omega)
                have h4 : 2 ^ n * 1 ≤ 2 ^ n * av := Nat.mul_le_mul_left _ av1
                rw [HCN.out, cstRaw, if_neg (by omega), if_neg (by omega), if_pos h1]; omega
              have HU := Lib.hid hV; clear hV
              have h31' : (31 : Int) ≤ n := by omega
              rcases h1 with rfl | rfl
              all_goals
                go_wp2_with (go_at_call 193; go_must (refine (len30 _).mono ?_; rintro e w' ⟨rfl, rfl⟩))
                go_roundg (N - (k + 1))
                case rel =>
                  have hh := HB.out
                  obtain ⟨r1, r2⟩ := RND.out wr _ hh HO.out HU.out
                  have rs := r1.size
                  exact ⟨k + 1, by omega, rfl, by go_num, by go_grown, by first | exact r2.alloc _ | exact (r2.alloc _).drew⟩
                case measure => omega
          · obtain ⟨q, hq⟩ : ∃ q, q = n * av := ⟨_, rfl⟩
            have hq2 : q ≤ 64 * 1073741824 := by rw [hq]; exact Nat.mul_le_mul hn av2
            have hq3 : (n : Int) * (av : Int) = (q : Int) := by rw [hq]; simp
            have hV : min (1 + (q : Int)) 1073741824 = ((V : Nat) : Int) := by
              rw [HCN.out, cstRaw, if_neg (by omega), if_neg (by omega), if_neg (by omega), if_pos h1, ← hq]; omega
            have HU := Lib.hid hV; clear hV hq
            rcases h1 with rfl | rfl
            all_goals
              go_wp2
              go_roundg (N - (k + 1))
              case rel =>
                have hh := HB.out
                obtain ⟨r1, r2⟩ := RND.out wr _ hh HO.out HU.out
                have rs := r1.size
                exact ⟨k + 1, by omega, rfl, by go_num, by go_grown, by first | exact r2.alloc _ | exact (r2.alloc _).drew⟩
              case measure => omega
    · go_wp2
      go_returns
      have : k = N := by omega
      subst this
      rw [List.take_of_length_le (by rw [← H1.out]; exact Nat.le_refl _)] at hout
      exact ⟨rfl, hbe, hout⟩
end Go.Proofs.YtgeklibilgfjbaaDoor

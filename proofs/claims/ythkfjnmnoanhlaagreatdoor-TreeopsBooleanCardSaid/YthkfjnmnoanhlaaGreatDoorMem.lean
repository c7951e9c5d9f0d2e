/- Contract: members of the package treeops: the states of a set. -/
/- Contracts: the functions that Exists hands to explored and ta minimal. -/
import Derived.Test.YthkfjnmnoanhlaaGreatDoorSxG
import Derived.Test.YthkfjnmnoanhlaaGreatDoorSxA
import Derived.Test.YthkfjnmnoanhlaaGreatDoorDtP
import Derived.StillTailTactics
import Derived.BigQuiet
set_option linter.unusedSimpArgs false
set_option linter.unusedVariables false
namespace Go.Proofs.YthkfjnmnoanhlaaGreatDoor
open Go.RowKit

def memK (s k : Nat) : List Nat := (List.range k).filter s.testBit
theorem memK_succ (s k : Nat) : memK s (k + 1) = if s.testBit k then memK s k ++ [k] else memK s k := by
  unfold memK
  rw [List.range_succ, List.filter_append]
  by_cases h : s.testBit k = true
  · rw [if_pos h]; simp [h]
  · rw [if_neg h]; simp at h; simp [h]
theorem memK_len (s k : Nat) : (memK s k).length ≤ k := by
  have := List.length_filter_le s.testBit (List.range k)
  simpa [memK] using this
theorem memK_64 (s : Nat) : memK s 64 = mem64 s := rfl
theorem bit_of (s i : Nat) (hs : s < 2 ^ 64) : (bits BinOp.and IntKind.u64 ((s : Int) / 2 ^ i) 1 != 0) = s.testBit i := by
  have h1 : s / 2 ^ i < 18446744073709551616 := Nat.lt_of_le_of_lt (Nat.div_le_self _ _) (by simpa using hs)
  have h := u64_and_nat (s / 2 ^ i) 1 h1 (by omega)
  have e : ((s / 2 ^ i : Nat) : Int) = (s : Int) / 2 ^ i := by simp [Int.natCast_ediv, Int.natCast_pow]
  rw [e] at h
  rw [show (1 : Int) = ((1 : Nat) : Int) from rfl, h, Nat.and_one_is_mod, Nat.testBit_eq_decide_div_mod_eq]
  have := Nat.mod_lt (s / 2 ^ i) (show 0 < 2 by omega)
  rw [Bool.eq_iff_iff]
  simp only [bne_iff_ne, ne_eq, decide_eq_true_eq]
  omega
set_option maxRecDepth 100000 in
set_option maxHeartbeats 4000000 in
theorem members_any (s : Nat) (hs : s < 2 ^ 64) (w : World) : Calls Tryz.prog 56 #[.int .u64 (s : Int)] w fun e w' => ∃ v, e = .returned v ∧ Below w.heap.size w w' ∧ O1 w' w.heap.size v (oI (mem64 s)) := by
  go_enter Tryz.func56, Tryz.ntmps56
  go_wp2
  go_loopg [2, 4] 64 (fun gk q2 q4 wr => ∃ i : Nat, i ≤ 64 ∧ gk = 64 - i ∧ q4 = .int .i64 i ∧ Below w.heap.size w wr ∧ O1 wr w.heap.size q2 (oI (memK s i)))
  case atStart => exact ⟨0, by omega, rfl, rfl, Below.refl _ _, VO.nil _ _ _⟩
  case round =>
    obtain ⟨i, hi, rfl, rfl, hb, ho⟩ := hrel
    obtain ⟨m, hm⟩ : ∃ m, m = (memK s i).length := ⟨_, rfl⟩
    have hml := memK_len s i
    rw [← hm] at hml
    obtain ⟨A, c, rfl⟩ := VO.formN (n := m) ho (by rw [iL_len, oI_len, hm])
    have HB := Lib.hid hb; have HO := Lib.hid ho; have HM := Lib.hid hm
    clear hb ho hm
    have hbit := bit_of s i hs
    by_cases hlt : i < 64
    · have hsz := HB.out.size
      cases hbi : s.testBit i with
      | false =>
        rw [hbi] at hbit
        have HBI := Lib.hid hbi
        clear hbi
        go_wp2
        go_roundg (64 - (i + 1))
        case rel =>
          refine ⟨i + 1, by omega, rfl, by go_num, HB.out, ?_⟩
          rw [memK_succ, if_neg (by rw [HBI.out]; simp)]
          exact HO.out
        case measure => omega
      | true =>
        rw [hbi] at hbit
        have HBI := Lib.hid hbi
        clear hbi
        go_wp2_with (at_builtin; refine wpList_append_vs eI rfl (.tmp 12) (.tmp 14) rfl w.heap.size _ _ rfl (VO.allocd HO.out _) _ [.int .i64 (i : Int)] rfl (VS.one (Row.new _ _ _)) (iL_one [(i : Int)]) (by rw [iL_len, oI_len, ← HM.out]; simp; omega) (by simp only [World.size_alloc]; omega) ?_; intro v7 w7 ho7 hg7 _; have HO7 := Lib.hid ho7; have HB7 := Lib.hid (own_below_v (w := w) (by have := HB.out; go_grown) (VO.allocd HO.out _) hg7 (by simp only [World.size_alloc]; omega)); clear ho7 hg7)
        go_roundg (64 - (i + 1))
        case rel =>
          refine ⟨i + 1, by omega, rfl, by go_num, HB7.out, ?_⟩
          rw [memK_succ, if_pos HBI.out, oI_snoc]
          show VO 3 _ _ _ (iL _)
          rw [iL_snoc]
          exact HO7.out
        case measure => omega
    · have hie : i = 64 := by omega
      have ho := HO.out
      rw [hie, memK_64] at ho
      have HO2 := Lib.hid ho
      clear ho hbit
      go_wp2
      go_returns
      exact ⟨_, rfl, HB.out, HO2.out⟩
end Go.Proofs.YthkfjnmnoanhlaaGreatDoor

namespace Go.Proofs.YthkfjnmnoanhlaaGreatDoor
open Go.RowKit

theorem drewN_e (w : World) (n : Nat) : Below w.heap.size w (w.drewN n) := ⟨rfl, rfl, rfl, Nat.le_refl _, fun _ _ => rfl⟩
theorem Nx.two {w : World} {v : Value} {n L : Nat} {f : Nat → Nat → Nat → Nat} {b3 o3 c3 : Nat} (h : Nx w v n L f b3 o3 c3) {l r x y : Nat} (hl : l < n) (hr : r < n) (hx : x < L) (hy : y < L) :
    ∃ b2 o2 c2 b1 o1 c1, b3 < w.heap.size ∧ w.cell? ⟨b3, o3 + l, none⟩ = some (.slice (some ⟨b2, o2, none⟩) n c2) ∧ n ≤ c2 ∧ b2 < w.heap.size ∧ w.cell? ⟨b2, o2 + r, none⟩ = some (.slice (some ⟨b1, o1, none⟩) L c1) ∧ L ≤ c1 ∧
    b1 < w.heap.size ∧ w.cell? ⟨b1, o1 + x, none⟩ = some (.int .i64 (f l r x : Int)) ∧ w.cell? ⟨b1, o1 + y, none⟩ = some (.int .i64 (f l r y : Int)) := by
  obtain ⟨b2, o2, c2, b1, o1, c1, h1, h2, h3, h4, h5, h6, h7, h8⟩ := h.at3 l r x hl hr hx
  obtain ⟨b2', o2', c2', b1', o1', c1', g1, g2, g3, g4, g5, g6, g7, g8⟩ := h.at3 l r y hl hr hy
  rw [h2] at g2
  simp only [Option.some.injEq, Value.slice.injEq, Addr.mk.injEq, and_true, true_and] at g2
  obtain ⟨⟨rfl, rfl⟩, rfl⟩ := g2
  rw [h5] at g5
  simp only [Option.some.injEq, Value.slice.injEq, Addr.mk.injEq, and_true, true_and] at g5
  obtain ⟨⟨rfl, rfl⟩, rfl⟩ := g5
  exact ⟨b2, o2, c2, b1, o1, c1, h1, h2, h3, h4, h5, h6, h7, h8, g8⟩
theorem lo_bits (x v : Nat) (hx : x < 8) (hv : v < 3) : bits .andNot .i64 (x : Int) ((2 ^ v : Nat) : Int) = ((loV v x : Nat) : Int) := by
  have h : ∀ (x : Fin 8) (v : Fin 3), bits .andNot .i64 ((x : Nat) : Int) ((2 ^ (v : Nat) : Nat) : Int) = ((loV v x : Nat) : Int) := by decide +kernel
  exact h ⟨x, hx⟩ ⟨v, hv⟩
theorem hi_bits (x v : Nat) (hx : x < 8) (hv : v < 3) : bits .or .i64 (x : Int) ((2 ^ v : Nat) : Int) = ((hiV v x : Nat) : Int) := by
  have h : ∀ (x : Fin 8) (v : Fin 3), bits .or .i64 ((x : Nat) : Int) ((2 ^ (v : Nat) : Nat) : Int) = ((hiV v x : Nat) : Int) := by decide +kernel
  exact h ⟨x, hx⟩ ⟨v, hv⟩
theorem shl_u64 (s : Nat) (hs : s < 64) : IntKind.u64.wrap (2 ^ s) = ((2 ^ s : Nat) : Int) := by
  have h : 2 ^ s < 18446744073709551616 := Nat.lt_of_lt_of_le (Nat.pow_lt_pow_right (by omega) hs) (by omega)
  have e : (2 : Int) ^ s = ((2 ^ s : Nat) : Int) := by simp [Int.natCast_pow]
  rw [e, IntKind.wrap_u64]
  generalize 2 ^ s = u at h ⊢
  omega
theorem or_u64 (a b : Nat) (ha : a < 2 ^ 64) (hb : b < 2 ^ 64) : bits .or .u64 (a : Int) (b : Int) = ((a ||| b : Nat) : Int) := u64_or_nat a b (by simpa using ha) (by simpa using hb)
def setG (d : Dta) (v x p : Nat) (q ta : Nat) : Nat := ta ||| (2 ^ d.nx p q (loV v x) ||| 2 ^ d.nx p q (hiV v x))
theorem orAll_snoc {α : Type} (l : List α) (a : α) (F : α → Nat → Nat) (ta : Nat) : orAll (l ++ [a]) F ta = F a (orAll l F ta) := by unfold orAll; rw [List.foldl_append]; rfl
theorem orAll_lt {α : Type} (F : α → Nat → Nat) (N : Nat) (l : List α) (h : ∀ a ∈ l, ∀ ta, ta < N → F a ta < N) : ∀ ta, ta < N → orAll l F ta < N := by
  induction l with
  | nil => intro ta ht; exact ht
  | cons a l ih => intro ta ht; exact ih (fun b hb => h b (by simp [hb])) _ (h a (by simp) ta ht)
theorem setG_lt {d : Dta} {v x p q : Nat} (h1 : d.nx p q (loV v x) < 64) (h2 : d.nx p q (hiV v x) < 64) {ta : Nat} (ht : ta < 2 ^ 64) : setG d v x p q ta < 2 ^ 64 :=
  Nat.or_lt_two_pow ht (Nat.or_lt_two_pow (Nat.pow_lt_pow_right (by omega) h1) (Nat.pow_lt_pow_right (by omega) h2))
theorem take_snoc {l : List Nat} {i a : Nat} (h : l[i]? = some a) : l.take (i + 1) = l.take i ++ [a] := by rw [List.take_add_one, h]; rfl
set_option maxRecDepth 100000 in
set_option maxHeartbeats 8000000 in
theorem exists1 (d : Dta) (V v : Nat) (hd : d.Fit V) (hv : v < V) (w0 : World) (gD gv : Nat) (vn vf : Value) (hD : AutV w0 gD V d vn vf) (hV : Row w0 gv 3 #[.int .i64 (v : Int)]) :
    NextS (fun s => s < 2 ^ d.n) (setF d v) d.L (.pointer (some ⟨gD, 0, none⟩)) (.pointer (some ⟨gv, 0, none⟩)) w0 := by
  intro l r x W hl hr hx hbw
  have hD2 := hD.below hbw (Nat.le_refl _)
  have hV2 := hV.below hbw hV.lt
  have hn64 := hd.n64
  have hv3 : v < 3 := Nat.lt_of_lt_of_le hv hd.v3
  have hx8 : x < 8 := Nat.lt_of_lt_of_le hx hd.L8.2
  have h64 : 2 ^ d.n ≤ 2 ^ 64 := Nat.pow_le_pow_right (by omega) hn64
  have hml := fun W => members_any l (Nat.lt_of_lt_of_le hl h64) W
  have hmr := fun W => members_any r (Nat.lt_of_lt_of_le hr h64) W
  have hlo : loV v x < d.L := by rw [hd.L] at hx ⊢; exact loV_lt hv hx
  have hhi : hiV v x < d.L := by rw [hd.L] at hx ⊢; exact hiV_lt hv hx
  obtain ⟨b3, o3, c3, hN⟩ := hD2.hn.nx hd.pos hd.L8.1
  obtain rfl := hN.form
  have hNN := fun p q (hp : p < d.n) (hq : q < d.n) => hN.two hp hq hlo hhi
  have elo := lo_bits x v hx8 hv3
  have ehi := hi_bits x v hx8 hv3
  have hsh := shl_i64 v (by omega)
  have hnl : ∀ p q, p < d.n → q < d.n → d.nx p q (loV v x) < 64 ∧ d.nx p q (hiV v x) < 64 := fun p q hp hq => ⟨Nat.lt_of_lt_of_le (hd.ok.hn _ _ _ hp hq hlo) hn64, Nat.lt_of_lt_of_le (hd.ok.hn _ _ _ hp hq hhi) hn64⟩
  have hmem : ∀ s, s < 2 ^ d.n → ∀ p ∈ mem64 s, p < d.n := fun s hs p hp => lt_set hs ((mem64_iff _ _).1 hp).2
  have hres : setF d v l r x = orAll (mem64 l) (fun p ta => orAll (mem64 r) (setG d v x p) ta) 0 := rfl
  obtain ⟨lo, hlo'⟩ : ∃ n, n = loV v x := ⟨_, rfl⟩
  obtain ⟨hi, hhi'⟩ : ∃ n, n = hiV v x := ⟨_, rfl⟩
  rw [← hlo'] at elo hlo
  rw [← hhi'] at ehi hhi
  simp only [← hlo', ← hhi'] at hNN
  have HLO := Lib.hid hlo'; have HHI := Lib.hid hhi'
  have HML := Lib.hid hml; have HMR := Lib.hid hmr; have HNN := Lib.hid hNN; have HNL := Lib.hid hnl; have HMEM := Lib.hid hmem; have HRES := Lib.hid hres
  have RD := Lib.hid hD2.row; have RV := Lib.hid hV2
  have HDL := Lib.hid hl; have HDR := Lib.hid hr
  obtain ⟨n, hnn⟩ : ∃ n, n = d.n := ⟨_, rfl⟩
  obtain ⟨L, hLL⟩ : ∃ n, n = d.L := ⟨_, rfl⟩
  rw [← hnn] at RD HNN HNL HMEM HDL HDR hn64
  rw [← hLL] at HNN hlo hhi
  have elo' : bits .andNot .i64 (x : Int) ((2 : Int) ^ v) = (lo : Int) := by rw [← elo]; simp [Int.natCast_pow]
  have ehi' : bits .or .i64 (x : Int) ((2 : Int) ^ v) = (hi : Int) := by rw [← ehi]; simp [Int.natCast_pow]
  clear hD hV hD2 hV2 hml hmr hN hNN hnl hmem hres hnn hLL hlo' hhi' hbw hd hl hr hx h64
  unfold sV
  go_enter Tryz.func55, Tryz.ntmps55
  obtain ⟨kl, hkl⟩ : ∃ k, k = (mem64 l).length := ⟨_, rfl⟩
  have HKL := Lib.hid hkl; clear hkl
  go_wp2_with (go_at_call 56; refine (HML.out _).mono ?_; rintro e w2 ⟨v2, rfl, hb2, ho2⟩; obtain ⟨A2, c2, rfl⟩ := VO.formN (n := kl) ho2 (by rw [iL_len, oI_len, HKL.out]); have HB2 := Lib.hid hb2; have HO2 := Lib.hid ho2.n1; clear hb2 ho2)
  go_loopg [8, 17] kl (fun gk q8 q17 wr => ∃ i : Nat, i ≤ kl ∧ gk = kl - i ∧ q17 = .int .i64 i ∧ q8 = .int .u64 ((orAll ((mem64 l).take i) (fun p ta => orAll (mem64 r) (setG d v x p) ta) 0 : Nat) : Int) ∧ Below W.heap.size W wr ∧ N1 wr (.slice A2 kl c2) (oI (mem64 l)))
  case atStart => exact ⟨0, Nat.zero_le _, rfl, rfl, rfl, HB2.out, HO2.out⟩
  case round =>
    clear HB2 HO2
    obtain ⟨i, hi', rfl, rfl, rfl, hb, ho⟩ := hrel
    have HB := Lib.hid hb; have HO := Lib.hid ho
    obtain ⟨ta, hto⟩ : ∃ ta, ta = orAll ((mem64 l).take i) (fun p ta => orAll (mem64 r) (setG d v x p) ta) 0 := ⟨_, rfl⟩
    rw [← hto]
    have HTO := Lib.hid hto
    clear hb hto
    by_cases hlt : i < kl
    · obtain ⟨p, hp⟩ : ∃ p, (mem64 l)[i]? = some p := ⟨(mem64 l)[i]'(by rw [← HKL.out]; exact hlt), List.getElem?_eq_getElem _⟩
      obtain ⟨A3, c3', he3, h1, h2, h3⟩ := ho.open
      rw [oI_len, ← HKL.out] at he3 h1
      simp only [Value.slice.injEq, true_and] at he3
      obtain ⟨rfl, rfl⟩ := he3
      obtain ⟨b, o, rfl, hbl, hc⟩ := h3 i _ (oI_at hp)
      have hpn := HMEM.out l HDL.out p (List.mem_of_getElem? hp)
      have HP := Lib.hid hp
      clear ho h3 hp
      obtain ⟨kr, hkr⟩ : ∃ k, k = (mem64 r).length := ⟨_, rfl⟩
      have HKR := Lib.hid hkr; clear hkr
      go_wp2_with (go_at_call 56; refine (HMR.out _).mono ?_; rintro e w3 ⟨v3, rfl, hb3, ho3⟩; obtain ⟨A3, c3x, rfl⟩ := VO.formN (n := kr) ho3 (by rw [iL_len, oI_len, HKR.out]); have HB3 := Lib.hid (HB.out.trans (hb3.mono HB.out.size)); have HO1 := Lib.hid (N1.below HO.out hb3 (Nat.le_refl _)); have HO3 := Lib.hid ho3.n1; clear hb3 ho3)
      clear hc
      go_loopg [8, 24] kr (fun gk q8 q24 wr => ∃ j : Nat, j ≤ kr ∧ gk = kr - j ∧ q24 = .int .i64 j ∧ q8 = .int .u64 ((orAll ((mem64 r).take j) (setG d v x p) ta : Nat) : Int) ∧ Below W.heap.size W wr ∧ N1 wr (.slice (some ⟨b, o, none⟩) kl c2) (oI (mem64 l)) ∧ N1 wr (.slice A3 kr c3x) (oI (mem64 r)))
      case atStart => exact ⟨0, Nat.zero_le _, rfl, rfl, rfl, HB3.out, HO1.out, HO3.out⟩
      case round =>
        clear HB3 HO1 HO3 HB HO
        obtain ⟨j, hj', rfl, rfl, rfl, hb, ho1, ho⟩ := hrel
        obtain ⟨wi, hwi⟩ : ∃ y, y = wr := ⟨_, rfl⟩
        subst hwi
        have HB := Lib.hid hb; have HO1 := Lib.hid ho1; have HO := Lib.hid ho
        obtain ⟨t2, ht2⟩ : ∃ to2, to2 = orAll ((mem64 r).take j) (setG d v x p) ta := ⟨_, rfl⟩
        rw [← ht2]
        have HT2 := Lib.hid ht2
        clear hb ht2 ho1
        by_cases hlt2 : j < kr
        · obtain ⟨q, hq⟩ : ∃ q, (mem64 r)[j]? = some q := ⟨(mem64 r)[j]'(by rw [← HKR.out]; exact hlt2), List.getElem?_eq_getElem _⟩
          obtain ⟨A5, c5, he5, g1, g2, g3⟩ := ho.open
          rw [oI_len, ← HKR.out] at he5 g1
          simp only [Value.slice.injEq, true_and] at he5
          obtain ⟨rfl, rfl⟩ := he5
          obtain ⟨b', o', rfl, hbl', hc'⟩ := g3 j _ (oI_at hq)
          have hqn := HMEM.out r HDR.out q (List.mem_of_getElem? hq)
          have HQ := Lib.hid hq
          clear ho g3 hq
          obtain ⟨x1, x2, x3, y1, y2, y3, k1, k2, k3, k4, k5, k6, k7, k8, k9⟩ := HNN.out p q hpn hqn
          obtain ⟨n1, n2⟩ := HNL.out p q hpn hqn
          have z0 := (RD.out.below HB.out RD.out.lt).cell
          have z1 := (RV.out.below HB.out RV.out.lt).cell
          rw [← HB.out.cell (p := ⟨b3, _, none⟩) k1] at k2
          rw [← HB.out.cell (p := ⟨x1, _, none⟩) k4] at k5
          rw [← HB.out.cell (p := ⟨y1, _, none⟩) k7] at k8 k9
          rw [← HLO.out] at n1
          rw [← HHI.out] at n2
          obtain ⟨s1, hs1⟩ : ∃ s, s = d.nx p q lo := ⟨_, rfl⟩
          obtain ⟨s2, hs2⟩ : ∃ s, s = d.nx p q hi := ⟨_, rfl⟩
          rw [← hs1] at k8 n1
          rw [← hs2] at k9 n2
          have e1 := shl_u64 s1 n1
          have e2 := shl_u64 s2 n2
          have f1 : 2 ^ s1 < 2 ^ 64 := Nat.pow_lt_pow_right (by omega) n1
          have f2 : 2 ^ s2 < 2 ^ 64 := Nat.pow_lt_pow_right (by omega) n2
          obtain ⟨u1, hu1⟩ : ∃ u, u = 2 ^ s1 := ⟨_, rfl⟩
          obtain ⟨u2, hu2⟩ : ∃ u, u = 2 ^ s2 := ⟨_, rfl⟩
          rw [← hu1] at e1 f1
          rw [← hu2] at e2 f2
          have e3 := or_u64 u1 u2 f1 f2
          have ht64 : t2 < 2 ^ 64 := by
            rw [HT2.out]
            refine orAll_lt _ _ _ (fun q' hq' t ht => ?_) _ ?_
            · have hq2 := HMEM.out r HDR.out q' (List.mem_of_mem_take hq')
              exact setG_lt (HNL.out p q' hpn hq2).1 (HNL.out p q' hpn hq2).2 ht
            · rw [HTO.out]
              refine orAll_lt _ _ _ (fun p' hp' t ht => ?_) _ (by decide)
              have hp2 := HMEM.out l HDL.out p' (List.mem_of_mem_take hp')
              exact orAll_lt _ _ _ (fun q' hq' t ht => setG_lt (HNL.out p' q' hp2 (HMEM.out r HDR.out q' hq')).1 (HNL.out p' q' hp2 (HMEM.out r HDR.out q' hq')).2 ht) _ ht
          have e4 := or_u64 t2 (u1 ||| u2) ht64 (Nat.or_lt_two_pow f1 f2)
          have HE : Hid (t2 ||| (u1 ||| u2) = setG d v x p q t2) := by unfold Hid setG; rw [hu1, hu2, hs1, hs2, HLO.out, HHI.out]
          obtain ⟨t3, ht3⟩ : ∃ t, t = t2 ||| (u1 ||| u2) := ⟨_, rfl⟩
          rw [← ht3] at e4 HE
          obtain ⟨u3, hu3⟩ : ∃ t, t = u1 ||| u2 := ⟨_, rfl⟩
          rw [← hu3] at e3 e4
          clear ht3 hs1 hs2 f1 f2 ht64 hu1 hu2 hu3
          go_upto_region 8 with fail
          go_quiet (fail)
          go_wp2_with fail
          go_roundg (kr - (j + 1))
          case rel =>
            refine ⟨j + 1, by omega, rfl, by go_num, ?_, HB.out.trans ((drewN_e _ _).mono HB.out.size), N1.below HO1.out (drewN_e _ _) (Nat.le_refl _), N1.below HO.out (drewN_e _ _) (Nat.le_refl _)⟩
            rw [take_snoc HQ.out, orAll_snoc, ← HT2.out, ← HE.out]
          case measure => omega
        · have hje : j = kr := by omega
          have hfull : t2 = orAll (mem64 r) (setG d v x p) ta := by rw [HT2.out, hje, HKR.out, List.take_length]
          have HF := Lib.hid hfull
          clear ho hfull
          go_wp2
          go_roundg (kl - (i + 1))
          case rel =>
            refine ⟨i + 1, by omega, rfl, by go_num, ?_, HB.out, HO1.out⟩
            rw [take_snoc HP.out, orAll_snoc, ← HTO.out, HF.out]
          case measure => omega
    · have hie : i = kl := by omega
      have hfull : ta = setF d v l r x := by rw [HTO.out, hie, HKL.out, List.take_length, HRES.out]
      have HF := Lib.hid hfull
      clear ho hfull
      go_wp2
      go_returns
      exact ⟨by rw [HF.out]; rfl, HB.out⟩
end Go.Proofs.YthkfjnmnoanhlaaGreatDoor

/- Reference of chapter 15: count. -/
import Derived.Test.YtahimlnddelnbaaDoorRTd
set_option linter.unusedSimpArgs false
set_option linter.unusedVariables false
namespace Go.Proofs.YtahimlnddelnbaaDoor
open Go.RowKit

/-- The counts up to k. -/
def cntL (K k : Nat) : List Int := (List.range k).map fun i => ((capN (catK K i) : Nat) : Int)
theorem cntL_len (K k : Nat) : (cntL K k).length = k := by simp [cntL]
theorem cntL_succ (K k : Nat) : cntL K (k + 1) = cntL K k ++ [((capN (catK K k) : Nat) : Int)] := by simp [cntL, List.range_succ]
theorem cntL_get {K k i : Nat} (h : i < k) : (cntL K k)[i]? = some ((capN (catK K i) : Nat) : Int) := by
  unfold cntL
  rw [List.getElem?_map, List.getElem?_range h]; rfl
theorem capN_le (x : Nat) : capN x ≤ 4097 := by unfold capN; omega
theorem rowN_le (K k j : Nat) : rowN K k j ≤ 4097 := capN_le _
theorem OWI.at0 {w : World} {B n c k : Nat} {v : Value} {l : List Int} {x : Int} (h : OWI w B v l) (hx : l[k]? = some x) : ∃ g cap, v = .slice (some ⟨g, 0, none⟩) l.length cap ∧ g < w.heap.size ∧ ∀ i y, l[i]? = some y → w.cell? ⟨g, i, none⟩ = some (.int .i64 y) := by
  have hl := (List.getElem?_eq_some_iff.1 hx).1
  rcases h.2 with ⟨_, h0⟩ | ⟨g, cap, cur, hv, hB, hg, hnc, hcm, hcs, ht⟩
  · omega
  · refine ⟨g, cap, hv, lt_of_block hg, fun i y hy => ?_⟩
    obtain ⟨A, c', hv', _, _, h3⟩ := h.is
    obtain ⟨b', o', hA, _, hm⟩ := h3 (by omega)
    rw [hv] at hv'
    simp only [Value.slice.injEq] at hv'
    have := hv'.1.trans hA
    simp only [Option.some.injEq, Addr.mk.injEq, and_true] at this
    obtain ⟨rfl, rfl⟩ := this
    have := hm i y hy
    simpa using this
theorem min_cap (s a b K : Nat) : min ((s : Int) + (a : Int) * (b : Int) * (K : Int)) 4097 = ((capN (s + a * b * K) : Nat) : Int) := by
  unfold capN
  rw [show (s : Int) + (a : Int) * (b : Int) * (K : Int) = ((s + a * b * K : Nat) : Int) by simp]
  omega
set_option maxRecDepth 100000 in
set_option maxHeartbeats 8000000 in
theorem rcount_any (V N : Nat) (hV : V < 4) (hN : N ≤ 31) (w : World) :
    Calls Tryd.prog 104 #[.int .i64 (V : Int), .int .i64 (N : Int)] w fun e w' => e = .returned (.int .i64 ((capN (catK (2 ^ V) N) : Nat) : Int)) ∧ Below w.heap.size w w' := by
  obtain ⟨K, hK⟩ : ∃ K, K = 2 ^ V := ⟨_, rfl⟩
  have hK0 : 0 < K := by rw [hK]; exact Nat.pow_pos (by omega)
  rw [← hK]
  have hcase : (V = 0 ∧ K = 1) ∨ (V = 1 ∧ K = 2) ∨ (V = 2 ∧ K = 4) ∨ (V = 3 ∧ K = 8) := by
    have : V = 0 ∨ V = 1 ∨ V = 2 ∨ V = 3 := by omega
    rcases this with rfl | rfl | rfl | rfl <;> simp [hK]
  have H1 := Lib.hid (show cntL K 1 = [1] by unfold cntL; simp [catK_zero, capN])
  have HSU := Lib.hid (fun k => cntL_succ K k)
  have HGE := Lib.hid (fun k i (h : i < k) => cntL_get (K := K) h)
  have HRS := Lib.hid (fun k j => rowN_succ hK0 k j)
  have HRF := Lib.hid (fun k => rowN_full K k)
  have HR0 := Lib.hid (fun k => rowN_zero K k)
  have HCL := Lib.hid (fun k => cntL_len K k)
  have HRL := Lib.hid (fun k j => rowN_le K k j)
  clear hK
  generalize cntL K = C at *
  generalize rowN K = R at *
  obtain ⟨T, hT⟩ : ∃ T : Nat → Nat, T = fun i => capN (catK K i) := ⟨_, rfl⟩
  have HTL := Lib.hid (show ∀ i, T i ≤ 4097 by rw [hT]; exact fun i => capN_le _)
  have hT' : ∀ i, capN (catK K i) = T i := fun i => by rw [hT]
  simp only [hT'] at HSU HGE HRS HRF ⊢
  clear hT hT'
  rcases hcase with ⟨rfl, hK⟩ | ⟨rfl, hK⟩ | ⟨rfl, hK⟩ | ⟨rfl, hK⟩
  all_goals
    have HK := Lib.hid hK
    clear hK
    go_enter Tryd.func104, Tryd.ntmps104
    go_wp2
    go_loopg [5, 6] N (fun gk q s wr => ∃ k : Nat, k ≤ N ∧ gk = N - k ∧ s = .int .i64 ((k : Int) + 1) ∧ Below w.heap.size w wr ∧ OWI wr w.heap.size q (C (k + 1)))
    case atStart => exact ⟨0, by omega, rfl, rfl, by go_grown, by rw [Nat.zero_add, H1.out]; exact OWI.one (Row.new _ _ _) (Nat.le_refl _)⟩
    case round =>
      obtain ⟨k, hk, rfl, rfl, hbe, how⟩ := hrel
      have HB := Lib.hid hbe; have HO := Lib.hid how
      obtain ⟨g, cap, rfl, hgl, hcell⟩ := OWI.at0 (n := 0) (c := 0) how (HGE.out (k + 1) 0 (by omega))
      have HC := Lib.hid hcell
      have hlen := HCL.out (k + 1)
      rw [hlen] at HO ⊢
      clear hbe how hcell hlen
      by_cases hlt : k < N
      · have hki : (k : Int) + 1 ≤ N := by omega
        go_wp2
        obtain ⟨wo, hwo⟩ : ∃ x, x = wr := ⟨_, rfl⟩
        subst hwo
        go_loopg [7, 8] (k + 1) (fun gk q s wx => ∃ i : Nat, i ≤ k + 1 ∧ gk = k + 1 - i ∧ s = .int .i64 (i : Int) ∧ q = .int .i64 ((R k i : Nat) : Int) ∧ Below wo.heap.size wo wx)
        case atStart => exact ⟨0, by omega, rfl, rfl, by rw [HR0.out]; rfl, Below.refl _ _⟩
        case round =>
          obtain ⟨i, hi, rfl, rfl, rfl, hbx⟩ := hrel
          have HBX := Lib.hid hbx
          by_cases hil : i < k + 1
          · have c0 := (hbx.cell (p := ⟨g, i, none⟩) hgl).trans (HC.out i _ (HGE.out (k + 1) i hil))
            obtain ⟨d, hd⟩ : ∃ d, d = k - i := ⟨_, rfl⟩
            have c1 := (hbx.cell (p := ⟨g, d, none⟩) hgl).trans (HC.out d _ (HGE.out (k + 1) d (by omega)))
            have hrs := HRS.out k i
            rw [← hd] at hrs
            have la := HTL.out i
            have lb := HTL.out d
            have ls := HRL.out k i
            obtain ⟨a, ha⟩ : ∃ a, a = T i := ⟨_, rfl⟩
            obtain ⟨b, hb⟩ : ∃ b, b = T d := ⟨_, rfl⟩
            obtain ⟨s, hs⟩ : ∃ s, s = R k i := ⟨_, rfl⟩
            rw [← ha] at c0 hrs la
            rw [← hb] at c1 hrs lb
            rw [← hs] at hrs ls ⊢
            have hp : a * b ≤ 16785409 := Nat.le_trans (Nat.mul_le_mul la lb) (by omega)
            have hpi : (a : Int) * (b : Int) ≤ 16785409 := by have := Int.ofNat_le.2 hp; rw [Int.natCast_mul] at this; omega
            have hp0 : (0 : Int) ≤ (a : Int) * (b : Int) := by have := Int.ofNat_le.2 (Nat.zero_le (a * b)); rw [Int.natCast_mul] at this; omega
            have hsi : (s : Int) ≤ 4097 := by omega
            have HN := Lib.hid (show ((R k (i + 1) : Nat) : Int) = min ((s : Int) + (a : Int) * (b : Int) * (K : Int)) 4097 by rw [hrs, min_cap])
            have f1 : IntKind.i64.wrap (k : Int) = k := IntWalk.i64_in _ (by omega)
            have f2 : IntKind.i64.wrap ((k : Int) - (i : Int)) = (d : Int) := by rw [show (k : Int) - i = d by omega]; exact IntWalk.i64_in _ (by omega)
            have f3 : (0 : Int) ≤ (d : Int) := by omega
            have f4 : (d : Int) < (k : Int) + 1 := by omega
            have f5 : (i : Int) < (k : Int) + 1 := by omega
            have f6 : (0 : Int) ≤ (i : Int) := by omega
            have n1 : IntKind.i64.wrap ((a : Int) * (b : Int)) = (a : Int) * (b : Int) := IntWalk.i64_in _ (by omega)
            have o1 : IntKind.i64.wrap ((s : Int) + (a : Int) * (b : Int)) = (s : Int) + (a : Int) * (b : Int) := IntWalk.i64_in _ (by omega)
            have n2 : IntKind.i64.wrap ((a : Int) * (b : Int) * 2) = (a : Int) * (b : Int) * 2 := IntWalk.i64_in _ (by omega)
            have o2 : IntKind.i64.wrap ((s : Int) + (a : Int) * (b : Int) * 2) = (s : Int) + (a : Int) * (b : Int) * 2 := IntWalk.i64_in _ (by omega)
            have n4 : IntKind.i64.wrap ((a : Int) * (b : Int) * 4) = (a : Int) * (b : Int) * 4 := IntWalk.i64_in _ (by omega)
            have o4 : IntKind.i64.wrap ((s : Int) + (a : Int) * (b : Int) * 4) = (s : Int) + (a : Int) * (b : Int) * 4 := IntWalk.i64_in _ (by omega)
            have n8 : IntKind.i64.wrap ((a : Int) * (b : Int) * 8) = (a : Int) * (b : Int) * 8 := IntWalk.i64_in _ (by omega)
            have o8 : IntKind.i64.wrap ((s : Int) + (a : Int) * (b : Int) * 8) = (s : Int) + (a : Int) * (b : Int) * 8 := IntWalk.i64_in _ (by omega)
            clear hrs ha hb hs hp hbx la lb hd
            go_wp2
            first | go_region | fail
            go_wp2
            go_roundg (k + 1 - (i + 1))
            case rel => exact ⟨i + 1, by omega, rfl, by go_num, by first | (rw [HN.out, HK.out]; done) | (rw [HN.out, HK.out]; simp; done) | (rw [HN.out, HK.out]; trace_state; rfl), ⟨HBX.out.os, HBX.out.tape, HBX.out.output, HBX.out.size, HBX.out.block⟩⟩
            case measure => omega
          · have hik : i = k + 1 := by omega
            have hri := HRF.out k
            rw [← hik] at hri
            have HRI := Lib.hid (show R k i = T (k + 1) by rw [hri, hik])
            have hii : (k : Int) + 1 ≤ (i : Int) := by omega
            have HOX := Lib.hid (HO.out.below hbx (Nat.le_refl _))
            clear hri hik hbx
            go_wp2_with (at_builtin; go_must (refine wpList_append_is rfl (.tmp 38) (.tmp 40) rfl w.heap.size _ (C (k + 1)) rfl (HOX.out.below (B' := wr.heap.size) (by go_grown) (Nat.le_refl _)) _ [((R k i : Nat) : Int)] rfl (OWI.one (B := 0) (Row.new _ _ _) (Nat.zero_le _)).is (by rw [HCL.out]; simp only [List.length_cons, List.length_nil]; omega) (by have h1 := HB.out.size; have h2 := HBX.out.size; simp only [World.size_alloc]; omega) ?_; intro v3 w3 ho3 hg3 _))
            have HB3 := Lib.hid (own_below_i (w := w) (by have h1 := HB.out.trans (HBX.out.mono HB.out.size); have h2 := h1.size; go_grown) (HOX.out.below (B' := wr.heap.size) (by go_grown) (Nat.le_refl _)) hg3 (by have h1 := HB.out.size; have h2 := HBX.out.size; simp only [World.size_alloc]; omega))
            rw [HRI.out, ← HSU.out] at ho3
            have HO3 := Lib.hid ho3
            clear ho3 hg3
            go_wp2
            go_roundg (N - (k + 1))
            case rel => exact ⟨k + 1, by omega, rfl, by go_num, HB3.out, HO3.out⟩
            case measure => omega
      · have hkn : k = N := by omega
        have c0 := HC.out N _ (HGE.out (k + 1) N (by omega))
        have hki : (N : Int) < (k : Int) + 1 := by omega
        have hni : (N : Int) < (k : Int) + 1 := by omega
        have hnn : N < k + 1 := by omega
        clear hkn
        go_wp2
        go_returns
        exact ⟨rfl, HB.out⟩
end Go.Proofs.YtahimlnddelnbaaDoor

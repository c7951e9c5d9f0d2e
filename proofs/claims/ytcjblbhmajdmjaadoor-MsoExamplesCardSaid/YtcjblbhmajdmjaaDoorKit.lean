/- Contracts: EqualMSO, EqualSet, OverMSO, OverSet of the verifier's kit; few of the statements. -/
import Derived.Test.YtcjblbhmajdmjaaDoorSubB
set_option linter.unusedSimpArgs false
set_option linter.unusedVariables false
namespace Go.Proofs.YtcjblbhmajdmjaaDoor
open Go.RowKit

/-- A slice of words that reads as a list. -/
def US (w : World) (v : Value) (l : List Nat) : Prop :=
  ∃ A c, v = .slice A l.length c ∧ l.length ≤ c ∧ c ≤ 9223372036854775807 ∧
    (0 < l.length → ∃ b o, A = some ⟨b, o, none⟩ ∧ b < w.heap.size ∧ ∀ (i x : Nat), l[i]? = some x → w.cell? ⟨b, o + i, none⟩ = some (.int .u64 x))
theorem US.below {w w' : World} {v : Value} {f : List Nat} {B : Nat} (h : US w v f) (hb : Below B w w') (hB : w.heap.size ≤ B) : US w' v f := by
  obtain ⟨A, c, hv, h1, h2, h3⟩ := h
  refine ⟨A, c, hv, h1, h2, fun hp => ?_⟩
  obtain ⟨b, o, hA, hlt, hm⟩ := h3 hp
  exact ⟨b, o, hA, Nat.lt_of_lt_of_le hlt hb.size, fun i m him => (hb.cell (p := ⟨b, o + i, none⟩) (by simpa using Nat.lt_of_lt_of_le hlt hB)).trans (hm i m him)⟩
theorem WS.us {w : World} {B : Nat} {v : Value} {l : List Nat} (h : WS w B v l) : US w v l := by
  have hx := h
  rcases h.2 with ⟨hv, hn⟩ | ⟨g, cap, cur, hv, hB, hg, hnc, hcm, hcs, ht⟩
  · exact ⟨none, 0, by rw [hv, hn], by omega, by omega, by omega⟩
  · refine ⟨some ⟨g, 0, none⟩, cap, hv, hnc, by simpa [maxLen] using hcm, fun _ => ⟨g, 0, rfl, lt_of_block hg, fun i x hi => ?_⟩⟩
    have hi' : i < l.length := (List.getElem?_eq_some_iff.1 hi).1
    unfold WS at hx
    rw [hv] at hx
    rw [Nat.zero_add, hx.cellAt _ (by omega)]
    simp [hi]
theorem WS.below {w w' : World} {B B' : Nat} {v : Value} {l : List Nat} (h : WS w B v l) (hb : Below B' w w') (hB : w.heap.size ≤ B') : WS w' B v l := by
  obtain ⟨h1, h⟩ := h
  refine ⟨h1, ?_⟩
  rcases h with h | ⟨g, cap, cur, hv, hBg, hg, r⟩
  · exact .inl h
  · exact .inr ⟨g, cap, cur, hv, hBg, (hb.block g (Nat.lt_of_lt_of_le (lt_of_block hg) hB)).trans hg, r⟩
theorem WS.mono {w : World} {B B' : Nat} {v : Value} {l : List Nat} (h : WS w B v l) (hB : B' ≤ B) : WS w B' v l := by
  obtain ⟨h1, h⟩ := h
  refine ⟨h1, ?_⟩
  rcases h with h | ⟨g, cap, cur, hv, hBg, hg, r⟩
  · exact .inl h
  · exact .inr ⟨g, cap, cur, hv, by omega, hg, r⟩

theorem MS.addr {w : World} {A : Option Addr} {n c : Nat} {f : List Mk} (h : MS w (.slice A n c) f) (hp : 0 < f.length) : ∃ b o, A = some ⟨b, o, none⟩ := by
  obtain ⟨_, A', c', hv, _, _, hc⟩ := h
  obtain ⟨b, o, hA, _⟩ := hc hp
  simp only [Value.slice.injEq] at hv
  exact ⟨b, o, hv.1.trans hA⟩

theorem mark_differs {x y : Mk} (h : x ≠ y) : x.op ≠ y.op ∨ (x.op = y.op ∧ x.x ≠ y.x) ∨ (x.op = y.op ∧ x.x = y.x ∧ x.y ≠ y.y) ∨ (x.op = y.op ∧ x.x = y.x ∧ x.y = y.y ∧ x.a ≠ y.a) ∨ (x.op = y.op ∧ x.x = y.x ∧ x.y = y.y ∧ x.a = y.a ∧ x.b ≠ y.b) := by
  obtain ⟨a1, a2, a3, a4, a5⟩ := x
  obtain ⟨b1, b2, b3, b4, b5⟩ := y
  simp only [ne_eq, Mk.mk.injEq, not_and] at h ⊢
  omega

set_option maxRecDepth 100000 in
set_option maxHeartbeats 1000000 in
theorem equalMSO (f g : List Mk) (v u : Value) (w : World) (hv : MS w v f) (hu : MS w u g) (hl : f.length ≤ 1000000) :
    Calls Tryd.prog 23 #[v, u] w fun e w' => e = .returned (.bool (decide (f = g))) ∧ Below w.heap.size w w' := by
  have HV := Lib.hid hv; have HU := Lib.hid hu
  obtain ⟨_, A, c, rfl, hc1, hc2, _⟩ := hv
  obtain ⟨_, A2, c2, rfl, hd1, hd2, _⟩ := hu
  obtain ⟨n, hn⟩ : ∃ n, n = f.length := ⟨_, rfl⟩
  obtain ⟨k2, hk2⟩ : ∃ k2, k2 = g.length := ⟨_, rfl⟩
  rw [← hn] at hc1 HV hl ⊢
  rw [← hk2] at hd1 HU ⊢
  have HN := Lib.hid hn; have HK := Lib.hid hk2
  by_cases hne : n = k2
  · subst hne
    clear hn hk2
    have hnn : ((n : Int) != n) = false := by simp
    obtain ⟨t, ht⟩ : ∃ t, t = decide (f = g) := ⟨_, rfl⟩
    rw [← ht]
    have HT := Lib.hid ht; clear ht
    go_enter Tryd.func23, Tryd.ntmps23
    go_wp2
    go_loopg [5] n (fun gk q wr => ∃ k : Nat, k ≤ n ∧ gk = n - k ∧ q = .int .i64 k ∧ Below w.heap.size w wr ∧ f.take k = g.take k)
    case atStart => exact ⟨0, Nat.zero_le _, rfl, rfl, Below.refl _ _, by simp⟩
    case round =>
      obtain ⟨k, hk, rfl, rfl, hb, heq⟩ := hrel
      have HB := Lib.hid hb; clear hb
      have HE := Lib.hid heq; clear heq
      by_cases hlt : k < n
      · obtain ⟨x, hx⟩ : ∃ x, f[k]? = some x := ⟨f[k]'(by rw [← HN.out]; exact hlt), List.getElem?_eq_getElem _⟩
        obtain ⟨y, hy⟩ : ∃ y, g[k]? = some y := ⟨g[k]'(by rw [← HK.out]; exact hlt), List.getElem?_eq_getElem _⟩
        have HVr := Lib.hid (HV.out.below HB.out (Nat.le_refl _))
        have HUr := Lib.hid (HU.out.below HB.out (Nat.le_refl _))
        obtain ⟨b, o, rfl⟩ := HV.out.addr (by rw [← HN.out]; omega)
        obtain ⟨b2, o2, rfl⟩ := HU.out.addr (by rw [← HK.out]; omega)
        obtain ⟨c0, c1, c2, c3, c4⟩ := HVr.out.at5 hx
        obtain ⟨d0, d1, d2, d3, d4⟩ := HUr.out.at5 hy
        have hiff := take_next_eq hx hy HE.out
        have HI := Lib.hid hiff; clear hiff
        have HX := Lib.hid hx; have HY := Lib.hid hy; clear hx hy
        by_cases hxy : x = y
        · subst hxy
          go_wp2
          go_region
          go_wp2
          go_roundg (n - (k + 1))
          case rel => exact ⟨k + 1, by omega, rfl, by go_num, HB.out.drew, HI.out.2 (by first | rfl | trivial)⟩
          case measure => omega
        · have hd := mark_differs hxy
          have hfg : f ≠ g := fun h => hxy (HI.out.1 (by rw [h]))
          have hff : t = false := by rw [HT.out]; simp [hfg]
          have HFF := Lib.hid hff
          clear hxy hfg hff
          rcases hd with h1 | ⟨h1, h2⟩ | ⟨h1, h2, h3⟩ | ⟨h1, h2, h3, h4⟩ | ⟨h1, h2, h3, h4, h5⟩
          all_goals
            go_wp2
            go_region
            go_wp2
            go_returns
            exact ⟨by rw [HFF.out]; rfl, HB.out.drew⟩
      · go_wp2
        go_returns
        refine ⟨?_, HB.out⟩
        have hkn : k = n := by omega
        have h := HE.out
        rw [hkn] at h
        rw [List.take_of_length_le (by rw [← HN.out]; exact Nat.le_refl _), List.take_of_length_le (by rw [← HK.out]; exact Nat.le_refl _)] at h
        rw [HT.out]; simp [h]
  · have hnn : ((n : Int) != k2) = true := by rw [bne_iff_ne]; omega
    have e : decide (f = g) = false := by
      rw [decide_eq_false_iff_not]; intro h; subst h; omega
    rw [e]
    clear hn hk2 e hne
    go_enter Tryd.func23, Tryd.ntmps23
    go_wp2
    go_returns
    exact ⟨rfl, Below.refl _ _⟩

set_option maxRecDepth 100000 in
set_option maxHeartbeats 1000000 in
theorem equalSet (f g : List Nat) (v u : Value) (w : World) (hv : US w v f) (hu : US w u g) (hl : f.length ≤ 1000000) :
    Calls Tryd.prog 21 #[v, u] w fun e w' => e = .returned (.bool (decide (f = g))) ∧ Below w.heap.size w w' := by
  have HV := Lib.hid hv; have HU := Lib.hid hu
  obtain ⟨A, c, rfl, hc1, hc2, hcell⟩ := hv
  obtain ⟨A2, c2, rfl, hd1, hd2, hdell⟩ := hu
  obtain ⟨n, hn⟩ : ∃ n, n = f.length := ⟨_, rfl⟩
  obtain ⟨k2, hk2⟩ : ∃ k2, k2 = g.length := ⟨_, rfl⟩
  rw [← hn] at hc1 HV hl hcell ⊢
  rw [← hk2] at hd1 HU hdell ⊢
  have HN := Lib.hid hn; have HK := Lib.hid hk2
  have HC := Lib.hid hcell; have HDC := Lib.hid hdell; clear hcell hdell
  by_cases hne : n = k2
  · subst hne
    clear hn hk2
    have hnn : ((n : Int) != n) = false := by simp
    obtain ⟨t, ht⟩ : ∃ t, t = decide (f = g) := ⟨_, rfl⟩
    rw [← ht]
    have HT := Lib.hid ht; clear ht
    go_enter Tryd.func21, Tryd.ntmps21
    go_wp2
    go_loopg [5] n (fun gk q wr => ∃ k : Nat, k ≤ n ∧ gk = n - k ∧ q = .int .i64 k ∧ Below w.heap.size w wr ∧ f.take k = g.take k)
    case atStart => exact ⟨0, Nat.zero_le _, rfl, rfl, Below.refl _ _, by simp⟩
    case round =>
      obtain ⟨k, hk, rfl, rfl, hb, heq⟩ := hrel
      have HB := Lib.hid hb; clear hb
      have HE := Lib.hid heq; clear heq
      by_cases hlt : k < n
      · obtain ⟨x, hx⟩ : ∃ x, f[k]? = some x := ⟨f[k]'(by rw [← HN.out]; exact hlt), List.getElem?_eq_getElem _⟩
        obtain ⟨y, hy⟩ : ∃ y, g[k]? = some y := ⟨g[k]'(by rw [← HK.out]; exact hlt), List.getElem?_eq_getElem _⟩
        obtain ⟨b, o, rfl, hb, hc⟩ := HC.out (by omega)
        obtain ⟨b2, o2, rfl, hb2, hc'⟩ := HDC.out (by omega)
        have c0 := (HB.out.cell (p := ⟨b, _, none⟩) hb).trans (hc k x hx)
        have d0 := (HB.out.cell (p := ⟨b2, _, none⟩) hb2).trans (hc' k y hy)
        clear hc hc'
        have hiff := take_next_eq hx hy HE.out
        have HI := Lib.hid hiff; clear hiff
        have HX := Lib.hid hx; have HY := Lib.hid hy; clear hx hy
        by_cases hxy : x = y
        · subst hxy
          go_wp2
          go_region
          go_wp2
          go_roundg (n - (k + 1))
          case rel => exact ⟨k + 1, by omega, rfl, by go_num, HB.out.drew, HI.out.2 (by first | rfl | trivial)⟩
          case measure => omega
        · have hfg : f ≠ g := fun h => hxy (HI.out.1 (by rw [h]))
          have hff : t = false := by rw [HT.out]; simp [hfg]
          have HFF := Lib.hid hff
          have hxy' : ((x : Int) != y) = true := by rw [bne_iff_ne]; omega
          clear hxy hfg hff
          go_wp2
          go_region
          go_wp2
          go_returns
          exact ⟨by rw [HFF.out]; rfl, HB.out.drew⟩
      · go_wp2
        go_returns
        refine ⟨?_, HB.out⟩
        have hkn : k = n := by omega
        have h := HE.out
        rw [hkn] at h
        rw [List.take_of_length_le (by rw [← HN.out]; exact Nat.le_refl _), List.take_of_length_le (by rw [← HK.out]; exact Nat.le_refl _)] at h
        rw [HT.out]; simp [h]
  · have hnn : ((n : Int) != k2) = true := by rw [bne_iff_ne]; omega
    have e : decide (f = g) = false := by
      rw [decide_eq_false_iff_not]; intro h; subst h; omega
    rw [e]
    clear hn hk2 e hne
    go_enter Tryd.func21, Tryd.ntmps21
    go_wp2
    go_returns
    exact ⟨rfl, Below.refl _ _⟩

theorem agg99 (w : World) : (Instr.build 23 #[(0, .int .u8 99)]).run Tryd.prog w = .ok (.agg #[.int .u8 99, .int .i64 0, .int .i64 0, .int .i64 0, .int .i64 0]) w := by kernel_rfl

theorem own_row {w : World} {B n size : Nat} {e : TypeId} {v : Value} {xs : List Value} (h : w.ownsRow B e size v n xs) (hn : 0 < n) : ∃ g cap cs, v = .slice (some ⟨g, 0, none⟩) n cap ∧ B ≤ g ∧ Row w g e cs ∧ n * size ≤ cs.size ∧ n ≤ 9223372036854775807 := by
  rcases h.2 with ⟨_, h0⟩ | ⟨g, cap, cur, hv, hB, hg, hnc, hcm, hcs, _⟩
  · omega
  · exact ⟨g, cap, cur, hv, hB, hg, by rw [hcs]; exact Nat.mul_le_mul_right _ hnc, by simp only [maxLen] at hcm; omega⟩
theorem row_some {w : World} {g : Nat} {t : TypeId} {cs : Array Value} (h : Row w g t cs) {i : Nat} (hi : i < cs.size) : ∃ u, w.cell? ⟨g, i, none⟩ = some u := ⟨cs[i], by rw [h.cell, Array.getElem?_eq_getElem hi]⟩

/-- OverMSO and OverSet write into the row that they are given, and nowhere else. -/
theorem over_nil_shape {w : World} {B : Nat} {e : TypeId} {size : Nat} {v : Value} {xs : List Value} (h : w.ownsRow B e size v 0 xs) : ∃ A c, v = .slice A 0 c := by
  rcases h.2 with ⟨hv, _⟩ | ⟨g, cap, cur, hv, _⟩
  · exact ⟨none, 0, hv⟩
  · exact ⟨_, cap, hv⟩
set_option maxRecDepth 100000 in
set_option maxHeartbeats 1000000 in
theorem over_mso (f : List Mk) (v : Value) (B : Nat) (w : World) (hv : MO w B v f) (hB : B ≤ w.heap.size) :
    Calls Tryd.prog 25 #[v] w fun e w' => e = .returned (.tuple #[]) ∧ Below B w w' := by
  have hbd := agg99
  obtain ⟨n, hn⟩ : ∃ n, n = f.length := ⟨_, rfl⟩
  have hv2 := hv.2
  rw [← hn] at hv2
  clear hv hn
  by_cases h0 : n = 0
  · subst h0
    obtain ⟨A, c, rfl⟩ := over_nil_shape hv2
    clear hv2
    go_enter Tryd.func25, Tryd.ntmps25
    go_wp2
    go_rounds 1
    refine bodyPost_end (results_none rfl _ _ _) rfl ?_
    exact ⟨rfl, Below.refl _ _⟩
  · obtain ⟨g, cap, cs, rfl, hBg, hr, hsz, hnm⟩ := own_row hv2 (by omega)
    clear hv2
    have HR0 := Lib.hid hr; clear hr
    go_enter Tryd.func25, Tryd.ntmps25
    go_wp2
    go_loopg [2] n (fun gk q wr => ∃ (k : Nat) (cs' : Array Value), k ≤ n ∧ gk = n - k ∧ q = .int .i64 k ∧ Below B w wr ∧ Row wr g 23 cs' ∧ n * 5 ≤ cs'.size)
    case atStart => exact ⟨0, cs, Nat.zero_le _, rfl, rfl, Below.refl _ _, HR0.out, hsz⟩
    case round =>
      obtain ⟨k, cs', hk, rfl, rfl, hb, hr, hs⟩ := hrel
      have HB := Lib.hid hb; clear hb
      by_cases hlt : k < n
      · obtain ⟨u0, c0⟩ := row_some hr (i := k * 5) (by omega)
        obtain ⟨u1, c1⟩ := row_some hr (i := k * 5 + 1) (by omega)
        obtain ⟨u2, c2⟩ := row_some hr (i := k * 5 + 2) (by omega)
        obtain ⟨u3, c3⟩ := row_some hr (i := k * 5 + 3) (by omega)
        obtain ⟨u4, c4⟩ := row_some hr (i := k * 5 + 4) (by omega)
        have fr := hr.free
        have HR := Lib.hid hr; clear hr
        go_wp2
        go_roundg (n - (k + 1))
        case rel => exact ⟨k + 1, _, by omega, rfl, by go_num, ((((HB.out.setCell hBg _).setCell hBg _).setCell hBg _).setCell hBg _).setCell hBg _, ((((HR.out.set _ _).set _ _).set _ _).set _ _).set _ _, by simpa using hs⟩
        case measure => omega
      · go_wp2
        refine bodyPost_end (results_none rfl _ _ _) rfl ?_
        exact ⟨rfl, HB.out⟩
set_option maxRecDepth 100000 in
set_option maxHeartbeats 1000000 in
theorem over_set (f : List Nat) (v : Value) (B : Nat) (w : World) (hv : WS w B v f) (hB : B ≤ w.heap.size) :
    Calls Tryd.prog 24 #[v] w fun e w' => e = .returned (.tuple #[]) ∧ Below B w w' := by
  obtain ⟨n, hn⟩ : ∃ n, n = f.length := ⟨_, rfl⟩
  have hv2 : w.ownsRow B 63 1 v f.length (f.map fun s : Nat => Value.int .u64 s) := hv
  rw [← hn] at hv2
  clear hv hn
  by_cases h0 : n = 0
  · subst h0
    obtain ⟨A, c, rfl⟩ := over_nil_shape hv2
    clear hv2
    go_enter Tryd.func24, Tryd.ntmps24
    go_wp2
    go_rounds 1
    refine bodyPost_end (results_none rfl _ _ _) rfl ?_
    exact ⟨rfl, Below.refl _ _⟩
  · obtain ⟨g, cap, cs, rfl, hBg, hr, hsz, hnm⟩ := own_row hv2 (by omega)
    clear hv2
    have HR0 := Lib.hid hr; clear hr
    go_enter Tryd.func24, Tryd.ntmps24
    go_wp2
    go_loopg [2] n (fun gk q wr => ∃ (k : Nat) (cs' : Array Value), k ≤ n ∧ gk = n - k ∧ q = .int .i64 k ∧ Below B w wr ∧ Row wr g 63 cs' ∧ n * 1 ≤ cs'.size)
    case atStart => exact ⟨0, cs, Nat.zero_le _, rfl, rfl, Below.refl _ _, HR0.out, hsz⟩
    case round =>
      obtain ⟨k, cs', hk, rfl, rfl, hb, hr, hs⟩ := hrel
      have HB := Lib.hid hb; clear hb
      by_cases hlt : k < n
      · obtain ⟨u0, c0⟩ := row_some hr (i := k) (by omega)
        have fr := hr.free
        have HR := Lib.hid hr; clear hr
        go_wp2
        go_roundg (n - (k + 1))
        case rel => exact ⟨k + 1, _, by omega, rfl, by go_num, HB.out.setCell hBg _, HR.out.set _ _, by simpa using hs⟩
        case measure => omega
      · go_wp2
        refine bodyPost_end (results_none rfl _ _ _) rfl ?_
        exact ⟨rfl, HB.out⟩

theorem MS.cut {w : World} {A : Option Addr} {n c : Nat} {f : List Mk} (h : MS w (.slice A n c) f) (k : Nat) (hk : k ≤ n) (A' : Option Addr) (hA' : 0 < k → A' = A) : MS w (.slice A' k c) (f.take k) := by
  obtain ⟨h0, A1, c1, hv, h1, h2, h3⟩ := h
  simp only [Value.slice.injEq] at hv
  obtain ⟨rfl, rfl, rfl⟩ := hv
  have hl : (f.take k).length = k := by rw [List.length_take]; omega
  refine ⟨fun m hm => h0 m (List.mem_of_mem_take hm), A', c, by rw [hl], by omega, h2, fun hp => ?_⟩
  rw [hl] at hp
  obtain ⟨b, o, hA, hb, hm⟩ := h3 (by omega)
  refine ⟨b, o, (hA' hp).trans hA, hb, fun i m hi => hm i m ?_⟩
  rw [List.getElem?_take] at hi
  by_cases hik : i < k
  · rwa [if_pos hik] at hi
  · rw [if_neg hik] at hi; cases hi
set_option maxRecDepth 100000 in
set_option maxHeartbeats 400000 in
theorem few_any (f : List Mk) (v : Value) (w : World) (hv : MS w v f) : Calls Tryd.prog 11 #[v] w (RetMO w (f.take 70)) := by
  have HV := Lib.hid hv
  obtain ⟨_, A, c, rfl, hc1, hc2, _⟩ := hv
  obtain ⟨n, hn⟩ : ∃ n, n = f.length := ⟨_, rfl⟩
  rw [← hn] at hc1 HV ⊢
  have HN := Lib.hid hn; clear hn
  by_cases h70 : n ≤ 70
  · have ht : f.take 70 = f := List.take_of_length_le (by rw [← HN.out]; exact h70)
    rw [ht]
    have HT := Lib.hid ht; clear ht
    go_enter Tryd.func11, Tryd.ntmps11
    go_wp2_with (go_at_call 4; go_must (refine (copy_any f _ _ HV.out (by rw [← HN.out]; omega)).mono ?_; rintro e w1 ⟨v1, rfl, hb1, ho1⟩))
    go_returns
    exact ⟨v1, rfl, hb1, ho1⟩
  · go_enter Tryd.func11, Tryd.ntmps11
    go_wp2_with (go_at_call 4; go_must (refine (copy_any (f.take 70) _ _ (HV.out.cut 70 (by omega) A (fun _ => rfl)) (by rw [List.length_take]; omega)).mono ?_; rintro e w1 ⟨v1, rfl, hb1, ho1⟩))
    go_returns
    exact ⟨v1, rfl, hb1, ho1⟩
end Go.Proofs.YtcjblbhmajdmjaaDoor

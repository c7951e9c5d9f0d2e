/- Contract of Depth of the package tree. -/
import Derived.Test.YtahimlnddelnbaaDoorTdA
import Derived.Test.YtahimlnddelnbaaDoorVal
set_option linter.unusedSimpArgs false
set_option linter.unusedVariables false
namespace Go.Proofs.YtahimlnddelnbaaDoor
open Go.RowKit

theorem elt_i64 : Elt 105 3 (.int .i64 0) 8 := ⟨by kernel_rfl, by kernel_rfl, by omega, rfl⟩
def iV (x : Nat) : Value := .int .i64 x
def LO (w : World) (B : Nat) (v : Value) (L : List Nat) : Prop := VO 3 w B v (L.map iV)
theorem LO.below {w w' : World} {B B' : Nat} {v : Value} {L : List Nat} (h : LO w B v L) (hb : Below B' w w') (hB : w.heap.size ≤ B') : LO w' B v L := VO.below h hb hB
theorem LO.at {w : World} {B g n c : Nat} {L : List Nat} (h : LO w B (.slice (some ⟨g, 0, none⟩) n c) L) {i x : Nat} (hx : L[i]? = some x) : w.cell? ⟨g, i, none⟩ = some (.int .i64 x) := by
  have := (VO.vs h).at (i := i) (m := iV x) (by rw [List.getElem?_map, hx]; rfl)
  rwa [Nat.zero_add] at this
theorem LO.free {w : World} {B g n c : Nat} {L : List Nat} (h : LO w B (.slice (some ⟨g, 0, none⟩) n c) L) (i : Nat) : w.frozen? ⟨g, i, none⟩ = false := by
  rcases h.2.2 with ⟨hv, _⟩ | ⟨g2, cap, cur, hv, hB, hg, _⟩
  · cases hv
  · simp only [Value.slice.injEq, Option.some.injEq, Addr.mk.injEq, and_true, true_and] at hv
    obtain ⟨rfl, _, _⟩ := hv
    simp [World.frozen?, hg]
theorem LO.set {w : World} {B g n c : Nat} {L : List Nat} (h : LO w B (.slice (some ⟨g, 0, none⟩) n c) L) (hn : L.length = n) (j x : Nat) : LO (w.setCell ⟨g, j, none⟩ (.int .i64 x)) B (.slice (some ⟨g, 0, none⟩) n c) (L.set j x) := by
  have := set_val (f := L.map iV) h (by rw [List.length_map]; exact hn) j (iV x) rfl
  rw [← List.map_set] at this
  exact this
theorem put_none (L : List Nat) (v : Nat) : putL L (-1) v = L := by unfold putL; rw [if_pos rfl]
theorem put_some (L : List Nat) (c v : Nat) : putL L (c : Int) v = L.set c v := by unfold putL; rw [if_neg (by omega), Int.toNat_natCast]

set_option maxRecDepth 100000 in
set_option maxHeartbeats 4000000 in
theorem depth_in (t : List Lf) (v : Value) (w : World) (hv : TS w v t) (hf : formedT t = true) :
    Calls Tryd.prog 77 #[v, .int .i64 ((t.length : Int) - 1)] w fun e w' => e = .returned (.int .i64 (depthS t : Nat)) ∧ Below w.heap.size w w' := by
  have h31 := (btOf_ok hf).1
  have htop := topL_t hf
  have hkids := kids_ok hf
  have hsm := fun i hi => lev_small hf i hi
  have hnow := fun i L (h : LevOk t i L) (hi : i < t.length) => lev_now hf h hi
  have hnext := fun i x L (h : LevOk t i L) (hx : t[i]? = some x) => lev_next hf h hx
  have hstart := lev_start t
  have HV := Lib.hid hv
  obtain ⟨hop, A, c, rfl, hc1, hc2, hcell⟩ := hv
  obtain ⟨lv, hlv⟩ : ∃ lv, lv = (btOf t).lev 0 := ⟨_, rfl⟩
  rw [← hlv] at htop hsm hnow hnext
  obtain ⟨n, hn⟩ : ∃ n, n = t.length := ⟨_, rfl⟩
  obtain ⟨R, hR⟩ : ∃ R, R = depthS t := ⟨_, rfl⟩
  rw [← hR] at htop ⊢
  rw [← hn] at h31 htop hsm hnow hstart hc1 hcell HV ⊢
  have HTOP := Lib.hid htop; have HK := Lib.hid hkids; have HSM := Lib.hid hsm; have HNOW := Lib.hid hnow; have HNEXT := Lib.hid hnext; have HST := Lib.hid hstart
  have HN := Lib.hid hn; have HC := Lib.hid hcell
  clear htop hkids hsm hnow hnext hstart hn hcell hR hlv hop hf
  have hmk := run_make_vs elt_i64 n (by omega)
  go_enter Tryd.func77, Tryd.ntmps77
  go_wp2
  refine wp_abs (fun W => LO W w.heap.size (.slice (some ⟨w.heap.size, 0, none⟩) n n) (List.replicate n 0) ∧ Below w.heap.size w W) ⟨by
    have := VO.lit (E := 3) (w := w) (n := n) (List.replicate n (.int .i64 0)) (by simp) (by omega) (by intro u hu; rw [List.eq_of_mem_replicate hu]; rfl)
    unfold LO; rw [List.map_replicate]; exact this, by go_grown⟩ ?_
  rintro w1 ⟨ho, hb⟩
  have HO := Lib.hid ho; have HB := Lib.hid hb; clear ho hb hmk
  go_loopg [6, 7] n (fun gk q6 q7 wr => ∃ (i : Nat) (L : List Nat), i ≤ n ∧ gk = n - i ∧ q7 = .int .i64 i ∧ q6 = .int .i64 (topL lv i : Nat) ∧ (0 < n → LevOk t i L) ∧ L.length = n ∧ LO wr w.heap.size (.slice (some ⟨w.heap.size, 0, none⟩) n n) L ∧ Below w.heap.size w wr)
  case atStart => exact ⟨0, _, by omega, rfl, rfl, rfl, HST.out, by simp, HO.out, HB.out⟩
  case round =>
    clear HO HB
    obtain ⟨i, L, hi, rfl, rfl, rfl, hlo, hll, ho, hb⟩ := hrel
    have HO := Lib.hid ho; have HB := Lib.hid hb; have HLO := Lib.hid hlo; have HLL := Lib.hid hll
    clear ho hb hlo hll
    by_cases hlt : i < n
    · obtain ⟨x, hx⟩ : ∃ x, t[i]? = some x := ⟨t[i]'(by rw [← HN.out]; exact hlt), List.getElem?_eq_getElem _⟩
      obtain ⟨b, o, rfl, hb, hcell⟩ := HC.out (by omega)
      obtain ⟨c0, c1, c2⟩ := hcell i x hx
      rw [← HB.out.cell (p := ⟨b, _, none⟩) hb] at c0 c1 c2
      have hb' : b < wr.heap.size := by have := HB.out.size; omega
      obtain ⟨k1, k2⟩ := HK.out i x hx
      rw [← HN.out] at k1 k2
      obtain ⟨s1, s2⟩ := HSM.out i hlt
      have hnow := HNOW.out i L (HLO.out (by omega)) hlt
      have hnext := HNEXT.out i x L (HLO.out (by omega)) hx
      have htop : topL lv (i + 1) = max (topL lv i) (lv i) := rfl
      obtain ⟨u, hu⟩ : ∃ u, lv i = u + 1 := ⟨lv i - 1, by omega⟩
      obtain ⟨T, hT⟩ : ∃ T, T = topL lv i := ⟨_, rfl⟩
      rw [hu, Nat.add_sub_cancel] at hnow
      rw [hu] at hnext htop s2
      rw [← hT] at htop ⊢
      have hT31 : T ≤ 31 := by rw [hT]; exact topL_le lv 31 i fun p hp => (HSM.out p (by omega)).2
      have cL := HO.out.at hnow
      have hgl : w.heap.size < wr.heap.size := VO.blk_lt HO.out rfl
      have HNX := Lib.hid hnext; have HTP := Lib.hid htop
      clear hnow hnext htop hu hT hcell hx s1
      obtain ⟨lb, l, r⟩ := x
      simp only at c0 c1 c2 k1 k2 HNX
      have i0 := fun W a b => (idx2_t W a b).1
      have i1 := fun W a b => (idx2_t W a b).2
      have hile : (i : Int) ≤ (n : Int) - 1 := by omega
      go_wp2
      all_goals (first | go_region | fail)
      all_goals go_wp2
      all_goals
        refine wp_loop_rounds 3 ?_
        rw [rounds_succ]
        rcases k1 with k1 | ⟨k1, k1'⟩
        · subst k1
          go_wp2
          refine rounds_abs (fun W => LO W w.heap.size (.slice (some ⟨w.heap.size, 0, none⟩) n n) (putL L (-1) (u + 1)) ∧ Below w.heap.size w W) ⟨by rw [put_none]; exact HO.out.below (B' := wr.heap.size) (by go_grown) (Nat.le_refl _), by have h1 := HB.out; have h2 := h1.size; go_grown⟩ ?_
          clear HO HB
          rintro w2 ⟨ho, hb⟩
          have HLM : Hid ((putL L (-1) (u + 1)).length = n) := by rw [Hid, putL_len]; exact HLL.out
          generalize putL L (-1) (u + 1) = M at *
          have HO := Lib.hid ho; have HB := Lib.hid hb; clear ho hb
          rw [rounds_succ]
          rcases k2 with k2 | ⟨k2, k2'⟩
          · subst k2
            go_wp2
            refine rounds_abs (fun W => LO W w.heap.size (.slice (some ⟨w.heap.size, 0, none⟩) n n) (putL M (-1) (u + 1)) ∧ Below w.heap.size w W) ⟨by rw [put_none]; exact HO.out.below (B' := w2.heap.size) (by go_grown) (Nat.le_refl _), by have h1 := HB.out; have h2 := h1.size; go_grown⟩ ?_
            clear HO HB
            rintro w3 ⟨ho, hb⟩
            have HO := Lib.hid ho; have HB := Lib.hid hb; clear ho hb
            rw [rounds_succ]
            go_wp2
            go_roundg (n - (i + 1))
            case rel => exact ⟨i + 1, _, by omega, rfl, by go_num, by rw [HTP.out]; first | (congr 1; omega) | skip, fun _ => HNX.out, by rw [putL_len]; exact HLM.out, HO.out, HB.out⟩
            case measure => omega
          · obtain ⟨q, rfl⟩ : ∃ q : Nat, r = q := ⟨r.toNat, by omega⟩
            obtain ⟨y, hy⟩ : ∃ y, M[q]? = some y := ⟨M[q]'(by rw [HLM.out]; omega), List.getElem?_eq_getElem _⟩
            have cq := HO.out.at hy
            have fq := HO.out.free q
            have bq : (((q : Nat) : Int) != -1) = true := by simp
            have hqn : q < n := by omega
            have hqi : (0 : Int) ≤ q := by omega
            have hst := HO.out.set HLM.out q (u + 1)
            have HSTO := Lib.hid hst
            clear hst hy
            go_wp2
            refine rounds_abs (fun W => LO W w.heap.size (.slice (some ⟨w.heap.size, 0, none⟩) n n) (putL M (q : Int) (u + 1)) ∧ Below w.heap.size w W) ⟨by rw [put_some]; exact HSTO.out, by have h1 := HB.out; have h2 := h1.size; go_grown⟩ ?_
            clear HO HB HSTO cq fq
            rintro w3 ⟨ho, hb⟩
            have HO := Lib.hid ho; have HB := Lib.hid hb; clear ho hb
            rw [rounds_succ]
            go_wp2
            go_roundg (n - (i + 1))
            case rel => exact ⟨i + 1, _, by omega, rfl, by go_num, by rw [HTP.out]; first | (congr 1; omega) | skip, fun _ => HNX.out, by rw [putL_len]; exact HLM.out, HO.out, HB.out⟩
            case measure => omega
        · obtain ⟨q, rfl⟩ : ∃ q : Nat, l = q := ⟨l.toNat, by omega⟩
          obtain ⟨y, hy⟩ : ∃ y, L[q]? = some y := ⟨L[q]'(by rw [HLL.out]; omega), List.getElem?_eq_getElem _⟩
          have cq := HO.out.at hy
          have fq := HO.out.free q
          have bq : (((q : Nat) : Int) != -1) = true := by simp
          have hqn : q < n := by omega
          have hqi : (0 : Int) ≤ q := by omega
          have hst := HO.out.set HLL.out q (u + 1)
          have HSTO := Lib.hid hst
          clear hst hy
          go_wp2
          refine rounds_abs (fun W => LO W w.heap.size (.slice (some ⟨w.heap.size, 0, none⟩) n n) (putL L (q : Int) (u + 1)) ∧ Below w.heap.size w W) ⟨by rw [put_some]; exact HSTO.out, by have h1 := HB.out; have h2 := h1.size; go_grown⟩ ?_
          clear HO HB HSTO cq fq
          rintro w2 ⟨ho, hb⟩
          have HLM : Hid ((putL L (q : Int) (u + 1)).length = n) := by rw [Hid, putL_len]; exact HLL.out
          generalize putL L (q : Int) (u + 1) = M at *
          have HO := Lib.hid ho; have HB := Lib.hid hb; clear ho hb
          rw [rounds_succ]
          rcases k2 with k2 | ⟨k2, k2'⟩
          · subst k2
            go_wp2
            refine rounds_abs (fun W => LO W w.heap.size (.slice (some ⟨w.heap.size, 0, none⟩) n n) (putL M (-1) (u + 1)) ∧ Below w.heap.size w W) ⟨by rw [put_none]; exact HO.out.below (B' := w2.heap.size) (by go_grown) (Nat.le_refl _), by have h1 := HB.out; have h2 := h1.size; go_grown⟩ ?_
            clear HO HB
            rintro w3 ⟨ho, hb⟩
            have HO := Lib.hid ho; have HB := Lib.hid hb; clear ho hb
            rw [rounds_succ]
            go_wp2
            go_roundg (n - (i + 1))
            case rel => exact ⟨i + 1, _, by omega, rfl, by go_num, by rw [HTP.out]; first | (congr 1; omega) | skip, fun _ => HNX.out, by rw [putL_len]; exact HLM.out, HO.out, HB.out⟩
            case measure => omega
          · obtain ⟨q, rfl⟩ : ∃ q : Nat, r = q := ⟨r.toNat, by omega⟩
            obtain ⟨y, hy⟩ : ∃ y, M[q]? = some y := ⟨M[q]'(by rw [HLM.out]; omega), List.getElem?_eq_getElem _⟩
            have cq := HO.out.at hy
            have fq := HO.out.free q
            have bq : (((q : Nat) : Int) != -1) = true := by simp
            have hqn : q < n := by omega
            have hqi : (0 : Int) ≤ q := by omega
            have hst := HO.out.set HLM.out q (u + 1)
            have HSTO := Lib.hid hst
            clear hst hy
            go_wp2
            refine rounds_abs (fun W => LO W w.heap.size (.slice (some ⟨w.heap.size, 0, none⟩) n n) (putL M (q : Int) (u + 1)) ∧ Below w.heap.size w W) ⟨by rw [put_some]; exact HSTO.out, by have h1 := HB.out; have h2 := h1.size; go_grown⟩ ?_
            clear HO HB HSTO cq fq
            rintro w3 ⟨ho, hb⟩
            have HO := Lib.hid ho; have HB := Lib.hid hb; clear ho hb
            rw [rounds_succ]
            go_wp2
            go_roundg (n - (i + 1))
            case rel => exact ⟨i + 1, _, by omega, rfl, by go_num, by rw [HTP.out]; first | (congr 1; omega) | skip, fun _ => HNX.out, by rw [putL_len]; exact HLM.out, HO.out, HB.out⟩
            case measure => omega
    · go_wp2
      go_returns
      have e : i = n := by omega
      exact ⟨ret_i (by rw [← HTOP.out, e]), HB.out⟩
set_option maxRecDepth 100000 in
set_option maxHeartbeats 1000000 in
theorem Depth_any (t : List Lf) (v : Value) (w : World) (hv : TS w v t) :
    Calls Tryd.prog 25 #[v] w fun e w' => e = .returned (.int .i64 (depthS t : Nat)) ∧ Below w.heap.size w w' := by
  have HV := Lib.hid hv
  have HFO := Lib.hid (fun W (hW : TS W v t) => formedT_any t v W hW)
  have HS : Hid (formedT t = false → depthS t = 0) := fun h => by unfold depthS; rw [if_pos h]
  have HD := Lib.hid (fun (hf : formedT t = true) W (hW : TS W v t) => depth_in t v W hW hf)
  obtain ⟨_, A, c, rfl, hc1, hc2, _⟩ := hv
  obtain ⟨R, hR⟩ : ∃ R, R = depthS t := ⟨_, rfl⟩
  rw [← hR] at HS HD ⊢
  obtain ⟨n, hn⟩ : ∃ n, n = t.length := ⟨_, rfl⟩
  rw [← hn] at hc1 HV HFO HD ⊢
  clear hn hR
  by_cases hf : formedT t = true
  · have HD2 := Lib.hid (HD.out hf)
    rw [hf] at HFO
    clear hf HS HD
    go_enter Tryd.func25, Tryd.ntmps25
    go_wp2_with (first
      | (go_at_call 75; go_must (refine (HFO.out _ HV.out).mono ?_; rintro e w1 ⟨rfl, hb1⟩; have HB := Lib.hid hb1; clear hb1))
      | (go_at_call 77; go_must ((with_reducible refine (HD2.out _ (HV.out.below HB.out (Nat.le_refl _))).mono ?_); rintro e w2 ⟨rfl, hb1⟩; replace HB := Lib.hid (HB.out.trans (hb1.mono HB.out.size)); clear hb1)))
    go_returns
    exact ⟨rfl, HB.out⟩
  · have hf' : formedT t = false := by simpa using hf
    have HR : Hid (R = 0) := HS.out hf'
    rw [hf'] at HFO
    clear hf hf' HS HD
    go_enter Tryd.func25, Tryd.ntmps25
    go_wp2_with (go_at_call 75; go_must (refine (HFO.out _ HV.out).mono ?_; rintro e w1 ⟨rfl, hb1⟩; have HB := Lib.hid hb1; clear hb1))
    go_returns
    exact ⟨ret_i (by rw [HR.out]; rfl), HB.out⟩
end Go.Proofs.YtahimlnddelnbaaDoor

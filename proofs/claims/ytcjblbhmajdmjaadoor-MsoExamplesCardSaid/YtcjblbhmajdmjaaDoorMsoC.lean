/- Contracts: check, Check, formed of the package mso. -/
import Derived.Test.YtcjblbhmajdmjaaDoorMsoF
set_option linter.unusedSimpArgs false
set_option linter.unusedVariables false
namespace Go.Proofs.YtcjblbhmajdmjaaDoor
open Go.RowKit

theorem sizes_n (f : List Mk) (n : Nat) (v : Value) (w : World) (hv : MS w v f) (hn : n = f.length) (hn2 : n ≤ 100) :
    Calls Tryd.prog 71 #[v] w fun e w' => e = .returned (.slice (some ⟨w.heap.size, 0, none⟩) n n) ∧ Below w.heap.size w w' ∧ Row w' w.heap.size 3 (outc n (szs f)) := by
  subst hn; exact sizes_any f v w hv hn2

theorem chkList_drop (vars : Int) (known : Int → Bool) (f : List Mk) (ss : List Nat) (k : Nat) (m : Mk) (h : f[k]? = some m) (hl : ss.length = f.length) :
    chkList vars known (f.drop k) (ss.drop k) = if chkNode vars known m (ss.getD k 0) = 0 then chkList vars known (f.drop (k + 1)) (ss.drop (k + 1)) else chkNode vars known m (ss.getD k 0) := by
  have hk : k < f.length := (List.getElem?_eq_some_iff.1 h).1
  have hm : f[k] = m := (List.getElem?_eq_some_iff.1 h).2
  have hk2 : k < ss.length := by omega
  rw [List.drop_eq_getElem_cons hk, List.drop_eq_getElem_cons hk2, hm, chkList]
  simp [List.getD, List.getElem?_eq_getElem hk2]

set_option maxHeartbeats 400000 in
theorem known_formed (op : Int) (w : World) : Calls Tryd.prog 74 #[.int .u8 op] w fun e w' => e = .returned (.bool true) ∧ w = w' := by
  go_enter Tryd.func74, Tryd.ntmps74
  go_wp2
  go_returns
  exact ⟨rfl, rfl⟩

set_option maxHeartbeats 400000 in
theorem known_Check (op : Int) (trees : Bool) (b : Nat) (w : World) (hc : w.cell? ⟨b, 0, none⟩ = some (.bool trees)) :
    Calls Tryd.prog 37 #[.int .u8 op, .pointer (some ⟨b, 0, none⟩)] w fun e w' => e = .returned (.bool (knows trees op)) ∧ w = w' := by
  cases trees
  all_goals
    go_enter Tryd.func37, Tryd.ntmps37
    go_wp2
  all_goals
    go_returns
    refine ⟨ret_bool ?_, rfl⟩
    first | (simp [knows]; done) | (simp [knows, *]; done) | (simp [knows]; omega)

set_option maxRecDepth 100000 in
set_option maxHeartbeats 4000000 in
theorem check_formed (f : List Mk) (v : Value) (vars : Int) (w : World) (hv : MS w v f) :
    Calls Tryd.prog 36 #[v, .int .i64 vars, .func (.func 74) #[] #[]] w fun e w' => e = .returned (.int .i64 (chk f vars (fun _ => true))) ∧ Below w.heap.size w w' := by
  have HV := Lib.hid hv
  obtain ⟨hop, A, c, rfl, hc, hc2, hcell⟩ := hv
  have hfd := fld_form0
  obtain ⟨known, hkn⟩ : ∃ known, known = (fun _ => true) := ⟨_, rfl⟩
  rw [← hkn]
  have HKN := Lib.hid hkn; clear hkn
  obtain ⟨n, hn⟩ : ∃ n, n = f.length := ⟨_, rfl⟩
  rw [← hn] at hc hcell
  have H1 := Lib.hid hn
  have H2 := Lib.hid hcell; clear hcell
  have H3 := Lib.hid hop; clear hop
  by_cases hn0 : n = 0
  · have e : chk f vars known = 3 := by rw [chk, if_pos (by omega)]
    rw [← hn, e]
    clear hn
    go_enter Tryd.func36, Tryd.ntmps36
    go_wp2
    go_returns
    exact ⟨rfl, by go_grown⟩
  by_cases hn1 : 64 < n
  · have e : chk f vars known = 4 := by rw [chk, if_neg (by omega), if_pos (by omega)]
    rw [← hn, e]
    have hn0' : ((n : Int) == 0) = false := by simp [hn0]
    clear hn
    go_enter Tryd.func36, Tryd.ntmps36
    go_wp2
    go_returns
    exact ⟨rfl, by go_grown⟩
  have hn0' : ((n : Int) == 0) = false := by simp [hn0]
  have hnn : decide (64 < (n : Int)) = false := by simp; omega
  have hn2 : n ≤ 64 := by omega
  have hnp : 1 ≤ n := by omega
  obtain ⟨R, hR⟩ : ∃ R, R = chkList vars known f (szs f) := ⟨_, rfl⟩
  have hfin : chk f vars known = if R = 0 then (if (szs f).getD (n - 1) 0 = n then 0 else 2) else R := by rw [chk, if_neg (by omega), if_neg (by omega), hR, hn]
  have HF := Lib.hid hfin; clear hfin
  have HR := Lib.hid hR; clear hR
  rw [← hn]
  clear hn hn0 hn1
  go_enter Tryd.func36, Tryd.ntmps36
  go_wp2_with (go_at_call 71; go_must (refine (sizes_n f n _ _ (by rw [H1.out]; exact HV.out) H1.out (by omega)).mono ?_; rintro e w1 ⟨rfl, hb1, hr1⟩))
  have HB1 := Lib.hid hb1; clear hb1
  have HR1 := Lib.hid hr1; clear hr1
  have HSL := Lib.hid (szs_len f)
  go_loopg [22] n (fun gk v wr => ∃ k : Nat, k ≤ n ∧ gk = n - k ∧ v = .int .i64 k ∧ Below w1.heap.size w1 wr ∧ chkList vars known (f.drop k) ((szs f).drop k) = R)
  case atStart =>
    exact ⟨0, Nat.zero_le _, rfl, rfl, Below.refl _ _, by rw [HR.out, List.drop_zero, List.drop_zero]⟩
  case round =>
    obtain ⟨k, hk, rfl, rfl, hbe, hR⟩ := hrel
    have ho : Row wr w.heap.size 3 (outc n (szs f)) := HR1.out.below hbe HR1.out.lt
    have ho0 := fun j hj => (ho.cell j).trans (outc_get n (szs f) j hj (by rw [HSL.out, ← H1.out]; omega))
    have hbw : Below w.heap.size w wr := HB1.out.trans (hbe.mono HB1.out.size)
    by_cases hlt : k < n
    · obtain ⟨m, hm⟩ : ∃ m, f[k]? = some m := ⟨f[k]'(by rw [← H1.out]; exact hlt), List.getElem?_eq_getElem _⟩
      obtain ⟨b, o, rfl, hb, hcell⟩ := H2.out (by omega)
      obtain ⟨c0, c1, c2, c3, c4⟩ := hcell k m hm
      clear hcell
      obtain ⟨m1, m2⟩ := H3.out m (List.mem_of_getElem? hm)
      rw [← hbw.cell (p := ⟨b, _, none⟩) hb] at c0 c1 c2 c3 c4
      have hb' : b < wr.heap.size := by have := hbw.size; omega
      have hlo := ho.lt
      have ok := ho0 k hlt
      rw [chkList_drop vars known f (szs f) k m hm HSL.out] at hR
      generalize (szs f).getD k 0 = s at *
      have HRR := Lib.hid hR; clear hR
      have HBW := Lib.hid hbw; clear hbw
      have HBE := Lib.hid hbe; clear hbe
      have HM := Lib.hid hm; clear hm
      have HO := Lib.hid ho; clear ho ho0
      obtain ⟨e1, he1⟩ : ∃ e1, e1 = chkNode vars known m s := ⟨_, rfl⟩
      have HE := Lib.hid he1
      rw [← he1] at HRR
      unfold chkNode at he1
      clear he1
      by_cases t1 : nm m.op = []
      · go_wp2_with (first
          | (go_at_call 53; go_must (refine (forms_any _ _ m1 m2).mono ?_; rintro e w2 ⟨rfl, hb2⟩; obtain ⟨x0, x1, hz1, HB2⟩ := after1 hb2; clear hb2)))
        go_returns
        have e6 : e1 = 6 := by rw [HE.out]; simp [chkNode, t1]
        have := HRR.out
        rw [e6, if_neg (by decide)] at this
        exact ⟨ret_int (by rw [HF.out, ← this]; rfl), HBW.out.trans (HB2.out.mono HBW.out.size)⟩
      have t1' : (nm m.op).isEmpty = false := by simp [t1]
      have T1 := Lib.hid t1; clear t1
      have t2 : ¬ known m.op = false := by rw [HKN.out]; simp
      have t2 : known m.op = true := by simpa using t2
      by_cases t3 : within m vars = false
      · go_wp2_with (first
          | (go_at_call 53; go_must (refine (forms_any _ _ m1 m2).mono ?_; rintro e w2 ⟨rfl, hb2⟩; obtain ⟨x0, x1, hz1, HB2⟩ := after1 hb2; clear hb2))
          | (go_at_call 74; go_must (refine (known_formed _ _).mono ?_; rintro e w3 ⟨rfl, rfl⟩))
          | (go_at_call 72; go_must (refine (within_any _ _ _ m1 m2).mono ?_; rintro e w4 ⟨rfl, hb4⟩)))
        go_returns
        have e6 : e1 = 7 := by rw [HE.out]; simp [chkNode, T1.out, t2, t3]
        have := HRR.out
        rw [e6, if_neg (by decide)] at this
        exact ⟨ret_int (by rw [HF.out, ← this]; rfl), HBW.out.trans ((HB2.out.trans (hb4.mono HB2.out.size)).mono HBW.out.size)⟩
      have t3 : within m vars = true := by simpa using t3
      by_cases t4 : spare m = false
      · go_wp2_with (first
          | (go_at_call 53; go_must (refine (forms_any _ _ m1 m2).mono ?_; rintro e w2 ⟨rfl, hb2⟩; obtain ⟨x0, x1, hz1, HB2⟩ := after1 hb2; clear hb2))
          | (go_at_call 74; go_must (refine (known_formed _ _).mono ?_; rintro e w3 ⟨rfl, rfl⟩))
          | (go_at_call 72; go_must (refine (within_any _ _ _ m1 m2).mono ?_; rintro e w4 ⟨rfl, hb4⟩; have x4 := fun j => (hb4.cell (p := ⟨wr.heap.size, j, none⟩) hz1).trans (x0 j); have HB4 := Lib.hid hb4; clear hb4))
          | (go_at_call 73; go_must (refine (spare_any _ _ m1 m2).mono ?_; rintro e w5 ⟨rfl, hb5⟩)))
        go_returns
        have e6 : e1 = 2 := by rw [HE.out]; simp [chkNode, T1.out, t2, t3, t4]
        have := HRR.out
        rw [e6, if_neg (by decide)] at this
        exact ⟨ret_int (by rw [HF.out, ← this]; rfl), HBW.out.trans ((HB2.out.trans ((HB4.out.trans (hb5.mono HB4.out.size)).mono HB2.out.size)).mono HBW.out.size)⟩
      have t4 : spare m = true := by simpa using t4
      by_cases t5 : s = 0
      · have t5' : ((s : Int) == 0) = true := by simp [t5]
        have T5 := Lib.hid t5; clear t5
        go_wp2_with (first
          | (go_at_call 53; go_must (refine (forms_any _ _ m1 m2).mono ?_; rintro e w2 ⟨rfl, hb2⟩; obtain ⟨x0, x1, hz1, HB2⟩ := after1 hb2; clear hb2))
          | (go_at_call 74; go_must (refine (known_formed _ _).mono ?_; rintro e w3 ⟨rfl, rfl⟩))
          | (go_at_call 72; go_must (refine (within_any _ _ _ m1 m2).mono ?_; rintro e w4 ⟨rfl, hb4⟩; have x4 := fun j => (hb4.cell (p := ⟨wr.heap.size, j, none⟩) hz1).trans (x0 j); have HB4 := Lib.hid hb4; clear hb4))
          | (go_at_call 73; go_must (refine (spare_any _ _ m1 m2).mono ?_; rintro e w5 ⟨rfl, hb5⟩; have HB5 : Hid (Below wr.heap.size wr w5) := HB2.out.trans ((HB4.out.trans (hb5.mono HB4.out.size)).mono HB2.out.size); clear hb5; have ok5 := (HB5.out.cell (p := ⟨w.heap.size, k, none⟩) hlo).trans ok)))
        go_returns
        have e6 : e1 = 2 := by rw [HE.out]; simp [chkNode, T1.out, t2, t3, t4, T5.out]
        have := HRR.out
        rw [e6, if_neg (by decide)] at this
        exact ⟨ret_int (by rw [HF.out, ← this]; rfl), HBW.out.trans (HB5.out.mono HBW.out.size)⟩
      · have t5' : ((s : Int) == 0) = false := by simp [t5]
        have T5 := Lib.hid t5; clear t5
        go_wp2_with (first
          | (go_at_call 53; go_must (refine (forms_any _ _ m1 m2).mono ?_; rintro e w2 ⟨rfl, hb2⟩; obtain ⟨x0, x1, hz1, HB2⟩ := after1 hb2; clear hb2))
          | (go_at_call 74; go_must (refine (known_formed _ _).mono ?_; rintro e w3 ⟨rfl, rfl⟩))
          | (go_at_call 72; go_must (refine (within_any _ _ _ m1 m2).mono ?_; rintro e w4 ⟨rfl, hb4⟩; have x4 := fun j => (hb4.cell (p := ⟨wr.heap.size, j, none⟩) hz1).trans (x0 j); have HB4 := Lib.hid hb4; clear hb4))
          | (go_at_call 73; go_must (refine (spare_any _ _ m1 m2).mono ?_; rintro e w5 ⟨rfl, hb5⟩; have HB5 : Hid (Below wr.heap.size wr w5) := HB2.out.trans ((HB4.out.trans (hb5.mono HB4.out.size)).mono HB2.out.size); clear hb5; have ok5 := (HB5.out.cell (p := ⟨w.heap.size, k, none⟩) hlo).trans ok)))
        go_roundg (n - (k + 1))
        case rel =>
          have e6 : e1 = 0 := by rw [HE.out]; simp [chkNode, T1.out, t2, t3, t4, T5.out]
          have := HRR.out
          rw [e6, if_pos rfl] at this
          exact ⟨k + 1, by omega, rfl, by go_num, HBE.out.trans (HB5.out.mono HBE.out.size), this⟩
        case measure => omega
    · have hkn : k = n := by omega
      have ok := ho0 (n - 1) (by omega)
      have h0 : R = 0 := by
        rw [← hR, hkn, H1.out, List.drop_length, chkList]
        intros; simp_all
      have HS := Lib.hid h0; clear h0
      have hsz := szs_le f (n - 1)
      generalize hs : (szs f).getD (n - 1) 0 = s at *
      have HSS := Lib.hid hs; clear hs
      clear hR ho0
      have HBW := Lib.hid hbw; clear hbw
      clear hbe
      have HKK := Lib.hid hkn; clear hkn
      have hz := ho.lt
      have HO := Lib.hid ho; clear ho
      by_cases t6 : s = n
      · have t6' : ((s : Int) != n) = false := by simp [t6]
        have T6 := Lib.hid t6; clear t6
        go_wp2
        go_returns
        exact ⟨ret_int (by rw [HF.out, HS.out, if_pos rfl, if_pos T6.out]), HBW.out⟩
      · have t6' : ((s : Int) != n) = true := by rw [bne_iff_ne]; omega
        have T6 := Lib.hid t6; clear t6
        go_wp2
        go_returns
        exact ⟨ret_int (by rw [HF.out, HS.out, if_pos rfl, if_neg T6.out]), HBW.out⟩

set_option maxRecDepth 100000 in
set_option maxHeartbeats 4000000 in
theorem check_Check (f : List Mk) (v : Value) (vars : Int) (trees : Bool) (bb : Nat) (w : World) (hv : MS w v f) (hbb : bb < w.heap.size) (hcc : w.cell? ⟨bb, 0, none⟩ = some (.bool trees)) :
    Calls Tryd.prog 36 #[v, .int .i64 vars, .func (.func 37) #[] #[.pointer (some ⟨bb, 0, none⟩)]] w fun e w' => e = .returned (.int .i64 (chk f vars (knows trees))) ∧ Below w.heap.size w w' := by
  have HV := Lib.hid hv
  obtain ⟨hop, A, c, rfl, hc, hc2, hcell⟩ := hv
  have hfd := fld_form0
  obtain ⟨known, hkn⟩ : ∃ known, known = (knows trees) := ⟨_, rfl⟩
  rw [← hkn]
  have HKN := Lib.hid hkn; clear hkn
  obtain ⟨n, hn⟩ : ∃ n, n = f.length := ⟨_, rfl⟩
  rw [← hn] at hc hcell
  have H1 := Lib.hid hn
  have H2 := Lib.hid hcell; clear hcell
  have H3 := Lib.hid hop; clear hop
  by_cases hn0 : n = 0
  · have e : chk f vars known = 3 := by rw [chk, if_pos (by omega)]
    rw [← hn, e]
    clear hn
    go_enter Tryd.func36, Tryd.ntmps36
    go_wp2
    go_returns
    exact ⟨rfl, by go_grown⟩
  by_cases hn1 : 64 < n
  · have e : chk f vars known = 4 := by rw [chk, if_neg (by omega), if_pos (by omega)]
    rw [← hn, e]
    have hn0' : ((n : Int) == 0) = false := by simp [hn0]
    clear hn
    go_enter Tryd.func36, Tryd.ntmps36
    go_wp2
    go_returns
    exact ⟨rfl, by go_grown⟩
  have hn0' : ((n : Int) == 0) = false := by simp [hn0]
  have hnn : decide (64 < (n : Int)) = false := by simp; omega
  have hn2 : n ≤ 64 := by omega
  have hnp : 1 ≤ n := by omega
  obtain ⟨R, hR⟩ : ∃ R, R = chkList vars known f (szs f) := ⟨_, rfl⟩
  have hfin : chk f vars known = if R = 0 then (if (szs f).getD (n - 1) 0 = n then 0 else 2) else R := by rw [chk, if_neg (by omega), if_neg (by omega), hR, hn]
  have HF := Lib.hid hfin; clear hfin
  have HR := Lib.hid hR; clear hR
  rw [← hn]
  clear hn hn0 hn1
  go_enter Tryd.func36, Tryd.ntmps36
  go_wp2_with (go_at_call 71; go_must (refine (sizes_n f n _ _ (by rw [H1.out]; exact HV.out) H1.out (by omega)).mono ?_; rintro e w1 ⟨rfl, hb1, hr1⟩))
  have HB1 := Lib.hid hb1; clear hb1
  have HR1 := Lib.hid hr1; clear hr1
  have HSL := Lib.hid (szs_len f)
  go_loopg [22] n (fun gk v wr => ∃ k : Nat, k ≤ n ∧ gk = n - k ∧ v = .int .i64 k ∧ Below w1.heap.size w1 wr ∧ chkList vars known (f.drop k) ((szs f).drop k) = R)
  case atStart =>
    exact ⟨0, Nat.zero_le _, rfl, rfl, Below.refl _ _, by rw [HR.out, List.drop_zero, List.drop_zero]⟩
  case round =>
    obtain ⟨k, hk, rfl, rfl, hbe, hR⟩ := hrel
    have ho : Row wr w.heap.size 3 (outc n (szs f)) := HR1.out.below hbe HR1.out.lt
    have ho0 := fun j hj => (ho.cell j).trans (outc_get n (szs f) j hj (by rw [HSL.out, ← H1.out]; omega))
    have hbw : Below w.heap.size w wr := HB1.out.trans (hbe.mono HB1.out.size)
    by_cases hlt : k < n
    · obtain ⟨m, hm⟩ : ∃ m, f[k]? = some m := ⟨f[k]'(by rw [← H1.out]; exact hlt), List.getElem?_eq_getElem _⟩
      obtain ⟨b, o, rfl, hb, hcell⟩ := H2.out (by omega)
      obtain ⟨c0, c1, c2, c3, c4⟩ := hcell k m hm
      clear hcell
      obtain ⟨m1, m2⟩ := H3.out m (List.mem_of_getElem? hm)
      rw [← hbw.cell (p := ⟨b, _, none⟩) hb] at c0 c1 c2 c3 c4
      have hb' : b < wr.heap.size := by have := hbw.size; omega
      have hlo := ho.lt
      have ok := ho0 k hlt
      have HC := Lib.hid ((hbw.cell (p := ⟨bb, 0, none⟩) hbb).trans hcc)
      rw [chkList_drop vars known f (szs f) k m hm HSL.out] at hR
      generalize (szs f).getD k 0 = s at *
      have HRR := Lib.hid hR; clear hR
      have HBW := Lib.hid hbw; clear hbw
      have HBE := Lib.hid hbe; clear hbe
      have HM := Lib.hid hm; clear hm
      have HO := Lib.hid ho; clear ho ho0
      obtain ⟨e1, he1⟩ : ∃ e1, e1 = chkNode vars known m s := ⟨_, rfl⟩
      have HE := Lib.hid he1
      rw [← he1] at HRR
      unfold chkNode at he1
      clear he1
      by_cases t1 : nm m.op = []
      · go_wp2_with (first
          | (go_at_call 53; go_must (refine (forms_any _ _ m1 m2).mono ?_; rintro e w2 ⟨rfl, hb2⟩; obtain ⟨x0, x1, hz1, HB2⟩ := after1 hb2; clear hb2)))
        go_returns
        have e6 : e1 = 6 := by rw [HE.out]; simp [chkNode, t1]
        have := HRR.out
        rw [e6, if_neg (by decide)] at this
        exact ⟨ret_int (by rw [HF.out, ← this]; rfl), HBW.out.trans (HB2.out.mono HBW.out.size)⟩
      have t1' : (nm m.op).isEmpty = false := by simp [t1]
      have T1 := Lib.hid t1; clear t1
      by_cases t2 : known m.op = false
      · go_wp2_with (first
          | (go_at_call 53; go_must (refine (forms_any _ _ m1 m2).mono ?_; rintro e w2 ⟨rfl, hb2⟩; obtain ⟨x0, x1, hz1, HB2⟩ := after1 hb2; clear hb2))
          | (go_at_call 37; go_must (refine (known_Check _ trees bb _ (HB2.out.cell (p := ⟨bb, 0, none⟩) (show bb < wr.heap.size by have := HBW.out.size; omega) |>.trans HC.out)).mono ?_; rintro e w3 ⟨rfl, rfl⟩; rw [← HKN.out, t2])))
        go_returns
        have e6 : e1 = 6 := by rw [HE.out]; simp [chkNode, T1.out, t2]
        have := HRR.out
        rw [e6, if_neg (by decide)] at this
        exact ⟨ret_int (by rw [HF.out, ← this]; rfl), HBW.out.trans (HB2.out.mono HBW.out.size)⟩
      have t2 : known m.op = true := by simpa using t2
      by_cases t3 : within m vars = false
      · go_wp2_with (first
          | (go_at_call 53; go_must (refine (forms_any _ _ m1 m2).mono ?_; rintro e w2 ⟨rfl, hb2⟩; obtain ⟨x0, x1, hz1, HB2⟩ := after1 hb2; clear hb2))
          | (go_at_call 37; go_must (refine (known_Check _ trees bb _ (HB2.out.cell (p := ⟨bb, 0, none⟩) (show bb < wr.heap.size by have := HBW.out.size; omega) |>.trans HC.out)).mono ?_; rintro e w3 ⟨rfl, rfl⟩; rw [← HKN.out, t2]))
          | (go_at_call 72; go_must (refine (within_any _ _ _ m1 m2).mono ?_; rintro e w4 ⟨rfl, hb4⟩)))
        go_returns
        have e6 : e1 = 7 := by rw [HE.out]; simp [chkNode, T1.out, t2, t3]
        have := HRR.out
        rw [e6, if_neg (by decide)] at this
        exact ⟨ret_int (by rw [HF.out, ← this]; rfl), HBW.out.trans ((HB2.out.trans (hb4.mono HB2.out.size)).mono HBW.out.size)⟩
      have t3 : within m vars = true := by simpa using t3
      by_cases t4 : spare m = false
      · go_wp2_with (first
          | (go_at_call 53; go_must (refine (forms_any _ _ m1 m2).mono ?_; rintro e w2 ⟨rfl, hb2⟩; obtain ⟨x0, x1, hz1, HB2⟩ := after1 hb2; clear hb2))
          | (go_at_call 37; go_must (refine (known_Check _ trees bb _ (HB2.out.cell (p := ⟨bb, 0, none⟩) (show bb < wr.heap.size by have := HBW.out.size; omega) |>.trans HC.out)).mono ?_; rintro e w3 ⟨rfl, rfl⟩; rw [← HKN.out, t2]))
          | (go_at_call 72; go_must (refine (within_any _ _ _ m1 m2).mono ?_; rintro e w4 ⟨rfl, hb4⟩; have x4 := fun j => (hb4.cell (p := ⟨wr.heap.size, j, none⟩) hz1).trans (x0 j); have HB4 := Lib.hid hb4; clear hb4))
          | (go_at_call 73; go_must (refine (spare_any _ _ m1 m2).mono ?_; rintro e w5 ⟨rfl, hb5⟩)))
        go_returns
        have e6 : e1 = 2 := by rw [HE.out]; simp [chkNode, T1.out, t2, t3, t4]
        have := HRR.out
        rw [e6, if_neg (by decide)] at this
        exact ⟨ret_int (by rw [HF.out, ← this]; rfl), HBW.out.trans ((HB2.out.trans ((HB4.out.trans (hb5.mono HB4.out.size)).mono HB2.out.size)).mono HBW.out.size)⟩
      have t4 : spare m = true := by simpa using t4
      by_cases t5 : s = 0
      · have t5' : ((s : Int) == 0) = true := by simp [t5]
        have T5 := Lib.hid t5; clear t5
        go_wp2_with (first
          | (go_at_call 53; go_must (refine (forms_any _ _ m1 m2).mono ?_; rintro e w2 ⟨rfl, hb2⟩; obtain ⟨x0, x1, hz1, HB2⟩ := after1 hb2; clear hb2))
          | (go_at_call 37; go_must (refine (known_Check _ trees bb _ (HB2.out.cell (p := ⟨bb, 0, none⟩) (show bb < wr.heap.size by have := HBW.out.size; omega) |>.trans HC.out)).mono ?_; rintro e w3 ⟨rfl, rfl⟩; rw [← HKN.out, t2]))
          | (go_at_call 72; go_must (refine (within_any _ _ _ m1 m2).mono ?_; rintro e w4 ⟨rfl, hb4⟩; have x4 := fun j => (hb4.cell (p := ⟨wr.heap.size, j, none⟩) hz1).trans (x0 j); have HB4 := Lib.hid hb4; clear hb4))
          | (go_at_call 73; go_must (refine (spare_any _ _ m1 m2).mono ?_; rintro e w5 ⟨rfl, hb5⟩; have HB5 : Hid (Below wr.heap.size wr w5) := HB2.out.trans ((HB4.out.trans (hb5.mono HB4.out.size)).mono HB2.out.size); clear hb5; have ok5 := (HB5.out.cell (p := ⟨w.heap.size, k, none⟩) hlo).trans ok)))
        go_returns
        have e6 : e1 = 2 := by rw [HE.out]; simp [chkNode, T1.out, t2, t3, t4, T5.out]
        have := HRR.out
        rw [e6, if_neg (by decide)] at this
        exact ⟨ret_int (by rw [HF.out, ← this]; rfl), HBW.out.trans (HB5.out.mono HBW.out.size)⟩
      · have t5' : ((s : Int) == 0) = false := by simp [t5]
        have T5 := Lib.hid t5; clear t5
        go_wp2_with (first
          | (go_at_call 53; go_must (refine (forms_any _ _ m1 m2).mono ?_; rintro e w2 ⟨rfl, hb2⟩; obtain ⟨x0, x1, hz1, HB2⟩ := after1 hb2; clear hb2))
          | (go_at_call 37; go_must (refine (known_Check _ trees bb _ (HB2.out.cell (p := ⟨bb, 0, none⟩) (show bb < wr.heap.size by have := HBW.out.size; omega) |>.trans HC.out)).mono ?_; rintro e w3 ⟨rfl, rfl⟩; rw [← HKN.out, t2]))
          | (go_at_call 72; go_must (refine (within_any _ _ _ m1 m2).mono ?_; rintro e w4 ⟨rfl, hb4⟩; have x4 := fun j => (hb4.cell (p := ⟨wr.heap.size, j, none⟩) hz1).trans (x0 j); have HB4 := Lib.hid hb4; clear hb4))
          | (go_at_call 73; go_must (refine (spare_any _ _ m1 m2).mono ?_; rintro e w5 ⟨rfl, hb5⟩; have HB5 : Hid (Below wr.heap.size wr w5) := HB2.out.trans ((HB4.out.trans (hb5.mono HB4.out.size)).mono HB2.out.size); clear hb5; have ok5 := (HB5.out.cell (p := ⟨w.heap.size, k, none⟩) hlo).trans ok)))
        go_roundg (n - (k + 1))
        case rel =>
          have e6 : e1 = 0 := by rw [HE.out]; simp [chkNode, T1.out, t2, t3, t4, T5.out]
          have := HRR.out
          rw [e6, if_pos rfl] at this
          exact ⟨k + 1, by omega, rfl, by go_num, HBE.out.trans (HB5.out.mono HBE.out.size), this⟩
        case measure => omega
    · have hkn : k = n := by omega
      have ok := ho0 (n - 1) (by omega)
      have h0 : R = 0 := by
        rw [← hR, hkn, H1.out, List.drop_length, chkList]
        intros; simp_all
      have HS := Lib.hid h0; clear h0
      have hsz := szs_le f (n - 1)
      generalize hs : (szs f).getD (n - 1) 0 = s at *
      have HSS := Lib.hid hs; clear hs
      clear hR ho0
      have HBW := Lib.hid hbw; clear hbw
      clear hbe
      have HKK := Lib.hid hkn; clear hkn
      have hz := ho.lt
      have HO := Lib.hid ho; clear ho
      by_cases t6 : s = n
      · have t6' : ((s : Int) != n) = false := by simp [t6]
        have T6 := Lib.hid t6; clear t6
        go_wp2
        go_returns
        exact ⟨ret_int (by rw [HF.out, HS.out, if_pos rfl, if_pos T6.out]), HBW.out⟩
      · have t6' : ((s : Int) != n) = true := by rw [bne_iff_ne]; omega
        have T6 := Lib.hid t6; clear t6
        go_wp2
        go_returns
        exact ⟨ret_int (by rw [HF.out, HS.out, if_pos rfl, if_neg T6.out]), HBW.out⟩

set_option maxHeartbeats 400000 in
theorem formed_any (f : List Mk) (v : Value) (w : World) (hv : MS w v f) :
    Calls Tryd.prog 43 #[v] w fun e w' => e = .returned (.bool (formedS f)) ∧ Below w.heap.size w w' := by
  go_enter Tryd.func43, Tryd.ntmps43
  go_wp2_with (go_at_call 36; go_must (refine (check_formed f _ _ _ hv).mono ?_; rintro e w1 ⟨rfl, hb1⟩))
  go_returns
  exact ⟨ret_bool (by simp [formedS]), hb1⟩

set_option maxRecDepth 100000 in
set_option maxHeartbeats 1000000 in
theorem Check_false (f : List Mk) (v : Value) (vars : Int) (w : World) (hv : MS w v f) :
    Calls Tryd.prog 12 #[v, .int .i64 vars, .bool false] w fun e w' => e = .returned (.int .i64 (checkS f vars false)) ∧ Below w.heap.size w w' := by
  have HV := Lib.hid hv; clear hv
  by_cases h1 : vars < 0
  · go_enter Tryd.func12, Tryd.ntmps12
    go_wp2
    go_returns
    exact ⟨ret_int (by rw [checkS, if_pos (.inl h1)]), by go_grown⟩
  by_cases h2 : 6 < vars
  · go_enter Tryd.func12, Tryd.ntmps12
    go_wp2
    go_returns
    exact ⟨ret_int (by rw [checkS, if_pos (.inr (by simpa using h2))]), by go_grown⟩
  · go_enter Tryd.func12, Tryd.ntmps12
    go_wp2_with (go_at_call 36; go_must (refine (check_Check f _ _ false w.heap.size _ (HV.out.below (Below.alloc (Below.refl _ _) (Nat.le_refl _) _) (Nat.le_refl _)) (by simp) (by go_simp)).mono ?_; rintro e w1 ⟨rfl, hb1⟩))
    go_returns
    exact ⟨ret_int (by rw [checkS, if_neg (by simp; omega)]), (Below.alloc (Below.refl _ _) (Nat.le_refl _) _).trans (hb1.mono (by simp))⟩

set_option maxRecDepth 100000 in
set_option maxHeartbeats 1000000 in
theorem Check_true (f : List Mk) (v : Value) (vars : Int) (w : World) (hv : MS w v f) :
    Calls Tryd.prog 12 #[v, .int .i64 vars, .bool true] w fun e w' => e = .returned (.int .i64 (checkS f vars true)) ∧ Below w.heap.size w w' := by
  have HV := Lib.hid hv; clear hv
  by_cases h1 : vars < 0
  · go_enter Tryd.func12, Tryd.ntmps12
    go_wp2
    go_returns
    exact ⟨ret_int (by rw [checkS, if_pos (.inl h1)]), by go_grown⟩
  by_cases h2 : 3 < vars
  · go_enter Tryd.func12, Tryd.ntmps12
    go_wp2
    go_returns
    exact ⟨ret_int (by rw [checkS, if_pos (.inr (by simpa using h2))]), by go_grown⟩
  · go_enter Tryd.func12, Tryd.ntmps12
    go_wp2_with (go_at_call 36; go_must (refine (check_Check f _ _ true w.heap.size _ (HV.out.below (Below.alloc (Below.refl _ _) (Nat.le_refl _) _) (Nat.le_refl _)) (by simp) (by go_simp)).mono ?_; rintro e w1 ⟨rfl, hb1⟩))
    go_returns
    exact ⟨ret_int (by rw [checkS, if_neg (by simp; omega)]), (Below.alloc (Below.refl _ _) (Nat.le_refl _) _).trans (hb1.mono (by simp))⟩

theorem Check_any (f : List Mk) (v : Value) (vars : Int) (trees : Bool) (w : World) (hv : MS w v f) :
    Calls Tryd.prog 12 #[v, .int .i64 vars, .bool trees] w fun e w' => e = .returned (.int .i64 (checkS f vars trees)) ∧ Below w.heap.size w w' := by
  cases trees
  · exact Check_false f v vars w hv
  · exact Check_true f v vars w hv

end Go.Proofs.YtcjblbhmajdmjaaDoor

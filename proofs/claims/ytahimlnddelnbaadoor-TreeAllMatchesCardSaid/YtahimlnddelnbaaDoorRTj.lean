/- Reference of chapter 15: join. -/
import Derived.Test.YtahimlnddelnbaaDoorRTa
set_option linter.unusedSimpArgs false
set_option linter.unusedVariables false
namespace Go.Proofs.YtahimlnddelnbaaDoor
open Go.RowKit

theorem lab_shift {d : Int} {f : List Lf} {P : Int → Prop} (h : ∀ m ∈ f, P m.label) : ∀ m ∈ shiftS d f, P m.label := by
  intro m hm
  obtain ⟨x, hx, rfl⟩ := List.mem_map.1 hm
  exact h x hx
theorem lab_enc {b : Bt} {P : Int → Prop} (p q : Nat) (h : ∀ m ∈ b.enc p, P m.label) : ∀ m ∈ b.enc q, P m.label := by
  rw [← shift_enc b p q ((q : Int) - p) (by omega)]
  exact lab_shift (P := P) h
theorem lab_left {lab : Int} {l r : Bt} {P : Int → Prop} (h : ∀ m ∈ (Bt.node lab l r).enc 0, P m.label) : ∀ m ∈ l.enc 0, P m.label :=
  lab_enc (P := P) (0 + 1) 0 fun m hm => h m (by simp [Bt.enc, hm])
theorem lab_right {lab : Int} {l r : Bt} {P : Int → Prop} (h : ∀ m ∈ (Bt.node lab l r).enc 0, P m.label) : ∀ m ∈ r.enc 0, P m.label :=
  lab_enc (P := P) (0 + 1 + l.size) 0 fun m hm => h m (by simp only [Bt.enc, List.mem_cons, List.mem_append]; exact .inr (.inr hm))
theorem TO.lit1 {w : World} {B g : Nat} {a b c : Int} (h : Row w g 65 #[.int .u8 a, .int .i64 b, .int .i64 c]) (hB : B ≤ g) (h0 : 0 ≤ a) (h1 : a ≤ 255) : TO w B (.slice (some ⟨g, 0, none⟩) 1 1) [⟨a, b, c⟩] :=
  ⟨by simpa [LbOk] using ⟨h0, h1⟩, rfl, .inr ⟨g, 1, _, rfl, hB, h, Nat.le_refl _, by simp [maxLen], rfl, rfl⟩⟩
theorem take_shift {f : List Lf} {x : Lf} {k : Nat} (d : Int) (hx : f[k]? = some x) : shiftS d (f.take (k + 1)) = shiftS d (f.take k) ++ [shL d x] := by
  rw [List.take_add_one, hx]; simp [shiftS]
/-- What join has made after j parts. -/
def accJ (root : Lf) (l r : List Lf) (j : Nat) : List Lf := if j = 0 then [root] else if j = 1 then root :: shiftS 1 l else root :: (shiftS 1 l ++ shiftS (1 + (l.length : Int)) r)
theorem accJ_len (root : Lf) (l r : List Lf) (j : Nat) : (accJ root l r j).length ≤ 1 + l.length + r.length := by
  unfold accJ
  split
  · simp; omega
  · split
    · simp [shiftS_len]; omega
    · simp [shiftS_len]; omega

set_option maxRecDepth 100000 in
set_option maxHeartbeats 16000000 in
theorem rjoin_any (lab : Int) (l r : List Lf) (v u : Value) (w : World) (hv : TS w v l) (hu : TS w u r) (h0 : 0 ≤ lab) (h1 : lab ≤ 255) (hl : l.length ≤ 1000) (hr : r.length ≤ 1000) (kl : KidBd l) (kr : KidBd r) :
    Calls Tryd.prog 86 #[.int .u8 lab, v, u] w (RetTO w (joinT lab l r)) := by
  have HV := Lib.hid hv
  have HU := Lib.hid hu
  obtain ⟨A, c, rfl⟩ := hv.form
  obtain ⟨A2, c2, rfl⟩ := hu.form
  obtain ⟨root, hroot⟩ : ∃ m : Lf, m = ⟨lab, if l.length = 0 then -1 else 1, if r.length = 0 then -1 else 1 + (l.length : Int)⟩ := ⟨_, rfl⟩
  have HJT := Lib.hid (show joinT lab l r = accJ root l r 2 by rw [hroot]; rfl)
  have ha0 : accJ root l r 0 = [root] := rfl
  have ha1 : accJ root l r 1 = accJ root l r 0 ++ shiftS 1 l := rfl
  have ha2 : accJ root l r 2 = accJ root l r 1 ++ shiftS (1 + (l.length : Int)) r := rfl
  have hlen0 : (accJ root l r 0).length = 1 := rfl
  have hlen1 : (accJ root l r 1).length = 1 + l.length := by rw [ha1, List.length_append, shiftS_len]; rfl
  generalize accJ root l r = acc at *
  obtain ⟨la, hla⟩ : ∃ k, k = l.length := ⟨_, rfl⟩
  obtain ⟨lb, hlb⟩ : ∃ k, k = r.length := ⟨_, rfl⟩
  rw [← hla] at HV hroot hl hlen1 ha2 ⊢
  rw [← hlb] at HU hroot hr ⊢
  have HLA := Lib.hid hla; have HLB := Lib.hid hlb
  have HKL := Lib.hid kl; have HKR := Lib.hid kr
  have HA0 := Lib.hid ha0; have HA1 := Lib.hid ha1; have HA2 := Lib.hid ha2; have HL0 := Lib.hid hlen0; have HL1 := Lib.hid hlen1
  clear hv hu hla hlb kl kr ha0 ha1 ha2 hlen0 hlen1
  have hcase : ((decide (0 < la) = false ∧ root.left = -1) ∨ (decide (0 < la) = true ∧ root.left = 1)) ∧ ((decide (0 < lb) = false ∧ root.right = -1) ∨ (decide (0 < lb) = true ∧ root.right = 1 + (la : Int))) ∧ root.label = lab := by
    subst hroot
    refine ⟨?_, ?_, rfl⟩
    · by_cases ha : la = 0
      · exact .inl ⟨decide_eq_false (by omega), by simp only; rw [if_pos ha]⟩
      · exact .inr ⟨decide_eq_true (by omega), by simp only; rw [if_neg ha]⟩
    · by_cases hb : lb = 0
      · exact .inl ⟨decide_eq_false (by omega), by simp only; rw [if_pos hb]⟩
      · exact .inr ⟨decide_eq_true (by omega), by simp only; rw [if_neg hb]⟩
  clear hroot
  obtain ⟨rl, rx, ry⟩ := root
  simp only at hcase
  obtain ⟨hca, hcb, rfl⟩ := hcase
  rcases hca with ⟨ha, rfl⟩ | ⟨ha, rfl⟩ <;> rcases hcb with ⟨hb, rfl⟩ | ⟨hb, rfl⟩
  all_goals
    go_enter Tryd.func86, Tryd.ntmps86
    go_wp2
    refine wp_abs (fun W => Row W (w.heap.size + 2) 39 #[.slice A la c, .slice A2 lb c2] ∧ Below w.heap.size w W ∧ TO W w.heap.size (.slice (some ⟨w.heap.size + 1, 0, none⟩) 1 1) (acc 0)) ?_ ?_
    · refine ⟨Row.lit (by simp only [World.size_alloc]), by go_grown, ?_⟩
      rw [HA0.out]
      exact TO.lit1 (Row.alloc (Row.lit (by first | rfl | simp only [World.size_alloc])) _) (by omega) h0 h1
    clear ha hb
    rintro wc ⟨hrow, hbe, hto⟩
    have HRW := Lib.hid hrow; have HBE := Lib.hid hbe; have HTO := Lib.hid hto
    clear hrow hbe hto
    go_loopg [8, 10] 2 (fun gk q s wr => ∃ j : Nat, j ≤ 2 ∧ gk = 2 - j ∧ s = .int .i64 j ∧ TO wr w.heap.size q (acc j) ∧ Row wr (w.heap.size + 2) 39 #[.slice A la c, .slice A2 lb c2] ∧ Below w.heap.size w wr)
    case atStart => exact ⟨0, by omega, rfl, rfl, HTO.out, HRW.out, HBE.out⟩
    case round =>
      clear HTO HRW HBE
      obtain ⟨j, hj, rfl, rfl, hto, hrow, hbe⟩ := hrel
      by_cases hj2 : j < 2
      · have hpart : ∃ (f : List Lf) (nf : Nat) (Af : Option Addr) (cf a0 : Nat), (#[.slice A la c, .slice A2 lb c2] : Array Value)[j]? = some (.slice Af nf cf) ∧ TS w (.slice Af nf cf) f ∧ nf = f.length ∧ nf ≤ 1000 ∧ KidBd f ∧ (acc j).length = a0 ∧ a0 ≤ 1001 ∧ acc (j + 1) = acc j ++ shiftS (a0 : Int) f := by
          have hj3 : j = 0 ∨ j = 1 := by omega
          rcases hj3 with rfl | rfl
          · exact ⟨l, la, A, c, 1, rfl, HV.out, HLA.out, hl, HKL.out, HL0.out, by omega, HA1.out⟩
          · exact ⟨r, lb, A2, c2, 1 + la, rfl, HU.out, HLB.out, hr, HKR.out, HL1.out, by omega, by rw [HA2.out, Int.natCast_add]; rfl⟩
        obtain ⟨f, nf, Af, cf, a0, hp, htf, hnf, hnf1, hkf, hal, ha0, hacc⟩ := hpart
        obtain ⟨A9, c9, rfl⟩ := hto.ts.form
        rw [hal] at hto ⊢
        have rp : wr.cell? ⟨w.heap.size + 2, j, none⟩ = some (.slice Af nf cf) := by rw [hrow.cell]; exact hp
        have HF := Lib.hid htf; have HNF := Lib.hid hnf; have HKF := Lib.hid hkf; have HAC := Lib.hid hacc; have HAL := Lib.hid hal
        have HTO := Lib.hid hto; have HRW := Lib.hid hrow; have HBE := Lib.hid hbe
        have hji : (j : Int) < 2 := by omega
        clear hp htf hnf hkf hacc hal hto hrow hbe HV HU HLA HLB HKL HKR HA1 HA2 HL0 HL1 HA0
        go_wp2
        obtain ⟨wo, hwo⟩ : ∃ x, x = wr := ⟨_, rfl⟩
        subst hwo
        go_loopg [8, 12] nf (fun gk q s wx => ∃ k : Nat, k ≤ nf ∧ gk = nf - k ∧ s = .int .i64 k ∧ TO wx w.heap.size q (acc j ++ shiftS (a0 : Int) (f.take k)) ∧ Row wx (w.heap.size + 2) 39 #[.slice A la c, .slice A2 lb c2] ∧ wx.cell? ⟨w.heap.size + 2, j, none⟩ = some (.slice Af nf cf) ∧ Below w.heap.size w wx)
        case atStart => exact ⟨0, by omega, rfl, rfl, by simpa [shiftS] using HTO.out, HRW.out, rp, HBE.out⟩
        case round =>
          clear HTO HRW HBE rp
          obtain ⟨k, hk, rfl, rfl, hto, hrow, rp, hbe⟩ := hrel
          have HO := Lib.hid hto; have HRW := Lib.hid hrow; have HB := Lib.hid hbe
          have HVr := Lib.hid (HF.out.below hbe (Nat.le_refl _))
          have hzs := hbe.size
          clear hto hrow hbe
          by_cases hlt : k < nf
          · obtain ⟨x, hx⟩ : ∃ x, f[k]? = some x := ⟨f[k]'(by rw [← HNF.out]; omega), List.getElem?_eq_getElem _⟩
            obtain ⟨l1, l2⟩ := HF.out.lb x (List.mem_of_getElem? hx)
            obtain ⟨⟨b1, b2⟩, b3, b4⟩ := HKF.out x (List.mem_of_getElem? hx)
            obtain ⟨b, o, rfl⟩ := HVr.out.addr (by rw [← HNF.out]; omega)
            obtain ⟨c0, c1, c2'⟩ := HVr.out.at3 hx
            have HS := Lib.hid (take_shift (a0 : Int) hx)
            obtain ⟨cur, hcur⟩ : ∃ c, c = acc j ++ shiftS (a0 : Int) (f.take k) := ⟨_, rfl⟩
            have hcl : cur.length ≤ 3000 := by rw [hcur, List.length_append, HAL.out, shiftS_len, List.length_take]; omega
            rw [← hcur] at HO
            obtain ⟨lb', xl, xr⟩ := x
            simp only at c0 c1 c2' l1 l2 b1 b2 b3 b4
            obtain ⟨ml, hml'⟩ : ∃ z, z = mvd xl (a0 : Int) := ⟨_, rfl⟩
            obtain ⟨mr, hmr'⟩ : ∃ z, z = mvd xr (a0 : Int) := ⟨_, rfl⟩
            have HS2 : Hid (acc j ++ shiftS (a0 : Int) (f.take (k + 1)) = cur ++ [⟨lb', ml, mr⟩]) := by rw [Hid, HS.out, hml', hmr', hcur, List.append_assoc]; rfl
            have hcase : ((xl != -1) = false ∧ xl = -1 ∧ ml = -1) ∨ ((xl != -1) = true ∧ ml = xl + a0) := by
              by_cases h : xl = -1
              · exact .inl ⟨by rw [h]; decide, h, by rw [hml', h]; rfl⟩
              · exact .inr ⟨by simp [h], by rw [hml']; unfold mvd; rw [if_neg h]⟩
            have hcase2 : ((xr != -1) = false ∧ xr = -1 ∧ mr = -1) ∨ ((xr != -1) = true ∧ mr = xr + a0) := by
              by_cases h : xr = -1
              · exact .inl ⟨by rw [h]; decide, h, by rw [hmr', h]; rfl⟩
              · exact .inr ⟨by simp [h], by rw [hmr']; unfold mvd; rw [if_neg h]⟩
            clear hx HS hcur hml' hmr'
            rcases hcase with ⟨_, rfl, rfl⟩ | ⟨e1, rfl⟩ <;> rcases hcase2 with ⟨_, rfl, rfl⟩ | ⟨e2, rfl⟩
            all_goals
              go_wp2_with (at_builtin; go_must (refine wpList_append_ts rfl (.tmp 70) (.tmp 72) rfl w.heap.size _ cur rfl (HO.out.below (B' := wr.heap.size) (by go_grown) (Nat.le_refl _)) _ [⟨lb', _, _⟩] rfl (TS.one (by first | exact Row.new _ _ _ | exact Row.lit (by simp only [World.size_alloc])) (by omega) (by omega)) (by simp only [List.length_cons, List.length_nil]; omega) (by simp only [World.size_alloc]; omega) ?_; intro v3 w3 ho3 hg3 _))
              have HB3 := Lib.hid (own_below_t (w := w) (g := []) (v' := v3) (by have h1 := HB.out; go_grown) (HO.out.below (B' := wr.heap.size) (by go_grown) (Nat.le_refl _)) hg3 (by simp only [World.size_alloc]; omega))
              have HRW3 := Lib.hid (Row.far_own (Row.alloc (Row.alloc HRW.out _) _) (by decide) (HO.out.below (B' := wr.heap.size) (by go_grown) (Nat.le_refl _)).2 hg3)
              have rp3 : w3.cell? ⟨w.heap.size + 2, j, none⟩ = some (.slice (some ⟨b, o, none⟩) nf cf) := by rw [HRW3.out.cell, ← HRW.out.cell]; exact rp
              rw [← HS2.out] at ho3
              have HO3 := Lib.hid ho3; clear ho3 hg3
              clear rp
              go_wp2
              go_roundg (nf - (k + 1))
              case rel => exact ⟨k + 1, by omega, rfl, by go_num, HO3.out, HRW3.out, rp3, HB3.out⟩
              case measure => omega
          · have hkm' : k = nf := by omega
            subst hkm'
            have ho := HO.out
            rw [List.take_of_length_le (by rw [← HNF.out]; exact Nat.le_refl _), ← HAC.out] at ho
            have HO2 := Lib.hid ho
            clear ho HO
            go_wp2
            go_roundg (2 - (j + 1))
            case rel => exact ⟨j + 1, by omega, rfl, by go_num, HO2.out, HRW.out, HB.out⟩
            case measure => omega
      · have hj3 : j = 2 := by omega
        subst hj3
        have HTO := Lib.hid hto; have HBE := Lib.hid hbe
        clear hto hrow hbe
        go_wp2
        go_returns
        exact ⟨_, rfl, HBE.out, by rw [HJT.out]; exact HTO.out⟩
end Go.Proofs.YtahimlnddelnbaaDoor

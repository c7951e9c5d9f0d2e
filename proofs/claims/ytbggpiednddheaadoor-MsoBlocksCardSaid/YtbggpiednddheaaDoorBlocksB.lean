/- MsoBlocks, a formula whose last node has two children. -/
import Derived.Test.YtbggpiednddheaaDoorBlocks
set_option linter.unusedSimpArgs false
set_option linter.unusedVariables false
namespace Go.Proofs.YtbggpiednddheaaDoor
open Go.RowKit

theorem MS.mid {w : World} {b n c : Nat} {f : List Mk} (h : MS w (.slice (some ⟨b, 0, none⟩) n c) f) (lo hi : Nat) (h1 : lo < hi) (h2 : hi ≤ n) : MS w (.slice (some ⟨b, lo * 5, none⟩) (hi - lo) (c - lo)) ((f.drop lo).take (hi - lo)) := by
  obtain ⟨h0, A1, c1, hv, h3, h4, h5⟩ := h
  simp only [Value.slice.injEq] at hv
  obtain ⟨rfl, rfl, rfl⟩ := hv
  have hl : ((f.drop lo).take (hi - lo)).length = hi - lo := by rw [List.length_take, List.length_drop]; omega
  refine ⟨fun m hm => h0 m (List.mem_of_mem_drop (List.mem_of_mem_take hm)), some ⟨b, lo * 5, none⟩, c - lo, by rw [hl], by omega, by omega, fun _ => ?_⟩
  obtain ⟨b', o', hA, hb, hm⟩ := h5 (by omega)
  cases hA
  refine ⟨b, lo * 5, rfl, hb, fun i m hi2 => ?_⟩
  rw [List.getElem?_take] at hi2
  by_cases hik : i < hi - lo
  · rw [if_pos hik, List.getElem?_drop] at hi2
    have := hm (lo + i) m hi2
    rwa [show 0 + (lo + i) * 5 = lo * 5 + i * 5 by omega] at this
  · rw [if_neg hik] at hi2; cases hi2

theorem MO.drew {w : World} {B : Nat} {v : Value} {f : List Mk} (h : MO w B v f) : MO w.drew B v f := h
theorem node_ops {m : Mk} (h : nm m.op ≠ []) : (nc m.op = 0 → m.op < 9) ∧ (nc m.op = 1 → 9 ≤ m.op ∧ m.op ≠ 10 ∧ m.op ≠ 11) ∧ (nc m.op = 2 → m.op = 10 ∨ m.op = 11) := by
  have hr := nm_range h
  unfold nc
  by_cases h1 : m.op = 10 ∨ m.op = 11
  · rw [if_pos h1]; omega
  · rw [if_neg h1]
    by_cases h2 : m.op = 9 ∨ (12 ≤ m.op ∧ m.op ≤ 15)
    · rw [if_pos h2]; omega
    · rw [if_neg h2]; omega

set_option maxRecDepth 100000 in
set_option maxHeartbeats 8000000 in
theorem blocks_bin (f g : List Mk) (op lx ly : Int) (R : ByteArray) (na nb : Nat) (a b : Tr) (v : Value) (w : World) (hv : MS w v f) (hk : BK f g ⟨op, lx, ly, (na : Int) - 1, (na : Int) + nb - 1⟩ R (na + nb + 1)) (hop : op = 10 ∨ op = 11)
    (hta : g.take na = a.enc 0) (htb : (g.drop na).take nb = b.enc na) (oka : a.ok) (okb : b.ok) (hsa : a.size = na) (hsb : b.size = nb) (hg : joinS op (a.enc 0) (b.enc 0) = (g, 0)) :
    Calls Tryd.prog 9 #[v] w fun e w' => e = .returned (.bool true) ∧ Below w.heap.size w w' := by
  have HV := Lib.hid hv
  obtain ⟨_, A, c, rfl, _⟩ := hv
  have hop2 := hk.op
  dsimp only at hop2
  have hle := hk.le
  have hpa : 1 ≤ na := by rw [← hsa]; exact a.size_pos
  have hpb : 1 ≤ nb := by rw [← hsb]; exact b.size_pos
  have hea : (a.enc 0).length = na := by rw [Tr.enc_len, hsa]
  have heb : (b.enc na).length = nb := by rw [Tr.enc_len, hsb]
  have HK := Lib.hid hk; have HTA := Lib.hid hta; have HTB := Lib.hid htb; have HEA := Lib.hid hea; have HEB := Lib.hid heb
  have HJ := Lib.hid fun W u x (h1 : MS W u (a.enc 0)) (h2 : MS W x (b.enc 0)) => (show Calls Tryd.prog 29 #[.int .u8 op, u, x] W (RetFE W g 0) from by have q := Join_any op (a.enc 0) (b.enc 0) u x W h1 h2 hop2.1 hop2.2; rw [hg] at q; exact q)
  have HFA := Lib.hid fun W u (h : MS W u (a.enc 0)) => (show Calls Tryd.prog 38 #[u] W (fun e w' => e = .returned (.bool true) ∧ Below W.heap.size W w') from by have q := formed_law u (a.enc 0) W h; rw [formed_enc a oka (by omega)] at q; exact q)
  have HFB := Lib.hid fun W u (h : MS W u (b.enc 0)) => (show Calls Tryd.prog 38 #[u] W (fun e w' => e = .returned (.bool true) ∧ Below W.heap.size W w') from by have q := formed_law u (b.enc 0) W h; rw [formed_enc b okb (by omega)] at q; exact q)
  have HNM := Lib.hid fun m (hm : m ∈ b.enc na) => b.enc_node okb na m hm
  have HSM := Lib.hid fun m (hm : m ∈ b.enc na) => b.enc_small na m hm
  have HDN := Lib.hid (enc_down b okb na)
  rw [hsb] at HSM
  clear hk hta htb hea heb hg oka okb hsa hsb hop2
  go_enter Tryd.func9, Tryd.ntmps9
  have hop3 : op = 10 ∨ op = 11 := hop
  have HOPC := Lib.hid hop3; clear hop hop3
  go_upto_region 6 with (first
    | (go_at_call 13; go_must (refine (HK.out.few _ _ HV.out).mono ?_; rintro e w2 ⟨v2, rfl, hb2, ho2⟩; obtain ⟨gb, cap, rfl, hg1, hg2⟩ := ho2.shape HK.out.len (by omega); have HO := Lib.hid ho2.ms; have hcapn := HO.out.capn; have HB := Lib.hid hb2; have HB2 : Hid (Below w2.heap.size w2 w2) := Below.refl _ _; clear hb2 ho2))
    | (go_at_call 38; go_must (refine (HK.out.form _ _ (HO.out.below HB2.out (Nat.le_refl _))).mono ?_; rintro e w3 ⟨rfl, hb⟩; replace HB := Lib.hid (chain (Nat.le_refl _) HB.out (Below.refl _ _) hb); replace HB2 := Lib.hid (chain (Nat.le_refl _) HB2.out (Below.refl _ _) hb); clear hb; obtain ⟨c0, c1, c2, c3, c4⟩ := (HO.out.below HB2.out (Nat.le_refl _)).at5 HK.out.last; simp only [Nat.zero_add, Nat.add_sub_cancel] at c0 c1 c2 c3 c4))
    | (go_at_call 31; go_must (refine (HK.out.fmt _ _ (HO.out.below (B := w2.heap.size) (Below.alloc HB2.out HB2.out.size _) (Nat.le_refl _))).mono ?_; rintro e w4 ⟨rfl, hb⟩; obtain ⟨x0, x1, x2, x3⟩ := after1 hb; replace HB := Lib.hid (chain (Nat.le_refl _) HB.out (by go_grown) hb); replace HB2 := Lib.hid (chain (Nat.le_refl _) HB2.out (by go_grown) hb); clear hb c0 c1 c2 c3 c4)))
  have X3 := Lib.hid x3
  have x00 := x0 0
  go_cut [33] (fun v wx => v = .bool true ∧ w4 = wx)
  case first =>
    rcases HOPC.out with rfl | rfl
    all_goals
      go_wp2_with fail
      go_meet
      exact ⟨rfl, rfl⟩
  case rest =>
    obtain ⟨rfl, rfl⟩ := hcut
    clear x00
    have q1 : IntKind.i64.wrap ((na : Int) - 1 + 1) = (na : Int) := by rw [i64_wrap (by omega) (by omega)]; omega
    have q2 : IntKind.i64.wrap (na : Int) = (na : Int) := i64_wrap (by omega) (by omega)
    have q3 : IntKind.i64.wrap ((na : Int) + nb - 1 + 1) = (na : Int) + nb := by rw [i64_wrap (by omega) (by omega)]; omega
    have q4 : IntKind.i64.wrap ((na : Int) + nb) = (na : Int) + nb := i64_wrap (by omega) (by omega)
    have q5 : ((na : Int) + nb).toNat = na + nb := by omega
    have q6 : (na : Int) ≤ cap := by omega
    have q7 : (na : Int) + nb ≤ cap := by omega
    have q8 : ¬ cap = na := by omega
    have q9 : na + nb - na = nb := by omega
    have q10 : (0 : Int) ≤ (na : Int) + nb := by omega
    have q11 : (na : Int) ≤ (na : Int) + nb := by omega
    have HCA : Hid (∀ W, Below w2.heap.size w2 W → MS W (.slice (some ⟨gb, 0, none⟩) na cap) (a.enc 0)) := fun W h => HTA.out ▸ (HO.out.below h (Nat.le_refl _)).cut na (by omega) _ (fun _ => rfl)
    have HCB : Hid (∀ W, Below w2.heap.size w2 W → MS W (.slice (some ⟨gb, na * 5, none⟩) nb (cap - na)) (b.enc na)) := fun W h => by
      have q := (HO.out.below h (Nat.le_refl _)).mid na (na + nb) (by omega) (by omega)
      rw [q9, HTB.out] at q
      exact q
    have x4 := HB2.out.size
    have X0 := Lib.hid x0
    go_wp2_with fail
    go_cut [7, 8] (fun u1 u2 wx => ∃ g1 cap1 g2 cap2, u1 = .slice (some ⟨g1, 0, none⟩) na cap1 ∧ u2 = .slice (some ⟨g2, 0, none⟩) nb cap2 ∧ w4.heap.size ≤ g1 ∧ g1 < g2 ∧ MS wx (.slice (some ⟨g1, 0, none⟩) na cap1) (a.enc 0) ∧ MO wx (g1 + 1) (.slice (some ⟨g2, 0, none⟩) nb cap2) (b.enc na) ∧ Below w4.heap.size w4 wx)
    case first =>
      go_region_law (first
        | (go_simp; go_at_call 35; refine (copy_any (a.enc 0) (.slice (some ⟨gb, 0, none⟩) na cap) _ (HCA.out _ HB2.out.drew) (by rw [HEA.out]; omega)).mono ?_; rintro e w5 ⟨v5, rfl, hb5, ho5⟩; obtain ⟨g1, cap1, rfl, hga, hgb⟩ := ho5.shape HEA.out.symm (by omega); have HO5 := Lib.hid ho5.ms; have HB5 : Hid (Below w4.heap.size w4 w5) := ⟨hb5.os, hb5.tape, hb5.output, hb5.size, hb5.block⟩; have y0 : (∀ j, w5.cell? ⟨w3.heap.size, j, none⟩ = _) := (fun j => (HB5.out.cell (p := ⟨w3.heap.size, j, none⟩) x2).trans (X0.out j)); clear hb5 ho5; try go_simp)
        | (go_simp; go_at_call 35; go_must (refine (copy_any (b.enc na) (.slice (some ⟨gb, na * 5, none⟩) nb (cap - na)) _ (HCB.out _ (HB2.out.trans (HB5.out.mono x4))) (by rw [HEB.out]; omega)).mono ?_; rintro e w6 ⟨v6, rfl, hb6, ho6⟩; obtain ⟨g2, cap2, rfl, hgc, hgd⟩ := ho6.shape HEB.out.symm (by omega); have HO6 := Lib.hid ho6; have HB6 := Lib.hid hb6; clear hb6 ho6; try go_simp)))
      all_goals
        go_wp2_with fail
        go_meet
        exact ⟨g1, cap1, g2, cap2, rfl, rfl, hga, by omega, HO5.out.below HB6.out (Nat.le_refl _), HO6.out.mono (by omega), HB5.out.trans (HB6.out.mono HB5.out.size)⟩
    case rest =>
      obtain ⟨g1, cap1, g2, cap2, rfl, rfl, hg3, hg4, hm1, ho2, hbc⟩ := hcut
      rename_i wc
      have hno : ¬ w3.heap.size = g2 := by omega
      have h8 : w3.heap.size < wc.heap.size := by have := hbc.size; omega
      have X1 : Hid (∀ j, wc.cell? ⟨w3.heap.size, j, none⟩ = _) := fun j => (hbc.cell (p := ⟨w3.heap.size, j, none⟩) x2).trans (X0.out j)
      have HBC := Lib.hid hbc; have HM1 := Lib.hid hm1; have HO2 := Lib.hid ho2
      clear hbc hm1 ho2 x0 x1 X0 q1 q2 q3 q4 q5 q6 q7 q8 q9 q10 q11
      go_wp2_with fail
      go_loopg [9] nb (fun gk q wr => ∃ k : Nat, k ≤ nb ∧ gk = nb - k ∧ q = .int .i64 k ∧ Keep (· = g2) wc wr ∧ g2 < wr.heap.size ∧ MO wr (g1 + 1) (.slice (some ⟨g2, 0, none⟩) nb cap2) (((b.enc na).take k).map (mv (-(na : Int))) ++ (b.enc na).drop k))
      case atStart => exact ⟨0, Nat.zero_le _, rfl, rfl, Keep.refl _ _, HO2.out.lt_own (by rw [HEB.out]; omega), by simpa using HO2.out⟩
      case round =>
        obtain ⟨k, hk, rfl, rfl, hkp, hgw, ho⟩ := hrel
        have X2 : Hid (∀ j, wr.cell? ⟨w3.heap.size, j, none⟩ = _) := fun j => (hkp.cell h8 hno j).trans (X1.out j)
        have x2' := X2.out
        have HKP := Lib.hid hkp; clear hkp
        have HOL := Lib.hid ho; clear ho
        by_cases hlt : k < nb
        · obtain ⟨m, hm⟩ : ∃ m, (b.enc na)[k]? = some m := ⟨(b.enc na)[k]'(by rw [HEB.out]; exact hlt), List.getElem?_eq_getElem _⟩
          have hmm := List.mem_of_getElem? hm
          have hnm := (HNM.out m hmm).1
          obtain ⟨s1, s2, s3, s4⟩ := HSM.out m hmm
          have hrg := nm_range hnm
          obtain ⟨p0, p1, p2⟩ := node_ops hnm
          have hget := mv_get (-(na : Int)) (b.enc na) k m hm
          have hstep := mv_step (-(na : Int)) (b.enc na) k m hm
          have hlen : (((b.enc na).take k).map (mv (-(na : Int))) ++ (b.enc na).drop k).length = nb := by rw [List.length_append, List.length_map, List.length_take, List.length_drop, HEB.out]; omega
          have HG := Lib.hid hget; have HST := Lib.hid hstep; have HL := Lib.hid hlen
          clear hget hstep hlen hnm hmm
          generalize ((b.enc na).take k).map (mv (-(na : Int))) ++ (b.enc na).drop k = L at *
          obtain ⟨c0, c1, c2, c3, c4⟩ := HOL.out.ms.at5 HG.out
          simp only [Nat.zero_add] at c0 c1 c2 c3 c4
          have HM := Lib.hid hm; clear hm
          have f3 := own_free HOL.out (k * 5 + 3)
          have f4 := own_free HOL.out (k * 5 + 4)
          have hk5 : k * 5 + 3 < nb * 5 ∧ k * 5 + 4 < nb * 5 := by omega
          have r1 : IntKind.i64.wrap (m.a - ((na : Int) - 1)) = m.a - ((na : Int) - 1) := i64_wrap (by omega) (by omega)
          have r2 : IntKind.i64.wrap (m.a - ((na : Int) - 1) - 1) = m.a - ((na : Int) - 1) - 1 := i64_wrap (by omega) (by omega)
          have r3 : IntKind.i64.wrap (m.b - ((na : Int) - 1)) = m.b - ((na : Int) - 1) := i64_wrap (by omega) (by omega)
          have r4 : IntKind.i64.wrap (m.b - ((na : Int) - 1) - 1) = m.b - ((na : Int) - 1) - 1 := i64_wrap (by omega) (by omega)
          have mm : 0 ≤ m.op ∧ m.op ≤ 255 := by omega
          clear s1 s2 s3 s4 hrg
          rcases nc_cases m.op with h0 | h0 | h0
          · have l1 : m.op < 9 := p0 h0
            have l2 : (m.op == 10) = false := by rw [beq_eq_false_iff_ne]; omega
            have l3 : (m.op == 11) = false := by rw [beq_eq_false_iff_ne]; omega
            clear p0 p1 p2
            have HN0 := Lib.hid h0; clear h0
            go_wp2_with fail
            go_roundg (nb - (k + 1))
            case rel =>
              have e : mv (-(na : Int)) m = m := by unfold mv; rw [HN0.out]; simp
              exact ⟨k + 1, hlt, rfl, rfl, HKP.out, hgw, by rw [← HST.out, e, set_same HG.out]; exact HOL.out⟩
            case measure => omega
          · obtain ⟨l1, l2, l3⟩ := p1 h0
            have l2 : (m.op == 10) = false := by rw [beq_eq_false_iff_ne]; omega
            have l3 : (m.op == 11) = false := by rw [beq_eq_false_iff_ne]; omega
            clear p0 p1 p2
            have HN0 := Lib.hid h0; clear h0
            go_wp2_with fail
            first | go_region_law (fail) | fail
            all_goals
              go_wp2_with fail
              go_roundg (nb - (k + 1))
              case rel =>
                have e0 : m.a + -(na : Int) = m.a - ((na : Int) - 1) - 1 := by omega
                have e : mv (-(na : Int)) m = { m with a := m.a - ((na : Int) - 1) - 1 } := by unfold mv; rw [HN0.out, if_pos (by decide), if_neg (by decide), e0]
                exact ⟨k + 1, hlt, rfl, rfl, (HKP.out.set (p := ⟨g2, k * 5 + 3, none⟩) (.inl rfl) _).drew, by simpa using hgw, by rw [← HST.out, e]; exact MO.drew (set_mark (m' := { m with a := m.a - ((na : Int) - 1) - 1 }) HOL.out HL.out HG.out 3 _ ⟨mm.1, mm.2⟩ rfl (by omega))⟩
              case measure => omega
          · have hop := p2 h0
            have l1 : 9 ≤ m.op := by omega
            have HN0 := Lib.hid h0; clear h0
            clear p0 p1 p2
            have hcs : (m.op == 10) = true ∨ ((m.op == 10) = false ∧ (m.op == 11) = true) := by
              rcases hop with h | h
              · left; rw [h]; rfl
              · right; rw [h]; exact ⟨rfl, rfl⟩
            clear hop
            rcases hcs with l2 | ⟨l2, l3⟩
            all_goals
              go_wp2_with fail
              first | go_region_law (fail) | fail
            all_goals
              go_upto_region 14 with fail
              refine wp_abs (fun W => Keep (· = g2) wc W ∧ MO W (g1 + 1) (.slice (some ⟨g2, 0, none⟩) nb cap2) (L.set k { m with a := m.a - ((na : Int) - 1) - 1 })) ⟨(HKP.out.set (p := ⟨g2, k * 5 + 3, none⟩) (.inl rfl) (.int .i64 (m.a - ((na : Int) - 1) - 1))).drew, MO.drew (set_mark (m' := { m with a := m.a - ((na : Int) - 1) - 1 }) HOL.out HL.out HG.out 3 (.int .i64 (m.a - ((na : Int) - 1) - 1)) ⟨mm.1, mm.2⟩ rfl (by omega))⟩ ?_
              rintro wq ⟨hkq, hoq⟩
              have hgk : (L.set k { m with a := m.a - ((na : Int) - 1) - 1 })[k]? = some { m with a := m.a - ((na : Int) - 1) - 1 } := List.getElem?_set_self (by rw [HL.out]; exact hlt)
              have HGK := Lib.hid hgk; have HKQ := Lib.hid hkq; have HOQ := Lib.hid hoq
              have hgq : g2 < wq.heap.size := hoq.lt_own (by rw [List.length_set, HL.out]; omega)
              have x2q : ∀ j, wq.cell? ⟨w3.heap.size, j, none⟩ = _ := fun j => (hkq.cell h8 hno j).trans (X1.out j)
              clear hgk hkq hoq c0 c1 c2 c3 c4 f3 f4 x2'
              obtain ⟨c0, c1, c2, c3, c4⟩ := HOQ.out.ms.at5 HGK.out
              simp only [Nat.zero_add] at c0 c1 c2 c3 c4
              have f4 := own_free HOQ.out (k * 5 + 4)
              go_wp2_with fail
              first | go_region_law (fail) | fail
            all_goals
              go_wp2_with fail
              go_roundg (nb - (k + 1))
              case rel =>
                have e0 : m.a + -(na : Int) = m.a - ((na : Int) - 1) - 1 := by omega
                have e1 : m.b + -(na : Int) = m.b - ((na : Int) - 1) - 1 := by omega
                have e : mv (-(na : Int)) m = { m with a := m.a - ((na : Int) - 1) - 1, b := m.b - ((na : Int) - 1) - 1 } := by unfold mv; rw [HN0.out, if_pos (by decide), if_pos (by decide), e0, e1]
                have q2 := set_mark (m' := { m with a := m.a - ((na : Int) - 1) - 1, b := m.b - ((na : Int) - 1) - 1 }) HOQ.out (by rw [List.length_set]; exact HL.out) HGK.out 4 (.int .i64 (m.b - ((na : Int) - 1) - 1)) ⟨mm.1, mm.2⟩ rfl (by omega)
                rw [List.set_set] at q2
                exact ⟨k + 1, hlt, rfl, rfl, (HKQ.out.set (p := ⟨g2, k * 5 + 4, none⟩) (.inl rfl) _).drew, by simpa using hgq, by rw [← HST.out, e]; exact MO.drew q2⟩
              case measure => omega
        · have hkn : k = nb := by omega
          have hbb := HOL.out.ms
          rw [hkn, List.take_of_length_le (by rw [HEB.out]; exact Nat.le_refl _), List.drop_eq_nil_of_le (by rw [HEB.out]; exact Nat.le_refl _), List.append_nil, HDN.out] at hbb
          have HBB := Lib.hid hbb; clear hbb
          have HA := Lib.hid (HM1.out.keep (S := (· = g2)) (fun b0 hb0 => by simp only [Value.ownBlock, Option.some.injEq] at hb0; omega) HKP.out)
          have hz1 := HB.out.size
          have hz2 := HBC.out.size
          have HBR : Hid (Below w.heap.size w wr) := (HB.out.trans (HBC.out.mono hz1)).trans (HKP.out.below (by omega) (fun k hk hx => by omega))
          have HBR2 : Hid (Below w2.heap.size w2 wr) := (HB2.out.trans (HBC.out.mono x4)).trans (HKP.out.below (by omega) (fun k hk hx => by omega))
          go_wp2_with (first
            | (go_at_call 29; go_must (refine (HJ.out _ _ _ HA.out HBB.out).mono ?_; rintro e w5 ⟨v5, rfl, hb, ho5⟩; have HG5 := Lib.hid ho5.ms; replace HBR := Lib.hid (chain (Nat.le_refl _) HBR.out (Below.refl _ _) hb); replace HBR2 := Lib.hid (chain (Nat.le_refl _) HBR2.out (Below.refl _ _) hb); have HBJ : Hid (Below wr.heap.size wr w5) := hb; have HBN : Hid (Below w5.heap.size w5 w5) := Below.refl _ _; clear hb ho5))
            | (go_at_call 38; go_must ((first | with_reducible refine (HFA.out _ _ (HA.out.below HBJ.out (Nat.le_refl _))).mono ?_ | with_reducible refine (HFB.out _ _ (HBB.out.below HBJ.out (Nat.le_refl _))).mono ?_); rintro e w6 ⟨rfl, hb⟩; replace HBR := Lib.hid (chain (Nat.le_refl _) HBR.out (Below.refl _ _) hb); replace HBR2 := Lib.hid (chain (Nat.le_refl _) HBR2.out (Below.refl _ _) hb); replace HBJ := Lib.hid (chain (Nat.le_refl _) HBJ.out (Below.refl _ _) hb); replace HBN := Lib.hid (chain (Nat.le_refl _) HBN.out (Below.refl _ _) hb); clear hb))
            | (go_at_call 25; go_must (refine (HK.out.eq _ _ _ (HG5.out.below HBN.out (Nat.le_refl _)) (HO.out.below HBR2.out (Nat.le_refl _))).mono ?_; rintro e w7 ⟨rfl, hb⟩; replace HBR := Lib.hid (chain (Nat.le_refl _) HBR.out (Below.refl _ _) hb); clear hb))
            | (go_at_call 28; go_must (refine (awake_any _).mono ?_; rintro e w8 ⟨rfl, hb⟩; replace HBR := Lib.hid (chain (Nat.le_refl _) HBR.out (Below.refl _ _) hb); clear hb)))
          go_returns
          exact ⟨rfl, HBR.out⟩
end Go.Proofs.YtbggpiednddheaaDoor

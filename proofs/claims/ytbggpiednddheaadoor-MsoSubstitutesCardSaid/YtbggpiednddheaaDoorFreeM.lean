/- MsoFree: for all pairs of formulas and numbers the law returns true. -/
import Derived.Test.YtbggpiednddheaaDoorFreeP
import Derived.Test.YtbggpiednddheaaDoorRow
import Derived.Deep.RegionHeld3
set_option linter.unusedSimpArgs false
set_option linter.unusedVariables false
namespace Go.Proofs.YtbggpiednddheaaDoor
open Go.RowKit

theorem below_name {B : Nat} {a b : World} (h : Below B a b) : ∃ W, W = b ∧ Below B a W := ⟨b, rfl, h⟩
/-- What the walk is told of a copy of the first 30 marks. -/
def Cut30 (F : List Mk) (A : Option Addr) (n c : Nat) (w : World) : Prop :=
  F.length ≤ 30 ∧ ∃ m : Nat, min (n : Int) 30 = m ∧ m ≤ n ∧ ∀ W, Below w.heap.size w W → Calls Tryd.prog 35 #[.slice A m c] W (RetMO W F)
theorem cut30 (f : List Mk) (A : Option Addr) (n c : Nat) (w : World) (hv : MS w (.slice A n c) f) (hn : n = f.length) : Cut30 (f.take 30) A n c w := by
  refine ⟨by rw [List.length_take]; omega, min n 30, by omega, by omega, fun W hb => ?_⟩
  have e : f.take (min n 30) = f.take 30 := by
    by_cases h : n ≤ 30
    · rw [Nat.min_eq_left h, List.take_of_length_le (by omega), List.take_of_length_le (by omega)]
    · rw [Nat.min_eq_right (by omega)]
  have := copy_any (f.take (min n 30)) (.slice A (min n 30) c) W ((hv.below hb (Nat.le_refl _)).cut (min n 30) (by omega) A fun _ => rfl) (by rw [List.length_take]; omega)
  rwa [e] at this

set_option maxRecDepth 100000 in
set_option maxHeartbeats 8000000 in
theorem free_any (f g : List Mk) (x y : Int) (v u : Value) (w : World) (hv : MS w v f) (hu : MS w u g) :
    Calls Tryd.prog 10 #[v, u, .agg #[.int .i64 x, .int .i64 y]] w fun e w' => e = .returned (.bool true) ∧ Below w.heap.size w w' := by
  obtain ⟨_, A, c, rfl, hc1, hc2, _⟩ := id hv
  obtain ⟨_, A2, c2, rfl, hc3, hc4, _⟩ := id hu
  have hcf := cut30 f A f.length c w hv rfl
  have hcg := cut30 g A2 g.length c2 w hu rfl
  generalize f.take 30 = F at *
  generalize g.take 30 = G at *
  obtain ⟨n1, hn1⟩ : ∃ n, n = f.length := ⟨_, rfl⟩
  obtain ⟨n2, hn2⟩ : ∃ n, n = g.length := ⟨_, rfl⟩
  rw [← hn1] at hcf hc1
  rw [← hn2] at hcg hc3
  rw [← hn1, ← hn2]
  clear hv hu hn1 hn2
  obtain ⟨hlf, m1, j1, j2, hf1⟩ := hcf
  obtain ⟨hlg, m2, i1, i2, hg1⟩ := hcg
  have j3 : (m1 : Int) ≤ c := by omega
  have i3 : (m2 : Int) ≤ c2 := by omega
  have j4 : (0 : Int) ≤ m1 := by omega
  have i4 : (0 : Int) ≤ m2 := by omega
  have HF1 := Lib.hid hf1; have HG1 := Lib.hid hg1
  clear hf1 hg1
  have HN0 := Lib.hid (Row.new w 24 #[.int .i64 x, .int .i64 y])
  have HB0 : Hid (Below w.heap.size w (w.alloc (.cells #[.int .i64 x, .int .i64 y] 24))) := Below.alloc (Below.refl _ _) (Nat.le_refl _) _
  have HBD : Hid (∀ W, Below (w.alloc (.cells #[.int .i64 x, .int .i64 y] 24)).drew.heap.size (w.alloc (.cells #[.int .i64 x, .int .i64 y] 24)).drew W → Below (w.alloc (.cells #[.int .i64 x, .int .i64 y] 24)).heap.size (w.alloc (.cells #[.int .i64 x, .int .i64 y] 24)) W) := fun W h => ⟨h.os, h.tape, h.output, h.size, h.block⟩
  go_enter Tryd.func10, Tryd.ntmps10
  go_upto_region 1 with (fail)
  go_cut [7, 8] from 24 to 35 (fun u1 u2 wx => MS wx u1 F ∧ MS wx u2 G ∧ Row wx w.heap.size 24 #[.int .i64 x, .int .i64 y] ∧ Below w.heap.size w wx)
  case first =>
    have hz : w.heap.size < (w.alloc (.cells #[.int .i64 x, .int .i64 y] 24)).heap.size := by simp
    have hd1 : Below w.heap.size w (w.alloc (.cells #[.int .i64 x, .int .i64 y] 24)).drew := HB0.out.trans (Below.mono (⟨rfl, rfl, rfl, Nat.le_refl _, fun _ _ => rfl⟩ : Below (w.alloc (.cells #[.int .i64 x, .int .i64 y] 24)).heap.size (w.alloc (.cells #[.int .i64 x, .int .i64 y] 24)) (w.alloc (.cells #[.int .i64 x, .int .i64 y] 24)).drew) (Nat.le_of_lt hz))
    have HD1 := Lib.hid hd1; clear hd1
    first
    | go_region_held3 (fun W => True) (trivial) (first
      | (go_at_call 35; refine (HF1.out _ HD1.out).mono ?_; rintro e w2 ⟨v2, rfl, hb, ho⟩; have HB2 := Lib.hid (HBD.out _ hb); have H7 := Lib.hid ho.ms; clear hb ho)
      | (go_at_call 35; refine (HG1.out _ (HB0.out.trans (HB2.out.mono (Nat.le_of_lt hz)))).mono ?_; rintro e w3 ⟨v3, rfl, hb, ho⟩; have HB3 := Lib.hid (HB2.out.trans (hb.mono HB2.out.size)); have H8 := Lib.hid ho.ms; replace H7 := Lib.hid (H7.out.below hb (Nat.le_refl _)); clear hb ho))
    | fail
    all_goals
      go_wp2_with fail
      go_meet
      exact ⟨H7.out, H8.out, HN0.out.below HB3.out hz, HB0.out.trans (HB3.out.mono (Nat.le_of_lt hz))⟩
  case rest =>
    obtain ⟨h7, h8, hn, hb⟩ := hcut
    rename_i wc
    clear HF1 HG1 HN0 HB0 HBD hc1 hc3 j1 j2 j3 j4 i1 i2 i3 i4
    have H7 := Lib.hid h7; have H8 := Lib.hid h8; have HN := Lib.hid hn; have HB := Lib.hid hb
    have rn := hn.cell; have rl := hn.lt
    clear h7 h8 hn hb
    have hfo := fun W v (h : MS W v F) => formed_law v F W h
    have hgo := fun W v (h : MS W v G) => formed_law v G W h
    by_cases hform : formedS F = true ∧ formedS G = true
    · obtain ⟨hF, hG⟩ := hform
      rw [hF] at hfo
      rw [hG] at hgo
      obtain ⟨t, okt, hst, htF, htx⟩ := formed_is F hF
      obtain ⟨s, oks, hss, hsG, hsx⟩ := formed_is G hG
      have hlt : t.size ≤ 30 := by rw [htF, Tr.enc_len] at hlf; exact hlf
      have hls : s.size ≤ 30 := by rw [hsG, Tr.enc_len] at hlg; exact hlg
      -- the numbers
      have q1 : -2 < x.tmod 2 := by have := Int.lt_tmod_of_pos x (b := 2) (by omega); simpa using this
      have q2 : x.tmod 2 < 2 := Int.tmod_lt_of_pos x (by omega)
      have q3 : -4 < x.tmod 4 := by have := Int.lt_tmod_of_pos x (b := 4) (by omega); simpa using this
      have q4 : x.tmod 4 < 4 := Int.tmod_lt_of_pos x (by omega)
      have q5 : -6 < y.tmod 6 := by have := Int.lt_tmod_of_pos y (b := 6) (by omega); simpa using this
      have q6 : y.tmod 6 < 6 := Int.tmod_lt_of_pos y (by omega)
      obtain ⟨op, hopd⟩ : ∃ op : Int, op = 10 + (x.tmod 2 + 2) % 2 := ⟨_, rfl⟩
      obtain ⟨q, hqd⟩ : ∃ q : Int, q = 12 + (x.tmod 4 + 4) % 4 := ⟨_, rfl⟩
      obtain ⟨k, hkd⟩ : ∃ k : Nat, (y.tmod 6 + 6) % 6 = (k : Int) := ⟨((y.tmod 6 + 6) % 6).toNat, by omega⟩
      have hop : op = 10 ∨ op = 11 := by omega
      have hq : q = 12 ∨ q = 13 ∨ q = 14 ∨ q = 15 := by omega
      have hk : k < 6 := by omega
      -- the formulas
      have okp : (Tr.un 9 0 t).ok := un_ok (.inl ⟨rfl, rfl⟩) okt
      have okq : (Tr.bin op t s).ok := bin_ok hop okt oks
      have okr : (Tr.un q k t).ok := un_ok (.inr ⟨by omega, by omega, by omega, by omega⟩) okt
      have wp := wrap_enc t okt 9 0 (by omega)
      have wq := join_enc t s okt oks op hop (by omega)
      have wr := wrap_enc t okt q k (by omega)
      have wb : bindS q k F = ((Tr.un q k t).enc 0, 0) := by
        unfold bindS
        rw [if_neg (by unfold isQ; simp; omega), if_neg (by omega), htF]
        exact wr
      have szp : (Tr.un 9 0 t).size ≤ 64 := by simp only [Tr.size]; omega
      have szq : (Tr.bin op t s).size ≤ 64 := by simp only [Tr.size]; omega
      have szr : (Tr.un q k t).size ≤ 64 := by simp only [Tr.size]; omega
      have fp := formed_enc (Tr.un 9 0 t) okp szp
      have fq := formed_enc (Tr.bin op t s) okq szq
      have fr := formed_enc (Tr.un q k t) okr szr
      have txp := text_enc (Tr.un 9 0 t) okp
      have txq := text_enc (Tr.bin op t s) okq
      have txr := text_enc (Tr.un q k t) okr
      rw [text_not] at txp
      rw [text_bin op t s okq] at txq
      rw [text_q q k t (by rcases hq with rfl | rfl | rfl | rfl <;> rfl)] at txr
      -- the calls
      have hnot := fun W v (h : MS W v F) => Not_any F v W h
      rw [htF, wp, ← htF] at hnot
      have hjoin := fun W v u (h : MS W v F) (h' : MS W u G) => Join_any op F G v u W h h' (by omega) (by omega)
      rw [htF, hsG, wq, ← htF, ← hsG] at hjoin
      have hbind := fun W v (h : MS W v F) => Bind_any q k F v W h (by omega) (by omega)
      rw [wb] at hbind
      simp only at hnot hjoin hbind
      have fes : ∀ (t : Tr), t.ok → freeS (t.enc 0) t = wordT t 6 := fun t ok => freeS_word t ok
      have hfa := fun W v (h : MS W v F) => Free_yes F t v W h hF htF okt (by rw [htF, Tr.enc_len])
      have hfb := fun W v (h : MS W v G) => Free_yes G s v W h hG hsG oks (by rw [hsG, Tr.enc_len])
      have hfp := fun W v (h : MS W v ((Tr.un 9 0 t).enc 0)) => Free_yes _ (Tr.un 9 0 t) v W h fp rfl okp (by rw [Tr.enc_len])
      have hfq := fun W v (h : MS W v ((Tr.bin op t s).enc 0)) => Free_yes _ (Tr.bin op t s) v W h fq rfl okq (by rw [Tr.enc_len])
      have hfr := fun W v (h : MS W v ((Tr.un q k t).enc 0)) => Free_yes _ (Tr.un q k t) v W h fr rfl okr (by rw [Tr.enc_len])
      rw [htF, fes t okt, ← htF] at hfa
      rw [hsG, fes s oks, ← hsG] at hfb
      rw [fes _ okp, word_not okp] at hfp
      rw [fes _ okq, word_bin okq] at hfq
      rw [fes _ okr, word_q okr (by omega) hk] at hfr
      have sa := oneword_set (wordT_lt64 t okt)
      have sb := oneword_set (wordT_lt64 s oks)
      have hun := fun W v u h1 h2 => union_any (setOf (wordT t 6)) (setOf (wordT s 6)) v u W sa sb h1 h2
      have hwo := fun W v h1 => without_any (setOf (wordT t 6)) k v W sa hk h1
      rw [wordOf_set, wordOf_set] at hun
      rw [wordOf_set] at hwo
      have sq : OneWord (setOf (wordT t 6 ||| wordT s 6)) := oneword_set (or_lt64 (wordT_lt64 t okt) (wordT_lt64 s oks))
      have sr : OneWord (setOf (andn (wordT t 6) (2 ^ k))) := oneword_set (and_lt64 (wordT_lt64 t okt))
      have eqs : ∀ l : List Nat, OneWord l → ∀ W v u, US W v l → US W u l → Calls Tryd.prog 39 #[v, u] W fun e w' => e = .returned (.bool true) ∧ Below W.heap.size W w' := fun l hl W v u h1 h2 => by
        have := bequal_any l l v u W hl hl h1 h2
        rwa [decide_eq_true (rfl : l = l)] at this
      have hea := eqs _ sa
      have heq := eqs _ sq
      have her := eqs _ sr
      have hfmF := fun W v (h : MS W v F) => Format_text F v W h
      have hfmG := fun W v (h : MS W v G) => Format_text G v W h
      rw [if_pos hF, if_pos hF, htx] at hfmF
      rw [if_pos hG, if_pos hG, hsx] at hfmG
      have lt1 := t.text_len okt
      have lt2 := s.text_len oks
      obtain ⟨SA, hSA⟩ : ∃ R : ByteArray, R = ⟨t.text.toArray⟩ := ⟨_, rfl⟩
      obtain ⟨SB, hSB⟩ : ∃ R : ByteArray, R = ⟨s.text.toArray⟩ := ⟨_, rfl⟩
      obtain ⟨NA, hNA⟩ : ∃ R : ByteArray, R = ⟨([40] ++ nm op ++ [32]).toArray⟩ := ⟨_, rfl⟩
      obtain ⟨NB, hNB⟩ : ∃ R : ByteArray, R = ⟨([40] ++ nm q ++ [32]).toArray⟩ := ⟨_, rfl⟩
      obtain ⟨VK, hVK⟩ : ∃ R : ByteArray, R = ⟨(varB k).toArray⟩ := ⟨_, rfl⟩
      have dSA : bts SA = t.text := by rw [hSA]; simp [bts]
      have dSB : bts SB = s.text := by rw [hSB]; simp [bts]
      have dNA : bts NA = [40] ++ nm op ++ [32] := by rw [hNA]; simp [bts]
      have dNB : bts NB = [40] ++ nm q ++ [32] := by rw [hNB]; simp [bts]
      have dVK : bts VK = varB k := by rw [hVK]; simp [bts]
      have zSA : SA.size ≤ 600 := by rw [← bts_len, dSA]; omega
      have zSB : SB.size ≤ 600 := by rw [← bts_len, dSB]; omega
      have zNA : NA.size ≤ 12 := by rw [← bts_len, dNA]; have := nm_len op; simp; omega
      have zNB : NB.size ≤ 12 := by rw [← bts_len, dNB]; have := nm_len q; simp; omega
      have zVK : VK.size = 1 := by rw [← bts_len, dVK]; rfl
      have cVK : ({ data := #[65, 66, 67, 68, 69, 70] } : ByteArray).extract k (k + 1) = VK := by
        have h : k = 0 ∨ k = 1 ∨ k = 2 ∨ k = 3 ∨ k = 4 ∨ k = 5 := by omega
        rw [hVK]
        rcases h with rfl | rfl | rfl | rfl | rfl | rfl <;> rfl
      have eSA : strV t.text = .string SA := by rw [hSA]; rfl
      have eSB : strV s.text = .string SB := by rw [hSB]; rfl
      rw [eSA] at hfmF
      rw [eSB] at hfmG
      rw [← dSA] at txp txq txr
      rw [← dNA, ← dSB] at txq
      rw [← dNB, ← dVK] at txr
      have hshp := fun S W v (h : MS W v ((Tr.un 9 0 t).enc 0)) (e : bts S = [40, 110, 111, 116, 32] ++ bts SA ++ [41]) => shows_true S v _ W h fp (txp.trans e.symm)
      have hshq := fun S W v (h : MS W v ((Tr.bin op t s).enc 0)) (e : bts S = bts NA ++ bts SA ++ [32] ++ bts SB ++ [41]) => shows_true S v _ W h fq (txq.trans e.symm)
      have hshr := fun S W v (h : MS W v ((Tr.un q k t).enc 0)) (e : bts S = bts NB ++ bts VK ++ [32] ++ bts SA ++ [41]) => shows_true S v _ W h fr (txr.trans e.symm)
      have NAc : (op = 10 ∧ NA = ⟨#[40, 97, 110, 100, 32]⟩) ∨ (op = 11 ∧ NA = ⟨#[40, 111, 114, 32]⟩) := by
        rcases hop with h | h
        · exact .inl ⟨h, by rw [hNA, h]; rfl⟩
        · exact .inr ⟨h, by rw [hNA, h]; rfl⟩
      have NBc : (q = 12 ∧ NB = ⟨#[40, 101, 120, 105, 115, 116, 115, 32]⟩) ∨ (q = 13 ∧ NB = ⟨#[40, 102, 111, 114, 97, 108, 108, 32]⟩) ∨ (q = 14 ∧ NB = ⟨#[40, 115, 111, 109, 101, 32]⟩) ∨ (q = 15 ∧ NB = ⟨#[40, 101, 97, 99, 104, 32]⟩) := by
        rcases hq with h | h | h | h
        · exact .inl ⟨h, by rw [hNB, h]; rfl⟩
        · exact .inr (.inl ⟨h, by rw [hNB, h]; rfl⟩)
        · exact .inr (.inr (.inl ⟨h, by rw [hNB, h]; rfl⟩))
        · exact .inr (.inr (.inr ⟨h, by rw [hNB, h]; rfl⟩))
      generalize (Tr.un 9 0 t).enc 0 = FP at *
      generalize (Tr.bin op t s).enc 0 = FQ at *
      generalize (Tr.un q k t).enc 0 = FRr at *
      generalize setOf (wordT t 6 ||| wordT s 6) = LQ at *
      generalize setOf (andn (wordT t 6) (2 ^ k)) = LR at *
      generalize setOf (wordT t 6) = LA at *
      generalize setOf (wordT s 6) = LB at *
      have HFO_ := Lib.hid hfo
      have HGO_ := Lib.hid hgo
      have HNOT_ := Lib.hid hnot
      have HJOIN_ := Lib.hid hjoin
      have HBIND_ := Lib.hid hbind
      have HFA_ := Lib.hid hfa
      have HFB_ := Lib.hid hfb
      have HFP_ := Lib.hid hfp
      have HFQ_ := Lib.hid hfq
      have HFR_ := Lib.hid hfr
      have HUN_ := Lib.hid hun
      have HWO_ := Lib.hid hwo
      have HEA_ := Lib.hid hea
      have HEQ_ := Lib.hid heq
      have HER_ := Lib.hid her
      have HFMF_ := Lib.hid hfmF
      have HFMG_ := Lib.hid hfmG
      have HSHP_ := Lib.hid hshp
      have HSHQ_ := Lib.hid hshq
      have HSHR_ := Lib.hid hshr
      have QN := Lib.hid NAc; have QB := Lib.hid NBc; have QK := Lib.hid hkd; have QO := Lib.hid hopd; have QQ := Lib.hid hqd; have QV := Lib.hid cVK
      clear hfo hgo hnot hjoin hbind hfa hfb hfp hfq hfr hun hwo hea heq her hfmF hfmG hshp hshq hshr NAc NBc hkd hopd hqd hop hq cVK eSA eSB dSA dSB dNA dNB dVK hSA hSB hNA hNB hVK lt1 lt2 eqs sq sr sa sb fes txp txq txr fp fq fr szp szq szr wp wq wr wb okp okq okr hlt hls htx hsx htF hsG hst hss okt oks hF hG t s hlf hlg
      go_upto_region 4 with (first
        | (go_at_call 38; (with_reducible refine (HFO_.out _ _ H7.out).mono ?_); rintro e w2 ⟨rfl, hb⟩; replace H7 := Lib.hid (H7.out.below hb (Nat.le_refl _)); replace H8 := Lib.hid (H8.out.below hb (Nat.le_refl _)); replace HN := Lib.hid (HN.out.below hb HN.out.lt); replace HB := Lib.hid (HB.out.trans (hb.mono HB.out.size)); have rn := HN.out.cell; have rl := HN.out.lt; clear hb)
        | (go_at_call 38; (with_reducible refine (HGO_.out _ _ H8.out).mono ?_); rintro e w3 ⟨rfl, hb⟩; replace H7 := Lib.hid (H7.out.below hb (Nat.le_refl _)); replace H8 := Lib.hid (H8.out.below hb (Nat.le_refl _)); replace HN := Lib.hid (HN.out.below hb HN.out.lt); replace HB := Lib.hid (HB.out.trans (hb.mono HB.out.size)); have rn := HN.out.cell; have rl := HN.out.lt; clear hb))

      go_cut [9] from 45 to 51 (fun u9 wx => u9 = .int .u8 op ∧ w3 = wx)
      case first =>
        have e2 : (x.tmod 2 + 2) % 2 = 0 ∨ (x.tmod 2 + 2) % 2 = 1 := by omega
        rcases e2 with e2 | e2
        all_goals
          go_wp2_with fail
          go_meet
          exact ⟨by rw [QO.out, e2]; rfl, rfl⟩
      case rest =>
       obtain ⟨rfl, rfl⟩ := hcut
       go_upto_region 5 with (fail)
       go_cut [10] from 52 to 58 (fun u10 wx => u10 = .int .u8 q ∧ w3 = wx)
       case first =>
        have e4 : (x.tmod 4 + 4) % 4 = 0 ∨ (x.tmod 4 + 4) % 4 = 1 ∨ (x.tmod 4 + 4) % 4 = 2 ∨ (x.tmod 4 + 4) % 4 = 3 := by omega
        rcases e4 with e4 | e4 | e4 | e4
        all_goals
          go_wp2_with fail
          go_meet
          exact ⟨by rw [QQ.out, e4]; rfl, rfl⟩
       case rest =>
        obtain ⟨rfl, rfl⟩ := hcut
        have hk6 := QK.out
        go_upto_region 12 with (first
          | (go_at_call 31; (with_reducible refine (HFMF_.out _ _ H7.out).mono ?_); rintro e wn1 ⟨rfl, hb⟩; replace H7 := Lib.hid (H7.out.below hb (Nat.le_refl _)); replace H8 := Lib.hid (H8.out.below hb (Nat.le_refl _)); replace HN := Lib.hid (HN.out.below hb HN.out.lt); replace HB := Lib.hid (HB.out.trans (hb.mono HB.out.size)); have rn := HN.out.cell; have rl := HN.out.lt; clear hb)
          | (go_at_call 31; (with_reducible refine (HFMG_.out _ _ H8.out).mono ?_); rintro e wn2 ⟨rfl, hb⟩; replace H7 := Lib.hid (H7.out.below hb (Nat.le_refl _)); replace H8 := Lib.hid (H8.out.below hb (Nat.le_refl _)); replace HN := Lib.hid (HN.out.below hb HN.out.lt); replace HB := Lib.hid (HB.out.trans (hb.mono HB.out.size)); have rn := HN.out.cell; have rl := HN.out.lt; clear hb)
          | (go_at_call 17; (with_reducible refine (HNOT_.out _ _ H7.out).mono ?_); rintro e wn3 ⟨vP, rfl, hb, ho⟩; replace H7 := Lib.hid (H7.out.below hb (Nat.le_refl _)); replace H8 := Lib.hid (H8.out.below hb (Nat.le_refl _)); replace HN := Lib.hid (HN.out.below hb HN.out.lt); replace HB := Lib.hid (HB.out.trans (hb.mono HB.out.size)); have rn := HN.out.cell; have rl := HN.out.lt; have HP1 := Lib.hid ho.ms; clear ho; clear hb)
          | (go_at_call 29; (with_reducible refine (HJOIN_.out _ _ _ H7.out H8.out).mono ?_); rintro e wn4 ⟨vQ, rfl, hb, ho⟩; replace H7 := Lib.hid (H7.out.below hb (Nat.le_refl _)); replace H8 := Lib.hid (H8.out.below hb (Nat.le_refl _)); replace HP1 := Lib.hid (HP1.out.below hb (Nat.le_refl _)); replace HN := Lib.hid (HN.out.below hb HN.out.lt); replace HB := Lib.hid (HB.out.trans (hb.mono HB.out.size)); have rn := HN.out.cell; have rl := HN.out.lt; have HQ1 := Lib.hid ho.ms; clear ho; clear hb)
          | (go_at_call 19; (with_reducible refine (HBIND_.out _ _ H7.out).mono ?_); rintro e wn5 ⟨vR, rfl, hb, ho⟩; replace H7 := Lib.hid (H7.out.below hb (Nat.le_refl _)); replace H8 := Lib.hid (H8.out.below hb (Nat.le_refl _)); replace HP1 := Lib.hid (HP1.out.below hb (Nat.le_refl _)); replace HQ1 := Lib.hid (HQ1.out.below hb (Nat.le_refl _)); replace HN := Lib.hid (HN.out.below hb HN.out.lt); replace HB := Lib.hid (HB.out.trans (hb.mono HB.out.size)); have rn := HN.out.cell; have rl := HN.out.lt; have HR1 := Lib.hid ho.ms; clear ho; clear hb))
        go_cut [22] from 93 to 97 (fun u22 wx => u22 = .string NA ∧ Below wn5.heap.size wn5 wx)
        case first =>
          rcases QN.out with ⟨h1, h2⟩ | ⟨h1, h2⟩
          all_goals
            subst h1
            go_wp2_with fail
            go_meet
            exact ⟨by rw [h2], by go_grown⟩
        case rest =>
          obtain ⟨rfl, hb12⟩ := hcut
          obtain ⟨w12, hw, hb12⟩ := below_name hb12
          subst hw
          replace H7 := Lib.hid (H7.out.below hb12 (Nat.le_refl _))
          replace H8 := Lib.hid (H8.out.below hb12 (Nat.le_refl _))
          replace HP1 := Lib.hid (HP1.out.below hb12 (Nat.le_refl _))
          replace HQ1 := Lib.hid (HQ1.out.below hb12 (Nat.le_refl _))
          replace HR1 := Lib.hid (HR1.out.below hb12 (Nat.le_refl _))
          replace HN := Lib.hid (HN.out.below hb12 HN.out.lt)
          replace HB := Lib.hid (HB.out.trans (hb12.mono HB.out.size))
          have rn := HN.out.cell; have rl := HN.out.lt
          clear hb12
          go_upto_region 13 with (fail)
          go_cut [23] from 98 to 102 (fun u23 wx => u23 = .string NB ∧ Below w12.heap.size w12 wx)
          case first =>
            rcases QB.out with ⟨h1, h2⟩ | ⟨h1, h2⟩ | ⟨h1, h2⟩ | ⟨h1, h2⟩
            all_goals
              subst h1
              go_wp2_with fail
              go_meet
              exact ⟨by rw [h2], by go_grown⟩
          case rest =>
          obtain ⟨rfl, hb13⟩ := hcut
          obtain ⟨w13, hw, hb13⟩ := below_name hb13
          subst hw
          replace H7 := Lib.hid (H7.out.below hb13 (Nat.le_refl _))
          replace H8 := Lib.hid (H8.out.below hb13 (Nat.le_refl _))
          replace HP1 := Lib.hid (HP1.out.below hb13 (Nat.le_refl _))
          replace HQ1 := Lib.hid (HQ1.out.below hb13 (Nat.le_refl _))
          replace HR1 := Lib.hid (HR1.out.below hb13 (Nat.le_refl _))
          replace HN := Lib.hid (HN.out.below hb13 HN.out.lt)
          replace HB := Lib.hid (HB.out.trans (hb13.mono HB.out.size))
          have rn := HN.out.cell; have rl := HN.out.lt
          clear hb13
          have cvk := QV.out
          go_upto_region 16 with (first
            | (go_at_call 37; (with_reducible refine (HSHP_.out _ _ _ HP1.out (by simp [bts, ByteArray.data_append])).mono ?_); rintro e wm1 ⟨rfl, hb⟩; replace H7 := Lib.hid (H7.out.below hb (Nat.le_refl _)); replace H8 := Lib.hid (H8.out.below hb (Nat.le_refl _)); replace HP1 := Lib.hid (HP1.out.below hb (Nat.le_refl _)); replace HQ1 := Lib.hid (HQ1.out.below hb (Nat.le_refl _)); replace HR1 := Lib.hid (HR1.out.below hb (Nat.le_refl _)); replace HN := Lib.hid (HN.out.below hb HN.out.lt); replace HB := Lib.hid (HB.out.trans (hb.mono HB.out.size)); have rn := HN.out.cell; have rl := HN.out.lt; clear hb)
            | (go_at_call 37; (with_reducible refine (HSHQ_.out _ _ _ HQ1.out (by simp [bts, ByteArray.data_append])).mono ?_); rintro e wm2 ⟨rfl, hb⟩; replace H7 := Lib.hid (H7.out.below hb (Nat.le_refl _)); replace H8 := Lib.hid (H8.out.below hb (Nat.le_refl _)); replace HP1 := Lib.hid (HP1.out.below hb (Nat.le_refl _)); replace HQ1 := Lib.hid (HQ1.out.below hb (Nat.le_refl _)); replace HR1 := Lib.hid (HR1.out.below hb (Nat.le_refl _)); replace HN := Lib.hid (HN.out.below hb HN.out.lt); replace HB := Lib.hid (HB.out.trans (hb.mono HB.out.size)); have rn := HN.out.cell; have rl := HN.out.lt; clear hb)
            | (go_at_call 37; (with_reducible refine (HSHR_.out _ _ _ HR1.out (by simp [bts, ByteArray.data_append])).mono ?_); rintro e wm3 ⟨rfl, hb⟩; replace H7 := Lib.hid (H7.out.below hb (Nat.le_refl _)); replace H8 := Lib.hid (H8.out.below hb (Nat.le_refl _)); replace HP1 := Lib.hid (HP1.out.below hb (Nat.le_refl _)); replace HQ1 := Lib.hid (HQ1.out.below hb (Nat.le_refl _)); replace HR1 := Lib.hid (HR1.out.below hb (Nat.le_refl _)); replace HN := Lib.hid (HN.out.below hb HN.out.lt); replace HB := Lib.hid (HB.out.trans (hb.mono HB.out.size)); have rn := HN.out.cell; have rl := HN.out.lt; clear hb))
          go_wp2_with (first
            | (go_at_call 16; have hneed := SR.out; (with_reducible refine (HFA_.out _ _ H7.out).mono ?_); rintro e wk10 ⟨vSA3, rfl, hb, ho⟩; replace H7 := Lib.hid (H7.out.below hb (Nat.le_refl _)); replace H8 := Lib.hid (H8.out.below hb (Nat.le_refl _)); replace HP1 := Lib.hid (HP1.out.below hb (Nat.le_refl _)); replace HQ1 := Lib.hid (HQ1.out.below hb (Nat.le_refl _)); replace HR1 := Lib.hid (HR1.out.below hb (Nat.le_refl _)); replace SP := Lib.hid (SP.out.below hb (Nat.le_refl _)); replace SA1 := Lib.hid (SA1.out.below hb (Nat.le_refl _)); replace SQ := Lib.hid (SQ.out.below hb (Nat.le_refl _)); replace SA2 := Lib.hid (SA2.out.below hb (Nat.le_refl _)); replace SB1 := Lib.hid (SB1.out.below hb (Nat.le_refl _)); replace SU := Lib.hid (SU.out.below hb (Nat.le_refl _)); replace SR := Lib.hid (SR.out.below hb (Nat.le_refl _)); replace HN := Lib.hid (HN.out.below hb HN.out.lt); replace HB := Lib.hid (HB.out.trans (hb.mono HB.out.size)); have rn := HN.out.cell; have rl := HN.out.lt; have SA3 := Lib.hid ho.us; clear ho; clear hneed; clear hb)
            | (go_at_call 16; have hneed := SQ.out; (with_reducible refine (HFA_.out _ _ H7.out).mono ?_); rintro e wk5 ⟨vSA2, rfl, hb, ho⟩; replace H7 := Lib.hid (H7.out.below hb (Nat.le_refl _)); replace H8 := Lib.hid (H8.out.below hb (Nat.le_refl _)); replace HP1 := Lib.hid (HP1.out.below hb (Nat.le_refl _)); replace HQ1 := Lib.hid (HQ1.out.below hb (Nat.le_refl _)); replace HR1 := Lib.hid (HR1.out.below hb (Nat.le_refl _)); replace SP := Lib.hid (SP.out.below hb (Nat.le_refl _)); replace SA1 := Lib.hid (SA1.out.below hb (Nat.le_refl _)); replace SQ := Lib.hid (SQ.out.below hb (Nat.le_refl _)); replace HN := Lib.hid (HN.out.below hb HN.out.lt); replace HB := Lib.hid (HB.out.trans (hb.mono HB.out.size)); have rn := HN.out.cell; have rl := HN.out.lt; have SA2 := Lib.hid ho.us; clear ho; clear hneed; clear hb)
            | (go_at_call 16; (with_reducible refine (HFP_.out _ _ HP1.out).mono ?_); rintro e wk1 ⟨vSP, rfl, hb, ho⟩; replace H7 := Lib.hid (H7.out.below hb (Nat.le_refl _)); replace H8 := Lib.hid (H8.out.below hb (Nat.le_refl _)); replace HP1 := Lib.hid (HP1.out.below hb (Nat.le_refl _)); replace HQ1 := Lib.hid (HQ1.out.below hb (Nat.le_refl _)); replace HR1 := Lib.hid (HR1.out.below hb (Nat.le_refl _)); replace HN := Lib.hid (HN.out.below hb HN.out.lt); replace HB := Lib.hid (HB.out.trans (hb.mono HB.out.size)); have rn := HN.out.cell; have rl := HN.out.lt; have SP := Lib.hid ho.us; clear ho; clear hb)
            | (go_at_call 16; (with_reducible refine (HFA_.out _ _ H7.out).mono ?_); rintro e wk2 ⟨vSA1, rfl, hb, ho⟩; replace H7 := Lib.hid (H7.out.below hb (Nat.le_refl _)); replace H8 := Lib.hid (H8.out.below hb (Nat.le_refl _)); replace HP1 := Lib.hid (HP1.out.below hb (Nat.le_refl _)); replace HQ1 := Lib.hid (HQ1.out.below hb (Nat.le_refl _)); replace HR1 := Lib.hid (HR1.out.below hb (Nat.le_refl _)); replace SP := Lib.hid (SP.out.below hb (Nat.le_refl _)); replace HN := Lib.hid (HN.out.below hb HN.out.lt); replace HB := Lib.hid (HB.out.trans (hb.mono HB.out.size)); have rn := HN.out.cell; have rl := HN.out.lt; have SA1 := Lib.hid ho.us; clear ho; clear hb)
            | (go_at_call 39; (with_reducible refine (HEA_.out _ _ _ SP.out SA1.out).mono ?_); rintro e wk3 ⟨rfl, hb⟩; replace H7 := Lib.hid (H7.out.below hb (Nat.le_refl _)); replace H8 := Lib.hid (H8.out.below hb (Nat.le_refl _)); replace HP1 := Lib.hid (HP1.out.below hb (Nat.le_refl _)); replace HQ1 := Lib.hid (HQ1.out.below hb (Nat.le_refl _)); replace HR1 := Lib.hid (HR1.out.below hb (Nat.le_refl _)); replace SP := Lib.hid (SP.out.below hb (Nat.le_refl _)); replace SA1 := Lib.hid (SA1.out.below hb (Nat.le_refl _)); replace HN := Lib.hid (HN.out.below hb HN.out.lt); replace HB := Lib.hid (HB.out.trans (hb.mono HB.out.size)); have rn := HN.out.cell; have rl := HN.out.lt; clear hb)
            | (go_at_call 16; (with_reducible refine (HFQ_.out _ _ HQ1.out).mono ?_); rintro e wk4 ⟨vSQ, rfl, hb, ho⟩; replace H7 := Lib.hid (H7.out.below hb (Nat.le_refl _)); replace H8 := Lib.hid (H8.out.below hb (Nat.le_refl _)); replace HP1 := Lib.hid (HP1.out.below hb (Nat.le_refl _)); replace HQ1 := Lib.hid (HQ1.out.below hb (Nat.le_refl _)); replace HR1 := Lib.hid (HR1.out.below hb (Nat.le_refl _)); replace SP := Lib.hid (SP.out.below hb (Nat.le_refl _)); replace SA1 := Lib.hid (SA1.out.below hb (Nat.le_refl _)); replace HN := Lib.hid (HN.out.below hb HN.out.lt); replace HB := Lib.hid (HB.out.trans (hb.mono HB.out.size)); have rn := HN.out.cell; have rl := HN.out.lt; have SQ := Lib.hid ho.us; clear ho; clear hb)
            | (go_at_call 16; (with_reducible refine (HFB_.out _ _ H8.out).mono ?_); rintro e wk6 ⟨vSB1, rfl, hb, ho⟩; replace H7 := Lib.hid (H7.out.below hb (Nat.le_refl _)); replace H8 := Lib.hid (H8.out.below hb (Nat.le_refl _)); replace HP1 := Lib.hid (HP1.out.below hb (Nat.le_refl _)); replace HQ1 := Lib.hid (HQ1.out.below hb (Nat.le_refl _)); replace HR1 := Lib.hid (HR1.out.below hb (Nat.le_refl _)); replace SP := Lib.hid (SP.out.below hb (Nat.le_refl _)); replace SA1 := Lib.hid (SA1.out.below hb (Nat.le_refl _)); replace SQ := Lib.hid (SQ.out.below hb (Nat.le_refl _)); replace SA2 := Lib.hid (SA2.out.below hb (Nat.le_refl _)); replace HN := Lib.hid (HN.out.below hb HN.out.lt); replace HB := Lib.hid (HB.out.trans (hb.mono HB.out.size)); have rn := HN.out.cell; have rl := HN.out.lt; have SB1 := Lib.hid ho.us; clear ho; clear hb)
            | (go_at_call 40; (with_reducible refine (HUN_.out _ _ _ SA2.out SB1.out).mono ?_); rintro e wk7 ⟨vSU, rfl, hb, ho⟩; replace H7 := Lib.hid (H7.out.below hb (Nat.le_refl _)); replace H8 := Lib.hid (H8.out.below hb (Nat.le_refl _)); replace HP1 := Lib.hid (HP1.out.below hb (Nat.le_refl _)); replace HQ1 := Lib.hid (HQ1.out.below hb (Nat.le_refl _)); replace HR1 := Lib.hid (HR1.out.below hb (Nat.le_refl _)); replace SP := Lib.hid (SP.out.below hb (Nat.le_refl _)); replace SA1 := Lib.hid (SA1.out.below hb (Nat.le_refl _)); replace SQ := Lib.hid (SQ.out.below hb (Nat.le_refl _)); replace SA2 := Lib.hid (SA2.out.below hb (Nat.le_refl _)); replace SB1 := Lib.hid (SB1.out.below hb (Nat.le_refl _)); replace HN := Lib.hid (HN.out.below hb HN.out.lt); replace HB := Lib.hid (HB.out.trans (hb.mono HB.out.size)); have rn := HN.out.cell; have rl := HN.out.lt; have SU := Lib.hid ho; clear ho; clear hb)
            | (go_at_call 39; (with_reducible refine (HEQ_.out _ _ _ SQ.out SU.out).mono ?_); rintro e wk8 ⟨rfl, hb⟩; replace H7 := Lib.hid (H7.out.below hb (Nat.le_refl _)); replace H8 := Lib.hid (H8.out.below hb (Nat.le_refl _)); replace HP1 := Lib.hid (HP1.out.below hb (Nat.le_refl _)); replace HQ1 := Lib.hid (HQ1.out.below hb (Nat.le_refl _)); replace HR1 := Lib.hid (HR1.out.below hb (Nat.le_refl _)); replace SP := Lib.hid (SP.out.below hb (Nat.le_refl _)); replace SA1 := Lib.hid (SA1.out.below hb (Nat.le_refl _)); replace SQ := Lib.hid (SQ.out.below hb (Nat.le_refl _)); replace SA2 := Lib.hid (SA2.out.below hb (Nat.le_refl _)); replace SB1 := Lib.hid (SB1.out.below hb (Nat.le_refl _)); replace SU := Lib.hid (SU.out.below hb (Nat.le_refl _)); replace HN := Lib.hid (HN.out.below hb HN.out.lt); replace HB := Lib.hid (HB.out.trans (hb.mono HB.out.size)); have rn := HN.out.cell; have rl := HN.out.lt; clear hb)
            | (go_at_call 16; (with_reducible refine (HFR_.out _ _ HR1.out).mono ?_); rintro e wk9 ⟨vSR, rfl, hb, ho⟩; replace H7 := Lib.hid (H7.out.below hb (Nat.le_refl _)); replace H8 := Lib.hid (H8.out.below hb (Nat.le_refl _)); replace HP1 := Lib.hid (HP1.out.below hb (Nat.le_refl _)); replace HQ1 := Lib.hid (HQ1.out.below hb (Nat.le_refl _)); replace HR1 := Lib.hid (HR1.out.below hb (Nat.le_refl _)); replace SP := Lib.hid (SP.out.below hb (Nat.le_refl _)); replace SA1 := Lib.hid (SA1.out.below hb (Nat.le_refl _)); replace SQ := Lib.hid (SQ.out.below hb (Nat.le_refl _)); replace SA2 := Lib.hid (SA2.out.below hb (Nat.le_refl _)); replace SB1 := Lib.hid (SB1.out.below hb (Nat.le_refl _)); replace SU := Lib.hid (SU.out.below hb (Nat.le_refl _)); replace HN := Lib.hid (HN.out.below hb HN.out.lt); replace HB := Lib.hid (HB.out.trans (hb.mono HB.out.size)); have rn := HN.out.cell; have rl := HN.out.lt; have SR := Lib.hid ho.us; clear ho; clear hb)
            | (go_at_call 41; (with_reducible refine (HWO_.out _ _ SA3.out).mono ?_); rintro e wk11 ⟨vSW, rfl, hb, ho⟩; replace H7 := Lib.hid (H7.out.below hb (Nat.le_refl _)); replace H8 := Lib.hid (H8.out.below hb (Nat.le_refl _)); replace HP1 := Lib.hid (HP1.out.below hb (Nat.le_refl _)); replace HQ1 := Lib.hid (HQ1.out.below hb (Nat.le_refl _)); replace HR1 := Lib.hid (HR1.out.below hb (Nat.le_refl _)); replace SP := Lib.hid (SP.out.below hb (Nat.le_refl _)); replace SA1 := Lib.hid (SA1.out.below hb (Nat.le_refl _)); replace SQ := Lib.hid (SQ.out.below hb (Nat.le_refl _)); replace SA2 := Lib.hid (SA2.out.below hb (Nat.le_refl _)); replace SB1 := Lib.hid (SB1.out.below hb (Nat.le_refl _)); replace SU := Lib.hid (SU.out.below hb (Nat.le_refl _)); replace SR := Lib.hid (SR.out.below hb (Nat.le_refl _)); replace SA3 := Lib.hid (SA3.out.below hb (Nat.le_refl _)); replace HN := Lib.hid (HN.out.below hb HN.out.lt); replace HB := Lib.hid (HB.out.trans (hb.mono HB.out.size)); have rn := HN.out.cell; have rl := HN.out.lt; have SW := Lib.hid ho; clear ho; clear hb)
            | (go_at_call 39; (with_reducible refine (HER_.out _ _ _ SR.out SW.out).mono ?_); rintro e wk12 ⟨rfl, hb⟩; replace H7 := Lib.hid (H7.out.below hb (Nat.le_refl _)); replace H8 := Lib.hid (H8.out.below hb (Nat.le_refl _)); replace HP1 := Lib.hid (HP1.out.below hb (Nat.le_refl _)); replace HQ1 := Lib.hid (HQ1.out.below hb (Nat.le_refl _)); replace HR1 := Lib.hid (HR1.out.below hb (Nat.le_refl _)); replace SP := Lib.hid (SP.out.below hb (Nat.le_refl _)); replace SA1 := Lib.hid (SA1.out.below hb (Nat.le_refl _)); replace SQ := Lib.hid (SQ.out.below hb (Nat.le_refl _)); replace SA2 := Lib.hid (SA2.out.below hb (Nat.le_refl _)); replace SB1 := Lib.hid (SB1.out.below hb (Nat.le_refl _)); replace SU := Lib.hid (SU.out.below hb (Nat.le_refl _)); replace SR := Lib.hid (SR.out.below hb (Nat.le_refl _)); replace SA3 := Lib.hid (SA3.out.below hb (Nat.le_refl _)); replace SW := Lib.hid (SW.out.below hb (Nat.le_refl _)); replace HN := Lib.hid (HN.out.below hb HN.out.lt); replace HB := Lib.hid (HB.out.trans (hb.mono HB.out.size)); have rn := HN.out.cell; have rl := HN.out.lt; clear hb)
            | (go_at_call 28; go_must (refine (awake_any _).mono ?_; rintro e wz ⟨rfl, hb⟩; replace HB := Lib.hid (HB.out.trans (hb.mono HB.out.size)); clear hb)))
          go_returns
          exact ⟨rfl, HB.out⟩
    · have arm := awake_any
      have AW := Lib.hid arm; clear arm
      cases hF : formedS F with
      | false =>
        rw [hF] at hfo
        have HFO := Lib.hid hfo
        clear hfo hgo hform hF
        go_wp2_with (first
          | (go_at_call 38; (with_reducible refine (HFO.out _ _ H7.out).mono ?_); rintro e w2 ⟨rfl, hb⟩; replace HB := Lib.hid (HB.out.trans (hb.mono HB.out.size)); clear hb)
          | (go_at_call 28; go_must (refine (AW.out _).mono ?_; rintro e wz ⟨rfl, hb⟩; replace HB := Lib.hid (HB.out.trans (hb.mono HB.out.size)); clear hb)))
        go_returns
        exact ⟨rfl, HB.out⟩
      | true =>
        have hG : formedS G = false := by
          cases h : formedS G with
          | false => rfl
          | true => exact absurd ⟨hF, h⟩ hform
        rw [hF] at hfo
        rw [hG] at hgo
        have HFO := Lib.hid hfo; have HGO := Lib.hid hgo
        clear hfo hgo hform hF hG
        go_wp2_with (first
          | (go_at_call 38; (with_reducible refine (HFO.out _ _ H7.out).mono ?_); rintro e w2 ⟨rfl, hb⟩; replace H8 := Lib.hid (H8.out.below hb (Nat.le_refl _)); replace HB := Lib.hid (HB.out.trans (hb.mono HB.out.size)); clear hb)
          | (go_at_call 38; (with_reducible refine (HGO.out _ _ H8.out).mono ?_); rintro e w3 ⟨rfl, hb⟩; replace HB := Lib.hid (HB.out.trans (hb.mono HB.out.size)); clear hb)
          | (go_at_call 28; go_must (refine (AW.out _).mono ?_; rintro e wz ⟨rfl, hb⟩; replace HB := Lib.hid (HB.out.trans (hb.mono HB.out.size)); clear hb)))
        go_returns
        exact ⟨rfl, HB.out⟩
end Go.Proofs.YtbggpiednddheaaDoor

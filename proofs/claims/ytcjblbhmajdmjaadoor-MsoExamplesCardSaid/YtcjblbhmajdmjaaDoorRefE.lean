/- Contracts of the reference: variable, text. -/
/- Contract of the reference: Format. -/
import Derived.Test.YtcjblbhmajdmjaaDoorRefA
import Derived.Test.YtcjblbhmajdmjaaDoorParse
import Derived.Test.YtcjblbhmajdmjaaDoorForm
import Derived.Test.YtcjblbhmajdmjaaDoorRefB
set_option linter.unusedSimpArgs false
set_option linter.unusedVariables false
namespace Go.Proofs.YtcjblbhmajdmjaaDoor
open Go.RowKit

/-- The marks of a tree lie in f from place p on. -/
def Lies (f : List Mk) (p : Nat) (t : Tr) : Prop := ∀ j m, (t.enc p)[j]? = some m → f[p + j]? = some m
theorem Lies.self (t : Tr) : Lies (t.enc 0) 0 t := fun j m h => by rw [Nat.zero_add]; exact h
theorem Lies.leaf {f : List Mk} {p : Nat} {op x y : Int} (h : Lies f p (.leaf op x y)) : f[p]? = some ⟨op, x, y, 0, 0⟩ := h 0 _ rfl
theorem Lies.un {f : List Mk} {p : Nat} {op x : Int} {a : Tr} (h : Lies f p (.un op x a)) : Lies f p a ∧ f[p + a.size]? = some ⟨op, x, 0, ((p + a.size - 1 : Nat) : Int), 0⟩ := by
  constructor
  · intro j m hj
    refine h j m ?_
    rw [Tr.enc, List.getElem?_append_left (List.getElem?_eq_some_iff.1 hj).1]; exact hj
  · refine h a.size _ ?_
    rw [Tr.enc, List.getElem?_append_right (by rw [Tr.enc_len]; omega), Tr.enc_len]; simp
theorem Lies.bin {f : List Mk} {p : Nat} {op : Int} {a b : Tr} (h : Lies f p (.bin op a b)) : Lies f p a ∧ Lies f (p + a.size) b ∧ f[p + a.size + b.size]? = some ⟨op, 0, 0, ((p + a.size - 1 : Nat) : Int), ((p + a.size + b.size - 1 : Nat) : Int)⟩ := by
  refine ⟨?_, ?_, ?_⟩
  · intro j m hj
    refine h j m ?_
    rw [Tr.enc, List.getElem?_append_left (List.getElem?_eq_some_iff.1 hj).1]; exact hj
  · intro j m hj
    rw [Nat.add_assoc]
    refine h (a.size + j) m ?_
    rw [Tr.enc, List.getElem?_append_right (by rw [Tr.enc_len]; omega), Tr.enc_len, Nat.add_sub_cancel_left, List.getElem?_append_left (List.getElem?_eq_some_iff.1 hj).1]; exact hj
  · rw [Nat.add_assoc]
    refine h (a.size + b.size) _ ?_
    rw [Tr.enc, List.getElem?_append_right (by rw [Tr.enc_len]; omega), Tr.enc_len, List.getElem?_append_right (by rw [Tr.enc_len]; omega), Tr.enc_len]; simp; omega
theorem Lies.last {f : List Mk} {p : Nat} {t : Tr} (h : Lies f p t) : p + t.size - 1 < f.length := by
  have hp := t.size_pos
  have hl := t.enc_len p
  obtain ⟨m, hm⟩ : ∃ m, (t.enc p)[t.size - 1]? = some m := ⟨(t.enc p)[t.size - 1]'(by omega), List.getElem?_eq_getElem _⟩
  have := (List.getElem?_eq_some_iff.1 (h _ m hm)).1
  omega

set_option maxRecDepth 100000 in
set_option maxHeartbeats 1000000 in
theorem Rvar_any (x : Int) (w : World) (h0 : 0 ≤ x) (h1 : x < 6) : Calls Tryd.prog 80 #[.int .i64 x] w fun e w' => e = .returned (strV (varB x)) ∧ w = w' := by
  have hv := var_cut (x := x) ⟨h0, h1⟩
  have HV := Lib.hid hv; clear hv
  go_enter Tryd.func80, Tryd.ntmps80
  go_wp2
  go_returns
  exact ⟨by rw [← HV.out]; rfl, rfl⟩

theorem strV_cat {R : ByteArray} {l : List UInt8} (h : R.data.toList = l) : Value.string R = strV l := by
  subst h
  show Value.string R = .string ⟨R.data.toList.toArray⟩
  rw [Array.toArray_toList]
def kids (n : Int) (a b : List UInt8) : List (List UInt8) := if n = 0 then [] else if n = 1 then [a] else [a, b]
/-- The contract of a call that returns this text. -/
abbrev TextOf (f : List Mk) (v : Value) (i : Int) (l : List UInt8) : Prop :=
  ∀ W, MS W v f → Calls Tryd.prog 64 #[v, .int .i64 i] W fun e w' => e = .returned (strV l) ∧ Below W.heap.size W w'
set_option maxRecDepth 100000 in
set_option maxHeartbeats 4000000 in
theorem text_true (f : List Mk) (v : Value) (i : Nat) (m : Mk) (hm : f[i]? = some m) (h1 : m.op = 1) : TextOf f v i (nm m.op) := by
  intro w hv
  have HV := Lib.hid hv
  obtain ⟨hop, A, c, rfl, hc, hc2, hcell⟩ := hv
  have hlt : i < f.length := (List.getElem?_eq_some_iff.1 hm).1
  obtain ⟨b, o, rfl⟩ := HV.out.addr (by omega)
  obtain ⟨c0, c1, c2', c3, c4⟩ := HV.out.at5 hm
  have hbl : b < w.heap.size := World.block_lt_of_cell? _ _ c0
  clear hcell hop hm
  obtain ⟨n, hn⟩ : ∃ n, n = f.length := ⟨_, rfl⟩
  rw [← hn] at hc hlt ⊢
  clear hn HV
  rw [h1] at c0 ⊢
  clear h1
  go_enter Tryd.func64, Tryd.ntmps64
  go_wp2
  go_returns
  exact ⟨rfl, by go_grown⟩
set_option maxRecDepth 100000 in
set_option maxHeartbeats 4000000 in
theorem text_node (f : List Mk) (v : Value) (i : Nat) (m : Mk) (k n0 : Int) (ta tb : List UInt8) (hm : f[i]? = some m) (h1 : m.op ≠ 1) (hk : nv m.op = k) (hn0 : nc m.op = n0) (hw : within m 6 = true)
    (ha : 0 < n0 → TextOf f v m.a ta) (hb : 1 < n0 → TextOf f v m.b tb) (hla : ta.length ≤ 2000) (hlb : tb.length ≤ 2000) : TextOf f v i (fmtNode m (kids n0 ta tb)) := by
  intro w hv
  have HV := Lib.hid hv
  obtain ⟨hop, A, c, rfl, hc, hc2, hcell⟩ := hv
  have hlt : i < f.length := (List.getElem?_eq_some_iff.1 hm).1
  obtain ⟨b, o, rfl⟩ := HV.out.addr (by omega)
  obtain ⟨c0, c1, c2', c3, c4⟩ := HV.out.at5 hm
  have hbl : b < w.heap.size := World.block_lt_of_cell? _ _ c0
  obtain ⟨m1, m2⟩ := hop m (List.mem_of_getElem? hm)
  have hne1 : (m.op == 1) = false := by simp [h1]
  have hft := fmtNode_eq m (kids n0 ta tb)
  have hN := fun W => RName_any m.op W m1 m2
  have hX := fun W => RUsesX_any m.op W m1 m2
  have hY := fun W => RUsesY_any m.op W m1 m2
  have hC := fun W => RChildren_any m.op W m1 m2
  have hVX := fun (h : 0 < k) W => Rvar_any m.x W (by simp only [within, Bool.and_eq_true, Bool.or_eq_true, decide_eq_true_eq] at hw; omega) (by simp only [within, Bool.and_eq_true, Bool.or_eq_true, decide_eq_true_eq] at hw; omega)
  have hVY := fun (h : 1 < k) W => Rvar_any m.y W (by simp only [within, Bool.and_eq_true, Bool.or_eq_true, decide_eq_true_eq] at hw; omega) (by simp only [within, Bool.and_eq_true, Bool.or_eq_true, decide_eq_true_eq] at hw; omega)
  rw [hk] at hX hY
  rw [hn0] at hC
  have hocc : occ m = [m.x, m.y].take k.toNat := by rw [← hk]; rfl
  have hkc : k = 0 ∨ k = 1 ∨ k = 2 := by rw [← hk]; exact nv_cases _
  have hnc : n0 = 0 ∨ n0 = 1 ∨ n0 = 2 := by rw [← hn0]; exact nc_cases _
  rw [hocc] at hft
  obtain ⟨R, hR⟩ : ∃ R, R = fmtNode m (kids n0 ta tb) := ⟨_, rfl⟩
  rw [← hR] at hft ⊢
  clear hcell hop hm hk hn0 hw h1 hocc hR
  obtain ⟨N, hNB⟩ : ∃ N : ByteArray, N = ⟨(nm m.op).toArray⟩ := ⟨_, rfl⟩
  obtain ⟨VX, hVXB⟩ : ∃ N : ByteArray, N = ⟨(varB m.x).toArray⟩ := ⟨_, rfl⟩
  obtain ⟨VY, hVYB⟩ : ∃ N : ByteArray, N = ⟨(varB m.y).toArray⟩ := ⟨_, rfl⟩
  obtain ⟨TA, hTA⟩ : ∃ N : ByteArray, N = ⟨ta.toArray⟩ := ⟨_, rfl⟩
  obtain ⟨TB, hTB⟩ : ∃ N : ByteArray, N = ⟨tb.toArray⟩ := ⟨_, rfl⟩
  have eVX : strV (varB m.x) = .string VX := by rw [hVXB]; rfl
  have eVY : strV (varB m.y) = .string VY := by rw [hVYB]; rfl
  have eTA : strV ta = .string TA := by rw [hTA]; rfl
  have eTB : strV tb = .string TB := by rw [hTB]; rfl
  have sN : N.size ≤ 10 := by rw [hNB]; exact nm_len m.op
  have sVX : VX.size = 1 := by rw [hVXB]; rfl
  have sVY : VY.size = 1 := by rw [hVYB]; rfl
  have sTA : TA.size ≤ 2000 := by rw [hTA]; exact hla
  have sTB : TB.size ≤ 2000 := by rw [hTB]; exact hlb
  have dN : N.data.toList = nm m.op := by rw [hNB]
  have dVX : VX.data.toList = varB m.x := by rw [hVXB]
  have dVY : VY.data.toList = varB m.y := by rw [hVYB]
  have dTA : TA.data.toList = ta := by rw [hTA]
  have dTB : TB.data.toList = tb := by rw [hTB]
  rw [← hNB] at hN
  rw [eVX] at hVX
  rw [eVY] at hVY
  unfold TextOf at ha hb
  rw [eTA] at ha
  rw [eTB] at hb
  have DN := Lib.hid dN; have DX := Lib.hid dVX; have DY := Lib.hid dVY; have DA := Lib.hid dTA; have DB := Lib.hid dTB
  clear eVX eVY eTA eTB dN dVX dVY dTA dTB hNB hVXB hVYB hTA hTB hla hlb
  obtain ⟨n, hn⟩ : ∃ n, n = f.length := ⟨_, rfl⟩
  rw [← hn] at hc hlt HV ha hb ⊢
  clear hn
  have HFT := Lib.hid hft; have HN := Lib.hid hN; have HVX := Lib.hid hVX; have HVY := Lib.hid hVY; have HA := Lib.hid ha; have HBB := Lib.hid hb
  clear hft hN hVX hVY ha hb
  rcases hkc with rfl | rfl | rfl <;> rcases hnc with rfl | rfl | rfl
  all_goals
    have HX := Lib.hid hX; have HY := Lib.hid hY; have HC := Lib.hid hC
    clear hX hY hC
    go_enter Tryd.func64, Tryd.ntmps64
    go_wp2_with (first
      | (go_at_call 39; go_must ((with_reducible refine (HN.out _).mono ?_); rintro e w1 ⟨rfl, hb1⟩; have HR := Lib.hid ((Row.new w _ _).below hb1 (by simp only [World.size_alloc]; omega)); have HB := Lib.hid ((Below.alloc (Below.refl w.heap.size w) (Nat.le_refl _) _).trans (hb1.mono (by simp only [World.size_alloc]; omega))); clear hb1; have rc := HR.out.cell; have rl := HR.out.lt))
      | (go_at_call 40; go_must ((with_reducible refine (HX.out _).mono ?_); rintro e w2 ⟨rfl, rfl⟩))
      | (go_at_call 41; go_must ((with_reducible refine (HY.out _).mono ?_); rintro e w2 ⟨rfl, rfl⟩))
      | (go_at_call 60; go_must ((with_reducible refine (HC.out _).mono ?_); rintro e w2 ⟨rfl, rfl⟩))
      | (go_at_call 80; (with_reducible refine (HVX.out (by decide) _).mono ?_); rintro e w2 ⟨rfl, rfl⟩)
      | (go_at_call 80; (with_reducible refine (HVY.out (by decide) _).mono ?_); rintro e w2 ⟨rfl, rfl⟩)
      | (go_at_call 64; (with_reducible refine (HA.out (by decide) _ (HV.out.below HB.out (Nat.le_refl _))).mono ?_); rintro e w4 ⟨rfl, hb4⟩; replace HR := Lib.hid (HR.out.below hb4 HR.out.lt); replace HB := Lib.hid (HB.out.trans (hb4.mono HB.out.size)); clear hb4 rc rl; have rc := HR.out.cell; have rl := HR.out.lt)
      | (go_at_call 64; (with_reducible refine (HBB.out (by decide) _ (HV.out.below HB.out (Nat.le_refl _))).mono ?_); rintro e w5 ⟨rfl, hb5⟩; replace HR := Lib.hid (HR.out.below hb5 HR.out.lt); replace HB := Lib.hid (HB.out.trans (hb5.mono HB.out.size)); clear hb5 rc rl; have rc := HR.out.cell; have rl := HR.out.lt))
    go_returns
    refine ⟨congrArg Ending.returned (strV_cat ?_), HB.out⟩
    rw [HFT.out]
    simp [kids, ByteArray.data_append, DN.out, DX.out, DY.out, DA.out, DB.out]
theorem Rtext_any (f : List Mk) (v : Value) (t : Tr) : t.ok → t.size ≤ 64 → ∀ p, Lies f p t → TextOf f v ((p + t.size - 1 : Nat) : Int) t.text := by
  induction t with
  | leaf op x y =>
    intro ok hs p hl
    have hm := hl.leaf
    simp only [Tr.size, Nat.add_sub_cancel, Tr.text]
    by_cases h1 : op = 1
    · rw [if_pos h1]
      exact text_true f v p _ hm h1
    · rw [if_neg h1]
      have := text_node f v p _ (nv op) 0 [] [] hm h1 rfl ok.2.1 ok.2.2.1 (by omega) (by omega) (by simp) (by simp)
      exact this
  | un op x a ih =>
    intro ok hs p hl
    have l1 := a.text_len ok.2
    simp only [Tr.size] at hs
    obtain ⟨h1, h2⟩ := hl.un
    have := text_node f v (p + a.size) _ (nv op) 1 a.text [] h2 (op1_nc (by rw [ok.1.2.1]; omega)) rfl ok.1.2.1 ok.1.2.2.1 (fun _ => ih ok.2 (by omega) p h1) (by omega) (by omega) (by simp)
    simp only [Tr.size, Tr.text]
    rw [show p + (a.size + 1) - 1 = p + a.size by omega]
    exact this
  | bin op a b iha ihb =>
    intro ok hs p hl
    have l1 := a.text_len ok.2.1
    have l2 := b.text_len ok.2.2
    simp only [Tr.size] at hs
    obtain ⟨h1, h2, h3⟩ := hl.bin
    have hnv := (nv_of_nc2 op ok.1).1
    have := text_node f v (p + a.size + b.size) _ (nv op) 2 a.text b.text h3 (op1_nc (by rw [ok.1]; omega)) rfl ok.1 (by simp [within, hnv]) (fun _ => iha ok.2.1 (by omega) p h1) (fun _ => ihb ok.2.2 (by omega) _ h2) (by omega) (by omega)
    simp only [Tr.size, Tr.text]
    rw [show p + (a.size + b.size + 1) - 1 = p + a.size + b.size by omega]
    exact this
end Go.Proofs.YtcjblbhmajdmjaaDoor

namespace Go.Proofs.YtcjblbhmajdmjaaDoor
open Go.RowKit

set_option maxRecDepth 100000 in
set_option maxHeartbeats 4000000 in
theorem RFormat_any (f : List Mk) (v : Value) (w : World) (hv : MS w v f) :
    Calls Tryd.prog 28 #[v] w fun e w' => e = .returned (.tuple #[strV (if formedS f then textS f else []), .int .i64 (if formedS f then 0 else 2)]) ∧ Below w.heap.size w w' := by
  have hF := fun W (h : MS W v f) => RFormed_any f v W h
  obtain ⟨b, hb⟩ : ∃ b, b = formedS f := ⟨_, rfl⟩
  rw [← hb] at hF ⊢
  have HV := Lib.hid hv
  obtain ⟨hop, A, c, rfl, hc, hc2, hcell⟩ := hv
  clear hcell hop
  have HF := Lib.hid hF; clear hF
  cases b with
  | false =>
    clear hb
    go_enter Tryd.func28, Tryd.ntmps28
    go_wp2_with (go_at_call 49; go_must ((with_reducible refine (HF.out _ HV.out).mono ?_); rintro e w1 ⟨rfl, hb1⟩))
    go_returns
    exact ⟨rfl, hb1⟩
  | true =>
    obtain ⟨t, ok, hs, he, ht⟩ := formed_is f hb.symm
    have hlen : f.length = t.size := by rw [he, Tr.enc_len]
    have hp := t.size_pos
    have hT := Rtext_any f (.slice A f.length c) t ok hs 0 (by rw [he]; exact Lies.self t)
    rw [Nat.zero_add] at hT
    rw [ht]
    clear hb ht he
    obtain ⟨n, hn⟩ : ∃ n, n = f.length := ⟨_, rfl⟩
    have e1 : (((t.size - 1 : Nat)) : Int) = (n : Int) - 1 := by omega
    rw [e1] at hT
    rw [← hn] at HV HF hT hc ⊢
    have HT := Lib.hid hT; clear hT e1
    clear hs ok hn hlen
    go_enter Tryd.func28, Tryd.ntmps28
    go_wp2_with (first
      | (go_at_call 49; go_must ((with_reducible refine (HF.out _ HV.out).mono ?_); rintro e w1 ⟨rfl, hb1⟩))
      | (go_at_call 64; go_must (refine (HT.out _ (HV.out.below hb1 (Nat.le_refl _))).mono ?_; rintro e w2 ⟨rfl, hb2⟩)))
    go_returns
    exact ⟨rfl, hb1.trans (hb2.mono hb1.size)⟩
end Go.Proofs.YtcjblbhmajdmjaaDoor

/- Reference of chapter 15: decode, All. -/
import Derived.Test.YtahimlnddelnbaaDoorRTi
import Derived.Test.YtahimlnddelnbaaDoorAlT
set_option linter.unusedSimpArgs false
set_option linter.unusedVariables false
namespace Go.Proofs.YtahimlnddelnbaaDoor
open Go.RowKit

set_option maxRecDepth 100000 in
set_option maxHeartbeats 4000000 in
theorem rdecode_bt (b : Bt) : b.size ≤ 31 → (∀ m ∈ b.enc 0, 0 ≤ m.label ∧ m.label ≤ 255) → ∀ (c rest : List Int) (p : Nat) (v : Value) (w : World), IS w v c → c.drop p = b.code ++ rest → p + b.code.length ≤ 1000 →
    Calls Tryd.prog 106 #[v, .int .i64 (p : Int)] w (RetTT w (b.enc 0) ((p + b.code.length : Nat) : Int)) := by
  induction b with
  | nil =>
    intro _ _ c rest p v w hv hd hl
    have h0 : c[p]? = some 0 := by
      have : (c.drop p)[0]? = some 0 := by rw [hd]; rfl
      rwa [List.getElem?_drop, Nat.add_zero] at this
    have hpl := (List.getElem?_eq_some_iff.1 h0).1
    obtain ⟨A, k, rfl, hck, hk2, hcell⟩ := hv
    obtain ⟨g, o, rfl, hg, hm⟩ := hcell (by omega)
    have c0 := hm p 0 h0
    obtain ⟨n, hn⟩ : ∃ n, n = c.length := ⟨_, rfl⟩
    rw [← hn] at hpl hck ⊢
    have hp9 : (p : Int) ≤ 1000 := by have : p + (Bt.nil.code).length ≤ 1000 := hl; omega
    have HL := Lib.hid (show ((p + (Bt.nil.code).length : Nat) : Int) = (p : Int) + 1 by simp [Bt.code])
    clear hcell hm hd h0 hn hl
    rw [HL.out]
    go_enter Tryd.func106, Tryd.ntmps106
    go_wp2
    go_returns
    exact ⟨_, rfl, Below.refl _ _, TO.nil _ _⟩
  | node lab l r ihl ihr =>
    intro hs hlb c rest p v w hv hd hl
    have hcl : (Bt.node lab l r).code = (1 + lab) :: (l.code ++ r.code) := rfl
    have h0 : c[p]? = some (1 + lab) := by
      have : (c.drop p)[0]? = some (1 + lab) := by rw [hd, hcl]; rfl
      rwa [List.getElem?_drop, Nat.add_zero] at this
    have hd1 : c.drop (p + 1) = l.code ++ (r.code ++ rest) := by
      rw [← List.drop_drop, hd, hcl]; simp
    have hd2 : c.drop (p + 1 + l.code.length) = r.code ++ rest := by
      rw [← List.drop_drop, hd1, List.drop_left]
    have hll : ∀ m ∈ l.enc 0, 0 ≤ m.label ∧ m.label ≤ 255 := lab_left (P := fun x => 0 ≤ x ∧ x ≤ 255) hlb
    have hlr : ∀ m ∈ r.enc 0, 0 ≤ m.label ∧ m.label ≤ 255 := lab_right (P := fun x => 0 ≤ x ∧ x ≤ 255) hlb
    obtain ⟨l0, l1⟩ := hlb _ (List.mem_cons_self ..)
    simp only at l0 l1
    have hs2 : l.size + r.size + 1 ≤ 31 := hs
    have hlen : (Bt.node lab l r).code.length = l.code.length + r.code.length + 1 := by rw [hcl]; simp
    rw [hlen] at hl ⊢
    have IL' := Lib.hid (fun W (h : IS W v c) => (show Calls Tryd.prog 106 #[v, .int .i64 ((p : Int) + 1)] W (RetTT W (l.enc 0) ((p : Int) + 1 + (l.code.length : Int))) from by
      have q := ihl (by omega) hll c _ (p + 1) v W h hd1 (by omega)
      rw [Int.natCast_add, Int.natCast_add] at q; exact q))
    have IR' := Lib.hid (fun W (h : IS W v c) => (show Calls Tryd.prog 106 #[v, .int .i64 ((p : Int) + 1 + (l.code.length : Int))] W (RetTT W (r.enc 0) ((p : Int) + 1 + (l.code.length : Int) + (r.code.length : Int))) from by
      have q := ihr (by omega) hlr c _ (p + 1 + l.code.length) v W h hd2 (by omega)
      rw [Int.natCast_add, Int.natCast_add, Int.natCast_add] at q; exact q))
    have HJ := Lib.hid (fun W va vb (h1' : TS W va (l.enc 0)) (h2' : TS W vb (r.enc 0)) => (show Calls Tryd.prog 86 #[.int .u8 lab, va, vb] W (RetTO W ((Bt.node lab l r).enc 0)) from by
      have q := rjoin_any lab _ _ va vb W h1' h2' l0 l1 (by rw [Bt.enc_len]; omega) (by rw [Bt.enc_len]; omega) (kid_enc _ (by omega)) (kid_enc _ (by omega))
      rw [joinT_enc] at q
      exact q))
    have HL := Lib.hid (show ((p + (l.code.length + r.code.length + 1) : Nat) : Int) = (p : Int) + 1 + (l.code.length : Int) + (r.code.length : Int) by omega)
    rw [HL.out]
    generalize (Bt.node lab l r).enc 0 = res at *
    generalize l.enc 0 = tl at *
    generalize r.enc 0 = tr at *
    obtain ⟨zl, hzl⟩ : ∃ k, k = l.code.length := ⟨_, rfl⟩
    obtain ⟨zr, hzr⟩ : ∃ k, k = r.code.length := ⟨_, rfl⟩
    rw [← hzl] at IL' IR' hl ⊢
    rw [← hzr] at IR' hl ⊢
    have hpl := (List.getElem?_eq_some_iff.1 h0).1
    have HV := Lib.hid hv
    obtain ⟨A, k, rfl, hck, hk2, hcell⟩ := hv
    obtain ⟨g, o, rfl, hg, hm⟩ := hcell (by omega)
    have c0 := hm p (1 + lab) h0
    obtain ⟨n, hn⟩ : ∃ n, n = c.length := ⟨_, rfl⟩
    rw [← hn] at hpl hck HV IL' IR' ⊢
    have hz1 : ((1 + lab : Int) == 0) = false := by rw [beq_eq_false_iff_ne]; omega
    have hw8 : IntKind.u8.wrap lab = lab := IntWalk.u8_in _ (by omega)
    have hw9 : IntKind.u8.wrap (1 + lab - 1) = lab := by rw [show 1 + lab - 1 = lab by omega]; exact hw8
    have hpi : (p : Int) + 1 + (zl : Int) + (zr : Int) ≤ 1000 := by omega
    have hpn : (p : Int) < (n : Int) := by omega
    clear hcell hm hd hd1 hd2 h0 hn hl ihl ihr hlb hll hlr hs hs2 hcl hlen hzl hzr
    go_enter Tryd.func106, Tryd.ntmps106
    go_wp2_with (first
      | (go_at_call 106; (with_reducible refine (IL'.out _ HV.out).mono ?_); rintro e w1 ⟨v1, rfl, hb, ho⟩; have HX := Lib.hid ho; have HB := Lib.hid hb; replace HV := Lib.hid (HV.out.below hb (Nat.le_refl _)); clear hb ho)
      | (go_at_call 106; (with_reducible refine (IR'.out _ HV.out).mono ?_); rintro e w2 ⟨v2, rfl, hb, ho⟩; have HY := Lib.hid ho; replace HX := Lib.hid (HX.out.below hb (Nat.le_refl _)); replace HB := Lib.hid (HB.out.trans (hb.mono HB.out.size)); have c1 := (HB.out.cell (p := ⟨g, o + p, none⟩) hg).trans c0; clear hb ho)
      | (go_at_call 86; (with_reducible refine (HJ.out _ _ _ HX.out.ts HY.out.ts).mono ?_); rintro e w3 ⟨v3, rfl, hb, ho⟩; have HO := Lib.hid (ho.mono HB.out.size); replace HB := Lib.hid (HB.out.trans (hb.mono HB.out.size)); clear hb ho))
    go_returns
    exact ⟨v3, rfl, HB.out, HO.out⟩

theorem TO.oneC {w : World} {B : Nat} {v : Value} {f : List Lf} (h : TO w B v f) : v.oneCell' = true := by
  rcases h.2.2 with ⟨rfl, _⟩ | ⟨g, cap, cur, rfl, _⟩ <;> rfl
theorem TL.far {w w' : World} {B B' : Nat} {vs us : List Value} {ts : List (List Lf)} {u : Value} (h : TL w B vs ts) (h2 : VO 39 w B' u us) (hg : w.grownBy w' u.ownBlock) : TL w' B vs ts :=
  ⟨h.1, fun i v hv => by obtain ⟨t, h1, h3⟩ := h.2 i v hv; exact ⟨t, h1, h3.farV h2 hg⟩⟩
theorem take_snoc' {α : Type} {l : List α} {k : Nat} {x : α} (h : l[k]? = some x) : l.take (k + 1) = l.take k ++ [x] := by
  rw [List.take_add_one, h]; rfl
theorem IL.at {w : World} {vs : List Value} {cs : List (List Int)} {k : Nat} {c : List Int} (h : IL w vs cs) (hc : cs[k]? = some c) : ∃ v, vs[k]? = some v ∧ OWI w 0 v c := by
  have hk : k < vs.length := by rw [h.1]; exact (List.getElem?_eq_some_iff.1 hc).1
  obtain ⟨c', h1, h2⟩ := h.2 k _ (List.getElem?_eq_getElem hk)
  rw [hc] at h1
  cases h1
  exact ⟨_, List.getElem?_eq_getElem hk, h2⟩
theorem all_err {w w' : World} {R : List (List Lf) × Int} {k : Int} (hR : R = ([], k)) (hb : Below w.heap.size w w') : AllE w R (.returned (.tuple #[.slice none 0 0, .int .i64 k])) w' := by
  subst hR
  exact ⟨_, [], rfl, hb, VO.nil _ _ _, TL.nil _ _⟩
set_option maxRecDepth 100000 in
set_option maxHeartbeats 8000000 in
theorem rall_in (V N K : Nat) (hVK : (V = 0 ∧ K = 1) ∨ (V = 1 ∧ K = 2) ∨ (V = 2 ∧ K = 4) ∨ (V = 3 ∧ K = 8)) (hN : N ≤ 31) (R : List (List Lf) × Int) (w : World)
    (hR : R = if 4096 < catK K N then ([], 10) else ((btsS K N).map fun b => b.enc 0, 0)) (hKV : K = 2 ^ V) :
    Calls Tryd.prog 45 #[.int .i64 (V : Int), .int .i64 (N : Int)] w (AllE w R) := by
  have hV : V < 4 := by rcases hVK with ⟨h, _⟩ | ⟨h, _⟩ | ⟨h, _⟩ | ⟨h, _⟩ <;> omega
  have HCN := Lib.hid (fun W => (show Calls Tryd.prog 104 #[.int .i64 (V : Int), .int .i64 (N : Int)] W fun e w' => e = .returned (.int .i64 ((capN (catK K N) : Nat) : Int)) ∧ Below W.heap.size W w' from by have q := rcount_any V N hV hN W; rw [← hKV] at q; exact q))
  have hcb := cap_budget (catK K N)
  have hcl := capN_le (catK K N)
  have hVi : (V : Int) ≤ 3 := by omega
  have hNi : (N : Int) ≤ 31 := by omega
  by_cases hb : 4096 < catK K N
  · rw [if_pos hb] at hR
    have HR := Lib.hid hR
    have hci : (4096 : Int) < ((capN (catK K N) : Nat) : Int) := by have := hcb.2 hb; omega
    obtain ⟨x, hx⟩ : ∃ x, x = capN (catK K N) := ⟨_, rfl⟩
    rw [← hx] at HCN hci
    clear hR hb hcb hcl hx hVK hKV
    go_enter Tryd.func45, Tryd.ntmps45
    go_wp2_with (go_at_call 104; (with_reducible refine (HCN.out _).mono ?_); rintro e w1 ⟨rfl, hb⟩; have HB := Lib.hid hb; clear hb)
    go_returns
    exact all_err HR.out HB.out
  · rw [if_neg hb] at hR
    have hci : ((capN (catK K N) : Nat) : Int) ≤ 4096 := by
      have : ¬ 4096 < capN (catK K N) := fun h => hb (hcb.1 h)
      omega
    have hfew : (codesF K (2 * N + 1) 1 N).length ≤ 4096 := by rw [codes_len, cnt_cat]; omega
    have HCD := Lib.hid (fun W => (show Calls Tryd.prog 105 #[.int .i64 (V : Int), .int .i64 1, .int .i64 (N : Int), .slice none 0 0] W (RetIL W (codesS K N)) from by
      have q := rcodes_any V K hVK (2 * N + 1) 1 N [] (.slice none 0 0) W rfl (by omega) hN (by simp; omega) hfew (OWI.nil _ _)
      simp only [List.nil_append, List.map_id'] at q
      exact q))
    have hbc := bts_code K N
    have hlen : (btsS K N).length ≤ 4096 := by rw [bts_len, cnt_cat]; omega
    have hcl' : (codesS K N).length = (btsS K N).length := by rw [← hbc, List.length_map]
    have hdec : ∀ (i : Nat) (b : Bt), (btsS K N)[i]? = some b → (codesS K N)[i]? = some b.code ∧ ∀ W v, IS W v b.code → Calls Tryd.prog 106 #[v, .int .i64 0] W (RetTT W (b.enc 0) (((0 + b.code.length : Nat)) : Int)) := fun i b hb' => by
      refine ⟨by rw [← hbc, List.getElem?_map, hb']; rfl, fun W v h => ?_⟩
      obtain ⟨h1, h2⟩ := mem_bts.1 (List.mem_of_getElem? hb')
      have hlt := (lt_enc (K := K) b 0).2 h2
      have hK8 : K ≤ 8 := by rcases hVK with ⟨_, rfl⟩ | ⟨_, rfl⟩ | ⟨_, rfl⟩ | ⟨_, rfl⟩ <;> omega
      have hcl3 := b.code_len
      exact rdecode_bt b (by omega) (fun m hm => by have := hlt m hm; omega) b.code [] 0 v W h (by simp) (by omega)
    have HD := Lib.hid hdec
    obtain ⟨M, hM⟩ : ∃ M, M = (btsS K N).length := ⟨_, rfl⟩
    rw [← hM] at hlen hcl'
    have HM := Lib.hid hM; have HCL := Lib.hid hcl'
    have HR := Lib.hid hR
    obtain ⟨x, hx⟩ : ∃ x, x = capN (catK K N) := ⟨_, rfl⟩
    rw [← hx] at HCN hci hcl
    generalize btsS K N = bs at *
    generalize codesS K N = cs at *
    clear hR hb hcb hx hVK hKV hfew hbc hdec hcl' hM
    go_enter Tryd.func45, Tryd.ntmps45
    go_wp2_with (first
      | (go_at_call 104; (with_reducible refine (HCN.out _).mono ?_); rintro e w1 ⟨rfl, hb⟩; have HB := Lib.hid hb; clear hb)
      | (go_at_call 105; (with_reducible refine (HCD.out _).mono ?_); rintro e w2 ⟨ov, vs, rfl, hb, hvo, hil⟩; replace HB := Lib.hid (HB.out.trans (hb.mono HB.out.size)); have HV := Lib.hid hvo; have HI := Lib.hid hil; obtain ⟨Ao, co, rfl⟩ := hvo.form; have hvl : vs.length = M := hil.1.trans HCL.out; rw [hvl] at HV ⊢; have hco := HV.out.vs.len; clear hb hvo hil hvl))
    go_loopg [7, 8] M (fun gk q s wr => ∃ (k : Nat) (us : List Value), k ≤ M ∧ gk = M - k ∧ s = .int .i64 (k : Int) ∧ Below w2.heap.size w2 wr ∧ VO 39 wr w2.heap.size q us ∧ TL wr w2.heap.size us ((bs.map fun b => b.enc 0).take k))
    case atStart => exact ⟨0, [], by omega, rfl, rfl, Below.refl _ _, VO.nil _ _ _, TL.nil _ _⟩
    case round =>
      obtain ⟨k, us, hk, rfl, rfl, hbe, hvo, htl⟩ := hrel
      have HBR := Lib.hid hbe; have HO := Lib.hid hvo; have HT := Lib.hid htl
      have HIr := Lib.hid (HI.out.below hbe (Nat.le_refl _))
      have HVr := Lib.hid (HV.out.below hbe (Nat.le_refl _))
      obtain ⟨An, cn, rfl⟩ := hvo.form
      have hul : us.length = k := by rw [htl.1, List.length_take, List.length_map, ← HM.out]; omega
      rw [hul] at HO ⊢
      clear hbe hvo htl
      by_cases hlt : k < M
      · obtain ⟨b, hb⟩ : ∃ b, bs[k]? = some b := ⟨bs[k]'(by rw [← HM.out]; exact hlt), List.getElem?_eq_getElem _⟩
        obtain ⟨hcb, hdc⟩ := HD.out k b hb
        obtain ⟨cv, hcv, hco1⟩ := HIr.out.at hcb
        have HIS := Lib.hid hco1.is
        obtain ⟨Ac, cc, rfl, _⟩ := hco1.is
        have HDC := Lib.hid hdc
        obtain ⟨g, o, rfl, hgl⟩ := HVr.out.vs.addr (by have := (List.getElem?_eq_some_iff.1 hcv).1; omega)
        have c0 := HVr.out.vs.at hcv
        have HTK := Lib.hid (take_snoc' (l := bs.map fun b => b.enc 0) (k := k) (x := b.enc 0) (by rw [List.getElem?_map, hb]; rfl))
        obtain ⟨zc, hzc⟩ : ∃ z, z = ((0 + b.code.length : Nat) : Int) := ⟨_, rfl⟩
        rw [← hzc] at HDC
        have hki : (k : Int) < M := by omega
        clear hb hcb hdc hcv hco1 hzc
        go_wp2_with (first
          | (go_at_call 106; (with_reducible refine (HDC.out _ _ HIS.out).mono ?_); rintro e w3 ⟨tv, rfl, hb3, ho3⟩; obtain ⟨At, ct, rfl⟩ := ho3.ts.form; have HB3 := Lib.hid hb3; have HTV := Lib.hid (ho3.mono (B' := w2.heap.size) HBR.out.size); have HO3 := Lib.hid (HO.out.below hb3 (Nat.le_refl _)); have HT3 := Lib.hid (HT.out.below hb3 (Nat.le_refl _)); have HSZ := Lib.hid (show w2.heap.size ≤ w3.heap.size by have h2 := HBR.out.size; have h3 := hb3.size; omega); clear hb3 ho3)
          | (at_builtin; go_must (refine wpList_append_vs elt_tree rfl (.tmp 44) (.tmp 46) rfl w2.heap.size _ us rfl (HO3.out.below (B' := w3.heap.size) (by go_grown) (Nat.le_refl _)) _ [Value.slice At (b.enc 0).length ct] rfl (VS.lit1 (Row.new _ _ _)) (by intro u hu; simp at hu; subst hu; exact HTV.out.oneC) (by rw [hul]; simp only [List.length_cons, List.length_nil]; omega) (by have := HSZ.out; simp only [World.size_alloc]; omega) ?_; intro ov4 w4 ho4 hg4 _)))
        have HO3a := Lib.hid (HO3.out.below (B' := w3.heap.size) (Below.alloc (Below.refl _ _) (Nat.le_refl _) (.cells #[Value.slice At (b.enc 0).length ct] 39)) (Nat.le_refl _))
        have HB4 := Lib.hid (own_below_v (w := w2) ((HBR.out.trans (HB3.out.mono HBR.out.size)).alloc (by have := HSZ.out; omega) (.cells #[Value.slice At (b.enc 0).length ct] 39)) HO3a.out hg4 (by have := HSZ.out; simp only [World.size_alloc]; omega))
        have HT4 := Lib.hid (((HT3.out.below (B' := w3.heap.size) (Below.alloc (Below.refl _ _) (Nat.le_refl _) (.cells #[Value.slice At (b.enc 0).length ct] 39)) (Nat.le_refl _)).far HO3a.out hg4).snoc ((HTV.out.below (B' := w3.heap.size) (Below.alloc (Below.refl _ _) (Nat.le_refl _) (.cells #[Value.slice At (b.enc 0).length ct] 39)) (Nat.le_refl _)).farV HO3a.out hg4))
        have HO4 := Lib.hid ho4
        clear ho4 hg4 HO3a
        go_wp2
        go_roundg (M - (k + 1))
        case rel => exact ⟨k + 1, us ++ [Value.slice At (b.enc 0).length ct], by omega, rfl, by go_num, HB4.out, HO4.out, by rw [HTK.out]; exact HT4.out⟩
        case measure => omega
      · have hkM : k = M := by omega
        have ht := HT.out
        rw [List.take_of_length_le (by rw [List.length_map, ← HM.out]; omega)] at ht
        have HTF := Lib.hid ht
        have hki : (M : Int) ≤ (k : Int) := by omega
        clear ht hkM
        go_wp2
        go_returns
        rw [HR.out]
        exact ⟨_, us, rfl, HB.out.trans (HBR.out.mono HB.out.size), HO.out.mono HB.out.size, HTF.out.mono HB.out.size⟩
set_option maxRecDepth 100000 in
set_option maxHeartbeats 1000000 in
theorem rall_any (v n : Int) (w : World) : Calls Tryd.prog 45 #[.int .i64 v, .int .i64 n] w (AllE w (allS v n)) := by
  obtain ⟨R, hR⟩ : ∃ R, R = allS v n := ⟨_, rfl⟩
  rw [← hR]
  unfold allS at hR
  by_cases hv : v < 0 ∨ 3 < v
  · rw [if_pos hv] at hR
    have HR := Lib.hid hR
    clear hR
    have hvb : (decide (v < 0) = true) ∨ (decide (v < 0) = false ∧ decide (3 < v) = true) := by
      by_cases h : v < 0
      · exact .inl (decide_eq_true h)
      · exact .inr ⟨decide_eq_false h, decide_eq_true (by omega)⟩
    clear hv
    rcases hvb with h | ⟨h, h'⟩
    all_goals
      go_enter Tryd.func45, Tryd.ntmps45
      go_wp2
      go_returns
      exact all_err HR.out (Below.refl _ _)
  · rw [if_neg hv] at hR
    by_cases hn : n < 0 ∨ 31 < n
    · rw [if_pos hn] at hR
      have HR := Lib.hid hR
      clear hR
      have h1 : 0 ≤ v := by omega
      have h2 : v ≤ 3 := by omega
      have hvb : (decide (n < 0) = true) ∨ (decide (n < 0) = false ∧ decide (31 < n) = true) := by
        by_cases h : n < 0
        · exact .inl (decide_eq_true h)
        · exact .inr ⟨decide_eq_false h, decide_eq_true (by omega)⟩
      clear hv hn
      rcases hvb with h | ⟨h, h'⟩
      all_goals
        go_enter Tryd.func45, Tryd.ntmps45
        go_wp2
        go_returns
        exact all_err HR.out (Below.refl _ _)
    · rw [if_neg hn] at hR
      obtain ⟨V, rfl⟩ : ∃ V : Nat, v = V := ⟨v.toNat, by omega⟩
      obtain ⟨N, rfl⟩ : ∃ N : Nat, n = N := ⟨n.toNat, by omega⟩
      rw [Int.toNat_natCast, Int.toNat_natCast, cnt_cat] at hR
      have hc : (V = 0 ∧ 2 ^ V = 1) ∨ (V = 1 ∧ 2 ^ V = 2) ∨ (V = 2 ∧ 2 ^ V = 4) ∨ (V = 3 ∧ 2 ^ V = 8) := by
        have : V = 0 ∨ V = 1 ∨ V = 2 ∨ V = 3 := by omega
        rcases this with rfl | rfl | rfl | rfl <;> simp
      exact rall_in V N (2 ^ V) hc (by omega) R w hR rfl
end Go.Proofs.YtahimlnddelnbaaDoor

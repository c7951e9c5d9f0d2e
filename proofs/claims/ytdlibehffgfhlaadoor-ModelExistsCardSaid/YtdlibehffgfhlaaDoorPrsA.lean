/- Contracts of the parser's small functions: need, past, variable. -/
import Derived.Test.YtdlibehffgfhlaaDoorKeep
import Derived.Test.YtdlibehffgfhlaaDoorEnc
import Derived.Test.YtdlibehffgfhlaaDoorShelf
import Derived.Lib.IndexAny
set_option linter.unusedSimpArgs false
set_option linter.unusedVariables false
namespace Go.Proofs.YtdlibehffgfhlaaDoor
open Go.RowKit

/-- The ending of a panic of the parser. -/
def Pan (p : Nat) (e : Int) : List PanicEntry := [{ v := .iface 86 (.agg #[.int .i64 p, .int .i64 e]), recovered := false }]
def bts (s : ByteArray) : List UInt8 := s.data.toList
theorem bts_len (s : ByteArray) : (bts s).length = s.size := by
  show s.data.toList.length = s.data.size
  simp
theorem bts_get (s : ByteArray) (p : Nat) (h : p < s.size) : (bts s)[p]? = some s[p] := by
  have h' : p < s.data.toList.length := by rw [← bts_len] at h; exact h
  show s.data.toList[p]? = some s[p]
  rw [List.getElem?_eq_getElem h']
  rfl
theorem bts_none (s : ByteArray) (p : Nat) (h : s.size ≤ p) : (bts s)[p]? = none := List.getElem?_eq_none (by rw [bts_len]; exact h)
def needP (s : List UInt8) (cs : List UInt8) (e : Int) (p : Nat) : PR UInt8 :=
  match s[p]? with
  | none => .err p 3
  | some c => if cs.contains c then .ok p c else .err p e

/-- What need leaves. -/
def NeedPost (x : PR UInt8) (w : World) (e : Ending) (w' : World) : Prop :=
  Below w.heap.size w w' ∧ match x with
  | .ok _ c => e = .returned (.int .u8 c.toNat)
  | .err p k => e = .panicked (Pan p k)

theorem NeedPost.err {x : PR UInt8} {p : Nat} {k : Int} (h : x = .err p k) {w w' : World} (hb : Below w.heap.size w w') : NeedPost x w (.panicked (Pan p k)) w' := by subst h; exact ⟨hb, rfl⟩
theorem NeedPost.ok {x : PR UInt8} {p : Nat} {c : UInt8} (h : x = .ok p c) {w w' : World} (hb : Below w.heap.size w w') : NeedPost x w (.returned (.int .u8 c.toNat)) w' := by subst h; exact ⟨hb, rfl⟩
theorem drewN_below (w : World) (n : Nat) : Below w.heap.size w (w.drewN n) := ⟨rfl, rfl, rfl, Nat.le_refl _, fun _ _ => rfl⟩

/-- A quiet call in a region behind a region that has drawn already. -/
theorem quiet_more {P : Program} {f : FuncId} {args : Array Value} {w : World} {a n : Nat} {v : Value} (h : Calls P f args (w.drewN (a + n)) fun e w' => e = .returned v ∧ w.drewN (a + n) = w') :
    Calls P f args (w.drewN (a + n)) fun e w' => e = .returned v ∧ ∃ m, w' = w.drewN (a + m) := h.mono fun _ _ q => ⟨q.1, n, q.2.symm⟩

set_option maxRecDepth 100000 in
set_option maxHeartbeats 1000000 in
theorem need_any (S cs : ByteArray) (g p : Nat) (lv u : Value) (k : Int) (w : World) (hr : Row w g 89 #[.string S, .int .i64 p, lv, u]) (hp : p ≤ S.size) (hS : S.size ≤ 1000000) :
    Calls Tryd.prog 103 #[.pointer (some ⟨g, 0, none⟩), .string cs, .int .i64 k] w (NeedPost (needP (bts S) (bts cs) k p) w) := by
  have rc := hr.cell
  have rl := hr.lt
  clear hr
  by_cases hlt : p < S.size
  · obtain ⟨x, hx⟩ : ∃ x, x = needP (bts S) (bts cs) k p := ⟨_, rfl⟩
    rw [← hx]
    obtain ⟨ix, hix⟩ : ∃ ix, ix = Lib.indexByte (bts cs) S[p] := ⟨_, rfl⟩
    have hcall : ∀ W, Calls Tryd.prog 126 #[.string cs, .int .u8 (S[p].toNat : Int)] W fun e w' => e = .returned (.int .i64 ix) ∧ W = w' := fun W => (Tryd.strings_IndexByte cs (S[p].toNat : Int) W).mono fun e w' ⟨h1, h2⟩ => ⟨by rw [h1, hix]; simp [bts], h2.symm⟩
    have hc := Lib.contains_iff_indexByte (bts cs) S[p]
    rw [← hix] at hc
    have HX := Lib.hid hx; clear hx
    have HC := Lib.hid hc; clear hc hix
    have HCALL := Lib.hid hcall; clear hcall
    have hne : ((p : Int) == (S.size : Int)) = false := by simp; omega
    by_cases hi : ix < 0
    · have HE : Hid (x = .err p k) := by
        unfold Hid
        rw [HX.out, needP, bts_get S p hlt]
        simp only
        rw [HC.out, if_neg (by simp; omega)]
      go_enter Tryd.func103, Tryd.ntmps103
      go_wp2_with fail
      go_quiet (fail)
      go_wp2_with fail
      go_quiet ((go_at_call 126; exact quiet_more (HCALL.out _)))
      go_wp2_with fail
      exact ⟨rfl, NeedPost.err HE.out (drewN_below _ _)⟩
    · have HE : Hid (x = .ok p S[p]) := by
        unfold Hid
        rw [HX.out, needP, bts_get S p hlt]
        simp only
        rw [HC.out, if_pos (by simp; omega)]
      go_enter Tryd.func103, Tryd.ntmps103
      go_wp2_with fail
      go_quiet (fail)
      go_wp2_with fail
      go_quiet ((go_at_call 126; exact quiet_more (HCALL.out _)))
      go_wp2_with fail
      go_quiet (fail)
      go_wp2_with fail
      go_returns
      exact NeedPost.ok HE.out ⟨rfl, rfl, rfl, Nat.le_refl _, fun _ _ => rfl⟩
  · have hpe : p = S.size := by omega
    have HE : Hid (needP (bts S) (bts cs) k p = .err p 3) := by
      unfold Hid
      rw [needP, bts_none S p (by omega)]
    obtain ⟨x, hx⟩ : ∃ x, x = needP (bts S) (bts cs) k p := ⟨_, rfl⟩
    rw [← hx] at HE ⊢
    clear hx
    have hne : ((p : Int) == (S.size : Int)) = true := by simp; omega
    clear hpe
    go_enter Tryd.func103, Tryd.ntmps103
    go_wp2_with fail
    go_quiet (fail)
    go_wp2_with fail
    exact ⟨rfl, NeedPost.err HE.out (drewN_below _ _)⟩

theorem pastP_need (s : List UInt8) (c : UInt8) (p : Nat) : pastP s c p = (needP s [c] 2 p).bind fun q _ => .ok (q + 1) () := by
  unfold pastP needP
  cases s[p]? with
  | none => rfl
  | some d =>
    simp only
    by_cases h : d = c
    · subst h; simp [PR.bind]
    · rw [if_neg h, if_neg (by simp [h])]; rfl
theorem needP_pos {s cs : List UInt8} {k : Int} {p q : Nat} {c : UInt8} (h : needP s cs k p = .ok q c) : q = p ∧ s[p]? = some c ∧ cs.contains c = true := by
  unfold needP at h
  cases hs : s[p]? with
  | none => rw [hs] at h; simp at h
  | some d =>
    rw [hs] at h
    simp only at h
    split at h
    · rename_i hc
      simp only [PR.ok.injEq] at h
      obtain ⟨rfl, rfl⟩ := h
      exact ⟨rfl, rfl, hc⟩
    · simp at h

/-- What a step of the parser leaves: the reader is in block g. -/
def StepPost {α : Type} (val : α → Value) (S : ByteArray) (g : Nat) (lv u : Value) (x : PR α) (w : World) (e : Ending) (w' : World) : Prop :=
  Keep (· = g) w w' ∧ match x with
  | .ok q v => e = .returned (val v) ∧ Row w' g 89 #[.string S, .int .i64 q, lv, u]
  | .err q k => e = .panicked (Pan q k)
theorem StepPost.err {α : Type} {val : α → Value} {S : ByteArray} {g : Nat} {lv u : Value} {x : PR α} {w w' : World} {q : Nat} {k : Int} (h : x = .err q k) (hk : Keep (· = g) w w') : StepPost val S g lv u x w (.panicked (Pan q k)) w' := by
  subst h; exact ⟨hk, rfl⟩
theorem StepPost.ok {α : Type} {val : α → Value} {S : ByteArray} {g : Nat} {lv u : Value} {x : PR α} {w w' : World} {q : Nat} {v : α} {e : Ending} (h : x = .ok q v) (he : e = .returned (val v)) (hk : Keep (· = g) w w') (hr : Row w' g 89 #[.string S, .int .i64 q, lv, u]) : StepPost val S g lv u x w e w' := by
  subst h; exact ⟨hk, he, hr⟩

set_option maxRecDepth 100000 in
set_option maxHeartbeats 1000000 in
theorem past_any (S : ByteArray) (c : UInt8) (g p : Nat) (lv u : Value) (w : World) (hr : Row w g 89 #[.string S, .int .i64 p, lv, u]) (hp : p ≤ S.size) (hS : S.size ≤ 1000000) :
    Calls Tryd.prog 106 #[.pointer (some ⟨g, 0, none⟩), .string { data := #[c] }] w (StepPost (fun _ => .tuple #[]) S g lv u (pastP (bts S) c p) w) := by
  obtain ⟨x, hx⟩ : ∃ x, x = pastP (bts S) c p := ⟨_, rfl⟩
  rw [← hx]
  rw [pastP_need] at hx
  have HX := Lib.hid hx; clear hx
  have HR := Lib.hid hr; clear hr
  obtain ⟨y, hy⟩ : ∃ y, y = needP (bts S) [c] 2 p := ⟨_, rfl⟩
  have HN : ∀ W, Row W g 89 #[.string S, .int .i64 p, lv, u] → Calls Tryd.prog 103 #[.pointer (some ⟨g, 0, none⟩), .string { data := #[c] }, .int .i64 2] W (NeedPost y W) := fun W h => by
    rw [hy]; exact need_any S { data := #[c] } g p lv u 2 W h hp hS
  have HY := Lib.hid hy; clear hy
  have HNN := Lib.hid HN; clear HN
  have rc := HR.out.cell
  have rf := HR.out.free
  have rl := HR.out.lt
  cases y with
  | err q k =>
    go_enter Tryd.func106, Tryd.ntmps106
    go_wp2_with (go_at_call 103; refine (HNN.out _ HR.out).mono ?_; rintro e w1 ⟨hb1, rfl⟩)
    exact ⟨rfl, StepPost.err (by rw [HX.out, ← HY.out]; rfl) (Keep.of_below hb1 (Nat.le_refl _))⟩
  | ok q d =>
    obtain ⟨hq, _, _⟩ := needP_pos HY.out.symm
    have HQ := Lib.hid hq; clear hq
    go_enter Tryd.func106, Tryd.ntmps106
    go_wp2_with (go_at_call 103; refine (HNN.out _ HR.out).mono ?_; rintro e w1 ⟨hb1, rfl⟩; have HR1 := Lib.hid (HR.out.below hb1 rl); clear rc rf; have rc := HR1.out.cell; have rf := HR1.out.free)
    go_returns
    refine StepPost.ok (q := p + 1) (v := ()) (by rw [HX.out, ← HY.out, HQ.out]; rfl) rfl (Keep.set (S := (· = g)) (Keep.of_below hb1 (Nat.le_refl _)) (p := ⟨g, 1, none⟩) (.inl rfl) _) ?_
    have h := HR1.out.set 1 (.int .i64 ((p : Int) + 1))
    exact h

set_option maxRecDepth 100000 in
set_option maxHeartbeats 1000000 in
theorem variable_any (S : ByteArray) (g p : Nat) (lv u : Value) (w : World) (hr : Row w g 89 #[.string S, .int .i64 p, lv, u]) (hp : p ≤ S.size) (hS : S.size ≤ 1000000) :
    Calls Tryd.prog 105 #[.pointer (some ⟨g, 0, none⟩)] w (StepPost (fun x => .int .i64 x) S g lv u (varP (bts S) p) w) := by
  obtain ⟨x, hx⟩ : ∃ x, x = varP (bts S) p := ⟨_, rfl⟩
  rw [← hx]
  unfold varP at hx
  obtain ⟨y, hy⟩ : ∃ y, y = pastP (bts S) 32 p := ⟨_, rfl⟩
  rw [← hy] at hx
  have HX := Lib.hid hx; clear hx
  have HR := Lib.hid hr; clear hr
  have hpast := fun W h => past_any S 32 g p lv u W h hp hS
  rw [← hy] at hpast
  have HP := Lib.hid hpast; clear hpast
  have HY := Lib.hid hy; clear hy
  cases y with
  | err q k =>
    go_enter Tryd.func105, Tryd.ntmps105
    go_wp2_with (go_at_call 106; refine (HP.out _ HR.out).mono ?_; rintro e w1 ⟨hk1, rfl⟩)
    exact ⟨rfl, StepPost.err (by rw [HX.out]; rfl) hk1⟩
  | ok q d =>
    obtain ⟨hq, hq1⟩ : q = p + 1 ∧ p + 1 ≤ S.size := by
      have h := pastP_good (s := bts S) 32 (p := p) (by rw [bts_len]; exact hp)
      rw [← HY.out, bts_len] at h
      exact ⟨h.1, by have := h.1; have := h.2.1; omega⟩
    subst hq
    obtain ⟨z, hz⟩ : ∃ z, z = needP (bts S) [65, 66, 67, 68, 69, 70] 7 (p + 1) := ⟨_, rfl⟩
    have hneed := fun W h => need_any S { data := #[65, 66, 67, 68, 69, 70] } g (p + 1) lv u 7 W h hq1 hS
    have e0 : bts { data := #[65, 66, 67, 68, 69, 70] } = [65, 66, 67, 68, 69, 70] := rfl
    rw [e0, ← hz] at hneed
    clear e0
    have HNN := Lib.hid hneed; clear hneed
    have HZ := Lib.hid hz; clear hz
    cases z with
    | err q2 k =>
      have HE : Hid (x = .err q2 k) := by
        unfold Hid
        have hz := HZ.out
        unfold needP at hz
        rw [HX.out, PR.bind_ok]
        cases hs : (bts S)[p + 1]? with
        | none =>
          rw [hs] at hz
          simp only [PR.err.injEq] at hz ⊢
          exact ⟨hz.1.symm, hz.2.symm⟩
        | some c =>
          rw [hs] at hz
          simp only at hz ⊢
          split at hz
          · simp at hz
          · rename_i hc
            rw [if_neg]
            · simp only [PR.err.injEq] at hz ⊢
              exact ⟨hz.1.symm, hz.2.symm⟩
            · intro h
              apply hc
              have : c = UInt8.ofNat c.toNat := by simp
              rw [this]
              have h6 : c.toNat = 65 ∨ c.toNat = 66 ∨ c.toNat = 67 ∨ c.toNat = 68 ∨ c.toNat = 69 ∨ c.toNat = 70 := by omega
              rcases h6 with h | h | h | h | h | h <;> rw [h] <;> decide
      go_enter Tryd.func105, Tryd.ntmps105
      go_wp2_with (first
        | (go_at_call 106; refine (HP.out _ HR.out).mono ?_; rintro e w1 ⟨hk1, rfl, hr1⟩; have HR1 := Lib.hid hr1; clear hr1)
        | (go_at_call 103; refine (HNN.out _ HR1.out).mono ?_; rintro e w2 ⟨hb2, rfl⟩))
      exact ⟨rfl, StepPost.err HE.out (hk1.trans (Keep.of_below hb2 (Nat.le_refl _)))⟩
    | ok q2 c =>
      obtain ⟨hq2, hs, hc⟩ := needP_pos HZ.out.symm
      have h6 : 65 ≤ c.toNat ∧ c.toNat ≤ 70 := by
        simp only [List.contains_cons, List.contains_nil, Bool.or_false, Bool.or_eq_true, beq_iff_eq] at hc
        rcases hc with rfl | rfl | rfl | rfl | rfl | rfl <;> decide
      have HE : Hid (x = .ok (p + 1 + 1) ((c.toNat : Int) - 65)) := by
        unfold Hid
        rw [HX.out, PR.bind_ok, hs]
        simp only
        rw [if_pos h6]
      have HQ := Lib.hid hq2; clear hq2 hs hc
      obtain ⟨h65, h70⟩ := h6
      go_enter Tryd.func105, Tryd.ntmps105
      go_wp2_with (first
        | (go_at_call 106; refine (HP.out _ HR.out).mono ?_; rintro e w1 ⟨hk1, rfl, hr1⟩; have HR1 := Lib.hid hr1; clear hr1)
        | (go_at_call 103; refine (HNN.out _ HR1.out).mono ?_; rintro e w2 ⟨hb2, rfl⟩; have HR2 := Lib.hid (HR1.out.below hb2 HR1.out.lt); have rc := HR2.out.cell; have rf := HR2.out.free; have rl := HR2.out.lt))
      go_returns
      refine StepPost.ok HE.out ?_ (Keep.set (S := (· = g)) (hk1.trans (Keep.of_below hb2 (Nat.le_refl _))) (p := ⟨g, 1, none⟩) (.inl rfl) _) ?_
      · rfl
      · have h := HR2.out.set 1 (.int .i64 (((p + 1 : Nat) : Int) + 1))
        exact h
end Go.Proofs.YtdlibehffgfhlaaDoor

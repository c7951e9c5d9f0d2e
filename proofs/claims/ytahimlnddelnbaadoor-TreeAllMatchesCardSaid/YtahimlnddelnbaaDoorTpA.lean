/- Contracts of the reader of the package tree: fail, next. -/
/- Contract of label of the reader of the package tree. -/
/- Contract of the reader's tree of the package tree. -/
/- Contract of Parse of the package tree. -/
import Derived.Test.YtahimlnddelnbaaDoorKeep
import Derived.Test.YtahimlnddelnbaaDoorTdA
import Derived.Test.YtahimlnddelnbaaDoorBtM
import Derived.Test.YtahimlnddelnbaaDoorShelf
import Derived.Deep.RegionLaw
import Derived.Deep.DeepCutAuto
set_option linter.unusedSimpArgs false
set_option linter.unusedVariables false
namespace Go.Proofs.YtahimlnddelnbaaDoor
open Go.RowKit

def sb (s : ByteArray) : List UInt8 := s.data.toList
theorem sb_len (s : ByteArray) : (sb s).length = s.size := by
  show s.data.toList.length = s.data.size
  simp
theorem sb_get (s : ByteArray) (p : Nat) (h : p < s.size) : (sb s)[p]? = some s[p] := by
  have h' : p < s.data.toList.length := by rw [← sb_len] at h; exact h
  show s.data.toList[p]? = some s[p]
  rw [List.getElem?_eq_getElem h']
  rfl
theorem sb_none (s : ByteArray) (p : Nat) (h : s.size ≤ p) : (sb s)[p]? = none := List.getElem?_eq_none (by rw [sb_len]; exact h)
theorem sb_extract (S : ByteArray) (a b : Nat) : sb (S.extract a b) = ((sb S).drop a).take (b - a) := by
  show (S.extract a b).data.toList = _
  rw [ByteArray.data_extract, Array.toList_extract, List.extract_eq_take_drop]
  rfl

/-- Block g is a reader of S at p with the nodes tv and the error e. -/
abbrev RD (W : World) (g : Nat) (S : ByteArray) (p : Int) (tv : Value) (e : Int) : Prop := Row W g 122 #[.string S, .int .i64 p, tv, .int .i64 e]
theorem Keep.eqv {g : Nat} {W : World} (u v : Value) : Keep (· = g) W ((W.setCell ⟨g, 1, none⟩ u).setCell ⟨g, 3, none⟩ v) := ((Keep.refl (· = g) W).set (p := ⟨g, 1, none⟩) (.inl rfl) u).set (p := ⟨g, 3, none⟩) (.inl rfl) v
theorem Keep.one {g : Nat} {W : World} (n : Nat) (i : Nat) (u : Value) : Keep (· = g) W ((W.drewN n).setCell ⟨g, i, none⟩ u) := (show Keep (· = g) W (W.drewN n) from ⟨rfl, rfl, rfl, Nat.le_refl _, fun _ _ _ => rfl⟩).set (p := ⟨g, i, none⟩) (.inl rfl) u
theorem Keep.undrawn {g : Nat} {W W' : World} {n : Nat} (h : Keep (· = g) (W.drewN n) W') : Keep (· = g) W W' := ⟨h.os, h.tape, h.output, h.size, h.block⟩
theorem Row.drewN {W : World} {k : Nat} {t : TypeId} {cs : Array Value} (h : Row W k t cs) (n : Nat) : Row (W.drewN n) k t cs := h
theorem RD.keep {g : Nat} {W W' : World} (h : Keep (· = g) W W') {k : Nat} {t : TypeId} {cs : Array Value} (r : Row W k t cs) (hk : k ≠ g) : Row W' k t cs := h.row r hk

set_option maxRecDepth 100000 in
theorem fail_ok (S : ByteArray) (g : Nat) (p q k : Int) (tv : Value) (W : World) (hr : RD W g S p tv 0) :
    Calls Tryd.prog 100 #[.pointer (some ⟨g, 0, none⟩), .int .i64 q, .int .i64 k] W fun e w' => e = .returned (.tuple #[]) ∧ RD w' g S q tv k ∧ Keep (· = g) W w' := by
  have rc := hr.cell; have rf := hr.free
  have HR := Lib.hid hr; clear hr
  go_enter Tryd.func100, Tryd.ntmps100
  go_wp2
  go_end0
  exact ⟨rfl, (HR.out.set 1 (.int .i64 q)).set 3 (.int .i64 k), Keep.eqv _ _⟩

/-- What next leaves. -/
def NextP (S : ByteArray) (g : Nat) (tv : Value) (x : TR Unit) (W : World) (e : Ending) (W' : World) : Prop := Keep (· = g) W W' ∧
  match x with
  | .ok q _ => e = .returned (.bool true) ∧ RD W' g S q tv 0
  | .err q k => e = .returned (.bool false) ∧ RD W' g S q tv k
set_option maxRecDepth 100000 in
theorem next_err (S : ByteArray) (g : Nat) (p k c : Int) (tv : Value) (W : World) (hr : RD W g S p tv k) (hk : k ≠ 0) :
    Calls Tryd.prog 151 #[.pointer (some ⟨g, 0, none⟩), .int .u8 c] W fun e w' => e = .returned (.bool false) ∧ W = w' := by
  have rc := hr.cell; have rf := hr.free
  have k1 : (k != 0) = true := by simp [hk]
  have k2 : (k == 0) = false := by simp [hk]
  clear hr hk
  go_enter Tryd.func151, Tryd.ntmps151
  go_wp2
  go_returns
  exact ⟨rfl, rfl⟩
set_option maxRecDepth 100000 in
set_option maxHeartbeats 1000000 in
theorem next_any (S : ByteArray) (g p : Nat) (c : UInt8) (tv : Value) (W : World) (hr : RD W g S p tv 0) (hp : p ≤ S.size) (hS : S.size ≤ 1000000) :
    Calls Tryd.prog 151 #[.pointer (some ⟨g, 0, none⟩), .int .u8 c.toNat] W (NextP S g tv (nextT (sb S) c p) W) := by
  have rc := hr.cell; have rf := hr.free
  have HR := Lib.hid hr; clear hr
  obtain ⟨x, hx⟩ : ∃ x, x = nextT (sb S) c p := ⟨_, rfl⟩
  rw [← hx]
  unfold nextT at hx
  by_cases hlt : p < S.size
  · rw [sb_get S p hlt] at hx
    simp only at hx
    by_cases hd : S[p] = c
    · rw [if_pos hd] at hx
      have hb : ((S[p].toNat : Int) != (c.toNat : Int)) = false := by rw [hd]; simp
      have HX := Lib.hid hx
      have hne : ((p : Int) == (S.size : Int)) = false := by rw [beq_eq_false_iff_ne]; omega
      clear hx hd
      go_enter Tryd.func151, Tryd.ntmps151
      go_wp2
      go_quiet (fail)
      go_wp2
      go_quiet (fail)
      go_wp2
      go_returns
      rw [HX.out]
      exact ⟨Keep.one _ _ _, rfl, (HR.out.drewN _).set 1 (.int .i64 ((p : Int) + 1))⟩
    · rw [if_neg hd] at hx
      have hb : ((S[p].toNat : Int) != (c.toNat : Int)) = true := by
        rw [bne_iff_ne]; intro e; exact hd (UInt8.toNat_inj.1 (by omega))
      have HX := Lib.hid hx
      have hne : ((p : Int) == (S.size : Int)) = false := by rw [beq_eq_false_iff_ne]; omega
      clear hx hd
      go_enter Tryd.func151, Tryd.ntmps151
      go_wp2
      go_quiet (fail)
      go_wp2
      go_quiet (fail)
      go_wp2_with (go_at_call 100; go_must (refine (fail_ok S g p p 2 tv _ (HR.out.drewN _)).mono ?_; rintro e w1 ⟨rfl, h1, h2⟩; have H1 := Lib.hid h1; have H2 := Lib.hid h2.undrawn; clear rc rf h2; have rc := h1.cell; have rf := h1.free; clear h1))
      go_returns
      rw [HX.out]
      exact ⟨H2.out, rfl, H1.out⟩
  · rw [sb_none S p (by omega)] at hx
    have HX := Lib.hid hx
    have hne : ((p : Int) == (S.size : Int)) = true := by rw [beq_iff_eq]; omega
    clear hx
    go_enter Tryd.func151, Tryd.ntmps151
    go_wp2
    go_quiet (fail)
    go_wp2_with (go_at_call 100; go_must (refine (fail_ok S g p p 3 tv _ (HR.out.drewN _)).mono ?_; rintro e w1 ⟨rfl, h1, h2⟩; have H1 := Lib.hid h1; have H2 := Lib.hid h2.undrawn; clear rc rf h2; have rc := h1.cell; have rf := h1.free; clear h1))
    go_returns
    rw [HX.out]
    exact ⟨H2.out, rfl, H1.out⟩
end Go.Proofs.YtahimlnddelnbaaDoor

namespace Go.Proofs.YtahimlnddelnbaaDoor
open Go.RowKit

abbrev digS : ByteArray := { data := #[48, 49, 50, 51, 52, 53, 54, 55, 56, 57] }
theorem dig_all : ∀ n : Fin 256, ((sb digS).contains (UInt8.ofNat n.val)) = isDig (UInt8.ofNat n.val) := by decide +kernel
theorem dig_set (c : UInt8) : (sb digS).contains c = isDig c := by
  have := dig_all ⟨c.toNat, c.toNat_lt⟩
  simpa using this
theorem trim_dig (l : List UInt8) : Lib.trimLeftS l (sb digS) = l.dropWhile isDig := by
  unfold Lib.trimLeftS
  congr 1
  funext c
  exact dig_set c
/-- The number of digits from p on. -/
def digN (s : List UInt8) (p : Nat) : Nat := ((s.drop p).takeWhile isDig).length
theorem digN_none {s : List UInt8} {p : Nat} (h : s.length ≤ p) : digN s p = 0 := by unfold digN; rw [List.drop_eq_nil_of_le h]; rfl
theorem digN_no {s : List UInt8} {p : Nat} {c : UInt8} (h : s[p]? = some c) (hc : isDig c = false) : digN s p = 0 := by
  unfold digN; rw [drop_get h, List.takeWhile_cons, hc]; simp
theorem digN_yes {s : List UInt8} {p : Nat} {c : UInt8} (h : s[p]? = some c) (hc : isDig c = true) : digN s p = digN s (p + 1) + 1 := by
  unfold digN; rw [drop_get h, List.takeWhile_cons, hc]; simp
theorem digN_pos {s : List UInt8} {p : Nat} : 0 < digN s p ↔ digAt s p = true := by
  unfold digAt
  cases h : s[p]? with
  | none => rw [digN_none (by rw [List.getElem?_eq_none_iff] at h; exact h)]; simp
  | some c =>
    cases hc : isDig c with
    | true => rw [digN_yes h hc]; simp [hc]
    | false => rw [digN_no h hc]; simp [hc]
theorem digN_le (s : List UInt8) (p : Nat) : digN s p ≤ s.length - p := by
  unfold digN
  have h := congrArg List.length (List.takeWhile_append_dropWhile (p := isDig) (l := s.drop p))
  rw [List.length_append, List.length_drop] at h
  omega
theorem drop_dig (s : List UInt8) (p : Nat) : ((s.drop p).dropWhile isDig).length = s.length - p - digN s p := by
  unfold digN
  have h := congrArg List.length (List.takeWhile_append_dropWhile (p := isDig) (l := s.drop p))
  rw [List.length_append, List.length_drop] at h
  omega

/-- What label leaves. -/
def LabP (S : ByteArray) (g : Nat) (tv : Value) (x : TR Int) (W : World) (e : Ending) (W' : World) : Prop := Keep (· = g) W W' ∧
  match x with
  | .ok q v => e = .returned (.int .u8 v) ∧ RD W' g S q tv 0
  | .err q k => e = .returned (.int .u8 0) ∧ RD W' g S q tv k

set_option maxRecDepth 100000 in
set_option maxHeartbeats 2000000 in
theorem label_any (S : ByteArray) (g p : Nat) (tv : Value) (W : World) (hr : RD W g S p tv 0) (hp : p ≤ S.size) (hS : S.size ≤ 1000000) :
    Calls Tryd.prog 152 #[.pointer (some ⟨g, 0, none⟩)] W (LabP S g tv (labT (sb S) p) W) := by
  have rc := hr.cell; have rf := hr.free
  have HRD := Lib.hid hr; clear hr
  obtain ⟨x, hx⟩ : ∃ x, x = labT (sb S) p := ⟨_, rfl⟩
  rw [← hx]
  unfold labT at hx
  obtain ⟨R, hR⟩ : ∃ R, R = S.extract p S.size := ⟨_, rfl⟩
  have hRs : R.size = S.size - p := by rw [hR, ByteArray.size_extract]; omega
  have hRb : sb R = (sb S).drop p := by
    rw [hR, sb_extract, List.take_of_length_le]
    rw [List.length_drop, sb_len]; exact Nat.le_refl _
  obtain ⟨T, hT⟩ : ∃ T : ByteArray, T = ⟨(Lib.trimLeftS (sb R) (sb digS)).toArray⟩ := ⟨_, rfl⟩
  have htrim : ∀ W, Calls Tryd.prog 168 #[.string R, .string digS] W fun e w' => e = .returned (.string T) ∧ Below W.heap.size W w' := fun W => by
    rw [hT]
    exact Tryd.strings_TrimLeft_ascii _ digS W (by decide) (fun j b hb => by
      have h : ∀ b ∈ sb digS, b.toNat < 128 := by decide
      exact h b (List.mem_of_getElem? hb))
  have hTs : T.size = R.size - digN (sb S) p := by
    rw [hT, hRb, trim_dig, hRs, ← sb_len S, ← drop_dig]
    show (List.toArray _).size = _; simp
  have hDl := digN_le (sb S) p
  rw [sb_len, ← hRs] at hDl
  obtain ⟨D, hD⟩ : ∃ D, D = digN (sb S) p := ⟨_, rfl⟩
  rw [← hD] at hTs hDl
  have HTR := Lib.hid htrim
  have HRe := Lib.hid hR
  have hdig : ((R.size : Int) - (T.size : Int)) = (D : Int) := by omega
  have hDb : D ≤ 1000000 := by omega
  clear htrim hR hT
  by_cases hlt : p < S.size
  · have hc := sb_get S p hlt
    obtain ⟨c, hcc⟩ : ∃ c, c = S[p] := ⟨_, rfl⟩
    rw [← hcc] at hc
    rw [hc] at hx
    simp only at hx
    have hR1 : 0 < R.size := by omega
    have hR0 : ∀ h : 0 < R.size, (R[0]'h).toNat = c.toNat := fun h => by
      have q := sb_get R 0 h
      rw [hRb, List.getElem?_drop, Nat.add_zero, hc] at q
      rw [Option.some.inj q]
    have hem : R.toList.isEmpty = false := by
      rw [Lib.toList_data]
      show (sb R).isEmpty = false
      rw [hRb, drop_get hc]; rfl
    obtain ⟨n, hn⟩ : ∃ n, n = c.toNat := ⟨_, rfl⟩
    rw [← hn] at hR0
    have hn256 : n < 256 := by rw [hn]; exact c.toNat_lt
    cases hcd : isDig c with
    | false =>
      rw [hcd, if_pos rfl] at hx
      have hD0 : D = 0 := by rw [hD]; exact digN_no hc hcd
      have HX := Lib.hid hx
      have hD1 : ((D : Int) == 0) = true := by rw [hD0]; rfl
      clear hx hRb hD hTs hDl hRs hlt hc hcc hn hcd hD0
      go_enter Tryd.func152, Tryd.ntmps152
      go_wp2
      go_quiet (fail)
      rename_i nq
      rw [← HRe.out]
      go_wp2_with (first
            | (go_at_call 168; refine (HTR.out _).mono ?_; rintro e w2 ⟨rfl, hb2⟩; have hr2 := (HRD.out.drewN nq).below hb2 HRD.out.lt; have HR2 := Lib.hid hr2; clear rc rf; have rc := hr2.cell; have rf := hr2.free; clear hr2; have HK2 := Lib.hid (Keep.of_below (S := (· = g)) hb2 (Nat.le_refl _)).undrawn; clear hb2)
            | (go_at_call 100; refine (fail_ok S g p p 2 tv _ HR2.out).mono ?_; rintro e w3 ⟨rfl, h1, h2⟩; have H1 := Lib.hid h1; have HK3 := Lib.hid (HK2.out.trans h2); clear h1 h2))
      go_returns
      rw [HX.out]
      exact ⟨HK3.out, rfl, H1.out⟩
    | true =>
      rw [hcd, if_neg (by simp)] at hx
      have hDp : D = digN (sb S) (p + 1) + 1 := by rw [hD]; exact digN_yes hc hcd
      have hD1 : ((D : Int) == 0) = false := by rw [beq_eq_false_iff_ne]; omega
      have hcb := isDig_le hcd
      rw [← hn] at hcb
      obtain ⟨n1, n2⟩ := hcb
      by_cases h48 : c = 48
      · rw [if_pos h48] at hx
        have hn48 : n = 48 := by rw [hn, h48]; rfl
        have HX := Lib.hid hx
        subst hn48
        clear hx hRb hD hTs hDl hRs hlt hc hcc hn hcd hDp h48
        go_enter Tryd.func152, Tryd.ntmps152
        go_wp2
        go_quiet (fail)
        rename_i nq
        rw [← HRe.out]
        go_wp2_with (go_at_call 168; refine (HTR.out _).mono ?_; rintro e w2 ⟨rfl, hb2⟩; have hr2 := (HRD.out.drewN nq).below hb2 HRD.out.lt; have HR2 := Lib.hid hr2; clear rc rf; have rc := hr2.cell; have rf := hr2.free; clear hr2; have HK2 := Lib.hid (Keep.of_below (S := (· = g)) hb2 (Nat.le_refl _)).undrawn; clear hb2)
        go_returns
        rw [HX.out]
        exact ⟨HK2.out.trans (Keep.one 0 1 _), rfl, HR2.out.set 1 (.int .i64 ((p : Int) + 1))⟩
      · rw [if_neg h48] at hx
        have hn48 : ((n : Int) == 48) = false := by
          rw [beq_eq_false_iff_ne]; intro e
          exact h48 (UInt8.toNat_inj.1 (by rw [← hn]; show n = 48; omega))
        by_cases hd2 : digAt (sb S) (p + 1) = true
        · rw [if_pos (.inl hd2)] at hx
          have hDg : (1 : Int) < D := by have := digN_pos.2 hd2; omega
          have HX := Lib.hid hx
          clear hx hRb hD hTs hDl hRs hlt hc hcc hn hcd hDp h48 hd2
          go_enter Tryd.func152, Tryd.ntmps152
          go_wp2
          go_quiet (fail)
          rename_i nq
          rw [← HRe.out]
          go_wp2_with (first
                | (go_at_call 168; refine (HTR.out _).mono ?_; rintro e w2 ⟨rfl, hb2⟩; have hr2 := (HRD.out.drewN nq).below hb2 HRD.out.lt; have HR2 := Lib.hid hr2; clear rc rf; have rc := hr2.cell; have rf := hr2.free; clear hr2; have HK2 := Lib.hid (Keep.of_below (S := (· = g)) hb2 (Nat.le_refl _)).undrawn; clear hb2)
                | (go_at_call 100; refine (fail_ok S g p p 1 tv _ HR2.out).mono ?_; rintro e w3 ⟨rfl, h1, h2⟩; have H1 := Lib.hid h1; have HK3 := Lib.hid (HK2.out.trans h2); clear h1 h2))
          go_returns
          rw [HX.out]
          exact ⟨HK3.out, rfl, H1.out⟩
        · have hDg : (D : Int) ≤ 1 := by have : ¬ 0 < digN (sb S) (p + 1) := fun h => hd2 (digN_pos.1 h); omega
          by_cases h55 : 55 < c.toNat
          · rw [if_pos (.inr h55)] at hx
            rw [← hn] at h55
            have h7 : (7 : Int) < (n : Int) - 48 := by omega
            have HX := Lib.hid hx
            clear hx hRb hD hTs hDl hRs hlt hc hcc hn hcd hDp h48 hd2 h55
            go_enter Tryd.func152, Tryd.ntmps152
            go_wp2
            go_quiet (fail)
            rename_i nq
            rw [← HRe.out]
            go_wp2_with (first
                  | (go_at_call 168; refine (HTR.out _).mono ?_; rintro e w2 ⟨rfl, hb2⟩; have hr2 := (HRD.out.drewN nq).below hb2 HRD.out.lt; have HR2 := Lib.hid hr2; clear rc rf; have rc := hr2.cell; have rf := hr2.free; clear hr2; have HK2 := Lib.hid (Keep.of_below (S := (· = g)) hb2 (Nat.le_refl _)).undrawn; clear hb2)
                  | (go_at_call 100; refine (fail_ok S g p p 1 tv _ HR2.out).mono ?_; rintro e w3 ⟨rfl, h1, h2⟩; have H1 := Lib.hid h1; have HK3 := Lib.hid (HK2.out.trans h2); clear h1 h2))
            go_returns
            rw [HX.out]
            exact ⟨HK3.out, rfl, H1.out⟩
          · have hno : ¬ (digAt (sb S) (p + 1) = true ∨ 55 < c.toNat) := fun h => h.elim hd2 h55
            rw [if_neg hno, ← hn] at hx
            clear hno
            rw [← hn] at h55
            have h7 : (n : Int) - 48 ≤ 7 := by omega
            have HX := Lib.hid hx
            clear hx hRb hD hTs hDl hRs hlt hc hcc hn hcd hDp h48 hd2 h55
            go_enter Tryd.func152, Tryd.ntmps152
            go_wp2
            go_quiet (fail)
            rename_i nq
            rw [← HRe.out]
            go_wp2_with (go_at_call 168; refine (HTR.out _).mono ?_; rintro e w2 ⟨rfl, hb2⟩; have hr2 := (HRD.out.drewN nq).below hb2 HRD.out.lt; have HR2 := Lib.hid hr2; clear rc rf; have rc := hr2.cell; have rf := hr2.free; clear hr2; have HK2 := Lib.hid (Keep.of_below (S := (· = g)) hb2 (Nat.le_refl _)).undrawn; clear hb2)
            go_returns
            rw [HX.out]
            exact ⟨HK2.out.trans (Keep.one 0 1 _), rfl, HR2.out.set 1 (.int .i64 ((p : Int) + 1))⟩
  · rw [sb_none S p (by omega)] at hx
    have hem : R.toList.isEmpty = true := by
      rw [Lib.toList_data]
      show (sb R).isEmpty = true
      rw [hRb, List.drop_eq_nil_of_le (by rw [sb_len]; omega)]; rfl
    have HX := Lib.hid hx
    clear hx hRb hD hTs hDl hRs hlt
    go_enter Tryd.func152, Tryd.ntmps152
    go_wp2
    go_quiet (fail)
    rename_i nq
    rw [← HRe.out]
    go_wp2_with (first
          | (go_at_call 168; refine (HTR.out _).mono ?_; rintro e w2 ⟨rfl, hb2⟩; have hr2 := (HRD.out.drewN nq).below hb2 HRD.out.lt; have HR2 := Lib.hid hr2; clear rc rf; have rc := hr2.cell; have rf := hr2.free; clear hr2; have HK2 := Lib.hid (Keep.of_below (S := (· = g)) hb2 (Nat.le_refl _)).undrawn; clear hb2)
          | (go_at_call 100; refine (fail_ok S g p p 3 tv _ HR2.out).mono ?_; rintro e w3 ⟨rfl, h1, h2⟩; have H1 := Lib.hid h1; have HK3 := Lib.hid (HK2.out.trans h2); clear h1 h2))
    go_returns
    rw [HX.out]
    exact ⟨HK3.out, rfl, H1.out⟩
end Go.Proofs.YtahimlnddelnbaaDoor

namespace Go.Proofs.YtahimlnddelnbaaDoor
open Go.RowKit

theorem TO.apart {w : World} {B g : Nat} {v : Value} {f : List Lf} {t : TypeId} {cs : Array Value} (h : TO w B v f) (hr : Row w g t cs) (ht : t ≠ 65) : v.ownBlock ≠ some g := by
  intro hb
  rcases h.2.2 with ⟨hv, _⟩ | ⟨g', cap, cur, hv, hB, hg, _⟩
  · rw [hv] at hb; simp [Value.ownBlock] at hb
  · rw [hv] at hb
    simp only [Value.ownBlock, Option.some.injEq] at hb
    subst hb
    unfold Row at hr
    rw [hr] at hg
    simp only [Option.some.injEq, Obj.cells.injEq] at hg
    exact ht hg.2.1
theorem TO.keepG {w w' : World} {B g : Nat} {v : Value} {f : List Lf} {t : TypeId} {cs : Array Value} (h : TO w B v f) (hr : Row w g t cs) (ht : t ≠ 65) (hk : Keep (· = g) w w') : TO w' B v f := by
  have ha := h.apart hr ht
  obtain ⟨h0, h1, h2⟩ := h
  refine ⟨h0, h1, ?_⟩
  rcases h2 with h2 | ⟨g', cap, cur, hv, hB, hg, r⟩
  · exact .inl h2
  · exact .inr ⟨g', cap, cur, hv, hB, (hk.block g' (lt_of_block hg) (fun e => ha (by rw [hv, ← e]; rfl))).trans hg, r⟩
theorem TO.setG {w : World} {B g : Nat} {v : Value} {f : List Lf} {t : TypeId} {cs : Array Value} (h : TO w B v f) (hr : Row w g t cs) (ht : t ≠ 65) (i : Nat) (u : Value) : TO (w.setCell ⟨g, i, none⟩ u) B v f :=
  h.keepG hr ht ((Keep.refl (· = g) w).set (p := ⟨g, i, none⟩) (.inl rfl) u)
theorem Row.farT {w w' : World} {B g : Nat} {v : Value} {f : List Lf} {t : TypeId} {cs : Array Value} (hr : Row w g t cs) (h : TO w B v f) (ht : t ≠ 65) (hg : w.grownBy w' v.ownBlock) : Row w' g t cs :=
  hr.grown hg (fun e => h.apart hr ht e.symm)
theorem rd_ne : 122 ≠ 65 := by decide
theorem Keep.belowG {g B : Nat} {w w' : World} (h : Keep (· = g) w w') (hg : B ≤ g) (hB : B ≤ w.heap.size) : Below B w w' := h.below hB fun k hk e => by omega

theorem Keep.undrew {g : Nat} {W W' : World} (h : Keep (· = g) W.drew W') : Keep (· = g) W W' := ⟨h.os, h.tape, h.output, h.size, h.block⟩
theorem calls_absT {P : Program} {f : FuncId} {args : Array Value} {w : World} {R : Ending → World → Prop} (F : World → Prop) (hF : F w) (hk : ∀ W, F W → Calls P f args W R) : Calls P f args w R := hk w hF
def TR.at {α : Type} : TR α → Nat
  | .ok p _ => p
  | .err p _ => p
def TR.er {α : Type} : TR α → Int
  | .ok _ _ => 0
  | .err _ e => e
def labV : TR Int → Int
  | .ok _ v => v
  | .err _ _ => 0
def okB {α : Type} : TR α → Bool
  | .ok _ _ => true
  | .err _ _ => false
theorem label_uni (S : ByteArray) (g p : Nat) (tv : Value) (W : World) (hr : RD W g S p tv 0) (hp : p ≤ S.size) (hS : S.size ≤ 1000000) :
    Calls Tryd.prog 152 #[.pointer (some ⟨g, 0, none⟩)] W fun e w' => Keep (· = g) W w' ∧ e = .returned (.int .u8 (labV (labT (sb S) p))) ∧ RD w' g S (labT (sb S) p).at tv (labT (sb S) p).er := by
  refine (label_any S g p tv W hr hp hS).mono ?_
  cases labT (sb S) p with
  | ok q v => rintro e w' ⟨h1, h2, h3⟩; exact ⟨h1, h2, h3⟩
  | err q k => rintro e w' ⟨h1, h2, h3⟩; exact ⟨h1, h2, h3⟩
theorem next_uni (S : ByteArray) (g p : Nat) (c : UInt8) (tv : Value) (W : World) (hr : RD W g S p tv 0) (hp : p ≤ S.size) (hS : S.size ≤ 1000000) :
    Calls Tryd.prog 151 #[.pointer (some ⟨g, 0, none⟩), .int .u8 c.toNat] W fun e w' => Keep (· = g) W w' ∧ e = .returned (.bool (okB (nextT (sb S) c p))) ∧ RD w' g S (nextT (sb S) c p).at tv (nextT (sb S) c p).er := by
  refine (next_any S g p c tv W hr hp hS).mono ?_
  cases nextT (sb S) c p with
  | ok q v => rintro e w' ⟨h1, h2, h3⟩; exact ⟨h1, h2, h3⟩
  | err q k => rintro e w' ⟨h1, h2, h3⟩; exact ⟨h1, h2, h3⟩

theorem labV_ok (s : List UInt8) (p : Nat) : 0 ≤ labV (labT s p) ∧ labV (labT s p) ≤ 255 := by
  cases h : labT s p with
  | ok q x => obtain ⟨_, h0, h7, _⟩ := labT_inv h; exact ⟨h0, by show x ≤ 255; omega⟩
  | err q k => exact ⟨by show (0 : Int) ≤ 0; omega, by show (0 : Int) ≤ 255; omega⟩
def TreeP (S : ByteArray) (g B : Nat) (L : List Lf) (x : TR Bt) (W : World) (e : Ending) (W' : World) : Prop := Below B W W' ∧
  match x with
  | .ok q b => e = .returned (.int .i64 (b.at L.length)) ∧ ∃ tv, RD W' g S q tv 0 ∧ TO W' B tv (L ++ b.enc L.length)
  | .err q k => ∃ (r : Int) (tv : Value) (L' : List Lf), e = .returned (.int .i64 r) ∧ RD W' g S q tv k ∧ TO W' B tv L' ∧ L.length ≤ L'.length

set_option maxRecDepth 100000 in
set_option maxHeartbeats 8000000 in
theorem tree_any (S : ByteArray) (g B : Nat) (hBg : B ≤ g) (hS : S.size ≤ 1000000) : ∀ (n p : Nat) (L : List Lf) (tv : Value) (W : World), 33 ≤ n + L.length → L.length ≤ 31 → p ≤ S.size → RD W g S p tv 0 → TO W B tv L →
    Calls Tryd.prog 99 #[.pointer (some ⟨g, 0, none⟩)] W (TreeP S g B L (treeT (sb S) n p L.length) W) := by
  intro n
  induction n with
  | zero => intro p L tv W h1 h2; omega
  | succ n ih =>
    intro p L tv W hfu hL hp hr ho
    obtain ⟨x, hx⟩ : ∃ x, x = treeT (sb S) (n + 1) p L.length := ⟨_, rfl⟩
    rw [← hx]
    simp only [treeT] at hx
    have HO := Lib.hid ho
    have HR := Lib.hid hr
    have hlt := hr.lt
    have rc := hr.cell; have rf := hr.free
    obtain ⟨A, c, rfl⟩ := ho.ts.form
    obtain ⟨m, hm⟩ : ∃ m, m = L.length := ⟨_, rfl⟩
    rw [← hm] at hfu hL hx HO HR rc
    have HM := Lib.hid hm
    clear hr ho
    by_cases h45 : (sb S)[p]? = some 45
    · have hps : p < S.size := by have := (List.getElem?_eq_some_iff.1 h45).1; rwa [sb_len] at this
      rw [if_pos h45] at hx
      have hc := sb_get S p hps
      rw [h45] at hc
      have hb : ((S[p].toNat : Int) == 45) = true := by rw [← Option.some.inj hc]; rfl
      have hd : decide ((p : Int) < S.size) = true := by simp; omega
      have HX := Lib.hid hx
      clear hx h45 hc hm ih
      go_enter Tryd.func99, Tryd.ntmps99
      go_wp2
      go_quiet (fail)
      go_wp2
      go_returns
      rw [HX.out]
      exact ⟨(Keep.one _ 1 _).belowG hBg (by omega), rfl, _, (HR.out.drewN _).set 1 (.int .i64 ((p : Int) + 1)), by rw [show L ++ Bt.nil.enc L.length = L by simp [Bt.enc]]; exact HO.out.keepG HR.out rd_ne (Keep.one _ 1 _)⟩
    · rw [if_neg h45] at hx
      by_cases h40 : (sb S)[p]? = some 40 ∧ m = 31
      · obtain ⟨h4, rfl⟩ := h40
        rw [if_pos ⟨h4, rfl⟩] at hx
        have hps : p < S.size := by have := (List.getElem?_eq_some_iff.1 h4).1; rwa [sb_len] at this
        have hc := sb_get S p hps
        rw [h4] at hc
        have hb1 : ((S[p].toNat : Int) == 45) = false := by rw [← Option.some.inj hc]; rfl
        have hb : ((S[p].toNat : Int) == 40) = true := by rw [← Option.some.inj hc]; rfl
        have hd : decide ((p : Int) < S.size) = true := by simp; omega
        have HX := Lib.hid hx
        clear hx h45 hc hm ih h4
        go_enter Tryd.func99, Tryd.ntmps99
        go_wp2
        go_quiet (fail)
        go_wp2
        go_quiet (fail)
        go_wp2_with (first
          | (go_at_call 100; refine (fail_ok S g p p 4 _ _ (HR.out.drewN _)).mono ?_; rintro e w1 ⟨rfl, h1, h2⟩; have H1 := Lib.hid h1; have H2 := Lib.hid h2.undrawn; clear rc rf h2; have rc := h1.cell; have rf := h1.free; clear h1)
          | (go_at_call 151; refine (next_err S g p 4 _ _ _ H1.out (by decide)).mono ?_; rintro e w2 ⟨rfl, rfl⟩))
        go_returns
        rw [HX.out]
        exact ⟨H2.out.belowG hBg (by omega), _, _, L, rfl, H1.out, HO.out.keepG HR.out rd_ne H2.out, Nat.le_refl _⟩
      · rw [if_neg h40] at hx
        have hnx := fun W h => next_uni S g p 40 (.slice A m c) W h hp hS
        by_cases hps : p < S.size
        · have hc := sb_get S p hps
          have hd : decide ((p : Int) < S.size) = true := by simp; omega
          have hb1 : ((S[p].toNat : Int) == 45) = false := by
            rw [beq_eq_false_iff_ne]; intro e
            apply h45
            rw [hc]
            congr 1
            exact UInt8.toNat_inj.1 (by show S[p].toNat = 45; omega)
          by_cases h4 : S[p] = 40
          · have hm31 : ¬ m = 31 := fun e => h40 ⟨by rw [hc, h4], e⟩
            have hm0 : ((m : Int) == 31) = false := by rw [beq_eq_false_iff_ne]; omega
            have hb : ((S[p].toNat : Int) == 40) = true := by rw [h4]; rfl
            have hN1 : nextT (sb S) 40 p = .ok (p + 1) () := by unfold nextT; rw [hc, h4]; rfl
            rw [hN1] at hnx hx
            rw [TR.bind_ok] at hx
            have HN := Lib.hid (show ∀ W, RD W g S p (.slice A m c) 0 → Calls Tryd.prog 151 #[.pointer (some ⟨g, 0, none⟩), .int .u8 40] W fun e w' => Keep (· = g) W w' ∧ e = .returned (.bool true) ∧ RD w' g S ((p + 1 : Nat) : Int) (.slice A m c) 0 from hnx)
            have HX := Lib.hid hx
            clear hx h45 hc hm h4 h40 hN1 hnx
            go_enter Tryd.func99, Tryd.ntmps99
            go_wp2
            go_quiet (fail)
            go_wp2
            go_quiet (fail)
            go_wp2_with (go_at_call 151; refine (HN.out _ (HR.out.drewN _)).mono ?_; rintro e w1 ⟨hk1, rfl, h1⟩; have HK1 := Lib.hid hk1.undrawn; have H1 := Lib.hid h1; clear rc rf hk1; have rc := h1.cell; have rf := h1.free; clear h1)
            have hlu := fun W h => label_uni S g (p + 1) (.slice A m c) W h (by omega) hS
            have hlv := labV_ok (sb S) (p + 1)
            obtain ⟨y, hy⟩ : ∃ y, y = labT (sb S) (p + 1) := ⟨_, rfl⟩
            rw [← hy] at hlu hlv
            have HX2 := HX.out
            rw [← hy] at HX2
            have HY := Lib.hid hy
            replace HX := Lib.hid HX2
            clear HX2 hy
            obtain ⟨q2, hq2⟩ : ∃ q, q = y.at := ⟨_, rfl⟩
            obtain ⟨e2, he2⟩ : ∃ q, q = y.er := ⟨_, rfl⟩
            obtain ⟨lab, hla⟩ : ∃ q, q = labV y := ⟨_, rfl⟩
            rw [← hq2, ← he2, ← hla] at hlu
            rw [← hla] at hlv
            obtain ⟨lv0, lv1⟩ := hlv
            have HLB := Lib.hid hlu
            have HQ2 := Lib.hid hq2; have HE2 := Lib.hid he2; have HLA := Lib.hid hla
            clear hlu hq2 he2 hla
            have HTO := Lib.hid (HO.out.keepG HR.out rd_ne HK1.out)
            have HBW := Lib.hid (HK1.out.belowG hBg (by omega))
            have hz1 := H1.out.lt
            clear HO HR HK1 HN hb hb1 hm0 hd
            go_cut [] from 94 to 105 (fun wx => ∃ tv', RD wx g S q2 tv' e2 ∧ TO wx B tv' (L ++ [⟨lab, -1, -1⟩]) ∧ Below B W wx)
            case first =>
              first
              | go_region_law (first
                | (go_simp; go_at_call 152; refine (HLB.out _ H1.out.drew).mono ?_; rintro e w2 ⟨hk2', rfl, hr2⟩; have hk2 := hk2'.undrew; clear hk2'; have HR2 := Lib.hid hr2; have HTO2 := Lib.hid (HTO.out.keepG H1.out rd_ne hk2); have HB2 := Lib.hid (HBW.out.trans (hk2.belowG (B := B) hBg (by omega))); clear rc rf; have rc := hr2.cell; have rf := hr2.free; have hz2 := hr2.lt; clear hr2 hk2; try go_simp)
                | (refine step_append_ts rfl (.tmp 98) (.tmp 102) rfl B (.slice A m c) L rfl (HTO2.out.below (B' := w2.heap.size) (by go_grown) (Nat.le_refl _)) _ [⟨lab, -1, -1⟩] rfl (TS.one (by first | exact Row.new _ _ _ | exact Row.lit rfl | exact Row.litd rfl) lv0 lv1) (by rw [← HM.out]; simp only [List.length_cons, List.length_nil]; omega) (by simp only [World.size_alloc]; omega) ?_; intro v3 w3 ho3 hg3 _; obtain ⟨lg, cap3, rfl, hlg, hlg2⟩ := ho3.shape (n := m + 1) (by rw [List.length_append, ← HM.out]; rfl) (by omega); have HR3 := Lib.hid (Row.farT (HR2.out.alloc _) (HTO2.out.below (B' := w2.heap.size) (by go_grown) (Nat.le_refl _)) rd_ne hg3); have HO3 := Lib.hid ho3; have HB3 := Lib.hid (own_below_t (v' := .slice none 0 0) (g := L) (by have h1 := HB2.out; go_grown : Below B W (w2.alloc _)) (HTO2.out.below (B' := w2.heap.size) (by go_grown) (Nat.le_refl _)) hg3 (by simp only [World.size_alloc]; omega)); clear rc rf; have rc := HR3.out.cell; have rf := HR3.out.free; have hz3 := HR3.out.lt; clear ho3 hg3))
              | fail
              all_goals
                go_wp2_with fail
                go_meet
                exact ⟨_, HR3.out.set 2 _, HO3.out.setG HR3.out rd_ne 2 _, by have h1 := HB3.out; go_grown⟩
            case rest =>
              obtain ⟨tv1, hr, ho, hb⟩ := hcut
              rename_i wc hJ
              obtain ⟨lg, cap, rfl, hlg, hlg2⟩ := ho.shape (n := m + 1) (by rw [List.length_append, ← HM.out]; rfl) (by omega)
              clear H1 HLB HTO HBW hz1 rc rf
              have HR1 := Lib.hid hr; have HO1 := Lib.hid ho; have HB1 := Lib.hid hb
              have rc := hr.cell; have rf := hr.free
              clear hr ho hb
              cases y with
              | err q k =>
                have e1 : q = q2 := HQ2.out.symm; subst e1
                have e3 : k = e2 := HE2.out.symm; subst e3
                have hkk := (labT_err (by rw [sb_len]; omega) HY.out.symm).2.2
                have HX3 := Lib.hid (show x = .err q k from HX.out)
                clear HX ih HQ2 HE2 HLA HY
                have NE := Lib.hid (fun c W h => next_err S g q k c (.slice (some ⟨lg, 0, none⟩) (m + 1) cap) W h hkk)
                clear hkk
                go_wp2_with (go_at_call 151; refine (NE.out _ _ HR1.out).mono ?_; rintro e w2 ⟨rfl, rfl⟩)
                go_returns
                rw [HX3.out]
                exact ⟨HB1.out, _, _, _, rfl, HR1.out, HO1.out, by simp⟩
              | ok q v =>
                have e1 : q = q2 := HQ2.out.symm; subst e1
                have e3 : (0 : Int) = e2 := HE2.out.symm; subst e3
                obtain ⟨hqp, _, _, hqs⟩ := labT_inv HY.out.symm
                have hqS : q ≤ S.size := by have := (List.getElem?_eq_some_iff.1 hqs).1; rw [sb_len] at this; omega
                have HX3 := HX.out
                rw [TR.bind_ok] at HX3
                replace HX := Lib.hid HX3
                have hla : v = lab := HLA.out.symm
                subst hla
                clear HQ2 HE2 HLA HY hqs HX3 hqp
                have hl1 : (L ++ [(⟨v, -1, -1⟩ : Lf)]).length = m + 1 := by rw [List.length_append, ← HM.out]; rfl
                go_wp2_with fail
                have hnx := fun W h => next_uni S g q 32 (.slice (some ⟨lg, 0, none⟩) (m + 1) cap) W h hqS hS
                cases hN1 : nextT (sb S) 32 q with
                | err q2 k =>
                  rw [hN1] at hnx
                  have hkk := (nextT_err (by rw [sb_len]; omega) hN1).2.2
                  have hX3 := HX.out
                  rw [hN1] at hX3
                  have HX3 := Lib.hid (show x = .err q2 k from hX3)
                  have HN := Lib.hid (show ∀ W, RD W g S q (.slice (some ⟨lg, 0, none⟩) (m + 1) cap) 0 → Calls Tryd.prog 151 #[.pointer (some ⟨g, 0, none⟩), .int .u8 32] W fun e w' => Keep (· = g) W w' ∧ e = .returned (.bool false) ∧ RD w' g S q2 (.slice (some ⟨lg, 0, none⟩) (m + 1) cap) k from hnx)
                  have NE := Lib.hid (fun c W h => next_err S g q2 k c (.slice (some ⟨lg, 0, none⟩) (m + 1) cap) W h hkk)
                  clear hnx hX3 HX ih hkk hN1
                  (with_reducible refine (HN.out _ HR1.out).mono ?_)
                  rintro e w2 ⟨hk2, rfl, h2⟩
                  have HK2 := Lib.hid hk2; have HR2 := Lib.hid h2; have HO2 := Lib.hid (HO1.out.keepG HR1.out rd_ne hk2)
                  have HB2 := Lib.hid (HB1.out.trans (hk2.belowG hBg (Nat.le_trans hBg (Nat.le_of_lt HR1.out.lt))))
                  clear rc rf hk2
                  have rc := h2.cell; have rf := h2.free
                  clear h2
                  go_wp2_with (go_at_call 151; (with_reducible refine (NE.out _ _ HR2.out).mono ?_); rintro e wz ⟨rfl, rfl⟩)
                  go_returns
                  rw [HX3.out]
                  exact ⟨HB2.out, _, _, _, rfl, HR2.out, HO2.out, by rw [hl1, ← HM.out]; omega⟩
                | ok q2 u =>
                  obtain ⟨hqe, hqs⟩ := nextT_inv hN1
                  have hq2S : q2 ≤ S.size := by have := (List.getElem?_eq_some_iff.1 hqs).1; rw [sb_len] at this; omega
                  have hX3 := HX.out
                  rw [hN1, TR.bind_ok] at hX3
                  clear HX
                  have HX := Lib.hid hX3
                  rw [hN1] at hnx
                  have HN := Lib.hid (show ∀ W, RD W g S q (.slice (some ⟨lg, 0, none⟩) (m + 1) cap) 0 → Calls Tryd.prog 151 #[.pointer (some ⟨g, 0, none⟩), .int .u8 32] W fun e w' => Keep (· = g) W w' ∧ e = .returned (.bool true) ∧ RD w' g S q2 (.slice (some ⟨lg, 0, none⟩) (m + 1) cap) 0 from hnx)
                  clear hnx hX3 hqe hqs hN1
                  (with_reducible refine (HN.out _ HR1.out).mono ?_)
                  rintro e w2 ⟨hk2, rfl, h2⟩
                  have HK2 := Lib.hid hk2; have HR2 := Lib.hid h2; have HO2 := Lib.hid (HO1.out.keepG HR1.out rd_ne hk2)
                  have HB2 := Lib.hid (HB1.out.trans (hk2.belowG hBg (Nat.le_trans hBg (Nat.le_of_lt HR1.out.lt))))
                  clear rc rf hk2
                  have rc := h2.cell; have rf := h2.free
                  clear h2
                  clear HN
                  go_wp2_with fail
                  have hih := fun W h1 h2 => ih q2 (L ++ [(⟨v, -1, -1⟩ : Lf)]) (.slice (some ⟨lg, 0, none⟩) (m + 1) cap) W (by rw [hl1]; omega) (by rw [hl1]; omega) hq2S h1 h2
                  rw [hl1] at hih
                  cases hT2 : treeT (sb S) n q2 (m + 1) with
                  | err q3 k =>
                    have hkk := (treeT_err (sb S) n q2 (m + 1) q3 k (by omega) (by omega) (by rw [sb_len]; exact hq2S) hT2).2.2
                    rw [hT2] at hih
                    have hX3 := HX.out
                    rw [hT2] at hX3
                    have HX3 := Lib.hid (show x = .err q3 k from hX3)
                    have HIH := Lib.hid hih
                    clear hih hX3 HX ih hT2
                    (with_reducible refine (HIH.out _ HR2.out HO2.out).mono ?_)
                    rintro e w3 ⟨hb3, r, tv3, L3, rfl, h3, ho3, hl3⟩
                    rw [hl1] at hl3
                    obtain ⟨lg3, cap3, rfl, hlg3, hlt3⟩ := ho3.shape rfl (by omega)
                    obtain ⟨z, hz⟩ : ∃ z, L3[m]? = some z := ⟨L3[m]'(by omega), List.getElem?_eq_getElem _⟩
                    obtain ⟨d0, d1, d2⟩ := ho3.ts.at3 hz
                    have hlb := ho3.1 z (List.mem_of_getElem? hz)
                    have HSET := Lib.hid (set_leaf (m' := { z with left := r }) ho3 rfl hz 1 (.int .i64 r) hlb rfl (by omega))
                    have hne : lg3 ≠ g := fun e => ho3.apart h3 rd_ne (by rw [← e]; rfl)
                    have HR3 := Lib.hid h3; have HB3 := Lib.hid (HB2.out.trans (hb3.mono (Nat.le_refl _)))
                    have fz := own_free_t ho3 (m * 3 + 1)
                    simp only [Nat.zero_add] at d0 d1 d2
                    clear rc rf
                    have rc := h3.cell; have rf := h3.free
                    obtain ⟨n3, hn3⟩ : ∃ n3, n3 = L3.length := ⟨_, rfl⟩
                    have HN3 := Lib.hid hn3
                    rw [← hn3] at hl3 HSET HR3 rc
                    have hmn : (m : Int) < n3 := by omega
                    have hmn2 : m < n3 := by omega
                    have HHL := Lib.hid hl3
                    clear h3 ho3 hz hlb hb3 d0 d2 hn3 hl3
                    have NE := Lib.hid (fun c W h => next_err S g q3 k c (.slice (some ⟨lg3, 0, none⟩) n3 cap3) W h hkk)
                    have HRF := Lib.hid (HR3.out.far (p := ⟨lg3, m * 3 + 1, none⟩) hne.symm (.int .i64 r))
                    go_wp2_with (go_at_call 151; (with_reducible refine (NE.out _ _ HRF.out).mono ?_); rintro e wz ⟨rfl, rfl⟩)
                    go_returns
                    rw [HX3.out]
                    exact ⟨HB3.out.setCell hlg3 _, _, _, _, rfl, HRF.out, HSET.out, by rw [List.length_set, ← HN3.out, ← HM.out]; have := HHL.out; omega⟩
                  | ok q3 b1 =>
                    have hinv := treeT_inv (sb S) n q2 (m + 1) q3 b1 (by omega) hT2
                    have hsz3 := hinv.2.1
                    have hq3S : q3 ≤ S.size := by have := hinv.2.2.2 (by rw [sb_len]; exact hq2S); rwa [sb_len] at this
                    rw [hT2] at hih
                    have hX3 := HX.out
                    rw [hT2, TR.bind_ok] at hX3
                    clear HX
                    have HX := Lib.hid hX3
                    have HIH := Lib.hid hih
                    clear hih hX3 hinv hT2
                    (with_reducible refine (HIH.out _ HR2.out HO2.out).mono ?_)
                    rintro e w3 ⟨hb3, rfl, tv3, h3, ho3⟩
                    rw [hl1] at ho3 ⊢
                    obtain ⟨at3, hat3⟩ : ∃ a, a = b1.at (m + 1) := ⟨_, rfl⟩
                    rw [← hat3]
                    obtain ⟨X3, hX3⟩ : ∃ X, X = b1.enc (m + 1) := ⟨_, rfl⟩
                    have hXl : X3.length = b1.size := by rw [hX3, Bt.enc_len]
                    rw [← hX3] at ho3
                    have hll : ((L ++ [(⟨v, -1, -1⟩ : Lf)]) ++ X3).length = m + 1 + b1.size := by rw [List.length_append, hl1, hXl]
                    obtain ⟨lg3, cap3, rfl, hlg3, hlt3⟩ := ho3.shape hll.symm (by omega)
                    have hz : ((L ++ [(⟨v, -1, -1⟩ : Lf)]) ++ X3)[m]? = some (⟨v, -1, -1⟩ : Lf) := by simp [HM.out]
                    have hset := set_leaf (m' := (⟨v, at3, -1⟩ : Lf)) ho3 hll hz 1 (.int .i64 at3) ⟨lv0, lv1⟩ rfl (by omega)
                    obtain ⟨d0, d1, d2⟩ := ho3.ts.at3 hz
                    have hne : lg3 ≠ g := fun e => ho3.apart h3 rd_ne (by rw [← e]; rfl)
                    have HR3 := Lib.hid h3; have HB3 := Lib.hid (HB2.out.trans (hb3.mono (Nat.le_refl _)))
                    have fz := own_free_t ho3 (m * 3 + 1)
                    simp only [Nat.zero_add] at d0 d1 d2
                    have e1 : ((L ++ [(⟨v, -1, -1⟩ : Lf)]) ++ X3).set m (⟨v, at3, -1⟩ : Lf) = L ++ [(⟨v, at3, -1⟩ : Lf)] ++ X3 := by simp [HM.out]
                    rw [e1] at hset
                    have HSET := Lib.hid hset
                    clear rc rf
                    have rc := h3.cell; have rf := h3.free
                    have HAT3 := Lib.hid hat3; have HXX3 := Lib.hid hX3; have HXL3 := Lib.hid hXl
                    have hmn : (m : Int) < ((m + 1 + b1.size : Nat) : Int) := by omega
                    have hmn2 : m < m + 1 + b1.size := by omega
                    clear h3 ho3 hz hb3 d0 d2 hset e1 hll hat3 hX3 hXl HIH
                    go_wp2_with fail
                    refine calls_absT (fun W' => RD W' g S q3 (.slice (some ⟨lg3, 0, none⟩) (m + 1 + b1.size) cap3) 0 ∧ TO W' B (.slice (some ⟨lg3, 0, none⟩) (m + 1 + b1.size) cap3) (L ++ [(⟨v, at3, -1⟩ : Lf)] ++ X3) ∧ Below B W W') ⟨HR3.out.far (p := ⟨lg3, m * 3 + 1, none⟩) hne.symm _, HSET.out, HB3.out.setCell hlg3 _⟩ ?_
                    clear rc rf HR3 HB3 HSET hne fz hmn hmn2 d1
                    rintro v3 ⟨h3, ho3, hb3⟩
                    have HR3 := Lib.hid h3; have HO3 := Lib.hid ho3; have HB3 := Lib.hid hb3
                    have rc := h3.cell; have rf := h3.free
                    clear h3 ho3 hb3
                    have hl3 : (L ++ [(⟨v, at3, -1⟩ : Lf)] ++ X3).length = m + 1 + b1.size := by simp only [List.length_append, List.length_singleton, ← HM.out, HXL3.out]
                    have hnx := fun W h => next_uni S g q3 32 (.slice (some ⟨lg3, 0, none⟩) (m + 1 + b1.size) cap3) W h hq3S hS
                    cases hN3 : nextT (sb S) 32 q3 with
                    | err q4 k =>
                      rw [hN3] at hnx
                      have hkk := (nextT_err (by rw [sb_len]; omega) hN3).2.2
                      have hX3 := HX.out
                      rw [hN3] at hX3
                      have HX3 := Lib.hid (show x = .err q4 k from hX3)
                      have HN := Lib.hid (show ∀ W, RD W g S q3 (.slice (some ⟨lg3, 0, none⟩) (m + 1 + b1.size) cap3) 0 → Calls Tryd.prog 151 #[.pointer (some ⟨g, 0, none⟩), .int .u8 32] W fun e w' => Keep (· = g) W w' ∧ e = .returned (.bool false) ∧ RD w' g S q4 (.slice (some ⟨lg3, 0, none⟩) (m + 1 + b1.size) cap3) k from hnx)
                      have NE := Lib.hid (fun c W h => next_err S g q4 k c (.slice (some ⟨lg3, 0, none⟩) (m + 1 + b1.size) cap3) W h hkk)
                      clear hnx hX3 HX ih hkk hN3
                      (with_reducible refine (HN.out _ HR3.out).mono ?_)
                      rintro e w4 ⟨hk4, rfl, h4⟩
                      have HK4 := Lib.hid hk4; have HR4 := Lib.hid h4; have HO4 := Lib.hid (HO3.out.keepG HR3.out rd_ne hk4)
                      have HB4 := Lib.hid (HB3.out.trans (hk4.belowG hBg (Nat.le_trans hBg (Nat.le_of_lt HR3.out.lt))))
                      clear rc rf hk4
                      have rc := h4.cell; have rf := h4.free
                      clear h4
                      go_wp2_with (go_at_call 151; (with_reducible refine (NE.out _ _ HR4.out).mono ?_); rintro e wz ⟨rfl, rfl⟩)
                      go_returns
                      rw [HX3.out]
                      exact ⟨HB4.out, _, _, _, rfl, HR4.out, HO4.out, by rw [hl3, ← HM.out]; omega⟩
                    | ok q4 u =>
                      obtain ⟨hqe, hqs⟩ := nextT_inv hN3
                      have hq4S : q4 ≤ S.size := by have := (List.getElem?_eq_some_iff.1 hqs).1; rw [sb_len] at this; omega
                      have hX3 := HX.out
                      rw [hN3, TR.bind_ok] at hX3
                      clear HX
                      have HX := Lib.hid hX3
                      rw [hN3] at hnx
                      have HN := Lib.hid (show ∀ W, RD W g S q3 (.slice (some ⟨lg3, 0, none⟩) (m + 1 + b1.size) cap3) 0 → Calls Tryd.prog 151 #[.pointer (some ⟨g, 0, none⟩), .int .u8 32] W fun e w' => Keep (· = g) W w' ∧ e = .returned (.bool true) ∧ RD w' g S q4 (.slice (some ⟨lg3, 0, none⟩) (m + 1 + b1.size) cap3) 0 from hnx)
                      clear hnx hX3 hqe hqs hN3
                      (with_reducible refine (HN.out _ HR3.out).mono ?_)
                      rintro e w4 ⟨hk4, rfl, h4⟩
                      have HK4 := Lib.hid hk4; have HR4 := Lib.hid h4; have HO4 := Lib.hid (HO3.out.keepG HR3.out rd_ne hk4)
                      have HB4 := Lib.hid (HB3.out.trans (hk4.belowG hBg (Nat.le_trans hBg (Nat.le_of_lt HR3.out.lt))))
                      clear rc rf hk4
                      have rc := h4.cell; have rf := h4.free
                      clear h4
                      clear HN
                      go_wp2_with fail
                      have hih := fun W h1 h2 => ih q4 (L ++ [(⟨v, at3, -1⟩ : Lf)] ++ X3) (.slice (some ⟨lg3, 0, none⟩) (m + 1 + b1.size) cap3) W (by rw [hl3]; omega) (by rw [hl3]; omega) hq4S h1 h2
                      rw [hl3] at hih
                      cases hT4 : treeT (sb S) n q4 (m + 1 + b1.size) with
                      | err q5 k =>
                        have hkk := (treeT_err (sb S) n q4 (m + 1 + b1.size) q5 k (by omega) (by omega) (by rw [sb_len]; exact hq4S) hT4).2.2
                        rw [hT4] at hih
                        have hX3 := HX.out
                        rw [hT4] at hX3
                        have HX3 := Lib.hid (show x = .err q5 k from hX3)
                        have HIH := Lib.hid hih
                        clear hih hX3 HX ih hT4
                        (with_reducible refine (HIH.out _ HR4.out HO4.out).mono ?_)
                        rintro e w5 ⟨hb5, r, tv5, L5, rfl, h5, ho5, hl5⟩
                        rw [hl3] at hl5
                        obtain ⟨lg5, cap5, rfl, hlg5, hlt5⟩ := ho5.shape rfl (by omega)
                        obtain ⟨z, hz⟩ : ∃ z, L5[m]? = some z := ⟨L5[m]'(by omega), List.getElem?_eq_getElem _⟩
                        obtain ⟨d0, d1, d2⟩ := ho5.ts.at3 hz
                        have hlb := ho5.1 z (List.mem_of_getElem? hz)
                        have HSET := Lib.hid (set_leaf (m' := { z with right := r }) ho5 rfl hz 2 (.int .i64 r) hlb rfl (by omega))
                        have hne : lg5 ≠ g := fun e => ho5.apart h5 rd_ne (by rw [← e]; rfl)
                        have HR5 := Lib.hid h5; have HB5 := Lib.hid (HB4.out.trans (hb5.mono (Nat.le_refl _)))
                        have fz := own_free_t ho5 (m * 3 + 2)
                        simp only [Nat.zero_add] at d0 d1 d2
                        clear rc rf
                        have rc := h5.cell; have rf := h5.free
                        obtain ⟨n5, hn5⟩ : ∃ n5, n5 = L5.length := ⟨_, rfl⟩
                        have HN5 := Lib.hid hn5
                        rw [← hn5] at hl5 HSET HR5 rc
                        have hmn : (m : Int) < n5 := by omega
                        have hmn2 : m < n5 := by omega
                        have HHL := Lib.hid hl5
                        clear h5 ho5 hz hlb hb5 d0 d1 hn5 hl5
                        have NE := Lib.hid (fun c W h => next_err S g q5 k c (.slice (some ⟨lg5, 0, none⟩) n5 cap5) W h hkk)
                        have HRF := Lib.hid (HR5.out.far (p := ⟨lg5, m * 3 + 2, none⟩) hne.symm (.int .i64 r))
                        go_wp2_with (go_at_call 151; (with_reducible refine (NE.out _ _ HRF.out).mono ?_); rintro e wz ⟨rfl, rfl⟩)
                        go_returns
                        rw [HX3.out]
                        exact ⟨HB5.out.setCell hlg5 _, _, _, _, rfl, HRF.out, HSET.out, by rw [List.length_set, ← HN5.out, ← HM.out]; have := HHL.out; omega⟩
                      | ok q5 b2 =>
                        have hinv := treeT_inv (sb S) n q4 (m + 1 + b1.size) q5 b2 (by omega) hT4
                        have hsz5 := hinv.2.1
                        have hq5S : q5 ≤ S.size := by have := hinv.2.2.2 (by rw [sb_len]; exact hq4S); rwa [sb_len] at this
                        rw [hT4] at hih
                        have hX3 := HX.out
                        rw [hT4, TR.bind_ok] at hX3
                        clear HX
                        have HX := Lib.hid hX3
                        have HIH := Lib.hid hih
                        clear hih hX3 hinv hT4
                        (with_reducible refine (HIH.out _ HR4.out HO4.out).mono ?_)
                        rintro e w5 ⟨hb5, rfl, tv5, h5, ho5⟩
                        rw [hl3] at ho5 ⊢
                        obtain ⟨at5, hat5⟩ : ∃ a, a = b2.at (m + 1 + b1.size) := ⟨_, rfl⟩
                        rw [← hat5]
                        obtain ⟨X5, hX5⟩ : ∃ X, X = b2.enc (m + 1 + b1.size) := ⟨_, rfl⟩
                        have hXl : X5.length = b2.size := by rw [hX5, Bt.enc_len]
                        rw [← hX5] at ho5
                        have hll : ((L ++ [(⟨v, at3, -1⟩ : Lf)] ++ X3) ++ X5).length = m + 1 + b1.size + b2.size := by rw [List.length_append, hl3, hXl]
                        obtain ⟨lg5, cap5, rfl, hlg5, hlt5⟩ := ho5.shape hll.symm (by omega)
                        have hz : ((L ++ [(⟨v, at3, -1⟩ : Lf)] ++ X3) ++ X5)[m]? = some (⟨v, at3, -1⟩ : Lf) := by simp [HM.out]
                        have hset := set_leaf (m' := (⟨v, at3, at5⟩ : Lf)) ho5 hll hz 2 (.int .i64 at5) ⟨lv0, lv1⟩ rfl (by omega)
                        obtain ⟨d0, d1, d2⟩ := ho5.ts.at3 hz
                        have hne : lg5 ≠ g := fun e => ho5.apart h5 rd_ne (by rw [← e]; rfl)
                        have HR5 := Lib.hid h5; have HB5 := Lib.hid (HB4.out.trans (hb5.mono (Nat.le_refl _)))
                        have fz := own_free_t ho5 (m * 3 + 2)
                        simp only [Nat.zero_add] at d0 d1 d2
                        have e1 : ((L ++ [(⟨v, at3, -1⟩ : Lf)] ++ X3) ++ X5).set m (⟨v, at3, at5⟩ : Lf) = L ++ [(⟨v, at3, at5⟩ : Lf)] ++ X3 ++ X5 := by simp [HM.out]
                        rw [e1] at hset
                        have HSET := Lib.hid hset
                        clear rc rf
                        have rc := h5.cell; have rf := h5.free
                        have HAT5 := Lib.hid hat5; have HXX5 := Lib.hid hX5; have HXL5 := Lib.hid hXl
                        have hmn : (m : Int) < ((m + 1 + b1.size + b2.size : Nat) : Int) := by omega
                        have hmn2 : m < m + 1 + b1.size + b2.size := by omega
                        clear h5 ho5 hz hb5 d0 d1 hset e1 hll hat5 hX5 hXl HIH
                        go_wp2_with fail
                        refine calls_absT (fun W' => RD W' g S q5 (.slice (some ⟨lg5, 0, none⟩) (m + 1 + b1.size + b2.size) cap5) 0 ∧ TO W' B (.slice (some ⟨lg5, 0, none⟩) (m + 1 + b1.size + b2.size) cap5) (L ++ [(⟨v, at3, at5⟩ : Lf)] ++ X3 ++ X5) ∧ Below B W W') ⟨HR5.out.far (p := ⟨lg5, m * 3 + 2, none⟩) hne.symm _, HSET.out, HB5.out.setCell hlg5 _⟩ ?_
                        clear rc rf HR5 HB5 HSET hne fz hmn hmn2 d2
                        rintro v5 ⟨h5, ho5, hb5⟩
                        have HR5 := Lib.hid h5; have HO5 := Lib.hid ho5; have HB5 := Lib.hid hb5
                        have rc := h5.cell; have rf := h5.free
                        clear h5 ho5 hb5
                        have hl5 : (L ++ [(⟨v, at3, at5⟩ : Lf)] ++ X3 ++ X5).length = m + 1 + b1.size + b2.size := by simp only [List.length_append, List.length_singleton, ← HM.out, HXL3.out, HXL5.out]
                        have hnx := fun W h => next_uni S g q5 41 (.slice (some ⟨lg5, 0, none⟩) (m + 1 + b1.size + b2.size) cap5) W h hq5S hS
                        cases hN5 : nextT (sb S) 41 q5 with
                        | err q6 k =>
                          rw [hN5] at hnx
                          have hkk := (nextT_err (by rw [sb_len]; omega) hN5).2.2
                          have hX3 := HX.out
                          rw [hN5] at hX3
                          have HX3 := Lib.hid (show x = .err q6 k from hX3)
                          have HN := Lib.hid (show ∀ W, RD W g S q5 (.slice (some ⟨lg5, 0, none⟩) (m + 1 + b1.size + b2.size) cap5) 0 → Calls Tryd.prog 151 #[.pointer (some ⟨g, 0, none⟩), .int .u8 41] W fun e w' => Keep (· = g) W w' ∧ e = .returned (.bool false) ∧ RD w' g S q6 (.slice (some ⟨lg5, 0, none⟩) (m + 1 + b1.size + b2.size) cap5) k from hnx)
                          have NE := Lib.hid (fun c W h => next_err S g q6 k c (.slice (some ⟨lg5, 0, none⟩) (m + 1 + b1.size + b2.size) cap5) W h hkk)
                          clear hnx hX3 HX ih hkk hN5
                          (with_reducible refine (HN.out _ HR5.out).mono ?_)
                          rintro e w6 ⟨hk6, rfl, h6⟩
                          have HK6 := Lib.hid hk6; have HR6 := Lib.hid h6; have HO6 := Lib.hid (HO5.out.keepG HR5.out rd_ne hk6)
                          have HB6 := Lib.hid (HB5.out.trans (hk6.belowG hBg (Nat.le_trans hBg (Nat.le_of_lt HR5.out.lt))))
                          clear rc rf hk6
                          have rc := h6.cell; have rf := h6.free
                          clear h6
                          go_wp2_with fail
                          go_returns
                          rw [HX3.out]
                          exact ⟨HB6.out, _, _, _, rfl, HR6.out, HO6.out, by rw [hl5, ← HM.out]; omega⟩
                        | ok q6 u =>
                          obtain ⟨hqe, hqs⟩ := nextT_inv hN5
                          have hq6S : q6 ≤ S.size := by have := (List.getElem?_eq_some_iff.1 hqs).1; rw [sb_len] at this; omega
                          have hX3 := HX.out
                          rw [hN5, TR.bind_ok] at hX3
                          clear HX
                          have HX := Lib.hid hX3
                          rw [hN5] at hnx
                          have HN := Lib.hid (show ∀ W, RD W g S q5 (.slice (some ⟨lg5, 0, none⟩) (m + 1 + b1.size + b2.size) cap5) 0 → Calls Tryd.prog 151 #[.pointer (some ⟨g, 0, none⟩), .int .u8 41] W fun e w' => Keep (· = g) W w' ∧ e = .returned (.bool true) ∧ RD w' g S q6 (.slice (some ⟨lg5, 0, none⟩) (m + 1 + b1.size + b2.size) cap5) 0 from hnx)
                          clear hnx hX3 hqe hqs hN5
                          (with_reducible refine (HN.out _ HR5.out).mono ?_)
                          rintro e w6 ⟨hk6, rfl, h6⟩
                          have HK6 := Lib.hid hk6; have HR6 := Lib.hid h6; have HO6 := Lib.hid (HO5.out.keepG HR5.out rd_ne hk6)
                          have HB6 := Lib.hid (HB5.out.trans (hk6.belowG hBg (Nat.le_trans hBg (Nat.le_of_lt HR5.out.lt))))
                          clear rc rf hk6
                          have rc := h6.cell; have rf := h6.free
                          clear h6
                          clear HN
                          go_wp2_with fail
                          go_returns
                          rw [HX.out]
                          refine ⟨HB6.out, ret_i (by rw [← HM.out]; unfold Bt.at; rw [if_neg (by simp only [Bt.size]; omega)]), _, HR6.out, ?_⟩
                          have e : L ++ (Bt.node v b1 b2).enc L.length = L ++ [⟨v, at3, at5⟩] ++ X3 ++ X5 := by
                            rw [HAT3.out, HAT5.out, HXX3.out, HXX5.out, HM.out]
                            simp [Bt.enc]
                          rw [e]
                          exact HO6.out
          · have hb : ((S[p].toNat : Int) == 40) = false := by
              rw [beq_eq_false_iff_ne]; intro e
              exact h4 (UInt8.toNat_inj.1 (by show S[p].toNat = 40; omega))
            have hN1 : nextT (sb S) 40 p = .err p 2 := by unfold nextT; rw [hc]; simp only; rw [if_neg h4]
            rw [hN1] at hnx hx
            have HN := Lib.hid (show ∀ W, RD W g S p (.slice A m c) 0 → Calls Tryd.prog 151 #[.pointer (some ⟨g, 0, none⟩), .int .u8 40] W fun e w' => Keep (· = g) W w' ∧ e = .returned (.bool false) ∧ RD w' g S p (.slice A m c) 2 from hnx)
            have HX := Lib.hid hx
            clear hx h45 hc hm ih h4 h40 hN1 hnx
            go_enter Tryd.func99, Tryd.ntmps99
            go_wp2
            go_quiet (fail)
            go_wp2
            go_quiet (fail)
            go_wp2_with (go_at_call 151; refine (HN.out _ (HR.out.drewN _)).mono ?_; rintro e w1 ⟨hk1, rfl, h1⟩; have HK1 := Lib.hid hk1.undrawn; have H1 := Lib.hid h1; clear rc rf hk1; have rc := h1.cell; have rf := h1.free; clear h1)
            go_returns
            rw [HX.out]
            exact ⟨HK1.out.belowG hBg (by omega), _, _, L, rfl, H1.out, HO.out.keepG HR.out rd_ne HK1.out, Nat.le_refl _⟩
        · have hd : decide ((p : Int) < S.size) = false := by simp; omega
          have hN1 : nextT (sb S) 40 p = .err p 3 := by unfold nextT; rw [sb_none S p (by omega)]
          rw [hN1] at hnx hx
          have HN := Lib.hid (show ∀ W, RD W g S p (.slice A m c) 0 → Calls Tryd.prog 151 #[.pointer (some ⟨g, 0, none⟩), .int .u8 40] W fun e w' => Keep (· = g) W w' ∧ e = .returned (.bool false) ∧ RD w' g S p (.slice A m c) 3 from hnx)
          have HX := Lib.hid hx
          clear hx h45 hm ih h40 hN1 hnx
          go_enter Tryd.func99, Tryd.ntmps99
          go_wp2
          go_quiet (fail)
          go_wp2
          go_quiet (fail)
          go_wp2_with (go_at_call 151; refine (HN.out _ (HR.out.drewN _)).mono ?_; rintro e w1 ⟨hk1, rfl, h1⟩; have HK1 := Lib.hid hk1.undrawn; have H1 := Lib.hid h1; clear rc rf hk1; have rc := h1.cell; have rf := h1.free; clear h1)
          go_returns
          rw [HX.out]
          exact ⟨HK1.out.belowG hBg (by omega), _, _, L, rfl, H1.out, HO.out.keepG HR.out rd_ne HK1.out, Nat.le_refl _⟩
end Go.Proofs.YtahimlnddelnbaaDoor

namespace Go.Proofs.YtahimlnddelnbaaDoor
open Go.RowKit

def RetPT (w : World) (x : List Lf × Nat × Int) (e : Ending) (w' : World) : Prop := ∃ v, e = .returned (.tuple #[v, .int .i64 (x.2.1 : Nat), .int .i64 x.2.2]) ∧ Below w.heap.size w w' ∧ TO w' w.heap.size v x.1

set_option maxRecDepth 100000 in
set_option maxHeartbeats 2000000 in
theorem Parse_tree (S : ByteArray) (w : World) :
    Calls Tryd.prog 42 #[.string S] w (RetPT w (parseT (sb S))) := by
  obtain ⟨R, hR⟩ : ∃ R, R = parseT (sb S) := ⟨_, rfl⟩
  rw [← hR]
  unfold parseT at hR
  rw [sb_len] at hR
  by_cases hl : 4096 < S.size
  · rw [if_pos hl] at hR
    have HR := Lib.hid hR; clear hR
    have hli : (4096 : Int) < S.size := by omega
    go_enter Tryd.func42, Tryd.ntmps42
    go_wp2
    go_returns
    rw [HR.out]
    exact ⟨_, rfl, Below.refl _ _, TO.nil _ _⟩
  · rw [if_neg hl] at hR
    have hli : (S.size : Int) ≤ 4096 := by omega
    have htr := tree_any S w.heap.size w.heap.size (Nat.le_refl _) (by omega) 33 0 [] (.slice none 0 0) (w.alloc (.cells #[.string S, .int .i64 0, .slice none 0 0, .int .i64 0] 122)) (by simp) (by simp) (Nat.zero_le _) (Row.new _ _ _) (TO.nil _ _)
    rw [show ([] : List Lf).length = 0 from rfl] at htr
    have hal : Below w.heap.size w (w.alloc (.cells #[.string S, .int .i64 0, .slice none 0 0, .int .i64 0] 122)) := (Below.refl _ _).alloc (Nat.le_refl _) _
    have HAL := Lib.hid hal; clear hal
    cases hT : treeT (sb S) 33 0 0 with
    | err q k =>
      rw [hT] at htr hR
      have hkk := (treeT_err (sb S) 33 0 0 q k (by omega) (by omega) (Nat.zero_le _) hT).2.2
      have k1 : (k == 0) = false := by simp [hkk]
      have k2 : (k != 0) = true := by simp [hkk]
      have HTR := Lib.hid htr
      have HR := Lib.hid hR
      clear htr hR hT hkk hl
      go_enter Tryd.func42, Tryd.ntmps42
      go_wp2_with (go_at_call 99; (refine HTR.out.mono ?_); rintro e w1 ⟨hb, r, tv, L', rfl, h1, ho1, -⟩; have HB := Lib.hid (HAL.out.trans hb); have rc := h1.cell; have rf := h1.free; clear h1 ho1 hb)
      go_quiet (fail)
      go_wp2_with fail
      go_returns
      rw [HR.out]
      exact ⟨_, rfl, below_d15 HB.out _, TO.nil _ _⟩
    | ok q b =>
      rw [hT] at htr hR
      simp only at hR
      have hqS : q ≤ S.size := by have := (treeT_inv (sb S) 33 0 0 q b (by omega) hT).2.2.2 (Nat.zero_le _); rwa [sb_len] at this
      have HTR := Lib.hid htr
      clear htr hT hl
      by_cases hq : q < S.size
      · rw [if_pos hq] at hR
        have HR := Lib.hid hR
        have hqi : (q : Int) < S.size := by omega
        clear hR
        go_enter Tryd.func42, Tryd.ntmps42
        go_wp2_with (first
          | (go_at_call 99; (refine HTR.out.mono ?_); rintro e w1 ⟨hb, rfl, tv, h1, ho1⟩; have HB := Lib.hid (HAL.out.trans hb); have HR1 := Lib.hid h1; have rc := h1.cell; have rf := h1.free; clear h1 ho1 hb)
          | (go_at_call 100; (refine (fail_ok S w.heap.size q q 5 tv _ HR1.out).mono ?_); rintro e w2 ⟨rfl, h2, hk2⟩; have HB2 := Lib.hid (HB.out.trans (hk2.belowG (B := w.heap.size) (Nat.le_refl _) HB.out.size)); clear rc rf; have rc := h2.cell; have rf := h2.free; clear h2 hk2))
        go_quiet (fail)
        go_wp2_with fail
        go_returns
        rw [HR.out]
        exact ⟨_, rfl, below_d15 HB2.out _, TO.nil _ _⟩
      · rw [if_neg hq] at hR
        have HR := Lib.hid hR
        have hqi : (S.size : Int) ≤ q := by omega
        clear hR
        go_enter Tryd.func42, Tryd.ntmps42
        go_wp2_with (go_at_call 99; (refine HTR.out.mono ?_); rintro e w1 ⟨hb, rfl, tv, h1, ho1⟩; have HB := Lib.hid (HAL.out.trans hb); have HO1 := Lib.hid ho1; have rc := h1.cell; have rf := h1.free; clear h1 ho1 hb)
        go_returns
        rw [HR.out]
        exact ⟨tv, rfl, HB.out, by have := HO1.out; simpa using this⟩
end Go.Proofs.YtahimlnddelnbaaDoor

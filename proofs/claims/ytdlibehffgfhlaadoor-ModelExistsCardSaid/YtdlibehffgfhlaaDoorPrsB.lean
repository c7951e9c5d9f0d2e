/- Contract of the parser's function name. -/
import Derived.Test.YtdlibehffgfhlaaDoorPrsA
import Derived.Test.YtdlibehffgfhlaaDoorMsoF
import Derived.Test.YtdlibehffgfhlaaDoorPrsA
set_option linter.unusedSimpArgs false
set_option linter.unusedVariables false
namespace Go.Proofs.YtdlibehffgfhlaaDoor
open Go.RowKit

def smallB : ByteArray := { data := #[97, 98, 99, 100, 101, 102, 103, 104, 105, 106, 107, 108, 109, 110, 111, 112, 113, 114, 115, 116, 117, 118, 119, 120, 121, 122] }
theorem small_low (c : UInt8) : (bts smallB).contains c = low c := by
  have h : ∀ n : Fin 256, (bts smallB).contains (UInt8.ofFin n) = low (UInt8.ofFin n) := by decide +kernel
  have e : UInt8.ofFin c.toFin = c := by simp
  rw [← e]; exact h _
theorem openB_low (c : UInt8) : (40 :: bts smallB).contains c = (decide (c = 40) || low c) := by
  rw [List.contains_cons, small_low]
  congr 1
theorem nameP_need (s : List UInt8) (inside : Bool) (p : Nat) : nameP s inside p = (needP s (bts smallB) 2 p).bind fun p _ =>
    (match opFrom ((s.drop p).takeWhile low) inside 15 1 with
    | some k => .ok (p + ((s.drop p).takeWhile low).length) (k : Int)
    | none => .err p 6 : PR Int) := by
  unfold nameP needP
  cases s[p]? with
  | none => rfl
  | some c =>
    simp only [small_low]
    by_cases h : low c = true
    · rw [if_pos h, if_pos h]; rfl
    · rw [if_neg h, if_neg h]; rfl
theorem trim_low (l : List UInt8) : Lib.trimLeftS l (bts smallB) = l.dropWhile low := by
  unfold Lib.trimLeftS
  congr 1
  funext c
  exact small_low c
theorem take_low (l : List UInt8) : l.take (l.length - (l.dropWhile low).length) = l.takeWhile low := by
  have h := List.takeWhile_append_dropWhile (p := low) (l := l)
  have e : l.length - (l.dropWhile low).length = (l.takeWhile low).length := by
    have := congrArg List.length h
    rw [List.length_append] at this
    omega
  rw [e]
  conv => lhs; rw [← h]
  rw [List.take_left']
  rw [h]

theorem bts_extract (S : ByteArray) (a b : Nat) : bts (S.extract a b) = ((bts S).drop a).take (b - a) := by
  show (S.extract a b).data.toList = _
  rw [ByteArray.data_extract, Array.toList_extract, List.extract_eq_take_drop]
  rfl
set_option maxRecDepth 100000 in
set_option maxHeartbeats 1000000 in
theorem name_any (S : ByteArray) (inside : Bool) (g p : Nat) (lv u : Value) (w : World) (hr : Row w g 89 #[.string S, .int .i64 p, lv, u]) (hp : p ≤ S.size) (hS : S.size ≤ 1000000) :
    Calls Tryd.prog 104 #[.pointer (some ⟨g, 0, none⟩), .bool inside] w (StepPost (fun k => .int .u8 k) S g lv u (nameP (bts S) inside p) w) := by
  obtain ⟨x, hx⟩ : ∃ x, x = nameP (bts S) inside p := ⟨_, rfl⟩
  rw [← hx]
  rw [nameP_need] at hx
  obtain ⟨y, hy⟩ : ∃ y, y = needP (bts S) (bts smallB) 2 p := ⟨_, rfl⟩
  rw [← hy] at hx
  have hneed := fun W h => need_any S smallB g p lv u 2 W h hp hS
  rw [← hy] at hneed
  unfold smallB at hneed
  have HNN := Lib.hid hneed; clear hneed
  have HY := Lib.hid hy; clear hy
  have HX := Lib.hid hx; clear hx
  have HR := Lib.hid hr; clear hr
  cases y with
  | err q k =>
    go_enter Tryd.func104, Tryd.ntmps104
    go_wp2_with (go_at_call 103; refine (HNN.out _ HR.out).mono ?_; rintro e w1 ⟨hb1, rfl⟩)
    exact ⟨rfl, StepPost.err (by rw [HX.out]; rfl) (Keep.of_below hb1 (Nat.le_refl _))⟩
  | ok q c =>
    obtain ⟨hq, hs, _⟩ := needP_pos HY.out.symm
    subst hq
    have hx := HX.out
    rw [PR.bind_ok] at hx
    clear HX
    obtain ⟨T, hT⟩ : ∃ T : ByteArray, T = ⟨(Lib.trimLeftS (bts (S.extract q S.size)) (bts smallB)).toArray⟩ := ⟨_, rfl⟩
    have htrim : ∀ W, Calls Tryd.prog 127 #[.string (S.extract q S.size), .string smallB] W fun e w' => e = .returned (.string T) ∧ Below W.heap.size W w' := fun W => by
      rw [hT]
      exact Tryd.strings_TrimLeft_ascii _ smallB W (by decide) (fun j b hb => by
        have h : ∀ b ∈ bts smallB, b.toNat < 128 := by decide
        exact h b (List.mem_of_getElem? hb))
    unfold smallB at htrim
    have hqS : q < S.size := by
      have := (List.getElem?_eq_some_iff.1 hs).1
      rwa [bts_len] at this
    have hrest : bts (S.extract q S.size) = (bts S).drop q := by
      rw [bts_extract, List.take_of_length_le]
      rw [List.length_drop, bts_len]; exact Nat.le_refl _
    rw [hrest, trim_low] at hT
    have hTs : T.size = (((bts S).drop q).dropWhile low).length := by rw [hT]; show (List.toArray _).size = _; simp
    have hTle : T.size ≤ S.size - q := by
      have h := congrArg List.length (List.takeWhile_append_dropWhile (p := low) (l := (bts S).drop q))
      rw [List.length_append, List.length_drop, bts_len] at h
      omega
    have hword : bts ((S.extract q S.size).extract 0 (S.size - q - T.size)) = ((bts S).drop q).takeWhile low := by
      rw [bts_extract, hrest, List.drop_zero, Nat.sub_zero, ← take_low, hTs, List.length_drop, bts_len]
    have hwdl : (((bts S).drop q).takeWhile low).length ≤ S.size - q := by
      have h := congrArg List.length (List.takeWhile_append_dropWhile (p := low) (l := (bts S).drop q))
      rw [List.length_append, List.length_drop, bts_len] at h
      omega
    have HWDL := Lib.hid hwdl; clear hwdl
    have HW := Lib.hid hword; clear hword hTs hrest hs
    clear hT
    have HTR := Lib.hid htrim; clear htrim
    go_enter Tryd.func104, Tryd.ntmps104
    go_wp2_with (go_at_call 103; refine (HNN.out _ HR.out).mono ?_; rintro e w1 ⟨hb1, rfl⟩; have HR1 := Lib.hid (HR.out.below hb1 HR.out.lt); have rc := HR1.out.cell; have rf := HR1.out.free; have rl := HR1.out.lt)
    go_quiet (fail)
    go_wp2_with (go_at_call 127; refine (HTR.out _).mono ?_; rintro e w2 ⟨rfl, hb2⟩)
    generalize (S.extract q S.size).extract 0 (S.size - q - T.size) = word at *
    generalize hwd : ((bts S).drop q).takeWhile low = wd at *
    have HX := Lib.hid hx; clear hx
    have HB2 : Hid (Below w.heap.size w w2) := hb1.trans (Below.mono (w := w1) ⟨hb2.os, hb2.tape, hb2.output, hb2.size, hb2.block⟩ hb1.size)
    clear hb1 hb2 rc rf rl hwd hTle
    go_loopg [7] 15 (fun gk op wr => ∃ k : Nat, 1 ≤ k ∧ k ≤ 16 ∧ gk = 16 - k ∧ op = .int .u8 k ∧ Below w.heap.size w wr ∧ opFrom wd inside 15 1 = opFrom wd inside (16 - k) k)
    case atStart => exact ⟨1, by omega, by omega, by omega, rfl, HB2.out, rfl⟩
    case round =>
      obtain ⟨k, hk1, hk, rfl, rfl, hb, heq⟩ := hrel
      have HB := Lib.hid hb; clear hb
      have HE := Lib.hid heq; clear heq
      have HRr := Lib.hid (HR.out.below HB.out HR.out.lt)
      have rc := HRr.out.cell; have rf := HRr.out.free; have rl := HRr.out.lt
      by_cases hlt : k < 16
      · have hstep : opFrom wd inside (16 - k) k = if nm (k : Int) = wd ∧ decide (k ≠ 1) = inside then some k else opFrom wd inside (16 - (k + 1)) (k + 1) := by
          rw [show 16 - k = (16 - (k + 1)) + 1 by omega, opFrom]
        have HS := Lib.hid hstep; clear hstep
        have hfd := fld_form0
        have hwl : word.toList = wd := by rw [Lib.toList_data]; exact HW.out
        have hws : word.size = wd.length := by rw [← HW.out, bts_len]
        have hwb : word.size ≤ 1000000 := by have := HWDL.out; omega
        have HWL := Lib.hid hwl; have HWS := Lib.hid hws; clear hwl hws
        go_wp2_with (first
          | (go_at_call 91; go_must (refine (forms_any (k : Int) _ (by omega) (by omega)).mono ?_; rintro e w3 ⟨rfl, hb3⟩; have HB3 := Lib.hid hb3; clear hb3; clear rc rf rl; have HR3 := Lib.hid (HRr.out.below HB3.out HRr.out.lt); have rc := HR3.out.cell; have rf := HR3.out.free; have rl := HR3.out.lt)))
        · have h1 : nm (k : Int) = word.toList := by assumption
          have h2 : (((k : Int) != 1) == inside) = true := by assumption
          rw [HWL.out] at h1
          have h3 : decide (k ≠ 1) = inside := by
            have := eq_of_beq h2
            rw [← this, Bool.eq_iff_iff]
            simp; omega
          go_returns
          refine StepPost.ok (q := q + wd.length) (v := (k : Int)) ?_ rfl (Keep.set (S := (· = g)) ((Keep.of_below HB.out (Nat.le_refl _)).trans (Keep.of_below HB3.out (Nat.le_refl _))) (p := ⟨g, 1, none⟩) (.inl rfl) _) ?_
          · rw [HX.out, HE.out, HS.out, if_pos ⟨h1, h3⟩]
          · have h := HR3.out.set 1 (.int .i64 ((q : Int) + (word.size : Int)))
            rw [← HWS.out, Int.natCast_add]
            exact h
        · have h2 : (((k : Int) != 1) == inside) = false := by assumption
          go_roundg (16 - (k + 1))
          case rel =>
            have h3 : ¬ decide (k ≠ 1) = inside := by
              intro h
              have := beq_eq_false_iff_ne.1 h2
              apply this
              rw [← h, Bool.eq_iff_iff]
              simp; omega
            exact ⟨k + 1, by omega, by omega, rfl, by go_num, HB.out.trans (HB3.out.mono HB.out.size), by rw [HE.out, HS.out, if_neg fun h => h3 h.2]⟩
          case measure => omega
        · have h1 : ¬ nm (k : Int) = word.toList := by assumption
          rw [HWL.out] at h1
          go_roundg (16 - (k + 1))
          case rel => exact ⟨k + 1, by omega, by omega, rfl, by go_num, HB.out.trans (HB3.out.mono HB.out.size), by rw [HE.out, HS.out, if_neg fun h => h1 h.1]⟩
          case measure => omega
      · have hk16 : k = 16 := by omega
        subst hk16
        go_wp2
        exact ⟨rfl, StepPost.err (by rw [HX.out, HE.out]; rfl) (Keep.of_below HB.out (Nat.le_refl _))⟩
end Go.Proofs.YtdlibehffgfhlaaDoor

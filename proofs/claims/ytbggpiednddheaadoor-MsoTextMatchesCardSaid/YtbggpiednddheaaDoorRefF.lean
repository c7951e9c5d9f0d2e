/- Contract of the reference: Format. -/
import Derived.Test.YtbggpiednddheaaDoorRefC
import Derived.Test.YtbggpiednddheaaDoorRefE
set_option linter.unusedSimpArgs false
set_option linter.unusedVariables false
namespace Go.Proofs.YtbggpiednddheaaDoor
open Go.RowKit

set_option maxRecDepth 100000 in
set_option maxHeartbeats 4000000 in
theorem RFormat_any (f : List Mk) (v : Value) (w : World) (hv : MS w v f) :
    Calls Tryd.prog 32 #[v] w fun e w' => e = .returned (.tuple #[strV (if formedS f then textS f else []), .int .i64 (if formedS f then 0 else 2)]) ∧ Below w.heap.size w w' := by
  have hF := fun W (h : MS W v f) => RFormed_any f v W h
  obtain ⟨b, hb⟩ : ∃ b, b = formedS f := ⟨_, rfl⟩
  rw [← hb] at hF ⊢
  have HV := Lib.hid hv
  obtain ⟨hop, A, c, rfl, hc, hc2, hcell⟩ := hv
  clear hcell hop
  have HF := Lib.hid hF; clear hF
  cases b with
  | false =>
    clear hb
    go_enter Tryd.func32, Tryd.ntmps32
    go_wp2_with (go_at_call 58; go_must ((with_reducible refine (HF.out _ HV.out).mono ?_); rintro e w1 ⟨rfl, hb1⟩))
    go_returns
    exact ⟨rfl, hb1⟩
  | true =>
    obtain ⟨t, ok, hs, he, ht⟩ := formed_is f hb.symm
    have hlen : f.length = t.size := by rw [he, Tr.enc_len]
    have hp := t.size_pos
    have hT := Rtext_any f (.slice A f.length c) t ok hs 0 (by rw [he]; exact Lies.self t)
    rw [Nat.zero_add] at hT
    rw [ht]
    clear hb ht he
    obtain ⟨n, hn⟩ : ∃ n, n = f.length := ⟨_, rfl⟩
    have e1 : (((t.size - 1 : Nat)) : Int) = (n : Int) - 1 := by omega
    rw [e1] at hT
    rw [← hn] at HV HF hT hc ⊢
    have HT := Lib.hid hT; clear hT e1
    clear hs ok hn hlen
    go_enter Tryd.func32, Tryd.ntmps32
    go_wp2_with (first
      | (go_at_call 58; go_must ((with_reducible refine (HF.out _ HV.out).mono ?_); rintro e w1 ⟨rfl, hb1⟩))
      | (go_at_call 71; go_must (refine (HT.out _ (HV.out.below hb1 (Nat.le_refl _))).mono ?_; rintro e w2 ⟨rfl, hb2⟩)))
    go_returns
    exact ⟨rfl, hb1.trans (hb2.mono hb1.size)⟩
end Go.Proofs.YtbggpiednddheaaDoor

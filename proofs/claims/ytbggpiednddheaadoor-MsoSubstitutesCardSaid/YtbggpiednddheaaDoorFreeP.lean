/- The free variables and the texts of constructed formulas: plain. -/
import Derived.Test.YtbggpiednddheaaDoorFsub
import Derived.Test.YtbggpiednddheaaDoorBuild
import Derived.Test.YtbggpiednddheaaDoorBitB
set_option linter.unusedSimpArgs false
set_option linter.unusedVariables false
namespace Go.Proofs.YtbggpiednddheaaDoor

theorem word_bit (t : Tr) (ok : t.ok) (v : Nat) : (wordT t 6).testBit v = frT (v : Int) t := by
  rw [← freeS_word t ok]
  have := trav_free (t.enc 0) (v : Int) (by omega) t ok 0 [] 0 (Lies.self t)
  unfold freeS
  simpa using this
theorem wordT_lt64 (t : Tr) (ok : t.ok) : wordT t 6 < 64 := by
  rw [← freeS_word t ok]
  exact trav_lt (t.enc 0) t ok 0 [] 0 (Lies.self t) (by omega)
theorem word_bin {op : Int} {a b : Tr} (ok : (Tr.bin op a b).ok) : wordT (.bin op a b) 6 = wordT a 6 ||| wordT b 6 := by
  apply Nat.eq_of_testBit_eq
  intro i
  rw [word_bit _ ok, Nat.testBit_or, word_bit _ ok.2.1, word_bit _ ok.2.2]
  rfl
theorem word_not {x : Int} {a : Tr} (ok : (Tr.un 9 x a).ok) : wordT (.un 9 x a) 6 = wordT a 6 := by
  apply Nat.eq_of_testBit_eq
  intro i
  rw [word_bit _ ok, word_bit _ ok.2]
  simp [frT]
theorem andn_bits : ∀ (k i : Fin 6), (63 ^^^ 2 ^ k.1).testBit i.1 = !decide (k.1 = i.1) := by decide +kernel
theorem word_q {op : Int} {k : Nat} {a : Tr} (ok : (Tr.un op k a).ok) (h12 : 12 ≤ op) (hk : k < 6) : wordT (.un op k a) 6 = andn (wordT a 6) (2 ^ k) := by
  apply Nat.eq_of_testBit_eq
  intro i
  unfold andn
  rw [Nat.testBit_and]
  by_cases hi : i < 6
  · rw [word_bit _ ok, word_bit _ ok.2, andn_bits ⟨k, hk⟩ ⟨i, hi⟩]
    simp only [frT, if_pos h12]
    rw [Bool.and_comm]
    congr 1
    rw [Bool.eq_iff_iff]
    simp
    omega
  · have h : ∀ n, n < 64 → n.testBit i = false := fun n hn => Nat.testBit_lt_two_pow (Nat.lt_of_lt_of_le hn (by
      calc (64 : Nat) = 2 ^ 6 := rfl
        _ ≤ 2 ^ i := Nat.pow_le_pow_right (by omega) (by omega)))
    rw [h _ (wordT_lt64 _ ok), h _ (wordT_lt64 _ ok.2)]; rfl

theorem text_not (a : Tr) : (Tr.un 9 0 a).text = [40, 110, 111, 116, 32] ++ a.text ++ [41] := by
  show fmtNode ⟨9, 0, 0, 0, 0⟩ [a.text] = _
  rw [fmtNode_eq, occ0 rfl]
  simp [show nm 9 = [110, 111, 116] from rfl]
theorem text_bin (op : Int) (a b : Tr) (ok : (Tr.bin op a b).ok) : (Tr.bin op a b).text = ([40] ++ nm op ++ [32]) ++ a.text ++ [32] ++ b.text ++ [41] := by
  show fmtNode ⟨op, 0, 0, 0, 0⟩ [a.text, b.text] = _
  rw [fmtNode_eq, occ0 (nv_of_nc2 op ok.1).1]
  simp
theorem text_q (op x : Int) (a : Tr) (h : nv op = 1) : (Tr.un op x a).text = ([40] ++ nm op ++ [32]) ++ varB x ++ [32] ++ a.text ++ [41] := by
  show fmtNode ⟨op, x, 0, 0, 0⟩ [a.text] = _
  rw [fmtNode_eq, occ1 h]
  simp
end Go.Proofs.YtbggpiednddheaaDoor

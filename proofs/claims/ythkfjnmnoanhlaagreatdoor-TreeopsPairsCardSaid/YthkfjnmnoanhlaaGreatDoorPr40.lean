/- Part 40 of the proof; it says: lemmas and contracts. No conditions but those that each theorem states. -/
import Derived.Test.YthkfjnmnoanhlaaGreatDoorPr01
import Derived.Test.YthkfjnmnoanhlaaGreatDoorPr17
import Derived.Test.YthkfjnmnoanhlaaGreatDoorPr18
import Derived.Test.YthkfjnmnoanhlaaGreatDoorPr24
import Derived.Test.YthkfjnmnoanhlaaGreatDoorPr28
import Derived.Test.YthkfjnmnoanhlaaGreatDoorPr31
import Derived.Test.YthkfjnmnoanhlaaGreatDoorPr35
import Derived.Test.YthkfjnmnoanhlaaGreatDoorPr38
import Derived.Test.YthkfjnmnoanhlaaGreatDoorPr39
set_option linter.unusedSimpArgs false
set_option linter.unusedVariables false
namespace Go.Proofs.YthkfjnmnoanhlaaGreatDoor
open Go.RowKit
theorem zd2:zeroR.Low:=⟨by simp [zeroR],fun x hx => by simp [zeroR] at hx,fun x hx => by simp [zeroR] at hx,by simp [zeroR]⟩
theorem zlq (r:Raw):(fewR r).Low:=by
 have h:=zi6 r
 exact ⟨h.1,fun x hx => (h.2.2 x hx).1,fun x hx y hy => (h.2.2 x hx).2 y hy,h.2.1⟩
theorem zdc (ra rb:Raw) (g:Bool -> Bool -> Bool):(opAny ra rb g).1.Low:=by
 unfold opAny
 split
 ·exact zd2
 ·rename_i h0
  split
  ·exact zd2
  ·rename_i h1
   split
   ·exact zd2
   ·rename_i h2
    obtain ⟨V,hV,hd,_⟩:=Raw.check_dta (show ra.check = 0 by omega)
    obtain ⟨V',hV',hd',_⟩:=Raw.check_dta (show rb.check = 0 by omega)
    have:V' = V:=by omega
    subst this
    unfold opR
    split
    ·rename_i h3
     rw [hV,Int.toNat_natCast]
     exact (zec hd hd' g h3).low
    ·exact zd2
theorem zl7 {d:Dta} (h:d.OK):(zas d).1.length <= 31:=by
 unfold zas
 split
 ·simp
 ·cases hs:zb2 d.mini with
  | none => simp
  | some t =>
   obtain ⟨k,hk,h1,_⟩:=zdq hs
   have:=(ze2 (Dta.mini_ok h) h1).1
   simp only [Bt.enc_len]; omega
theorem zm5 (r:Raw):(smAny r).1.length <= 31:=by
 unfold smAny
 split
 ·simp
 ·rename_i h0
  obtain ⟨V,hV,hd,_⟩:=Raw.check_dta (show r.check = 0 by omega)
  exact zl7 hd.ok
theorem RetSm.openO {w:World} {R:List Lf × Bool × Nat} {e:Ending} {w':World} (h:RetSm w R e w'):∃ A c,e = .returned (.tuple #[.slice A R.1.length c,.bool R.2.1,.int .i64 ((R.2.2:Nat):Int)]) /\ Below w.heap.size w w' /\ TO w' w.heap.size (.slice A R.1.length c) R.1:=by
 obtain ⟨v,rfl,hb,ht⟩:=h
 obtain ⟨A,c,rfl⟩:=TS.form (show TS w' v R.1 from ht.ts)
 exact ⟨A,c,rfl,hb,ht⟩
theorem RetR.openO {w:World} {r:Raw} {k:Nat} {e:Ending} {w':World} (h:RetR w r k e w'):∃ A c Af cf,e = .returned (.tuple #[.agg #[.int .i64 r.vars,.int .i64 r.empty,.slice A r.next.length c,.slice Af r.fin.length cf],.int .i64 (k:Int)]) /\ Below w.heap.size w w' /\ TDO w' w.heap.size (.agg #[.int .i64 r.vars,.int .i64 r.empty,.slice A r.next.length c,.slice Af r.fin.length cf]) r:=by
 obtain ⟨A,c,Af,cf,rfl,hb,ht⟩:=h.unfold
 exact ⟨A,c,Af,cf,rfl,hb,ht⟩
end Go.Proofs.YthkfjnmnoanhlaaGreatDoor

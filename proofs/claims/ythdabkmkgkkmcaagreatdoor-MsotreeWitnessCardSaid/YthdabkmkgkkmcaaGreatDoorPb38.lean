/- Part 38 of the proof; it says: lemmas and contracts. No conditions but those that each theorem states. -/
import Derived.Shelf.Strings.BuilderK
import Derived.Test.YthdabkmkgkkmcaaGreatDoorShelf
import Derived.Laws.EntriesVeiled
import Derived.Test.YthdabkmkgkkmcaaGreatDoorPb01
import Derived.Test.YthdabkmkgkkmcaaGreatDoorPb03
import Derived.Test.YthdabkmkgkkmcaaGreatDoorPb16
set_option linter.unusedSimpArgs false
set_option linter.unusedVariables false
set_option maxRecDepth 100000
set_option maxHeartbeats 32000000
namespace Go.Proofs.YthdabkmkgkkmcaaGreatDoor
open Go.RowKit Go.Shelf
def ren166:Go.Shelf.Ren:=⟨fun | 166 => 122 | 240 => 151 | 276 => 168 | n => n,fun | 0 => 0 | 3 => 3 | 4 => 4 | 9 => 9 | 20 => 20 | 37 => 95 | 70 => 178 | 72 => 180 | 75 => 182 | 80 => 186 | 164 => 224 | 5 => 5 | n => n,fun | n => n⟩
theorem lays166:Go.Proofs.Lays.n166 Tryz.prog ren166:={
 mixed:=by kernel_rfl
 f166:=Tryz.func122.trans (congrArg some (by kernel_rfl))
 f240:=Tryz.func151.trans (congrArg some (by kernel_rfl))
 f276:=Tryz.func168.trans (congrArg some (by kernel_rfl))
 t0:=Tryz.underlying0
 a0:=Tryz.isAgg0
 z0:=Tryz.sizeOf0
 v0:=Tryz.zeroValue0
 t3:=Tryz.underlying3
 a3:=Tryz.isAgg3
 z3:=Tryz.sizeOf3
 v3:=Tryz.zeroValue3
 t4:=Tryz.underlying4
 a4:=Tryz.isAgg4
 z4:=Tryz.sizeOf4
 v4:=Tryz.zeroValue4
 t9:=Tryz.underlying9
 a9:=Tryz.isAgg9
 z9:=Tryz.sizeOf9
 v9:=Tryz.zeroValue9
 t20:=Tryz.underlying20
 a20:=Tryz.isAgg20
 z20:=Tryz.sizeOf20
 v20:=Tryz.zeroValue20
 t37:=Tryz.underlying95
 a37:=Tryz.isAgg95
 z37:=Tryz.sizeOf95
 v37:=Tryz.zeroValue95
 t70:=Tryz.underlying178
 a70:=Tryz.isAgg178
 z70:=Tryz.sizeOf178
 v70:=Tryz.zeroValue178
 t72:=Tryz.underlying180
 a72:=Tryz.isAgg180
 z72:=Tryz.sizeOf180
 v72:=Tryz.zeroValue180
 t75:=Tryz.underlying182
 a75:=Tryz.isAgg182
 z75:=Tryz.sizeOf182
 v75:=Tryz.zeroValue182
 t164:=Tryz.underlying224
 a164:=Tryz.isAgg224
 z164:=Tryz.sizeOf224
 v164:=Tryz.zeroValue224 }
theorem zrr:Builder.Extra Tryz.prog ren166:={
 sizeBuilder:=by kernel_rfl
 liesBuilder:=by kernel_rfl
 t5:=Tryz.underlying5
 a5:=Tryz.isAgg5
 z5:=Tryz.sizeOf5
 v5:=Tryz.zeroValue5
 infoByte:=by kernel_rfl
 cellsByte:=by kernel_rfl
 sizeByte:=by kernel_rfl
 neB5:=by decide }
theorem zqa (B b:Nat) (bs:List Value) (s:ByteArray) (w:World) (h:Lib.IsBuilderF 180 5 B b bs w) (hlen:bs.length + s.size <= 140737488355328) (hBw:B <= w.heap.size) :
  Calls Tryz.prog 122 #[.pointer (some ⟨b,0,none⟩),.string s] w fun e w' => e = .returned (.tuple #[.int .i64 s.size,.nilIface]) /\ (Lib.BuilderAtF 180 5 B b (.pointer (some ⟨b,0,none⟩)) (bs ++ Lib.strCells s) w' /\ Below B w w' /\ Lib.OthersKept 5 (some b) w w') :=
 Any.Builder_WriteString_k lays166 zrr B b bs s w h hlen hBw
theorem zp3 (a b:List UInt8):Lib.byteCells a ++ Lib.strCells ⟨b.toArray⟩ = Lib.byteCells (a ++ b):=by
 simp [Lib.byteCells,Lib.strCells]
theorem zp2 (a:List UInt8):(Lib.byteCells a).length = a.length:=by simp [Lib.byteCells]
open Go.RowKit
def highT (t:List Lf):Bool:=t.any fun m => decide (7 < m.label)
theorem zpl (lb l r:Int) (w:World) (h0:0 <= lb) :
  Calls Tryz.prog 120 #[.agg #[.int .u8 lb,.int .i64 l,.int .i64 r]] w fun e w' => e = .returned (.bool (decide (7 < lb))) /\ Below w.heap.size w w':=by
 by_cases h:7 < lb
 ·go_enter Tryz.func120,Tryz.ntmps120
  go_wp2
  go_returns
  exact ⟨by simp [h],by go_grown⟩
 ·go_enter Tryz.func120,Tryz.ntmps120
  go_wp2
  go_returns
  exact ⟨by simp [h],by go_grown⟩
def IdxP (w:World) (t:List Lf) (e:Ending) (w':World):Prop:=∃ R:Int,e = .returned (.int .i64 R) /\ decide (0 <= R) = highT t /\ Below w.heap.size w w'
theorem zrn (t:List Lf) (v:Value) (w:World) (hv:TS w v t) :
  Calls Tryz.prog 150 #[v,.func (.func 120) #[] #[]] w (IdxP w t):=by
 have HV:=zh hv
 obtain ⟨hop,A,c,rfl,hc1,hc2,hcell⟩:=hv
 obtain ⟨n,hn⟩:=zx t.length
 rw [<- hn] at hc1 hcell HV ⊢
 have HN:=zh hn; have HC:=zh hcell; have HOP:=zh hop
 clear hn hcell hop
 go_enter Tryz.func150,Tryz.ntmps150
 go_wp2
 go_loopg [8] n (fun gk q wr => ∃ k:Nat,k <= n /\ gk = n - k /\ q = .int .i64 k /\ Below w.heap.size w wr /\ highT (t.take k) = false)
 case atStart => exact ⟨0,Nat.zero_le _,rfl,rfl,Below.refl _ _,rfl⟩
 case round =>
  obtain ⟨k,hk,rfl,rfl,hbe,hacc⟩:=hrel
  have HB:=zh hbe; have HA:=zh hacc; clear hbe hacc
  by_cases hlt:k < n
  ·obtain ⟨x,hx⟩:∃ x,t[k]? = some x:=⟨t[k]'(by rw [<- HN.out]; exact hlt),List.getElem?_eq_getElem _⟩
   obtain ⟨b,o,rfl,hb,hcell⟩:=HC.out (by omega)
   obtain ⟨c0,c1,c2⟩:=hcell k x hx
   rw [<- HB.out.cell (p:=⟨b,_,none⟩) hb] at c0 c1 c2
   have hb':b < wr.heap.size:=by have:=HB.out.size; omega
   obtain ⟨l1,l2⟩:=HOP.out x (List.mem_of_getElem? hx)
   have hsn:=zi3 (fun m:Lf => decide (7 < m.label)) hx
   have hat:=zqf (fun m:Lf => decide (7 < m.label)) hx
   have HS:=zh hsn; have HAT:=zh hat
   clear hcell hx hsn hat
   obtain ⟨lb,l,r⟩:=x
   simp only at c0 c1 c2 HS HAT l1 l2
   by_cases h7:7 < lb
   ·have e7:decide (7 < lb) = true:=by simp [h7]
    have HH:=zh (fun W => zpl lb l r W l1)
    rw [e7] at HH
    have HAT2:=zh (HAT.out e7)
    clear e7 HAT HS h7
    go_wp2_with (go_at_call 120; go_must (refine (HH.out _).mono ?_; rintro e w2 ⟨rfl,hb2⟩; replace HB:=zh (HB.out.trans (hb2.mono HB.out.size)); clear hb2))
    go_returns
    exact ⟨k,rfl,by rw [show highT t = true from HAT2.out]; simp,HB.out⟩
   ·have e7:decide (7 < lb) = false:=by simp [h7]
    have HH:=zh (fun W => zpl lb l r W l1)
    rw [e7] at HH
    rw [e7,show (t.take k).any _ = false from HA.out] at HS
    clear e7 HAT h7 HA
    go_wp2_with (go_at_call 120; go_must (refine (HH.out _).mono ?_; rintro e w2 ⟨rfl,hb2⟩; replace HB:=zh (HB.out.trans (hb2.mono HB.out.size)); clear hb2))
    go_roundg (n - (k + 1))
    case rel => exact ⟨k + 1,by omega,rfl,by go_num,HB.out,HS.out⟩
    case measure => omega
  ·have hkn:k = n:=by omega
   have hall:highT t = false:=by
    have:=HA.out
    rw [hkn,List.take_of_length_le (by rw [<- HN.out]; exact zn)] at this
    exact this
   have HH:=zh hall
   clear hall hkn
   go_wp2
   go_returns
   exact ⟨-1,rfl,by rw [HH.out]; rfl,HB.out⟩
theorem zro (t:List Lf) (v:Value) (w:World) (hv:TS w v t) :
  Calls Tryz.prog 119 #[v,.func (.func 120) #[] #[]] w fun e w' => e = .returned (.bool (highT t)) /\ Below w.heap.size w w':=by
 have HI:=zh (zrn t v w hv)
 go_enter Tryz.func119,Tryz.ntmps119
 go_wp2_with (go_at_call 150; go_must (refine HI.out.mono ?_; rintro e w2 ⟨R,rfl,hR,hb2⟩; have HR:=zh hR; clear hR))
 go_returns
 exact ⟨zld HR.out.symm,hb2⟩
abbrev wrF (bb tb wb:Nat):Value:=.func (.func 121) #[] #[.pointer (some ⟨bb,0,none⟩),.pointer (some ⟨tb,0,none⟩),.pointer (some ⟨wb,0,none⟩)]
structure FS (w0:World) (B bb tb wb:Nat) (v:Value) (acc:List UInt8) (W:World):Prop where
 below:Below B w0 W
 bld:Lib.IsBuilderF 180 5 B bb (Lib.byteCells acc) W
 tr:Row W tb 44 #[v]
 fn:Row W wb 127 #[wrF bb tb wb]
theorem FS.bb_ne {w0 W:World} {B bb tb wb:Nat} {v:Value} {acc:List UInt8} (h:FS w0 B bb tb wb v acc W):tb ≠ bb /\ wb ≠ bb:=by
 obtain ⟨u,p,hu⟩:∃ u p,W.heap[bb]? = some (.cells #[p,u] 180 (0,0)):=by
  rcases h.bld with ⟨_,u,hu,_⟩ | ⟨_,u,hu,_⟩ <;> exact ⟨u,_,hu⟩
 refine ⟨fun e => ?_,fun e => ?_⟩
 ·have:=h.tr; unfold Row at this; rw [e,hu] at this
  simp only [Option.some.injEq,Obj.cells.injEq] at this
  exact absurd this.2.1 (by decide)
 ·have:=h.fn; unfold Row at this; rw [e,hu] at this
  simp only [Option.some.injEq,Obj.cells.injEq] at this
  exact absurd this.2.1 (by decide)
theorem FS.wrote {w0 W W':World} {B bb tb wb:Nat} {v:Value} {acc l:List UInt8} (h:FS w0 B bb tb wb v acc W)
  (h1:Lib.BuilderAtF 180 5 B bb (.pointer (some ⟨bb,0,none⟩)) (Lib.byteCells acc ++ Lib.strCells ⟨l.toArray⟩) W') (h2:Below B W W') (h3:Lib.OthersKept 5 (some bb) W W'):FS w0 B bb tb wb v (acc ++ l) W':=by
 obtain ⟨n1,n2⟩:=h.bb_ne
 rw [zp3] at h1
 refine ⟨h.below.trans h2,.inr h1,h3 _ _ h.tr (by simpa using n1) (fun c fz e => ?_),h3 _ _ h.fn (by simpa using n2) (fun c fz e => ?_)⟩
 ·simp only [Obj.cells.injEq] at e; exact absurd e.2.1 (by decide)
 ·simp only [Obj.cells.injEq] at e; exact absurd e.2.1 (by decide)
theorem FS.drew {w0 W:World} {B bb tb wb:Nat} {v:Value} {acc:List UInt8} (h:FS w0 B bb tb wb v acc W):FS w0 B bb tb wb v acc W.drew :=
 ⟨h.below.drew,h.bld,h.tr,h.fn⟩
theorem FS.cells {w0 W:World} {B bb tb wb:Nat} {v:Value} {acc:List UInt8} (h:FS w0 B bb tb wb v acc W):W.cell? ⟨tb,0,none⟩ = some v /\ W.cell? ⟨wb,0,none⟩ = some (wrF bb tb wb):=⟨h.tr.cell 0,h.fn.cell 0⟩
def FSPost (w0:World) (B bb tb wb:Nat) (v:Value) (acc:List UInt8) (e:Ending) (W':World):Prop:=e = .returned (.tuple #[]) /\ FS w0 B bb tb wb v acc W' /\ B <= W'.heap.size
theorem zlp {w0 W:World} {B bb tb wb:Nat} {v:Value} {acc:List UInt8} (l:List UInt8) (h:FS w0 B bb tb wb v acc W) (hB:B <= w0.heap.size + 10) (hBW:B <= W.heap.size) (hl:acc.length + l.length <= 100000) :
  Calls Tryz.prog 122 #[.pointer (some ⟨bb,0,none⟩),.string ⟨l.toArray⟩] W fun e w' => e = .returned (.tuple #[.int .i64 l.length,.nilIface]) /\ FS w0 B bb tb wb v (acc ++ l) w' /\ Below B W w':=by
 have hs:(⟨l.toArray⟩:ByteArray).size = l.length:=by simp [ByteArray.size]
 refine (zqa B bb _ ⟨l.toArray⟩ W h.bld (by rw [zp2,hs]; omega) hBW).mono ?_
 rintro e w' ⟨rfl,h1,h2,h3⟩
 exact ⟨by rw [hs],h.wrote h1 h2 h3,h2⟩
theorem zrv {k:Nat} (h:k < 8):Lib.decDigits k = [digB k]:=by
 rw [Lib.decDigits_one (by omega)]; rfl
theorem znn (w0:World) (t:List Lf) (v:Value) (hv:TS w0 v t) (B bb tb wb:Nat) (hB0:w0.heap.size <= B) (hB10:B <= w0.heap.size + 10) (hl:t.length <= 31):∀ (b:Bt) (p:Nat) (acc:List UInt8) (W:World),b.low -> Seg t p b -> p + b.size <= t.length -> acc.length + b.text.length <= 10000 -> B <= W.heap.size ->
  FS w0 B bb tb wb v acc W -> Calls Tryz.prog 121 #[.int .i64 (b.at p),.pointer (some ⟨bb,0,none⟩),.pointer (some ⟨tb,0,none⟩),.pointer (some ⟨wb,0,none⟩)] W (FSPost w0 B bb tb wb v (acc ++ b.text)):=by
 intro b
 induction b with
 | nil =>
  intro p acc W _ _ _ hlen hBW hs
  have HS:=zh hs; clear hs
  have HW:=zh (zlp (v:=v) [45] HS.out hB10 hBW (by simp [Bt.text] at hlen ⊢; omega))
  show Calls _ _ #[.int .i64 (-1),_,_,_] _ _
  go_enter Tryz.func121,Tryz.ntmps121
  go_wp2_with (go_at_call 122; go_must (refine HW.out.mono ?_; rintro e w2 ⟨rfl,hs2,hb2⟩; have HS2:=zh hs2; clear hs2))
  go_end0
  exact ⟨rfl,HS2.out,Nat.le_trans hBW hb2.size⟩
 | node lab l r ihl ihr =>
  intro p acc W hlow hseg hp hlen hBW hs
  have hroot:=hseg.root
  have hat:(Bt.node lab l r).at p = (p:Int):=by unfold Bt.at; rw [if_neg (by simp only [Bt.size]; omega)]
  rw [hat]
  simp only [Bt.size] at hp
  have htx:acc ++ (Bt.node lab l r).text = acc ++ [40,digB lab] ++ [32] ++ l.text ++ [32] ++ r.text ++ [41]:=by simp [Bt.text]
  have htl:(Bt.node lab l r).text.length = l.text.length + r.text.length + 5:=by simp [Bt.text]; omega
  obtain ⟨F,hF⟩:=zx (acc ++ [40,digB lab] ++ [32] ++ l.text ++ [32] ++ r.text ++ [41])
  rw [htx,<- hF]
  rw [htl] at hlen
  have IHL:=zh (fun acc W (h1:acc.length + l.text.length <= 10000) (h2:B <= W.heap.size) (h3:FS w0 B bb tb wb v acc W) => ihl (p + 1) acc W hlow.2.2.1 hseg.left (by omega) h1 h2 h3)
  have IHR:=zh (fun acc W (h1:acc.length + r.text.length <= 10000) (h2:B <= W.heap.size) (h3:FS w0 B bb tb wb v acc W) => ihr (p + 1 + l.size) acc W hlow.2.2.2 hseg.right (by omega) h1 h2 h3)
  obtain ⟨k,hk⟩:∃ k:Nat,lab = k:=⟨lab.toNat,by have:=hlow.1; omega⟩
  have hk8:k < 8:=by have:=hlow.2.1; omega
  obtain ⟨cl,hcl⟩:=zx (l.at (p + 1))
  obtain ⟨cr,hcr⟩:=zx (r.at (p + 1 + l.size))
  rw [<- hcl] at IHL hroot
  rw [<- hcr] at IHR hroot
  obtain ⟨tl,htl2⟩:=zx l.text
  obtain ⟨tr,htr2⟩:=zx r.text
  rw [<- htl2] at IHL hlen hF
  rw [<- htr2] at IHR hlen hF
  have hIT:=fun W => (Tryz.strconv_Itoa_small k (by omega) W).mono (R':=fun e w' => e = .returned (.string ⟨#[digB k]⟩) /\ W = w') (by rintro e w' ⟨rfl,rfl⟩; exact ⟨by rw [zrv hk8],rfl⟩)
  have HV:=zh hv
  obtain ⟨_,A,c,rfl,hc1,hc2,hcell⟩:=hv
  obtain ⟨bk,o,rfl,hbk,hcell⟩:=hcell (by omega)
  obtain ⟨c0,c1,c2⟩:=hcell p _ hroot
  simp only at c0 c1 c2
  obtain ⟨n,hn⟩:=zx t.length
  rw [<- hn] at hc1 hp hl HV IHL IHR hs ⊢
  have HCL:=zh (fun acc W (h:FS w0 B bb tb wb (.slice (some ⟨bk,o,none⟩) n c) acc W) => (show W.cell? ⟨tb,0,none⟩ = some (.slice (some ⟨bk,o,none⟩) n c) /\ W.cell? ⟨wb,0,none⟩ = some (wrF bb tb wb) /\ W.cell? ⟨bk,o + p * 3,none⟩ = some (.int .u8 lab) /\ W.cell? ⟨bk,o + p * 3 + 1,none⟩ = some (.int .i64 cl) /\ W.cell? ⟨bk,o + p * 3 + 2,none⟩ = some (.int .i64 cr) from
   ⟨h.cells.1,h.cells.2,(h.below.cell (p:=⟨bk,_,none⟩) (by show bk < B; omega)).trans c0,(h.below.cell (p:=⟨bk,_,none⟩) (by show bk < B; omega)).trans c1,(h.below.cell (p:=⟨bk,_,none⟩) (by show bk < B; omega)).trans c2⟩))
  have HIT:=zh hIT
  have HWR:=zh (fun acc W (s:List UInt8) (h:FS w0 B bb tb wb (.slice (some ⟨bk,o,none⟩) n c) acc W) (hBW:B <= W.heap.size) (h2:acc.length + s.length <= 100000) => zlp s h hB10 hBW h2)
  have HS:=zh hs
  obtain ⟨f1,f2,f3,f4,f5⟩:=HCL.out _ _ hs
  clear hs hcell c0 c1 c2 hroot htx htl hat ihl ihr hseg hlow hcl hcr htl2 htr2 hn hIT
  subst hk
  have hpn:p < n:=by omega
  have hp1:((p:Int) == -1) = false:=by rw [beq_eq_false_iff_ne]; omega
  have hpi:(p:Int) < n:=by omega
  have HF:=zh hF; clear hF
  have HCAT:Hid (({ data:=#[40] }:ByteArray) ++ { data:=#[digB k] } = ⟨[40,digB k].toArray⟩):=by
   apply ByteArray.ext; simp [ByteArray.data_append]
  go_enter Tryz.func121,Tryz.ntmps121
  go_wp2_with (go_at_call 123; refine (HIT.out _).mono ?_; rintro e w' ⟨rfl,rfl⟩)
  rw [HCAT.out]
  (with_reducible refine (HWR.out _ _ [40,digB k] HS.out hBW (by simp only [List.length_cons,List.length_nil]; omega)).mono ?_)
  rintro e W1 ⟨rfl,hs1,hb1⟩
  have HS1:=zh hs1; have hBW1:B <= W1.heap.size:=Nat.le_trans hBW hb1.size
  have hBW1d:B <= W1.drew.heap.size:=hBW1
  clear f1 f2 f3 f4 f5
  obtain ⟨f1,f2,f3,f4,f5⟩:=HCL.out _ _ hs1
  clear hs1 hb1
  have i0:=fun W a b => (zlm W a b).1
  have i1:=fun W a b => (zlm W a b).2
  go_wp2
  first | go_region | fail
  go_wp2
  refine wp_loop_rounds 3 ?_
  rw [rounds_succ]
  go_wp2_with fail
  (with_reducible refine (HWR.out _ _ [32] HS1.out.drew hBW1d (by simp only [List.length_append,List.length_cons,List.length_nil]; omega)).mono ?_)
  rintro e W2 ⟨rfl,hs2,hb2⟩
  have HS2:=zh hs2; have hBW2:B <= W2.heap.size:=Nat.le_trans hBW1 hb2.size
  clear f1 f2 f3 f4 f5
  obtain ⟨f1,f2,f3,f4,f5⟩:=HCL.out _ _ hs2
  clear hs2 hb2
  go_wp2_with fail
  (with_reducible refine (IHL.out _ _ (by simp only [List.length_append,List.length_cons,List.length_nil]; omega) hBW2 HS2.out).mono ?_)
  rintro e W3 ⟨rfl,hs3,hBW3⟩
  have HS3:=zh hs3
  clear f1 f2 f3 f4 f5
  obtain ⟨f1,f2,f3,f4,f5⟩:=HCL.out _ _ hs3
  clear hs3
  go_wp2_with fail
  rw [rounds_succ]
  go_wp2_with fail
  (with_reducible refine (HWR.out _ _ [32] HS3.out hBW3 (by simp only [List.length_append,List.length_cons,List.length_nil]; omega)).mono ?_)
  rintro e W4 ⟨rfl,hs4,hb4⟩
  have HS4:=zh hs4; have hBW4:B <= W4.heap.size:=Nat.le_trans hBW3 hb4.size
  clear f1 f2 f3 f4 f5
  obtain ⟨f1,f2,f3,f4,f5⟩:=HCL.out _ _ hs4
  clear hs4 hb4
  go_wp2_with fail
  (with_reducible refine (IHR.out _ _ (by simp only [List.length_append,List.length_cons,List.length_nil]; omega) hBW4 HS4.out).mono ?_)
  rintro e W5 ⟨rfl,hs5,hBW5⟩
  have HS5:=zh hs5
  clear f1 f2 f3 f4 f5
  obtain ⟨f1,f2,f3,f4,f5⟩:=HCL.out _ _ hs5
  clear hs5
  go_wp2_with fail
  rw [rounds_succ]
  go_wp2_with fail
  (with_reducible refine (HWR.out _ _ [41] HS5.out hBW5 (by simp only [List.length_append,List.length_cons,List.length_nil]; omega)).mono ?_)
  rintro e W6 ⟨rfl,hs6,hb6⟩
  have HS6:=zh hs6
  clear hs6 f1 f2 f3 f4 f5
  go_wp2_with fail
  go_end0
  exact ⟨rfl,by rw [HF.out]; exact HS6.out,Nat.le_trans hBW5 hb6.size⟩
theorem hge (w:World) (o o':Obj):w.heap.size <= ((w.alloc o).alloc o').heap.size:=by simp only [World.size_alloc]; omega
theorem zrq {w:World} {tb:Nat} {v:Value} (h:Row w tb 44 #[v]) :
  FS w w.heap.size w.heap.size tb (w.heap.size + 1) v [] ((w.alloc (.cells #[.pointer none,.slice none 0 0] 180)).alloc (.cells #[wrF w.heap.size tb (w.heap.size + 1)] 127)):=by
 refine ⟨((Below.refl _ _).alloc zn _).alloc (by simp only [World.size_alloc]; omega) _,?_,(h.alloc _).alloc _,zlc _ _ _ _⟩
 rcases Lib.IsBuilderF.of (Lib.fresh_isBuilder 180 5 w) with h | h
 ·exact .inl (h.alloc _)
 ·exact .inr (h.alloc _)
theorem znj (t:List Lf) (v:Value) (w:World) (hv:TS w v t) :
  Calls Tryz.prog 73 #[v] w fun e w' => e = .returned (.tuple #[.string ⟨(zch t).1.toArray⟩,.int .i64 (zch t).2]) /\ Below w.heap.size w w':=by
 have HV:=zh hv
 have HFO:=zh (fun W (hW:TS W v t) => zcg t v W hW)
 have HHI:=zh (fun W (hW:TS W v t) => zro t v W hW)
 obtain ⟨R,hR⟩:=zx (zch t)
 rw [<- hR]
 unfold zch at hR
 rw [show (t.any fun m => decide (7 < m.label)) = highT t from rfl] at hR
 obtain ⟨A,c,hvA⟩:=hv.form
 have hlb:=hv.lb
 have hfit:∀ o:Obj,Below w.heap.size w (w.alloc o):=fun o => (Below.refl _ _).alloc zn _
 by_cases hf:zae t = true
 ·rw [hf] at HFO
  rw [if_neg (by rw [hf]; simp)] at hR
  by_cases hh:highT t = true
  ·rw [hh] at HHI
   rw [if_pos hh] at hR
   clear hf hh hlb
   have HR:=zh hR; clear hR
   subst hvA
   go_enter Tryz.func73,Tryz.ntmps73
   go_wp2_with (first
    | (go_at_call 61; (with_reducible refine (HFO.out _ (HV.out.below (hfit _) zn)).mono ?_); rintro e w1 ⟨rfl,hb1⟩; have HRW:=zh ((Row.new w 44 _).below hb1 (by simp)); have HB:=zh ((hfit _).trans (hb1.mono (by simp))); have f1:_ = some _:=HRW.out.cell 0; clear hb1)
    | (go_at_call 119; (with_reducible refine (HHI.out _ (HV.out.below HB.out zn)).mono ?_); rintro e w2 ⟨rfl,hb2⟩; replace HB:=zh (HB.out.trans (hb2.mono HB.out.size)); clear hb2))
   go_returns
   rw [HR.out]
   exact ⟨rfl,HB.out⟩
  ·have hh':highT t = false:=by simpa using hh
   rw [hh'] at HHI
   rw [if_neg hh] at hR
   obtain ⟨h31,hbs,hseg,_⟩:=zdh hf
   by_cases h0:t.length = 0
   ·have e1:(btOf t).text = [45]:=by rw [Bt.nil_of_size (b:=btOf t) (by omega)]; rfl
    rw [e1] at hR
    have HR:=zh hR
    rw [h0] at hvA
    subst hvA
    clear hR hf hh hh' hlb e1 hbs hseg h31 h0
    go_enter Tryz.func73,Tryz.ntmps73
    go_wp2_with (first
     | (go_at_call 61; (with_reducible refine (HFO.out _ (HV.out.below (hfit _) zn)).mono ?_); rintro e w1 ⟨rfl,hb1⟩; have HRW:=zh ((Row.new w 44 _).below hb1 (by simp)); have HB:=zh ((hfit _).trans (hb1.mono (by simp))); have f1:_ = some _:=HRW.out.cell 0; clear hb1)
     | (go_at_call 119; (with_reducible refine (HHI.out _ (HV.out.below HB.out zn)).mono ?_); rintro e w2 ⟨rfl,hb2⟩; replace HRW:=zh (HRW.out.below hb2 HRW.out.lt); have f2:_ = some _:=HRW.out.cell 0; have f3:=HRW.out.lt; replace HB:=zh (HB.out.trans (hb2.mono HB.out.size)); clear hb2 f1))
    go_returns
    rw [HR.out]
    exact ⟨rfl,by have h1:=HB.out; have h2:=h1.size; go_grown⟩
   ·have hlow:(btOf t).low:=by
     rw [<- low_enc (btOf t) 0,<- (zdh hf).2.2.2]
     intro m hm
     refine ⟨(hlb m hm).1,?_⟩
     by_cases h7:7 < m.label
     ·exact absurd (List.any_eq_true.2 ⟨m,hm,by simp [h7]⟩) hh
     ·omega
    have hat:(btOf t).at 0 = 0:=by unfold Bt.at; rw [if_neg (by omega)]; rfl
    have hwr:=fun (w0:World) (hv0:TS w0 v t) (B bb tb wb:Nat) h1 h2 W h3 h4 => znn w0 t v hv0 B bb tb wb h1 h2 h31 (btOf t) 0 [] W hlow hseg (by omega) (by rw [Bt.text_len]; simp; omega) h3 h4
    rw [hat,List.nil_append] at hwr
    have htl:(btOf t).text.length <= 200:=by rw [Bt.text_len]; omega
    obtain ⟨tx,htx⟩:=zx ((btOf t).text)
    rw [<- htx] at hwr hR htl
    have HWR:=zh hwr
    have HR:=zh hR
    obtain ⟨n,hn⟩:=zx t.length
    rw [<- hn] at hvA h0
    subst hvA
    have hn0:((n:Int) == 0) = false:=by rw [beq_eq_false_iff_ne]; omega
    clear hR hf hh hh' hlb hbs hseg h31 h0 hlow hat hwr htx hn
    go_enter Tryz.func73,Tryz.ntmps73
    go_wp2_with (first
     | (go_at_call 61; (with_reducible refine (HFO.out _ (HV.out.below (hfit _) zn)).mono ?_); rintro e w1 ⟨rfl,hb1⟩; have HRW:=zh ((Row.new w 44 _).below hb1 (by simp)); have HB:=zh ((hfit _).trans (hb1.mono (by simp))); have f1:_ = some _:=HRW.out.cell 0; clear hb1)
     | (go_at_call 119; (with_reducible refine (HHI.out _ (HV.out.below HB.out zn)).mono ?_); rintro e w2 ⟨rfl,hb2⟩; replace HRW:=zh (HRW.out.below hb2 HRW.out.lt); have f2:_ = some _:=HRW.out.cell 0; have f3:=HRW.out.lt; replace HB:=zh (HB.out.trans (hb2.mono HB.out.size)); clear hb2 f1))
    (with_reducible refine (HWR.out w2 (HV.out.below HB.out zn) w2.heap.size w2.heap.size w.heap.size (w2.heap.size + 1) zn (Nat.le_add_right _ _) _ (hge _ _ _) (zrq HRW.out)).mono ?_)
    rintro e w3 ⟨rfl,hfs,hz3⟩
    have HFS:=zh hfs; clear hfs
    have hz2:=HB.out.size
    go_wp2_with (go_at_call 124; (with_reducible refine (Tryz.Builder_String_any_k _ _ tx _ HFS.out.bld hz3).mono ?_); rintro e w4 ⟨rfl,hb4⟩; have HB4:=zh hb4.2.1; clear hb4)
    go_returns
    rw [HR.out]
    exact ⟨rfl,HB.out.trans ((HFS.out.below.trans HB4.out).mono hz2)⟩
 ·have hf':zae t = false:=by simpa using hf
  rw [hf'] at HFO
  rw [if_pos hf'] at hR
  clear hf hf' hlb HHI
  have HR:=zh hR; clear hR
  subst hvA
  go_enter Tryz.func73,Tryz.ntmps73
  go_wp2_with (go_at_call 61; (with_reducible refine (HFO.out _ (HV.out.below (hfit _) zn)).mono ?_); rintro e w1 ⟨rfl,hb1⟩; have HB:=zh ((hfit _).trans (hb1.mono (by simp))); clear hb1)
  go_returns
  rw [HR.out]
  exact ⟨rfl,HB.out⟩
end Go.Proofs.YthdabkmkgkkmcaaGreatDoor

/- Part 29 of the proof; it says: lemmas and contracts. No conditions but those that each theorem states. -/
import Derived.BigRegion
import Derived.Deep.RegionLaw
import Derived.Test.YthkfjnmnoanhlaaGreatDoorMt01
import Derived.Test.YthkfjnmnoanhlaaGreatDoorMt06
import Derived.Test.YthkfjnmnoanhlaaGreatDoorMt09
import Derived.Test.YthkfjnmnoanhlaaGreatDoorMt27
set_option linter.unusedSimpArgs false
set_option linter.unusedVariables false
namespace Go.Proofs.YthkfjnmnoanhlaaGreatDoor
open Go.RowKit
set_option maxRecDepth 100000 in
set_option maxHeartbeats 16000000 in
theorem zmu (d : Dta) (V : Nat) (hd : d.Fit V) (va : Value) (n : Nat) (hn : n <= 31) (w : World) (hva : TD w va (d.raw V)) :
  Calls Tryz.prog 24 #[va, .int .i64 (n : Int)] w fun e w' => e = .returned (.tuple #[.int .u64 ((accN d n % M64 : Nat) : Int), .int .i64 0]) /\ Below w.heap.size w w' := by
 have hck := fun W (h : Below w.heap.size w W) => zbe (d.raw V) va W (hva.below h zn) (by have := hd.n64; exact ⟨by rw [(d.raw_len V).1]; omega, by rw [(d.raw_len V).2]; omega⟩)
 rw [d.raw_check hd] at hck
 obtain ⟨vn, vf, rfl, hnn, hff⟩ := hva
 have hvars : (d.raw V).vars = (V : Int) := rfl
 have hemp : (d.raw V).empty = (d.e : Int) := rfl
 rw [hvars, hemp] at hck ⊢
 obtain ⟨b3, o3, c3, hN⟩ := (show N3 w vn (nx3 d.n d.L d.nx) from hnn).nx hd.pos hd.L8.1
 obtain rfl := hN.form
 obtain ⟨bk, ok, ck, rfl, hk1, hbk, hk2⟩ := (show NB w vf ((List.range d.n).map d.fin) from hff).at hd.pos
 have hacc := zp8 hd.ok n
 have HAC := zh (show accK d n d.n = accN d n from hacc)
 have hL8 := hd.L8.2
 have hn64 := hd.n64
 have hpos := hd.pos
 have hmk := za6 eU d.n (by omega)
 have he := hd.ok.he
 have HCK := zh hck
 have hsh := za5 V hd.v3
 rw [<- hd.L] at hsh
 have hv3i : (V : Int) <= 3 := by have := hd.v3; omega
 have HD := zh hd.ok; have HN3 := zh (fun l r hl hr => hN.row hd.L8.1 (l := l) (r := r) hl hr); have HK2 := zh hk2
 clear hnn hff hvars hemp hN hd hk2 hck hacc
 obtain ⟨N, hNN⟩ := zx d.n
 obtain ⟨L, hLL⟩ := zx d.L
 obtain ⟨E, hE⟩ := zx d.e
 rw [<- hNN, <- hLL] at HN3
 rw [<- hNN] at hn64 hpos hmk he HK2 hk1 HCK HAC
 rw [<- hLL] at hL8 hsh
 rw [<- hE] at he HCK
 rw [<- hNN, <- hE]
 have HNE := zh hNN; have HLE := zh hLL; have HEE := zh hE
 clear hNN hE hLL
 have hm1 : ¬ ((n : Int) < 0) := by omega
 have hm2 : ¬ ((31 : Int) < (n : Int)) := by omega
 go_enter Tryz.func24, Tryz.ntmps24
 go_upto_region 1 with fail
 refine zab (fun W => Below w.heap.size w W /\ Row W w.heap.size 25 #[.int .i64 (V : Int), .int .i64 (E : Int), .slice (some ⟨b3, o3, none⟩) N c3, .slice (some ⟨bk, ok, none⟩) N ck]) ⟨by go_grown, Row.new _ _ _⟩ ?_
 rintro W ⟨hb, hr⟩
 have y0 := hr.cell
 have HB := zh hb; have RD := zh hr
 clear hb hr
 go_upto_region 6 with (go_at_call 52; refine (HCK.out _ HB.out).mono ?_; rintro e w2 ⟨rfl, hb2⟩; have HS := zh (show CnS d w N V E (.slice (some ⟨b3, o3, none⟩) N c3) (.slice (some ⟨bk, ok, none⟩) N ck) (.slice none 0 0) 0 w2 from ⟨HB.out.trans (hb2.mono HB.out.size), RD.out.below hb2 RD.out.lt, CO.nil _ _ _⟩); clear hb2)
 clear y0 HB RD HCK hm1 hm2
 go_wp2
 go_loopg [7, 8] (n + 1) (fun gk q7 q33 wr => ∃ k : Nat, k <= n + 1 /\ gk = n + 1 - k /\ q33 = .int .i64 k /\ CnS d w N V E (.slice (some ⟨b3, o3, none⟩) N c3) (.slice (some ⟨bk, ok, none⟩) N ck) q7 k wr)
 case atStart => exact ⟨0, by omega, by omega, rfl, HS.out⟩
 case round =>
  clear HS
  obtain ⟨k, hk, rfl, rfl, hs⟩ := hrel
  obtain ⟨wl, hwl⟩ := zx wr
  subst hwl
  obtain ⟨vs0, hvs1, hvs2, _⟩ := id hs.co
  obtain ⟨A7, c7, rfl⟩ := VO.formN (n := k) hvs1 hvs2
  clear hvs1 hvs2
  have HS := zh hs
  have y0 := hs.rd.cell
  clear hs
  by_cases hlt : k < n + 1
  ·have hkz : (k : Int) <= (n : Int) := by omega
   go_upto_region 11 with fail
   refine zab (fun X => ∃ gr, gr = wl.heap.size /\ Below wl.heap.size wl X /\ VO 39 X w.heap.size (.slice (some ⟨gr, 0, none⟩) N N) (uL (List.replicate N 0)))
    ⟨_, rfl, by go_grown, by
     have h := VO.lit (E := 39) (w := wl) (n := N) (List.replicate N (.int .u64 0)) (by simp) (by omega) (by intro u hu; rw [List.eq_of_mem_replicate hu]; rfl)
     have e : uL (List.replicate N 0) = List.replicate N (.int .u64 0) := by simp [uL]
     rw [e]
     rw [List.toArray_replicate] at h
     exact h.mono HS.out.below.size⟩ ?_
   rintro X ⟨gr, hgr, hbx, hvo⟩
   rw [<- hgr]
   have hgrw : wl.heap.size <= gr := by omega
   have hgrw2 : w.heap.size <= gr := by have := HS.out.below.size; omega
   have HBX := zh hbx; have HVO := zh hvo
   clear hbx hvo hgr
   by_cases hk0 : k = 0
   ·subst hk0
    obtain ⟨⟨u0, hu0⟩, hf0, _, hg0⟩ := HVO.out.spot (j := E) (by rw [zci]; simp) he
    have y1 := (HS.out.rd.below HBX.out HS.out.rd.lt).cell
    have hEz : (E : Int) < (N : Int) := by omega
    clear y0
    go_upto_region 13 with fail
    refine zab (fun Y => Below wl.heap.size wl Y /\ VO 39 Y w.heap.size (.slice (some ⟨gr, 0, none⟩) N N) (uL (cntR d 0)))
     ⟨HBX.out.setCell (p := ⟨gr, E, none⟩) hgrw _, by
      rw [zi9 d (by rw [<- HEE.out, <- HNE.out]; exact he), <- HNE.out, <- HEE.out, <- zkq]
      exact zbf HVO.out (by rw [zci]; simp) E _ rfl⟩ ?_
    clear HBX HVO hu0 hf0 hg0 y1
    rintro Y ⟨hby, hvo⟩
    have HSY := zh (HS.out.to hby); have HVO := zh hvo
    clear hby hvo HS
    go_wp2
    go_loopg [10] 1 (fun gk q wr => gk = 1 /\ q = .int .i64 0 /\ wr = Y)
    case atStart => exact ⟨rfl, rfl, rfl⟩
    case round =>
     obtain ⟨rfl, rfl, rfl⟩ := hrel
     obtain ⟨vs, hv1, hv2, hv3⟩ := HSY.out.co
     have HV1 := zh hv1; have HV2 := zh hv2; have HV3 := zh hv3
     clear hv1 hv2 hv3
     go_wp2_with (at_builtin; refine zaa eUU rfl (.tmp 116) (.tmp 118) rfl w.heap.size _ _ rfl (VO.allocd HV1.out _) _ [.slice (some ⟨gr, 0, none⟩) N N] rfl (VS.one (Row.new _ _ _)) (by intro u hu; simp at hu; subst hu; rfl) (by rw [HV2.out]; simp) (by simp only [World.size_alloc]; have := HSY.out.below.size; omega) ?_; intro v8 w8 ho8 hg8 _; have HS8 := zh (HSY.out.snoc HV1.out HV2.out HV3.out HVO.out hg8 ho8); clear ho8 hg8)
     go_roundg (n + 1 - 1)
     case rel => exact ⟨1, by omega, by omega, by go_num, HS8.out⟩
     case measure => omega
   ·obtain ⟨j, rfl⟩ : ∃ j, k = j + 1 := ⟨k - 1, by omega⟩
    have hkb : (((j + 1 : Nat) : Int) == 0) = false := by rw [beq_eq_false_iff_ne]; omega
    have HSl := zh (show CnS d w N V E (.slice (some ⟨b3, o3, none⟩) N c3) (.slice (some ⟨bk, ok, none⟩) N ck) (.slice A7 (j + 1) c7) (j + 1) wl from HS.out)
    have HSX := zh (HS.out.to HBX.out)
    have hcast : ((j + 1 : Nat) : Int) = (j : Int) + 1 := by omega
    clear y0 HS hk0
    go_wp2
    go_loopg [10] (j + 1) (fun gk q wr => ∃ i : Nat, i <= j + 1 /\ gk = j + 1 - i /\ q = .int .i64 i /\ Below wl.heap.size wl wr /\ VO 39 wr w.heap.size (.slice (some ⟨gr, 0, none⟩) N N) (uL (cRow N (preT d j i 0 0 0))))
    case atStart => exact ⟨0, by omega, by omega, rfl, HBX.out, by rw [preT_0, zlz]; exact HVO.out⟩
    case round =>
     clear HBX HVO HSX
     obtain ⟨i, hi, rfl, rfl, hbx, hvo⟩ := hrel
     have HBX := zh hbx; have HVO := zh hvo
     have HSX := zh (HSl.out.to hbx)
     clear hbx hvo
     by_cases hlti : i < j + 1
     ·have hiz : (i : Int) < (j : Int) + 1 := by omega
      have hij : i <= j := by omega
      obtain ⟨g7, gI, cI, rfl, hg7, hcI, hcI2, hgI, HCI⟩ := HSl.out.co.at HNE.out hpos hlti
      have hcI0 := hcI
      clear hcI
      have HCI := zh HCI
      obtain ⟨jj, hjj⟩ := zx (j - i)
      have HJJ := zh hjj
      have hkj : (j : Int) - (i : Int) = (jj : Int) := by omega
      obtain ⟨g7', gJ, cJ, he7, _, hcJ, hcJ2, hgJ, HCJ⟩ := HSl.out.co.at HNE.out hpos (show jj < j + 1 by omega)
      simp only [Option.some.injEq, Addr.mk.injEq, and_true] at he7
      subst he7
      have HCJ := zh HCJ; have HcJ := zh hcJ; have HcI := zh (show wl.cell? ⟨g7, i, none⟩ = some (.slice (some ⟨gI, 0, none⟩) N cI) from hcI0)
      have hjjz : (jj : Int) < (j : Int) + 1 := by omega
      clear hjj hcJ hcI0
      go_wp2
      go_loopg [11] N (fun gk q wr => ∃ l : Nat, l <= N /\ gk = N - l /\ q = .int .i64 l /\ Below wl.heap.size wl wr /\ VO 39 wr w.heap.size (.slice (some ⟨gr, 0, none⟩) N N) (uL (cRow N (preT d j i l 0 0))))
      case atStart => exact ⟨0, by omega, rfl, rfl, HBX.out, HVO.out⟩
      case round =>
       clear HBX HVO HSX
       obtain ⟨l, hl, rfl, rfl, hbx, hvo⟩ := hrel
       have HBX := zh hbx; have HVO := zh hvo
       clear hbx hvo
       by_cases hltl : l < N
       ·obtain ⟨P, hP⟩ := zx (d.cnt i l % M64)
        have HP := zh hP
        have y1 := (HSl.out.to HBX.out).rd.cell
        have CIL := zh (show wl.cell? ⟨gI, l, none⟩ = some (.int .u64 (P : Int)) by rw [hP]; exact HCI.out l hltl)
        clear hP
        go_wp2
        clear y1
        go_loopg [12] N (fun gk q wr => ∃ r : Nat, r <= N /\ (P = 0 -> r = 0) /\ gk = N - r /\ q = .int .i64 r /\ Below wl.heap.size wl wr /\ VO 39 wr w.heap.size (.slice (some ⟨gr, 0, none⟩) N N) (uL (cRow N (preT d j i l r 0))))
        case atStart => exact ⟨0, by omega, fun _ => rfl, rfl, rfl, HBX.out, HVO.out⟩
        case round =>
         clear HBX HVO
         obtain ⟨r, hr, hr0, rfl, rfl, hbx, hvo⟩ := hrel
         have HBX := zh hbx; have HVO := zh hvo
         have y1 := (HSl.out.to hbx).rd.cell
         have ci := (hbx.cell (p := ⟨g7, _, none⟩) hg7).trans HcI.out
         have cil := (hbx.cell (p := ⟨gI, _, none⟩) hgI).trans CIL.out
         clear hbx hvo
         by_cases hltr : r < N
         ·have hltri : (r : Int) < (N : Int) := by omega
          by_cases hP0 : P = 0
          ·have hPi : ((P : Int) != 0) = false := by rw [hP0]; rfl
           have hre : r = 0 := hr0 hP0
           have HSK : Hid (cRow N (preT d j i (l + 1) 0 0) = cRow N (preT d j i l r 0)) := by
            unfold Hid
            rw [hre]
            exact zp5 (by rw [<- HP.out]; exact hP0)
           clear hP0 hre hr0
           go_wp2
           go_roundg (N - (l + 1))
           case rel => exact ⟨l + 1, by omega, rfl, by go_num, HBX.out, by rw [HSK.out]; exact HVO.out⟩
           case measure => omega
          have HP0 := zh hP0
          have hPi : ((P : Int) != 0) = true := by rw [bne_iff_ne]; omega
          clear hP0
          obtain ⟨Q, hQ⟩ := zx (d.cnt jj r % M64)
          have HQ := zh hQ
          have CJR := zh (show wl.cell? ⟨gJ, r, none⟩ = some (.int .u64 (Q : Int)) by rw [hQ]; exact HCJ.out r hltr)
          clear hQ hr0
          obtain ⟨e2, f2, k2, e1, f1, k1, h1, h2, h3, h4, h5, h6, h7, h8⟩ := HN3.out l r hltl hltr
          have H8 := zh h8; have H2 := zh h2; have H5 := zh h5
          clear h8 h2 h5
          go_wp2
          clear y1 ci cil
          go_loopg [13] L (fun gk q wr => ∃ x : Nat, x <= L /\ gk = L - x /\ q = .int .i64 x /\ Below wl.heap.size wl wr /\ VO 39 wr w.heap.size (.slice (some ⟨gr, 0, none⟩) N N) (uL (cRow N (preT d j i l r x))))
          case atStart => exact ⟨0, by omega, rfl, rfl, HBX.out, HVO.out⟩
          case round =>
           clear HBX HVO
           obtain ⟨x, hx, rfl, rfl, hbx, hvo⟩ := hrel
           have HBX := zh hbx; have HVO := zh hvo
           have y1 := (HSl.out.to hbx).rd.cell
           clear hbx hvo
           by_cases hltx : x < L
           ·have hltxi : (x : Int) < (L : Int) := by omega
            have hcx := H8.out x hltx
            have hbw := (HSl.out.to HBX.out).below
            have h2 := (hbw.cell (p := ⟨b3, _, none⟩) h1).trans H2.out
            have h5 := (hbw.cell (p := ⟨e2, _, none⟩) h4).trans H5.out
            have ci := (HBX.out.cell (p := ⟨g7, _, none⟩) hg7).trans HcI.out
            have cj := (HBX.out.cell (p := ⟨g7, _, none⟩) hg7).trans HcJ.out
            have cil := (HBX.out.cell (p := ⟨gI, _, none⟩) hgI).trans CIL.out
            have cjr := (HBX.out.cell (p := ⟨gJ, _, none⟩) hgJ).trans CJR.out
            clear hbw
            rw [<- (HSl.out.to HBX.out).below.cell (p := ⟨e1, _, none⟩) h7] at hcx
            have hsl : d.nx l r x < N := by rw [HNE.out]; exact HD.out.hn l r x (by rw [<- HNE.out]; exact hltl) (by rw [<- HNE.out]; exact hltr) (by rw [<- HLE.out]; exact hltx)
            obtain ⟨s, hs⟩ := zx (d.nx l r x)
            rw [<- hs] at hcx hsl
            have HSS := zh hs
            have hsz : (s : Int) < (N : Int) := by omega
            obtain ⟨⟨u0, hu0⟩, hf0, _, hg0⟩ := HVO.out.spot (j := s) (by rw [zci, zbn]) hsl
            obtain ⟨a, ha⟩ := zx (rowC (preT d j i l r x) s % M64)
            have hca : wr.cell? ⟨gr, s, none⟩ = some (.int .u64 (a : Int)) := by
             obtain ⟨g, cap, cs, he, _, _, _, _, hcell⟩ := HVO.out.row (by rw [zci, zbn]; exact hpos)
             simp only [Value.slice.injEq, Option.some.injEq, Addr.mk.injEq, and_true] at he
             have he1 := he.1
             subst he1
             rw [ha]
             exact hcell s _ (uL_at (zh4 _ hsl))
            have HA := zh ha
            have e1' := zeo ((P : Int) * (Q : Int)) (P * Q) (by simp)
            obtain ⟨pq, hpq⟩ := zx (P * Q % M64)
            rw [<- hpq] at e1'
            have e2' := zeo ((a : Int) + (pq : Int)) (a + pq) (by simp)
            obtain ⟨t, ht⟩ := zx ((a + pq) % M64)
            rw [<- ht] at e2'
            have HT : Hid (t = (rowC (preT d j i l r x) s + d.cnt i l * d.cnt (j - i) r) % M64) := by
             unfold Hid
             rw [ht, hpq, HA.out, HP.out, HQ.out, <- HJJ.out, zgf]
            clear hs ha hu0 hpq ht
            go_upto_region 26 with fail
            clear h2 h5 hcx y1
            first
             | go_region
             | fail
            go_wp2
            go_roundg (L - (x + 1))
            case rel =>
             refine ⟨x + 1, by omega, rfl, by go_num, by first | exact HBX.out.drew.setCell (p := ⟨gr, s, none⟩) hgrw _ | exact (HBX.out.setCell (p := ⟨gr, s, none⟩) hgrw _).drew, ?_⟩
             rw [preT_x]
             unfold tX
             rw [<- HSS.out, zjb _ _ hsl, <- HT.out, <- zkq]
             first | exact zbf (VO.below HVO.out (Below.refl wr.heap.size wr).drew zn) (by rw [zci, zbn]) s _ rfl | exact VO.below (zbf HVO.out (by rw [zci, zbn]) s _ rfl) (Below.refl _ _).drew zn
            case measure => omega
           ·have hxe : x = L := by omega
            go_wp2
            go_roundg (N - (r + 1))
            case rel => exact ⟨r + 1, by omega, fun h => absurd h HP0.out, rfl, by go_num, HBX.out, by rw [<- preT_r, <- HLE.out]; have h := HVO.out; rw [hxe] at h; exact h⟩
            case measure => omega
         ·have hre : r = N := by omega
          go_wp2
          go_roundg (N - (l + 1))
          case rel => exact ⟨l + 1, by omega, rfl, by go_num, HBX.out, by
           have hP : preT d j i l N 0 = preT d j i (l + 1) 0 0 := by rw [HNE.out]; exact preT_l d j i l
           rw [<- hP]; have h := HVO.out; rw [hre] at h; exact h⟩
          case measure => omega
       ·have hle : l = N := by omega
        have y1 := (HSl.out.to HBX.out).rd.cell
        go_wp2
        go_roundg (j + 1 - (i + 1))
        case rel => exact ⟨i + 1, by omega, rfl, by go_num, HBX.out, by
         have hP : preT d j i N 0 0 = preT d j (i + 1) 0 0 0 := by rw [HNE.out]; exact preT_i d j i
         rw [<- hP]; have h := HVO.out; rw [hle] at h; exact h⟩
        case measure => omega
     ·have hie : i = j + 1 := by omega
      have hvo := HVO.out
      have hfull : cRow N (preT d j (j + 1) 0 0 0) = cntR d (j + 1) := by rw [HNE.out]; exact zjc HD.out j
      rw [hie, hfull] at hvo
      have HVF := zh hvo
      obtain ⟨vs, hv1, hv2, hv3⟩ := HSX.out.co
      have HV1 := zh hv1; have HV2 := zh hv2; have HV3 := zh hv3
      clear hv1 hv2 hv3 hvo hfull
      go_wp2_with (at_builtin; refine zaa eUU rfl (.tmp 116) (.tmp 118) rfl w.heap.size _ _ rfl (VO.allocd HV1.out _) _ [.slice (some ⟨gr, 0, none⟩) N N] rfl (VS.one (Row.new _ _ _)) (by intro u hu; simp at hu; subst hu; rfl) (by rw [HV2.out]; simp; omega) (by simp only [World.size_alloc]; have := HSX.out.below.size; omega) ?_; intro v8 w8 ho8 hg8 _; have HS8 := zh (HSX.out.snoc HV1.out HV2.out HV3.out HVF.out hg8 ho8); clear ho8 hg8)
      go_roundg (n + 1 - (j + 1 + 1))
      case rel => exact ⟨j + 1 + 1, by omega, by omega, by go_num, HS8.out⟩
      case measure => omega
  ·have hke : k = n + 1 := by omega
   have HS2 := zh (show CnS d w N V E (.slice (some ⟨b3, o3, none⟩) N c3) (.slice (some ⟨bk, ok, none⟩) N ck) (.slice A7 k c7) k wl from HS.out)
   go_wp2
   clear y0
   go_loopg [15, 16] N (fun gk q17 q107 wr => ∃ s : Nat, s <= N /\ gk = N - s /\ q107 = .int .i64 s /\ q17 = .int .u64 ((accK d n s % M64 : Nat) : Int) /\ wr = wl)
   case atStart => exact ⟨0, by omega, rfl, rfl, rfl, rfl⟩
   case round =>
    obtain ⟨s, hs, rfl, rfl, rfl, rfl⟩ := hrel
    by_cases hlts : s < N
    ·have cf := HK2.out s hlts
     rw [<- HS2.out.below.cell (p := ⟨bk, _, none⟩) hbk] at cf
     have y1 := HS2.out.rd.cell
     obtain ⟨g7, gI, cI, rfl, hg7, hcI, hcI2, hgI, hCI⟩ := HS2.out.co.at HNE.out hpos (show n < k by omega)
     have c0 := hCI s hlts
     obtain ⟨P, hP⟩ := zx (d.cnt n s % M64)
     have HP := zh hP
     rw [<- hP] at c0
     obtain ⟨A, hA⟩ := zx (accK d n s % M64)
     have HA := zh hA
     rw [<- hA]
     obtain ⟨q, hq⟩ := zx (d.fin s)
     have HQ := zh hq
     rw [<- hq] at cf
     have hnk : n < k := by omega
     have hnk2 : (n : Int) < (k : Int) := by omega
     have e1' := zeo ((A : Int) + (P : Int)) (A + P) (by simp)
     obtain ⟨t, ht⟩ := zx ((A + P) % M64)
     rw [<- ht] at e1'
     have HT : Hid (t = (accK d n s + d.cnt n s) % M64) := by unfold Hid; rw [ht, HA.out, HP.out, <- Nat.add_mod]
     clear hP hA hq hCI ht
     cases q with
     | true =>
      go_wp2
      go_roundg (N - (s + 1))
      case rel => exact ⟨s + 1, by omega, rfl, by go_num, by rw [zem, <- HQ.out, if_pos rfl, <- HT.out], rfl⟩
      case measure => omega
     | false =>
      go_wp2
      go_roundg (N - (s + 1))
      case rel => exact ⟨s + 1, by omega, rfl, by go_num, by rw [zem, <- HQ.out, if_neg (by simp), Nat.add_zero, <- HA.out], rfl⟩
      case measure => omega
    ·have hse : s = N := by omega
     have y1 := HS2.out.rd.cell
     have hR : Hid (accK d n s % M64 = accN d n % M64) := by
      unfold Hid
      rw [hse, HAC.out]
     go_wp2
     go_returns
     exact ⟨by rw [<- hR.out]; rfl, HS2.out.below⟩
end Go.Proofs.YthkfjnmnoanhlaaGreatDoor

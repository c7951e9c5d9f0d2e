/- Part 32 of the proof; it says: lemmas and contracts. No conditions but those that each theorem states. -/
import Derived.BigGuard
import Derived.Test.YthkfjnmnoanhlaaGreatDoorPr01
import Derived.Test.YthkfjnmnoanhlaaGreatDoorPr04
import Derived.Test.YthkfjnmnoanhlaaGreatDoorPr31
set_option linter.unusedSimpArgs false
set_option linter.unusedVariables false
namespace Go.Proofs.YthkfjnmnoanhlaaGreatDoor
open Go.RowKit
def kindG:Nat -> Bool -> Bool -> Bool
 | 0,p,q => p && q
 | 1,p,q => p || q
 | _,p,q => p && !q
set_option maxRecDepth 100000 in
set_option maxHeartbeats 16000000 in
theorem zqi (c:Code) (hc:regF Tryz.f79 46 = some c) (K:Nat) (hK:K < 3) (fa fb:Bool) (gD B n:Nat) (l:List Bool) (hl:(bL l).length = n) (hn:n <= 1000) (Af:Option Addr) (cf:Nat) (V0 V1 vN:Value) (Y:World)
  (hrow:Row Y gD 25 #[V0,V1,vN,.slice Af n cf]) (hvo:VO 4 Y B (.slice Af n cf) (bL l)) (hB:B <= Y.heap.size) (Q:Exit -> Act -> World -> Prop)
  (u0 u1 u3 u4 u5 u6 u7 u8 u9 u10 u11 u12 u13 u14 u15 u16 u17 u19 u20 u21 u22 u23 u24 u25 u28 u29 u30 u31 u32 u33 u34 u35 u36 u37 u38 u39 u40 u41 u42 u43 u44 u45 u46 u47 u48 u49 u50 u51 u52 u53 u54 u55 u56 u57 u58 u59 u60 u61 u62 u63 u64 u65 u66 u67 u68 u69 u70 u71 u72 u73 u74 u75 u76 u77 u78 u79 u80 u81 u82 u83 u84 u85 u86 u87 u88 u89 u90 u91 u92 u93 u94 u95 u96 u97 u98 u99 u100 u101 u102 u103 u104 u105 u106 u107 u108 u109 u110 u111 u112 u113 u114 u115 u116 u117 u118 u119 u120 u121 u122 u123 u124 u125 u126 u127 u128 u129 u130 u131 u132 u133 u134 u135 u136 u137 u138 u139 u140 u141 u142 u143 u144 u145 u146 u147 u148 u149 u150 u151 u152 u153 u154 u155 u156 u157 u158 u159 u160 u161 u162 u163 u164 u165 u166 u167 u168 u169 u170 u171 u172 u173 u174 u175 u176 u177 u178 u179 u180 u181 u182 u183 u184 u185 u186 u187 u188 u189 u190 u191 u192 u193 u194 u195 u196 u197 u198 u199 u200 u201 u202 u203 u204 u205 u206 u207 u208 u209 u210 u211 u212 u213 u214 u215 u216 u217 u218 u219 u220 u221 u222 u223 u224 u225 u226 u227 u228 u229 u230 u231 u232 u233 u234 u235 u236 u237 u238 u239 u240 u241 u242 u243 u244 u245 u246 u247 u248 u249 u250 u251 u252 u287 u288 u289 u290 u253 u254 u255 u256 u257 u258 u259 u260 u261 u262 u263 u264 u265 u266 u267 u268 u269 u270 u271 u272 u273 u274 u275 u276 u277 u278 u279 u280 u281 u282 u283 u284 u285 u286:Value)
  (hQ:∀ (x253 x254 x255 x256 x257 x258 x259 x260 x261 x262 x263 x264 x265 x266 x267 x268 x269 x270 x271 x272 x273 x274 x275 x276 x277 x278 x279 x280 x281 x282 x283 x284 x285 x286:Value) (A4:Option Addr) (c4:Nat) (w4:World),VO 4 w4 B (.slice A4 (n + 1) c4) (bL l ++ [.bool (kindG K fa fb)]) -> (Y.alloc (.cells #[.bool (kindG K fa fb)] 4)).grownBy w4 (Value.slice Af n cf).ownBlock -> Q .normal { tmps:=#[u0,u1,.int .i64 (K:Int),u3,u4,u5,u6,u7,u8,u9,u10,u11,u12,u13,u14,u15,u16,u17,.pointer (some ⟨gD,0,none⟩),u19,u20,u21,u22,u23,u24,u25,.bool fa,.bool fb,u28,u29,u30,u31,u32,u33,u34,u35,u36,u37,u38,u39,u40,u41,u42,u43,u44,u45,u46,u47,u48,u49,u50,u51,u52,u53,u54,u55,u56,u57,u58,u59,u60,u61,u62,u63,u64,u65,u66,u67,u68,u69,u70,u71,u72,u73,u74,u75,u76,u77,u78,u79,u80,u81,u82,u83,u84,u85,u86,u87,u88,u89,u90,u91,u92,u93,u94,u95,u96,u97,u98,u99,u100,u101,u102,u103,u104,u105,u106,u107,u108,u109,u110,u111,u112,u113,u114,u115,u116,u117,u118,u119,u120,u121,u122,u123,u124,u125,u126,u127,u128,u129,u130,u131,u132,u133,u134,u135,u136,u137,u138,u139,u140,u141,u142,u143,u144,u145,u146,u147,u148,u149,u150,u151,u152,u153,u154,u155,u156,u157,u158,u159,u160,u161,u162,u163,u164,u165,u166,u167,u168,u169,u170,u171,u172,u173,u174,u175,u176,u177,u178,u179,u180,u181,u182,u183,u184,u185,u186,u187,u188,u189,u190,u191,u192,u193,u194,u195,u196,u197,u198,u199,u200,u201,u202,u203,u204,u205,u206,u207,u208,u209,u210,u211,u212,u213,u214,u215,u216,u217,u218,u219,u220,u221,u222,u223,u224,u225,u226,u227,u228,u229,u230,u231,u232,u233,u234,u235,u236,u237,u238,u239,u240,u241,u242,u243,u244,u245,u246,u247,u248,u249,u250,u251,u252,x253,x254,x255,x256,x257,x258,x259,x260,x261,x262,x263,x264,x265,x266,x267,x268,x269,x270,x271,x272,x273,x274,x275,x276,x277,x278,x279,x280,x281,x282,x283,x284,x285,x286,u287,u288,u289,u290],defers:=[] } (w4.setCell ⟨gD,3,none⟩ (.slice A4 (n + 1) c4))) :
  c.wp Tryz.prog Q { tmps:=#[u0,u1,.int .i64 (K:Int),u3,u4,u5,u6,u7,u8,u9,u10,u11,u12,u13,u14,u15,u16,u17,.pointer (some ⟨gD,0,none⟩),u19,u20,u21,u22,u23,u24,u25,.bool fa,.bool fb,u28,u29,u30,u31,u32,u33,u34,u35,u36,u37,u38,u39,u40,u41,u42,u43,u44,u45,u46,u47,u48,u49,u50,u51,u52,u53,u54,u55,u56,u57,u58,u59,u60,u61,u62,u63,u64,u65,u66,u67,u68,u69,u70,u71,u72,u73,u74,u75,u76,u77,u78,u79,u80,u81,u82,u83,u84,u85,u86,u87,u88,u89,u90,u91,u92,u93,u94,u95,u96,u97,u98,u99,u100,u101,u102,u103,u104,u105,u106,u107,u108,u109,u110,u111,u112,u113,u114,u115,u116,u117,u118,u119,u120,u121,u122,u123,u124,u125,u126,u127,u128,u129,u130,u131,u132,u133,u134,u135,u136,u137,u138,u139,u140,u141,u142,u143,u144,u145,u146,u147,u148,u149,u150,u151,u152,u153,u154,u155,u156,u157,u158,u159,u160,u161,u162,u163,u164,u165,u166,u167,u168,u169,u170,u171,u172,u173,u174,u175,u176,u177,u178,u179,u180,u181,u182,u183,u184,u185,u186,u187,u188,u189,u190,u191,u192,u193,u194,u195,u196,u197,u198,u199,u200,u201,u202,u203,u204,u205,u206,u207,u208,u209,u210,u211,u212,u213,u214,u215,u216,u217,u218,u219,u220,u221,u222,u223,u224,u225,u226,u227,u228,u229,u230,u231,u232,u233,u234,u235,u236,u237,u238,u239,u240,u241,u242,u243,u244,u245,u246,u247,u248,u249,u250,u251,u252,u253,u254,u255,u256,u257,u258,u259,u260,u261,u262,u263,u264,u265,u266,u267,u268,u269,u270,u271,u272,u273,u274,u275,u276,u277,u278,u279,u280,u281,u282,u283,u284,u285,u286,u287,u288,u289,u290],defers:=[] } Y:=by
 have h2:=hc
 conv at h2 => lhs; whnf
 injection h2 with h3
 subst h3
 clear hc
 have hK3:K = 0 \/ K = 1 \/ K = 2:=by omega
 have HL:=zh (show (bL l).length + 1 <= 1000000 by omega)
 have HL1:=zh (show ∀ b:Bool,(bL l ++ [Value.bool b]).length = n + 1 by intro b; rw [List.length_append,hl]; rfl)
 have HB:=zh (show ∀ X:Obj,B <= (Y.alloc X).heap.size by intro X; simp only [World.size_alloc]; omega)
 have y7:=hrow.cell; have y8:=hrow.free
 have HROW:=zh hrow; have HVO:=zh hvo; have HQ:=zh hQ
 clear hrow hvo hQ hl hn hK hB
 rcases hK3 with rfl | rfl | rfl <;> cases fa <;> cases fb
 ·have HV:=zh (VO.allocd HVO.out (.cells #[.bool false] 4))
  go_wp2_with (at_builtin; refine zaa eB rfl (.tmp 254) (.tmp 284) rfl B _ _ rfl HV.out _ [.bool false] rfl (VS.one (Row.new _ _ _)) (by intro u hu; simp at hu; subst hu; rfl) HL.out (HB.out _) ?_; intro v4 w4 ho4 hg4 _; obtain ⟨A5,c5x,rfl⟩:=VO.formN (n:=n + 1) ho4 (HL1.out _); have HO5:=zh ho4; have HG5:=zh hg4; have R75:=zh ((Row.alloc HROW.out _).far_own (by decide) HV.out.2 hg4); have z2:=R75.out.cell; have z3:=R75.out.free; clear ho4 hg4)
  exact HQ.out _ _ _ _ _ _ _ _ _ _ _ _ _ _ _ _ _ _ _ _ _ _ _ _ _ _ _ _ _ _ _ _ _ _ A5 c5x w4 HO5.out HG5.out
 ·have HV:=zh (VO.allocd HVO.out (.cells #[.bool false] 4))
  go_wp2_with (at_builtin; refine zaa eB rfl (.tmp 254) (.tmp 284) rfl B _ _ rfl HV.out _ [.bool false] rfl (VS.one (Row.new _ _ _)) (by intro u hu; simp at hu; subst hu; rfl) HL.out (HB.out _) ?_; intro v4 w4 ho4 hg4 _; obtain ⟨A5,c5x,rfl⟩:=VO.formN (n:=n + 1) ho4 (HL1.out _); have HO5:=zh ho4; have HG5:=zh hg4; have R75:=zh ((Row.alloc HROW.out _).far_own (by decide) HV.out.2 hg4); have z2:=R75.out.cell; have z3:=R75.out.free; clear ho4 hg4)
  exact HQ.out _ _ _ _ _ _ _ _ _ _ _ _ _ _ _ _ _ _ _ _ _ _ _ _ _ _ _ _ _ _ _ _ _ _ A5 c5x w4 HO5.out HG5.out
 ·have HV:=zh (VO.allocd HVO.out (.cells #[.bool false] 4))
  go_wp2_with (at_builtin; refine zaa eB rfl (.tmp 254) (.tmp 284) rfl B _ _ rfl HV.out _ [.bool false] rfl (VS.one (Row.new _ _ _)) (by intro u hu; simp at hu; subst hu; rfl) HL.out (HB.out _) ?_; intro v4 w4 ho4 hg4 _; obtain ⟨A5,c5x,rfl⟩:=VO.formN (n:=n + 1) ho4 (HL1.out _); have HO5:=zh ho4; have HG5:=zh hg4; have R75:=zh ((Row.alloc HROW.out _).far_own (by decide) HV.out.2 hg4); have z2:=R75.out.cell; have z3:=R75.out.free; clear ho4 hg4)
  exact HQ.out _ _ _ _ _ _ _ _ _ _ _ _ _ _ _ _ _ _ _ _ _ _ _ _ _ _ _ _ _ _ _ _ _ _ A5 c5x w4 HO5.out HG5.out
 ·have HV:=zh (VO.allocd HVO.out (.cells #[.bool true] 4))
  go_wp2_with (at_builtin; refine zaa eB rfl (.tmp 254) (.tmp 284) rfl B _ _ rfl HV.out _ [.bool true] rfl (VS.one (Row.new _ _ _)) (by intro u hu; simp at hu; subst hu; rfl) HL.out (HB.out _) ?_; intro v4 w4 ho4 hg4 _; obtain ⟨A5,c5x,rfl⟩:=VO.formN (n:=n + 1) ho4 (HL1.out _); have HO5:=zh ho4; have HG5:=zh hg4; have R75:=zh ((Row.alloc HROW.out _).far_own (by decide) HV.out.2 hg4); have z2:=R75.out.cell; have z3:=R75.out.free; clear ho4 hg4)
  exact HQ.out _ _ _ _ _ _ _ _ _ _ _ _ _ _ _ _ _ _ _ _ _ _ _ _ _ _ _ _ _ _ _ _ _ _ A5 c5x w4 HO5.out HG5.out
 ·have HV:=zh (VO.allocd HVO.out (.cells #[.bool false] 4))
  go_wp2_with (at_builtin; refine zaa eB rfl (.tmp 254) (.tmp 284) rfl B _ _ rfl HV.out _ [.bool false] rfl (VS.one (Row.new _ _ _)) (by intro u hu; simp at hu; subst hu; rfl) HL.out (HB.out _) ?_; intro v4 w4 ho4 hg4 _; obtain ⟨A5,c5x,rfl⟩:=VO.formN (n:=n + 1) ho4 (HL1.out _); have HO5:=zh ho4; have HG5:=zh hg4; have R75:=zh ((Row.alloc HROW.out _).far_own (by decide) HV.out.2 hg4); have z2:=R75.out.cell; have z3:=R75.out.free; clear ho4 hg4)
  exact HQ.out _ _ _ _ _ _ _ _ _ _ _ _ _ _ _ _ _ _ _ _ _ _ _ _ _ _ _ _ _ _ _ _ _ _ A5 c5x w4 HO5.out HG5.out
 ·have HV:=zh (VO.allocd HVO.out (.cells #[.bool true] 4))
  go_wp2_with (at_builtin; refine zaa eB rfl (.tmp 254) (.tmp 284) rfl B _ _ rfl HV.out _ [.bool true] rfl (VS.one (Row.new _ _ _)) (by intro u hu; simp at hu; subst hu; rfl) HL.out (HB.out _) ?_; intro v4 w4 ho4 hg4 _; obtain ⟨A5,c5x,rfl⟩:=VO.formN (n:=n + 1) ho4 (HL1.out _); have HO5:=zh ho4; have HG5:=zh hg4; have R75:=zh ((Row.alloc HROW.out _).far_own (by decide) HV.out.2 hg4); have z2:=R75.out.cell; have z3:=R75.out.free; clear ho4 hg4)
  exact HQ.out _ _ _ _ _ _ _ _ _ _ _ _ _ _ _ _ _ _ _ _ _ _ _ _ _ _ _ _ _ _ _ _ _ _ A5 c5x w4 HO5.out HG5.out
 ·have HV:=zh (VO.allocd HVO.out (.cells #[.bool true] 4))
  go_wp2_with (at_builtin; refine zaa eB rfl (.tmp 254) (.tmp 284) rfl B _ _ rfl HV.out _ [.bool true] rfl (VS.one (Row.new _ _ _)) (by intro u hu; simp at hu; subst hu; rfl) HL.out (HB.out _) ?_; intro v4 w4 ho4 hg4 _; obtain ⟨A5,c5x,rfl⟩:=VO.formN (n:=n + 1) ho4 (HL1.out _); have HO5:=zh ho4; have HG5:=zh hg4; have R75:=zh ((Row.alloc HROW.out _).far_own (by decide) HV.out.2 hg4); have z2:=R75.out.cell; have z3:=R75.out.free; clear ho4 hg4)
  exact HQ.out _ _ _ _ _ _ _ _ _ _ _ _ _ _ _ _ _ _ _ _ _ _ _ _ _ _ _ _ _ _ _ _ _ _ A5 c5x w4 HO5.out HG5.out
 ·have HV:=zh (VO.allocd HVO.out (.cells #[.bool true] 4))
  go_wp2_with (at_builtin; refine zaa eB rfl (.tmp 254) (.tmp 284) rfl B _ _ rfl HV.out _ [.bool true] rfl (VS.one (Row.new _ _ _)) (by intro u hu; simp at hu; subst hu; rfl) HL.out (HB.out _) ?_; intro v4 w4 ho4 hg4 _; obtain ⟨A5,c5x,rfl⟩:=VO.formN (n:=n + 1) ho4 (HL1.out _); have HO5:=zh ho4; have HG5:=zh hg4; have R75:=zh ((Row.alloc HROW.out _).far_own (by decide) HV.out.2 hg4); have z2:=R75.out.cell; have z3:=R75.out.free; clear ho4 hg4)
  exact HQ.out _ _ _ _ _ _ _ _ _ _ _ _ _ _ _ _ _ _ _ _ _ _ _ _ _ _ _ _ _ _ _ _ _ _ A5 c5x w4 HO5.out HG5.out
 ·have HV:=zh (VO.allocd HVO.out (.cells #[.bool false] 4))
  go_wp2_with (at_builtin; refine zaa eB rfl (.tmp 254) (.tmp 284) rfl B _ _ rfl HV.out _ [.bool false] rfl (VS.one (Row.new _ _ _)) (by intro u hu; simp at hu; subst hu; rfl) HL.out (HB.out _) ?_; intro v4 w4 ho4 hg4 _; obtain ⟨A5,c5x,rfl⟩:=VO.formN (n:=n + 1) ho4 (HL1.out _); have HO5:=zh ho4; have HG5:=zh hg4; have R75:=zh ((Row.alloc HROW.out _).far_own (by decide) HV.out.2 hg4); have z2:=R75.out.cell; have z3:=R75.out.free; clear ho4 hg4)
  exact HQ.out _ _ _ _ _ _ _ _ _ _ _ _ _ _ _ _ _ _ _ _ _ _ _ _ _ _ _ _ _ _ _ _ _ _ A5 c5x w4 HO5.out HG5.out
 ·have HV:=zh (VO.allocd HVO.out (.cells #[.bool false] 4))
  go_wp2_with (at_builtin; refine zaa eB rfl (.tmp 254) (.tmp 284) rfl B _ _ rfl HV.out _ [.bool false] rfl (VS.one (Row.new _ _ _)) (by intro u hu; simp at hu; subst hu; rfl) HL.out (HB.out _) ?_; intro v4 w4 ho4 hg4 _; obtain ⟨A5,c5x,rfl⟩:=VO.formN (n:=n + 1) ho4 (HL1.out _); have HO5:=zh ho4; have HG5:=zh hg4; have R75:=zh ((Row.alloc HROW.out _).far_own (by decide) HV.out.2 hg4); have z2:=R75.out.cell; have z3:=R75.out.free; clear ho4 hg4)
  exact HQ.out _ _ _ _ _ _ _ _ _ _ _ _ _ _ _ _ _ _ _ _ _ _ _ _ _ _ _ _ _ _ _ _ _ _ A5 c5x w4 HO5.out HG5.out
 ·have HV:=zh (VO.allocd HVO.out (.cells #[.bool true] 4))
  go_wp2_with (at_builtin; refine zaa eB rfl (.tmp 254) (.tmp 284) rfl B _ _ rfl HV.out _ [.bool true] rfl (VS.one (Row.new _ _ _)) (by intro u hu; simp at hu; subst hu; rfl) HL.out (HB.out _) ?_; intro v4 w4 ho4 hg4 _; obtain ⟨A5,c5x,rfl⟩:=VO.formN (n:=n + 1) ho4 (HL1.out _); have HO5:=zh ho4; have HG5:=zh hg4; have R75:=zh ((Row.alloc HROW.out _).far_own (by decide) HV.out.2 hg4); have z2:=R75.out.cell; have z3:=R75.out.free; clear ho4 hg4)
  exact HQ.out _ _ _ _ _ _ _ _ _ _ _ _ _ _ _ _ _ _ _ _ _ _ _ _ _ _ _ _ _ _ _ _ _ _ A5 c5x w4 HO5.out HG5.out
 ·have HV:=zh (VO.allocd HVO.out (.cells #[.bool false] 4))
  go_wp2_with (at_builtin; refine zaa eB rfl (.tmp 254) (.tmp 284) rfl B _ _ rfl HV.out _ [.bool false] rfl (VS.one (Row.new _ _ _)) (by intro u hu; simp at hu; subst hu; rfl) HL.out (HB.out _) ?_; intro v4 w4 ho4 hg4 _; obtain ⟨A5,c5x,rfl⟩:=VO.formN (n:=n + 1) ho4 (HL1.out _); have HO5:=zh ho4; have HG5:=zh hg4; have R75:=zh ((Row.alloc HROW.out _).far_own (by decide) HV.out.2 hg4); have z2:=R75.out.cell; have z3:=R75.out.free; clear ho4 hg4)
  exact HQ.out _ _ _ _ _ _ _ _ _ _ _ _ _ _ _ _ _ _ _ _ _ _ _ _ _ _ _ _ _ _ _ _ _ _ A5 c5x w4 HO5.out HG5.out
end Go.Proofs.YthkfjnmnoanhlaaGreatDoor

/- Part 33 of the proof; it says: lemmas and contracts. No conditions but those that each theorem states. -/
import Derived.BigRegion
import Derived.Deep.RegionHeld3
import Derived.Test.YthkfjnmnoanhlaaGreatDoorPr01
import Derived.Test.YthkfjnmnoanhlaaGreatDoorPr04
import Derived.Test.YthkfjnmnoanhlaaGreatDoorPr31
set_option linter.unusedSimpArgs false
set_option linter.unusedVariables false
namespace Go.Proofs.YthkfjnmnoanhlaaGreatDoor
open Go.RowKit
set_option maxRecDepth 100000 in
set_option maxHeartbeats 16000000 in
theorem zqk (c:Code) (hc:regF Tryz.f79 20 = some c) (W0 W1:World) (hb1:Below W0.heap.size W0 W1) (L NA NC b1a b1b b1c b1d b2a b2b b2c b2d b3 b4 c1a c1b c1c c1d c2a c2b c2c c2d c3 c4 ci cj gA gB gi gj o1a o1b o1c o1d o2a o2b o2c o2d o3 o4 p1 p2 q1 q2 s11 s12 s21 s22 x:Nat)
  (HSX:Hid (∀ X,Below W0.heap.size W0 X -> X.cell? ⟨gA,2,none⟩ = some (.slice (some ⟨b3,o3,none⟩) NA c3) /\ X.cell? ⟨gB,2,none⟩ = some (.slice (some ⟨b4,o4,none⟩) NC c4) /\ X.cell? ⟨gi,0,none⟩ = some (.int .i64 (p1:Int)) /\ X.cell? ⟨gi,1,none⟩ = some (.int .i64 (p2:Int)) /\ X.cell? ⟨gj,0,none⟩ = some (.int .i64 (q1:Int)) /\ X.cell? ⟨gj,1,none⟩ = some (.int .i64 (q2:Int)) /\ X.cell? ⟨b3,o3 + p1,none⟩ = some (.slice (some ⟨b2a,o2a,none⟩) NA c2a) /\ X.cell? ⟨b2a,o2a + q1,none⟩ = some (.slice (some ⟨b1a,o1a,none⟩) L c1a) /\ X.cell? ⟨b1a,o1a + x,none⟩ = some (.int .i64 (s11:Int)) /\ X.cell? ⟨b4,o4 + p2,none⟩ = some (.slice (some ⟨b2b,o2b,none⟩) NC c2b) /\ X.cell? ⟨b2b,o2b + q2,none⟩ = some (.slice (some ⟨b1b,o1b,none⟩) L c1b) /\ X.cell? ⟨b1b,o1b + x,none⟩ = some (.int .i64 (s12:Int)) /\ X.cell? ⟨b3,o3 + q1,none⟩ = some (.slice (some ⟨b2c,o2c,none⟩) NA c2c) /\ X.cell? ⟨b2c,o2c + p1,none⟩ = some (.slice (some ⟨b1c,o1c,none⟩) L c1c) /\ X.cell? ⟨b1c,o1c + x,none⟩ = some (.int .i64 (s21:Int)) /\ X.cell? ⟨b4,o4 + q2,none⟩ = some (.slice (some ⟨b2d,o2d,none⟩) NC c2d) /\ X.cell? ⟨b2d,o2d + p2,none⟩ = some (.slice (some ⟨b1d,o1d,none⟩) L c1d) /\ X.cell? ⟨b1d,o1d + x,none⟩ = some (.int .i64 (s22:Int))))
  (hp1i:(p1:Int) < (NA:Int)) (hq1i:(q1:Int) < (NA:Int)) (hp2i:(p2:Int) < (NC:Int)) (hq2i:(q2:Int) < (NC:Int)) (hxli:(x:Int) < (L:Int)) (Q:Exit -> Act -> World -> Prop) (hP:∀ c a (d:Nat) v w,Q (.panic c) (a.put (some d) v) w -> Q (.panic c) a w)
  (u0 u1 u2 u5 u6 u7 u8 u9 u10 u11 u12 u17 u18 u19 u20 u21 u22 u23 u24 u25 u26 u27 u28 u29 u30 u31 u32 u33 u34 u35 u36 u37 u38 u39 u40 u41 u42 u43 u44 u45 u46 u47 u48 u49 u50 u51 u52 u53 u54 u55 u56 u57 u58 u59 u60 u61 u62 u63 u64 u65 u66 u67 u68 u69 u70 u71 u72 u73 u74 u75 u76 u77 u141 u142 u143 u144 u145 u146 u147 u148 u149 u150 u151 u152 u153 u154 u155 u156 u157 u158 u159 u160 u161 u162 u163 u164 u165 u166 u167 u168 u169 u170 u171 u172 u173 u174 u175 u176 u177 u178 u179 u180 u181 u182 u183 u184 u185 u186 u187 u188 u189 u190 u191 u192 u193 u194 u195 u196 u197 u198 u199 u200 u201 u202 u203 u204 u205 u206 u207 u208 u209 u210 u211 u212 u213 u214 u215 u216 u217 u218 u219 u220 u221 u222 u223 u224 u225 u226 u227 u228 u229 u230 u231 u232 u233 u234 u235 u236 u237 u238 u239 u240 u241 u242 u243 u244 u245 u246 u247 u248 u249 u250 u251 u252 u253 u254 u255 u256 u257 u258 u259 u260 u261 u262 u263 u264 u265 u266 u267 u268 u269 u270 u271 u272 u273 u274 u275 u276 u277 u278 u279 u280 u281 u282 u283 u284 u285 u286 u287 u288 u289 u290 u78 u79 u80 u81 u82 u83 u84 u85 u86 u87 u88 u89 u90 u91 u92 u93 u94 u95 u96 u97 u98 u99 u100 u101 u102 u103 u104 u105 u106 u107 u108 u109 u110 u111 u112 u113 u114 u115 u116 u117 u118 u119 u120 u121 u122 u123 u124 u125 u126 u127 u128 u129 u130 u131 u132 u133 u134 u135 u136 u137 u138 u139 u140 u16:Value)
  (hQ:∀ (x78 x79 x80 x81 x82 x83 x84 x85 x86 x87 x88 x89 x90 x91 x92 x93 x94 x95 x96 x97 x98 x99 x100 x101 x102 x103 x104 x105 x106 x107 x108 x109 x110 x111 x112 x113 x114 x115 x116 x117 x118 x119 x120 x121 x122 x123 x124 x125 x126 x127 x128 x129 x130 x131 x132 x133 x134 x135 x136 x137 x138 x139 x140:Value) (z1 z2:Value) (gb cb:Nat) (W:World),W0.heap.size <= gb -> Below W0.heap.size W0 W -> BothI W W0.heap.size (.slice (some ⟨gb,0,none⟩) 2 cb) z1 z2 (pE (s11,s12)) (pE (s21,s22)) -> Q .normal { tmps:=#[u0,u1,u2,.pointer (some ⟨gA,0,none⟩),.pointer (some ⟨gB,0,none⟩),u5,u6,u7,u8,u9,u10,u11,u12,.int .i64 (x:Int),.slice (some ⟨gi,0,none⟩) 2 ci,.slice (some ⟨gj,0,none⟩) 2 cj,.slice (some ⟨gb,0,none⟩) 2 cb,u17,u18,u19,u20,u21,u22,u23,u24,u25,u26,u27,u28,u29,u30,u31,u32,u33,u34,u35,u36,u37,u38,u39,u40,u41,u42,u43,u44,u45,u46,u47,u48,u49,u50,u51,u52,u53,u54,u55,u56,u57,u58,u59,u60,u61,u62,u63,u64,u65,u66,u67,u68,u69,u70,u71,u72,u73,u74,u75,u76,u77,x78,x79,x80,x81,x82,x83,x84,x85,x86,x87,x88,x89,x90,x91,x92,x93,x94,x95,x96,x97,x98,x99,x100,x101,x102,x103,x104,x105,x106,x107,x108,x109,x110,x111,x112,x113,x114,x115,x116,x117,x118,x119,x120,x121,x122,x123,x124,x125,x126,x127,x128,x129,x130,x131,x132,x133,x134,x135,x136,x137,x138,x139,x140,u141,u142,u143,u144,u145,u146,u147,u148,u149,u150,u151,u152,u153,u154,u155,u156,u157,u158,u159,u160,u161,u162,u163,u164,u165,u166,u167,u168,u169,u170,u171,u172,u173,u174,u175,u176,u177,u178,u179,u180,u181,u182,u183,u184,u185,u186,u187,u188,u189,u190,u191,u192,u193,u194,u195,u196,u197,u198,u199,u200,u201,u202,u203,u204,u205,u206,u207,u208,u209,u210,u211,u212,u213,u214,u215,u216,u217,u218,u219,u220,u221,u222,u223,u224,u225,u226,u227,u228,u229,u230,u231,u232,u233,u234,u235,u236,u237,u238,u239,u240,u241,u242,u243,u244,u245,u246,u247,u248,u249,u250,u251,u252,u253,u254,u255,u256,u257,u258,u259,u260,u261,u262,u263,u264,u265,u266,u267,u268,u269,u270,u271,u272,u273,u274,u275,u276,u277,u278,u279,u280,u281,u282,u283,u284,u285,u286,u287,u288,u289,u290],defers:=[] } W) :
  c.wp Tryz.prog Q { tmps:=#[u0,u1,u2,.pointer (some ⟨gA,0,none⟩),.pointer (some ⟨gB,0,none⟩),u5,u6,u7,u8,u9,u10,u11,u12,.int .i64 (x:Int),.slice (some ⟨gi,0,none⟩) 2 ci,.slice (some ⟨gj,0,none⟩) 2 cj,u16,u17,u18,u19,u20,u21,u22,u23,u24,u25,u26,u27,u28,u29,u30,u31,u32,u33,u34,u35,u36,u37,u38,u39,u40,u41,u42,u43,u44,u45,u46,u47,u48,u49,u50,u51,u52,u53,u54,u55,u56,u57,u58,u59,u60,u61,u62,u63,u64,u65,u66,u67,u68,u69,u70,u71,u72,u73,u74,u75,u76,u77,u78,u79,u80,u81,u82,u83,u84,u85,u86,u87,u88,u89,u90,u91,u92,u93,u94,u95,u96,u97,u98,u99,u100,u101,u102,u103,u104,u105,u106,u107,u108,u109,u110,u111,u112,u113,u114,u115,u116,u117,u118,u119,u120,u121,u122,u123,u124,u125,u126,u127,u128,u129,u130,u131,u132,u133,u134,u135,u136,u137,u138,u139,u140,u141,u142,u143,u144,u145,u146,u147,u148,u149,u150,u151,u152,u153,u154,u155,u156,u157,u158,u159,u160,u161,u162,u163,u164,u165,u166,u167,u168,u169,u170,u171,u172,u173,u174,u175,u176,u177,u178,u179,u180,u181,u182,u183,u184,u185,u186,u187,u188,u189,u190,u191,u192,u193,u194,u195,u196,u197,u198,u199,u200,u201,u202,u203,u204,u205,u206,u207,u208,u209,u210,u211,u212,u213,u214,u215,u216,u217,u218,u219,u220,u221,u222,u223,u224,u225,u226,u227,u228,u229,u230,u231,u232,u233,u234,u235,u236,u237,u238,u239,u240,u241,u242,u243,u244,u245,u246,u247,u248,u249,u250,u251,u252,u253,u254,u255,u256,u257,u258,u259,u260,u261,u262,u263,u264,u265,u266,u267,u268,u269,u270,u271,u272,u273,u274,u275,u276,u277,u278,u279,u280,u281,u282,u283,u284,u285,u286,u287,u288,u289,u290],defers:=[] } W1:=by
 have h2:=hc
 conv at h2 => lhs; whnf
 injection h2 with h3
 subst h3
 clear hc
 have HB1:=zh hb1; have HQ:=zh hQ
 clear hb1 hQ
 refine wp_region_held_drew (S:=(fun X => X.cell? ⟨gA,2,none⟩ = some (.slice (some ⟨b3,o3,none⟩) NA c3) /\ X.cell? ⟨gB,2,none⟩ = some (.slice (some ⟨b4,o4,none⟩) NC c4) /\ X.cell? ⟨gi,0,none⟩ = some (.int .i64 (p1:Int)) /\ X.cell? ⟨gi,1,none⟩ = some (.int .i64 (p2:Int)) /\ X.cell? ⟨gj,0,none⟩ = some (.int .i64 (q1:Int)) /\ X.cell? ⟨gj,1,none⟩ = some (.int .i64 (q2:Int)) /\ X.cell? ⟨b3,o3 + p1,none⟩ = some (.slice (some ⟨b2a,o2a,none⟩) NA c2a) /\ X.cell? ⟨b2a,o2a + q1,none⟩ = some (.slice (some ⟨b1a,o1a,none⟩) L c1a) /\ X.cell? ⟨b1a,o1a + x,none⟩ = some (.int .i64 (s11:Int)) /\ X.cell? ⟨b4,o4 + p2,none⟩ = some (.slice (some ⟨b2b,o2b,none⟩) NC c2b) /\ X.cell? ⟨b2b,o2b + q2,none⟩ = some (.slice (some ⟨b1b,o1b,none⟩) L c1b) /\ X.cell? ⟨b1b,o1b + x,none⟩ = some (.int .i64 (s12:Int)) /\ X.cell? ⟨b3,o3 + q1,none⟩ = some (.slice (some ⟨b2c,o2c,none⟩) NA c2c) /\ X.cell? ⟨b2c,o2c + p1,none⟩ = some (.slice (some ⟨b1c,o1c,none⟩) L c1c) /\ X.cell? ⟨b1c,o1c + x,none⟩ = some (.int .i64 (s21:Int)) /\ X.cell? ⟨b4,o4 + q2,none⟩ = some (.slice (some ⟨b2d,o2d,none⟩) NC c2d) /\ X.cell? ⟨b2d,o2d + p2,none⟩ = some (.slice (some ⟨b1d,o1d,none⟩) L c1d) /\ X.cell? ⟨b1d,o1d + x,none⟩ = some (.int .i64 (s22:Int)))) (by kernel_rfl) (HSX.out _ HB1.out.drew) (fun hHeld => ?_)
 refine wpAnyH_take (i:=0) (oi:=⟨some 78,_,_,_,_,_⟩) (v:=?_) rfl (by kernel_rfl) (by kernel_rfl) (by kernel_rfl) (fun _ _ _ h => hP _ _ _ _ _ h) (Or.inl ⟨by rfl,?_⟩) (by assumption) ?_
 rotate_left 1
 ·(intro w h; (try dsimp only at h); go_simp; try with_reducible rfl)
 try simp only [zp]
 refine wpAnyH_take (i:=1) (oi:=⟨some 79,_,_,_,_,_⟩) (v:=?_) rfl (by kernel_rfl) (by kernel_rfl) (by kernel_rfl) (fun _ _ _ h => hP _ _ _ _ _ h) (Or.inl ⟨by rfl,?_⟩) (by assumption) ?_
 rotate_left 1
 ·(intro w h; (try dsimp only at h); go_simp; try with_reducible rfl)
 try simp only [zp]
 refine wpAnyH_take (i:=2) (oi:=⟨some 80,_,_,_,_,_⟩) (v:=?_) rfl (by kernel_rfl) (by kernel_rfl) (by kernel_rfl) (fun _ _ _ h => hP _ _ _ _ _ h) (Or.inl ⟨by rfl,?_⟩) (by assumption) ?_
 rotate_left 1
 ·(intro w h; (try dsimp only at h); go_simp; try with_reducible rfl)
 try simp only [zp]
 refine wpAnyH_take (i:=3) (oi:=⟨some 81,_,_,_,_,_⟩) (v:=?_) rfl (by kernel_rfl) (by kernel_rfl) (by kernel_rfl) (fun _ _ _ h => hP _ _ _ _ _ h) (Or.inl ⟨by rfl,?_⟩) (by assumption) ?_
 rotate_left 1
 ·(intro w h; (try dsimp only at h); go_simp; try with_reducible rfl)
 try simp only [zp]
 refine wpAnyH_take (i:=4) (oi:=⟨some 82,_,_,_,_,_⟩) (v:=?_) rfl (by kernel_rfl) (by kernel_rfl) (by kernel_rfl) (fun _ _ _ h => hP _ _ _ _ _ h) (Or.inl ⟨by rfl,?_⟩) (by assumption) ?_
 rotate_left 1
 ·(intro w h; (try dsimp only at h); go_simp; try with_reducible rfl)
 try simp only [zp]
 refine wpAnyH_take (i:=5) (oi:=⟨some 83,_,_,_,_,_⟩) (v:=?_) rfl (by kernel_rfl) (by kernel_rfl) (by kernel_rfl) (fun _ _ _ h => hP _ _ _ _ _ h) (Or.inl ⟨by rfl,?_⟩) (by assumption) ?_
 rotate_left 1
 ·(intro w h; (try dsimp only at h); go_simp; try with_reducible rfl)
 try simp only [zp]
 refine wpAnyH_take (i:=6) (oi:=⟨some 84,_,_,_,_,_⟩) (v:=?_) rfl (by kernel_rfl) (by kernel_rfl) (by kernel_rfl) (fun _ _ _ h => hP _ _ _ _ _ h) (Or.inl ⟨by rfl,?_⟩) (by assumption) ?_
 rotate_left 1
 ·(intro w h; (try dsimp only at h); go_simp; try with_reducible rfl)
 try simp only [zp]
 refine wpAnyH_take (i:=7) (oi:=⟨some 85,_,_,_,_,_⟩) (v:=?_) rfl (by kernel_rfl) (by kernel_rfl) (by kernel_rfl) (fun _ _ _ h => hP _ _ _ _ _ h) (Or.inl ⟨by rfl,?_⟩) (by assumption) ?_
 rotate_left 1
 ·(intro w h; (try dsimp only at h); go_simp; try with_reducible rfl)
 try simp only [zp]
 refine wpAnyH_take (i:=8) (oi:=⟨some 86,_,_,_,_,_⟩) (v:=?_) rfl (by kernel_rfl) (by kernel_rfl) (by kernel_rfl) (fun _ _ _ h => hP _ _ _ _ _ h) (Or.inl ⟨by rfl,?_⟩) (by assumption) ?_
 rotate_left 1
 ·(intro w h; (try dsimp only at h); go_simp; try with_reducible rfl)
 try simp only [zp]
 refine wpAnyH_take (i:=9) (oi:=⟨some 87,_,_,_,_,_⟩) (v:=?_) rfl (by kernel_rfl) (by kernel_rfl) (by kernel_rfl) (fun _ _ _ h => hP _ _ _ _ _ h) (Or.inl ⟨by rfl,?_⟩) (by assumption) ?_
 rotate_left 1
 ·(intro w h; (try dsimp only at h); go_simp; try with_reducible rfl)
 try simp only [zp]
 refine wpAnyH_take (i:=10) (oi:=⟨some 88,_,_,_,_,_⟩) (v:=?_) rfl (by kernel_rfl) (by kernel_rfl) (by kernel_rfl) (fun _ _ _ h => hP _ _ _ _ _ h) (Or.inl ⟨by rfl,?_⟩) (by assumption) ?_
 rotate_left 1
 ·(intro w h; (try dsimp only at h); go_simp; try with_reducible rfl)
 try simp only [zp]
 refine wpAnyH_take (i:=11) (oi:=⟨some 89,_,_,_,_,_⟩) (v:=?_) rfl (by kernel_rfl) (by kernel_rfl) (by kernel_rfl) (fun _ _ _ h => hP _ _ _ _ _ h) (Or.inl ⟨by rfl,?_⟩) (by assumption) ?_
 rotate_left 1
 ·(intro w h; (try dsimp only at h); go_simp; try with_reducible rfl)
 try simp only [zp]
 refine wpAnyH_take (i:=12) (oi:=⟨some 90,_,_,_,_,_⟩) (v:=?_) rfl (by kernel_rfl) (by kernel_rfl) (by kernel_rfl) (fun _ _ _ h => hP _ _ _ _ _ h) (Or.inl ⟨by rfl,?_⟩) (by assumption) ?_
 rotate_left 1
 ·(intro w h; (try dsimp only at h); go_simp; try with_reducible rfl)
 try simp only [zp]
 refine wpAnyH_take (i:=13) (oi:=⟨some 91,_,_,_,_,_⟩) (v:=?_) rfl (by kernel_rfl) (by kernel_rfl) (by kernel_rfl) (fun _ _ _ h => hP _ _ _ _ _ h) (Or.inl ⟨by rfl,?_⟩) (by assumption) ?_
 rotate_left 1
 ·(intro w h; (try dsimp only at h); go_simp; try with_reducible rfl)
 try simp only [zp]
 refine wpAnyH_take (i:=14) (oi:=⟨some 92,_,_,_,_,_⟩) (v:=?_) rfl (by kernel_rfl) (by kernel_rfl) (by kernel_rfl) (fun _ _ _ h => hP _ _ _ _ _ h) (Or.inl ⟨by rfl,?_⟩) (by assumption) ?_
 rotate_left 1
 ·(intro w h; (try dsimp only at h); go_simp; try with_reducible rfl)
 try simp only [zp]
 refine wpAnyH_take (i:=15) (oi:=⟨some 93,_,_,_,_,_⟩) (v:=?_) rfl (by kernel_rfl) (by kernel_rfl) (by kernel_rfl) (fun _ _ _ h => hP _ _ _ _ _ h) (Or.inl ⟨by rfl,?_⟩) (by assumption) ?_
 rotate_left 1
 ·(intro w h; (try dsimp only at h); go_simp; try with_reducible rfl)
 try simp only [zp]
 refine wpAnyH_take (i:=16) (oi:=⟨some 94,_,_,_,_,_⟩) (v:=?_) rfl (by kernel_rfl) (by kernel_rfl) (by kernel_rfl) (fun _ _ _ h => hP _ _ _ _ _ h) (Or.inl ⟨by rfl,?_⟩) (by assumption) ?_
 rotate_left 1
 ·(intro w h; (try dsimp only at h); go_simp; try with_reducible rfl)
 try simp only [zp]
 refine wpAnyH_take (i:=17) (oi:=⟨some 95,_,_,_,_,_⟩) (v:=?_) rfl (by kernel_rfl) (by kernel_rfl) (by kernel_rfl) (fun _ _ _ h => hP _ _ _ _ _ h) (Or.inl ⟨by rfl,?_⟩) (by assumption) ?_
 rotate_left 1
 ·(intro w h; (try dsimp only at h); go_simp; try with_reducible rfl)
 try simp only [zp]
 refine wpAnyH_take (i:=18) (oi:=⟨some 96,_,_,_,_,_⟩) (v:=?_) rfl (by kernel_rfl) (by kernel_rfl) (by kernel_rfl) (fun _ _ _ h => hP _ _ _ _ _ h) (Or.inl ⟨by rfl,?_⟩) (by assumption) ?_
 rotate_left 1
 ·(intro w h; (try dsimp only at h); go_simp; try with_reducible rfl)
 try simp only [zp]
 refine wpAnyH_take (i:=19) (oi:=⟨some 97,_,_,_,_,_⟩) (v:=?_) rfl (by kernel_rfl) (by kernel_rfl) (by kernel_rfl) (fun _ _ _ h => hP _ _ _ _ _ h) (Or.inl ⟨by rfl,?_⟩) (by assumption) ?_
 rotate_left 1
 ·(intro w h; (try dsimp only at h); go_simp; try with_reducible rfl)
 try simp only [zp]
 refine wpAnyH_take (i:=20) (oi:=⟨some 98,_,_,_,_,_⟩) (v:=?_) rfl (by kernel_rfl) (by kernel_rfl) (by kernel_rfl) (fun _ _ _ h => hP _ _ _ _ _ h) (Or.inl ⟨by rfl,?_⟩) (by assumption) ?_
 rotate_left 1
 ·(intro w h; (try dsimp only at h); go_simp; try with_reducible rfl)
 try simp only [zp]
 refine wpAnyH_take (i:=21) (oi:=⟨some 99,_,_,_,_,_⟩) (v:=?_) rfl (by kernel_rfl) (by kernel_rfl) (by kernel_rfl) (fun _ _ _ h => hP _ _ _ _ _ h) (Or.inl ⟨by rfl,?_⟩) (by assumption) ?_
 rotate_left 1
 ·(intro w h; (try dsimp only at h); go_simp; try with_reducible rfl)
 try simp only [zp]
 refine wpAnyH_take (i:=22) (oi:=⟨some 100,_,_,_,_,_⟩) (v:=?_) rfl (by kernel_rfl) (by kernel_rfl) (by kernel_rfl) (fun _ _ _ h => hP _ _ _ _ _ h) (Or.inl ⟨by rfl,?_⟩) (by assumption) ?_
 rotate_left 1
 ·(intro w h; (try dsimp only at h); go_simp; try with_reducible rfl)
 try simp only [zp]
 refine wpAnyH_take (i:=23) (oi:=⟨some 101,_,_,_,_,_⟩) (v:=?_) rfl (by kernel_rfl) (by kernel_rfl) (by kernel_rfl) (fun _ _ _ h => hP _ _ _ _ _ h) (Or.inl ⟨by rfl,?_⟩) (by assumption) ?_
 rotate_left 1
 ·(intro w h; (try dsimp only at h); go_simp; try with_reducible rfl)
 try simp only [zp]
 refine wpAnyH_take (i:=24) (oi:=⟨some 102,_,_,_,_,_⟩) (v:=?_) rfl (by kernel_rfl) (by kernel_rfl) (by kernel_rfl) (fun _ _ _ h => hP _ _ _ _ _ h) (Or.inl ⟨by rfl,?_⟩) (by assumption) ?_
 rotate_left 1
 ·(intro w h; (try dsimp only at h); go_simp; try with_reducible rfl)
 try simp only [zp]
 refine wpAnyH_take (i:=25) (oi:=⟨some 103,_,_,_,_,_⟩) (v:=?_) rfl (by kernel_rfl) (by kernel_rfl) (by kernel_rfl) (fun _ _ _ h => hP _ _ _ _ _ h) (Or.inl ⟨by rfl,?_⟩) (by assumption) ?_
 rotate_left 1
 ·(intro w h; (try dsimp only at h); go_simp; try with_reducible rfl)
 try simp only [zp]
 refine wpAnyH_take (i:=26) (oi:=⟨some 104,_,_,_,_,_⟩) (v:=?_) rfl (by kernel_rfl) (by kernel_rfl) (by kernel_rfl) (fun _ _ _ h => hP _ _ _ _ _ h) (Or.inl ⟨by rfl,?_⟩) (by assumption) ?_
 rotate_left 1
 ·(intro w h; (try dsimp only at h); go_simp; try with_reducible rfl)
 try simp only [zp]
 refine wpAnyH_take (i:=27) (oi:=⟨some 105,_,_,_,_,_⟩) (v:=?_) rfl (by kernel_rfl) (by kernel_rfl) (by kernel_rfl) (fun _ _ _ h => hP _ _ _ _ _ h) (Or.inl ⟨by rfl,?_⟩) (by assumption) ?_
 rotate_left 1
 ·(intro w h; (try dsimp only at h); go_simp; try with_reducible rfl)
 try simp only [zp]
 refine wpAnyH_take (i:=28) (oi:=⟨some 106,_,_,_,_,_⟩) (v:=?_) rfl (by kernel_rfl) (by kernel_rfl) (by kernel_rfl) (fun _ _ _ h => hP _ _ _ _ _ h) (Or.inl ⟨by rfl,?_⟩) (by assumption) ?_
 rotate_left 1
 ·(intro w h; (try dsimp only at h); go_simp; try with_reducible rfl)
 try simp only [zp]
 refine wpAnyH_take (i:=29) (oi:=⟨some 107,_,_,_,_,_⟩) (v:=?_) rfl (by kernel_rfl) (by kernel_rfl) (by kernel_rfl) (fun _ _ _ h => hP _ _ _ _ _ h) (Or.inl ⟨by rfl,?_⟩) (by assumption) ?_
 rotate_left 1
 ·(intro w h; (try dsimp only at h); go_simp; try with_reducible rfl)
 try simp only [zp]
 refine wpAnyH_take (i:=31) (oi:=⟨some 109,_,_,_,_,_⟩) (v:=?_) rfl (by kernel_rfl) (by kernel_rfl) (by kernel_rfl) (fun _ _ _ h => hP _ _ _ _ _ h) (Or.inl ⟨by rfl,?_⟩) (by assumption) ?_
 rotate_left 1
 ·(intro w h; (try dsimp only at h); go_simp; try with_reducible rfl)
 try simp only [zp]
 refine wpAnyH_take (i:=32) (oi:=⟨some 110,_,_,_,_,_⟩) (v:=?_) rfl (by kernel_rfl) (by kernel_rfl) (by kernel_rfl) (fun _ _ _ h => hP _ _ _ _ _ h) (Or.inl ⟨by rfl,?_⟩) (by assumption) ?_
 rotate_left 1
 ·(intro w h; (try dsimp only at h); go_simp; try with_reducible rfl)
 try simp only [zp]
 refine wpAnyH_take (i:=33) (oi:=⟨some 111,_,_,_,_,_⟩) (v:=?_) rfl (by kernel_rfl) (by kernel_rfl) (by kernel_rfl) (fun _ _ _ h => hP _ _ _ _ _ h) (Or.inl ⟨by rfl,?_⟩) (by assumption) ?_
 rotate_left 1
 ·(intro w h; (try dsimp only at h); go_simp; try with_reducible rfl)
 try simp only [zp]
 refine wpAnyH_take (i:=34) (oi:=⟨some 112,_,_,_,_,_⟩) (v:=?_) rfl (by kernel_rfl) (by kernel_rfl) (by kernel_rfl) (fun _ _ _ h => hP _ _ _ _ _ h) (Or.inl ⟨by rfl,?_⟩) (by assumption) ?_
 rotate_left 1
 ·(intro w h; (try dsimp only at h); go_simp; try with_reducible rfl)
 try simp only [zp]
 refine wpAnyH_take (i:=35) (oi:=⟨some 113,_,_,_,_,_⟩) (v:=?_) rfl (by kernel_rfl) (by kernel_rfl) (by kernel_rfl) (fun _ _ _ h => hP _ _ _ _ _ h) (Or.inl ⟨by rfl,?_⟩) (by assumption) ?_
 rotate_left 1
 ·(intro w h; (try dsimp only at h); go_simp; try with_reducible rfl)
 try simp only [zp]
 refine wpAnyH_take (i:=36) (oi:=⟨some 114,_,_,_,_,_⟩) (v:=?_) rfl (by kernel_rfl) (by kernel_rfl) (by kernel_rfl) (fun _ _ _ h => hP _ _ _ _ _ h) (Or.inl ⟨by rfl,?_⟩) (by assumption) ?_
 rotate_left 1
 ·(intro w h; (try dsimp only at h); go_simp; try with_reducible rfl)
 try simp only [zp]
 refine wpAnyH_take (i:=37) (oi:=⟨some 115,_,_,_,_,_⟩) (v:=?_) rfl (by kernel_rfl) (by kernel_rfl) (by kernel_rfl) (fun _ _ _ h => hP _ _ _ _ _ h) (Or.inl ⟨by rfl,?_⟩) (by assumption) ?_
 rotate_left 1
 ·(intro w h; (try dsimp only at h); go_simp; try with_reducible rfl)
 try simp only [zp]
 refine wpAnyH_take (i:=38) (oi:=⟨some 116,_,_,_,_,_⟩) (v:=?_) rfl (by kernel_rfl) (by kernel_rfl) (by kernel_rfl) (fun _ _ _ h => hP _ _ _ _ _ h) (Or.inl ⟨by rfl,?_⟩) (by assumption) ?_
 rotate_left 1
 ·(intro w h; (try dsimp only at h); go_simp; try with_reducible rfl)
 try simp only [zp]
 refine wpAnyH_take (i:=39) (oi:=⟨some 117,_,_,_,_,_⟩) (v:=?_) rfl (by kernel_rfl) (by kernel_rfl) (by kernel_rfl) (fun _ _ _ h => hP _ _ _ _ _ h) (Or.inl ⟨by rfl,?_⟩) (by assumption) ?_
 rotate_left 1
 ·(intro w h; (try dsimp only at h); go_simp; try with_reducible rfl)
 try simp only [zp]
 refine wpAnyH_take (i:=40) (oi:=⟨some 118,_,_,_,_,_⟩) (v:=?_) rfl (by kernel_rfl) (by kernel_rfl) (by kernel_rfl) (fun _ _ _ h => hP _ _ _ _ _ h) (Or.inl ⟨by rfl,?_⟩) (by assumption) ?_
 rotate_left 1
 ·(intro w h; (try dsimp only at h); go_simp; try with_reducible rfl)
 try simp only [zp]
 refine wpAnyH_take (i:=41) (oi:=⟨some 119,_,_,_,_,_⟩) (v:=?_) rfl (by kernel_rfl) (by kernel_rfl) (by kernel_rfl) (fun _ _ _ h => hP _ _ _ _ _ h) (Or.inl ⟨by rfl,?_⟩) (by assumption) ?_
 rotate_left 1
 ·(intro w h; (try dsimp only at h); go_simp; try with_reducible rfl)
 try simp only [zp]
 refine wpAnyH_take (i:=42) (oi:=⟨some 120,_,_,_,_,_⟩) (v:=?_) rfl (by kernel_rfl) (by kernel_rfl) (by kernel_rfl) (fun _ _ _ h => hP _ _ _ _ _ h) (Or.inl ⟨by rfl,?_⟩) (by assumption) ?_
 rotate_left 1
 ·(intro w h; (try dsimp only at h); go_simp; try with_reducible rfl)
 try simp only [zp]
 refine wpAnyH_take (i:=43) (oi:=⟨some 121,_,_,_,_,_⟩) (v:=?_) rfl (by kernel_rfl) (by kernel_rfl) (by kernel_rfl) (fun _ _ _ h => hP _ _ _ _ _ h) (Or.inl ⟨by rfl,?_⟩) (by assumption) ?_
 rotate_left 1
 ·(intro w h; (try dsimp only at h); go_simp; try with_reducible rfl)
 try simp only [zp]
 refine wpAnyH_take (i:=44) (oi:=⟨some 122,_,_,_,_,_⟩) (v:=?_) rfl (by kernel_rfl) (by kernel_rfl) (by kernel_rfl) (fun _ _ _ h => hP _ _ _ _ _ h) (Or.inl ⟨by rfl,?_⟩) (by assumption) ?_
 rotate_left 1
 ·(intro w h; (try dsimp only at h); go_simp; try with_reducible rfl)
 try simp only [zp]
 refine wpAnyH_take (i:=45) (oi:=⟨some 123,_,_,_,_,_⟩) (v:=?_) rfl (by kernel_rfl) (by kernel_rfl) (by kernel_rfl) (fun _ _ _ h => hP _ _ _ _ _ h) (Or.inl ⟨by rfl,?_⟩) (by assumption) ?_
 rotate_left 1
 ·(intro w h; (try dsimp only at h); go_simp; try with_reducible rfl)
 try simp only [zp]
 refine wpAnyH_take (i:=46) (oi:=⟨some 124,_,_,_,_,_⟩) (v:=?_) rfl (by kernel_rfl) (by kernel_rfl) (by kernel_rfl) (fun _ _ _ h => hP _ _ _ _ _ h) (Or.inl ⟨by rfl,?_⟩) (by assumption) ?_
 rotate_left 1
 ·(intro w h; (try dsimp only at h); go_simp; try with_reducible rfl)
 try simp only [zp]
 refine wpAnyH_take (i:=47) (oi:=⟨some 125,_,_,_,_,_⟩) (v:=?_) rfl (by kernel_rfl) (by kernel_rfl) (by kernel_rfl) (fun _ _ _ h => hP _ _ _ _ _ h) (Or.inl ⟨by rfl,?_⟩) (by assumption) ?_
 rotate_left 1
 ·(intro w h; (try dsimp only at h); go_simp; try with_reducible rfl)
 try simp only [zp]
 refine wpAnyH_take (i:=48) (oi:=⟨some 126,_,_,_,_,_⟩) (v:=?_) rfl (by kernel_rfl) (by kernel_rfl) (by kernel_rfl) (fun _ _ _ h => hP _ _ _ _ _ h) (Or.inl ⟨by rfl,?_⟩) (by assumption) ?_
 rotate_left 1
 ·(intro w h; (try dsimp only at h); go_simp; try with_reducible rfl)
 try simp only [zp]
 refine wpAnyH_take (i:=49) (oi:=⟨some 127,_,_,_,_,_⟩) (v:=?_) rfl (by kernel_rfl) (by kernel_rfl) (by kernel_rfl) (fun _ _ _ h => hP _ _ _ _ _ h) (Or.inl ⟨by rfl,?_⟩) (by assumption) ?_
 rotate_left 1
 ·(intro w h; (try dsimp only at h); go_simp; try with_reducible rfl)
 try simp only [zp]
 refine wpAnyH_take (i:=50) (oi:=⟨some 128,_,_,_,_,_⟩) (v:=?_) rfl (by kernel_rfl) (by kernel_rfl) (by kernel_rfl) (fun _ _ _ h => hP _ _ _ _ _ h) (Or.inl ⟨by rfl,?_⟩) (by assumption) ?_
 rotate_left 1
 ·(intro w h; (try dsimp only at h); go_simp; try with_reducible rfl)
 try simp only [zp]
 refine wpAnyH_take (i:=51) (oi:=⟨some 129,_,_,_,_,_⟩) (v:=?_) rfl (by kernel_rfl) (by kernel_rfl) (by kernel_rfl) (fun _ _ _ h => hP _ _ _ _ _ h) (Or.inl ⟨by rfl,?_⟩) (by assumption) ?_
 rotate_left 1
 ·(intro w h; (try dsimp only at h); go_simp; try with_reducible rfl)
 try simp only [zp]
 refine wpAnyH_take (i:=52) (oi:=⟨some 130,_,_,_,_,_⟩) (v:=?_) rfl (by kernel_rfl) (by kernel_rfl) (by kernel_rfl) (fun _ _ _ h => hP _ _ _ _ _ h) (Or.inl ⟨by rfl,?_⟩) (by assumption) ?_
 rotate_left 1
 ·(intro w h; (try dsimp only at h); go_simp; try with_reducible rfl)
 try simp only [zp]
 refine wpAnyH_take (i:=53) (oi:=⟨some 131,_,_,_,_,_⟩) (v:=?_) rfl (by kernel_rfl) (by kernel_rfl) (by kernel_rfl) (fun _ _ _ h => hP _ _ _ _ _ h) (Or.inl ⟨by rfl,?_⟩) (by assumption) ?_
 rotate_left 1
 ·(intro w h; (try dsimp only at h); go_simp; try with_reducible rfl)
 try simp only [zp]
 refine wpAnyH_take (i:=54) (oi:=⟨some 132,_,_,_,_,_⟩) (v:=?_) rfl (by kernel_rfl) (by kernel_rfl) (by kernel_rfl) (fun _ _ _ h => hP _ _ _ _ _ h) (Or.inl ⟨by rfl,?_⟩) (by assumption) ?_
 rotate_left 1
 ·(intro w h; (try dsimp only at h); go_simp; try with_reducible rfl)
 try simp only [zp]
 refine wpAnyH_take (i:=55) (oi:=⟨some 133,_,_,_,_,_⟩) (v:=?_) rfl (by kernel_rfl) (by kernel_rfl) (by kernel_rfl) (fun _ _ _ h => hP _ _ _ _ _ h) (Or.inl ⟨by rfl,?_⟩) (by assumption) ?_
 rotate_left 1
 ·(intro w h; (try dsimp only at h); go_simp; try with_reducible rfl)
 try simp only [zp]
 refine wpAnyH_take (i:=56) (oi:=⟨some 134,_,_,_,_,_⟩) (v:=?_) rfl (by kernel_rfl) (by kernel_rfl) (by kernel_rfl) (fun _ _ _ h => hP _ _ _ _ _ h) (Or.inl ⟨by rfl,?_⟩) (by assumption) ?_
 rotate_left 1
 ·(intro w h; (try dsimp only at h); go_simp; try with_reducible rfl)
 try simp only [zp]
 refine wpAnyH_take (i:=57) (oi:=⟨some 135,_,_,_,_,_⟩) (v:=?_) rfl (by kernel_rfl) (by kernel_rfl) (by kernel_rfl) (fun _ _ _ h => hP _ _ _ _ _ h) (Or.inl ⟨by rfl,?_⟩) (by assumption) ?_
 rotate_left 1
 ·(intro w h; (try dsimp only at h); go_simp; try with_reducible rfl)
 try simp only [zp]
 refine wpAnyH_take (i:=58) (oi:=⟨some 136,_,_,_,_,_⟩) (v:=?_) rfl (by kernel_rfl) (by kernel_rfl) (by kernel_rfl) (fun _ _ _ h => hP _ _ _ _ _ h) (Or.inl ⟨by rfl,?_⟩) (by assumption) ?_
 rotate_left 1
 ·(intro w h; (try dsimp only at h); go_simp; try with_reducible rfl)
 try simp only [zp]
 refine wpAnyH_take (i:=59) (oi:=⟨some 137,_,_,_,_,_⟩) (v:=?_) rfl (by kernel_rfl) (by kernel_rfl) (by kernel_rfl) (fun _ _ _ h => hP _ _ _ _ _ h) (Or.inl ⟨by rfl,?_⟩) (by assumption) ?_
 rotate_left 1
 ·(intro w h; (try dsimp only at h); go_simp; try with_reducible rfl)
 try simp only [zp]
 refine wpAnyH_take (i:=60) (oi:=⟨some 138,_,_,_,_,_⟩) (v:=?_) rfl (by kernel_rfl) (by kernel_rfl) (by kernel_rfl) (fun _ _ _ h => hP _ _ _ _ _ h) (Or.inl ⟨by rfl,?_⟩) (by assumption) ?_
 rotate_left 1
 ·(intro w h; (try dsimp only at h); go_simp; try with_reducible rfl)
 try simp only [zp]
 have d0:Below W0.heap.size W0 W1.drew:=HB1.out.drew
 have hW1:=HB1.out.size
 refine wpAnyH_ready (rs:=[30,61]) (by kernel_rfl) (by simp) ?_
 refine AllReadyH.cons rfl (fun K hK => ?_) (AllReadyH.cons rfl (fun K hK => ?_) AllReadyH.nil)
 ·go_simp
  have a1:=d0.alloc (by simpa using hW1) (.cells #[.int .i64 (s11:Int),.int .i64 (s12:Int)] 3)
  refine hK.out _ _ (HSX.out _ a1) (fun hHeld1 => ?_)
  clear hK K hHeld
  try simp only [zp]
  refine wpAnyH_ready (rs:=[61]) (by kernel_rfl) (by simp) ?_
  refine AllReadyH.cons rfl (fun K hK => ?_) AllReadyH.nil
  go_simp
  have a2:=a1.alloc (by simp only [World.size_alloc]; have:=hW1; simp; omega) (.cells #[.int .i64 (s21:Int),.int .i64 (s22:Int)] 3)
  refine hK.out _ _ (HSX.out _ a2) (fun hHeld2 => ?_)
  clear hK K hHeld1
  try simp only [zp]
  refine wpAnyH_ready (rs:=[62]) (by kernel_rfl) (by simp) ?_
  refine AllReadyH.cons rfl (fun K hK => ?_) AllReadyH.nil
  go_simp
  have a3:=a2.alloc (by simp only [World.size_alloc]; have:=hW1; simp; omega) (.cells #[.slice (some ⟨W1.heap.size,0,none⟩) 2 2,.slice (some ⟨W1.heap.size + 1,0,none⟩) 2 2] 53)
  refine hK.out _ _ (HSX.out _ a3) (fun hHeld3 => ?_)
  clear hK K hHeld2
  try simp only [zp]
  refine wpAnyH_take (i:=63) (oi:=⟨some 16,_,_,_,_,_⟩) (v:=?_) rfl (by kernel_rfl) (by kernel_rfl) (by kernel_rfl) (fun _ _ _ h => hP _ _ _ _ _ h) (Or.inl ⟨by rfl,?_⟩) (by assumption) ?_
  rotate_left 1
  ·(intro w h; (try dsimp only at h); go_simp; try with_reducible rfl)
  try simp only [zp]
  refine wpAnyH_done (by kernel_rfl) ?_ _
  have v1:=VO.lit (E:=3) (w:=W1.drew) (n:=2) (iL (pE (s11,s12))) rfl (by omega) (zc0 _)
  have v2:=VO.lit (E:=3) (w:=W1.drew.alloc (.cells #[.int .i64 (s11:Int),.int .i64 (s12:Int)] 3)) (n:=2) (iL (pE (s21,s22))) rfl (by omega) (zc0 _)
  have v3:=VO.lit (E:=53) (w:=(W1.drew.alloc (.cells #[.int .i64 (s11:Int),.int .i64 (s12:Int)] 3)).alloc (.cells #[.int .i64 (s21:Int),.int .i64 (s22:Int)] 3)) (n:=2) [.slice (some ⟨W1.heap.size,0,none⟩) 2 2,.slice (some ⟨W1.heap.size + 1,0,none⟩) 2 2] rfl (by omega) (by intro u hu; simp at hu; rcases hu with rfl | rfl <;> rfl)
  simp only [World.size_alloc,World.size_drew] at v1 v2 v3
  clear hHeld3
  refine HQ.out _ _ _ _ _ _ _ _ _ _ _ _ _ _ _ _ _ _ _ _ _ _ _ _ _ _ _ _ _ _ _ _ _ _ _ _ _ _ _ _ _ _ _ _ _ _ _ _ _ _ _ _ _ _ _ _ _ _ _ _ _ _ _ _ _ _ _ _ (by omega) a3 ⟨v3.mono (by omega),?_,?_⟩
  ·exact VO.allocd (VO.allocd (VO.mono v1 (by omega)) _) _
  ·exact VO.allocd (VO.mono v2 (by omega)) _
 ·go_simp
  have a1:=d0.alloc (by simpa using hW1) (.cells #[.int .i64 (s21:Int),.int .i64 (s22:Int)] 3)
  refine hK.out _ _ (HSX.out _ a1) (fun hHeld1 => ?_)
  clear hK K hHeld
  try simp only [zp]
  refine wpAnyH_ready (rs:=[30]) (by kernel_rfl) (by simp) ?_
  refine AllReadyH.cons rfl (fun K hK => ?_) AllReadyH.nil
  go_simp
  have a2:=a1.alloc (by simp only [World.size_alloc]; have:=hW1; simp; omega) (.cells #[.int .i64 (s11:Int),.int .i64 (s12:Int)] 3)
  refine hK.out _ _ (HSX.out _ a2) (fun hHeld2 => ?_)
  clear hK K hHeld1
  try simp only [zp]
  refine wpAnyH_ready (rs:=[62]) (by kernel_rfl) (by simp) ?_
  refine AllReadyH.cons rfl (fun K hK => ?_) AllReadyH.nil
  go_simp
  have a3:=a2.alloc (by simp only [World.size_alloc]; have:=hW1; simp; omega) (.cells #[.slice (some ⟨W1.heap.size + 1,0,none⟩) 2 2,.slice (some ⟨W1.heap.size,0,none⟩) 2 2] 53)
  refine hK.out _ _ (HSX.out _ a3) (fun hHeld3 => ?_)
  clear hK K hHeld2
  try simp only [zp]
  refine wpAnyH_take (i:=63) (oi:=⟨some 16,_,_,_,_,_⟩) (v:=?_) rfl (by kernel_rfl) (by kernel_rfl) (by kernel_rfl) (fun _ _ _ h => hP _ _ _ _ _ h) (Or.inl ⟨by rfl,?_⟩) (by assumption) ?_
  rotate_left 1
  ·(intro w h; (try dsimp only at h); go_simp; try with_reducible rfl)
  try simp only [zp]
  refine wpAnyH_done (by kernel_rfl) ?_ _
  have v1:=VO.lit (E:=3) (w:=W1.drew) (n:=2) (iL (pE (s21,s22))) rfl (by omega) (zc0 _)
  have v2:=VO.lit (E:=3) (w:=W1.drew.alloc (.cells #[.int .i64 (s21:Int),.int .i64 (s22:Int)] 3)) (n:=2) (iL (pE (s11,s12))) rfl (by omega) (zc0 _)
  have v3:=VO.lit (E:=53) (w:=(W1.drew.alloc (.cells #[.int .i64 (s21:Int),.int .i64 (s22:Int)] 3)).alloc (.cells #[.int .i64 (s11:Int),.int .i64 (s12:Int)] 3)) (n:=2) [.slice (some ⟨W1.heap.size + 1,0,none⟩) 2 2,.slice (some ⟨W1.heap.size,0,none⟩) 2 2] rfl (by omega) (by intro u hu; simp at hu; rcases hu with rfl | rfl <;> rfl)
  simp only [World.size_alloc,World.size_drew] at v1 v2 v3
  clear hHeld3
  refine HQ.out _ _ _ _ _ _ _ _ _ _ _ _ _ _ _ _ _ _ _ _ _ _ _ _ _ _ _ _ _ _ _ _ _ _ _ _ _ _ _ _ _ _ _ _ _ _ _ _ _ _ _ _ _ _ _ _ _ _ _ _ _ _ _ _ _ _ _ _ (by omega) a3 ⟨v3.mono (by omega),?_,?_⟩
  ·exact VO.allocd (VO.mono v2 (by omega)) _
  ·exact VO.allocd (VO.allocd (VO.mono v1 (by omega)) _) _
set_option maxRecDepth 100000 in
set_option maxHeartbeats 16000000 in
theorem zqj (c:Code) (hc:regF Tryz.f79 42 = some c) (wx W:World) (hbx:Below wx.heap.size wx W) (L NA NC b1a b1b b2a b2b b3 b4 c10 c11 c1a c1b c2a c2b c3 c4 ci cj g10 gA gB gi gj k o1a o1b o2a o2b o3 o4 p1 p2 q1 q2 s11 s12 x fv:Nat) (A11:Option Addr) (lX:List Int) (hl:lX.length = x) (hx1:x <= 1000)
  (HSX:Hid (∀ X,Below wx.heap.size wx X -> X.cell? ⟨gA,2,none⟩ = some (.slice (some ⟨b3,o3,none⟩) NA c3) /\ X.cell? ⟨gB,2,none⟩ = some (.slice (some ⟨b4,o4,none⟩) NC c4) /\ X.cell? ⟨gi,0,none⟩ = some (.int .i64 (p1:Int)) /\ X.cell? ⟨gi,1,none⟩ = some (.int .i64 (p2:Int)) /\ X.cell? ⟨gj,0,none⟩ = some (.int .i64 (q1:Int)) /\ X.cell? ⟨gj,1,none⟩ = some (.int .i64 (q2:Int)) /\ X.cell? ⟨b3,o3 + p1,none⟩ = some (.slice (some ⟨b2a,o2a,none⟩) NA c2a) /\ X.cell? ⟨b2a,o2a + q1,none⟩ = some (.slice (some ⟨b1a,o1a,none⟩) L c1a) /\ X.cell? ⟨b1a,o1a + x,none⟩ = some (.int .i64 (s11:Int)) /\ X.cell? ⟨b4,o4 + p2,none⟩ = some (.slice (some ⟨b2b,o2b,none⟩) NC c2b) /\ X.cell? ⟨b2b,o2b + q2,none⟩ = some (.slice (some ⟨b1b,o1b,none⟩) L c1b) /\ X.cell? ⟨b1b,o1b + x,none⟩ = some (.int .i64 (s12:Int))))
  (ho:O1 W wx.heap.size (.slice A11 x c11) lX)
  (HIDX:Hid (∀ X v,Below wx.heap.size wx X -> N1 X v (pE (s11,s12)) -> Calls Tryz.prog 62 #[.slice (some ⟨g10,0,none⟩) k c10,v] X fun e X' => e = .returned (.int .i64 (fv:Int)) /\ Below X.heap.size X X'))
  (hp1i:(p1:Int) < (NA:Int)) (hq1i:(q1:Int) < (NA:Int)) (hp2i:(p2:Int) < (NC:Int)) (hq2i:(q2:Int) < (NC:Int)) (hxti:(x:Int) < (L:Int)) (Q:Exit -> Act -> World -> Prop) (hP:∀ c a (d:Nat) v w,Q (.panic c) (a.put (some d) v) w -> Q (.panic c) a w)
  (u0 u1 u2 u5 u6 u7 u8 u9 u11 u12 u13 u14 u15 u16 u17 u18 u19 u21 u22 u26 u27 u28 u29 u30 u31 u32 u33 u34 u35 u36 u37 u38 u39 u40 u41 u42 u43 u44 u45 u46 u47 u48 u49 u50 u51 u52 u53 u54 u55 u56 u57 u58 u59 u60 u61 u62 u63 u64 u65 u66 u67 u68 u69 u70 u71 u72 u73 u74 u75 u76 u77 u78 u79 u80 u81 u82 u83 u84 u85 u86 u87 u88 u89 u90 u91 u92 u93 u94 u95 u96 u97 u98 u99 u100 u101 u102 u103 u104 u105 u106 u107 u108 u109 u110 u111 u112 u113 u114 u115 u116 u117 u118 u119 u120 u121 u122 u123 u124 u125 u126 u127 u128 u129 u130 u131 u132 u133 u134 u135 u136 u137 u138 u139 u140 u141 u142 u143 u144 u145 u146 u147 u148 u149 u150 u151 u152 u153 u154 u155 u156 u157 u158 u159 u160 u161 u162 u163 u164 u165 u166 u167 u168 u169 u170 u171 u172 u173 u174 u175 u176 u177 u178 u179 u180 u181 u182 u183 u184 u185 u186 u187 u188 u189 u190 u191 u192 u229 u230 u231 u232 u233 u234 u235 u236 u237 u238 u239 u240 u241 u242 u243 u244 u245 u246 u247 u248 u249 u250 u251 u252 u253 u254 u255 u256 u257 u258 u259 u260 u261 u262 u263 u264 u265 u266 u267 u268 u269 u270 u271 u272 u273 u274 u275 u276 u277 u278 u279 u280 u281 u282 u283 u284 u285 u286 u287 u288 u289 u290 u193 u194 u195 u196 u197 u198 u199 u200 u201 u202 u203 u204 u205 u206 u207 u208 u209 u210 u211 u212 u213 u214 u215 u216 u217 u218 u219 u220 u221 u222 u223 u224 u225 u226 u227 u228:Value)
  (hQ:∀ (x193 x194 x195 x196 x197 x198 x199 x200 x201 x202 x203 x204 x205 x206 x207 x208 x209 x210 x211 x212 x213 x214 x215 x216 x217 x218 x219 x220 x221 x222 x223 x224 x225 x226 x227 x228:Value) (A4:Option Addr) (c4:Nat) (w4:World),Below wx.heap.size wx w4 -> O1 w4 wx.heap.size (.slice A4 (x + 1) c4) (lX ++ [(fv:Int)]) -> Q .normal { tmps:=#[u0,u1,u2,.pointer (some ⟨gA,0,none⟩),.pointer (some ⟨gB,0,none⟩),u5,u6,u7,u8,u9,.slice (some ⟨g10,0,none⟩) k c10,u11,u12,u13,u14,u15,u16,u17,u18,u19,.slice (some ⟨gi,0,none⟩) 2 ci,u21,u22,.slice (some ⟨gj,0,none⟩) 2 cj,.slice A4 (x + 1) c4,.int .i64 (x:Int),u26,u27,u28,u29,u30,u31,u32,u33,u34,u35,u36,u37,u38,u39,u40,u41,u42,u43,u44,u45,u46,u47,u48,u49,u50,u51,u52,u53,u54,u55,u56,u57,u58,u59,u60,u61,u62,u63,u64,u65,u66,u67,u68,u69,u70,u71,u72,u73,u74,u75,u76,u77,u78,u79,u80,u81,u82,u83,u84,u85,u86,u87,u88,u89,u90,u91,u92,u93,u94,u95,u96,u97,u98,u99,u100,u101,u102,u103,u104,u105,u106,u107,u108,u109,u110,u111,u112,u113,u114,u115,u116,u117,u118,u119,u120,u121,u122,u123,u124,u125,u126,u127,u128,u129,u130,u131,u132,u133,u134,u135,u136,u137,u138,u139,u140,u141,u142,u143,u144,u145,u146,u147,u148,u149,u150,u151,u152,u153,u154,u155,u156,u157,u158,u159,u160,u161,u162,u163,u164,u165,u166,u167,u168,u169,u170,u171,u172,u173,u174,u175,u176,u177,u178,u179,u180,u181,u182,u183,u184,u185,u186,u187,u188,u189,u190,u191,u192,x193,x194,x195,x196,x197,x198,x199,x200,x201,x202,x203,x204,x205,x206,x207,x208,x209,x210,x211,x212,x213,x214,x215,x216,x217,x218,x219,x220,x221,x222,x223,x224,x225,x226,x227,x228,u229,u230,u231,u232,u233,u234,u235,u236,u237,u238,u239,u240,u241,u242,u243,u244,u245,u246,u247,u248,u249,u250,u251,u252,u253,u254,u255,u256,u257,u258,u259,u260,u261,u262,u263,u264,u265,u266,u267,u268,u269,u270,u271,u272,u273,u274,u275,u276,u277,u278,u279,u280,u281,u282,u283,u284,u285,u286,u287,u288,u289,u290],defers:=[] } w4) :
  c.wp Tryz.prog Q { tmps:=#[u0,u1,u2,.pointer (some ⟨gA,0,none⟩),.pointer (some ⟨gB,0,none⟩),u5,u6,u7,u8,u9,.slice (some ⟨g10,0,none⟩) k c10,u11,u12,u13,u14,u15,u16,u17,u18,u19,.slice (some ⟨gi,0,none⟩) 2 ci,u21,u22,.slice (some ⟨gj,0,none⟩) 2 cj,.slice A11 x c11,.int .i64 (x:Int),u26,u27,u28,u29,u30,u31,u32,u33,u34,u35,u36,u37,u38,u39,u40,u41,u42,u43,u44,u45,u46,u47,u48,u49,u50,u51,u52,u53,u54,u55,u56,u57,u58,u59,u60,u61,u62,u63,u64,u65,u66,u67,u68,u69,u70,u71,u72,u73,u74,u75,u76,u77,u78,u79,u80,u81,u82,u83,u84,u85,u86,u87,u88,u89,u90,u91,u92,u93,u94,u95,u96,u97,u98,u99,u100,u101,u102,u103,u104,u105,u106,u107,u108,u109,u110,u111,u112,u113,u114,u115,u116,u117,u118,u119,u120,u121,u122,u123,u124,u125,u126,u127,u128,u129,u130,u131,u132,u133,u134,u135,u136,u137,u138,u139,u140,u141,u142,u143,u144,u145,u146,u147,u148,u149,u150,u151,u152,u153,u154,u155,u156,u157,u158,u159,u160,u161,u162,u163,u164,u165,u166,u167,u168,u169,u170,u171,u172,u173,u174,u175,u176,u177,u178,u179,u180,u181,u182,u183,u184,u185,u186,u187,u188,u189,u190,u191,u192,u193,u194,u195,u196,u197,u198,u199,u200,u201,u202,u203,u204,u205,u206,u207,u208,u209,u210,u211,u212,u213,u214,u215,u216,u217,u218,u219,u220,u221,u222,u223,u224,u225,u226,u227,u228,u229,u230,u231,u232,u233,u234,u235,u236,u237,u238,u239,u240,u241,u242,u243,u244,u245,u246,u247,u248,u249,u250,u251,u252,u253,u254,u255,u256,u257,u258,u259,u260,u261,u262,u263,u264,u265,u266,u267,u268,u269,u270,u271,u272,u273,u274,u275,u276,u277,u278,u279,u280,u281,u282,u283,u284,u285,u286,u287,u288,u289,u290],defers:=[] } W:=by
 have h2:=hc
 conv at h2 => lhs; whnf
 injection h2 with h3
 subst h3
 clear hc
 have HBX:=zh hbx; have HO:=zh ho; have HLX:=zh hl; have HQ:=zh hQ
 clear hbx ho hl hQ
 refine wp_region_held_drew (S:=(fun X => X.cell? ⟨gA,2,none⟩ = some (.slice (some ⟨b3,o3,none⟩) NA c3) /\ X.cell? ⟨gB,2,none⟩ = some (.slice (some ⟨b4,o4,none⟩) NC c4) /\ X.cell? ⟨gi,0,none⟩ = some (.int .i64 (p1:Int)) /\ X.cell? ⟨gi,1,none⟩ = some (.int .i64 (p2:Int)) /\ X.cell? ⟨gj,0,none⟩ = some (.int .i64 (q1:Int)) /\ X.cell? ⟨gj,1,none⟩ = some (.int .i64 (q2:Int)) /\ X.cell? ⟨b3,o3 + p1,none⟩ = some (.slice (some ⟨b2a,o2a,none⟩) NA c2a) /\ X.cell? ⟨b2a,o2a + q1,none⟩ = some (.slice (some ⟨b1a,o1a,none⟩) L c1a) /\ X.cell? ⟨b1a,o1a + x,none⟩ = some (.int .i64 (s11:Int)) /\ X.cell? ⟨b4,o4 + p2,none⟩ = some (.slice (some ⟨b2b,o2b,none⟩) NC c2b) /\ X.cell? ⟨b2b,o2b + q2,none⟩ = some (.slice (some ⟨b1b,o1b,none⟩) L c1b) /\ X.cell? ⟨b1b,o1b + x,none⟩ = some (.int .i64 (s12:Int)))) (by kernel_rfl) (HSX.out _ HBX.out.drew) (fun hHeld => ?_)
 refine wpAnyH_take (i:=0) (oi:=⟨some 193,_,_,_,_,_⟩) (v:=?_) rfl (by kernel_rfl) (by kernel_rfl) (by kernel_rfl) (fun _ _ _ h => hP _ _ _ _ _ h) (Or.inl ⟨by rfl,?_⟩) (by assumption) ?_
 rotate_left 1
 ·(intro w h; (try dsimp only at h); go_simp; try with_reducible rfl)
 try simp only [zp]
 refine wpAnyH_take (i:=1) (oi:=⟨some 194,_,_,_,_,_⟩) (v:=?_) rfl (by kernel_rfl) (by kernel_rfl) (by kernel_rfl) (fun _ _ _ h => hP _ _ _ _ _ h) (Or.inl ⟨by rfl,?_⟩) (by assumption) ?_
 rotate_left 1
 ·(intro w h; (try dsimp only at h); go_simp; try with_reducible rfl)
 try simp only [zp]
 refine wpAnyH_take (i:=2) (oi:=⟨some 195,_,_,_,_,_⟩) (v:=?_) rfl (by kernel_rfl) (by kernel_rfl) (by kernel_rfl) (fun _ _ _ h => hP _ _ _ _ _ h) (Or.inl ⟨by rfl,?_⟩) (by assumption) ?_
 rotate_left 1
 ·(intro w h; (try dsimp only at h); go_simp; try with_reducible rfl)
 try simp only [zp]
 refine wpAnyH_take (i:=3) (oi:=⟨some 196,_,_,_,_,_⟩) (v:=?_) rfl (by kernel_rfl) (by kernel_rfl) (by kernel_rfl) (fun _ _ _ h => hP _ _ _ _ _ h) (Or.inl ⟨by rfl,?_⟩) (by assumption) ?_
 rotate_left 1
 ·(intro w h; (try dsimp only at h); go_simp; try with_reducible rfl)
 try simp only [zp]
 refine wpAnyH_take (i:=4) (oi:=⟨some 197,_,_,_,_,_⟩) (v:=?_) rfl (by kernel_rfl) (by kernel_rfl) (by kernel_rfl) (fun _ _ _ h => hP _ _ _ _ _ h) (Or.inl ⟨by rfl,?_⟩) (by assumption) ?_
 rotate_left 1
 ·(intro w h; (try dsimp only at h); go_simp; try with_reducible rfl)
 try simp only [zp]
 refine wpAnyH_take (i:=5) (oi:=⟨some 198,_,_,_,_,_⟩) (v:=?_) rfl (by kernel_rfl) (by kernel_rfl) (by kernel_rfl) (fun _ _ _ h => hP _ _ _ _ _ h) (Or.inl ⟨by rfl,?_⟩) (by assumption) ?_
 rotate_left 1
 ·(intro w h; (try dsimp only at h); go_simp; try with_reducible rfl)
 try simp only [zp]
 refine wpAnyH_take (i:=6) (oi:=⟨some 199,_,_,_,_,_⟩) (v:=?_) rfl (by kernel_rfl) (by kernel_rfl) (by kernel_rfl) (fun _ _ _ h => hP _ _ _ _ _ h) (Or.inl ⟨by rfl,?_⟩) (by assumption) ?_
 rotate_left 1
 ·(intro w h; (try dsimp only at h); go_simp; try with_reducible rfl)
 try simp only [zp]
 refine wpAnyH_take (i:=7) (oi:=⟨some 200,_,_,_,_,_⟩) (v:=?_) rfl (by kernel_rfl) (by kernel_rfl) (by kernel_rfl) (fun _ _ _ h => hP _ _ _ _ _ h) (Or.inl ⟨by rfl,?_⟩) (by assumption) ?_
 rotate_left 1
 ·(intro w h; (try dsimp only at h); go_simp; try with_reducible rfl)
 try simp only [zp]
 refine wpAnyH_take (i:=8) (oi:=⟨some 201,_,_,_,_,_⟩) (v:=?_) rfl (by kernel_rfl) (by kernel_rfl) (by kernel_rfl) (fun _ _ _ h => hP _ _ _ _ _ h) (Or.inl ⟨by rfl,?_⟩) (by assumption) ?_
 rotate_left 1
 ·(intro w h; (try dsimp only at h); go_simp; try with_reducible rfl)
 try simp only [zp]
 refine wpAnyH_take (i:=9) (oi:=⟨some 202,_,_,_,_,_⟩) (v:=?_) rfl (by kernel_rfl) (by kernel_rfl) (by kernel_rfl) (fun _ _ _ h => hP _ _ _ _ _ h) (Or.inl ⟨by rfl,?_⟩) (by assumption) ?_
 rotate_left 1
 ·(intro w h; (try dsimp only at h); go_simp; try with_reducible rfl)
 try simp only [zp]
 refine wpAnyH_take (i:=10) (oi:=⟨some 203,_,_,_,_,_⟩) (v:=?_) rfl (by kernel_rfl) (by kernel_rfl) (by kernel_rfl) (fun _ _ _ h => hP _ _ _ _ _ h) (Or.inl ⟨by rfl,?_⟩) (by assumption) ?_
 rotate_left 1
 ·(intro w h; (try dsimp only at h); go_simp; try with_reducible rfl)
 try simp only [zp]
 refine wpAnyH_take (i:=11) (oi:=⟨some 204,_,_,_,_,_⟩) (v:=?_) rfl (by kernel_rfl) (by kernel_rfl) (by kernel_rfl) (fun _ _ _ h => hP _ _ _ _ _ h) (Or.inl ⟨by rfl,?_⟩) (by assumption) ?_
 rotate_left 1
 ·(intro w h; (try dsimp only at h); go_simp; try with_reducible rfl)
 try simp only [zp]
 refine wpAnyH_take (i:=12) (oi:=⟨some 205,_,_,_,_,_⟩) (v:=?_) rfl (by kernel_rfl) (by kernel_rfl) (by kernel_rfl) (fun _ _ _ h => hP _ _ _ _ _ h) (Or.inl ⟨by rfl,?_⟩) (by assumption) ?_
 rotate_left 1
 ·(intro w h; (try dsimp only at h); go_simp; try with_reducible rfl)
 try simp only [zp]
 refine wpAnyH_take (i:=13) (oi:=⟨some 206,_,_,_,_,_⟩) (v:=?_) rfl (by kernel_rfl) (by kernel_rfl) (by kernel_rfl) (fun _ _ _ h => hP _ _ _ _ _ h) (Or.inl ⟨by rfl,?_⟩) (by assumption) ?_
 rotate_left 1
 ·(intro w h; (try dsimp only at h); go_simp; try with_reducible rfl)
 try simp only [zp]
 refine wpAnyH_take (i:=14) (oi:=⟨some 207,_,_,_,_,_⟩) (v:=?_) rfl (by kernel_rfl) (by kernel_rfl) (by kernel_rfl) (fun _ _ _ h => hP _ _ _ _ _ h) (Or.inl ⟨by rfl,?_⟩) (by assumption) ?_
 rotate_left 1
 ·(intro w h; (try dsimp only at h); go_simp; try with_reducible rfl)
 try simp only [zp]
 refine wpAnyH_take (i:=15) (oi:=⟨some 208,_,_,_,_,_⟩) (v:=?_) rfl (by kernel_rfl) (by kernel_rfl) (by kernel_rfl) (fun _ _ _ h => hP _ _ _ _ _ h) (Or.inl ⟨by rfl,?_⟩) (by assumption) ?_
 rotate_left 1
 ·(intro w h; (try dsimp only at h); go_simp; try with_reducible rfl)
 try simp only [zp]
 refine wpAnyH_take (i:=16) (oi:=⟨some 209,_,_,_,_,_⟩) (v:=?_) rfl (by kernel_rfl) (by kernel_rfl) (by kernel_rfl) (fun _ _ _ h => hP _ _ _ _ _ h) (Or.inl ⟨by rfl,?_⟩) (by assumption) ?_
 rotate_left 1
 ·(intro w h; (try dsimp only at h); go_simp; try with_reducible rfl)
 try simp only [zp]
 refine wpAnyH_take (i:=17) (oi:=⟨some 210,_,_,_,_,_⟩) (v:=?_) rfl (by kernel_rfl) (by kernel_rfl) (by kernel_rfl) (fun _ _ _ h => hP _ _ _ _ _ h) (Or.inl ⟨by rfl,?_⟩) (by assumption) ?_
 rotate_left 1
 ·(intro w h; (try dsimp only at h); go_simp; try with_reducible rfl)
 try simp only [zp]
 refine wpAnyH_take (i:=18) (oi:=⟨some 211,_,_,_,_,_⟩) (v:=?_) rfl (by kernel_rfl) (by kernel_rfl) (by kernel_rfl) (fun _ _ _ h => hP _ _ _ _ _ h) (Or.inl ⟨by rfl,?_⟩) (by assumption) ?_
 rotate_left 1
 ·(intro w h; (try dsimp only at h); go_simp; try with_reducible rfl)
 try simp only [zp]
 refine wpAnyH_take (i:=19) (oi:=⟨some 212,_,_,_,_,_⟩) (v:=?_) rfl (by kernel_rfl) (by kernel_rfl) (by kernel_rfl) (fun _ _ _ h => hP _ _ _ _ _ h) (Or.inl ⟨by rfl,?_⟩) (by assumption) ?_
 rotate_left 1
 ·(intro w h; (try dsimp only at h); go_simp; try with_reducible rfl)
 try simp only [zp]
 refine wpAnyH_take (i:=20) (oi:=⟨some 213,_,_,_,_,_⟩) (v:=?_) rfl (by kernel_rfl) (by kernel_rfl) (by kernel_rfl) (fun _ _ _ h => hP _ _ _ _ _ h) (Or.inl ⟨by rfl,?_⟩) (by assumption) ?_
 rotate_left 1
 ·(intro w h; (try dsimp only at h); go_simp; try with_reducible rfl)
 try simp only [zp]
 refine wpAnyH_take (i:=21) (oi:=⟨some 214,_,_,_,_,_⟩) (v:=?_) rfl (by kernel_rfl) (by kernel_rfl) (by kernel_rfl) (fun _ _ _ h => hP _ _ _ _ _ h) (Or.inl ⟨by rfl,?_⟩) (by assumption) ?_
 rotate_left 1
 ·(intro w h; (try dsimp only at h); go_simp; try with_reducible rfl)
 try simp only [zp]
 refine wpAnyH_take (i:=22) (oi:=⟨some 215,_,_,_,_,_⟩) (v:=?_) rfl (by kernel_rfl) (by kernel_rfl) (by kernel_rfl) (fun _ _ _ h => hP _ _ _ _ _ h) (Or.inl ⟨by rfl,?_⟩) (by assumption) ?_
 rotate_left 1
 ·(intro w h; (try dsimp only at h); go_simp; try with_reducible rfl)
 try simp only [zp]
 refine wpAnyH_take (i:=23) (oi:=⟨some 216,_,_,_,_,_⟩) (v:=?_) rfl (by kernel_rfl) (by kernel_rfl) (by kernel_rfl) (fun _ _ _ h => hP _ _ _ _ _ h) (Or.inl ⟨by rfl,?_⟩) (by assumption) ?_
 rotate_left 1
 ·(intro w h; (try dsimp only at h); go_simp; try with_reducible rfl)
 try simp only [zp]
 refine wpAnyH_take (i:=24) (oi:=⟨some 217,_,_,_,_,_⟩) (v:=?_) rfl (by kernel_rfl) (by kernel_rfl) (by kernel_rfl) (fun _ _ _ h => hP _ _ _ _ _ h) (Or.inl ⟨by rfl,?_⟩) (by assumption) ?_
 rotate_left 1
 ·(intro w h; (try dsimp only at h); go_simp; try with_reducible rfl)
 try simp only [zp]
 refine wpAnyH_take (i:=25) (oi:=⟨some 218,_,_,_,_,_⟩) (v:=?_) rfl (by kernel_rfl) (by kernel_rfl) (by kernel_rfl) (fun _ _ _ h => hP _ _ _ _ _ h) (Or.inl ⟨by rfl,?_⟩) (by assumption) ?_
 rotate_left 1
 ·(intro w h; (try dsimp only at h); go_simp; try with_reducible rfl)
 try simp only [zp]
 refine wpAnyH_take (i:=26) (oi:=⟨some 219,_,_,_,_,_⟩) (v:=?_) rfl (by kernel_rfl) (by kernel_rfl) (by kernel_rfl) (fun _ _ _ h => hP _ _ _ _ _ h) (Or.inl ⟨by rfl,?_⟩) (by assumption) ?_
 rotate_left 1
 ·(intro w h; (try dsimp only at h); go_simp; try with_reducible rfl)
 try simp only [zp]
 refine wpAnyH_take (i:=27) (oi:=⟨some 220,_,_,_,_,_⟩) (v:=?_) rfl (by kernel_rfl) (by kernel_rfl) (by kernel_rfl) (fun _ _ _ h => hP _ _ _ _ _ h) (Or.inl ⟨by rfl,?_⟩) (by assumption) ?_
 rotate_left 1
 ·(intro w h; (try dsimp only at h); go_simp; try with_reducible rfl)
 try simp only [zp]
 refine wpAnyH_take (i:=28) (oi:=⟨some 221,_,_,_,_,_⟩) (v:=?_) rfl (by kernel_rfl) (by kernel_rfl) (by kernel_rfl) (fun _ _ _ h => hP _ _ _ _ _ h) (Or.inl ⟨by rfl,?_⟩) (by assumption) ?_
 rotate_left 1
 ·(intro w h; (try dsimp only at h); go_simp; try with_reducible rfl)
 try simp only [zp]
 refine wpAnyH_take (i:=29) (oi:=⟨some 222,_,_,_,_,_⟩) (v:=?_) rfl (by kernel_rfl) (by kernel_rfl) (by kernel_rfl) (fun _ _ _ h => hP _ _ _ _ _ h) (Or.inl ⟨by rfl,?_⟩) (by assumption) ?_
 rotate_left 1
 ·(intro w h; (try dsimp only at h); go_simp; try with_reducible rfl)
 try simp only [zp]
 refine wpAnyH_take (i:=30) (oi:=⟨some 223,_,_,_,_,_⟩) (v:=?_) rfl (by kernel_rfl) (by kernel_rfl) (by kernel_rfl) (fun _ _ _ h => hP _ _ _ _ _ h) (Or.inl ⟨by rfl,?_⟩) (by assumption) ?_
 rotate_left 1
 ·(intro w h; (try dsimp only at h); go_simp; try with_reducible rfl)
 try simp only [zp]
 refine wpAnyH_take (i:=31) (oi:=⟨some 224,_,_,_,_,_⟩) (v:=?_) rfl (by kernel_rfl) (by kernel_rfl) (by kernel_rfl) (fun _ _ _ h => hP _ _ _ _ _ h) (Or.inl ⟨by rfl,?_⟩) (by assumption) ?_
 rotate_left 1
 ·(intro w h; (try dsimp only at h); go_simp; try with_reducible rfl)
 try simp only [zp]
 have hWx:=HBX.out.size
 refine wpAnyH_ready (rs:=[32]) (by kernel_rfl) (by simp) ?_
 refine AllReadyH.cons rfl (fun K hK => ?_) AllReadyH.nil
 go_simp
 have a1:=HBX.out.drew.alloc (by simpa using hWx) (.cells #[.int .i64 (s11:Int),.int .i64 (s12:Int)] 3)
 refine hK.out _ _ (HSX.out _ a1) (fun hHeld1 => ?_)
 clear hK K hHeld
 try simp only [zp]
 have v1:=VO.lit (E:=3) (w:=W.drew) (n:=2) (iL (pE (s11,s12))) rfl (by omega) (zc0 _)
 simp only [World.size_drew] at v1
 have HCALL:=zh (HIDX.out _ _ a1 (O1.n1 v1))
 clear v1
 refine wpAnyH_ready (rs:=[33]) (by kernel_rfl) (by simp) ?_
 refine AllReadyH.cons rfl (fun K hK => ?_) AllReadyH.nil
 go_simp
 (go_at_call 62; refine HCALL.out.mono ?_; rintro ee w5 ⟨rfl,hb5⟩)
 have a5:=a1.trans (hb5.mono (by have:=hWx; simp only [World.size_alloc,World.size_drew]; omega))
 refine hK.out _ _ (HSX.out _ a5) (fun hHeld2 => ?_)
 clear hK K hHeld1 HCALL
 try simp only [zp]
 refine wpAnyH_ready (rs:=[34]) (by kernel_rfl) (by simp) ?_
 refine AllReadyH.cons rfl (fun K hK => ?_) AllReadyH.nil
 go_simp
 have a6:=a5.alloc a5.size (.cells #[.int .i64 (fv:Int)] 3)
 refine hK.out _ _ (HSX.out _ a6) (fun hHeld3 => ?_)
 clear hK K hHeld2
 try simp only [zp]
 have a15:Below W.heap.size W w5:=(Below.alloc (Below.refl W.heap.size W).drew zn _).trans (hb5.mono (by simp only [World.size_alloc,World.size_drew]; omega))
 have vo5:=VO.allocd (VO.below HO.out a15 zn) (.cells #[.int .i64 (fv:Int)] 3)
 refine wpAnyH_ready (rs:=[35]) (by kernel_rfl) (by simp) ?_
 refine AllReadyH.cons rfl (fun K hK => ?_) AllReadyH.nil
 refine zak eI rfl (.tmp 193) (.tmp 227) rfl wx.heap.size _ _ rfl vo5 _ [.int .i64 (fv:Int)] rfl (VS.one (by first | exact Row.new _ _ _ | exact Row.lit rfl | exact Row.litd rfl)) (by intro u hu; simp at hu; subst hu; rfl) (by rw [zag,HLX.out]; simp; omega) (by have:=a5.size; simp only [World.size_alloc]; omega) ?_; intro v4 w4 ho4 hg4 _; obtain ⟨A4,c4x,rfl⟩:=VO.formN (n:=x + 1) ho4 (by rw [List.length_append,zag,HLX.out]; rfl)
 have HO4:Hid (O1 w4 wx.heap.size (.slice A4 (x + 1) c4x) (lX ++ [(fv:Int)])):=by have:=ho4; rw [<- zce] at this; exact this
 have hB4:Below wx.heap.size wx w4:=zae (w:=wx) a6 vo5 hg4 (by have:=a5.size; simp only [World.size_alloc]; omega)
 have HB4:=zh hB4
 clear ho4 hg4
 refine hK.out _ _ (HSX.out _ hB4) (fun hHeld4 => ?_)
 clear hK K hHeld3 hB4 vo5 a15 a6 a5 a1 hb5
 try simp only [zp]
 refine wpAnyH_take (i:=36) (oi:=⟨some 24,_,_,_,_,_⟩) (v:=?_) rfl (by kernel_rfl) (by kernel_rfl) (by kernel_rfl) (fun _ _ _ h => hP _ _ _ _ _ h) (Or.inl ⟨by rfl,?_⟩) (by assumption) ?_
 rotate_left 1
 ·(intro w h; (try dsimp only at h); go_simp; try with_reducible rfl)
 try simp only [zp]
 refine wpAnyH_done (by kernel_rfl) ?_ _
 clear hHeld4
 exact HQ.out _ _ _ _ _ _ _ _ _ _ _ _ _ _ _ _ _ _ _ _ _ _ _ _ _ _ _ _ _ _ _ _ _ _ _ _ A4 c4x w4 HB4.out HO4.out
end Go.Proofs.YthkfjnmnoanhlaaGreatDoor
